/- Plain laws of the functions u2 this seat's, laid anew from another seat's text. No conditions but those that the theorems name. -/
import Derived.Test.YtbifmbdcejggkaaP16xD
import Derived.Test.YtbifmbdcejggkaaC16z
import Derived.Test.YtbifmbdcejggkaaB16b
namespace Go.Ab
open Go
set_option linter.unusedVariables false
def kT (k:Int):Bool:=(k==1)||((k==3)||(k==4))
def zK4 (k:Int):Bool:=decide (k≥4)
def zLF (k:Int):Bool:=(k==9)||(k==11)
def jT (k:Int):Bool:=(k==5)||(k==11)
def jK (n lo hi:Int):Int:=if n<lo∨n>hi then 2 else 0
def zJN (e:zH):Int :=
  if e.Kind=1∨e.Kind=2∨e.Kind=3 then 0 else if e.Kind=4 then jK e.N (-1000000000000000) 1000000000000000 else if e.Kind=5 then jK e.N 1 1000000000000 else
  if e.Kind=8 then jK e.N 0 63 else
  if e.Kind=9 then (if jK e.N 0 3=0∧e.N=2 then jK e.M 0 1000000000000000 else if jK e.N 0 3=0∧e.M≠0 then 1 else jK e.N 0 3) else
  if jK e.N 0 1000000000000000=0∧e.Kind=11 then jK e.M 1 1000000000000 else jK e.N 0 1000000000000000
/-- Fields that the kind does not use are empty. -/
def zA3 (e:zH):Bool :=
  (!kT e.Kind&&!(e.Name==[]))||((!zK4 e.Kind&&(e.N != 0))||((!zLF e.Kind&&(e.M != 0))||(!jT e.Kind&&decide (0<e.Stack.length))))
def zBm (e:zH):Int:=if kT e.Kind then kS e.Name else if jT e.Kind then zCf e.Stack else 0
def evS (e:zH):Int :=
  if e.At<0∨e.At>1000000000000 then 2 else if e.Kind<1∨e.Kind>12 then 1 else if zA3 e then 1 else if zBm e≠0 then zBm e else zJN e
theorem zM9 (a b c d p q r s:Bool):((bif !a then (bif !p then some true else (bif !b then (bif q then some true else (bif !c then (bif r then some true else (bif !d then some s else some false)) else (bif !d then some s else some false))) else
    (bif !c then (bif r then some true else (bif !d then some s else some false)) else (bif !d then some s else some false)))) else (bif !b then (bif q then some true else (bif !c then (bif r then some true else (bif !d then some s else some false)) else (bif !d then some s else some false))) else
    (bif !c then (bif r then some true else (bif !d then some s else some false)) else (bif !d then some s else some false)))):Option Bool)=some ((!a&&!p)||((!b&&q)||((!c&&r)||(!d&&s)))):=by
  cases a<;>cases b<;>cases c<;>cases d<;>cases p<;>cases q<;>cases r<;>cases s<;>rfl
theorem zLK (e:zH):zA3 e=((!kT e.Kind&&!(e.Name==([]:List Int)))||((!zK4 e.Kind&&(e.N != (0:Int)))||((!zLF e.Kind&&(e.M != (0:Int)))||(!jT e.Kind&&decide ((((e.Stack).length:Nat):Int)>(0:Int)))))):=by
  unfold zA3
  have:decide (0<e.Stack.length)=decide ((((e.Stack).length:Nat):Int)>(0:Int)):=by
    by_cases h:0<e.Stack.length
    · rw [y1 h,y1 (by omega)]
    · rw [y0 h,y0 (by omega)]
  rw [this]
theorem zKF (k:Int) (h:kT k=true):jT k=false:=by
  unfold kT jT at *
  simp at *
  omega
/-- What the form of a kind says. -/
def kN (k:Int):zL:=(wD (match kC with | some l=>l | none=>[]) k).getD ⟨[],false,false,false,false,0,0,0,0⟩
theorem zFd {k:Int}:kJ k=some (if k<1∨k>12 then ((⟨[],false,false,false,false,0,0,0,0⟩:zL),false) else (kN k,true)):=by
  by_cases h:k<1∨k>12
  · rw [if_pos h]
    unfold kJ kC
    rw [Option.bind_some]
    exact zDG (zMP (show k<1∨k≥((13:Nat):Int) by omega)) rfl
  · rw [if_neg h]
    have:k=1∨k=2∨k=3∨k=4∨k=5∨k=6∨k=7∨k=8∨k=9∨k=10∨k=11∨k=12:=by omega
    rcases this with h | h | h | h | h | h | h | h | h | h | h | h<;>subst h<;>rfl
theorem zE4 {k:Int} (h:1≤k∧k≤12):(kN k).name=kT k∧(kN k).n=zK4 k∧(kN k).m=zLF k∧(kN k).stack=jT k:=by
  have:k=1∨k=2∨k=3∨k=4∨k=5∨k=6∨k=7∨k=8∨k=9∨k=10∨k=11∨k=12:=by omega
  rcases this with h | h | h | h | h | h | h | h | h | h | h | h<;>subst h<;>exact ⟨rfl,rfl,rfl,rfl⟩
theorem zIQ {l:List (List Int)} (h:¬ 0<l.length):zCf l=0:=by
  have:l=[]:=List.eq_nil_of_length_eq_zero (by omega)
  rw [this];rfl
theorem zDY {e:zH} (h:zA3 e=false) (hs:jT e.Kind=false):¬ 0<e.Stack.length:=by
  unfold zA3 at h
  rw [hs] at h
  simp at h
  simp [h.2.2.2]
theorem zFu {e:zH} (hk:1≤e.Kind∧e.Kind≤12) (hb:zA3 e=false):pQ 281474976710656 (kN e.Kind) e=some (zBm e):=by
  unfold pQ zBm
  rw [(zE4 hk).1,zAl,zEC]
  cases hn:kT e.Kind
  · cases hs:jT e.Kind
    · rw [zIQ (zDY hb hs)];rfl
    · rfl
  · rfl
theorem zJq {e:zH} (hk:1≤e.Kind∧e.Kind≤12) (hb:zA3 e=false) :
    (bif ((kN e.Kind).n&&(decide (e.N<(kN e.Kind).least)||decide (e.N>(kN e.Kind).most))) then some (2:Int) else
    (bif ((e.Kind==(9:Int))&&((e.N != (2:Int))&&(e.M != (0:Int)))) then some (1:Int) else
    (bif ((kN e.Kind).m&&(bif decide (e.M<(kN e.Kind).mLeast) then ((e.Kind != (9:Int))||(e.N==(2:Int))) else (decide (e.M>(kN e.Kind).mMost)&&((e.Kind != (9:Int))||(e.N==(2:Int)))))) then some (2:Int) else
    some (0:Int))))=some (zJN e):=by
  have:e.Kind=1∨e.Kind=2∨e.Kind=3∨e.Kind=4∨e.Kind=5∨e.Kind=6∨e.Kind=7∨e.Kind=8∨e.Kind=9∨e.Kind=10∨e.Kind=11∨e.Kind=12:=by omega
  unfold zJN
  rcases this with h | h | h | h | h | h | h | h | h | h | h | h<;>rw [h]<;>simp [kN,kC,wD,jK,Bool.cond_eq_ite]<;>(repeat' split)<;>first | rfl | omega | (simp at *;omega)
theorem zFF {e:zH}:pO 281474976710656 e=some (evS e):=by
  unfold pO evS
  by_cases h1:e.At<0∨e.At>1000000000000
  · rw [if_pos h1]
    have:(decide (e.At<(0:Int))||decide (e.At>(1000000000000:Int)))=true:=by simpa using h1
    rw [this];rfl
  rw [if_neg h1]
  have g1:(decide (e.At<(0:Int))||decide (e.At>(1000000000000:Int)))=false:=by simp;omega
  rw [g1,cond_false,zFd,Option.bind_some]
  by_cases h2:e.Kind<1∨e.Kind>12
  · rw [if_pos h2,if_pos h2];rfl
  rw [if_neg h2,if_neg h2]
  have hu:=zE4 (k:=e.Kind) (by omega)
  simp only [Bool.not_true,cond_false]
  rw [hu.1,hu.2.1,hu.2.2.1,hu.2.2.2,zM9,Option.bind_some,← zLK]
  cases hb:zA3 e
  case true=>rfl
  simp only [cond_false]
  rw [zFu (by omega) hb,Option.bind_some]
  by_cases ht:zBm e=0
  · rw [q8 ht,cond_false,← hu.2.1,← hu.2.2.1,zJq (by omega) hb];simp [ht]
  · rw [qR ht,cond_true];simp [ht]
theorem zAd {a b:List (List Int)} (ha:a.length≤140737488355328):vV 281474976710656 a b=some (decide (a=b)):=by
  unfold vV
  by_cases hl:(a.length:Int)≠b.length
  · rw [qR hl,cond_true,y0 (fun e=>hl (by rw [e]))]
  rw [q8 (by omega),cond_false,k8 (a:=a) (b:=b) (vH 281474976710656 a b) (by omega) ha (fun n i hi=>by
    show x6 _ _ _ _ _=_
    unfold x6
    simp (disch:=omega) only [y0,cond_false]) (fun n i x y r r2 hd hd2 hlt=>by
    show x6 _ _ _ _ _=_
    unfold x6
    simp (disch:=omega) only [y1,cond_true,x3 hd,x3 hd2,Option.bind_some,v5]
    by_cases h:x=y
    · rw [zEX h,if_pos h];rfl
    · rw [zKu h,if_neg h];rfl),Option.bind_some]
  by_cases h:a=b
  · rw [if_pos h,y1 h]
  · rw [if_neg h,y0 h]
theorem zMf (a b:zH):(bif (a.At==b.At) then (bif (a.Kind==b.Kind) then (bif (a.Name==b.Name) then (bif (a.N==b.N) then (bif (a.M==b.M) then some (decide (a.Stack=b.Stack)) else some false) else some false) else some false) else some false) else some false)=some (decide (a=b)):=by
  by_cases h1:a.At=b.At
  case neg=>rw [jW h1,y0 (p:=a=b) (fun e=>h1 (by rw [e]))];rfl
  by_cases h2:a.Kind=b.Kind
  case neg=>rw [uF h1,jW h2,y0 (p:=a=b) (fun e=>h2 (by rw [e]))];rfl
  by_cases h3:a.Name=b.Name
  case neg=>rw [uF h1,uF h2,zKu h3,y0 (p:=a=b) (fun e=>h3 (by rw [e]))];rfl
  by_cases h4:a.N=b.N
  case neg=>rw [uF h1,uF h2,zEX h3,jW h4,y0 (p:=a=b) (fun e=>h4 (by rw [e]))];rfl
  by_cases h5:a.M=b.M
  case neg=>rw [uF h1,uF h2,zEX h3,uF h4,jW h5,y0 (p:=a=b) (fun e=>h5 (by rw [e]))];rfl
  rw [uF h1,uF h2,zEX h3,uF h4,uF h5]
  simp only [cond_true]
  by_cases h6:a.Stack=b.Stack
  · have:a=b:=by cases a;cases b;simp_all
    rw [y1 h6,y1 this]
  · rw [y0 h6,y0 (p:=a=b) (fun e=>h6 (by rw [e]))]
theorem zGI {a b:zH} (ha:a.Stack.length≤140737488355328):nR 281474976710656 a b=some (decide (a=b)):=by
  unfold nR
  simp only [zAd ha,Option.bind_some]
  rw [zMf,Option.bind_some]
end Go.Ab
