/- Plain laws of the functions tF this seat's, laid anew from another seat's text. No conditions but those that the theorems name. -/
import Derived.Test.YtbifmbdcejggkaaP16xD
import Derived.Test.YtbifmbdcejggkaaC16z
import Derived.Test.YtbifmbdcejggkaaB16b
namespace Go.Ab
open Go
set_option linter.unusedVariables false
def nG (k:Int):Bool:=(k==1)||((k==3)||(k==4))
def zMv (k:Int):Bool:=decide (k≥4)
def zMt (k:Int):Bool:=(k==9)||(k==11)
def kN (k:Int):Bool:=(k==5)||(k==11)
def j7 (n lo hi:Int):Int:=if n<lo∨n>hi then 2 else 0
def zKd (e:zH):Int :=
  if e.Kind=1∨e.Kind=2∨e.Kind=3 then 0 else if e.Kind=4 then j7 e.N (-1000000000000000) 1000000000000000 else if e.Kind=5 then j7 e.N 1 1000000000000 else
  if e.Kind=8 then j7 e.N 0 63 else
  if e.Kind=9 then (if j7 e.N 0 3=0∧e.N=2 then j7 e.M 0 1000000000000000 else if j7 e.N 0 3=0∧e.M≠0 then 1 else j7 e.N 0 3) else
  if j7 e.N 0 1000000000000000=0∧e.Kind=11 then j7 e.M 1 1000000000000 else j7 e.N 0 1000000000000000
/-- Fields that the kind does not use are empty. -/
def zBB (e:zH):Bool :=
  (!nG e.Kind&&!(e.Name==[]))||((!zMv e.Kind&&(e.N != 0))||((!zMt e.Kind&&(e.M != 0))||(!kN e.Kind&&decide (0<e.Stack.length))))
def zBU (e:zH):Int:=if nG e.Kind then nB e.Name else if kN e.Kind then zCL e.Stack else 0
def evS (e:zH):Int :=
  if e.At<0∨e.At>1000000000000 then 2 else if e.Kind<1∨e.Kind>12 then 1 else if zBB e then 1 else if zBU e≠0 then zBU e else zKd e
theorem zNZ (a b c d p q r s:Bool):((bif !a then (bif !p then some true else (bif !b then (bif q then some true else (bif !c then (bif r then some true else (bif !d then some s else some false)) else (bif !d then some s else some false))) else
    (bif !c then (bif r then some true else (bif !d then some s else some false)) else (bif !d then some s else some false)))) else (bif !b then (bif q then some true else (bif !c then (bif r then some true else (bif !d then some s else some false)) else (bif !d then some s else some false))) else
    (bif !c then (bif r then some true else (bif !d then some s else some false)) else (bif !d then some s else some false)))):Option Bool)=some ((!a&&!p)||((!b&&q)||((!c&&r)||(!d&&s)))):=by
  cases a<;>cases b<;>cases c<;>cases d<;>cases p<;>cases q<;>cases r<;>cases s<;>rfl
theorem zMS (e:zH):zBB e=((!nG e.Kind&&!(e.Name==([]:List Int)))||((!zMv e.Kind&&(e.N != (0:Int)))||((!zMt e.Kind&&(e.M != (0:Int)))||(!kN e.Kind&&decide ((((e.Stack).length:Nat):Int)>(0:Int)))))):=by
  unfold zBB
  have:decide (0<e.Stack.length)=decide ((((e.Stack).length:Nat):Int)>(0:Int)):=by
    by_cases h:0<e.Stack.length
    · rw [y5 h,y5 (by omega)]
    · rw [yU h,yU (by omega)]
  rw [this]
theorem zLj (k:Int) (h:nG k=true):kN k=false:=by
  unfold nG kN at *
  simp at *
  omega
/-- What the form of a kind says. -/
def pP (k:Int):zM:=(xW (match k0 with | some l=>l | none=>[]) k).getD ⟨[],false,false,false,false,0,0,0,0⟩
theorem zFq {k:Int}:pD k=some (if k<1∨k>12 then ((⟨[],false,false,false,false,0,0,0,0⟩:zM),false) else (pP k,true)):=by
  by_cases h:k<1∨k>12
  · rw [if_pos h]
    unfold pD k0
    rw [Option.bind_some]
    exact zEo (zNR (show k<1∨k≥((13:Nat):Int) by omega)) rfl
  · rw [if_neg h]
    have:k=1∨k=2∨k=3∨k=4∨k=5∨k=6∨k=7∨k=8∨k=9∨k=10∨k=11∨k=12:=by omega
    rcases this with h | h | h | h | h | h | h | h | h | h | h | h<;>subst h<;>rfl
theorem zFX {k:Int} (h:1≤k∧k≤12):(pP k).name=nG k∧(pP k).n=zMv k∧(pP k).m=zMt k∧(pP k).stack=kN k:=by
  have:k=1∨k=2∨k=3∨k=4∨k=5∨k=6∨k=7∨k=8∨k=9∨k=10∨k=11∨k=12:=by omega
  rcases this with h | h | h | h | h | h | h | h | h | h | h | h<;>subst h<;>exact ⟨rfl,rfl,rfl,rfl⟩
theorem zJc {l:List (List Int)} (h:¬ 0<l.length):zCL l=0:=by
  have:l=[]:=List.eq_nil_of_length_eq_zero (by omega)
  rw [this];rfl
theorem zEy {e:zH} (h:zBB e=false) (hs:kN e.Kind=false):¬ 0<e.Stack.length:=by
  unfold zBB at h
  rw [hs] at h
  simp at h
  simp [h.2.2.2]
theorem zGj {e:zH} (hk:1≤e.Kind∧e.Kind≤12) (hb:zBB e=false):nX 281474976710656 (pP e.Kind) e=some (zBU e):=by
  unfold nX zBU
  rw [(zFX hk).1,zAP,zFf]
  cases hn:nG e.Kind
  · cases hs:kN e.Kind
    · rw [zJc (zEy hb hs)];rfl
    · rfl
  · rfl
theorem zJ8 {e:zH} (hk:1≤e.Kind∧e.Kind≤12) (hb:zBB e=false) :
    (bif ((pP e.Kind).n&&(decide (e.N<(pP e.Kind).least)||decide (e.N>(pP e.Kind).most))) then some (2:Int) else
    (bif ((e.Kind==(9:Int))&&((e.N != (2:Int))&&(e.M != (0:Int)))) then some (1:Int) else
    (bif ((pP e.Kind).m&&(bif decide (e.M<(pP e.Kind).mLeast) then ((e.Kind != (9:Int))||(e.N==(2:Int))) else (decide (e.M>(pP e.Kind).mMost)&&((e.Kind != (9:Int))||(e.N==(2:Int)))))) then some (2:Int) else
    some (0:Int))))=some (zKd e):=by
  have:e.Kind=1∨e.Kind=2∨e.Kind=3∨e.Kind=4∨e.Kind=5∨e.Kind=6∨e.Kind=7∨e.Kind=8∨e.Kind=9∨e.Kind=10∨e.Kind=11∨e.Kind=12:=by omega
  unfold zKd
  rcases this with h | h | h | h | h | h | h | h | h | h | h | h<;>rw [h]<;>simp [pP,k0,xW,j7,Bool.cond_eq_ite]<;>(repeat' split)<;>first | rfl | omega | (simp at *;omega)
theorem zGG {e:zH}:nZ 281474976710656 e=some (evS e):=by
  unfold nZ evS
  by_cases h1:e.At<0∨e.At>1000000000000
  · rw [if_pos h1]
    have:(decide (e.At<(0:Int))||decide (e.At>(1000000000000:Int)))=true:=by simpa using h1
    rw [this];rfl
  rw [if_neg h1]
  have g1:(decide (e.At<(0:Int))||decide (e.At>(1000000000000:Int)))=false:=by simp;omega
  rw [g1,cond_false,zFq,Option.bind_some]
  by_cases h2:e.Kind<1∨e.Kind>12
  · rw [if_pos h2,if_pos h2];rfl
  rw [if_neg h2,if_neg h2]
  have hu:=zFX (k:=e.Kind) (by omega)
  simp only [Bool.not_true,cond_false]
  rw [hu.1,hu.2.1,hu.2.2.1,hu.2.2.2,zNZ,Option.bind_some,← zMS]
  cases hb:zBB e
  case true=>rfl
  simp only [cond_false]
  rw [zGj (by omega) hb,Option.bind_some]
  by_cases ht:zBU e=0
  · rw [t8 ht,cond_false,← hu.2.1,← hu.2.2.1,zJ8 (by omega) hb];simp [ht]
  · rw [qA ht,cond_true];simp [ht]
theorem zAM {a b:List (List Int)} (ha:a.length≤140737488355328):v8 281474976710656 a b=some (decide (a=b)):=by
  unfold v8
  by_cases hl:(a.length:Int)≠b.length
  · rw [qA hl,cond_true,yU (fun e=>hl (by rw [e]))]
  rw [t8 (by omega),cond_false,pQ (a:=a) (b:=b) (vQ 281474976710656 a b) (by omega) ha (fun n i hi=>by
    show wD _ _ _ _ _=_
    unfold wD
    simp (disch:=omega) only [yU,cond_false]) (fun n i x y r r2 hd hd2 hlt=>by
    show wD _ _ _ _ _=_
    unfold wD
    simp (disch:=omega) only [y5,cond_true,xL hd,xL hd2,Option.bind_some,w6]
    by_cases h:x=y
    · rw [zFN h,if_pos h];rfl
    · rw [zLQ h,if_neg h];rfl),Option.bind_some]
  by_cases h:a=b
  · rw [if_pos h,y5 h]
  · rw [if_neg h,yU h]
theorem zNu (a b:zH):(bif (a.At==b.At) then (bif (a.Kind==b.Kind) then (bif (a.Name==b.Name) then (bif (a.N==b.N) then (bif (a.M==b.M) then some (decide (a.Stack=b.Stack)) else some false) else some false) else some false) else some false) else some false)=some (decide (a=b)):=by
  by_cases h1:a.At=b.At
  case neg=>rw [t9 h1,yU (p:=a=b) (fun e=>h1 (by rw [e]))];rfl
  by_cases h2:a.Kind=b.Kind
  case neg=>rw [v6 h1,t9 h2,yU (p:=a=b) (fun e=>h2 (by rw [e]))];rfl
  by_cases h3:a.Name=b.Name
  case neg=>rw [v6 h1,v6 h2,zLQ h3,yU (p:=a=b) (fun e=>h3 (by rw [e]))];rfl
  by_cases h4:a.N=b.N
  case neg=>rw [v6 h1,v6 h2,zFN h3,t9 h4,yU (p:=a=b) (fun e=>h4 (by rw [e]))];rfl
  by_cases h5:a.M=b.M
  case neg=>rw [v6 h1,v6 h2,zFN h3,v6 h4,t9 h5,yU (p:=a=b) (fun e=>h5 (by rw [e]))];rfl
  rw [v6 h1,v6 h2,zFN h3,v6 h4,v6 h5]
  simp only [cond_true]
  by_cases h6:a.Stack=b.Stack
  · have:a=b:=by cases a;cases b;simp_all
    rw [y5 h6,y5 this]
  · rw [yU h6,yU (p:=a=b) (fun e=>h6 (by rw [e]))]
theorem zHt {a b:zH} (ha:a.Stack.length≤140737488355328):zAB 281474976710656 a b=some (decide (a=b)):=by
  unfold zAB
  simp only [zAM ha,Option.bind_some]
  rw [zNu,Option.bind_some]
end Go.Ab
