/- Plain laws of the functions qE this seat's, laid anew from another seat's text. No conditions but those that the theorems name. -/
import Derived.Test.YtbifmbdcejggkaaP16xD
import Derived.Test.YtbifmbdcejggkaaC16z
import Derived.Test.YtbifmbdcejggkaaB16b
namespace Go.Ab
open Go
set_option linter.unusedVariables false
def pH (k:Int):Bool:=(k==1)||((k==3)||(k==4))
def zMJ (k:Int):Bool:=decide (k≥4)
def zMy (k:Int):Bool:=(k==9)||(k==11)
def j3 (k:Int):Bool:=(k==5)||(k==11)
def qC (n lo hi:Int):Int:=if n<lo∨n>hi then 2 else 0
def zG9 (e:zI):Int :=
 if e.Kind=1∨e.Kind=2∨e.Kind=3 then 0 else if e.Kind=4 then qC e.N (-1000000000000000) 1000000000000000 else if e.Kind=5 then qC e.N 1 1000000000000 else
 if e.Kind=8 then qC e.N 0 63 else
 if e.Kind=9 then (if qC e.N 0 3=0∧e.N=2 then qC e.M 0 1000000000000000 else if qC e.N 0 3=0∧e.M≠0 then 1 else qC e.N 0 3) else
 if qC e.N 0 1000000000000000=0∧e.Kind=11 then qC e.M 1 1000000000000 else qC e.N 0 1000000000000000
def zCg (e:zI):Bool :=
 (!pH e.Kind&&!(e.Name==[]))||((!zMJ e.Kind&&(e.N != 0))||((!zMy e.Kind&&(e.M != 0))||(!j3 e.Kind&&decide (0<e.Stack.length))))
def zCz (e:zI):Int:=if pH e.Kind then kR e.Name else if j3 e.Kind then zBs e.Stack else 0
def evS (e:zI):Int :=
 if e.At<0∨e.At>1000000000000 then 2 else if e.Kind<1∨e.Kind>12 then 1 else if zCg e then 1 else if zCz e≠0 then zCz e else zG9 e
theorem zI2 {n lo hi:Int}:qI n lo hi=some (qC n lo hi):=by
 unfold qI qC
 by_cases h:n<lo∨n>hi
 ·rw [if_pos h]
  have:(decide (n<lo)||decide (n>hi))=true:=by simpa using h
  rw [this];rfl
 ·rw [if_neg h]
  have:(decide (n<lo)||decide (n>hi))=false:=by simp;omega
  rw [this];rfl
theorem zIu {e:zI}:zAX e=some (zG9 e):=by
 unfold zAX zG9
 simp only [zI2,Option.bind_some,Bool.cond_eq_ite,beq_iff_eq,Bool.and_eq_true,bne_iff_ne]
 by_cases h1:e.Kind=1
 ·simp [h1]
 by_cases h2:e.Kind=2
 ·simp [h2]
 by_cases h3:e.Kind=3
 ·simp [h3]
 by_cases h4:e.Kind=4
 ·simp [h4]
 by_cases h5:e.Kind=5
 ·simp [h5]
 by_cases h8:e.Kind=8
 ·simp [h8]
 by_cases h9:e.Kind=9
 ·generalize qC e.N 0 3=x
  generalize qC e.M 0 1000000000000000=y
  generalize qC e.N 0 1000000000000000=z
  by_cases g1:x=0<;>by_cases g2:e.N=2<;>by_cases g3:e.M=0<;>simp [h9,g1,g2,g3]
 ·generalize qC e.N 0 1000000000000000=x
  by_cases g1:x=0<;>by_cases g2:e.Kind=11<;>simp_all
theorem zNq (a b c d p q r s:Bool):((bif !a then (bif !p then some true else (bif !b then (bif q then some true else (bif !c then (bif r then some true else (bif !d then some s else some false)) else (bif !d then some s else some false))) else
  (bif !c then (bif r then some true else (bif !d then some s else some false)) else (bif !d then some s else some false)))) else (bif !b then (bif q then some true else (bif !c then (bif r then some true else (bif !d then some s else some false)) else (bif !d then some s else some false))) else
  (bif !c then (bif r then some true else (bif !d then some s else some false)) else (bif !d then some s else some false)))):Option Bool)=some ((!a&&!p)||((!b&&q)||((!c&&r)||(!d&&s)))):=by
 cases a<;>cases b<;>cases c<;>cases d<;>cases p<;>cases q<;>cases r<;>cases s<;>rfl
theorem zJ3 (e:zI):zCg e=((!pH e.Kind&&!(e.Name==([]:List Int)))||((!zMJ e.Kind&&(e.N != (0:Int)))||((!zMy e.Kind&&(e.M != (0:Int)))||(!j3 e.Kind&&decide ((((e.Stack).length:Nat):Int)>(0:Int)))))):=by
 unfold zCg
 have:decide (0<e.Stack.length)=decide ((((e.Stack).length:Nat):Int)>(0:Int)):=by
  by_cases h:0<e.Stack.length
  ·rw [yP h,yP (by omega)]
  ·rw [yN h,yN (by omega)]
 rw [this]
theorem zIT (k:Int) (h:pH k=true):j3 k=false:=by
 unfold pH j3 at *
 simp at *
 omega
theorem zKJ {e:zI}:zCo 281474976710656 e=some (evS e):=by
 unfold zCo evS
 by_cases h1:e.At<0∨e.At>1000000000000
 ·rw [if_pos h1]
  have:(decide (e.At<(0:Int))||decide (e.At>(1000000000000:Int)))=true:=by simpa using h1
  rw [this];rfl
 rw [if_neg h1]
 have g1:(decide (e.At<(0:Int))||decide (e.At>(1000000000000:Int)))=false:=by simp;omega
 rw [g1,cond_false]
 by_cases h2:e.Kind<1∨e.Kind>12
 ·rw [if_pos h2]
  have:(decide (e.Kind<(1:Int))||decide (e.Kind>(12:Int)))=true:=by simpa using h2
  rw [this];rfl
 rw [if_neg h2]
 have g2:(decide (e.Kind<(1:Int))||decide (e.Kind>(12:Int)))=false:=by simp;omega
 rw [g2,cond_false]
 rw [show zEF e.Kind=some (pH e.Kind,zMJ e.Kind,zMy e.Kind,j3 e.Kind) from rfl,Option.bind_some]
 simp only
 rw [zNq,Option.bind_some,← zJ3]
 cases hb:zCg e
 case true=>rfl
 simp only [cond_false,zDX,zJb,zIu,Option.bind_some]
 have hns:=zIT e.Kind
 unfold zCz
 cases hn:pH e.Kind
 ·cases hs:j3 e.Kind
  ·simp
  ·by_cases hf:zBs e.Stack=0
   ·simp [hf]
   ·simp [hf,vS hf]
 ·rw [hns hn]
  by_cases hf:kR e.Name=0
  ·simp [hf]
  ·simp [hf,vS hf]
def zAu (k:Int):zZ:=(y6 (match zAb with | some l=>l | none=>[]) k).getD ⟨[],false,false,false,false,0,0,0,0⟩
theorem zHV {k:Int}:zAp k=some (if k<1∨k>12 then ((⟨[],false,false,false,false,0,0,0,0⟩:zZ),false) else (zAu k,true)):=by
 by_cases h:k<1∨k>12
 ·rw [if_pos h]
  unfold zAp zAb
  rw [Option.bind_some]
  exact zEg (zPY (show k<1∨k≥((13:Nat):Int) by omega)) rfl
 ·rw [if_neg h]
  have:k=1∨k=2∨k=3∨k=4∨k=5∨k=6∨k=7∨k=8∨k=9∨k=10∨k=11∨k=12:=by omega
  rcases this with h | h | h | h | h | h | h | h | h | h | h | h<;>subst h<;>rfl
theorem zHt {k:Int} (h:1≤k∧k≤12):(zAu k).name=pH k∧(zAu k).n=zMJ k∧(zAu k).m=zMy k∧(zAu k).stack=j3 k:=by
 have:k=1∨k=2∨k=3∨k=4∨k=5∨k=6∨k=7∨k=8∨k=9∨k=10∨k=11∨k=12:=by omega
 rcases this with h | h | h | h | h | h | h | h | h | h | h | h<;>subst h<;>exact ⟨rfl,rfl,rfl,rfl⟩
theorem zLf {l:List (List Int)} (h:¬ 0<l.length):zBs l=0:=by
 have:l=[]:=List.eq_nil_of_length_eq_zero (by omega)
 rw [this];rfl
theorem zGg {e:zI} (h:zCg e=false) (hs:j3 e.Kind=false):¬ 0<e.Stack.length:=by
 unfold zCg at h
 rw [hs] at h
 simp at h
 simp [h.2.2.2]
theorem zH0 {e:zI} (hk:1≤e.Kind∧e.Kind≤12) (hb:zCg e=false):zAR 281474976710656 (zAu e.Kind) e=some (zCz e):=by
 unfold zAR zCz
 rw [(zHt hk).1,zB9,zGI]
 cases hn:pH e.Kind
 ·cases hs:j3 e.Kind
  ·rw [zLf (zGg hb hs)];rfl
  ·rfl
 ·rfl
theorem zMi {e:zI} (hk:1≤e.Kind∧e.Kind≤12) (hb:zCg e=false) :
  (bif ((zAu e.Kind).n&&(decide (e.N<(zAu e.Kind).least)||decide (e.N>(zAu e.Kind).most))) then some (2:Int) else
  (bif ((e.Kind==(9:Int))&&((e.N != (2:Int))&&(e.M != (0:Int)))) then some (1:Int) else
  (bif ((zAu e.Kind).m&&(bif decide (e.M<(zAu e.Kind).mLeast) then ((e.Kind != (9:Int))||(e.N==(2:Int))) else (decide (e.M>(zAu e.Kind).mMost)&&((e.Kind != (9:Int))||(e.N==(2:Int)))))) then some (2:Int) else
  some (0:Int))))=some (zG9 e):=by
 have:e.Kind=1∨e.Kind=2∨e.Kind=3∨e.Kind=4∨e.Kind=5∨e.Kind=6∨e.Kind=7∨e.Kind=8∨e.Kind=9∨e.Kind=10∨e.Kind=11∨e.Kind=12:=by omega
 unfold zG9
 rcases this with h | h | h | h | h | h | h | h | h | h | h | h<;>rw [h]<;>simp [zAu,zAb,y6,qC,Bool.cond_eq_ite]<;>(repeat' split)<;>first | rfl | omega | (simp at *;omega)
theorem zIi {e:zI}:zAV 281474976710656 e=some (evS e):=by
 unfold zAV evS
 by_cases h1:e.At<0∨e.At>1000000000000
 ·rw [if_pos h1]
  have:(decide (e.At<(0:Int))||decide (e.At>(1000000000000:Int)))=true:=by simpa using h1
  rw [this];rfl
 rw [if_neg h1]
 have g1:(decide (e.At<(0:Int))||decide (e.At>(1000000000000:Int)))=false:=by simp;omega
 rw [g1,cond_false,zHV,Option.bind_some]
 by_cases h2:e.Kind<1∨e.Kind>12
 ·rw [if_pos h2,if_pos h2];rfl
 rw [if_neg h2,if_neg h2]
 have hu:=zHt (k:=e.Kind) (by omega)
 simp only [Bool.not_true,cond_false]
 rw [hu.1,hu.2.1,hu.2.2.1,hu.2.2.2,zNq,Option.bind_some,← zJ3]
 cases hb:zCg e
 case true=>rfl
 simp only [cond_false]
 rw [zH0 (by omega) hb,Option.bind_some]
 by_cases ht:zCz e=0
 ·rw [vY ht,cond_false,← hu.2.1,← hu.2.2.1,zMi (by omega) hb];simp [ht]
 ·rw [vS ht,cond_true];simp [ht]
theorem zBS {a b:List (List Int)} (ha:a.length≤140737488355328):uQ 281474976710656 a b=some (decide (a=b)):=by
 unfold uQ
 by_cases hl:(a.length:Int)≠b.length
 ·rw [vS hl,cond_true,yN (fun e=>hl (by rw [e]))]
 rw [vY (by omega),cond_false,u0 (a:=a) (b:=b) (v5 281474976710656 a b) (by omega) ha (fun n i hi=>by
  show wQ _ _ _ _ _=_
  unfold wQ
  simp (disch:=omega) only [yN,cond_false]) (fun n i x y r r2 hd hd2 hlt=>by
  show wQ _ _ _ _ _=_
  unfold wQ
  simp (disch:=omega) only [yP,cond_true,y1 hd,y1 hd2,Option.bind_some,wE]
  by_cases h:x=y
  ·rw [zFv h,if_pos h];rfl
  ·rw [zKE h,if_neg h];rfl),Option.bind_some]
 by_cases h:a=b
 ·rw [if_pos h,yP h]
 ·rw [if_neg h,yN h]
theorem zJZ {a b:List (List Int)} (ha:a.length≤140737488355328):zCC 281474976710656 a b=some (decide (a=b)):=by
 unfold zCC
 by_cases hl:(a.length:Int)≠b.length
 ·rw [vS hl,cond_true,yN (fun e=>hl (by rw [e]))]
 rw [vY (by omega),cond_false,u0 (a:=a) (b:=b) (zAg 281474976710656 a b) (by omega) ha (fun n i hi=>by
  show tL _ _ _ _ _=_
  unfold tL
  simp (disch:=omega) only [yN,cond_false]) (fun n i x y r r2 hd hd2 hlt=>by
  show tL _ _ _ _ _=_
  unfold tL
  simp (disch:=omega) only [yP,cond_true,y1 hd,y1 hd2,Option.bind_some,wE]
  by_cases h:x=y
  ·rw [zFv h,if_pos h];rfl
  ·rw [zKE h,if_neg h];rfl),Option.bind_some]
 by_cases h:a=b
 ·rw [if_pos h,yP h]
 ·rw [if_neg h,yN h]
theorem zLR (a b:zI):(bif (a.At==b.At) then (bif (a.Kind==b.Kind) then (bif (a.Name==b.Name) then (bif (a.N==b.N) then (bif (a.M==b.M) then some (decide (a.Stack=b.Stack)) else some false) else some false) else some false) else some false) else some false)=some (decide (a=b)):=by
 by_cases h1:a.At=b.At
 case neg=>rw [tM h1,yN (p:=a=b) (fun e=>h1 (by rw [e]))];rfl
 by_cases h2:a.Kind=b.Kind
 case neg=>rw [vP h1,tM h2,yN (p:=a=b) (fun e=>h2 (by rw [e]))];rfl
 by_cases h3:a.Name=b.Name
 case neg=>rw [vP h1,vP h2,zKE h3,yN (p:=a=b) (fun e=>h3 (by rw [e]))];rfl
 by_cases h4:a.N=b.N
 case neg=>rw [vP h1,vP h2,zFv h3,tM h4,yN (p:=a=b) (fun e=>h4 (by rw [e]))];rfl
 by_cases h5:a.M=b.M
 case neg=>rw [vP h1,vP h2,zFv h3,vP h4,tM h5,yN (p:=a=b) (fun e=>h5 (by rw [e]))];rfl
 rw [vP h1,vP h2,zFv h3,vP h4,vP h5]
 simp only [cond_true]
 by_cases h6:a.Stack=b.Stack
 ·have:a=b:=by cases a;cases b;simp_all
  rw [yP h6,yP this]
 ·rw [yN h6,yN (p:=a=b) (fun e=>h6 (by rw [e]))]
theorem zJr {a b:zI} (ha:a.Stack.length≤140737488355328):zBE 281474976710656 a b=some (decide (a=b)):=by
 unfold zBE
 simp only [zBS ha,Option.bind_some]
 rw [zLR,Option.bind_some]
theorem zLi {a b:zI} (ha:a.Stack.length≤140737488355328):zDl 281474976710656 a b=some (decide (a=b)):=by
 unfold zDl
 simp only [zJZ ha,Option.bind_some]
 rw [zLR,Option.bind_some]
end Go.Ab
