/- Plain laws of the functions qA this seat's, laid anew from another seat's text. No conditions but those that the theorems name. -/
import Derived.Test.YtdpgdpjoemdkjaaP10xD
import Derived.Test.YtdpgdpjoemdkjaaB10a
import Derived.Test.YtdpgdpjoemdkjaaB10b
namespace Go.Ab
open Go
set_option linter.unusedVariables false
def y5 (k:Int):Bool:=(k==1)||((k==3)||(k==4))
def vH (k:Int):Bool:=decide (k≥4)
def v4 (k:Int):Bool:=(k==9)||(k==11)
def xM (k:Int):Bool:=(k==5)||(k==11)
def tY (n lo hi:Int):Int:=if n<lo∨n>hi then 2 else 0
def zFl (e:zL):Int :=
 if e.Kind=1∨e.Kind=2∨e.Kind=3 then 0 else if e.Kind=4 then tY e.N (-1000000000000000) 1000000000000000 else if e.Kind=5 then tY e.N 1 1000000000000 else
 if e.Kind=8 then tY e.N 0 63 else
 if e.Kind=9 then (if tY e.N 0 3=0∧e.N=2 then tY e.M 0 1000000000000000 else if tY e.N 0 3=0∧e.M≠0 then 1 else tY e.N 0 3) else
 if tY e.N 0 1000000000000000=0∧e.Kind=11 then tY e.M 1 1000000000000 else tY e.N 0 1000000000000000
def zCU (e:zL):Bool :=
 (!y5 e.Kind&&!(e.Name==[]))||((!vH e.Kind&&(e.N != 0))||((!v4 e.Kind&&(e.M != 0))||(!xM e.Kind&&decide (0<e.Stack.length))))
def zD5 (e:zL):Int:=if y5 e.Kind then u7 e.Name else if xM e.Kind then qZ e.Stack else 0
def evS (e:zL):Int :=
 if e.At<0∨e.At>1000000000000 then 2 else if e.Kind<1∨e.Kind>12 then 1 else if zCU e then 1 else if zD5 e≠0 then zD5 e else zFl e
theorem zLh {n lo hi:Int}:j2 n lo hi=some (tY n lo hi):=by
 unfold j2 tY
 by_cases h:n<lo∨n>hi
 ·rw [if_pos h]
  have:(decide (n<lo)||decide (n>hi))=true:=by simpa using h
  rw [this];rfl
 ·rw [if_neg h]
  have:(decide (n<lo)||decide (n>hi))=false:=by simp;omega
  rw [this];rfl
theorem zJK {e:zL}:zCj e=some (zFl e):=by
 unfold zCj zFl
 simp only [zLh,zbs,Bool.cond_eq_ite,beq_iff_eq,Bool.and_eq_true,bne_iff_ne]
 by_cases h1:e.Kind=1
 ·simp [h1]
 by_cases h2:e.Kind=2
 ·simp [h2]
 by_cases h3:e.Kind=3
 ·simp [h3]
 by_cases h4:e.Kind=4
 ·simp [h4]
 by_cases h5:e.Kind=5
 ·simp [h5]
 by_cases h8:e.Kind=8
 ·simp [h8]
 by_cases h9:e.Kind=9
 ·generalize tY e.N 0 3=x
  generalize tY e.M 0 1000000000000000=y
  generalize tY e.N 0 1000000000000000=z
  by_cases g1:x=0<;>by_cases g2:e.N=2<;>by_cases g3:e.M=0<;>simp [h9,g1,g2,g3]
 ·generalize tY e.N 0 1000000000000000=x
  by_cases g1:x=0<;>by_cases g2:e.Kind=11<;>simp_all
theorem zPR (a b c d p q r s:Bool):((bif !a then (bif !p then some true else (bif !b then (bif q then some true else (bif !c then (bif r then some true else (bif !d then some s else some false)) else (bif !d then some s else some false))) else
  (bif !c then (bif r then some true else (bif !d then some s else some false)) else (bif !d then some s else some false)))) else (bif !b then (bif q then some true else (bif !c then (bif r then some true else (bif !d then some s else some false)) else (bif !d then some s else some false))) else
  (bif !c then (bif r then some true else (bif !d then some s else some false)) else (bif !d then some s else some false)))):Option Bool)=some ((!a&&!p)||((!b&&q)||((!c&&r)||(!d&&s)))):=by
 cases a<;>cases b<;>cases c<;>cases d<;>cases p<;>cases q<;>cases r<;>cases s<;>rfl
theorem zIt (e:zL):zCU e=((!y5 e.Kind&&!(e.Name==([]:List Int)))||((!vH e.Kind&&(e.N != (0:Int)))||((!v4 e.Kind&&(e.M != (0:Int)))||(!xM e.Kind&&decide ((((e.Stack).length:Nat):Int)>(0:Int)))))):=by
 unfold zCU
 have:decide (0<e.Stack.length)=decide ((((e.Stack).length:Nat):Int)>(0:Int)):=by
  by_cases h:0<e.Stack.length
  ·rw [yW h,yW (by omega)]
  ·rw [yI h,yI (by omega)]
 rw [this]
theorem zKI (k:Int) (h:y5 k=true):xM k=false:=by
 unfold y5 xM at *
 simp at *
 omega
theorem zEX {e:zL}:zAK 200000 e=some (evS e):=by
 unfold zAK evS
 by_cases h1:e.At<0∨e.At>1000000000000
 ·rw [if_pos h1]
  have:(decide (e.At<(0:Int))||decide (e.At>(1000000000000:Int)))=true:=by simpa using h1
  rw [this];rfl
 rw [if_neg h1]
 have g1:(decide (e.At<(0:Int))||decide (e.At>(1000000000000:Int)))=false:=by simp;omega
 rw [g1,cond_false]
 by_cases h2:e.Kind<1∨e.Kind>12
 ·rw [if_pos h2]
  have:(decide (e.Kind<(1:Int))||decide (e.Kind>(12:Int)))=true:=by simpa using h2
  rw [this];rfl
 rw [if_neg h2]
 have g2:(decide (e.Kind<(1:Int))||decide (e.Kind>(12:Int)))=false:=by simp;omega
 rw [g2,cond_false]
 rw [show zF2 e.Kind=some (y5 e.Kind,vH e.Kind,v4 e.Kind,xM e.Kind) from rfl,zbs]
 simp only
 rw [zPR,zbs,← zIt]
 cases hb:zCU e
 case true=>rfl
 simp only [cond_false,zCo,zGC,zJK,zbs]
 have hns:=zKI e.Kind
 unfold zD5
 cases hn:y5 e.Kind
 ·cases hs:xM e.Kind
  ·simp
  ·by_cases hf:qZ e.Stack=0
   ·simp [hf]
   ·simp [hf,xW hf]
 ·rw [hns hn]
  by_cases hf:u7 e.Name=0
  ·simp [hf]
  ·simp [hf,xW hf]
def zBM (k:Int):yP:=(y7 (match zBf with | some l=>l | none=>[]) k).getD ⟨[],false,false,false,false,0,0,0,0⟩
theorem zJH {k:Int}:zBD k=some (if k<1∨k>12 then ((⟨[],false,false,false,false,0,0,0,0⟩:yP),false) else (zBM k,true)):=by
 by_cases h:k<1∨k>12
 ·rw [if_pos h]
  unfold zBD zBf
  rw [zbs]
  exact zRr (zKt (show k<1∨k≥((13:Nat):Int) by omega)) rfl
 ·rw [if_neg h]
  have:k=1∨k=2∨k=3∨k=4∨k=5∨k=6∨k=7∨k=8∨k=9∨k=10∨k=11∨k=12:=by omega
  rcases this with h | h | h | h | h | h | h | h | h | h | h | h<;>subst h<;>rfl
theorem zI4 {k:Int} (h:1≤k∧k≤12):(zBM k).name=y5 k∧(zBM k).n=vH k∧(zBM k).m=v4 k∧(zBM k).stack=xM k:=by
 have:k=1∨k=2∨k=3∨k=4∨k=5∨k=6∨k=7∨k=8∨k=9∨k=10∨k=11∨k=12:=by omega
 rcases this with h | h | h | h | h | h | h | h | h | h | h | h<;>subst h<;>exact ⟨rfl,rfl,rfl,rfl⟩
theorem zNs {l:List (List Int)} (h:¬ 0<l.length):qZ l=0:=by
 have:l=[]:=List.eq_nil_of_length_eq_zero (by omega)
 rw [this];rfl
theorem zNu {e:zL} (h:zCU e=false) (hs:xM e.Kind=false):¬ 0<e.Stack.length:=by
 unfold zCU at h
 rw [hs] at h
 simp at h
 simp [h.2.2.2]
theorem zKr {e:zL} (hk:1≤e.Kind∧e.Kind≤12) (hb:zCU e=false):zCl 200000 (zBM e.Kind) e=some (zD5 e):=by
 unfold zCl zD5
 rw [(zI4 hk).1,zAx,zE1]
 cases hn:y5 e.Kind
 ·cases hs:xM e.Kind
  ·rw [zNs (zNu hb hs)];rfl
  ·rfl
 ·rfl
theorem zOQ {e:zL} (hk:1≤e.Kind∧e.Kind≤12) (hb:zCU e=false) :
  (bif ((zBM e.Kind).n&&(decide (e.N<(zBM e.Kind).least)||decide (e.N>(zBM e.Kind).most))) then some (2:Int) else
  (bif ((e.Kind==(9:Int))&&((e.N != (2:Int))&&(e.M != (0:Int)))) then some (1:Int) else
  (bif ((zBM e.Kind).m&&(bif decide (e.M<(zBM e.Kind).mLeast) then ((e.Kind != (9:Int))||(e.N==(2:Int))) else (decide (e.M>(zBM e.Kind).mMost)&&((e.Kind != (9:Int))||(e.N==(2:Int)))))) then some (2:Int) else
  some (0:Int))))=some (zFl e):=by
 have:e.Kind=1∨e.Kind=2∨e.Kind=3∨e.Kind=4∨e.Kind=5∨e.Kind=6∨e.Kind=7∨e.Kind=8∨e.Kind=9∨e.Kind=10∨e.Kind=11∨e.Kind=12:=by omega
 unfold zFl
 rcases this with h | h | h | h | h | h | h | h | h | h | h | h<;>rw [h]<;>simp [zBM,zBf,y7,tY,Bool.cond_eq_ite]<;>(repeat' split)<;>first | rfl | omega | (simp at *;omega)
theorem zDD {e:zL}:nD 200000 e=some (evS e):=by
 unfold nD evS
 by_cases h1:e.At<0∨e.At>1000000000000
 ·rw [if_pos h1]
  have:(decide (e.At<(0:Int))||decide (e.At>(1000000000000:Int)))=true:=by simpa using h1
  rw [this];rfl
 rw [if_neg h1]
 have g1:(decide (e.At<(0:Int))||decide (e.At>(1000000000000:Int)))=false:=by simp;omega
 rw [g1,cond_false,zJH,zbs]
 by_cases h2:e.Kind<1∨e.Kind>12
 ·rw [if_pos h2,if_pos h2];rfl
 rw [if_neg h2,if_neg h2]
 have hu:=zI4 (k:=e.Kind) (by omega)
 simp only [Bool.not_true,cond_false]
 rw [hu.1,hu.2.1,hu.2.2.1,hu.2.2.2,zPR,zbs,← zIt]
 cases hb:zCU e
 case true=>rfl
 simp only [cond_false]
 rw [zKr (by omega) hb,zbs]
 by_cases ht:zD5 e=0
 ·rw [xD ht,cond_false,← hu.2.1,← hu.2.2.1,zOQ (by omega) hb];simp [ht]
 ·rw [xW ht,cond_true];simp [ht]
theorem zM2 {a b:List (List Int)} (ha:a.length≤100000):zD0 200000 a b=some (decide (a=b)):=by
 unfold zD0
 by_cases hl:(a.length:Int)≠b.length
 ·rw [xW hl,cond_true,yI (fun e=>hl (by rw [e]))]
 rw [xD (by omega),cond_false,zPr (a:=a) (b:=b) (zBy 200000 a b) (by omega) ha (fun n i hi=>by
  show qL _ _ _ _ _=_
  unfold qL
  simp (disch:=omega) only [yI,cond_false]) (fun n i x y r r2 hd hd2 hlt=>by
  show qL _ _ _ _ _=_
  unfold qL
  simp (disch:=omega) only [yW,cond_true,x3 hd,x3 hd2,zbs,vS]
  by_cases h:x=y
  ·rw [zEK h,if_pos h];rfl
  ·rw [zJs h,if_neg h];rfl),zbs]
 by_cases h:a=b
 ·rw [if_pos h,yW h]
 ·rw [if_neg h,yI h]
theorem zRz (a b:zL):(bif (a.At==b.At) then (bif (a.Kind==b.Kind) then (bif (a.Name==b.Name) then (bif (a.N==b.N) then (bif (a.M==b.M) then some (decide (a.Stack=b.Stack)) else some false) else some false) else some false) else some false) else some false)=some (decide (a=b)):=by
 by_cases h1:a.At=b.At
 case neg=>rw [zBU h1,yI (p:=a=b) (fun e=>h1 (by rw [e]))];rfl
 by_cases h2:a.Kind=b.Kind
 case neg=>rw [kZ h1,zBU h2,yI (p:=a=b) (fun e=>h2 (by rw [e]))];rfl
 by_cases h3:a.Name=b.Name
 case neg=>rw [kZ h1,kZ h2,zJs h3,yI (p:=a=b) (fun e=>h3 (by rw [e]))];rfl
 by_cases h4:a.N=b.N
 case neg=>rw [kZ h1,kZ h2,zEK h3,zBU h4,yI (p:=a=b) (fun e=>h4 (by rw [e]))];rfl
 by_cases h5:a.M=b.M
 case neg=>rw [kZ h1,kZ h2,zEK h3,kZ h4,zBU h5,yI (p:=a=b) (fun e=>h5 (by rw [e]))];rfl
 rw [kZ h1,kZ h2,zEK h3,kZ h4,kZ h5]
 simp only [cond_true]
 by_cases h6:a.Stack=b.Stack
 ·have:a=b:=by cases a;cases b;simp_all
  rw [yW h6,yW this]
 ·rw [yI h6,yI (p:=a=b) (fun e=>h6 (by rw [e]))]
theorem zNJ {a b:zL} (ha:a.Stack.length≤100000):zEF 200000 a b=some (decide (a=b)):=by
 unfold zEF
 simp only [zM2 ha,zbs]
 rw [zRz,zbs]
end Go.Ab
