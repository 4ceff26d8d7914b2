/- Lemmas. No conditions but those that they name. -/
import Derived.Test.YtcejcgalbcnjnaaGreatCte
namespace Go.Ab
open Go
set_option linter.unusedVariables false
def C9 (l:z6):Int:=if (cY l.Xc l.Xa).2=0 then (if (cY l.Xc l.Xa).1=l then 0 else 10) else (cY l.Xc l.Xa).2
structure Small (h:wR) (l:List zO):Prop where
 t:h.Xd.length<=100000
 d:h.Xi.length<=100000
 s:h.Xl.length<=100000
 len:l.length<=100000
 n:evN l<=100000
theorem ZV {l:z6} (h:Small l.Xc l.Xa):rV 281474976710656 l=some (C9 l):=by
 unfold rV C9;rw [zJa h.t h.d h.s h.len h.n,zbs,zHz (zG5 h.t h.d h.s h.n)]
 by_cases h0:(cY l.Xc l.Xa).2=0
 ·rw [if_pos h0,qN h0]
  by_cases h1:(cY l.Xc l.Xa).1=l
  ·rw [if_pos h1,wE h1,<- h0];rfl
  ·rw [if_neg h1,xN h1];rfl
 ·rw [if_neg h0,nK h0];rfl
theorem zHk {h:wR} {l:List zO} (h0:(cY h l).2=0):gF h=0/\ZW h l/\cY h l=(⟨h,DE h l⟩,0):=by
 unfold cY at *
 split at h0
 ·rename_i h1;exact absurd h0 h1
 rename_i h1
 split at h0
 ·rename_i h2;exact absurd h0 h2
 rename_i h2
 rw [if_neg h1,if_neg h2];exact ⟨by omega,zAo.1 (by omega),rfl⟩
theorem YT {l:z6} (h:C9 l=0):gF l.Xc=0/\ZW l.Xc l.Xa/\DE l.Xc l.Xa=l.Xa:=by
 unfold C9 at h
 by_cases h0:(cY l.Xc l.Xa).2=0
 ·obtain ⟨k1,k2,k3⟩:=zHk h0;rw [if_pos h0] at h
  by_cases h1:(cY l.Xc l.Xa).1=l
  ·refine ⟨k1,k2,?_⟩;rw [k3] at h1;exact congrArg z6.Xa h1
  ·rw [if_neg h1] at h;omega
 ·rw [if_neg h0] at h;exact absurd h h0
def bQ (p:zO):List xU:=(List.range p.Xe.length).map fun i=>⟨p.Xb,p.Xf+(i:Nat)⟩
def uE (l:List zO):List xU:=l.flatMap bQ
def V7 (l:z6):List xU:=if C9 l=0 then uE l.Xa else []
theorem rK (l:List zO):(uE l).length=evN l:=by
 induction l with
 | nil=>rfl
 | cons a r ih=>simp [uE,bQ,evN] at *
theorem zGm {x:zO} (hx:kY x=0) {row:List xU} (hr:row.length<=200000):∀ (n j:Nat),j<=x.Xe.length->x.Xe.length - j<n ->
  LV 281474976710656 x n (j:Nat) (row++(List.range j).map fun i=>⟨x.Xb,x.Xf+(i:Nat)⟩)=some (row++bQ x):=by
 have hz:=lJ hx;intro n
 induction n with
 | zero=>intro j _ h;omega
 | succ n ih =>
  intro j hj hn;show UW _ _ _ _ _=_;unfold UW;rcases zlg j x.Xe.length with hlt | hge
  ·rw [wE (by omega),cond_true,w64 (by omega) (by omega),tB (by simp;omega),zbs,j6 (by omega)]
   have:=ih (j+1) (by omega) (by omega)
   rw [List.range_succ,nH,<- oT] at this;exact this
  ·have:j=x.Xe.length:=by omega
   subst this;rw [xN (by omega),cond_false];rfl
theorem zOm {l:z6} (hl:l.Xa.length<=100000) (hN:evN l.Xa<=100000) (hv:o9 l.Xa):∀ (n i:Nat),(l.Xa.drop i).length<n->HQ 281474976710656 l n (i:Nat) (uE (l.Xa.take i))=some (uE l.Xa):=by
 intro n
 induction n with
 | zero=>intro i h;omega
 | succ n ih =>
  intro i hn;show XD _ _ _ _ _=_;unfold XD;rcases hd:l.Xa.drop i with _ | ⟨x,r⟩
  ·have:=fM hd
   rw [xN (by omega),cond_false,kC this]
  ·have hi:=fL hd;rw [hd] at hn;simp only [zlc] at hn;have hx:=hv x (OO hd);have hz:=lJ hx
   have:=ih (i+1) (by rw [nN hd];omega)
   rw [lD hd,show uE (l.Xa.take i++[x])=uE (l.Xa.take i)++bQ x by simp [uE]] at this;have hin:=zGm hx (row:=uE (l.Xa.take i)) (by rw [rK];have:=RA l.Xa i;omega) 281474976710656 0 (by omega) (by omega);simp only [List.range_zero,MB,aE] at hin;rw [wE (by omega),cond_true,qB hd,zbs,j6 (by omega),show LV 281474976710656 x 281474976710656 (0:Int) (uE (l.Xa.take i))=_ from hin,zbs];exact this
theorem zD9 {l:z6} (h:Small l.Xc l.Xa):C1 281474976710656 l=some (V7 l):=by
 unfold C1 V7;rw [ZV h,zbs]
 by_cases h0:C9 l=0
 ·rw [if_pos h0,tV h0,cond_false]
  have:=zOm h.len h.n (YT h0).2.1.passed.valids 281474976710656 0 (by have:=h.len;simp;omega)
  rw [show HQ 281474976710656 l 281474976710656 (0:Int) []=_ from this];rfl
 ·rw [if_neg h0,aN h0];rfl
end Go.Ab
