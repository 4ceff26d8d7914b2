/- Lemmas. No conditions but those that they name. -/
import Derived.Test.YtcejcgalbcnjnaaGreatPtxD
namespace Go.Ab
open Go
set_option linter.unusedVariables false
def JX:List Int:=[95,46,58,47,60,62,36,42,126,45]
def BS (c:Int):Bool:=decide (97<=c/\c<=122)||decide (65<=c/\c<=90)||decide (48<=c/\c<=57)||JX.contains c
def fQ (s:List Int):Int:=if s=[]\/40<s.length then 3 else if s.all BS then 0 else 3
theorem zBX {α R:Type} {l:List α} (L:Nat->Int->Option (Unit⊕R)) (f:Nat->α->Option R)
  (h0:∀ n i,l.length<=i->L (n+1) (i:Nat)=some (.inl ()))
  (h1:∀ n i x r,l.drop i=x::r->i<l.length->(∀ b,f i x=some b->L (n+1) (i:Nat)=some (.inr b))/\(f i x=none->L (n+1) (i:Nat)=L n ((i+1:Nat):Int)))
  {n:Nat} (hn:l.length<n):L n 0=some (u6 f 0 l):=by
 have:=zMo (l:=l) (σ:=Unit) (fun n i _=>L n i) (fun i r _=>u6 f i r) (fun _ _=>True) (fun n i _ hi _=>h0 n i hi) ?_ (n:=n) (s:=()) trivial hn
 ·exact this
 ·intro n i _ x r hd hlt _ ih;obtain ⟨k1,k2⟩:=h1 n i x r hd hlt;simp only [u6];cases hf:f i x with
  | none=>rw [k2 hf];exact ih () trivial
  | some b=>rw [k1 b hf]
theorem zK6 (c:Int):∀ l:List Int, -1<=nI l c/\decide (nI l c>=0)=l.contains c:=by
 intro l
 induction l with
 | nil=>simp [nI]
 | cons b l ih =>
  unfold nI;rw [List.contains_cons]
  by_cases h:b=c
  ·rw [if_pos h];subst h;simp
  ·rw [if_neg h];have hb:(c==b)=false:=by simpa using Ne.symm h
   rw [hb,Bool.false_or]
   by_cases h2:nI l c = -1
   ·rw [if_pos h2]
    have:=ih.2;rw [h2] at this
    exact ⟨by omega,this⟩
   ·rw [if_neg h2];refine ⟨by omega,?_⟩;rw [<- ih.2]
    have:=ih.1
    rw [wE (by omega),wE (by omega)]
theorem zMS {c:Int}:decide (nI JX c>=0)=JX.contains c:=(zK6 c JX).2
theorem zLd {c:Int}:RC c=some (BS c):=by
 unfold RC mB V6;have h:=zMS (c:=c);unfold JX at h;unfold BS JX;simp only [zbs,h]
 by_cases c1:c>=97<;>by_cases c2:c<=122<;>by_cases c3:c>=65<;>by_cases c4:c<=90<;>by_cases c5:c>=48<;>by_cases c6:c<=57<;>simp [c1,c2,c3,c4,c5,c6]<;>omega
theorem zCd {α R:Type} (p:α->Bool) (v:R):∀ (l:List α) (i:Nat),u6 (fun _ x=>if p x=false then some v else none) i l=if l.all p=true then .inl () else .inr v:=by
 intro l
 induction l with
 | nil=>intro i;rfl
 | cons x r ih =>
  intro i;simp only [u6]
  by_cases hp:p x=false
  ·have ea:¬(x::r).all p=true:=by simp [hp]
   rw [if_pos hp,if_neg ea]
  ·have ea:(x::r).all p=r.all p:=by simp at hp;simp [hp]
   rw [if_neg hp,ih (i+1),ea]
theorem zNH {l:List Int} (L:Nat->Int->Option (Unit⊕Int)) (hl:l.length<=40)
  (e:∀ n i,L (n+1) (i:Nat)=bif decide (((i:Nat):Int)<((l.length:Nat):Int)) then (z0 l (i:Nat)).bind fun c=>(bif !(BS c) then some (.inr (3:Int)) else L n (zG ((i:Nat)+(1:Int)))) else some (.inl ())) :
  L 281474976710656 0=some (if l.all BS=true then .inl () else .inr 3):=by
 have:=zBX (l:=l) L (fun _ x=>if BS x=false then some 3 else none) ?_ ?_ (n:=281474976710656) (by omega)
 ·rw [this,zCd]
 ·intro n i hi;rw [e,xN (by omega),cond_false]
 ·intro n i x r hd hlt;rw [e,wE (by omega),cond_true,qB hd,zbs,j6 (by omega)];cases BS x<;>simp
theorem zA3 {l:List Int}:GE 281474976710656 l=some (fQ l):=by
 unfold GE fQ
 by_cases h:l=[]\/40<l.length
 ·have:((l==([]:List Int))||decide ((((l).length:Nat):Int)>(40:Int)))=true:=by
   rcases h with h | h
   ·rw [h];rfl
   ·rw [wE (p:=((l.length:Nat):Int)>40) (by omega),Bool.or_true]
  rw [this,cond_true,if_pos h]
 ·have:((l==([]:List Int))||decide ((((l).length:Nat):Int)>(40:Int)))=false:=by
   have hb:(l==([]:List Int))=false:=by
    cases l with
    | nil=>exact absurd (.inl rfl) h
    | cons a r=>rfl
   rw [hb,xN (by omega)];rfl
  rw [this,cond_false,if_neg h,zNH (l:=l) (LZ 281474976710656 l) (by omega) (fun n i=>by
   show S4 281474976710656 l _ _=_;unfold S4;simp only [zLd,zbs]),zbs]
  by_cases ha:l.all BS=true
  ·rw [if_pos ha,if_pos ha]
  ·rw [if_neg ha,if_neg ha]
def M9 (l:List (List Int)):Int:=if 32<l.length then 7 else if l.all (fun s=>decide (fQ s=0)) then 0 else 3
theorem zDy (s:List Int):fQ s=0\/fQ s=3:=by
 unfold fQ;split
 ·exact .inr rfl
 ·split
  ·exact .inl rfl
  ·exact .inr rfl
theorem zIk {l:List (List Int)} (L:Nat->Int->Option (Unit⊕Int)) (hl:l.length<=100000)
  (e:∀ n i,L (n+1) (i:Nat)=bif decide (((i:Nat):Int)<((l.length:Nat):Int)) then (z0 l (i:Nat)).bind fun c=>(bif (fQ c != (0:Int)) then some (.inr (3:Int)) else L n (zG ((i:Nat)+(1:Int)))) else some (.inl ())) :
  L 281474976710656 0=some (if l.all (fun s=>decide (fQ s=0))=true then .inl () else .inr 3):=by
 have:=zBX (l:=l) L (fun _ x=>if decide (fQ x=0)=false then some 3 else none) ?_ ?_ (n:=281474976710656) (by omega)
 ·rw [this,zCd (fun s=>decide (fQ s=0))]
 ·intro n i hi;rw [e,xN (by omega),cond_false]
 ·intro n i x r hd hlt;rw [e,wE (p:=((i:Nat):Int)<((l.length:Nat):Int)) (by omega),cond_true,qB hd,zbs,j6 (by omega)];rcases zDy x with h | h<;>simp [h]
theorem zJL {l:List (List Int)}:L9 281474976710656 l=some (M9 l):=by
 unfold L9 M9
 by_cases h:32<l.length
 ·rw [wE (by omega),cond_true,if_pos h]
 ·rw [xN (by omega),cond_false,if_neg h,zIk (l:=l) (QZ 281474976710656 l) (by omega) (fun n i=>by
   show SI 281474976710656 l _ _=_;unfold SI;simp only [zA3,zbs]
   congr 1;congr 1;funext c
   rcases zDy c with h | h<;>rw [h]<;>rfl),zbs]
  by_cases ha:l.all (fun s=>decide (fQ s=0))=true
  ·rw [if_pos ha,if_pos ha]
  ·rw [if_neg ha,if_neg ha]
def toO (v:Int):Unit⊕Int:=if v=0 then .inl () else .inr v
theorem zOk {v:Int} (h:v≠0):toO v=.inr v:=if_neg h
end Go.Ab
