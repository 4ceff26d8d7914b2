/- Plain laws of the functions t3 this seat's, laid anew from another seat's text. No conditions but those that the theorems name. -/
import Derived.Test.YtbifmbdcejggkaaP16xD
import Derived.Test.YtbifmbdcejggkaaA37
namespace Go.Ab
open Go
set_option linter.unusedVariables false
def t6:List Int:=[95,46,58,47,60,62,36,42,126,45]
def kR (c:Int):Bool:=decide (97≤c∧c≤122)||decide (65≤c∧c≤90)||decide (48≤c∧c≤57)||t6.contains c
def jY (s:List Int):Int:=if s=[]∨40<s.length then 3 else if s.all kR then 0 else 3
theorem zDZ {α R:Type} {l:List α} (L:Nat→Int→Option (Unit⊕R)) (f:Nat→α→Option R)
  (h0:∀ n i,l.length≤i→L (n+1) (i:Nat)=some (.inl ()))
  (h1:∀ n i x r,l.drop i=x::r→i<l.length→(∀ b,f i x=some b→L (n+1) (i:Nat)=some (.inr b))∧(f i x=none→L (n+1) (i:Nat)=L n ((i+1:Nat):Int)))
  {n:Nat} (hn:l.length<n):L n 0=some (xI f 0 l):=by
 have:=zOY (l:=l) (σ:=Unit) (fun n i _=>L n i) (fun i r _=>xI f i r) (fun _ _=>True) (fun n i _ hi _=>h0 n i hi) ?_ (n:=n) (s:=()) trivial hn
 ·exact this
 ·intro n i _ x r hd hlt _ ih
  obtain ⟨k1,k2⟩:=h1 n i x r hd hlt
  simp only [xI]
  cases hf:f i x with
  | none=>rw [k2 hf];exact ih () trivial
  | some b=>rw [k1 b hf]
theorem zJs {α:Type} (p:α→Bool):∀ (l:List α) (i:Nat),xI (fun _ x=>if p x then some true else none) i l=if l.any p then .inr true else .inl ():=by
 intro l
 induction l with
 | nil=>intro i;rfl
 | cons x r ih =>
  intro i
  simp only [xI]
  by_cases hp:p x=true
  ·have ea:(x::r).any p=true:=by simp [hp]
   rw [if_pos hp,if_pos ea]
  ·have ea:(x::r).any p=r.any p:=by simp [hp]
   rw [if_neg hp,ih (i+1),ea]
theorem zGW {c:Int}:qA 200000 c 200000 0=some (if t6.contains c then .inr true else .inl ()):=by
 have:=zDZ (l:=t6) (qA 200000 c) (fun _ x=>if x==c then some true else none) ?_ ?_ (n:=200000) (by show 10<200000;omega)
 ·rw [this,zJs (fun x=>x==c)]
  have e:t6.any (fun x=>x==c)=t6.contains c:=by
   rw [List.contains_eq_any_beq];congr 1;funext x;exact BEq.comm
  rw [e]
 ·intro n i hi
  show uN 200000 c _ _=_
  unfold uN
  change t6.length≤i at hi
  have h10:t6.length=10:=rfl
  rw [yH (by rw [show ([95,46,58,47,60,62,36,42,126,45]:List Int)=t6 from rfl];omega),cond_false]
 ·intro n i x r hd hlt
  have h10:t6.length=10:=rfl
  have e:qA 200000 c (n+1) (i:Nat)=(bif (x==c) then some (.inr true) else qA 200000 c n ((i+1:Nat):Int)):=by
   show uN 200000 c _ _=_
   unfold uN
   rw [show ([95,46,58,47,60,62,36,42,126,45]:List Int)=t6 from rfl,yK (by omega),cond_true,yX hd,Option.bind_some,wI (by omega)]
  rw [e]
  constructor
  ·intro b hb
   by_cases hx:(x==c)=true
   ·rw [if_pos hx] at hb;injection hb with hb;subst hb;rw [hx];rfl
   ·rw [if_neg hx] at hb;cases hb
  ·intro hb
   by_cases hx:(x==c)=true
   ·rw [if_pos hx] at hb;cases hb
   ·rw [Bool.not_eq_true] at hx;rw [hx];rfl
theorem zKT (c:Int):∀ l:List Int, -1≤uT l c∧decide (uT l c≥0)=l.contains c:=by
 intro l
 induction l with
 | nil=>simp [uT]
 | cons b l ih =>
  unfold uT
  rw [List.contains_cons]
  by_cases h:b=c
  ·rw [if_pos h];subst h;simp
  ·rw [if_neg h]
   have hb:(c==b)=false:=by simpa using Ne.symm h
   rw [hb,Bool.false_or]
   by_cases h2:uT l c = -1
   ·rw [if_pos h2]
    have:=ih.2;rw [h2] at this
    exact ⟨by omega,this⟩
   ·rw [if_neg h2]
    refine ⟨by omega,?_⟩
    rw [← ih.2]
    have:=ih.1
    rw [yK (by omega),yK (by omega)]
theorem zIx {c:Int}:decide (uT t6 c≥0)=t6.contains c:=(zKT c t6).2
theorem zFQ {c:Int}:pP c=some (kR c):=by
 unfold pP w8 qQ
 have h:=zIx (c:=c)
 unfold t6 at h
 unfold kR t6
 simp only [Option.bind_some,h]
 by_cases c1:c≥97<;>by_cases c2:c≤122<;>by_cases c3:c≥65<;>by_cases c4:c≤90<;>by_cases c5:c≥48<;>by_cases c6:c≤57<;>simp [c1,c2,c3,c4,c5,c6]<;>omega
theorem zIk {c:Int}:zBb 200000 c=some (kR c):=by
 unfold zBb
 rw [zGW]
 unfold kR
 by_cases hs:t6.contains c=true
 ·rw [if_pos hs]
  simp only [hs,Bool.or_true,Option.bind_some]
  cases (bif decide (c≥(97:Int)) then (decide (c≤(122:Int))||(bif decide (c≥(65:Int)) then (decide (c≤(90:Int))||(decide (c≥(48:Int))&&decide (c≤(57:Int)))) else (decide (c≥(48:Int))&&decide (c≤(57:Int))))) else (bif decide (c≥(65:Int)) then (decide (c≤(90:Int))||(decide (c≥(48:Int))&&decide (c≤(57:Int)))) else (decide (c≥(48:Int))&&decide (c≤(57:Int)))))<;>rfl
 ·rw [if_neg hs]
  rw [Bool.not_eq_true] at hs
  simp only [hs,Bool.or_false,Option.bind_some]
  by_cases c1:c≥97<;>by_cases c2:c≤122<;>by_cases c3:c≥65<;>by_cases c4:c≤90<;>by_cases c5:c≥48<;>by_cases c6:c≤57<;>simp [c1,c2,c3,c4,c5,c6]<;>omega
theorem zEF {α R:Type} (p:α→Bool) (v:R):∀ (l:List α) (i:Nat),xI (fun _ x=>if p x=false then some v else none) i l=if l.all p=true then .inl () else .inr v:=by
 intro l
 induction l with
 | nil=>intro i;rfl
 | cons x r ih =>
  intro i
  simp only [xI]
  by_cases hp:p x=false
  ·have ea:¬(x::r).all p=true:=by simp [hp]
   rw [if_pos hp,if_neg ea]
  ·have ea:(x::r).all p=r.all p:=by simp at hp;simp [hp]
   rw [if_neg hp,ih (i+1),ea]
theorem zHW {l:List Int} (L:Nat→Int→Option (Unit⊕Int)) (hl:l.length≤40)
  (e:∀ n i,L (n+1) (i:Nat)=bif decide (((i:Nat):Int)<((l.length:Nat):Int)) then (xD l (i:Nat)).bind fun c=>(bif !(kR c) then some (.inr (3:Int)) else L n (zR ((i:Nat)+(1:Int)))) else some (.inl ())) :
  L 200000 0=some (if l.all kR=true then .inl () else .inr 3):=by
 have:=zDZ (l:=l) L (fun _ x=>if kR x=false then some 3 else none) ?_ ?_ (n:=200000) (by omega)
 ·rw [this,zEF]
 ·intro n i hi
  rw [e,yH (by omega),cond_false]
 ·intro n i x r hd hlt
  rw [e,yK (by omega),cond_true,yX hd,Option.bind_some,wI (by omega)]
  cases kR x<;>simp
theorem zBk {l:List Int}:j6 200000 l=some (jY l):=by
 unfold j6 jY
 by_cases h:l=[]∨40<l.length
 ·have:((l==([]:List Int))||decide ((((l).length:Nat):Int)>(40:Int)))=true:=by
   rcases h with h | h
   ·rw [h];rfl
   ·rw [yK (p:=((l.length:Nat):Int)>40) (by omega),Bool.or_true]
  rw [this,cond_true,if_pos h]
 ·have:((l==([]:List Int))||decide ((((l).length:Nat):Int)>(40:Int)))=false:=by
   have hb:(l==([]:List Int))=false:=by
    cases l with
    | nil=>exact absurd (.inl rfl) h
    | cons a r=>rfl
   rw [hb,yH (by omega)];rfl
  rw [this,cond_false,if_neg h,zHW (l:=l) (kO 200000 l) (by omega) (fun n i=>by
   show qE 200000 l _ _=_
   unfold qE
   simp only [zFQ,Option.bind_some]),Option.bind_some]
  by_cases ha:l.all kR=true
  ·rw [if_pos ha,if_pos ha]
  ·rw [if_neg ha,if_neg ha]
theorem zDh {l:List Int}:zAC 200000 l=some (jY l):=by
 unfold zAC jY
 by_cases h:l=[]∨40<l.length
 ·have:(decide ((((l).length:Nat):Int)<(1:Int))||decide ((((l).length:Nat):Int)>(40:Int)))=true:=by
   rcases h with h | h
   ·rw [h];rfl
   ·rw [yK (p:=((l.length:Nat):Int)>40) (by omega),Bool.or_true]
  rw [this,cond_true,if_pos h]
 ·have hp:0<l.length:=List.length_pos_iff.2 (fun hc=>h (.inl hc))
  have:(decide ((((l).length:Nat):Int)<(1:Int))||decide ((((l).length:Nat):Int)>(40:Int)))=false:=by
   rw [yH (by omega),yH (by omega)];rfl
  rw [this,cond_false,if_neg h,zHW (l:=l) (zAk 200000 l) (by omega) (fun n i=>by
   show jF 200000 l _ _=_
   unfold jF
   simp only [zIk,Option.bind_some]),Option.bind_some]
  by_cases ha:l.all kR=true
  ·rw [if_pos ha,if_pos ha]
  ·rw [if_neg ha,if_neg ha]
def zAJ (l:List (List Int)):Int:=if 32<l.length then 7 else if l.all (fun s=>decide (jY s=0)) then 0 else 3
theorem zJe (s:List Int):jY s=0∨jY s=3:=by
 unfold jY;split
 ·exact .inr rfl
 ·split
  ·exact .inl rfl
  ·exact .inr rfl
theorem zFu {l:List (List Int)} (L:Nat→Int→Option (Unit⊕Int)) (hl:l.length≤100000)
  (e:∀ n i,L (n+1) (i:Nat)=bif decide (((i:Nat):Int)<((l.length:Nat):Int)) then (xD l (i:Nat)).bind fun c=>(bif (jY c != (0:Int)) then some (.inr (3:Int)) else L n (zR ((i:Nat)+(1:Int)))) else some (.inl ())) :
  L 200000 0=some (if l.all (fun s=>decide (jY s=0))=true then .inl () else .inr 3):=by
 have:=zDZ (l:=l) L (fun _ x=>if decide (jY x=0)=false then some 3 else none) ?_ ?_ (n:=200000) (by omega)
 ·rw [this,zEF (fun s=>decide (jY s=0))]
 ·intro n i hi
  rw [e,yH (by omega),cond_false]
 ·intro n i x r hd hlt
  rw [e,yK (p:=((i:Nat):Int)<((l.length:Nat):Int)) (by omega),cond_true,yX hd,Option.bind_some,wI (by omega)]
  rcases zJe x with h | h<;>simp [h]
theorem zFV {l:List (List Int)}:pS 200000 l=some (zAJ l):=by
 unfold pS zAJ
 by_cases h:32<l.length
 ·rw [yK (by omega),cond_true,if_pos h]
 ·rw [yH (by omega),cond_false,if_neg h,zFu (l:=l) (jD 200000 l) (by omega) (fun n i=>by
   show tV 200000 l _ _=_
   unfold tV
   simp only [zBk,Option.bind_some]
   congr 1;congr 1;funext c
   rcases zJe c with h | h<;>rw [h]<;>rfl),Option.bind_some]
  by_cases ha:l.all (fun s=>decide (jY s=0))=true
  ·rw [if_pos ha,if_pos ha]
  ·rw [if_neg ha,if_neg ha]
theorem zIe {l:List (List Int)}:zBc 200000 l=some (zAJ l):=by
 unfold zBc zAJ
 by_cases h:32<l.length
 ·rw [yK (by omega),cond_true,if_pos h]
 ·rw [yH (by omega),cond_false,if_neg h,zFu (l:=l) (pO 200000 l) (by omega) (fun n i=>by
   show qM 200000 l _ _=_
   unfold qM
   simp only [zDh,Option.bind_some]),Option.bind_some]
  by_cases ha:l.all (fun s=>decide (jY s=0))=true
  ·rw [if_pos ha,if_pos ha]
  ·rw [if_neg ha,if_neg ha]
def toO (v:Int):Unit⊕Int:=if v=0 then .inl () else .inr v
theorem zMO {v:Int} (h:v≠0):toO v=.inr v:=if_neg h
end Go.Ab
