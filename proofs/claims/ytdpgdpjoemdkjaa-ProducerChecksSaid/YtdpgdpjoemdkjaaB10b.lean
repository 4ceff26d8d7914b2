/- Plain laws of the functions tL this seat's, laid anew from another seat's text. No conditions but those that the theorems name. -/
import Derived.Test.YtdpgdpjoemdkjaaP10xD
import Derived.Test.YtdpgdpjoemdkjaaA35
namespace Go.Ab
open Go
set_option linter.unusedVariables false
def jI:List Int:=[95,46,58,47,60,62,36,42,126,45]
def zAe (c:Int):Bool:=decide (97≤c∧c≤122)||decide (65≤c∧c≤90)||decide (48≤c∧c≤57)||jI.contains c
def vX {α:Type} [DecidableEq α] (s:α):Nat→List α→Int
 | _,[] => -1
 | i,x::r=>if x=s then (i:Int) else vX s (i+1) r
theorem zAw {α:Type} [DecidableEq α] (s:α):∀ (l:List α) (i:Nat),(vX s i l = -1∧s∉l)∨∃ j,l[j]?=some s∧vX s i l=((i+j:Nat):Int):=by
 intro l
 induction l with
 | nil=>intro i;exact .inl ⟨rfl,by simp⟩
 | cons x r ih =>
  intro i
  unfold vX
  by_cases h:x=s
  ·exact .inr ⟨0,by simp [h],by simp [h]⟩
  ·rw [if_neg h]
   rcases ih (i+1) with ⟨h1,h2⟩ | ⟨j,h1,h2⟩
   ·exact .inl ⟨h1,by simp [h2,Ne.symm h]⟩
   ·exact .inr ⟨j+1,by simpa using h1,by rw [h2];omega⟩
def uG (s:List Int):Int:=if s=[]∨40<s.length then 3 else if s.all zAe then 0 else 3
theorem zAu {α R:Type} {l:List α} (L:Nat→Int→Option (Unit⊕R)) (f:Nat→α→Option R)
  (h0:∀ n i,l.length≤i→L (n+1) (i:Nat)=some (.inl ()))
  (h1:∀ n i x r,l.drop i=x::r→i<l.length→(∀ b,f i x=some b→L (n+1) (i:Nat)=some (.inr b))∧(f i x=none→L (n+1) (i:Nat)=L n ((i+1:Nat):Int)))
  {n:Nat} (hn:l.length<n):L n 0=some (pO f 0 l):=by
 have:=zGM (l:=l) (σ:=Unit) (fun n i _=>L n i) (fun i r _=>pO f i r) (fun _ _=>True) (fun n i _ hi _=>h0 n i hi) ?_ (n:=n) (s:=()) trivial hn
 ·exact this
 ·intro n i _ x r hd hlt _ ih
  obtain ⟨k1,k2⟩:=h1 n i x r hd hlt
  simp only [pO]
  cases hf:f i x with
  | none=>rw [k2 hf];exact ih () trivial
  | some b=>rw [k1 b hf]
theorem zLh {α:Type} (p:α→Bool):∀ (l:List α) (i:Nat),pO (fun _ x=>if p x then some true else none) i l=if l.any p then .inr true else .inl ():=by
 intro l
 induction l with
 | nil=>intro i;rfl
 | cons x r ih =>
  intro i
  simp only [pO]
  by_cases hp:p x=true
  ·have ea:(x::r).any p=true:=by simp [hp]
   rw [if_pos hp,if_pos ea]
  ·have ea:(x::r).any p=r.any p:=by simp [hp]
   rw [if_neg hp,ih (i+1),ea]
theorem zI8 {c:Int}:jK 200000 c 200000 0=some (if jI.contains c then .inr true else .inl ()):=by
 have:=zAu (l:=jI) (jK 200000 c) (fun _ x=>if x==c then some true else none) ?_ ?_ (n:=200000) (by show 10<200000;omega)
 ·rw [this,zLh (fun x=>x==c)]
  have e:jI.any (fun x=>x==c)=jI.contains c:=by
   rw [List.contains_eq_any_beq];congr 1;funext x;exact BEq.comm
  rw [e]
 ·intro n i hi
  show tB 200000 c _ _=_
  unfold tB
  change jI.length≤i at hi
  have h10:jI.length=10:=rfl
  rw [yF (by rw [show ([95,46,58,47,60,62,36,42,126,45]:List Int)=jI from rfl];omega),cond_false]
 ·intro n i x r hd hlt
  have h10:jI.length=10:=rfl
  have e:jK 200000 c (n+1) (i:Nat)=(bif (x==c) then some (.inr true) else jK 200000 c n ((i+1:Nat):Int)):=by
   show tB 200000 c _ _=_
   unfold tB
   rw [show ([95,46,58,47,60,62,36,42,126,45]:List Int)=jI from rfl,yR (by omega),cond_true,xZ hd,zbs,vK (by omega)]
  rw [e]
  constructor
  ·intro b hb
   by_cases hx:(x==c)=true
   ·rw [if_pos hx] at hb;injection hb with hb;subst hb;rw [hx];rfl
   ·rw [if_neg hx] at hb;cases hb
  ·intro hb
   by_cases hx:(x==c)=true
   ·rw [if_pos hx] at hb;cases hb
   ·rw [Bool.not_eq_true] at hx;rw [hx];rfl
theorem zNE (c:Int):∀ l:List Int, -1≤tM l c∧decide (tM l c≥0)=l.contains c:=by
 intro l
 induction l with
 | nil=>simp [tM]
 | cons b l ih =>
  unfold tM
  rw [List.contains_cons]
  by_cases h:b=c
  ·rw [if_pos h];subst h;simp
  ·rw [if_neg h]
   have hb:(c==b)=false:=by simpa using Ne.symm h
   rw [hb,Bool.false_or]
   by_cases h2:tM l c = -1
   ·rw [if_pos h2]
    have:=ih.2;rw [h2] at this
    exact ⟨by omega,this⟩
   ·rw [if_neg h2]
    refine ⟨by omega,?_⟩
    rw [← ih.2]
    have:=ih.1
    rw [yR (by omega),yR (by omega)]
theorem zKQ {c:Int}:decide (tM jI c≥0)=jI.contains c:=(zNE c jI).2
theorem zHT {c:Int}:zAL c=some (zAe c):=by
 unfold zAL vG kS
 have h:=zKQ (c:=c)
 unfold jI at h
 unfold zAe jI
 simp only [zbs,h]
 by_cases c1:c≥97<;>by_cases c2:c≤122<;>by_cases c3:c≥65<;>by_cases c4:c≤90<;>by_cases c5:c≥48<;>by_cases c6:c≤57<;>simp [c1,c2,c3,c4,c5,c6]<;>omega
theorem zK5 {c:Int}:zCW 200000 c=some (zAe c):=by
 unfold zCW
 rw [zI8]
 unfold zAe
 by_cases hs:jI.contains c=true
 ·rw [if_pos hs]
  simp only [hs,Bool.or_true,zbs]
  cases (bif decide (c≥(97:Int)) then (decide (c≤(122:Int))||(bif decide (c≥(65:Int)) then (decide (c≤(90:Int))||(decide (c≥(48:Int))&&decide (c≤(57:Int)))) else (decide (c≥(48:Int))&&decide (c≤(57:Int))))) else (bif decide (c≥(65:Int)) then (decide (c≤(90:Int))||(decide (c≥(48:Int))&&decide (c≤(57:Int)))) else (decide (c≥(48:Int))&&decide (c≤(57:Int)))))<;>rfl
 ·rw [if_neg hs]
  rw [Bool.not_eq_true] at hs
  simp only [hs,Bool.or_false,zbs]
  by_cases c1:c≥97<;>by_cases c2:c≤122<;>by_cases c3:c≥65<;>by_cases c4:c≤90<;>by_cases c5:c≥48<;>by_cases c6:c≤57<;>simp [c1,c2,c3,c4,c5,c6]<;>omega
theorem zGy {α R:Type} (p:α→Bool) (v:R):∀ (l:List α) (i:Nat),pO (fun _ x=>if p x=false then some v else none) i l=if l.all p=true then .inl () else .inr v:=by
 intro l
 induction l with
 | nil=>intro i;rfl
 | cons x r ih =>
  intro i
  simp only [pO]
  by_cases hp:p x=false
  ·have ea:¬(x::r).all p=true:=by simp [hp]
   rw [if_pos hp,if_neg ea]
  ·have ea:(x::r).all p=r.all p:=by simp at hp;simp [hp]
   rw [if_neg hp,ih (i+1),ea]
theorem zKg {l:List Int} (L:Nat→Int→Option (Unit⊕Int)) (hl:l.length≤40)
  (e:∀ n i,L (n+1) (i:Nat)=bif decide (((i:Nat):Int)<((l.length:Nat):Int)) then (y2 l (i:Nat)).bind fun c=>(bif !(zAe c) then some (.inr (3:Int)) else L n (zI ((i:Nat)+(1:Int)))) else some (.inl ())) :
  L 200000 0=some (if l.all zAe=true then .inl () else .inr 3):=by
 have:=zAu (l:=l) L (fun _ x=>if zAe x=false then some 3 else none) ?_ ?_ (n:=200000) (by omega)
 ·rw [this,zGy]
 ·intro n i hi
  rw [e,yF (by omega),cond_false]
 ·intro n i x r hd hlt
  rw [e,yR (by omega),cond_true,xZ hd,zbs,vK (by omega)]
  cases zAe x<;>simp
theorem zAh {l:List Int}:j7 200000 l=some (uG l):=by
 unfold j7 uG
 by_cases h:l=[]∨40<l.length
 ·have:((l==([]:List Int))||decide ((((l).length:Nat):Int)>(40:Int)))=true:=by
   rcases h with h | h
   ·rw [h];rfl
   ·rw [yR (p:=((l.length:Nat):Int)>40) (by omega),Bool.or_true]
  rw [this,cond_true,if_pos h]
 ·have:((l==([]:List Int))||decide ((((l).length:Nat):Int)>(40:Int)))=false:=by
   have hb:(l==([]:List Int))=false:=by
    cases l with
    | nil=>exact absurd (.inl rfl) h
    | cons a r=>rfl
   rw [hb,yF (by omega)];rfl
  rw [this,cond_false,if_neg h,zKg (l:=l) (zAg 200000 l) (by omega) (fun n i=>by
   show jT 200000 l _ _=_
   unfold jT
   simp only [zHT,zbs]),zbs]
  by_cases ha:l.all zAe=true
  ·rw [if_pos ha,if_pos ha]
  ·rw [if_neg ha,if_neg ha]
theorem zCi {l:List Int}:zAy 200000 l=some (uG l):=by
 unfold zAy uG
 by_cases h:l=[]∨40<l.length
 ·have:(decide ((((l).length:Nat):Int)<(1:Int))||decide ((((l).length:Nat):Int)>(40:Int)))=true:=by
   rcases h with h | h
   ·rw [h];rfl
   ·rw [yR (p:=((l.length:Nat):Int)>40) (by omega),Bool.or_true]
  rw [this,cond_true,if_pos h]
 ·have hp:0<l.length:=List.length_pos_iff.2 (fun hc=>h (.inl hc))
  have:(decide ((((l).length:Nat):Int)<(1:Int))||decide ((((l).length:Nat):Int)>(40:Int)))=false:=by
   rw [yF (by omega),yF (by omega)];rfl
  rw [this,cond_false,if_neg h,zKg (l:=l) (zCe 200000 l) (by omega) (fun n i=>by
   show pR 200000 l _ _=_
   unfold pR
   simp only [zK5,zbs]),zbs]
  by_cases ha:l.all zAe=true
  ·rw [if_pos ha,if_pos ha]
  ·rw [if_neg ha,if_neg ha]
def t9 (l:List (List Int)):Int:=if 32<l.length then 7 else if l.all (fun s=>decide (uG s=0)) then 0 else 3
theorem zEH (s:List Int):uG s=0∨uG s=3:=by
 unfold uG;split
 ·exact .inr rfl
 ·split
  ·exact .inl rfl
  ·exact .inr rfl
theorem zHJ {l:List (List Int)} (L:Nat→Int→Option (Unit⊕Int)) (hl:l.length≤100000)
  (e:∀ n i,L (n+1) (i:Nat)=bif decide (((i:Nat):Int)<((l.length:Nat):Int)) then (y2 l (i:Nat)).bind fun c=>(bif (uG c != (0:Int)) then some (.inr (3:Int)) else L n (zI ((i:Nat)+(1:Int)))) else some (.inl ())) :
  L 200000 0=some (if l.all (fun s=>decide (uG s=0))=true then .inl () else .inr 3):=by
 have:=zAu (l:=l) L (fun _ x=>if decide (uG x=0)=false then some 3 else none) ?_ ?_ (n:=200000) (by omega)
 ·rw [this,zGy (fun s=>decide (uG s=0))]
 ·intro n i hi
  rw [e,yF (by omega),cond_false]
 ·intro n i x r hd hlt
  rw [e,yR (p:=((i:Nat):Int)<((l.length:Nat):Int)) (by omega),cond_true,xZ hd,zbs,vK (by omega)]
  rcases zEH x with h | h<;>simp [h]
theorem zE0 {l:List (List Int)}:nA 200000 l=some (t9 l):=by
 unfold nA t9
 by_cases h:32<l.length
 ·rw [yR (by omega),cond_true,if_pos h]
 ·rw [yF (by omega),cond_false,if_neg h,zHJ (l:=l) (pW 200000 l) (by omega) (fun n i=>by
   show qW 200000 l _ _=_
   unfold qW
   simp only [zAh,zbs]
   congr 1;congr 1;funext c
   rcases zEH c with h | h<;>rw [h]<;>rfl),zbs]
  by_cases ha:l.all (fun s=>decide (uG s=0))=true
  ·rw [if_pos ha,if_pos ha]
  ·rw [if_neg ha,if_neg ha]
theorem zGo {l:List (List Int)}:zBz 200000 l=some (t9 l):=by
 unfold zBz t9
 by_cases h:32<l.length
 ·rw [yR (by omega),cond_true,if_pos h]
 ·rw [yF (by omega),cond_false,if_neg h,zHJ (l:=l) (zAG 200000 l) (by omega) (fun n i=>by
   show kF 200000 l _ _=_
   unfold kF
   simp only [zCi,zbs]),zbs]
  by_cases ha:l.all (fun s=>decide (uG s=0))=true
  ·rw [if_pos ha,if_pos ha]
  ·rw [if_neg ha,if_neg ha]
theorem zE9 {α:Type} [DecidableEq α] {l:List α} {s:α} (L:Nat→Int→Option (Unit⊕Int)) (hl:l.length≤100000)
  (e:∀ n i x r,l.drop i=x::r→i<l.length→L (n+1) (i:Nat)=if x=s then some (.inr (i:Int)) else L n ((i+1:Nat):Int))
  (e0:∀ n i,l.length≤i→L (n+1) (i:Nat)=some (.inl ())):L 200000 0=some (if vX s 0 l = -1 then .inl () else .inr (vX s 0 l)):=by
 have:=zGM (l:=l) (σ:=Unit) (fun n i _=>L n i) (fun i r _=>if vX s i r = -1 then .inl () else .inr (vX s i r)) (fun _ _=>True) (fun n i _ hi _=>by simpa [vX] using e0 n i hi) ?_ (n:=200000) (s:=()) trivial (by omega)
 ·exact this
 ·intro n i _ x r hd hlt _ ih
  show L (n+1) (i:Nat)=_
  rw [e n i x r hd hlt]
  by_cases h:x=s
  ·have:vX s i (x::r)=(i:Int):=by simp [vX,h]
   rw [if_pos h,this,if_neg (by omega)]
  ·have:vX s i (x::r)=vX s (i+1) r:=by simp [vX,h]
   rw [if_neg h,this];exact ih () trivial
theorem zC9 {l:List (List Int)} {s:List Int} (hl:l.length≤100000):uQ 200000 l s=some (vX s 0 l):=by
 unfold uQ
 rw [zE9 (l:=l) (s:=s) (v7 200000 l s) hl (fun n i x r hd hlt=>by
  show wB 200000 l s _ _=_
  unfold wB
  rw [yR (p:=((i:Nat):Int)<((l.length:Nat):Int)) (by omega),cond_true,xZ hd,zbs,vK (by omega)]
  by_cases h:x=s
  ·rw [if_pos h,zES h.symm];rfl
  ·rw [if_neg h,zIU (fun hc=>h hc.symm)];rfl) (fun n i hi=>by
  show wB 200000 l s _ _=_
  unfold wB
  rw [yF (p:=((i:Nat):Int)<((l.length:Nat):Int)) (by omega),cond_false]),zbs]
 by_cases h:vX s 0 l = -1
 ·rw [if_pos h,h]
 ·rw [if_neg h]
theorem zHn {l:List (List Int)} {s:List Int} (hl:l.length≤100000):zDi 200000 l s=some (vX s 0 l):=by
 unfold zDi
 rw [zE9 (l:=l) (s:=s) (zCd 200000 l s) hl (fun n i x r hd hlt=>by
  show qP 200000 l s _ _=_
  unfold qP
  rw [yR (p:=((i:Nat):Int)<((l.length:Nat):Int)) (by omega),cond_true,xZ hd,zbs,vK (by omega)]
  by_cases h:x=s
  ·rw [if_pos h,zES h];rfl
  ·rw [if_neg h,zIU h];rfl) (fun n i hi=>by
  show qP 200000 l s _ _=_
  unfold qP
  rw [yF (p:=((i:Nat):Int)<((l.length:Nat):Int)) (by omega),cond_false]),zbs]
 by_cases h:vX s 0 l = -1
 ·rw [if_pos h,h]
 ·rw [if_neg h]
theorem zD4 {l:List (zO)} {s:zO} (hl:l.length≤100000):tC 200000 l s=some (vX s 0 l):=by
 unfold tC
 rw [zE9 (l:=l) (s:=s) (uI 200000 l s) hl (fun n i x r hd hlt=>by
  show wF 200000 l s _ _=_
  unfold wF
  rw [yR (p:=((i:Nat):Int)<((l.length:Nat):Int)) (by omega),cond_true,xZ hd,zbs,vK (by omega)]
  by_cases h:x=s
  ·rw [if_pos h,yR h.symm];rfl
  ·rw [if_neg h,yF (fun hc=>h hc.symm)];rfl) (fun n i hi=>by
  show wF 200000 l s _ _=_
  unfold wF
  rw [yF (p:=((i:Nat):Int)<((l.length:Nat):Int)) (by omega),cond_false]),zbs]
 by_cases h:vX s 0 l = -1
 ·rw [if_pos h,h]
 ·rw [if_neg h]
theorem zET {l:List (zO)} {s:zO} (hl:l.length≤100000):p9 200000 l s=some (vX s 0 l):=by
 unfold p9
 rw [zE9 (l:=l) (s:=s) (pP 200000 l s) hl (fun n i x r hd hlt=>by
  show uE 200000 l s _ _=_
  unfold uE
  rw [yR (p:=((i:Nat):Int)<((l.length:Nat):Int)) (by omega),cond_true,xZ hd,zbs,vK (by omega)]
  by_cases h:x=s
  ·rw [if_pos h,yR h];rfl
  ·rw [if_neg h,yF h];rfl) (fun n i hi=>by
  show uE 200000 l s _ _=_
  unfold uE
  rw [yF (p:=((i:Nat):Int)<((l.length:Nat):Int)) (by omega),cond_false]),zbs]
 by_cases h:vX s 0 l = -1
 ·rw [if_pos h,h]
 ·rw [if_neg h]
theorem zJy {l:List (List Int)} (hl:l.length≤100000):zAJ 200000 l l=some true:=by
 unfold zAJ
 rw [xE rfl,cond_false]
 have:=zAu (l:=l) (pK 200000 l l) (fun _ _=>none) (fun n i hi=>by
  show uB 200000 l l _ _=_
  unfold uB
  rw [yF (by omega),cond_false]) (fun n i x r hd hlt=>⟨fun b hb=>(by cases hb),fun _=>by
  show uB 200000 l l _ _=_
  unfold uB
  rw [yR (by omega),cond_true,xZ hd,zbs,zbs,vK (by omega),zES rfl];rfl⟩) (n:=200000) (by omega)
 rw [this,zBj (fun _ _ _=>rfl)];rfl
theorem zIx {l:List zO} (hl:l.length≤100000):zAd 200000 l l=some true:=by
 unfold zAd
 rw [xE rfl,cond_false]
 have:=zAu (l:=l) (k9 200000 l l) (fun _ _=>none) (fun n i hi=>by
  show v4 200000 l l _ _=_
  unfold v4
  rw [yF (by omega),cond_false]) (fun n i x r hd hlt=>⟨fun b hb=>(by cases hb),fun _=>by
  show v4 200000 l l _ _=_
  unfold v4
  rw [yR (p:=((i:Nat):Int)<((l.length:Nat):Int)) (by omega),cond_true,xZ hd,zbs,zbs,vK (by omega),yR rfl];rfl⟩) (n:=200000) (by omega)
 rw [this,zBj (fun _ _ _=>rfl)];rfl
def wP (names:List (List Int)) (s:List Int):Int×List (List Int)×Int :=
 if uG s≠0 then (0,names,uG s) else if vX s 0 names ≠ -1 then (vX s 0 names,names,0) else if 1000≤names.length then (0,names,6) else ((names.length:Int),names++[s],0)
theorem zAT {α:Type} [DecidableEq α] (s:α) (l:List α) : -1≤vX s 0 l:=by
 rcases zAw s l 0 with ⟨h,_⟩ | ⟨j,_,h⟩<;>omega
theorem zGg {names:List (List Int)} {s:List Int} (hl:names.length≤100000):zBq 200000 names s=some (wP names s):=by
 unfold zBq wP
 have hr:=zAT s names
 rw [zAh,zbs]
 by_cases h:uG s≠0
 ·rw [xQ h,if_pos h];rfl
 rw [xE (by omega),if_neg h,cond_false,zC9 hl,zbs]
 by_cases h1:vX s 0 names ≠ -1
 ·rw [yR (by omega),if_pos h1,cond_true]
 rw [yF (by omega),if_neg h1,cond_false]
 by_cases h2:1000≤names.length
 ·rw [yR (by omega),if_pos h2,cond_true]
 rw [yF (by omega),if_neg h2,cond_false]
 unfold qI
 rw [xA (by simp only [List.length_nil];omega),zbs,zbs,List.nil_append,xA (by simp only [List.length_singleton];omega),zbs]
theorem zIW {names:List (List Int)} {s:List Int} (hl:names.length≤100000):zEq 200000 names s=some (wP names s):=by
 unfold zEq wP
 have hr:=zAT s names
 have h03:=zEH s
 rw [zCi,zbs]
 by_cases h:uG s≠0
 ·rw [xQ h,if_pos h,show uG s=3 by omega];rfl
 rw [xE (by omega),if_neg h,cond_false,zHn hl,zbs]
 by_cases h1:vX s 0 names ≠ -1
 ·rw [yR (by omega),if_pos h1,cond_true]
 rw [yF (by omega),if_neg h1,cond_false]
 by_cases h2:1000≤names.length
 ·rw [yR (by omega),if_pos h2,cond_true]
 rw [yF (by omega),if_neg h2,cond_false]
 rw [xA (by simp only [List.length_nil];omega),zbs,List.nil_append,xA (by simp only [List.length_singleton];omega),zbs]
theorem zEk (names:List (List Int)) (s:List Int):(wP names s).2.1.length≤names.length+1:=by
 unfold wP;split
 ·simp
 ·split
  ·simp
  ·split<;>simp
def jP (names0:List (List Int)) (stacks0:List zO):List (List Int)→Int→List (List Int)→List zO→Int×List (List Int)×List zO×Int
 | [],at_,n,s=>(at_,n,s,0)
 | x::r,at_,n,s =>
  if (wP n x).2.2≠0 then (0,names0,stacks0,(wP n x).2.2) else
  if vX (⟨at_,(wP n x).1⟩:zO) 0 s ≠ -1 then jP names0 stacks0 r (vX (⟨at_,(wP n x).1⟩:zO) 0 s) (wP n x).2.1 s else
  if 1000≤s.length then (0,names0,stacks0,6) else jP names0 stacks0 r (s.length:Int) (wP n x).2.1 (s++[⟨at_,(wP n x).1⟩])
def wX (names:List (List Int)) (stacks:List zO) (l:List (List Int)):Int×List (List Int)×List zO×Int :=
 if t9 l≠0 then (0,names,stacks,t9 l) else jP names stacks l (-1) names stacks
def zO7 (o:(Int×List (List Int)×List zO)⊕(Int×List (List Int)×List zO×Int)):Int×List (List Int)×List zO×Int:=match o with | .inl q=>(q.1,q.2.1,q.2.2,0) | .inr q=>q
theorem zF2 {names0:List (List Int)} {stacks0:List zO} {l:List (List Int)} (hl:l.length≤40):∀ (m i:Nat) (at_:Int) (n:List (List Int)) (s:List zO),(l.drop i).length<m→n.length+(l.drop i).length≤100000→s.length+(l.drop i).length≤100000 →
  ∃ o,qV 200000 names0 stacks0 l m at_ n (i:Int) s=some o∧zO7 o=jP names0 stacks0 (l.drop i) at_ n s:=by
 intro m
 induction m with
 | zero=>intro i at_ n s h;omega
 | succ m ih =>
  intro i at_ n s hm hn hs
  show ∃ o,tP 200000 names0 stacks0 l _ at_ n (i:Int) s=some o∧_
  unfold tP
  rcases hd:l.drop i with _ | ⟨x,r⟩
  ·have:=qK hd
   rw [yF (by omega),cond_false]
   exact ⟨_,rfl,rfl⟩
  ·have hlt:=jJ hd
   rw [hd] at hm hn hs
   simp only [List.length_cons] at hm hn hs
   have hstep:=w8 hd
   rw [yR (by omega),cond_true,xZ hd,zbs,zGg (by omega),zbs]
   have hpl:=zEk n x
   simp only [jP]
   generalize wP n x=q at *
   by_cases h:q.2.2≠0
   ·rw [xQ h,cond_true,if_pos h];exact ⟨_,rfl,rfl⟩
   rw [xE (by omega),cond_false,if_neg h,zD4 (by omega),zbs]
   have hr:=zAT (⟨at_,q.1⟩:zO) s
   by_cases h1:vX (⟨at_,q.1⟩:zO) 0 s ≠ -1
   ·rw [yR (by omega),cond_true,if_pos h1,vK (by omega),← hstep]
    exact ih (i+1) _ _ _ (by rw [hstep];omega) (by rw [hstep];omega) (by rw [hstep];omega)
   rw [yF (by omega),cond_false,if_neg h1]
   by_cases h2:1000≤s.length
   ·rw [yR (by omega),cond_true,if_pos h2];exact ⟨_,rfl,rfl⟩
   rw [yF (by omega),cond_false,if_neg h2,xA (by simp only [List.length_singleton];omega),zbs,vK (by omega),← hstep]
   exact ih (i+1) _ _ _ (by rw [hstep];omega) (by rw [hstep];omega) (by rw [hstep];simp only [List.length_append,List.length_singleton];omega)
theorem zGs {names:List (List Int)} {stacks:List zO} {l:List (List Int)} (hn:names.length≤50000) (hs:stacks.length≤50000):kJ 200000 names stacks l=some (wX names stacks l):=by
 unfold kJ wX
 rw [zE0,zbs]
 by_cases h:t9 l≠0
 ·rw [xQ h,cond_true,if_pos h]
 have hl:l.length≤32:=by
  unfold t9 at h
  by_cases hc:32<l.length
  ·rw [if_pos hc] at h;omega
  ·omega
 rw [xE (by omega),cond_false,if_neg h]
 unfold jC
 rw [xA (by simp only [List.length_nil];omega),zbs,zbs,List.nil_append]
 obtain ⟨o,h1,h2⟩:=zF2 (names0:=names) (stacks0:=stacks) (l:=l) (by omega) 200000 0 (-1) names stacks (by simp;omega) (by simp;omega) (by simp;omega)
 rw [show qV 200000 names stacks l 200000 (-1) names 0 stacks=some o from h1,zbs]
 rw [List.drop_zero] at h2
 rw [← h2]
 cases o<;>rfl
theorem zHg {names0:List (List Int)} {stacks0:List zO} {l:List (List Int)} (hl:l.length≤40):∀ (m i:Nat) (at_:Int) (n:List (List Int)) (s:List zO),(l.drop i).length<m→n.length+(l.drop i).length≤100000→s.length+(l.drop i).length≤100000 →
  ∃ o,kT 200000 names0 stacks0 l m at_ n (i:Int) s=some o∧zO7 o=jP names0 stacks0 (l.drop i) at_ n s:=by
 intro m
 induction m with
 | zero=>intro i at_ n s h;omega
 | succ m ih =>
  intro i at_ n s hm hn hs
  show ∃ o,q7 200000 names0 stacks0 l _ at_ n (i:Int) s=some o∧_
  unfold q7
  rcases hd:l.drop i with _ | ⟨x,r⟩
  ·have:=qK hd
   rw [yF (by omega),cond_false]
   exact ⟨_,rfl,rfl⟩
  ·have hlt:=jJ hd
   rw [hd] at hm hn hs
   simp only [List.length_cons] at hm hn hs
   have hstep:=w8 hd
   rw [yR (by omega),cond_true,xZ hd,zbs,zIW (by omega),zbs]
   have hpl:=zEk n x
   simp only [jP]
   generalize wP n x=q at *
   by_cases h:q.2.2≠0
   ·rw [xQ h,cond_true,if_pos h];exact ⟨_,rfl,rfl⟩
   rw [xE (by omega),cond_false,if_neg h,zET (by omega),zbs]
   have hr:=zAT (⟨at_,q.1⟩:zO) s
   by_cases h1:vX (⟨at_,q.1⟩:zO) 0 s ≠ -1
   ·rw [yR (by omega),cond_true,if_pos h1,zbs]
    simp only
    rw [vK (by omega),← hstep]
    exact ih (i+1) _ _ _ (by rw [hstep];omega) (by rw [hstep];omega) (by rw [hstep];omega)
   rw [yF (by omega),cond_false,if_neg h1]
   by_cases h2:1000≤s.length
   ·rw [yR (by omega),cond_true,if_pos h2];exact ⟨_,rfl,rfl⟩
   rw [yF (by omega),cond_false,if_neg h2,xA (by simp only [List.length_singleton];omega),zbs,zbs]
   simp only
   rw [vK (by omega),← hstep]
   exact ih (i+1) _ _ _ (by rw [hstep];omega) (by rw [hstep];omega) (by rw [hstep];simp only [List.length_append,List.length_singleton];omega)
theorem zJp {names:List (List Int)} {stacks:List zO} {l:List (List Int)} (hn:names.length≤50000) (hs:stacks.length≤50000):n9 200000 names stacks l=some (wX names stacks l):=by
 unfold n9 wX
 rw [zGo,zbs]
 by_cases h:t9 l≠0
 ·rw [xQ h,cond_true,if_pos h]
 have hl:l.length≤32:=by
  unfold t9 at h
  by_cases hc:32<l.length
  ·rw [if_pos hc] at h;omega
  ·omega
 rw [xE (by omega),cond_false,if_neg h]
 rw [xA (by simp only [List.length_nil];omega),zbs,List.nil_append]
 obtain ⟨o,h1,h2⟩:=zHg (names0:=names) (stacks0:=stacks) (l:=l) (by omega) 200000 0 (-1) names stacks (by simp;omega) (by simp;omega) (by simp;omega)
 rw [show kT 200000 names stacks l 200000 (-1) names 0 stacks=some o from h1,zbs]
 rw [List.drop_zero] at h2
 rw [← h2]
 cases o<;>rfl
def toO (v:Int):Unit⊕Int:=if v=0 then .inl () else .inr v
theorem zRW:toO 0=.inl ():=rfl
theorem zMo {v:Int} (h:v≠0):toO v=.inr v:=if_neg h
def qF (seen:List (List Int)):List (List Int)→Int
 | []=>0
 | x::r=>if uG x≠0 then 3 else if x∈seen then 4 else qF (seen++[x]) r
theorem zJe {l:List (List Int)} (hl:l.length≤1000):tK 200000 l 200000 0 []=some (toO (qF [] l)):=by
 have:=zGM (l:=l) (fun n i s=>tK 200000 l n i s) (fun i r _=>toO (qF (l.take i) r)) (fun i s=>zLe s (l.take i)) ?_ ?_ (n:=200000) (s:=[]) zLR (by omega)
 ·simpa using this
 ·intro n i s hi _
  show vJ _ _ _ _ _=_
  unfold vJ
  simp (disch:=omega) only [yF,cond_false];rfl
 ·intro n i s x r hd hlt hS ih
  show vJ _ _ _ _ _=_
  unfold vJ
  have hs:=hS.1
  rw [zIb hd] at hs
  simp only [qF]
  simp (disch:=omega) only [yR,cond_true,xZ hd,zbs,zAh,hS.2,xA,vK]
  rw [ih _ (by rw [zAp hd];exact zLG hS x)]
  rcases zEH x with h | h
  ·by_cases h2:x∈l.take i<;>simp [h,h2,zAp hd,toO]
  ·simp [h,toO]
theorem zF5 {l:List (List Int)} (hl:l.length≤1000):pB 200000 l=some (qF [] l):=by
 unfold pB
 rw [zJe hl,zbs]
 unfold toO
 by_cases h:qF [] l=0
 ·rw [if_pos h,h]
 ·rw [if_neg h]
theorem zLs {α:Type} [DecidableEq α] (s:α) (l:List α):decide (vX s 0 l≥0)=decide (s∈l):=by
 rcases zAw s l 0 with ⟨h,h2⟩ | ⟨j,h1,h⟩
 ·rw [h];simp [h2]
 ·rw [h,yR (by omega),yR (List.mem_of_getElem? h1)]
theorem zIA {l:List (List Int)} (hl:l.length≤1000):zAf 200000 l 200000 0=some (toO (qF [] l)):=by
 have:=zGM (l:=l) (fun n i (_:Unit)=>zAf 200000 l n i) (fun i r _=>toO (qF (l.take i) r)) (fun i s=>True) ?_ ?_ (n:=200000) (s:=()) trivial (by omega)
 ·simpa using this
 ·intro n i s hi _
  show tW _ _ _ _=_
  unfold tW
  simp (disch:=omega) only [yF,cond_false];rfl
 ·intro n i s x r hd hlt hS ih
  show tW _ _ _ _=_
  unfold tW
  have ht:=List.length_take_le i l
  simp only [qF]
  simp (disch:=omega) only [yR,cond_true,xZ hd,zbs,zCi,xA,vK,zLA,zHn,zLs,ih () trivial]
  rcases zEH x with h | h
  ·by_cases h2:x∈l.take i<;>simp [h,h2,zAp hd,toO]
  ·simp [h,toO]
def dOf (ds:List Int) (i:Int):Int:=if i = -1 then 0 else (ds[i.toNat]?).getD 0
def DI (st:List zO) (ds:List Int):Prop:=∀ (j:Nat) (d:Int),ds[j]?=some d→∃ p,st[j]?=some p ∧ -1≤p.c0∧p.c0<j∧d=1+dOf ds p.c0∧1≤d∧d≤32
theorem zNY {ds:List Int} {d c:Int} (h:c<ds.length) (h0 : -1≤c):dOf (ds++[d]) c=dOf ds c:=by
 unfold dOf
 split
 ·rfl
 ·rw [List.getElem?_append_left (by omega)]
theorem DI.range {st:List zO} {ds:List Int} (h:DI st ds) (c:Int):0≤dOf ds c∧dOf ds c≤32:=by
 unfold dOf
 split
 ·omega
 ·cases hd:ds[c.toNat]? with
  | none=>simp
  | some d=>obtain ⟨p,_,_,_,_,h1,h2⟩:=h _ _ hd;simp;omega
theorem DI.push {st:List zO} {ds:List Int} {p:zO} (h:DI st ds) (hp:st[ds.length]?=some p) (h0 : -1≤p.c0) (h1:p.c0<ds.length) (h2:1+dOf ds p.c0≤32):DI st (ds++[1+dOf ds p.c0]):=by
 intro j d hj
 rcases Nat.lt_or_ge j ds.length with hlt | hge
 ·rw [List.getElem?_append_left hlt] at hj
  obtain ⟨q,h3,h4,h5,h6,h7⟩:=h j d hj
  exact ⟨q,h3,h4,h5,by rw [zNY (by omega) h4];exact h6,h7⟩
 ·have hj':j=ds.length:=by
   have:=(List.getElem?_eq_some_iff.1 hj).1
   simp at this;omega
  subst hj'
  simp at hj
  subst hj
  have:=h.range p.c0
  exact ⟨p,hp,h0,by omega,by rw [zNY h1 h0],by omega,h2⟩
theorem DI.nil {st:List zO}:DI st []:=fun j d h=>by simp at h
theorem zLk {st:List zO} {ds:List Int} (h:DI st ds):∀ (n:Nat) (i acc:Int), -1≤i→i<ds.length→i+1<n→0≤acc→acc+i≤5000→nY 200000 st n i acc=some (acc+dOf ds i):=by
 intro n
 induction n with
 | zero=>intro i acc h0 h1 h2;omega
 | succ n ih =>
  intro i acc h0 h1 h2 h3 h4
  show tY _ _ _ _ _=_
  unfold tY
  by_cases hi:i = -1
  ·rw [yF (by omega),cond_false,hi];simp [dOf]
  ·obtain ⟨m,rfl⟩:=Int.eq_ofNat_of_zero_le (show 0≤i by omega)
   obtain ⟨d,hd⟩:∃ d,ds[m]?=some d:=⟨ds[m]'(by omega),List.getElem?_eq_getElem _⟩
   obtain ⟨p,hp,k0,k1,k2,k3,k4⟩:=h m d hd
   have key:dOf ds (m:Int)=d:=by simp [dOf,hd]
   rw [yR (by omega),cond_true,qO,hp,zbs,w64 (by omega) (by omega),key,ih p.c0 (acc+1) k0 (by omega) (by omega) (by omega) (by omega)]
   congr 1;omega
def qS (nn:Nat) (ds:List Int) (seen:List zO):List zO→Int
 | []=>0
 | p::r=>if p.c0 < -1∨p.c0≥seen.length∨p.c1<0∨p.c1≥nn then 2 else if p∈seen then 4 else if 1+dOf ds p.c0>32 then 7 else qS nn (ds++[1+dOf ds p.c0]) (seen++[p]) r
theorem zIK {names:List (List Int)} {l:List zO} (hl:l.length≤1000):∀ (n i:Nat) (ds:List Int),DI l ds→ds.length=i→i≤l.length→(l.drop i).length<n→zAb 200000 names l n (i:Nat)=some (toO (qS names.length ds (l.take i) (l.drop i))):=by
 intro n
 induction n with
 | zero=>intro i ds _ _ _ h;omega
 | succ n ih =>
  intro i ds hD hdl hil hn
  show k8 _ _ _ _ _=_
  unfold k8
  rcases hd:l.drop i with _ | ⟨p,r⟩
  ·have:=qK hd
   simp (disch:=omega) only [yF,cond_false];rfl
  have hlt:=jJ hd
  have ht:=zIb hd
  rw [hd] at hn
  simp only [List.length_cons] at hn
  simp only [qS,ht]
  simp (disch:=omega) only [yR,cond_true,xZ hd,zbs,xA,zLA,zET,zLs]
  by_cases c1:p.c0 < -1∨p.c0≥i∨p.c1<0∨p.c1≥names.length
  ·rw [if_pos c1,zMo (by decide)]
   have:(decide (p.c0<(-1:Int))||(decide (p.c0≥(i:Int))||(decide (p.c1<(0:Int))||decide (p.c1≥((names.length:Nat):Int)))))=true:=by simpa using c1
   rw [this];rfl
  ·rw [if_neg c1]
   simp (disch:=omega) only [yF,Bool.or_false,cond_false]
   by_cases c2:p∈l.take i
   ·rw [if_pos c2,yR c2];rfl
   ·rw [if_neg c2,yF c2,cond_false]
    unfold zFc
    have hr:=hD.range p.c0
    have hdep:nY 200000 l 200000 (i:Int) 0=some (1+dOf ds p.c0):=by
     show tY _ _ _ _ _=_
     unfold tY
     simp (disch:=omega) only [yR,cond_true,xZ hd,zbs,w64]
     rw [zLk hD _ _ _ (by omega) (by omega) (by omega) (by omega) (by omega)];rfl
    rw [hdep,zbs,zbs]
    by_cases c3:1+dOf ds p.c0>32
    ·rw [if_pos c3,yR c3];rfl
    ·rw [if_neg c3,yF c3,cond_false,vK (by omega),ih (i+1) (ds++[1+dOf ds p.c0]) (hD.push (by rw [hdl];exact zIf hd) (by omega) (by omega) (by omega)) (by simp [hdl]) (by omega) (by rw [w8 hd];omega),zAp hd,w8 hd]
theorem zCT {names:List (List Int)} {l:List zO}:kE 200000 names l=some (if 1000<names.length∨1000<l.length then 7 else if qF [] names≠0 then qF [] names else qS names.length [] [] l):=by
 unfold kE
 by_cases h:1000<names.length∨1000<l.length
 ·rw [if_pos h]
  have:(decide ((((names).length:Nat):Int)>(1000:Int))||decide ((((l).length:Nat):Int)>(1000:Int)))=true:=by simp;omega
  rw [this];rfl
 rw [if_neg h]
 simp (disch:=omega) only [yF,Bool.or_false,cond_false]
 rw [zIA (by omega),zbs]
 by_cases h1:qF [] names≠0
 ·rw [zMo h1,if_pos h1]
 have h1':qF [] names=0:=by omega
 have:=zIK (names:=names) (l:=l) (by omega) 200000 0 [] DI.nil rfl (by omega) (by simp;omega)
 rw [h1',zRW,if_neg (by omega)]
 simp only
 rw [show zAb 200000 names l 200000 0=_ from this]
 simp only [List.take_zero,List.drop_zero,zbs]
 generalize qS names.length [] [] l=v
 unfold toO
 by_cases hv:v=0
 ·rw [if_pos hv,hv]
 ·rw [if_neg hv]
theorem zKO {α:Type} {l:List α} {i:Nat} (v:α) (h:i<l.length):(l.set i v).take (i+1)=l.take i++[v]:=by
 rw [List.take_add_one,List.take_set_of_le (Nat.le_refl _),List.getElem?_set_self h];rfl
theorem zHe {names:List (List Int)} {l:List zO} (hl:l.length≤1000):∀ (n i:Nat) (s:List (zO×Bool)) (t:List Int),zLe s (l.take i)→t.length=l.length→DI l (t.take i)→i≤l.length→(l.drop i).length<n→kO 200000 names l n (i:Nat) s t=some (toO (qS names.length (t.take i) (l.take i) (l.drop i))):=by
 intro n
 induction n with
 | zero=>intro i s t _ _ _ _ h;omega
 | succ n ih =>
  intro i s t hS htl hD hil hn
  show jF _ _ _ _ _ _ _=_
  unfold jF
  rcases hd:l.drop i with _ | ⟨p,r⟩
  ·have:=qK hd
   simp (disch:=omega) only [yF,cond_false];rfl
  have hlt:=jJ hd
  have ht:=zIb hd
  have hs:=hS.1
  rw [ht] at hs
  rw [hd] at hn
  simp only [List.length_cons] at hn
  simp only [qS,ht]
  obtain ⟨y,hy⟩:∃ y,t[i]?=some y:=⟨t[i]'(by omega),List.getElem?_eq_getElem _⟩
  simp (disch:=omega) only [yR,cond_true,xZ hd,zbs,hS.2,xA,qO,hy]
  by_cases c1:p.c0 < -1∨p.c0≥i∨p.c1<0∨p.c1≥names.length
  ·rw [if_pos c1,zMo (by decide)]
   have:(decide (p.c0<(-1:Int))||(decide (p.c0≥(i:Int))||(decide (p.c1<(0:Int))||decide (p.c1≥((names.length:Nat):Int)))))=true:=by simpa using c1
   rw [this];rfl
  ·rw [if_neg c1]
   simp (disch:=omega) only [yF,Bool.or_false,cond_false]
   by_cases c2:p∈l.take i
   ·rw [if_pos c2,yR c2];rfl
   ·rw [if_neg c2,yF c2,cond_false]
    have hr:=hD.range p.c0
    have htt:(t.take i).length=i:=by rw [List.length_take];omega
    have hstep:((bif (p.c0 != (-1:Int)) then ((t.set ((i:Int)).toNat (1:Int))[i]?).bind fun x_3=>(y2 (t.set ((i:Int)).toNat (1:Int)) p.c0).bind fun x_4=>((t.set ((i:Int)).toNat (1:Int))[i]?).bind fun x_5 =>
      some ((t.set ((i:Int)).toNat (1:Int)).set ((i:Int)).toNat (zI (x_3+x_4))) else some (t.set ((i:Int)).toNat (1:Int))):Option (List Int))=some (t.set i (1+dOf (t.take i) p.c0)):=by
     rw [Int.toNat_natCast]
     by_cases hc:p.c0 = -1
     ·rw [xE hc,cond_false];simp [dOf,hc]
     ·rw [xQ hc,cond_true,List.getElem?_set_self (by omega),zbs]
      have e:y2 (t.set i 1) p.c0=some (dOf (t.take i) p.c0):=by
       obtain ⟨m,hm⟩:=Int.eq_ofNat_of_zero_le (show 0≤p.c0 by omega)
       rw [hm,qO,List.getElem?_set_ne (by omega)]
       have:(t.take i)[m]?=t[m]?:=by rw [List.getElem?_take_of_lt (by omega)]
       have hml:m<t.length:=by omega
       simp only [dOf]
       rw [if_neg (by omega),Int.toNat_natCast,this,List.getElem?_eq_getElem hml];rfl
      rw [e,zbs,zbs,w64 (by omega) (by omega),List.set_set]
    rw [hstep,zbs,List.getElem?_set_self (by omega),zbs]
    by_cases c3:1+dOf (t.take i) p.c0>32
    ·rw [if_pos c3,yR c3];rfl
    ·rw [if_neg c3,yF c3,cond_false,vK (by omega)]
     have hts:=zKO (i:=i) (1+dOf (t.take i) p.c0) (show i<t.length by omega)
     rw [ih (i+1) _ _ (by rw [zAp hd];exact zLG hS p) (by simp [htl]) (by rw [hts];exact hD.push (by rw [htt];exact zIf hd) (by omega) (by omega) (by omega)) (by omega) (by rw [w8 hd];omega),zAp hd,w8 hd,hts]
def uA (names:List (List Int)) (l:List zO):Int:=if 1000<names.length∨1000<l.length then 7 else if qF [] names≠0 then qF [] names else qS names.length [] [] l
theorem zA5 {names:List (List Int)} {l:List zO}:kC 200000 names l=some (uA names l):=by
 unfold kC uA
 by_cases h:1000<names.length∨1000<l.length
 ·rw [if_pos h]
  have:(decide ((((names).length:Nat):Int)>(1000:Int))||decide ((((l).length:Nat):Int)>(1000:Int)))=true:=by simp;omega
  rw [this];rfl
 rw [if_neg h]
 simp (disch:=omega) only [yF,Bool.or_false,cond_false]
 rw [zF5 (by omega),zbs]
 by_cases h1:qF [] names≠0
 ·rw [xQ h1,if_pos h1];rfl
 have h1':qF [] names=0:=by omega
 have:=zHe (names:=names) (l:=l) (by omega) 200000 0 [] (List.replicate l.length 0) zLR (by simp) DI.nil (by omega) (by simp;omega)
 rw [h1',xE rfl,cond_false,if_neg (by omega),xA (by omega),zbs]
 rw [show kO 200000 names l 200000 0 [] (List.replicate l.length 0)=_ from this]
 simp only [List.take_zero,List.drop_zero,zbs]
 generalize qS names.length [] [] l=v
 unfold toO
 by_cases hv:v=0
 ·rw [if_pos hv,hv]
 ·rw [if_neg hv]
def dsF (l:List zO):List Int:=l.foldl (fun ds p=>ds++[1+dOf ds p.c0]) []
theorem zPB:∀ (l:List zO) (ds:List Int),(l.foldl (fun ds p=>ds++[1+dOf ds p.c0]) ds).length=ds.length+l.length:=by
 intro l
 induction l with
 | nil=>intro ds;rfl
 | cons p r ih=>intro ds;rw [List.foldl_cons,ih];simp;omega
theorem zEx (l:List zO):(dsF l).length=l.length:=by simp [dsF,zPB]
theorem zMf (l:List zO) (p:zO):dsF (l++[p])=dsF l++[1+dOf (dsF l) p.c0]:=by simp [dsF]
theorem zDM:∀ (l seen:List (List Int)),qF seen l=0↔(∀ x∈l,uG x=0∧x∉seen)∧l.Nodup:=by
 intro l
 induction l with
 | nil=>intro seen;simp [qF]
 | cons x r ih =>
  intro seen
  simp only [qF]
  by_cases h:uG x≠0
  ·rw [if_pos h];simp [h]
  rw [if_neg h]
  by_cases h2:x∈seen
  ·rw [if_pos h2];simp [h2]
  rw [if_neg h2,ih]
  simp only [List.mem_cons,List.nodup_cons,forall_eq_or_imp,List.mem_append,List.not_mem_nil,or_false,not_or]
  constructor
  ·rintro ⟨h3,h4⟩
   exact ⟨⟨⟨by omega,h2⟩,fun y hy=>⟨(h3 y hy).1,(h3 y hy).2.1⟩⟩,fun hx=>(h3 x hx).2.2 rfl,h4⟩
  ·rintro ⟨⟨_,h3⟩,h4,h5⟩
   exact ⟨fun y hy=>⟨(h3 y hy).1,(h3 y hy).2,fun e=>h4 (e ▸ hy)⟩,h5⟩
structure zM8 (nn k:Nat) (ds:List Int) (seen:List zO) (p:zO):Prop where
 lo : -1≤p.c0
 hi:p.c0<k
 lo1:0≤p.c1
 hi1:p.c1<nn
 new:p∉seen
 deep:1+dOf ds p.c0≤32
theorem zFo {nn:Nat}:∀ (r:List zO) (ds:List Int) (seen:List zO) (p:zO),qS nn ds seen (r++[p])=0↔qS nn ds seen r=0∧zM8 nn (seen++r).length (r.foldl (fun ds p=>ds++[1+dOf ds p.c0]) ds) (seen++r) p:=by
 intro r
 induction r with
 | nil =>
  intro ds seen p
  simp only [List.nil_append,qS,List.append_nil,List.foldl_nil,true_and]
  constructor
  ·intro h
   split at h
   ·cases h
   split at h
   ·cases h
   split at h
   ·cases h
   exact ⟨by omega,by omega,by omega,by omega,by assumption,by omega⟩
  ·rintro ⟨h1,h2,h3,h4,h5,h6⟩
   rw [if_neg (by omega),if_neg h5,if_neg (by omega)]
 | cons q r ih =>
  intro ds seen p
  simp only [List.cons_append,qS,List.foldl_cons]
  split
  ·simp
  split
  ·simp
  split
  ·simp
  rw [ih];simp
theorem zNd {nn mm:Nat} (h:nn≤mm):∀ (r:List zO) (ds:List Int) (seen:List zO),qS nn ds seen r=0→qS mm ds seen r=0:=by
 intro r
 induction r with
 | nil=>intro ds seen _;rfl
 | cons q r ih =>
  intro ds seen hz
  simp only [qS] at hz ⊢
  split at hz
  ·cases hz
  rename_i h1
  rw [if_neg (by omega)]
  split at hz
  ·cases hz
  rename_i h2
  rw [if_neg h2]
  split at hz
  ·cases hz
  rename_i h3
  rw [if_neg h3]
  exact ih _ _ hz
structure vW (n:List (List Int)) (s:List zO):Prop where
 n1:n.length≤1000
 s1:s.length≤1000
 names:qF [] n=0
 st:qS n.length [] [] s=0
theorem zCq {n:List (List Int)} {s:List zO}:uA n s=0↔vW n s:=by
 unfold uA
 constructor
 ·intro h
  split at h
  ·cases h
  split at h
  ·omega
  exact ⟨by omega,by omega,by omega,h⟩
 ·rintro ⟨h1,h2,h3,h4⟩
  rw [if_neg (by omega),if_neg (by omega),h4]
theorem vW.nodup {n:List (List Int)} {s:List zO} (h:vW n s):n.Nodup:=((zDM _ _).1 h.names).2
theorem vW.valid {n:List (List Int)} {s:List zO} (h:vW n s) {x:List Int} (hx:x∈n):uG x=0:=(((zDM _ _).1 h.names).1 x hx).1
theorem vW.name {n:List (List Int)} {s:List zO} (h:vW n s) {x:List Int} (hx:uG x=0) (hn:x∉n) (hl:n.length<1000):vW (n++[x]) s:=by
 refine ⟨by simp;omega,h.s1,?_,zNd (by simp) _ _ _ h.st⟩
 rw [zDM]
 have h2:=(zDM _ _).1 h.names
 refine ⟨fun y hy=>⟨?_,by simp⟩,?_⟩
 ·rcases List.mem_append.1 hy with hy | hy
  ·exact h.valid hy
  ·simp at hy;rw [hy];exact hx
 ·rw [List.nodup_append]
  exact ⟨h.nodup,by simp,fun a ha b hb=>by simp at hb;rw [hb];exact fun e=>hn (e ▸ ha)⟩
theorem vW.push {n:List (List Int)} {s:List zO} {p:zO} (h:vW n s) (hp:zM8 n.length s.length (dsF s) s p) (hl:s.length<1000):vW n (s++[p]) :=
 ⟨h.n1,by simp;omega,h.names,by rw [zFo];exact ⟨h.st,by rw [List.nil_append];exact hp⟩⟩
theorem zLy {nn:Nat} (s:List zO) (h:qS nn [] [] s=0):∀ (i:Nat),i<s.length→∃ p,s[i]?=some p∧zM8 nn i (dsF (s.take i)) (s.take i) p:=by
 intro i hi
 have e:s=s.take i++(s[i]::s.drop (i+1)):=by simp
 have:∀ (m:Nat) (r:List zO),r.length=m→qS nn [] [] (s.take i++s[i]::r)=0→qS nn [] [] (s.take i++[s[i]])=0:=by
  intro m
  induction m with
  | zero=>intro r hr h;rw [List.length_eq_zero_iff.1 hr] at h;exact h
  | succ m ih =>
   intro r hr h
   rcases List.eq_nil_or_concat r with h0 | ⟨r',y,h0⟩
   ·rw [h0] at hr;simp at hr
   ·rw [h0] at h hr
    simp at hr
    rw [show s.take i++s[i]::r'.concat y=(s.take i++s[i]::r')++[y] by simp] at h
    exact ih r' hr ((zFo _ _ _ _).1 h).1
 have h2:=(zFo _ _ _ _).1 (this _ _ rfl (by rw [← e];exact h))
 refine ⟨s[i],List.getElem?_eq_getElem hi,?_⟩
 have h3:=h2.2
 simp only [List.nil_append,List.length_take,Nat.min_eq_left (Nat.le_of_lt hi)] at h3
 exact h3
theorem zHL (s:List zO) (i:Nat):dsF (s.take i)=(dsF s).take i:=by
 induction i with
 | zero=>rfl
 | succ i ih =>
  rcases hd:s.drop i with _ | ⟨x,r⟩
  ·have:=qK hd
   rw [List.take_of_length_le (by omega),List.take_of_length_le (by rw [zEx];omega)]
  ·have e:s=s.take i++([x]++r):=by rw [List.singleton_append,← hd,List.take_append_drop]
   have hlt:=jJ hd
   have e2:∃ t,dsF s=dsF (s.take i++[x])++t:=by
    have hg:∀ (r:List zO) (ds:List Int),∃ t,r.foldl (fun ds p=>ds++[1+dOf ds p.c0]) ds=ds++t:=by
     intro r
     induction r with
     | nil=>intro ds;exact ⟨[],by simp⟩
     | cons y r ih2=>intro ds;obtain ⟨t,ht⟩:=ih2 (ds++[1+dOf ds y.c0]);exact ⟨_,by rw [List.foldl_cons,ht,List.append_assoc]⟩
    have:dsF s=r.foldl (fun ds p=>ds++[1+dOf ds p.c0]) (dsF (s.take i++[x])):=by
     have h3:dsF (s.take i++[x]++r)=r.foldl (fun ds p=>ds++[1+dOf ds p.c0]) (dsF (s.take i++[x])):=by unfold dsF;rw [List.foldl_append]
     rwa [List.append_assoc,← e] at h3
    rw [this];exact hg _ _
   obtain ⟨t,ht⟩:=e2
   rw [zAp hd,ht,List.take_append_of_le_length (by simp [zEx];omega)]
   exact (List.take_of_length_le (by simp [zEx];omega)).symm
theorem zMT {ds:List Int} {i:Nat} {c:Int} (h:c<i) (h0 : -1≤c):dOf (ds.take i) c=dOf ds c:=by
 unfold dOf
 split
 ·rfl
 ·rw [List.getElem?_take_of_lt (by omega)]
theorem vW.pair {n:List (List Int)} {s:List zO} (h:vW n s) {i:Nat} {p:zO} (hp:s[i]?=some p) :
  -1≤p.c0∧p.c0<i∧0≤p.c1∧p.c1<n.length∧dOf (dsF s) (i:Int)=1+dOf (dsF s) p.c0∧dOf (dsF s) (i:Int)≤32∧p∉s.take i:=by
 have hi:i<s.length:=(List.getElem?_eq_some_iff.1 hp).1
 obtain ⟨q,hq,h1,h2,h3,h4,h5,h6⟩:=zLy s h.st i hi
 rw [hp] at hq;injection hq with hq;subst hq
 rw [zHL,zMT h2 h1] at h6
 have e:dOf (dsF s) (i:Int)=1+dOf (dsF s) p.c0:=by
  have e1:dsF (s.take (i+1))=dsF (s.take i)++[1+dOf (dsF (s.take i)) p.c0]:=by
   rw [List.take_add_one,hp];exact zMf _ _
  have e2:(dsF s)[i]?=some (1+dOf (dsF s) p.c0):=by
   have:((dsF s).take (i+1))[i]?=(dsF s)[i]?:=List.getElem?_take_of_lt (by omega)
   rw [← this,← zHL,e1,zHL,zMT h2 h1]
   have hl:((dsF s).take i).length=i:=by rw [List.length_take,zEx];omega
   rw [List.getElem?_append_right (by omega),hl];simp
  unfold dOf
  rw [if_neg (by omega),Int.toNat_natCast,e2];rfl
 exact ⟨h1,h2,h3,h4,e,by omega,h5⟩
theorem vW.snodup {n:List (List Int)} {s:List zO} (h:vW n s) {i j:Nat} {p:zO} (hi:s[i]?=some p) (hj:s[j]?=some p):i=j:=by
 rcases Nat.lt_trichotomy i j with hlt | he | hlt
 ·exact absurd (List.mem_of_getElem? (show (s.take j)[i]?=some p by rw [List.getElem?_take_of_lt hlt];exact hi)) (h.pair hj).2.2.2.2.2.2
 ·exact he
 ·exact absurd (List.mem_of_getElem? (show (s.take i)[j]?=some p by rw [List.getElem?_take_of_lt hlt];exact hj)) (h.pair hi).2.2.2.2.2.2
theorem vW.depth0 {n:List (List Int)} {s:List zO} (h:vW n s) {c:Int} (h0 : -1≤c) (h1:c<s.length):0≤dOf (dsF s) c∧dOf (dsF s) c≤32∧(dOf (dsF s) c=0↔c = -1):=by
 have key:∀ (m:Nat) (c:Int),c+1<m → -1≤c→c<s.length→0≤dOf (dsF s) c∧dOf (dsF s) c≤32∧(dOf (dsF s) c=0↔c = -1):=by
  intro m
  induction m with
  | zero=>intro c h1 h2;omega
  | succ m ih =>
   intro c h1 h2 h3
   by_cases hc:c = -1
   ·subst hc;simp [dOf]
   ·obtain ⟨i,rfl⟩:=Int.eq_ofNat_of_zero_le (show 0≤c by omega)
    have hi:i<s.length:=by omega
    obtain ⟨k1,k2,k3,k4,k5,k6,k7⟩:=h.pair (List.getElem?_eq_getElem hi)
    have:=ih (s[i]).c0 (by omega) k1 (by omega)
    omega
 exact key (c.toNat+3) c (by omega) h0 h1
def kN (n:List (List Int)) (s:List zO):Nat→Int→List (List Int)
 | 0,_=>[]
 | k+1,i=>if i<0 then [] else match s[i.toNat]? with
  | none=>[]
  | some p=>(n[p.c1.toNat]?).getD []::kN n s k p.c0
theorem zGG (n:List (List Int)) (s:List zO):∀ (k:Nat) (i:Int),(kN n s k i).length≤k:=by
 intro k
 induction k with
 | zero=>intro i;exact Nat.le_refl _
 | succ k ih =>
  intro i
  simp only [kN]
  split
  ·simp
  split
  ·simp
  ·rename_i p _
   have:=ih p.c0
   simp only [List.length_cons];omega
theorem zHi {n:List (List Int)} {s:List zO} (h:vW n s):∀ (k f:Nat) (i:Int) (row:List (List Int)), -1≤i→i<s.length→dOf (dsF s) i≤k→k<f→row.length+k≤1000 →
  nC 200000 n s f i row=some (row++kN n s k i):=by
 intro k
 induction k with
 | zero =>
  intro f i row h0 h1 h2 h3 h4
  have hi:i = -1:=(h.depth0 h0 h1).2.2.1 (by have:=(h.depth0 h0 h1).1;omega)
  subst hi
  obtain ⟨f,rfl⟩:∃ g,f=g+1:=⟨f - 1,by omega⟩
  show uL _ _ _ _ _ _=_
  unfold uL
  rw [xE rfl,cond_false];simp [kN]
 | succ k ih =>
  intro f i row h0 h1 h2 h3 h4
  obtain ⟨f,rfl⟩:∃ g,f=g+1:=⟨f - 1,by omega⟩
  show uL _ _ _ _ _ _=_
  unfold uL
  by_cases hi:i = -1
  ·subst hi
   rw [xE rfl,cond_false];simp [kN]
  ·obtain ⟨m,rfl⟩:=Int.eq_ofNat_of_zero_le (show 0≤i by omega)
   have hm:s[m]?=some (s[m]'(by omega)):=List.getElem?_eq_getElem _
   obtain ⟨k1,k2,k3,k4,k5,k6,k7⟩:=h.pair hm
   simp only [kN]
   rw [xQ hi,cond_true,qO,Int.toNat_natCast,if_neg (by omega)]
   generalize hp:s[m]'(by omega)=p at *
   obtain ⟨a,ha⟩:=Int.eq_ofNat_of_zero_le k3
   have hlt:a<n.length:=by omega
   rw [hm,zbs,ha,qO]
   simp only [ha,Int.toNat_natCast,List.getElem?_eq_getElem hlt,zbs,Option.getD_some]
   rw [xA (by simp;omega),zbs,ih _ _ _ k1 (by omega) (by omega) (by omega) (by simp;omega)]
   simp
theorem zJA {n:List (List Int)} {s:List zO} (h:vW n s):∀ (k f:Nat) (i:Int) (row:List (List Int)), -1≤i→i<s.length→dOf (dsF s) i≤k→k<f→row.length+k≤1000 →
  zBg 200000 n s f i row=some ((kN n s k i).reverse++row):=by
 intro k
 induction k with
 | zero =>
  intro f i row h0 h1 h2 h3 h4
  have hi:i = -1:=(h.depth0 h0 h1).2.2.1 (by have:=(h.depth0 h0 h1).1;omega)
  subst hi
  obtain ⟨f,rfl⟩:∃ g,f=g+1:=⟨f - 1,by omega⟩
  show tX _ _ _ _ _ _=_
  unfold tX
  rw [yF (by omega),cond_false];simp [kN]
 | succ k ih =>
  intro f i row h0 h1 h2 h3 h4
  obtain ⟨f,rfl⟩:∃ g,f=g+1:=⟨f - 1,by omega⟩
  show tX _ _ _ _ _ _=_
  unfold tX
  by_cases hi:i = -1
  ·subst hi
   rw [yF (by omega),cond_false];simp [kN]
  ·obtain ⟨m,rfl⟩:=Int.eq_ofNat_of_zero_le (show 0≤i by omega)
   have hm:s[m]?=some (s[m]'(by omega)):=List.getElem?_eq_getElem _
   obtain ⟨k1,k2,k3,k4,k5,k6,k7⟩:=h.pair hm
   simp only [kN]
   rw [yR (by omega),cond_true,qO,Int.toNat_natCast,if_neg (by omega)]
   generalize hp:s[m]'(by omega)=p at *
   obtain ⟨a,ha⟩:=Int.eq_ofNat_of_zero_le k3
   have hlt:a<n.length:=by omega
   rw [hm,zbs,ha,qO]
   simp only [ha,Int.toNat_natCast,List.getElem?_eq_getElem hlt,zbs,Option.getD_some]
   rw [xA (by simp;omega),zbs,ih _ _ _ k1 (by omega) (by omega) (by omega) (by simp;omega)]
   simp
theorem zP4 {l:List (List Int)} (hl:l.length≤100000):∀ (f i:Nat) (row:List (List Int)),row.length=l.length→2 * i≤l.length+1→l.length<f+i →
  (∀ k,row[k]?=if k<i∨l.length≤k+i then l.reverse[k]? else l[k]?)→w5 200000 f (i:Int) ((l.length:Int) - 1 - i) row=some l.reverse:=by
 intro f
 induction f with
 | zero=>intro i row hr h2 hf;omega
 | succ f ih =>
  intro i row hr h2 hf hk
  show w6 _ _ _ _ _=_
  unfold w6
  by_cases hi:(i:Int)<(l.length:Int) - 1 - i
  ·obtain ⟨j,hj⟩:=Int.eq_ofNat_of_zero_le (show 0≤(l.length:Int) - 1 - i by omega)
   have hjl:j<row.length:=by omega
   have hil:i<row.length:=by omega
   have hne:i≠j:=by omega
   rw [yR hi,cond_true,hj,qO,qO,List.getElem?_eq_getElem hjl,zbs,List.getElem?_eq_getElem hil,zbs,zbs,
    Int.toNat_natCast,Int.toNat_natCast,qO,List.getElem?_set_ne hne,List.getElem?_eq_getElem hjl,zbs,w64 (by omega) (by omega),w64 (by omega) (by omega)]
   have:=ih (i+1) ((row.set i row[j]).set j row[i]) (by simp [hr]) (by omega) (by omega) ?_
   ·rw [show ((i:Int)+1)=((i+1:Nat):Int) by omega,show (j:Int) - 1=(l.length:Int) - 1 - ((i+1:Nat):Int) by omega];exact this
   ·intro k
    have ej:some row[j]=l.reverse[i]?:=by
     rw [← List.getElem?_eq_getElem hjl,hk j,if_neg (by omega),List.getElem?_reverse (by omega)];congr 1;omega
    have ei:some row[i]=l.reverse[j]?:=by
     rw [← List.getElem?_eq_getElem hil,hk i,if_neg (by omega),List.getElem?_reverse (by omega)];congr 1;omega
    by_cases h1:k=j
    ·subst h1;rw [List.getElem?_set_self (by simpa using hjl),if_pos (by omega),ei]
    rw [List.getElem?_set_ne (fun e=>h1 e.symm)]
    by_cases h3:k=i
    ·subst h3;rw [List.getElem?_set_self hil,if_pos (by omega),ej]
    rw [List.getElem?_set_ne (fun e=>h3 e.symm),hk k]
    by_cases h4:k<i∨l.length≤k+i
    ·rw [if_pos h4,if_pos (by omega)]
    ·rw [if_neg h4,if_neg (by omega)]
  ·rw [yF hi,cond_false]
   congr 1
   apply List.ext_getElem?
   intro k
   rw [hk k]
   by_cases h1:k<i∨l.length≤k+i
   ·rw [if_pos h1]
   ·rw [if_neg h1,List.getElem?_reverse (by omega)];congr 1;omega
theorem zHf {l:List (List Int)} (hl:l.length≤100000):uD 200000 l=some l.reverse:=by
 unfold uD
 have:=zP4 hl 200000 0 l rfl (by omega) (by omega) (by
  intro k
  by_cases h:l.length≤k
  ·rw [if_pos (by omega),List.getElem?_eq_none h,List.getElem?_eq_none (by simpa using h)]
  ·rw [if_neg (by omega)])
 rw [w64 (by omega) (by omega),show (l.length:Int) - 1=(l.length:Int) - 1 - (0:Nat) by omega,show w5 200000 200000 0 ((l.length:Int) - 1 - (0:Nat)) l=_ from this,zbs]
def nI (n:List (List Int)) (s:List zO) (i:Int):List (List Int)×Int :=
 if uA n s≠0 then ([],1) else if i < -1∨i≥s.length then ([],2) else ((kN n s 32 i).reverse,0)
theorem zIG {n:List (List Int)} {s:List zO} {i:Int}:n5 200000 n s i=some (nI n s i):=by
 unfold n5 nI
 rw [zA5,zbs]
 by_cases h:uA n s≠0
 ·rw [xQ h,cond_true,if_pos h]
 rw [xE (by omega),cond_false,if_neg h]
 by_cases h2:i < -1∨i≥s.length
 ·rw [if_pos h2]
  have:(decide (i<(-1:Int))||decide (i≥(((s).length:Nat):Int)))=true:=by simpa using h2
  rw [this];rfl
 rw [if_neg h2]
 simp (disch:=omega) only [yF,Bool.or_false,cond_false]
 have hg:vW n s:=zCq.1 (by omega)
 have hlen:=zGG n s 32 i
 rw [zHi hg 32 _ _ _ (by omega) (by omega) ((hg.depth0 (by omega) (by omega)).2.1) (by omega) (by simp),zbs,List.nil_append,zHf (by omega),zbs,xA (by simp),zbs]
theorem zMt {n:List (List Int)} {s:List zO} {i:Int}:zDW 200000 n s i=some (nI n s i):=by
 unfold zDW nI
 rw [show kE 200000 n s=some (uA n s) from zCT,zbs]
 by_cases h:uA n s≠0
 ·rw [xQ h,cond_true,if_pos h]
 rw [xE (by omega),cond_false,if_neg h]
 by_cases h2:i < -1∨i≥s.length
 ·rw [if_pos h2]
  have:(decide (i<(-1:Int))||decide (i≥(((s).length:Nat):Int)))=true:=by simpa using h2
  rw [this];rfl
 rw [if_neg h2]
 simp (disch:=omega) only [yF,Bool.or_false,cond_false]
 have hg:vW n s:=zCq.1 (by omega)
 rw [zJA hg 32 _ _ _ (by omega) (by omega) ((hg.depth0 (by omega) (by omega)).2.1) (by omega) (by simp),zbs,List.append_nil]
theorem zOd {n:List (List Int)} {s:List zO} {i:Int}:(nI n s i).1.length≤32:=by
 unfold nI
 split
 ·simp
 split
 ·simp
 ·simpa using zGG n s 32 i
theorem zCG {α:Type} {l m:List α} (h:l <+: m) {i:Nat} {x:α} (hx:l[i]?=some x):m[i]?=some x:=by
 obtain ⟨t,rfl⟩:=h
 rw [List.getElem?_append_left (List.getElem?_eq_some_iff.1 hx).1];exact hx
theorem zHI {n:List (List Int)} {s:List zO} {x:List Int} (h:vW n s) (hx:uG x=0) :
  ((wP n x).2.2=6∧x∉n∧n.length=1000)∨((wP n x).2.2=0∧(∃ a:Nat,(wP n x).1=a∧(wP n x).2.1[a]?=some x)∧vW (wP n x).2.1 s∧n <+: (wP n x).2.1∧(x∈n→(wP n x).2.1=n)):=by
 unfold wP
 have hn1:=h.n1
 rw [if_neg (by omega)]
 rcases zAw x n 0 with ⟨h1,h2⟩ | ⟨j,h1,h2⟩
 ·rw [if_neg (by omega)]
  by_cases h3:1000≤n.length
  ·rw [if_pos h3];exact .inl ⟨rfl,h2,by omega⟩
  ·rw [if_neg h3]
   exact .inr ⟨rfl,⟨n.length,rfl,by simp⟩,h.name hx h2 (by omega),List.prefix_append _ _,fun hm=>absurd hm h2⟩
 ·rw [if_pos (by omega)]
  exact .inr ⟨rfl,⟨j,by rw [h2];simp,h1⟩,h,List.prefix_refl _,fun _=>rfl⟩
def Has (n:List (List Int)) (s:List zO):Int→List (List Int)→Int→Prop
 | at_,[],i=>i=at_
 | at_,x::r,i=>∃ a b:Nat,n[a]?=some x∧s[b]?=some ⟨at_,(a:Int)⟩∧Has n s (b:Int) r i
theorem Has.mono {n n':List (List Int)} {s s':List zO} (hn:n <+: n') (hs:s <+: s'):∀ {l:List (List Int)} {at_ i:Int},Has n s at_ l i→Has n' s' at_ l i:=by
 intro l
 induction l with
 | nil=>intro at_ i h;exact h
 | cons x r ih =>
  rintro at_ i ⟨a,b,h1,h2,h3⟩
  exact ⟨a,b,zCG hn h1,zCG hs h2,ih h3⟩
theorem zQo {s:List zO} {p:zO}:dOf (dsF (s++[p])) (s.length:Int)=1+dOf (dsF s) p.c0:=by
 rw [zMf]
 unfold dOf
 rw [if_neg (by omega),Int.toNat_natCast,List.getElem?_append_right (by rw [zEx];exact Nat.le_refl _),zEx]
 simp
theorem zPl {n0:List (List Int)} {s0:List zO}:∀ (l:List (List Int)) (at_:Int) (n:List (List Int)) (s:List zO),vW n s→(∀ x∈l,uG x=0) → -1≤at_→at_<s.length→dOf (dsF s) at_+l.length≤32 →
  ((jP n0 s0 l at_ n s).2.2.2≠0∧jP n0 s0 l at_ n s=(0,n0,s0,(jP n0 s0 l at_ n s).2.2.2)) ∨
  ((jP n0 s0 l at_ n s).2.2.2=0∧vW (jP n0 s0 l at_ n s).2.1 (jP n0 s0 l at_ n s).2.2.1∧n <+: (jP n0 s0 l at_ n s).2.1∧s <+: (jP n0 s0 l at_ n s).2.2.1 ∧
   Has (jP n0 s0 l at_ n s).2.1 (jP n0 s0 l at_ n s).2.2.1 at_ l (jP n0 s0 l at_ n s).1 ∧ -1≤(jP n0 s0 l at_ n s).1∧(jP n0 s0 l at_ n s).1<(jP n0 s0 l at_ n s).2.2.1.length):=by
 intro l
 induction l with
 | nil=>intro at_ n s h hv h0 h1 h2;exact .inr ⟨rfl,h,List.prefix_refl _,List.prefix_refl _,rfl,h0,h1⟩
 | cons x r ih =>
  intro at_ n s h hv h0 h1 h2
  simp only [List.length_cons] at h2
  have hd0:=h.depth0 h0 h1
  simp only [jP]
  rcases zHI h (hv x (by simp)) with ⟨k1,_,_⟩ | ⟨k1,⟨a,k2,k3⟩,k4,k5,_⟩
  ·rw [k1,if_pos (by decide)];exact .inl ⟨(by decide:(6:Int)≠0),rfl⟩
  rw [k1,if_neg (by decide),k2]
  have hal:(a:Int)<(wP n x).2.1.length:=by have:=(List.getElem?_eq_some_iff.1 k3).1;omega
  rcases zAw (⟨at_,(a:Int)⟩:zO) s 0 with ⟨g1,g2⟩ | ⟨j,g1,g2⟩
  ·rw [g1,if_neg (by decide)]
   by_cases hf:1000≤s.length
   ·rw [if_pos hf];exact .inl ⟨(by decide:(6:Int)≠0),rfl⟩
   rw [if_neg hf]
   have hg2:vW (wP n x).2.1 (s++[⟨at_,(a:Int)⟩]):=k4.push ⟨h0,h1,Int.natCast_nonneg _,hal,g2,by simp only;omega⟩ (by omega)
   have hl:=zQo (s:=s) (p:=⟨at_,(a:Int)⟩)
   rcases ih (s.length:Int) _ _ hg2 (fun y hy=>hv y (by simp [hy])) (by omega) (by simp;omega) (by rw [hl];simp only;omega) with h3 | ⟨h3,h4,h5,h6,h7,h8⟩
   ·exact .inl h3
   ·exact .inr ⟨h3,h4,k5.trans h5,(List.prefix_append _ _).trans h6,⟨a,s.length,zCG h5 k3,zCG h6 (by simp),h7⟩,h8⟩
  ·rw [g2,Nat.zero_add,if_pos (by omega)]
   have hp:=h.pair g1
   have hjl:=(List.getElem?_eq_some_iff.1 g1).1
   simp only at hp
   rcases ih (j:Int) _ _ k4 (fun y hy=>hv y (by simp [hy])) (by omega) (by omega) (by omega) with h3 | ⟨h3,h4,h5,h6,h7,h8⟩
   ·exact .inl h3
   ·exact .inr ⟨h3,h4,k5.trans h5,h6,⟨a,j,zCG h5 k3,zCG h6 g1,h7⟩,h8⟩
theorem zML {α:Type} [DecidableEq α] {l:List α} {x:α} (hu:∀ i j:Nat,l[i]?=some x→l[j]?=some x→i=j) {a:Nat} (h:l[a]?=some x):vX x 0 l=(a:Int):=by
 rcases zAw x l 0 with ⟨_,h2⟩ | ⟨j,h1,h2⟩
 ·exact absurd (List.mem_of_getElem? h) h2
 ·rw [h2,Nat.zero_add,hu _ _ h1 h]
theorem zPm {α:Type} {l:List α} (h:l.Nodup) {x:α}:∀ i j:Nat,l[i]?=some x→l[j]?=some x→i=j:=by
 intro i j hi hj
 obtain ⟨h1,h2⟩:=List.getElem?_eq_some_iff.1 hi
 obtain ⟨h3,h4⟩:=List.getElem?_eq_some_iff.1 hj
 exact (List.getElem_inj h).1 (h2.trans h4.symm)
theorem zMr {n0:List (List Int)} {s0:List zO} {n:List (List Int)} {s:List zO} (h:vW n s):∀ (l:List (List Int)) (at_ i:Int),Has n s at_ l i→jP n0 s0 l at_ n s=(i,n,s,0):=by
 intro l
 induction l with
 | nil=>intro at_ i hi;simp only [Has] at hi;simp only [jP,hi]
 | cons x r ih =>
  rintro at_ i ⟨a,b,h1,h2,h3⟩
  have e:wP n x=((a:Int),n,0):=by
   have hv:=h.valid (List.mem_of_getElem? h1)
   unfold wP
   rw [if_neg (by omega),zML (zPm h.nodup) h1,if_pos (by omega)]
  simp only [jP]
  rw [e]
  simp only
  rw [if_neg (by decide),zML (fun i j hi hj=>h.snodup hi hj) h2,if_pos (by omega)]
  exact ih _ _ h3
theorem Has.fn {n:List (List Int)} {s:List zO} (h:vW n s):∀ {l:List (List Int)} {at_ i j:Int},Has n s at_ l i→Has n s at_ l j→i=j:=by
 intro l at_ i j h1 h2
 have e1:=zMr (n0:=[]) (s0:=[]) h l at_ i h1
 have e2:=zMr (n0:=[]) (s0:=[]) h l at_ j h2
 rw [e1] at e2
 exact (Prod.mk.inj e2).1
theorem Has.path {n:List (List Int)} {s:List zO}:∀ {l:List (List Int)} {at_ i:Int} {k:Nat},Has n s at_ l i→kN n s (k+l.length) i=l.reverse++kN n s k at_:=by
 intro l
 induction l with
 | nil=>intro at_ i k h;simp only [Has] at h;simp [h]
 | cons x r ih =>
  rintro at_ i k ⟨a,b,h1,h2,h3⟩
  have:=ih (k:=k+1) h3
  rw [show k+(x::r).length=k+1+r.length by simp only [List.length_cons];omega,this]
  simp only [kN]
  rw [if_neg (by omega),Int.toNat_natCast,h2]
  simp [h1]
theorem zFX (n:List (List Int)) (s:List zO) (k:Nat):kN n s k (-1)=[]:=by
 cases k<;>simp [kN]
theorem Has.list {n:List (List Int)} {s:List zO} {l:List (List Int)} {i:Int} (h:Has n s (-1) l i) (hl:l.length≤32):(kN n s 32 i).reverse=l:=by
 have:=Has.path (k:=32 - l.length) h
 rw [Nat.sub_add_cancel hl,zFX,List.append_nil] at this
 rw [this,List.reverse_reverse]
theorem Has.names {n:List (List Int)} {s:List zO}:∀ {l:List (List Int)} {at_ i:Int},Has n s at_ l i→∀ x∈l,x∈n:=by
 intro l
 induction l with
 | nil=>intro at_ i _ x hx;cases hx
 | cons y r ih =>
  rintro at_ i ⟨a,b,h1,h2,h3⟩ x hx
  rcases List.mem_cons.1 hx with rfl | hx
  ·exact List.mem_of_getElem? h1
  ·exact ih h3 x hx
theorem zGS {l:List (List Int)}:t9 l=0↔l.length≤32∧∀ x∈l,uG x=0:=by
 unfold t9
 by_cases h:32<l.length
 ·rw [if_pos h];constructor
  ·intro h;cases h
  ·omega
 rw [if_neg h]
 by_cases h2:l.all (fun s=>decide (uG s=0))=true
 ·rw [if_pos h2];simp at h2;exact ⟨fun _=>⟨by omega,h2⟩,fun _=>rfl⟩
 ·rw [if_neg h2];simp only [List.all_eq_true,decide_eq_true_eq] at h2
  constructor
  ·intro h;cases h
  ·intro h3;exact absurd h3.2 h2
theorem zJX {n:List (List Int)} {s:List zO} {l:List (List Int)} (h:vW n s) :
  ((wX n s l).2.2.2≠0∧wX n s l=(0,n,s,(wX n s l).2.2.2)) ∨
  ((wX n s l).2.2.2=0∧l.length≤32∧(∀ x∈l,uG x=0)∧vW (wX n s l).2.1 (wX n s l).2.2.1∧n <+: (wX n s l).2.1∧s <+: (wX n s l).2.2.1 ∧
   Has (wX n s l).2.1 (wX n s l).2.2.1 (-1) l (wX n s l).1 ∧ -1≤(wX n s l).1∧(wX n s l).1<(wX n s l).2.2.1.length):=by
 unfold wX
 by_cases hf:t9 l≠0
 ·rw [if_pos hf];exact .inl ⟨hf,rfl⟩
 rw [if_neg hf]
 obtain ⟨hl,hv⟩:=zGS.1 (show t9 l=0 by omega)
 rcases zPl (n0:=n) (s0:=s) l (-1) n s h hv (by omega) (by omega) (by simp [dOf];omega) with h1 | ⟨h1,h2⟩
 ·exact .inl h1
 ·exact .inr ⟨h1,hl,hv,h2⟩
end Go.Ab
