/- Plain laws of the functions uV this seat's, laid anew from another seat's text. No conditions but those that the theorems name. -/
import Derived.Test.YtoeengmnmhhpgaaGreatP15zxD
import Derived.Test.YtoeengmnmhhpgaaGreatA32
import Derived.Test.YtoeengmnmhhpgaaGreatC15y
namespace Go.Ab
open Go
set_option linter.unusedVariables false
def pL:List Int:=[95,46,58,47,60,62,36,42,126,45]
def a9 (c:Int):Bool:=decide (97≤c∧c≤122)||decide (65≤c∧c≤90)||decide (48≤c∧c≤57)||pL.contains c
def u4 {α:Type} [DecidableEq α] (s:α):Nat→List α→Int
 | _,[] => -1
 | i,x::r=>if x=s then (i:Int) else u4 s (i+1) r
theorem oQ {α:Type} [DecidableEq α] (s:α):∀ (l:List α) (i:Nat),(u4 s i l = -1∧s∉l)∨∃ j,l[j]?=some s∧u4 s i l=((i+j:Nat):Int):=by
 intro l
 induction l with
 | nil=>intro i;exact .inl ⟨rfl,by simp⟩
 | cons x r ih =>
  intro i
  unfold u4
  by_cases h:x=s
  ·exact .inr ⟨0,by simp [h],by simp [h]⟩
  ·rw [if_neg h]
   rcases ih (i+1) with ⟨h1,h2⟩ | ⟨j,h1,h2⟩
   ·exact .inl ⟨h1,by simp [h2,Ne.symm h]⟩
   ·exact .inr ⟨j+1,by simpa using h1,by rw [h2];omega⟩
def tD (s:List Int):Int:=if s=[]∨40<s.length then 3 else if s.all a9 then 0 else 3
theorem K0 {α R:Type} {l:List α} (L:Nat→Int→Option (Unit⊕R)) (f:Nat→α→Option R)
  (h0:∀ n i,l.length≤i→L (n+1) (i:Nat)=some (.inl ()))
  (h1:∀ n i x r,l.drop i=x::r→i<l.length→(∀ b,f i x=some b→L (n+1) (i:Nat)=some (.inr b))∧(f i x=none→L (n+1) (i:Nat)=L n ((i+1:Nat):Int)))
  {n:Nat} (hn:l.length<n):L n 0=some (uS f 0 l):=by
 have:=HE (l:=l) (σ:=Unit) (fun n i _=>L n i) (fun i r _=>uS f i r) (fun _ _=>True) (fun n i _ hi _=>h0 n i hi) ?_ (n:=n) (s:=()) trivial hn
 ·exact this
 ·intro n i _ x r hd hlt _ ih
  obtain ⟨k1,k2⟩:=h1 n i x r hd hlt
  simp only [uS]
  cases hf:f i x with
  | none=>rw [k2 hf];exact ih () trivial
  | some b=>rw [k1 b hf]
theorem zGE {α:Type} (p:α→Bool):∀ (l:List α) (i:Nat),uS (fun _ x=>if p x then some true else none) i l=if l.any p then .inr true else .inl ():=by
 intro l
 induction l with
 | nil=>intro i;rfl
 | cons x r ih =>
  intro i
  simp only [uS]
  by_cases hp:p x=true
  ·have ea:(x::r).any p=true:=by simp [hp]
   rw [if_pos hp,if_pos ea]
  ·have ea:(x::r).any p=r.any p:=by simp [hp]
   rw [if_neg hp,ih (i+1),ea]
theorem zAl {c:Int}:fT 281474976710656 c 281474976710656 0=some (if pL.contains c then .inr true else .inl ()):=by
 have:=K0 (l:=pL) (fT 281474976710656 c) (fun _ x=>if x==c then some true else none) ?_ ?_ (n:=281474976710656) (by show 10<281474976710656;omega)
 ·rw [this,zGE (fun x=>x==c)]
  have e:pL.any (fun x=>x==c)=pL.contains c:=by
   rw [List.contains_eq_any_beq];congr 1;funext x;exact BEq.comm
  rw [e]
 ·intro n i hi
  show mL 281474976710656 c _ _=_
  unfold mL
  change pL.length≤i at hi
  have h10:pL.length=10:=rfl
  rw [yM (by rw [show ([95,46,58,47,60,62,36,42,126,45]:List Int)=pL from rfl];omega),cond_false]
 ·intro n i x r hd hlt
  have h10:pL.length=10:=rfl
  have e:fT 281474976710656 c (n+1) (i:Nat)=(bif (x==c) then some (.inr true) else fT 281474976710656 c n ((i+1:Nat):Int)):=by
   show mL 281474976710656 c _ _=_
   unfold mL
   rw [show ([95,46,58,47,60,62,36,42,126,45]:List Int)=pL from rfl,yP (by omega),cond_true,w5 hd,zbs,wW (by omega)]
  rw [e]
  constructor
  ·intro b hb
   by_cases hx:(x==c)=true
   ·rw [if_pos hx] at hb;injection hb with hb;subst hb;rw [hx];rfl
   ·rw [if_neg hx] at hb;cases hb
  ·intro hb
   by_cases hx:(x==c)=true
   ·rw [if_pos hx] at hb;cases hb
   ·rw [Bool.not_eq_true] at hx;rw [hx];rfl
theorem zCa (c:Int):∀ l:List Int, -1≤kE l c∧decide (kE l c≥0)=l.contains c:=by
 intro l
 induction l with
 | nil=>simp [kE]
 | cons b l ih =>
  unfold kE
  rw [List.contains_cons]
  by_cases h:b=c
  ·rw [if_pos h];subst h;simp
  ·rw [if_neg h]
   have hb:(c==b)=false:=by simpa using Ne.symm h
   rw [hb,Bool.false_or]
   by_cases h2:kE l c = -1
   ·rw [if_pos h2]
    have:=ih.2;rw [h2] at this
    exact ⟨by omega,this⟩
   ·rw [if_neg h2]
    refine ⟨by omega,?_⟩
    rw [← ih.2]
    have:=ih.1
    rw [yP (by omega),yP (by omega)]
theorem ZT {c:Int}:decide (kE pL c≥0)=pL.contains c:=(zCa c pL).2
theorem zAV {c:Int}:ED c=some (a9 c):=by
 unfold ED aY K3
 have h:=ZT (c:=c)
 unfold pL at h
 unfold a9 pL
 simp only [zbs,h]
 by_cases c1:c≥97<;>by_cases c2:c≤122<;>by_cases c3:c≥65<;>by_cases c4:c≤90<;>by_cases c5:c≥48<;>by_cases c6:c≤57<;>simp [c1,c2,c3,c4,c5,c6]<;>omega
theorem zGN {c:Int}:DD 281474976710656 c=some (a9 c):=by
 unfold DD
 rw [zAl]
 unfold a9
 by_cases hs:pL.contains c=true
 ·rw [if_pos hs]
  simp only [hs,Bool.or_true,zbs]
  cases (bif decide (c≥(97:Int)) then (decide (c≤(122:Int))||(bif decide (c≥(65:Int)) then (decide (c≤(90:Int))||(decide (c≥(48:Int))&&decide (c≤(57:Int)))) else (decide (c≥(48:Int))&&decide (c≤(57:Int))))) else (bif decide (c≥(65:Int)) then (decide (c≤(90:Int))||(decide (c≥(48:Int))&&decide (c≤(57:Int)))) else (decide (c≥(48:Int))&&decide (c≤(57:Int)))))<;>rfl
 ·rw [if_neg hs]
  rw [Bool.not_eq_true] at hs
  simp only [hs,Bool.or_false,zbs]
  by_cases c1:c≥97<;>by_cases c2:c≤122<;>by_cases c3:c≥65<;>by_cases c4:c≤90<;>by_cases c5:c≥48<;>by_cases c6:c≤57<;>simp [c1,c2,c3,c4,c5,c6]<;>omega
theorem XQ {α R:Type} (p:α→Bool) (v:R):∀ (l:List α) (i:Nat),uS (fun _ x=>if p x=false then some v else none) i l=if l.all p=true then .inl () else .inr v:=by
 intro l
 induction l with
 | nil=>intro i;rfl
 | cons x r ih =>
  intro i
  simp only [uS]
  by_cases hp:p x=false
  ·have ea:¬(x::r).all p=true:=by simp [hp]
   rw [if_pos hp,if_neg ea]
  ·have ea:(x::r).all p=r.all p:=by simp at hp;simp [hp]
   rw [if_neg hp,ih (i+1),ea]
theorem T4 {l:List Int} (L:Nat→Int→Option (Unit⊕Int)) (hl:l.length≤40)
  (e:∀ n i,L (n+1) (i:Nat)=bif decide (((i:Nat):Int)<((l.length:Nat):Int)) then (yZ l (i:Nat)).bind fun c=>(bif !(a9 c) then some (.inr (3:Int)) else L n (zG ((i:Nat)+(1:Int)))) else some (.inl ())) :
  L 281474976710656 0=some (if l.all a9=true then .inl () else .inr 3):=by
 have:=K0 (l:=l) L (fun _ x=>if a9 x=false then some 3 else none) ?_ ?_ (n:=281474976710656) (by omega)
 ·rw [this,XQ]
 ·intro n i hi
  rw [e,yM (by omega),cond_false]
 ·intro n i x r hd hlt
  rw [e,yP (by omega),cond_true,w5 hd,zbs,wW (by omega)]
  cases a9 x<;>simp
theorem DA {l:List Int}:cR 281474976710656 l=some (tD l):=by
 unfold cR tD
 by_cases h:l=[]∨40<l.length
 ·have:((l==([]:List Int))||decide ((((l).length:Nat):Int)>(40:Int)))=true:=by
   rcases h with h | h
   ·rw [h];rfl
   ·rw [yP (p:=((l.length:Nat):Int)>40) (by omega),Bool.or_true]
  rw [this,cond_true,if_pos h]
 ·have:((l==([]:List Int))||decide ((((l).length:Nat):Int)>(40:Int)))=false:=by
   have hb:(l==([]:List Int))=false:=by
    cases l with
    | nil=>exact absurd (.inl rfl) h
    | cons a r=>rfl
   rw [hb,yM (by omega)];rfl
  rw [this,cond_false,if_neg h,T4 (l:=l) (D2 281474976710656 l) (by omega) (fun n i=>by
   show H3 281474976710656 l _ _=_
   unfold H3
   simp only [zAV,zbs]),zbs]
  by_cases ha:l.all a9=true
  ·rw [if_pos ha,if_pos ha]
  ·rw [if_neg ha,if_neg ha]
theorem JC {l:List Int}:cZ 281474976710656 l=some (tD l):=by
 unfold cZ tD
 by_cases h:l=[]∨40<l.length
 ·have:(decide ((((l).length:Nat):Int)<(1:Int))||decide ((((l).length:Nat):Int)>(40:Int)))=true:=by
   rcases h with h | h
   ·rw [h];rfl
   ·rw [yP (p:=((l.length:Nat):Int)>40) (by omega),Bool.or_true]
  rw [this,cond_true,if_pos h]
 ·have hp:0<l.length:=List.length_pos_iff.2 (fun hc=>h (.inl hc))
  have:(decide ((((l).length:Nat):Int)<(1:Int))||decide ((((l).length:Nat):Int)>(40:Int)))=false:=by
   rw [yM (by omega),yM (by omega)];rfl
  rw [this,cond_false,if_neg h,T4 (l:=l) (CV 281474976710656 l) (by omega) (fun n i=>by
   show D3 281474976710656 l _ _=_
   unfold D3
   simp only [zGN,zbs]),zbs]
  by_cases ha:l.all a9=true
  ·rw [if_pos ha,if_pos ha]
  ·rw [if_neg ha,if_neg ha]
def kH (l:List (List Int)):Int:=if 32<l.length then 7 else if l.all (fun s=>decide (tD s=0)) then 0 else 3
theorem ER (s:List Int):tD s=0∨tD s=3:=by
 unfold tD;split
 ·exact .inr rfl
 ·split
  ·exact .inl rfl
  ·exact .inr rfl
theorem X2 {l:List (List Int)} (L:Nat→Int→Option (Unit⊕Int)) (hl:l.length≤100000)
  (e:∀ n i,L (n+1) (i:Nat)=bif decide (((i:Nat):Int)<((l.length:Nat):Int)) then (yZ l (i:Nat)).bind fun c=>(bif (tD c != (0:Int)) then some (.inr (3:Int)) else L n (zG ((i:Nat)+(1:Int)))) else some (.inl ())) :
  L 281474976710656 0=some (if l.all (fun s=>decide (tD s=0))=true then .inl () else .inr 3):=by
 have:=K0 (l:=l) L (fun _ x=>if decide (tD x=0)=false then some 3 else none) ?_ ?_ (n:=281474976710656) (by omega)
 ·rw [this,XQ (fun s=>decide (tD s=0))]
 ·intro n i hi
  rw [e,yM (by omega),cond_false]
 ·intro n i x r hd hlt
  rw [e,yP (p:=((i:Nat):Int)<((l.length:Nat):Int)) (by omega),cond_true,w5 hd,zbs,wW (by omega)]
  rcases ER x with h | h<;>simp [h]
theorem WM {l:List (List Int)}:AD 281474976710656 l=some (kH l):=by
 unfold AD kH
 by_cases h:32<l.length
 ·rw [yP (by omega),cond_true,if_pos h]
 ·rw [yM (by omega),cond_false,if_neg h,X2 (l:=l) (GS 281474976710656 l) (by omega) (fun n i=>by
   show CM 281474976710656 l _ _=_
   unfold CM
   simp only [DA,zbs]
   congr 1;congr 1;funext c
   rcases ER c with h | h<;>rw [h]<;>rfl),zbs]
  by_cases ha:l.all (fun s=>decide (tD s=0))=true
  ·rw [if_pos ha,if_pos ha]
  ·rw [if_neg ha,if_neg ha]
theorem VK {l:List (List Int)}:BC 281474976710656 l=some (kH l):=by
 unfold BC kH
 by_cases h:32<l.length
 ·rw [yP (by omega),cond_true,if_pos h]
 ·rw [yM (by omega),cond_false,if_neg h,X2 (l:=l) (G8 281474976710656 l) (by omega) (fun n i=>by
   show GP 281474976710656 l _ _=_
   unfold GP
   simp only [JC,zbs]),zbs]
  by_cases ha:l.all (fun s=>decide (tD s=0))=true
  ·rw [if_pos ha,if_pos ha]
  ·rw [if_neg ha,if_neg ha]
theorem J2 {α:Type} [DecidableEq α] {l:List α} {s:α} (L:Nat→Int→Option (Unit⊕Int)) (hl:l.length≤100000)
  (e:∀ n i x r,l.drop i=x::r→i<l.length→L (n+1) (i:Nat)=if x=s then some (.inr (i:Int)) else L n ((i+1:Nat):Int))
  (e0:∀ n i,l.length≤i→L (n+1) (i:Nat)=some (.inl ())):L 281474976710656 0=some (if u4 s 0 l = -1 then .inl () else .inr (u4 s 0 l)):=by
 have:=HE (l:=l) (σ:=Unit) (fun n i _=>L n i) (fun i r _=>if u4 s i r = -1 then .inl () else .inr (u4 s i r)) (fun _ _=>True) (fun n i _ hi _=>by simpa [u4] using e0 n i hi) ?_ (n:=281474976710656) (s:=()) trivial (by omega)
 ·exact this
 ·intro n i _ x r hd hlt _ ih
  show L (n+1) (i:Nat)=_
  rw [e n i x r hd hlt]
  by_cases h:x=s
  ·have:u4 s i (x::r)=(i:Int):=by simp [u4,h]
   rw [if_pos h,this,if_neg (by omega)]
  ·have:u4 s i (x::r)=u4 s (i+1) r:=by simp [u4,h]
   rw [if_neg h,this];exact ih () trivial
theorem ZS {l:List (List Int)} {s:List Int} (hl:l.length≤100000):ET 281474976710656 l s=some (u4 s 0 l):=by
 unfold ET
 rw [J2 (l:=l) (s:=s) (C8 281474976710656 l s) hl (fun n i x r hd hlt=>by
  show gU 281474976710656 l s _ _=_
  unfold gU
  rw [yP (p:=((i:Nat):Int)<((l.length:Nat):Int)) (by omega),cond_true,w5 hd,zbs,wW (by omega)]
  by_cases h:x=s
  ·rw [if_pos h,gH h.symm];rfl
  ·rw [if_neg h,B7 (fun hc=>h hc.symm)];rfl) (fun n i hi=>by
  show gU 281474976710656 l s _ _=_
  unfold gU
  rw [yM (p:=((i:Nat):Int)<((l.length:Nat):Int)) (by omega),cond_false]),zbs]
 by_cases h:u4 s 0 l = -1
 ·rw [if_pos h,h]
 ·rw [if_neg h]
theorem V9 {l:List (List Int)} {s:List Int} (hl:l.length≤100000):rK 281474976710656 l s=some (u4 s 0 l):=by
 unfold rK
 rw [J2 (l:=l) (s:=s) (E6 281474976710656 l s) hl (fun n i x r hd hlt=>by
  show gT 281474976710656 l s _ _=_
  unfold gT
  rw [yP (p:=((i:Nat):Int)<((l.length:Nat):Int)) (by omega),cond_true,w5 hd,zbs,wW (by omega)]
  by_cases h:x=s
  ·rw [if_pos h,gH h];rfl
  ·rw [if_neg h,B7 h];rfl) (fun n i hi=>by
  show gT 281474976710656 l s _ _=_
  unfold gT
  rw [yM (p:=((i:Nat):Int)<((l.length:Nat):Int)) (by omega),cond_false]),zbs]
 by_cases h:u4 s 0 l = -1
 ·rw [if_pos h,h]
 ·rw [if_neg h]
theorem zDC {l:List (zQ)} {s:zQ} (hl:l.length≤100000):CO 281474976710656 l s=some (u4 s 0 l):=by
 unfold CO
 rw [J2 (l:=l) (s:=s) (GD 281474976710656 l s) hl (fun n i x r hd hlt=>by
  show mB 281474976710656 l s _ _=_
  unfold mB
  rw [yP (p:=((i:Nat):Int)<((l.length:Nat):Int)) (by omega),cond_true,w5 hd,zbs,wW (by omega)]
  by_cases h:x=s
  ·rw [if_pos h,yP h.symm];rfl
  ·rw [if_neg h,yM (fun hc=>h hc.symm)];rfl) (fun n i hi=>by
  show mB 281474976710656 l s _ _=_
  unfold mB
  rw [yM (p:=((i:Nat):Int)<((l.length:Nat):Int)) (by omega),cond_false]),zbs]
 by_cases h:u4 s 0 l = -1
 ·rw [if_pos h,h]
 ·rw [if_neg h]
theorem XA {l:List (zQ)} {s:zQ} (hl:l.length≤100000):BO 281474976710656 l s=some (u4 s 0 l):=by
 unfold BO
 rw [J2 (l:=l) (s:=s) (E4 281474976710656 l s) hl (fun n i x r hd hlt=>by
  show lT 281474976710656 l s _ _=_
  unfold lT
  rw [yP (p:=((i:Nat):Int)<((l.length:Nat):Int)) (by omega),cond_true,w5 hd,zbs,wW (by omega)]
  by_cases h:x=s
  ·rw [if_pos h,yP h];rfl
  ·rw [if_neg h,yM h];rfl) (fun n i hi=>by
  show lT 281474976710656 l s _ _=_
  unfold lT
  rw [yM (p:=((i:Nat):Int)<((l.length:Nat):Int)) (by omega),cond_false]),zbs]
 by_cases h:u4 s 0 l = -1
 ·rw [if_pos h,h]
 ·rw [if_neg h]
def uU (names:List (List Int)) (s:List Int):Int×List (List Int)×Int :=
 if tD s≠0 then (0,names,tD s) else if u4 s 0 names ≠ -1 then (u4 s 0 names,names,0) else if 1000≤names.length then (0,names,6) else ((names.length:Int),names++[s],0)
theorem B1 {α:Type} [DecidableEq α] (s:α) (l:List α) : -1≤u4 s 0 l:=by
 rcases oQ s l 0 with ⟨h,_⟩ | ⟨j,_,h⟩<;>omega
theorem X9 {names:List (List Int)} {s:List Int} (hl:names.length≤100000):CA 281474976710656 names s=some (uU names s):=by
 unfold CA uU
 have hr:=B1 s names
 rw [DA,zbs]
 by_cases h:tD s≠0
 ·rw [wE h,if_pos h];rfl
 rw [wF (by omega),if_neg h,cond_false,ZS hl,zbs]
 by_cases h1:u4 s 0 names ≠ -1
 ·rw [yP (by omega),if_pos h1,cond_true]
 rw [yM (by omega),if_neg h1,cond_false]
 by_cases h2:1000≤names.length
 ·rw [yP (by omega),if_pos h2,cond_true]
 rw [yM (by omega),if_neg h2,cond_false]
 unfold JM
 rw [xZ (by simp only [List.length_nil];omega),zbs,zbs,List.nil_append,xZ (by simp only [List.length_singleton];omega),zbs]
theorem XH {names:List (List Int)} {s:List Int} (hl:names.length≤100000):AO 281474976710656 names s=some (uU names s):=by
 unfold AO uU
 have hr:=B1 s names
 have h03:=ER s
 rw [JC,zbs]
 by_cases h:tD s≠0
 ·rw [wE h,if_pos h,show tD s=3 by omega];rfl
 rw [wF (by omega),if_neg h,cond_false,V9 hl,zbs]
 by_cases h1:u4 s 0 names ≠ -1
 ·rw [yP (by omega),if_pos h1,cond_true]
 rw [yM (by omega),if_neg h1,cond_false]
 by_cases h2:1000≤names.length
 ·rw [yP (by omega),if_pos h2,cond_true]
 rw [yM (by omega),if_neg h2,cond_false]
 rw [xZ (by simp only [List.length_nil];omega),zbs,List.nil_append,xZ (by simp only [List.length_singleton];omega),zbs]
theorem LN (names:List (List Int)) (s:List Int):(uU names s).2.1.length≤names.length+1:=by
 unfold uU;split
 ·simp
 ·split
  ·simp
  ·split<;>simp
def qE (names0:List (List Int)) (stacks0:List zQ):List (List Int)→Int→List (List Int)→List zQ→Int×List (List Int)×List zQ×Int
 | [],at_,n,s=>(at_,n,s,0)
 | x::r,at_,n,s =>
  if (uU n x).2.2≠0 then (0,names0,stacks0,(uU n x).2.2) else
  if u4 (⟨at_,(uU n x).1⟩:zQ) 0 s ≠ -1 then qE names0 stacks0 r (u4 (⟨at_,(uU n x).1⟩:zQ) 0 s) (uU n x).2.1 s else
  if 1000≤s.length then (0,names0,stacks0,6) else qE names0 stacks0 r (s.length:Int) (uU n x).2.1 (s++[⟨at_,(uU n x).1⟩])
def q7 (names:List (List Int)) (stacks:List zQ) (l:List (List Int)):Int×List (List Int)×List zQ×Int :=
 if kH l≠0 then (0,names,stacks,kH l) else qE names stacks l (-1) names stacks
def X0 (o:(Int×List (List Int)×List zQ)⊕(Int×List (List Int)×List zQ×Int)):Int×List (List Int)×List zQ×Int:=match o with | .inl q=>(q.1,q.2.1,q.2.2,0) | .inr q=>q
theorem zGi {names0:List (List Int)} {stacks0:List zQ} {l:List (List Int)} (hl:l.length≤40):∀ (m i:Nat) (at_:Int) (n:List (List Int)) (s:List zQ),(l.drop i).length<m→n.length+(l.drop i).length≤100000→s.length+(l.drop i).length≤100000 →
  ∃ o,B9 281474976710656 names0 stacks0 l m at_ n (i:Int) s=some o∧X0 o=qE names0 stacks0 (l.drop i) at_ n s:=by
 intro m
 induction m with
 | zero=>intro i at_ n s h;omega
 | succ m ih =>
  intro i at_ n s hm hn hs
  show ∃ o,G0 281474976710656 names0 stacks0 l _ at_ n (i:Int) s=some o∧_
  unfold G0
  rcases hd:l.drop i with _ | ⟨x,r⟩
  ·have:=tZ hd
   rw [yM (by omega),cond_false]
   exact ⟨_,rfl,rfl⟩
  ·have hlt:=tQ hd
   rw [hd] at hm hn hs
   simp only [List.length_cons] at hm hn hs
   have hstep:=wZ hd
   rw [yP (by omega),cond_true,w5 hd,zbs,X9 (by omega),zbs]
   have hpl:=LN n x
   simp only [qE]
   generalize uU n x=q at *
   by_cases h:q.2.2≠0
   ·rw [wE h,cond_true,if_pos h];exact ⟨_,rfl,rfl⟩
   rw [wF (by omega),cond_false,if_neg h,zDC (by omega),zbs]
   have hr:=B1 (⟨at_,q.1⟩:zQ) s
   by_cases h1:u4 (⟨at_,q.1⟩:zQ) 0 s ≠ -1
   ·rw [yP (by omega),cond_true,if_pos h1,wW (by omega),← hstep]
    exact ih (i+1) _ _ _ (by rw [hstep];omega) (by rw [hstep];omega) (by rw [hstep];omega)
   rw [yM (by omega),cond_false,if_neg h1]
   by_cases h2:1000≤s.length
   ·rw [yP (by omega),cond_true,if_pos h2];exact ⟨_,rfl,rfl⟩
   rw [yM (by omega),cond_false,if_neg h2,xZ (by simp only [List.length_singleton];omega),zbs,wW (by omega),← hstep]
   exact ih (i+1) _ _ _ (by rw [hstep];omega) (by rw [hstep];omega) (by rw [hstep];simp only [List.length_append,List.length_singleton];omega)
theorem zEx {names:List (List Int)} {stacks:List zQ} {l:List (List Int)} (hn:names.length≤50000) (hs:stacks.length≤50000):AB 281474976710656 names stacks l=some (q7 names stacks l):=by
 unfold AB q7
 rw [WM,zbs]
 by_cases h:kH l≠0
 ·rw [wE h,cond_true,if_pos h]
 have hl:l.length≤32:=by
  unfold kH at h
  by_cases hc:32<l.length
  ·rw [if_pos hc] at h;omega
  ·omega
 rw [wF (by omega),cond_false,if_neg h]
 unfold KH
 rw [xZ (by simp only [List.length_nil];omega),zbs,zbs,List.nil_append]
 obtain ⟨o,h1,h2⟩:=zGi (names0:=names) (stacks0:=stacks) (l:=l) (by omega) 281474976710656 0 (-1) names stacks (by simp;omega) (by simp;omega) (by simp;omega)
 rw [show B9 281474976710656 names stacks l 281474976710656 (-1) names 0 stacks=some o from h1,zbs]
 rw [List.drop_zero] at h2
 rw [← h2]
 cases o<;>rfl
theorem zAr {names0:List (List Int)} {stacks0:List zQ} {l:List (List Int)} (hl:l.length≤40):∀ (m i:Nat) (at_:Int) (n:List (List Int)) (s:List zQ),(l.drop i).length<m→n.length+(l.drop i).length≤100000→s.length+(l.drop i).length≤100000 →
  ∃ o,r6 281474976710656 names0 stacks0 l m at_ n (i:Int) s=some o∧X0 o=qE names0 stacks0 (l.drop i) at_ n s:=by
 intro m
 induction m with
 | zero=>intro i at_ n s h;omega
 | succ m ih =>
  intro i at_ n s hm hn hs
  show ∃ o,DM 281474976710656 names0 stacks0 l _ at_ n (i:Int) s=some o∧_
  unfold DM
  rcases hd:l.drop i with _ | ⟨x,r⟩
  ·have:=tZ hd
   rw [yM (by omega),cond_false]
   exact ⟨_,rfl,rfl⟩
  ·have hlt:=tQ hd
   rw [hd] at hm hn hs
   simp only [List.length_cons] at hm hn hs
   have hstep:=wZ hd
   rw [yP (by omega),cond_true,w5 hd,zbs,XH (by omega),zbs]
   have hpl:=LN n x
   simp only [qE]
   generalize uU n x=q at *
   by_cases h:q.2.2≠0
   ·rw [wE h,cond_true,if_pos h];exact ⟨_,rfl,rfl⟩
   rw [wF (by omega),cond_false,if_neg h,XA (by omega),zbs]
   have hr:=B1 (⟨at_,q.1⟩:zQ) s
   by_cases h1:u4 (⟨at_,q.1⟩:zQ) 0 s ≠ -1
   ·rw [yP (by omega),cond_true,if_pos h1,zbs]
    simp only
    rw [wW (by omega),← hstep]
    exact ih (i+1) _ _ _ (by rw [hstep];omega) (by rw [hstep];omega) (by rw [hstep];omega)
   rw [yM (by omega),cond_false,if_neg h1]
   by_cases h2:1000≤s.length
   ·rw [yP (by omega),cond_true,if_pos h2];exact ⟨_,rfl,rfl⟩
   rw [yM (by omega),cond_false,if_neg h2,xZ (by simp only [List.length_singleton];omega),zbs,zbs]
   simp only
   rw [wW (by omega),← hstep]
   exact ih (i+1) _ _ _ (by rw [hstep];omega) (by rw [hstep];omega) (by rw [hstep];simp only [List.length_append,List.length_singleton];omega)
theorem zCO {names:List (List Int)} {stacks:List zQ} {l:List (List Int)} (hn:names.length≤50000) (hs:stacks.length≤50000):BJ 281474976710656 names stacks l=some (q7 names stacks l):=by
 unfold BJ q7
 rw [VK,zbs]
 by_cases h:kH l≠0
 ·rw [wE h,cond_true,if_pos h]
 have hl:l.length≤32:=by
  unfold kH at h
  by_cases hc:32<l.length
  ·rw [if_pos hc] at h;omega
  ·omega
 rw [wF (by omega),cond_false,if_neg h]
 rw [xZ (by simp only [List.length_nil];omega),zbs,List.nil_append]
 obtain ⟨o,h1,h2⟩:=zAr (names0:=names) (stacks0:=stacks) (l:=l) (by omega) 281474976710656 0 (-1) names stacks (by simp;omega) (by simp;omega) (by simp;omega)
 rw [show r6 281474976710656 names stacks l 281474976710656 (-1) names 0 stacks=some o from h1,zbs]
 rw [List.drop_zero] at h2
 rw [← h2]
 cases o<;>rfl
def toO (v:Int):Unit⊕Int:=if v=0 then .inl () else .inr v
theorem zA4:toO 0=.inl ():=rfl
theorem EP {v:Int} (h:v≠0):toO v=.inr v:=if_neg h
def jX (seen:List (List Int)):List (List Int)→Int
 | []=>0
 | x::r=>if tD x≠0 then 3 else if x∈seen then 4 else jX (seen++[x]) r
theorem zB5 {l:List (List Int)} (hl:l.length≤1000):rC 281474976710656 l 281474976710656 0 []=some (toO (jX [] l)):=by
 have:=HE (l:=l) (fun n i s=>rC 281474976710656 l n i s) (fun i r _=>toO (jX (l.take i) r)) (fun i s=>o8 s (l.take i)) ?_ ?_ (n:=281474976710656) (s:=[]) NL (by omega)
 ·simpa using this
 ·intro n i s hi _
  show lB _ _ _ _ _=_
  unfold lB
  simp (disch:=omega) only [yM,cond_false];rfl
 ·intro n i s x r hd hlt hS ih
  show lB _ _ _ _ _=_
  unfold lB
  have hs:=hS.1
  rw [RV hd] at hs
  simp only [jX]
  simp (disch:=omega) only [yP,cond_true,w5 hd,zbs,DA,hS.2,xZ,wW]
  rw [ih _ (by rw [bC hd];exact QE hS x)]
  rcases ER x with h | h
  ·by_cases h2:x∈l.take i<;>simp [h,h2,bC hd,toO]
  ·simp [h,toO]
theorem zDb {l:List (List Int)} (hl:l.length≤1000):E3 281474976710656 l=some (jX [] l):=by
 unfold E3
 rw [zB5 hl,zbs]
 unfold toO
 by_cases h:jX [] l=0
 ·rw [if_pos h,h]
 ·rw [if_neg h]
theorem U9 {α:Type} [DecidableEq α] (s:α) (l:List α):decide (u4 s 0 l≥0)=decide (s∈l):=by
 rcases oQ s l 0 with ⟨h,h2⟩ | ⟨j,h1,h⟩
 ·rw [h];simp [h2]
 ·rw [h,yP (by omega),yP (List.mem_of_getElem? h1)]
theorem zAj {l:List (List Int)} (hl:l.length≤1000):o5 281474976710656 l 281474976710656 0=some (toO (jX [] l)):=by
 have:=HE (l:=l) (fun n i (_:Unit)=>o5 281474976710656 l n i) (fun i r _=>toO (jX (l.take i) r)) (fun i s=>True) ?_ ?_ (n:=281474976710656) (s:=()) trivial (by omega)
 ·simpa using this
 ·intro n i s hi _
  show gS _ _ _ _=_
  unfold gS
  simp (disch:=omega) only [yM,cond_false];rfl
 ·intro n i s x r hd hlt hS ih
  show gS _ _ _ _=_
  unfold gS
  have ht:=List.length_take_le i l
  simp only [jX]
  simp (disch:=omega) only [yP,cond_true,w5 hd,zbs,JC,xZ,wW,MZ,V9,U9,ih () trivial]
  rcases ER x with h | h
  ·by_cases h2:x∈l.take i<;>simp [h,h2,bC hd,toO]
  ·simp [h,toO]
def dOf (ds:List Int) (i:Int):Int:=if i = -1 then 0 else (ds[i.toNat]?).getD 0
def DI (st:List zQ) (ds:List Int):Prop:=∀ (j:Nat) (d:Int),ds[j]?=some d→∃ p,st[j]?=some p ∧ -1≤p.c0∧p.c0<j∧d=1+dOf ds p.c0∧1≤d∧d≤32
theorem XM {ds:List Int} {d c:Int} (h:c<ds.length) (h0 : -1≤c):dOf (ds++[d]) c=dOf ds c:=by
 unfold dOf
 split
 ·rfl
 ·rw [List.getElem?_append_left (by omega)]
theorem DI.range {st:List zQ} {ds:List Int} (h:DI st ds) (c:Int):0≤dOf ds c∧dOf ds c≤32:=by
 unfold dOf
 split
 ·omega
 ·cases hd:ds[c.toNat]? with
  | none=>simp
  | some d=>obtain ⟨p,_,_,_,_,h1,h2⟩:=h _ _ hd;simp;omega
theorem DI.push {st:List zQ} {ds:List Int} {p:zQ} (h:DI st ds) (hp:st[ds.length]?=some p) (h0 : -1≤p.c0) (h1:p.c0<ds.length) (h2:1+dOf ds p.c0≤32):DI st (ds++[1+dOf ds p.c0]):=by
 intro j d hj
 rcases Nat.lt_or_ge j ds.length with hlt | hge
 ·rw [List.getElem?_append_left hlt] at hj
  obtain ⟨q,h3,h4,h5,h6,h7⟩:=h j d hj
  exact ⟨q,h3,h4,h5,by rw [XM (by omega) h4];exact h6,h7⟩
 ·have hj':j=ds.length:=by
   have:=(List.getElem?_eq_some_iff.1 hj).1
   simp at this;omega
  subst hj'
  simp at hj
  subst hj
  have:=h.range p.c0
  exact ⟨p,hp,h0,by omega,by rw [XM h1 h0],by omega,h2⟩
theorem DI.nil {st:List zQ}:DI st []:=fun j d h=>by simp at h
theorem zAZ {st:List zQ} {ds:List Int} (h:DI st ds):∀ (n:Nat) (i acc:Int), -1≤i→i<ds.length→i+1<n→0≤acc→acc+i≤5000→BM 281474976710656 st n i acc=some (acc+dOf ds i):=by
 intro n
 induction n with
 | zero=>intro i acc h0 h1 h2;omega
 | succ n ih =>
  intro i acc h0 h1 h2 h3 h4
  show l8 _ _ _ _ _=_
  unfold l8
  by_cases hi:i = -1
  ·rw [yM (by omega),cond_false,hi];simp [dOf]
  ·obtain ⟨m,rfl⟩:=Int.eq_ofNat_of_zero_le (show 0≤i by omega)
   obtain ⟨d,hd⟩:∃ d,ds[m]?=some d:=⟨ds[m]'(by omega),List.getElem?_eq_getElem _⟩
   obtain ⟨p,hp,k0,k1,k2,k3,k4⟩:=h m d hd
   have key:dOf ds (m:Int)=d:=by simp [dOf,hd]
   rw [yP (by omega),cond_true,pR,hp,zbs,w64 (by omega) (by omega),key,ih p.c0 (acc+1) k0 (by omega) (by omega) (by omega) (by omega)]
   congr 1;omega
def j7 (nn:Nat) (ds:List Int) (seen:List zQ):List zQ→Int
 | []=>0
 | p::r=>if p.c0 < -1∨p.c0≥seen.length∨p.c1<0∨p.c1≥nn then 2 else if p∈seen then 4 else if 1+dOf ds p.c0>32 then 7 else j7 nn (ds++[1+dOf ds p.c0]) (seen++[p]) r
theorem zF3 {names:List (List Int)} {l:List zQ} (hl:l.length≤1000):∀ (n i:Nat) (ds:List Int),DI l ds→ds.length=i→i≤l.length→(l.drop i).length<n→B8 281474976710656 names l n (i:Nat)=some (toO (j7 names.length ds (l.take i) (l.drop i))):=by
 intro n
 induction n with
 | zero=>intro i ds _ _ _ h;omega
 | succ n ih =>
  intro i ds hD hdl hil hn
  show DS _ _ _ _ _=_
  unfold DS
  rcases hd:l.drop i with _ | ⟨p,r⟩
  ·have:=tZ hd
   simp (disch:=omega) only [yM,cond_false];rfl
  have hlt:=tQ hd
  have ht:=RV hd
  rw [hd] at hn
  simp only [List.length_cons] at hn
  simp only [j7,ht]
  simp (disch:=omega) only [yP,cond_true,w5 hd,zbs,xZ,MZ,XA,U9]
  by_cases c1:p.c0 < -1∨p.c0≥i∨p.c1<0∨p.c1≥names.length
  ·rw [if_pos c1,EP (by decide)]
   have:(decide (p.c0<(-1:Int))||(decide (p.c0≥(i:Int))||(decide (p.c1<(0:Int))||decide (p.c1≥((names.length:Nat):Int)))))=true:=by simpa using c1
   rw [this];rfl
  ·rw [if_neg c1]
   simp (disch:=omega) only [yM,Bool.or_false,cond_false]
   by_cases c2:p∈l.take i
   ·rw [if_pos c2,yP c2];rfl
   ·rw [if_neg c2,yM c2,cond_false]
    unfold LG
    have hr:=hD.range p.c0
    have hdep:BM 281474976710656 l 281474976710656 (i:Int) 0=some (1+dOf ds p.c0):=by
     show l8 _ _ _ _ _=_
     unfold l8
     simp (disch:=omega) only [yP,cond_true,w5 hd,zbs,w64]
     rw [zAZ hD _ _ _ (by omega) (by omega) (by omega) (by omega) (by omega)];rfl
    rw [hdep,zbs,zbs]
    by_cases c3:1+dOf ds p.c0>32
    ·rw [if_pos c3,yP c3];rfl
    ·rw [if_neg c3,yM c3,cond_false,wW (by omega),ih (i+1) (ds++[1+dOf ds p.c0]) (hD.push (by rw [hdl];exact GI hd) (by omega) (by omega) (by omega)) (by simp [hdl]) (by omega) (by rw [wZ hd];omega),bC hd,wZ hd]
theorem J6 {names:List (List Int)} {l:List zQ}:nS 281474976710656 names l=some (if 1000<names.length∨1000<l.length then 7 else if jX [] names≠0 then jX [] names else j7 names.length [] [] l):=by
 unfold nS
 by_cases h:1000<names.length∨1000<l.length
 ·rw [if_pos h]
  have:(decide ((((names).length:Nat):Int)>(1000:Int))||decide ((((l).length:Nat):Int)>(1000:Int)))=true:=by simp;omega
  rw [this];rfl
 rw [if_neg h]
 simp (disch:=omega) only [yM,Bool.or_false,cond_false]
 rw [zAj (by omega),zbs]
 by_cases h1:jX [] names≠0
 ·rw [EP h1,if_pos h1]
 have h1':jX [] names=0:=by omega
 have:=zF3 (names:=names) (l:=l) (by omega) 281474976710656 0 [] DI.nil rfl (by omega) (by simp;omega)
 rw [h1',zA4,if_neg (by omega)]
 simp only
 rw [show B8 281474976710656 names l 281474976710656 0=_ from this]
 simp only [List.take_zero,List.drop_zero,zbs]
 generalize j7 names.length [] [] l=v
 unfold toO
 by_cases hv:v=0
 ·rw [if_pos hv,hv]
 ·rw [if_neg hv]
theorem zF0 {α:Type} {l:List α} {i:Nat} (v:α) (h:i<l.length):(l.set i v).take (i+1)=l.take i++[v]:=by
 rw [List.take_add_one,List.take_set_of_le (Nat.le_refl _),List.getElem?_set_self h];rfl
theorem zBV {names:List (List Int)} {l:List zQ} (hl:l.length≤1000):∀ (n i:Nat) (s:List (zQ×Bool)) (t:List Int),o8 s (l.take i)→t.length=l.length→DI l (t.take i)→i≤l.length→(l.drop i).length<n→oY 281474976710656 names l n (i:Nat) s t=some (toO (j7 names.length (t.take i) (l.take i) (l.drop i))):=by
 intro n
 induction n with
 | zero=>intro i s t _ _ _ _ h;omega
 | succ n ih =>
  intro i s t hS htl hD hil hn
  show GV _ _ _ _ _ _ _=_
  unfold GV
  rcases hd:l.drop i with _ | ⟨p,r⟩
  ·have:=tZ hd
   simp (disch:=omega) only [yM,cond_false];rfl
  have hlt:=tQ hd
  have ht:=RV hd
  have hs:=hS.1
  rw [ht] at hs
  rw [hd] at hn
  simp only [List.length_cons] at hn
  simp only [j7,ht]
  obtain ⟨y,hy⟩:∃ y,t[i]?=some y:=⟨t[i]'(by omega),List.getElem?_eq_getElem _⟩
  simp (disch:=omega) only [yP,cond_true,w5 hd,zbs,hS.2,xZ,pR,hy]
  by_cases c1:p.c0 < -1∨p.c0≥i∨p.c1<0∨p.c1≥names.length
  ·rw [if_pos c1,EP (by decide)]
   have:(decide (p.c0<(-1:Int))||(decide (p.c0≥(i:Int))||(decide (p.c1<(0:Int))||decide (p.c1≥((names.length:Nat):Int)))))=true:=by simpa using c1
   rw [this];rfl
  ·rw [if_neg c1]
   simp (disch:=omega) only [yM,Bool.or_false,cond_false]
   by_cases c2:p∈l.take i
   ·rw [if_pos c2,yP c2];rfl
   ·rw [if_neg c2,yM c2,cond_false]
    have hr:=hD.range p.c0
    have htt:(t.take i).length=i:=by rw [List.length_take];omega
    have hstep:((bif (p.c0 != (-1:Int)) then ((t.set ((i:Int)).toNat (1:Int))[i]?).bind fun x_3=>(yZ (t.set ((i:Int)).toNat (1:Int)) p.c0).bind fun x_4=>((t.set ((i:Int)).toNat (1:Int))[i]?).bind fun x_5 =>
      some ((t.set ((i:Int)).toNat (1:Int)).set ((i:Int)).toNat (zG (x_3+x_4))) else some (t.set ((i:Int)).toNat (1:Int))):Option (List Int))=some (t.set i (1+dOf (t.take i) p.c0)):=by
     rw [Int.toNat_natCast]
     by_cases hc:p.c0 = -1
     ·rw [wF hc,cond_false];simp [dOf,hc]
     ·rw [wE hc,cond_true,List.getElem?_set_self (by omega),zbs]
      have e:yZ (t.set i 1) p.c0=some (dOf (t.take i) p.c0):=by
       obtain ⟨m,hm⟩:=Int.eq_ofNat_of_zero_le (show 0≤p.c0 by omega)
       rw [hm,pR,List.getElem?_set_ne (by omega)]
       have:(t.take i)[m]?=t[m]?:=by rw [List.getElem?_take_of_lt (by omega)]
       have hml:m<t.length:=by omega
       simp only [dOf]
       rw [if_neg (by omega),Int.toNat_natCast,this,List.getElem?_eq_getElem hml];rfl
      rw [e,zbs,zbs,w64 (by omega) (by omega),List.set_set]
    rw [hstep,zbs,List.getElem?_set_self (by omega),zbs]
    by_cases c3:1+dOf (t.take i) p.c0>32
    ·rw [if_pos c3,yP c3];rfl
    ·rw [if_neg c3,yM c3,cond_false,wW (by omega)]
     have hts:=zF0 (i:=i) (1+dOf (t.take i) p.c0) (show i<t.length by omega)
     rw [ih (i+1) _ _ (by rw [bC hd];exact QE hS p) (by simp [htl]) (by rw [hts];exact hD.push (by rw [htt];exact GI hd) (by omega) (by omega) (by omega)) (by omega) (by rw [wZ hd];omega),bC hd,wZ hd,hts]
def j0 (names:List (List Int)) (l:List zQ):Int:=if 1000<names.length∨1000<l.length then 7 else if jX [] names≠0 then jX [] names else j7 names.length [] [] l
theorem L3 {names:List (List Int)} {l:List zQ}:dF 281474976710656 names l=some (j0 names l):=by
 unfold dF j0
 by_cases h:1000<names.length∨1000<l.length
 ·rw [if_pos h]
  have:(decide ((((names).length:Nat):Int)>(1000:Int))||decide ((((l).length:Nat):Int)>(1000:Int)))=true:=by simp;omega
  rw [this];rfl
 rw [if_neg h]
 simp (disch:=omega) only [yM,Bool.or_false,cond_false]
 rw [zDb (by omega),zbs]
 by_cases h1:jX [] names≠0
 ·rw [wE h1,if_pos h1];rfl
 have h1':jX [] names=0:=by omega
 have:=zBV (names:=names) (l:=l) (by omega) 281474976710656 0 [] (List.replicate l.length 0) NL (by simp) DI.nil (by omega) (by simp;omega)
 rw [h1',wF rfl,cond_false,if_neg (by omega),xZ (by omega),zbs]
 rw [show oY 281474976710656 names l 281474976710656 0 [] (List.replicate l.length 0)=_ from this]
 simp only [List.take_zero,List.drop_zero,zbs]
 generalize j7 names.length [] [] l=v
 unfold toO
 by_cases hv:v=0
 ·rw [if_pos hv,hv]
 ·rw [if_neg hv]
def dsF (l:List zQ):List Int:=l.foldl (fun ds p=>ds++[1+dOf ds p.c0]) []
theorem zEm:∀ (l:List zQ) (ds:List Int),(l.foldl (fun ds p=>ds++[1+dOf ds p.c0]) ds).length=ds.length+l.length:=by
 intro l
 induction l with
 | nil=>intro ds;rfl
 | cons p r ih=>intro ds;rw [List.foldl_cons,ih];simp;omega
theorem A6 (l:List zQ):(dsF l).length=l.length:=by simp [dsF,zEm]
theorem TY (l:List zQ) (p:zQ):dsF (l++[p])=dsF l++[1+dOf (dsF l) p.c0]:=by simp [dsF]
theorem LW:∀ (l seen:List (List Int)),jX seen l=0↔(∀ x∈l,tD x=0∧x∉seen)∧l.Nodup:=by
 intro l
 induction l with
 | nil=>intro seen;simp [jX]
 | cons x r ih =>
  intro seen
  simp only [jX]
  by_cases h:tD x≠0
  ·rw [if_pos h];simp [h]
  rw [if_neg h]
  by_cases h2:x∈seen
  ·rw [if_pos h2];simp [h2]
  rw [if_neg h2,ih]
  simp only [List.mem_cons,List.nodup_cons,forall_eq_or_imp,List.mem_append,List.not_mem_nil,or_false,not_or]
  constructor
  ·rintro ⟨h3,h4⟩
   exact ⟨⟨⟨by omega,h2⟩,fun y hy=>⟨(h3 y hy).1,(h3 y hy).2.1⟩⟩,fun hx=>(h3 x hx).2.2 rfl,h4⟩
  ·rintro ⟨⟨_,h3⟩,h4,h5⟩
   exact ⟨fun y hy=>⟨(h3 y hy).1,(h3 y hy).2,fun e=>h4 (e ▸ hy)⟩,h5⟩
structure OE (nn k:Nat) (ds:List Int) (seen:List zQ) (p:zQ):Prop where
 lo : -1≤p.c0
 hi:p.c0<k
 lo1:0≤p.c1
 hi1:p.c1<nn
 new:p∉seen
 deep:1+dOf ds p.c0≤32
theorem OX {nn:Nat}:∀ (r:List zQ) (ds:List Int) (seen:List zQ) (p:zQ),j7 nn ds seen (r++[p])=0↔j7 nn ds seen r=0∧OE nn (seen++r).length (r.foldl (fun ds p=>ds++[1+dOf ds p.c0]) ds) (seen++r) p:=by
 intro r
 induction r with
 | nil =>
  intro ds seen p
  simp only [List.nil_append,j7,List.append_nil,List.foldl_nil,true_and]
  constructor
  ·intro h
   split at h
   ·cases h
   split at h
   ·cases h
   split at h
   ·cases h
   exact ⟨by omega,by omega,by omega,by omega,by assumption,by omega⟩
  ·rintro ⟨h1,h2,h3,h4,h5,h6⟩
   rw [if_neg (by omega),if_neg h5,if_neg (by omega)]
 | cons q r ih =>
  intro ds seen p
  simp only [List.cons_append,j7,List.foldl_cons]
  split
  ·simp
  split
  ·simp
  split
  ·simp
  rw [ih];simp
theorem zAP {nn mm:Nat} (h:nn≤mm):∀ (r:List zQ) (ds:List Int) (seen:List zQ),j7 nn ds seen r=0→j7 mm ds seen r=0:=by
 intro r
 induction r with
 | nil=>intro ds seen _;rfl
 | cons q r ih =>
  intro ds seen hz
  simp only [j7] at hz ⊢
  split at hz
  ·cases hz
  rename_i h1
  rw [if_neg (by omega)]
  split at hz
  ·cases hz
  rename_i h2
  rw [if_neg h2]
  split at hz
  ·cases hz
  rename_i h3
  rw [if_neg h3]
  exact ih _ _ hz
structure uB (n:List (List Int)) (s:List zQ):Prop where
 n1:n.length≤1000
 s1:s.length≤1000
 names:jX [] n=0
 st:j7 n.length [] [] s=0
theorem O9 {n:List (List Int)} {s:List zQ}:j0 n s=0↔uB n s:=by
 unfold j0
 constructor
 ·intro h
  split at h
  ·cases h
  split at h
  ·omega
  exact ⟨by omega,by omega,by omega,h⟩
 ·rintro ⟨h1,h2,h3,h4⟩
  rw [if_neg (by omega),if_neg (by omega),h4]
theorem uB.nodup {n:List (List Int)} {s:List zQ} (h:uB n s):n.Nodup:=((LW _ _).1 h.names).2
theorem uB.valid {n:List (List Int)} {s:List zQ} (h:uB n s) {x:List Int} (hx:x∈n):tD x=0:=(((LW _ _).1 h.names).1 x hx).1
theorem uB.name {n:List (List Int)} {s:List zQ} (h:uB n s) {x:List Int} (hx:tD x=0) (hn:x∉n) (hl:n.length<1000):uB (n++[x]) s:=by
 refine ⟨by simp;omega,h.s1,?_,zAP (by simp) _ _ _ h.st⟩
 rw [LW]
 have h2:=(LW _ _).1 h.names
 refine ⟨fun y hy=>⟨?_,by simp⟩,?_⟩
 ·rcases List.mem_append.1 hy with hy | hy
  ·exact h.valid hy
  ·simp at hy;rw [hy];exact hx
 ·rw [List.nodup_append]
  exact ⟨h.nodup,by simp,fun a ha b hb=>by simp at hb;rw [hb];exact fun e=>hn (e ▸ ha)⟩
theorem uB.push {n:List (List Int)} {s:List zQ} {p:zQ} (h:uB n s) (hp:OE n.length s.length (dsF s) s p) (hl:s.length<1000):uB n (s++[p]) :=
 ⟨h.n1,by simp;omega,h.names,by rw [OX];exact ⟨h.st,by rw [List.nil_append];exact hp⟩⟩
theorem zEJ {nn:Nat} (s:List zQ) (h:j7 nn [] [] s=0):∀ (i:Nat),i<s.length→∃ p,s[i]?=some p∧OE nn i (dsF (s.take i)) (s.take i) p:=by
 intro i hi
 have e:s=s.take i++(s[i]::s.drop (i+1)):=by simp
 have:∀ (m:Nat) (r:List zQ),r.length=m→j7 nn [] [] (s.take i++s[i]::r)=0→j7 nn [] [] (s.take i++[s[i]])=0:=by
  intro m
  induction m with
  | zero=>intro r hr h;rw [List.length_eq_zero_iff.1 hr] at h;exact h
  | succ m ih =>
   intro r hr h
   rcases List.eq_nil_or_concat r with h0 | ⟨r',y,h0⟩
   ·rw [h0] at hr;simp at hr
   ·rw [h0] at h hr
    simp at hr
    rw [show s.take i++s[i]::r'.concat y=(s.take i++s[i]::r')++[y] by simp] at h
    exact ih r' hr ((OX _ _ _ _).1 h).1
 have h2:=(OX _ _ _ _).1 (this _ _ rfl (by rw [← e];exact h))
 refine ⟨s[i],List.getElem?_eq_getElem hi,?_⟩
 have h3:=h2.2
 simp only [List.nil_append,List.length_take,Nat.min_eq_left (Nat.le_of_lt hi)] at h3
 exact h3
theorem Q6 (s:List zQ) (i:Nat):dsF (s.take i)=(dsF s).take i:=by
 induction i with
 | zero=>rfl
 | succ i ih =>
  rcases hd:s.drop i with _ | ⟨x,r⟩
  ·have:=tZ hd
   rw [List.take_of_length_le (by omega),List.take_of_length_le (by rw [A6];omega)]
  ·have e:s=s.take i++([x]++r):=by rw [List.singleton_append,← hd,List.take_append_drop]
   have hlt:=tQ hd
   have e2:∃ t,dsF s=dsF (s.take i++[x])++t:=by
    have hg:∀ (r:List zQ) (ds:List Int),∃ t,r.foldl (fun ds p=>ds++[1+dOf ds p.c0]) ds=ds++t:=by
     intro r
     induction r with
     | nil=>intro ds;exact ⟨[],by simp⟩
     | cons y r ih2=>intro ds;obtain ⟨t,ht⟩:=ih2 (ds++[1+dOf ds y.c0]);exact ⟨_,by rw [List.foldl_cons,ht,List.append_assoc]⟩
    have:dsF s=r.foldl (fun ds p=>ds++[1+dOf ds p.c0]) (dsF (s.take i++[x])):=by
     have h3:dsF (s.take i++[x]++r)=r.foldl (fun ds p=>ds++[1+dOf ds p.c0]) (dsF (s.take i++[x])):=by unfold dsF;rw [List.foldl_append]
     rwa [List.append_assoc,← e] at h3
    rw [this];exact hg _ _
   obtain ⟨t,ht⟩:=e2
   rw [bC hd,ht,List.take_append_of_le_length (by simp [A6];omega)]
   exact (List.take_of_length_le (by simp [A6];omega)).symm
theorem YD {ds:List Int} {i:Nat} {c:Int} (h:c<i) (h0 : -1≤c):dOf (ds.take i) c=dOf ds c:=by
 unfold dOf
 split
 ·rfl
 ·rw [List.getElem?_take_of_lt (by omega)]
theorem uB.pair {n:List (List Int)} {s:List zQ} (h:uB n s) {i:Nat} {p:zQ} (hp:s[i]?=some p) :
  -1≤p.c0∧p.c0<i∧0≤p.c1∧p.c1<n.length∧dOf (dsF s) (i:Int)=1+dOf (dsF s) p.c0∧dOf (dsF s) (i:Int)≤32∧p∉s.take i:=by
 have hi:i<s.length:=(List.getElem?_eq_some_iff.1 hp).1
 obtain ⟨q,hq,h1,h2,h3,h4,h5,h6⟩:=zEJ s h.st i hi
 rw [hp] at hq;injection hq with hq;subst hq
 rw [Q6,YD h2 h1] at h6
 have e:dOf (dsF s) (i:Int)=1+dOf (dsF s) p.c0:=by
  have e1:dsF (s.take (i+1))=dsF (s.take i)++[1+dOf (dsF (s.take i)) p.c0]:=by
   rw [List.take_add_one,hp];exact TY _ _
  have e2:(dsF s)[i]?=some (1+dOf (dsF s) p.c0):=by
   have:((dsF s).take (i+1))[i]?=(dsF s)[i]?:=List.getElem?_take_of_lt (by omega)
   rw [← this,← Q6,e1,Q6,YD h2 h1]
   have hl:((dsF s).take i).length=i:=by rw [List.length_take,A6];omega
   rw [List.getElem?_append_right (by omega),hl];simp
  unfold dOf
  rw [if_neg (by omega),Int.toNat_natCast,e2];rfl
 exact ⟨h1,h2,h3,h4,e,by omega,h5⟩
theorem uB.snodup {n:List (List Int)} {s:List zQ} (h:uB n s) {i j:Nat} {p:zQ} (hi:s[i]?=some p) (hj:s[j]?=some p):i=j:=by
 rcases Nat.lt_trichotomy i j with hlt | he | hlt
 ·exact absurd (List.mem_of_getElem? (show (s.take j)[i]?=some p by rw [List.getElem?_take_of_lt hlt];exact hi)) (h.pair hj).2.2.2.2.2.2
 ·exact he
 ·exact absurd (List.mem_of_getElem? (show (s.take i)[j]?=some p by rw [List.getElem?_take_of_lt hlt];exact hj)) (h.pair hi).2.2.2.2.2.2
theorem uB.depth0 {n:List (List Int)} {s:List zQ} (h:uB n s) {c:Int} (h0 : -1≤c) (h1:c<s.length):0≤dOf (dsF s) c∧dOf (dsF s) c≤32∧(dOf (dsF s) c=0↔c = -1):=by
 have key:∀ (m:Nat) (c:Int),c+1<m → -1≤c→c<s.length→0≤dOf (dsF s) c∧dOf (dsF s) c≤32∧(dOf (dsF s) c=0↔c = -1):=by
  intro m
  induction m with
  | zero=>intro c h1 h2;omega
  | succ m ih =>
   intro c h1 h2 h3
   by_cases hc:c = -1
   ·subst hc;simp [dOf]
   ·obtain ⟨i,rfl⟩:=Int.eq_ofNat_of_zero_le (show 0≤c by omega)
    have hi:i<s.length:=by omega
    obtain ⟨k1,k2,k3,k4,k5,k6,k7⟩:=h.pair (List.getElem?_eq_getElem hi)
    have:=ih (s[i]).c0 (by omega) k1 (by omega)
    omega
 exact key (c.toNat+3) c (by omega) h0 h1
def j6 (n:List (List Int)) (s:List zQ):Nat→Int→List (List Int)
 | 0,_=>[]
 | k+1,i=>if i<0 then [] else match s[i.toNat]? with
  | none=>[]
  | some p=>(n[p.c1.toNat]?).getD []::j6 n s k p.c0
theorem zBc (n:List (List Int)) (s:List zQ):∀ (k:Nat) (i:Int),(j6 n s k i).length≤k:=by
 intro k
 induction k with
 | zero=>intro i;exact Nat.le_refl _
 | succ k ih =>
  intro i
  simp only [j6]
  split
  ·simp
  split
  ·simp
  ·rename_i p _
   have:=ih p.c0
   simp only [List.length_cons];omega
theorem zDN {n:List (List Int)} {s:List zQ} (h:uB n s):∀ (k f:Nat) (i:Int) (row:List (List Int)), -1≤i→i<s.length→dOf (dsF s) i≤k→k<f→row.length+k≤1000 →
  HN 281474976710656 n s f i row=some (row++j6 n s k i):=by
 intro k
 induction k with
 | zero =>
  intro f i row h0 h1 h2 h3 h4
  have hi:i = -1:=(h.depth0 h0 h1).2.2.1 (by have:=(h.depth0 h0 h1).1;omega)
  subst hi
  obtain ⟨f,rfl⟩:∃ g,f=g+1:=⟨f - 1,by omega⟩
  show iV _ _ _ _ _ _=_
  unfold iV
  rw [wF rfl,cond_false];simp [j6]
 | succ k ih =>
  intro f i row h0 h1 h2 h3 h4
  obtain ⟨f,rfl⟩:∃ g,f=g+1:=⟨f - 1,by omega⟩
  show iV _ _ _ _ _ _=_
  unfold iV
  by_cases hi:i = -1
  ·subst hi
   rw [wF rfl,cond_false];simp [j6]
  ·obtain ⟨m,rfl⟩:=Int.eq_ofNat_of_zero_le (show 0≤i by omega)
   have hm:s[m]?=some (s[m]'(by omega)):=List.getElem?_eq_getElem _
   obtain ⟨k1,k2,k3,k4,k5,k6,k7⟩:=h.pair hm
   simp only [j6]
   rw [wE hi,cond_true,pR,Int.toNat_natCast,if_neg (by omega)]
   generalize hp:s[m]'(by omega)=p at *
   obtain ⟨a,ha⟩:=Int.eq_ofNat_of_zero_le k3
   have hlt:a<n.length:=by omega
   rw [hm,zbs,ha,pR]
   simp only [ha,Int.toNat_natCast,List.getElem?_eq_getElem hlt,zbs,Option.getD_some]
   rw [xZ (by simp;omega),zbs,ih _ _ _ k1 (by omega) (by omega) (by omega) (by simp;omega)]
   simp
theorem zCJ {n:List (List Int)} {s:List zQ} (h:uB n s):∀ (k f:Nat) (i:Int) (row:List (List Int)), -1≤i→i<s.length→dOf (dsF s) i≤k→k<f→row.length+k≤1000 →
  DG 281474976710656 n s f i row=some ((j6 n s k i).reverse++row):=by
 intro k
 induction k with
 | zero =>
  intro f i row h0 h1 h2 h3 h4
  have hi:i = -1:=(h.depth0 h0 h1).2.2.1 (by have:=(h.depth0 h0 h1).1;omega)
  subst hi
  obtain ⟨f,rfl⟩:∃ g,f=g+1:=⟨f - 1,by omega⟩
  show mV _ _ _ _ _ _=_
  unfold mV
  rw [yM (by omega),cond_false];simp [j6]
 | succ k ih =>
  intro f i row h0 h1 h2 h3 h4
  obtain ⟨f,rfl⟩:∃ g,f=g+1:=⟨f - 1,by omega⟩
  show mV _ _ _ _ _ _=_
  unfold mV
  by_cases hi:i = -1
  ·subst hi
   rw [yM (by omega),cond_false];simp [j6]
  ·obtain ⟨m,rfl⟩:=Int.eq_ofNat_of_zero_le (show 0≤i by omega)
   have hm:s[m]?=some (s[m]'(by omega)):=List.getElem?_eq_getElem _
   obtain ⟨k1,k2,k3,k4,k5,k6,k7⟩:=h.pair hm
   simp only [j6]
   rw [yP (by omega),cond_true,pR,Int.toNat_natCast,if_neg (by omega)]
   generalize hp:s[m]'(by omega)=p at *
   obtain ⟨a,ha⟩:=Int.eq_ofNat_of_zero_le k3
   have hlt:a<n.length:=by omega
   rw [hm,zbs,ha,pR]
   simp only [ha,Int.toNat_natCast,List.getElem?_eq_getElem hlt,zbs,Option.getD_some]
   rw [xZ (by simp;omega),zbs,ih _ _ _ k1 (by omega) (by omega) (by omega) (by simp;omega)]
   simp
theorem zGH {l:List (List Int)} (hl:l.length≤100000):∀ (f i:Nat) (row:List (List Int)),row.length=l.length→2 * i≤l.length+1→l.length<f+i →
  (∀ k,row[k]?=if k<i∨l.length≤k+i then l.reverse[k]? else l[k]?)→rH 281474976710656 f (i:Int) ((l.length:Int) - 1 - i) row=some l.reverse:=by
 intro f
 induction f with
 | zero=>intro i row hr h2 hf;omega
 | succ f ih =>
  intro i row hr h2 hf hk
  show G5 _ _ _ _ _=_
  unfold G5
  by_cases hi:(i:Int)<(l.length:Int) - 1 - i
  ·obtain ⟨j,hj⟩:=Int.eq_ofNat_of_zero_le (show 0≤(l.length:Int) - 1 - i by omega)
   have hjl:j<row.length:=by omega
   have hil:i<row.length:=by omega
   have hne:i≠j:=by omega
   rw [yP hi,cond_true,hj,pR,pR,List.getElem?_eq_getElem hjl,zbs,List.getElem?_eq_getElem hil,zbs,zbs,
    Int.toNat_natCast,Int.toNat_natCast,pR,List.getElem?_set_ne hne,List.getElem?_eq_getElem hjl,zbs,w64 (by omega) (by omega),w64 (by omega) (by omega)]
   have:=ih (i+1) ((row.set i row[j]).set j row[i]) (by simp [hr]) (by omega) (by omega) ?_
   ·rw [show ((i:Int)+1)=((i+1:Nat):Int) by omega,show (j:Int) - 1=(l.length:Int) - 1 - ((i+1:Nat):Int) by omega];exact this
   ·intro k
    have ej:some row[j]=l.reverse[i]?:=by
     rw [← List.getElem?_eq_getElem hjl,hk j,if_neg (by omega),List.getElem?_reverse (by omega)];congr 1;omega
    have ei:some row[i]=l.reverse[j]?:=by
     rw [← List.getElem?_eq_getElem hil,hk i,if_neg (by omega),List.getElem?_reverse (by omega)];congr 1;omega
    by_cases h1:k=j
    ·subst h1;rw [List.getElem?_set_self (by simpa using hjl),if_pos (by omega),ei]
    rw [List.getElem?_set_ne (fun e=>h1 e.symm)]
    by_cases h3:k=i
    ·subst h3;rw [List.getElem?_set_self hil,if_pos (by omega),ej]
    rw [List.getElem?_set_ne (fun e=>h3 e.symm),hk k]
    by_cases h4:k<i∨l.length≤k+i
    ·rw [if_pos h4,if_pos (by omega)]
    ·rw [if_neg h4,if_neg (by omega)]
  ·rw [yM hi,cond_false]
   congr 1
   apply List.ext_getElem?
   intro k
   rw [hk k]
   by_cases h1:k<i∨l.length≤k+i
   ·rw [if_pos h1]
   ·rw [if_neg h1,List.getElem?_reverse (by omega)];congr 1;omega
theorem Y1 {l:List (List Int)} (hl:l.length≤100000):JA 281474976710656 l=some l.reverse:=by
 unfold JA
 have:=zGH hl 281474976710656 0 l rfl (by omega) (by omega) (by
  intro k
  by_cases h:l.length≤k
  ·rw [if_pos (by omega),List.getElem?_eq_none h,List.getElem?_eq_none (by simpa using h)]
  ·rw [if_neg (by omega)])
 rw [w64 (by omega) (by omega),show (l.length:Int) - 1=(l.length:Int) - 1 - (0:Nat) by omega,show rH 281474976710656 281474976710656 0 ((l.length:Int) - 1 - (0:Nat)) l=_ from this,zbs]
def fS (n:List (List Int)) (s:List zQ) (i:Int):List (List Int)×Int :=
 if j0 n s≠0 then ([],1) else if i < -1∨i≥s.length then ([],2) else ((j6 n s 32 i).reverse,0)
theorem zGK {n:List (List Int)} {s:List zQ} {i:Int}:AJ 281474976710656 n s i=some (fS n s i):=by
 unfold AJ fS
 rw [L3,zbs]
 by_cases h:j0 n s≠0
 ·rw [wE h,cond_true,if_pos h]
 rw [wF (by omega),cond_false,if_neg h]
 by_cases h2:i < -1∨i≥s.length
 ·rw [if_pos h2]
  have:(decide (i<(-1:Int))||decide (i≥(((s).length:Nat):Int)))=true:=by simpa using h2
  rw [this];rfl
 rw [if_neg h2]
 simp (disch:=omega) only [yM,Bool.or_false,cond_false]
 have hg:uB n s:=O9.1 (by omega)
 have hlen:=zBc n s 32 i
 rw [zDN hg 32 _ _ _ (by omega) (by omega) ((hg.depth0 (by omega) (by omega)).2.1) (by omega) (by simp),zbs,List.nil_append,Y1 (by omega),zbs,xZ (by simp),zbs]
theorem zAa {n:List (List Int)} {s:List zQ} {i:Int}:EQ 281474976710656 n s i=some (fS n s i):=by
 unfold EQ fS
 rw [show nS 281474976710656 n s=some (j0 n s) from J6,zbs]
 by_cases h:j0 n s≠0
 ·rw [wE h,cond_true,if_pos h]
 rw [wF (by omega),cond_false,if_neg h]
 by_cases h2:i < -1∨i≥s.length
 ·rw [if_pos h2]
  have:(decide (i<(-1:Int))||decide (i≥(((s).length:Nat):Int)))=true:=by simpa using h2
  rw [this];rfl
 rw [if_neg h2]
 simp (disch:=omega) only [yM,Bool.or_false,cond_false]
 have hg:uB n s:=O9.1 (by omega)
 rw [zCJ hg 32 _ _ _ (by omega) (by omega) ((hg.depth0 (by omega) (by omega)).2.1) (by omega) (by simp),zbs,List.append_nil]
theorem fU {α:Type} {l m:List α} (h:l <+: m) {i:Nat} {x:α} (hx:l[i]?=some x):m[i]?=some x:=by
 obtain ⟨t,rfl⟩:=h
 rw [List.getElem?_append_left (List.getElem?_eq_some_iff.1 hx).1];exact hx
theorem WV {n:List (List Int)} {s:List zQ} {x:List Int} (h:uB n s) (hx:tD x=0) :
  ((uU n x).2.2=6∧x∉n∧n.length=1000)∨((uU n x).2.2=0∧(∃ a:Nat,(uU n x).1=a∧(uU n x).2.1[a]?=some x)∧uB (uU n x).2.1 s∧n <+: (uU n x).2.1∧(x∈n→(uU n x).2.1=n)):=by
 unfold uU
 have hn1:=h.n1
 rw [if_neg (by omega)]
 rcases oQ x n 0 with ⟨h1,h2⟩ | ⟨j,h1,h2⟩
 ·rw [if_neg (by omega)]
  by_cases h3:1000≤n.length
  ·rw [if_pos h3];exact .inl ⟨rfl,h2,by omega⟩
  ·rw [if_neg h3]
   exact .inr ⟨rfl,⟨n.length,rfl,by simp⟩,h.name hx h2 (by omega),List.prefix_append _ _,fun hm=>absurd hm h2⟩
 ·rw [if_pos (by omega)]
  exact .inr ⟨rfl,⟨j,by rw [h2];simp,h1⟩,h,List.prefix_refl _,fun _=>rfl⟩
def Has (n:List (List Int)) (s:List zQ):Int→List (List Int)→Int→Prop
 | at_,[],i=>i=at_
 | at_,x::r,i=>∃ a b:Nat,n[a]?=some x∧s[b]?=some ⟨at_,(a:Int)⟩∧Has n s (b:Int) r i
theorem Has.mono {n n':List (List Int)} {s s':List zQ} (hn:n <+: n') (hs:s <+: s'):∀ {l:List (List Int)} {at_ i:Int},Has n s at_ l i→Has n' s' at_ l i:=by
 intro l
 induction l with
 | nil=>intro at_ i h;exact h
 | cons x r ih =>
  rintro at_ i ⟨a,b,h1,h2,h3⟩
  exact ⟨a,b,fU hn h1,fU hs h2,ih h3⟩
theorem zDn {s:List zQ} {p:zQ}:dOf (dsF (s++[p])) (s.length:Int)=1+dOf (dsF s) p.c0:=by
 rw [TY]
 unfold dOf
 rw [if_neg (by omega),Int.toNat_natCast,List.getElem?_append_right (by rw [A6];exact Nat.le_refl _),A6]
 simp
theorem zGC {n0:List (List Int)} {s0:List zQ}:∀ (l:List (List Int)) (at_:Int) (n:List (List Int)) (s:List zQ),uB n s→(∀ x∈l,tD x=0) → -1≤at_→at_<s.length→dOf (dsF s) at_+l.length≤32 →
  ((qE n0 s0 l at_ n s).2.2.2≠0∧qE n0 s0 l at_ n s=(0,n0,s0,(qE n0 s0 l at_ n s).2.2.2)) ∨
  ((qE n0 s0 l at_ n s).2.2.2=0∧uB (qE n0 s0 l at_ n s).2.1 (qE n0 s0 l at_ n s).2.2.1∧n <+: (qE n0 s0 l at_ n s).2.1∧s <+: (qE n0 s0 l at_ n s).2.2.1 ∧
   Has (qE n0 s0 l at_ n s).2.1 (qE n0 s0 l at_ n s).2.2.1 at_ l (qE n0 s0 l at_ n s).1 ∧ -1≤(qE n0 s0 l at_ n s).1∧(qE n0 s0 l at_ n s).1<(qE n0 s0 l at_ n s).2.2.1.length):=by
 intro l
 induction l with
 | nil=>intro at_ n s h hv h0 h1 h2;exact .inr ⟨rfl,h,List.prefix_refl _,List.prefix_refl _,rfl,h0,h1⟩
 | cons x r ih =>
  intro at_ n s h hv h0 h1 h2
  simp only [List.length_cons] at h2
  have hd0:=h.depth0 h0 h1
  simp only [qE]
  rcases WV h (hv x (by simp)) with ⟨k1,_,_⟩ | ⟨k1,⟨a,k2,k3⟩,k4,k5,_⟩
  ·rw [k1,if_pos (by decide)];exact .inl ⟨(by decide:(6:Int)≠0),rfl⟩
  rw [k1,if_neg (by decide),k2]
  have hal:(a:Int)<(uU n x).2.1.length:=by have:=(List.getElem?_eq_some_iff.1 k3).1;omega
  rcases oQ (⟨at_,(a:Int)⟩:zQ) s 0 with ⟨g1,g2⟩ | ⟨j,g1,g2⟩
  ·rw [g1,if_neg (by decide)]
   by_cases hf:1000≤s.length
   ·rw [if_pos hf];exact .inl ⟨(by decide:(6:Int)≠0),rfl⟩
   rw [if_neg hf]
   have hg2:uB (uU n x).2.1 (s++[⟨at_,(a:Int)⟩]):=k4.push ⟨h0,h1,Int.natCast_nonneg _,hal,g2,by simp only;omega⟩ (by omega)
   have hl:=zDn (s:=s) (p:=⟨at_,(a:Int)⟩)
   rcases ih (s.length:Int) _ _ hg2 (fun y hy=>hv y (by simp [hy])) (by omega) (by simp;omega) (by rw [hl];simp only;omega) with h3 | ⟨h3,h4,h5,h6,h7,h8⟩
   ·exact .inl h3
   ·exact .inr ⟨h3,h4,k5.trans h5,(List.prefix_append _ _).trans h6,⟨a,s.length,fU h5 k3,fU h6 (by simp),h7⟩,h8⟩
  ·rw [g2,Nat.zero_add,if_pos (by omega)]
   have hp:=h.pair g1
   have hjl:=(List.getElem?_eq_some_iff.1 g1).1
   simp only at hp
   rcases ih (j:Int) _ _ k4 (fun y hy=>hv y (by simp [hy])) (by omega) (by omega) (by omega) with h3 | ⟨h3,h4,h5,h6,h7,h8⟩
   ·exact .inl h3
   ·exact .inr ⟨h3,h4,k5.trans h5,h6,⟨a,j,fU h5 k3,fU h6 g1,h7⟩,h8⟩
theorem V0 {α:Type} [DecidableEq α] {l:List α} {x:α} (hu:∀ i j:Nat,l[i]?=some x→l[j]?=some x→i=j) {a:Nat} (h:l[a]?=some x):u4 x 0 l=(a:Int):=by
 rcases oQ x l 0 with ⟨_,h2⟩ | ⟨j,h1,h2⟩
 ·exact absurd (List.mem_of_getElem? h) h2
 ·rw [h2,Nat.zero_add,hu _ _ h1 h]
theorem zCo {α:Type} {l:List α} (h:l.Nodup) {x:α}:∀ i j:Nat,l[i]?=some x→l[j]?=some x→i=j:=by
 intro i j hi hj
 obtain ⟨h1,h2⟩:=List.getElem?_eq_some_iff.1 hi
 obtain ⟨h3,h4⟩:=List.getElem?_eq_some_iff.1 hj
 exact (List.getElem_inj h).1 (h2.trans h4.symm)
theorem TC {n0:List (List Int)} {s0:List zQ} {n:List (List Int)} {s:List zQ} (h:uB n s):∀ (l:List (List Int)) (at_ i:Int),Has n s at_ l i→qE n0 s0 l at_ n s=(i,n,s,0):=by
 intro l
 induction l with
 | nil=>intro at_ i hi;simp only [Has] at hi;simp only [qE,hi]
 | cons x r ih =>
  rintro at_ i ⟨a,b,h1,h2,h3⟩
  have e:uU n x=((a:Int),n,0):=by
   have hv:=h.valid (List.mem_of_getElem? h1)
   unfold uU
   rw [if_neg (by omega),V0 (zCo h.nodup) h1,if_pos (by omega)]
  simp only [qE]
  rw [e]
  simp only
  rw [if_neg (by decide),V0 (fun i j hi hj=>h.snodup hi hj) h2,if_pos (by omega)]
  exact ih _ _ h3
theorem Has.fn {n:List (List Int)} {s:List zQ} (h:uB n s):∀ {l:List (List Int)} {at_ i j:Int},Has n s at_ l i→Has n s at_ l j→i=j:=by
 intro l at_ i j h1 h2
 have e1:=TC (n0:=[]) (s0:=[]) h l at_ i h1
 have e2:=TC (n0:=[]) (s0:=[]) h l at_ j h2
 rw [e1] at e2
 exact (Prod.mk.inj e2).1
theorem Has.path {n:List (List Int)} {s:List zQ}:∀ {l:List (List Int)} {at_ i:Int} {k:Nat},Has n s at_ l i→j6 n s (k+l.length) i=l.reverse++j6 n s k at_:=by
 intro l
 induction l with
 | nil=>intro at_ i k h;simp only [Has] at h;simp [h]
 | cons x r ih =>
  rintro at_ i k ⟨a,b,h1,h2,h3⟩
  have:=ih (k:=k+1) h3
  rw [show k+(x::r).length=k+1+r.length by simp only [List.length_cons];omega,this]
  simp only [j6]
  rw [if_neg (by omega),Int.toNat_natCast,h2]
  simp [h1]
theorem W8 (n:List (List Int)) (s:List zQ) (k:Nat):j6 n s k (-1)=[]:=by
 cases k<;>simp [j6]
theorem Has.list {n:List (List Int)} {s:List zQ} {l:List (List Int)} {i:Int} (h:Has n s (-1) l i) (hl:l.length≤32):(j6 n s 32 i).reverse=l:=by
 have:=Has.path (k:=32 - l.length) h
 rw [Nat.sub_add_cancel hl,W8,List.append_nil] at this
 rw [this,List.reverse_reverse]
theorem Has.names {n:List (List Int)} {s:List zQ}:∀ {l:List (List Int)} {at_ i:Int},Has n s at_ l i→∀ x∈l,x∈n:=by
 intro l
 induction l with
 | nil=>intro at_ i _ x hx;cases hx
 | cons y r ih =>
  rintro at_ i ⟨a,b,h1,h2,h3⟩ x hx
  rcases List.mem_cons.1 hx with rfl | hx
  ·exact List.mem_of_getElem? h1
  ·exact ih h3 x hx
theorem V8 {l:List (List Int)}:kH l=0↔l.length≤32∧∀ x∈l,tD x=0:=by
 unfold kH
 by_cases h:32<l.length
 ·rw [if_pos h];constructor
  ·intro h;cases h
  ·omega
 rw [if_neg h]
 by_cases h2:l.all (fun s=>decide (tD s=0))=true
 ·rw [if_pos h2];simp at h2;exact ⟨fun _=>⟨by omega,h2⟩,fun _=>rfl⟩
 ·rw [if_neg h2];simp only [List.all_eq_true,decide_eq_true_eq] at h2
  constructor
  ·intro h;cases h
  ·intro h3;exact absurd h3.2 h2
theorem zGL {n:List (List Int)} {s:List zQ} {l:List (List Int)} (h:uB n s) :
  ((q7 n s l).2.2.2≠0∧q7 n s l=(0,n,s,(q7 n s l).2.2.2)) ∨
  ((q7 n s l).2.2.2=0∧l.length≤32∧(∀ x∈l,tD x=0)∧uB (q7 n s l).2.1 (q7 n s l).2.2.1∧n <+: (q7 n s l).2.1∧s <+: (q7 n s l).2.2.1 ∧
   Has (q7 n s l).2.1 (q7 n s l).2.2.1 (-1) l (q7 n s l).1 ∧ -1≤(q7 n s l).1∧(q7 n s l).1<(q7 n s l).2.2.1.length):=by
 unfold q7
 by_cases hf:kH l≠0
 ·rw [if_pos hf];exact .inl ⟨hf,rfl⟩
 rw [if_neg hf]
 obtain ⟨hl,hv⟩:=V8.1 (show kH l=0 by omega)
 rcases zGC (n0:=n) (s0:=s) l (-1) n s h hv (by omega) (by omega) (by simp [dOf];omega) with h1 | ⟨h1,h2⟩
 ·exact .inl h1
 ·exact .inr ⟨h1,hl,hv,h2⟩
end Go.Ab
