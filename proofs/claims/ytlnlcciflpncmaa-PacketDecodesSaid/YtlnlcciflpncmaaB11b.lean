/- Plain laws of the functions uE this seat's, laid anew from another seat's text. No conditions but those that the theorems name. -/
import Derived.Test.YtlnlcciflpncmaaP11xD
import Derived.Test.YtlnlcciflpncmaaA37
namespace Go.Ab
open Go
set_option linter.unusedVariables false
def tV:List Int:=[95,46,58,47,60,62,36,42,126,45]
def kT (c:Int):Bool:=decide (97≤c∧c≤122)||decide (65≤c∧c≤90)||decide (48≤c∧c≤57)||tV.contains c
def wN {α:Type} [DecidableEq α] (s:α):Nat→List α→Int
 | _,[] => -1
 | i,x::r=>if x=s then (i:Int) else wN s (i+1) r
theorem pI {α:Type} [DecidableEq α] (s:α):∀ (l:List α) (i:Nat),(wN s i l = -1∧s∉l)∨∃ j,l[j]?=some s∧wN s i l=((i+j:Nat):Int):=by
 intro l
 induction l with
 | nil=>intro i;exact .inl ⟨rfl,by simp⟩
 | cons x r ih =>
  intro i
  unfold wN
  by_cases h:x=s
  ·exact .inr ⟨0,by simp [h],by simp [h]⟩
  ·rw [if_neg h]
   rcases ih (i+1) with ⟨h1,h2⟩ | ⟨j,h1,h2⟩
   ·exact .inl ⟨h1,by simp [h2,Ne.symm h]⟩
   ·exact .inr ⟨j+1,by simpa using h1,by rw [h2];omega⟩
def wV (s:List Int):Int:=if s=[]∨40<s.length then 3 else if s.all kT then 0 else 3
theorem zDz {α R:Type} {l:List α} (L:Nat→Int→Option (Unit⊕R)) (f:Nat→α→Option R)
  (h0:∀ n i,l.length≤i→L (n+1) (i:Nat)=some (.inl ()))
  (h1:∀ n i x r,l.drop i=x::r→i<l.length→(∀ b,f i x=some b→L (n+1) (i:Nat)=some (.inr b))∧(f i x=none→L (n+1) (i:Nat)=L n ((i+1:Nat):Int)))
  {n:Nat} (hn:l.length<n):L n 0=some (pL f 0 l):=by
 have:=zEi (l:=l) (σ:=Unit) (fun n i _=>L n i) (fun i r _=>pL f i r) (fun _ _=>True) (fun n i _ hi _=>h0 n i hi) ?_ (n:=n) (s:=()) trivial hn
 ·exact this
 ·intro n i _ x r hd hlt _ ih
  obtain ⟨k1,k2⟩:=h1 n i x r hd hlt
  simp only [pL]
  cases hf:f i x with
  | none=>rw [k2 hf];exact ih () trivial
  | some b=>rw [k1 b hf]
theorem zIQ {α:Type} (p:α→Bool):∀ (l:List α) (i:Nat),pL (fun _ x=>if p x then some true else none) i l=if l.any p then .inr true else .inl ():=by
 intro l
 induction l with
 | nil=>intro i;rfl
 | cons x r ih =>
  intro i
  simp only [pL]
  by_cases hp:p x=true
  ·have ea:(x::r).any p=true:=by simp [hp]
   rw [if_pos hp,if_pos ea]
  ·have ea:(x::r).any p=r.any p:=by simp [hp]
   rw [if_neg hp,ih (i+1),ea]
theorem zGi {c:Int}:tY 200000 c 200000 0=some (if tV.contains c then .inr true else .inl ()):=by
 have:=zDz (l:=tV) (tY 200000 c) (fun _ x=>if x==c then some true else none) ?_ ?_ (n:=200000) (by show 10<200000;omega)
 ·rw [this,zIQ (fun x=>x==c)]
  have e:tV.any (fun x=>x==c)=tV.contains c:=by
   rw [List.contains_eq_any_beq];congr 1;funext x;exact BEq.comm
  rw [e]
 ·intro n i hi
  show v6 200000 c _ _=_
  unfold v6
  change tV.length≤i at hi
  have h10:tV.length=10:=rfl
  rw [z7 (by rw [show ([95,46,58,47,60,62,36,42,126,45]:List Int)=tV from rfl];omega),cond_false]
 ·intro n i x r hd hlt
  have h10:tV.length=10:=rfl
  have e:tY 200000 c (n+1) (i:Nat)=(bif (x==c) then some (.inr true) else tY 200000 c n ((i+1:Nat):Int)):=by
   show v6 200000 c _ _=_
   unfold v6
   rw [show ([95,46,58,47,60,62,36,42,126,45]:List Int)=tV from rfl,z9 (by omega),cond_true,yQ hd,Option.bind_some,xP (by omega)]
  rw [e]
  constructor
  ·intro b hb
   by_cases hx:(x==c)=true
   ·rw [if_pos hx] at hb;injection hb with hb;subst hb;rw [hx];rfl
   ·rw [if_neg hx] at hb;cases hb
  ·intro hb
   by_cases hx:(x==c)=true
   ·rw [if_pos hx] at hb;cases hb
   ·rw [Bool.not_eq_true] at hx;rw [hx];rfl
theorem zKi (c:Int):∀ l:List Int, -1≤uF l c∧decide (uF l c≥0)=l.contains c:=by
 intro l
 induction l with
 | nil=>simp [uF]
 | cons b l ih =>
  unfold uF
  rw [List.contains_cons]
  by_cases h:b=c
  ·rw [if_pos h];subst h;simp
  ·rw [if_neg h]
   have hb:(c==b)=false:=by simpa using Ne.symm h
   rw [hb,Bool.false_or]
   by_cases h2:uF l c = -1
   ·rw [if_pos h2]
    have:=ih.2;rw [h2] at this
    exact ⟨by omega,this⟩
   ·rw [if_neg h2]
    refine ⟨by omega,?_⟩
    rw [← ih.2]
    have:=ih.1
    rw [z9 (by omega),z9 (by omega)]
theorem zIf {c:Int}:decide (uF tV c≥0)=tV.contains c:=(zKi c tV).2
theorem zFO {c:Int}:pT c=some (kT c):=by
 unfold pT xZ qV
 have h:=zIf (c:=c)
 unfold tV at h
 unfold kT tV
 simp only [Option.bind_some,h]
 by_cases c1:c≥97<;>by_cases c2:c≤122<;>by_cases c3:c≥65<;>by_cases c4:c≤90<;>by_cases c5:c≥48<;>by_cases c6:c≤57<;>simp [c1,c2,c3,c4,c5,c6]<;>omega
theorem zIn {c:Int}:zAX 200000 c=some (kT c):=by
 unfold zAX
 rw [zGi]
 unfold kT
 by_cases hs:tV.contains c=true
 ·rw [if_pos hs]
  simp only [hs,Bool.or_true,Option.bind_some]
  cases (bif decide (c≥(97:Int)) then (decide (c≤(122:Int))||(bif decide (c≥(65:Int)) then (decide (c≤(90:Int))||(decide (c≥(48:Int))&&decide (c≤(57:Int)))) else (decide (c≥(48:Int))&&decide (c≤(57:Int))))) else (bif decide (c≥(65:Int)) then (decide (c≤(90:Int))||(decide (c≥(48:Int))&&decide (c≤(57:Int)))) else (decide (c≥(48:Int))&&decide (c≤(57:Int)))))<;>rfl
 ·rw [if_neg hs]
  rw [Bool.not_eq_true] at hs
  simp only [hs,Bool.or_false,Option.bind_some]
  by_cases c1:c≥97<;>by_cases c2:c≤122<;>by_cases c3:c≥65<;>by_cases c4:c≤90<;>by_cases c5:c≥48<;>by_cases c6:c≤57<;>simp [c1,c2,c3,c4,c5,c6]<;>omega
theorem zEb {α R:Type} (p:α→Bool) (v:R):∀ (l:List α) (i:Nat),pL (fun _ x=>if p x=false then some v else none) i l=if l.all p=true then .inl () else .inr v:=by
 intro l
 induction l with
 | nil=>intro i;rfl
 | cons x r ih =>
  intro i
  simp only [pL]
  by_cases hp:p x=false
  ·have ea:¬(x::r).all p=true:=by simp [hp]
   rw [if_pos hp,if_neg ea]
  ·have ea:(x::r).all p=r.all p:=by simp at hp;simp [hp]
   rw [if_neg hp,ih (i+1),ea]
theorem zHU {l:List Int} (L:Nat→Int→Option (Unit⊕Int)) (hl:l.length≤40)
  (e:∀ n i,L (n+1) (i:Nat)=bif decide (((i:Nat):Int)<((l.length:Nat):Int)) then (yC l (i:Nat)).bind fun c=>(bif !(kT c) then some (.inr (3:Int)) else L n (zK ((i:Nat)+(1:Int)))) else some (.inl ())) :
  L 200000 0=some (if l.all kT=true then .inl () else .inr 3):=by
 have:=zDz (l:=l) L (fun _ x=>if kT x=false then some 3 else none) ?_ ?_ (n:=200000) (by omega)
 ·rw [this,zEb]
 ·intro n i hi
  rw [e,z7 (by omega),cond_false]
 ·intro n i x r hd hlt
  rw [e,z9 (by omega),cond_true,yQ hd,Option.bind_some,xP (by omega)]
  cases kT x<;>simp
theorem zAb {l:List Int}:jK 200000 l=some (wV l):=by
 unfold jK wV
 by_cases h:l=[]∨40<l.length
 ·have:((l==([]:List Int))||decide ((((l).length:Nat):Int)>(40:Int)))=true:=by
   rcases h with h | h
   ·rw [h];rfl
   ·rw [z9 (p:=((l.length:Nat):Int)>40) (by omega),Bool.or_true]
  rw [this,cond_true,if_pos h]
 ·have:((l==([]:List Int))||decide ((((l).length:Nat):Int)>(40:Int)))=false:=by
   have hb:(l==([]:List Int))=false:=by
    cases l with
    | nil=>exact absurd (.inl rfl) h
    | cons a r=>rfl
   rw [hb,z7 (by omega)];rfl
  rw [this,cond_false,if_neg h,zHU (l:=l) (kZ 200000 l) (by omega) (fun n i=>by
   show t6 200000 l _ _=_
   unfold t6
   simp only [zFO,Option.bind_some]),Option.bind_some]
  by_cases ha:l.all kT=true
  ·rw [if_pos ha,if_pos ha]
  ·rw [if_neg ha,if_neg ha]
theorem zBz {l:List Int}:nM 200000 l=some (wV l):=by
 unfold nM wV
 by_cases h:l=[]∨40<l.length
 ·have:(decide ((((l).length:Nat):Int)<(1:Int))||decide ((((l).length:Nat):Int)>(40:Int)))=true:=by
   rcases h with h | h
   ·rw [h];rfl
   ·rw [z9 (p:=((l.length:Nat):Int)>40) (by omega),Bool.or_true]
  rw [this,cond_true,if_pos h]
 ·have hp:0<l.length:=List.length_pos_iff.2 (fun hc=>h (.inl hc))
  have:(decide ((((l).length:Nat):Int)<(1:Int))||decide ((((l).length:Nat):Int)>(40:Int)))=false:=by
   rw [z7 (by omega),z7 (by omega)];rfl
  rw [this,cond_false,if_neg h,zHU (l:=l) (zAs 200000 l) (by omega) (fun n i=>by
   show jT 200000 l _ _=_
   unfold jT
   simp only [zIn,Option.bind_some]),Option.bind_some]
  by_cases ha:l.all kT=true
  ·rw [if_pos ha,if_pos ha]
  ·rw [if_neg ha,if_neg ha]
def uQ (l:List (List Int)):Int:=if 32<l.length then 7 else if l.all (fun s=>decide (wV s=0)) then 0 else 3
theorem zCs (s:List Int):wV s=0∨wV s=3:=by
 unfold wV;split
 ·exact .inr rfl
 ·split
  ·exact .inl rfl
  ·exact .inr rfl
theorem zE2 {l:List (List Int)} (L:Nat→Int→Option (Unit⊕Int)) (hl:l.length≤100000)
  (e:∀ n i,L (n+1) (i:Nat)=bif decide (((i:Nat):Int)<((l.length:Nat):Int)) then (yC l (i:Nat)).bind fun c=>(bif (wV c != (0:Int)) then some (.inr (3:Int)) else L n (zK ((i:Nat)+(1:Int)))) else some (.inl ())) :
  L 200000 0=some (if l.all (fun s=>decide (wV s=0))=true then .inl () else .inr 3):=by
 have:=zDz (l:=l) L (fun _ x=>if decide (wV x=0)=false then some 3 else none) ?_ ?_ (n:=200000) (by omega)
 ·rw [this,zEb (fun s=>decide (wV s=0))]
 ·intro n i hi
  rw [e,z7 (by omega),cond_false]
 ·intro n i x r hd hlt
  rw [e,z9 (p:=((i:Nat):Int)<((l.length:Nat):Int)) (by omega),cond_true,yQ hd,Option.bind_some,xP (by omega)]
  rcases zCs x with h | h<;>simp [h]
theorem zCx {l:List (List Int)}:j8 200000 l=some (uQ l):=by
 unfold j8 uQ
 by_cases h:32<l.length
 ·rw [z9 (by omega),cond_true,if_pos h]
 ·rw [z7 (by omega),cond_false,if_neg h,zE2 (l:=l) (jQ 200000 l) (by omega) (fun n i=>by
   show tE 200000 l _ _=_
   unfold tE
   simp only [zAb,Option.bind_some]
   congr 1;congr 1;funext c
   rcases zCs c with h | h<;>rw [h]<;>rfl),Option.bind_some]
  by_cases ha:l.all (fun s=>decide (wV s=0))=true
  ·rw [if_pos ha,if_pos ha]
  ·rw [if_neg ha,if_neg ha]
theorem zDU {l:List (List Int)}:zAd 200000 l=some (uQ l):=by
 unfold zAd uQ
 by_cases h:32<l.length
 ·rw [z9 (by omega),cond_true,if_pos h]
 ·rw [z7 (by omega),cond_false,if_neg h,zE2 (l:=l) (pS 200000 l) (by omega) (fun n i=>by
   show qO 200000 l _ _=_
   unfold qO
   simp only [zBz,Option.bind_some]),Option.bind_some]
  by_cases ha:l.all (fun s=>decide (wV s=0))=true
  ·rw [if_pos ha,if_pos ha]
  ·rw [if_neg ha,if_neg ha]
theorem zCS {α:Type} [DecidableEq α] {l:List α} {s:α} (L:Nat→Int→Option (Unit⊕Int)) (hl:l.length≤100000)
  (e:∀ n i x r,l.drop i=x::r→i<l.length→L (n+1) (i:Nat)=if x=s then some (.inr (i:Int)) else L n ((i+1:Nat):Int))
  (e0:∀ n i,l.length≤i→L (n+1) (i:Nat)=some (.inl ())):L 200000 0=some (if wN s 0 l = -1 then .inl () else .inr (wN s 0 l)):=by
 have:=zEi (l:=l) (σ:=Unit) (fun n i _=>L n i) (fun i r _=>if wN s i r = -1 then .inl () else .inr (wN s i r)) (fun _ _=>True) (fun n i _ hi _=>by simpa [wN] using e0 n i hi) ?_ (n:=200000) (s:=()) trivial (by omega)
 ·exact this
 ·intro n i _ x r hd hlt _ ih
  show L (n+1) (i:Nat)=_
  rw [e n i x r hd hlt]
  by_cases h:x=s
  ·have:wN s i (x::r)=(i:Int):=by simp [wN,h]
   rw [if_pos h,this,if_neg (by omega)]
  ·have:wN s i (x::r)=wN s (i+1) r:=by simp [wN,h]
   rw [if_neg h,this];exact ih () trivial
theorem zA9 {l:List (List Int)} {s:List Int} (hl:l.length≤100000):vJ 200000 l s=some (wN s 0 l):=by
 unfold vJ
 rw [zCS (l:=l) (s:=s) (wT 200000 l s) hl (fun n i x r hd hlt=>by
  show yY 200000 l s _ _=_
  unfold yY
  rw [z9 (p:=((i:Nat):Int)<((l.length:Nat):Int)) (by omega),cond_true,yQ hd,Option.bind_some,xP (by omega)]
  by_cases h:x=s
  ·rw [if_pos h,zBU h.symm];rfl
  ·rw [if_neg h,zDd (fun hc=>h hc.symm)];rfl) (fun n i hi=>by
  show yY 200000 l s _ _=_
  unfold yY
  rw [z7 (p:=((i:Nat):Int)<((l.length:Nat):Int)) (by omega),cond_false]),Option.bind_some]
 by_cases h:wN s 0 l = -1
 ·rw [if_pos h,h]
 ·rw [if_neg h]
theorem zFd {l:List (List Int)} {s:List Int} (hl:l.length≤100000):zBe 200000 l s=some (wN s 0 l):=by
 unfold zBe
 rw [zCS (l:=l) (s:=s) (zAD 200000 l s) hl (fun n i x r hd hlt=>by
  show u5 200000 l s _ _=_
  unfold u5
  rw [z9 (p:=((i:Nat):Int)<((l.length:Nat):Int)) (by omega),cond_true,yQ hd,Option.bind_some,xP (by omega)]
  by_cases h:x=s
  ·rw [if_pos h,zBU h];rfl
  ·rw [if_neg h,zDd h];rfl) (fun n i hi=>by
  show u5 200000 l s _ _=_
  unfold u5
  rw [z7 (p:=((i:Nat):Int)<((l.length:Nat):Int)) (by omega),cond_false]),Option.bind_some]
 by_cases h:wN s 0 l = -1
 ·rw [if_pos h,h]
 ·rw [if_neg h]
theorem zBG {l:List (zE)} {s:zE} (hl:l.length≤100000):v7 200000 l s=some (wN s 0 l):=by
 unfold v7
 rw [zCS (l:=l) (s:=s) (w8 200000 l s) hl (fun n i x r hd hlt=>by
  show y5 200000 l s _ _=_
  unfold y5
  rw [z9 (p:=((i:Nat):Int)<((l.length:Nat):Int)) (by omega),cond_true,yQ hd,Option.bind_some,xP (by omega)]
  by_cases h:x=s
  ·rw [if_pos h,z9 h.symm];rfl
  ·rw [if_neg h,z7 (fun hc=>h hc.symm)];rfl) (fun n i hi=>by
  show y5 200000 l s _ _=_
  unfold y5
  rw [z7 (p:=((i:Nat):Int)<((l.length:Nat):Int)) (by omega),cond_false]),Option.bind_some]
 by_cases h:wN s 0 l = -1
 ·rw [if_pos h,h]
 ·rw [if_neg h]
theorem zCE {l:List (zE)} {s:zE} (hl:l.length≤100000):kC 200000 l s=some (wN s 0 l):=by
 unfold kC
 rw [zCS (l:=l) (s:=s) (jW 200000 l s) hl (fun n i x r hd hlt=>by
  show w4 200000 l s _ _=_
  unfold w4
  rw [z9 (p:=((i:Nat):Int)<((l.length:Nat):Int)) (by omega),cond_true,yQ hd,Option.bind_some,xP (by omega)]
  by_cases h:x=s
  ·rw [if_pos h,z9 h];rfl
  ·rw [if_neg h,z7 h];rfl) (fun n i hi=>by
  show w4 200000 l s _ _=_
  unfold w4
  rw [z7 (p:=((i:Nat):Int)<((l.length:Nat):Int)) (by omega),cond_false]),Option.bind_some]
 by_cases h:wN s 0 l = -1
 ·rw [if_pos h,h]
 ·rw [if_neg h]
def xH (names:List (List Int)) (s:List Int):Int×List (List Int)×Int :=
 if wV s≠0 then (0,names,wV s) else if wN s 0 names ≠ -1 then (wN s 0 names,names,0) else if 1000≤names.length then (0,names,6) else ((names.length:Int),names++[s],0)
theorem nF {α:Type} [DecidableEq α] (s:α) (l:List α) : -1≤wN s 0 l:=by
 rcases pI s l 0 with ⟨h,_⟩ | ⟨j,_,h⟩<;>omega
theorem zD1 {names:List (List Int)} {s:List Int} (hl:names.length≤100000):zAa 200000 names s=some (xH names s):=by
 unfold zAa xH
 have hr:=nF s names
 rw [zAb,Option.bind_some]
 by_cases h:wV s≠0
 ·rw [y0 h,if_pos h];rfl
 rw [y6 (by omega),if_neg h,cond_false,zA9 hl,Option.bind_some]
 by_cases h1:wN s 0 names ≠ -1
 ·rw [z9 (by omega),if_pos h1,cond_true]
 rw [z7 (by omega),if_neg h1,cond_false]
 by_cases h2:1000≤names.length
 ·rw [z9 (by omega),if_pos h2,cond_true]
 rw [z7 (by omega),if_neg h2,cond_false]
 unfold u1
 rw [yN (by simp only [List.length_nil];omega),Option.bind_some,Option.bind_some,List.nil_append,yN (by simp only [List.length_singleton];omega),Option.bind_some]
theorem zGl {names:List (List Int)} {s:List Int} (hl:names.length≤100000):zCg 200000 names s=some (xH names s):=by
 unfold zCg xH
 have hr:=nF s names
 have h03:=zCs s
 rw [zBz,Option.bind_some]
 by_cases h:wV s≠0
 ·rw [y0 h,if_pos h,show wV s=3 by omega];rfl
 rw [y6 (by omega),if_neg h,cond_false,zFd hl,Option.bind_some]
 by_cases h1:wN s 0 names ≠ -1
 ·rw [z9 (by omega),if_pos h1,cond_true]
 rw [z7 (by omega),if_neg h1,cond_false]
 by_cases h2:1000≤names.length
 ·rw [z9 (by omega),if_pos h2,cond_true]
 rw [z7 (by omega),if_neg h2,cond_false]
 rw [yN (by simp only [List.length_nil];omega),Option.bind_some,List.nil_append,yN (by simp only [List.length_singleton];omega),Option.bind_some]
theorem zB1 (names:List (List Int)) (s:List Int):(xH names s).2.1.length≤names.length+1:=by
 unfold xH;split
 ·simp
 ·split
  ·simp
  ·split<;>simp
def tZ (names0:List (List Int)) (stacks0:List zE):List (List Int)→Int→List (List Int)→List zE→Int×List (List Int)×List zE×Int
 | [],at_,n,s=>(at_,n,s,0)
 | x::r,at_,n,s =>
  if (xH n x).2.2≠0 then (0,names0,stacks0,(xH n x).2.2) else
  if wN (⟨at_,(xH n x).1⟩:zE) 0 s ≠ -1 then tZ names0 stacks0 r (wN (⟨at_,(xH n x).1⟩:zE) 0 s) (xH n x).2.1 s else
  if 1000≤s.length then (0,names0,stacks0,6) else tZ names0 stacks0 r (s.length:Int) (xH n x).2.1 (s++[⟨at_,(xH n x).1⟩])
def xM (names:List (List Int)) (stacks:List zE) (l:List (List Int)):Int×List (List Int)×List zE×Int :=
 if uQ l≠0 then (0,names,stacks,uQ l) else tZ names stacks l (-1) names stacks
def zLK (o:(Int×List (List Int)×List zE)⊕(Int×List (List Int)×List zE×Int)):Int×List (List Int)×List zE×Int:=match o with | .inl q=>(q.1,q.2.1,q.2.2,0) | .inr q=>q
theorem zDA {names0:List (List Int)} {stacks0:List zE} {l:List (List Int)} (hl:l.length≤40):∀ (m i:Nat) (at_:Int) (n:List (List Int)) (s:List zE),(l.drop i).length<m→n.length+(l.drop i).length≤100000→s.length+(l.drop i).length≤100000 →
  ∃ o,tF 200000 names0 stacks0 l m at_ n (i:Int) s=some o∧zLK o=tZ names0 stacks0 (l.drop i) at_ n s:=by
 intro m
 induction m with
 | zero=>intro i at_ n s h;omega
 | succ m ih =>
  intro i at_ n s hm hn hs
  show ∃ o,uH 200000 names0 stacks0 l _ at_ n (i:Int) s=some o∧_
  unfold uH
  rcases hd:l.drop i with _ | ⟨x,r⟩
  ·have:=wO hd
   rw [z7 (by omega),cond_false]
   exact ⟨_,rfl,rfl⟩
  ·have hlt:=vA hd
   rw [hd] at hm hn hs
   simp only [List.length_cons] at hm hn hs
   have hstep:=yD hd
   rw [z9 (by omega),cond_true,yQ hd,Option.bind_some,zD1 (by omega),Option.bind_some]
   have hpl:=zB1 n x
   simp only [tZ]
   generalize xH n x=q at *
   by_cases h:q.2.2≠0
   ·rw [y0 h,cond_true,if_pos h];exact ⟨_,rfl,rfl⟩
   rw [y6 (by omega),cond_false,if_neg h,zBG (by omega),Option.bind_some]
   have hr:=nF (⟨at_,q.1⟩:zE) s
   by_cases h1:wN (⟨at_,q.1⟩:zE) 0 s ≠ -1
   ·rw [z9 (by omega),cond_true,if_pos h1,xP (by omega),← hstep]
    exact ih (i+1) _ _ _ (by rw [hstep];omega) (by rw [hstep];omega) (by rw [hstep];omega)
   rw [z7 (by omega),cond_false,if_neg h1]
   by_cases h2:1000≤s.length
   ·rw [z9 (by omega),cond_true,if_pos h2];exact ⟨_,rfl,rfl⟩
   rw [z7 (by omega),cond_false,if_neg h2,yN (by simp only [List.length_singleton];omega),Option.bind_some,xP (by omega),← hstep]
   exact ih (i+1) _ _ _ (by rw [hstep];omega) (by rw [hstep];omega) (by rw [hstep];simp only [List.length_append,List.length_singleton];omega)
theorem zEo {names:List (List Int)} {stacks:List zE} {l:List (List Int)} (hn:names.length≤50000) (hs:stacks.length≤50000):qS 200000 names stacks l=some (xM names stacks l):=by
 unfold qS xM
 rw [zCx,Option.bind_some]
 by_cases h:uQ l≠0
 ·rw [y0 h,cond_true,if_pos h]
 have hl:l.length≤32:=by
  unfold uQ at h
  by_cases hc:32<l.length
  ·rw [if_pos hc] at h;omega
  ·omega
 rw [y6 (by omega),cond_false,if_neg h]
 unfold tK
 rw [yN (by simp only [List.length_nil];omega),Option.bind_some,Option.bind_some,List.nil_append]
 obtain ⟨o,h1,h2⟩:=zDA (names0:=names) (stacks0:=stacks) (l:=l) (by omega) 200000 0 (-1) names stacks (by simp;omega) (by simp;omega) (by simp;omega)
 rw [show tF 200000 names stacks l 200000 (-1) names 0 stacks=some o from h1,Option.bind_some]
 rw [List.drop_zero] at h2
 rw [← h2]
 cases o<;>rfl
theorem zEU {names0:List (List Int)} {stacks0:List zE} {l:List (List Int)} (hl:l.length≤40):∀ (m i:Nat) (at_:Int) (n:List (List Int)) (s:List zE),(l.drop i).length<m→n.length+(l.drop i).length≤100000→s.length+(l.drop i).length≤100000 →
  ∃ o,qY 200000 names0 stacks0 l m at_ n (i:Int) s=some o∧zLK o=tZ names0 stacks0 (l.drop i) at_ n s:=by
 intro m
 induction m with
 | zero=>intro i at_ n s h;omega
 | succ m ih =>
  intro i at_ n s hm hn hs
  show ∃ o,tL 200000 names0 stacks0 l _ at_ n (i:Int) s=some o∧_
  unfold tL
  rcases hd:l.drop i with _ | ⟨x,r⟩
  ·have:=wO hd
   rw [z7 (by omega),cond_false]
   exact ⟨_,rfl,rfl⟩
  ·have hlt:=vA hd
   rw [hd] at hm hn hs
   simp only [List.length_cons] at hm hn hs
   have hstep:=yD hd
   rw [z9 (by omega),cond_true,yQ hd,Option.bind_some,zGl (by omega),Option.bind_some]
   have hpl:=zB1 n x
   simp only [tZ]
   generalize xH n x=q at *
   by_cases h:q.2.2≠0
   ·rw [y0 h,cond_true,if_pos h];exact ⟨_,rfl,rfl⟩
   rw [y6 (by omega),cond_false,if_neg h,zCE (by omega),Option.bind_some]
   have hr:=nF (⟨at_,q.1⟩:zE) s
   by_cases h1:wN (⟨at_,q.1⟩:zE) 0 s ≠ -1
   ·rw [z9 (by omega),cond_true,if_pos h1,Option.bind_some]
    simp only
    rw [xP (by omega),← hstep]
    exact ih (i+1) _ _ _ (by rw [hstep];omega) (by rw [hstep];omega) (by rw [hstep];omega)
   rw [z7 (by omega),cond_false,if_neg h1]
   by_cases h2:1000≤s.length
   ·rw [z9 (by omega),cond_true,if_pos h2];exact ⟨_,rfl,rfl⟩
   rw [z7 (by omega),cond_false,if_neg h2,yN (by simp only [List.length_singleton];omega),Option.bind_some,Option.bind_some]
   simp only
   rw [xP (by omega),← hstep]
   exact ih (i+1) _ _ _ (by rw [hstep];omega) (by rw [hstep];omega) (by rw [hstep];simp only [List.length_append,List.length_singleton];omega)
theorem zGf {names:List (List Int)} {stacks:List zE} {l:List (List Int)} (hn:names.length≤50000) (hs:stacks.length≤50000):kY 200000 names stacks l=some (xM names stacks l):=by
 unfold kY xM
 rw [zDU,Option.bind_some]
 by_cases h:uQ l≠0
 ·rw [y0 h,cond_true,if_pos h]
 have hl:l.length≤32:=by
  unfold uQ at h
  by_cases hc:32<l.length
  ·rw [if_pos hc] at h;omega
  ·omega
 rw [y6 (by omega),cond_false,if_neg h]
 rw [yN (by simp only [List.length_nil];omega),Option.bind_some,List.nil_append]
 obtain ⟨o,h1,h2⟩:=zEU (names0:=names) (stacks0:=stacks) (l:=l) (by omega) 200000 0 (-1) names stacks (by simp;omega) (by simp;omega) (by simp;omega)
 rw [show qY 200000 names stacks l 200000 (-1) names 0 stacks=some o from h1,Option.bind_some]
 rw [List.drop_zero] at h2
 rw [← h2]
 cases o<;>rfl
def toO (v:Int):Unit⊕Int:=if v=0 then .inl () else .inr v
theorem zOc:toO 0=.inl ():=rfl
theorem zEa {v:Int} (h:v≠0):toO v=.inr v:=if_neg h
def uW (seen:List (List Int)):List (List Int)→Int
 | []=>0
 | x::r=>if wV x≠0 then 3 else if x∈seen then 4 else uW (seen++[x]) r
theorem zGI {l:List (List Int)} (hl:l.length≤1000):uD 200000 l 200000 0 []=some (toO (uW [] l)):=by
 have:=zEi (l:=l) (fun n i s=>uD 200000 l n i s) (fun i r _=>toO (uW (l.take i) r)) (fun i s=>zJJ s (l.take i)) ?_ ?_ (n:=200000) (s:=[]) zJc (by omega)
 ·simpa using this
 ·intro n i s hi _
  show x6 _ _ _ _ _=_
  unfold x6
  simp (disch:=omega) only [z7,cond_false];rfl
 ·intro n i s x r hd hlt hS ih
  show x6 _ _ _ _ _=_
  unfold x6
  have hs:=hS.1
  rw [zFB hd] at hs
  simp only [uW]
  simp (disch:=omega) only [z9,cond_true,yQ hd,Option.bind_some,zAb,hS.2,yN,xP]
  rw [ih _ (by rw [pF hd];exact zJo hS x)]
  rcases zCs x with h | h
  ·by_cases h2:x∈l.take i<;>simp [h,h2,pF hd,toO]
  ·simp [h,toO]
theorem zDq {l:List (List Int)} (hl:l.length≤1000):jD 200000 l=some (uW [] l):=by
 unfold jD
 rw [zGI hl,Option.bind_some]
 unfold toO
 by_cases h:uW [] l=0
 ·rw [if_pos h,h]
 ·rw [if_neg h]
theorem zI6 {α:Type} [DecidableEq α] (s:α) (l:List α):decide (wN s 0 l≥0)=decide (s∈l):=by
 rcases pI s l 0 with ⟨h,h2⟩ | ⟨j,h1,h⟩
 ·rw [h];simp [h2]
 ·rw [h,z9 (by omega),z9 (List.mem_of_getElem? h1)]
theorem zGq {l:List (List Int)} (hl:l.length≤1000):pC 200000 l 200000 0=some (toO (uW [] l)):=by
 have:=zEi (l:=l) (fun n i (_:Unit)=>pC 200000 l n i) (fun i r _=>toO (uW (l.take i) r)) (fun i s=>True) ?_ ?_ (n:=200000) (s:=()) trivial (by omega)
 ·simpa using this
 ·intro n i s hi _
  show uJ _ _ _ _=_
  unfold uJ
  simp (disch:=omega) only [z7,cond_false];rfl
 ·intro n i s x r hd hlt hS ih
  show uJ _ _ _ _=_
  unfold uJ
  have ht:=List.length_take_le i l
  simp only [uW]
  simp (disch:=omega) only [z9,cond_true,yQ hd,Option.bind_some,zBz,yN,xP,zJ4,zFd,zI6,ih () trivial]
  rcases zCs x with h | h
  ·by_cases h2:x∈l.take i<;>simp [h,h2,pF hd,toO]
  ·simp [h,toO]
def dOf (ds:List Int) (i:Int):Int:=if i = -1 then 0 else (ds[i.toNat]?).getD 0
def DI (st:List zE) (ds:List Int):Prop:=∀ (j:Nat) (d:Int),ds[j]?=some d→∃ p,st[j]?=some p ∧ -1≤p.c0∧p.c0<j∧d=1+dOf ds p.c0∧1≤d∧d≤32
theorem zKX {ds:List Int} {d c:Int} (h:c<ds.length) (h0 : -1≤c):dOf (ds++[d]) c=dOf ds c:=by
 unfold dOf
 split
 ·rfl
 ·rw [List.getElem?_append_left (by omega)]
theorem DI.range {st:List zE} {ds:List Int} (h:DI st ds) (c:Int):0≤dOf ds c∧dOf ds c≤32:=by
 unfold dOf
 split
 ·omega
 ·cases hd:ds[c.toNat]? with
  | none=>simp
  | some d=>obtain ⟨p,_,_,_,_,h1,h2⟩:=h _ _ hd;simp;omega
theorem DI.push {st:List zE} {ds:List Int} {p:zE} (h:DI st ds) (hp:st[ds.length]?=some p) (h0 : -1≤p.c0) (h1:p.c0<ds.length) (h2:1+dOf ds p.c0≤32):DI st (ds++[1+dOf ds p.c0]):=by
 intro j d hj
 rcases Nat.lt_or_ge j ds.length with hlt | hge
 ·rw [List.getElem?_append_left hlt] at hj
  obtain ⟨q,h3,h4,h5,h6,h7⟩:=h j d hj
  exact ⟨q,h3,h4,h5,by rw [zKX (by omega) h4];exact h6,h7⟩
 ·have hj':j=ds.length:=by
   have:=(List.getElem?_eq_some_iff.1 hj).1
   simp at this;omega
  subst hj'
  simp at hj
  subst hj
  have:=h.range p.c0
  exact ⟨p,hp,h0,by omega,by rw [zKX h1 h0],by omega,h2⟩
theorem DI.nil {st:List zE}:DI st []:=fun j d h=>by simp at h
theorem zJT {st:List zE} {ds:List Int} (h:DI st ds):∀ (n:Nat) (i acc:Int), -1≤i→i<ds.length→i+1<n→0≤acc→acc+i≤5000→pB 200000 st n i acc=some (acc+dOf ds i):=by
 intro n
 induction n with
 | zero=>intro i acc h0 h1 h2;omega
 | succ n ih =>
  intro i acc h0 h1 h2 h3 h4
  show uI _ _ _ _ _=_
  unfold uI
  by_cases hi:i = -1
  ·rw [z7 (by omega),cond_false,hi];simp [dOf]
  ·obtain ⟨m,rfl⟩:=Int.eq_ofNat_of_zero_le (show 0≤i by omega)
   obtain ⟨d,hd⟩:∃ d,ds[m]?=some d:=⟨ds[m]'(by omega),List.getElem?_eq_getElem _⟩
   obtain ⟨p,hp,k0,k1,k2,k3,k4⟩:=h m d hd
   have key:dOf ds (m:Int)=d:=by simp [dOf,hd]
   rw [z9 (by omega),cond_true,q7,hp,Option.bind_some,w64 (by omega) (by omega),key,ih p.c0 (acc+1) k0 (by omega) (by omega) (by omega) (by omega)]
   congr 1;omega
def tG (nn:Nat) (ds:List Int) (seen:List zE):List zE→Int
 | []=>0
 | p::r=>if p.c0 < -1∨p.c0≥seen.length∨p.c1<0∨p.c1≥nn then 2 else if p∈seen then 4 else if 1+dOf ds p.c0>32 then 7 else tG nn (ds++[1+dOf ds p.c0]) (seen++[p]) r
theorem zGF {names:List (List Int)} {l:List zE} (hl:l.length≤1000):∀ (n i:Nat) (ds:List Int),DI l ds→ds.length=i→i≤l.length→(l.drop i).length<n→kS 200000 names l n (i:Nat)=some (toO (tG names.length ds (l.take i) (l.drop i))):=by
 intro n
 induction n with
 | zero=>intro i ds _ _ _ h;omega
 | succ n ih =>
  intro i ds hD hdl hil hn
  show jE _ _ _ _ _=_
  unfold jE
  rcases hd:l.drop i with _ | ⟨p,r⟩
  ·have:=wO hd
   simp (disch:=omega) only [z7,cond_false];rfl
  have hlt:=vA hd
  have ht:=zFB hd
  rw [hd] at hn
  simp only [List.length_cons] at hn
  simp only [tG,ht]
  simp (disch:=omega) only [z9,cond_true,yQ hd,Option.bind_some,yN,zJ4,zCE,zI6]
  by_cases c1:p.c0 < -1∨p.c0≥i∨p.c1<0∨p.c1≥names.length
  ·rw [if_pos c1,zEa (by decide)]
   have:(decide (p.c0<(-1:Int))||(decide (p.c0≥(i:Int))||(decide (p.c1<(0:Int))||decide (p.c1≥((names.length:Nat):Int)))))=true:=by simpa using c1
   rw [this];rfl
  ·rw [if_neg c1]
   simp (disch:=omega) only [z7,Bool.or_false,cond_false]
   by_cases c2:p∈l.take i
   ·rw [if_pos c2,z9 c2];rfl
   ·rw [if_neg c2,z7 c2,cond_false]
    unfold zCJ
    have hr:=hD.range p.c0
    have hdep:pB 200000 l 200000 (i:Int) 0=some (1+dOf ds p.c0):=by
     show uI _ _ _ _ _=_
     unfold uI
     simp (disch:=omega) only [z9,cond_true,yQ hd,Option.bind_some,w64]
     rw [zJT hD _ _ _ (by omega) (by omega) (by omega) (by omega) (by omega)];rfl
    rw [hdep,Option.bind_some,Option.bind_some]
    by_cases c3:1+dOf ds p.c0>32
    ·rw [if_pos c3,z9 c3];rfl
    ·rw [if_neg c3,z7 c3,cond_false,xP (by omega),ih (i+1) (ds++[1+dOf ds p.c0]) (hD.push (by rw [hdl];exact zFQ hd) (by omega) (by omega) (by omega)) (by simp [hdl]) (by omega) (by rw [yD hd];omega),pF hd,yD hd]
theorem zA5 {names:List (List Int)} {l:List zE}:tH 200000 names l=some (if 1000<names.length∨1000<l.length then 7 else if uW [] names≠0 then uW [] names else tG names.length [] [] l):=by
 unfold tH
 by_cases h:1000<names.length∨1000<l.length
 ·rw [if_pos h]
  have:(decide ((((names).length:Nat):Int)>(1000:Int))||decide ((((l).length:Nat):Int)>(1000:Int)))=true:=by simp;omega
  rw [this];rfl
 rw [if_neg h]
 simp (disch:=omega) only [z7,Bool.or_false,cond_false]
 rw [zGq (by omega),Option.bind_some]
 by_cases h1:uW [] names≠0
 ·rw [zEa h1,if_pos h1]
 have h1':uW [] names=0:=by omega
 have:=zGF (names:=names) (l:=l) (by omega) 200000 0 [] DI.nil rfl (by omega) (by simp;omega)
 rw [h1',zOc,if_neg (by omega)]
 simp only
 rw [show kS 200000 names l 200000 0=_ from this]
 simp only [List.take_zero,List.drop_zero,Option.bind_some]
 generalize tG names.length [] [] l=v
 unfold toO
 by_cases hv:v=0
 ·rw [if_pos hv,hv]
 ·rw [if_neg hv]
theorem zH0 {α:Type} {l:List α} {i:Nat} (v:α) (h:i<l.length):(l.set i v).take (i+1)=l.take i++[v]:=by
 rw [List.take_add_one,List.take_set_of_le (Nat.le_refl _),List.getElem?_set_self h];rfl
theorem zEM {names:List (List Int)} {l:List zE} (hl:l.length≤1000):∀ (n i:Nat) (s:List (zE×Bool)) (t:List Int),zJJ s (l.take i)→t.length=l.length→DI l (t.take i)→i≤l.length→(l.drop i).length<n→qW 200000 names l n (i:Nat) s t=some (toO (tG names.length (t.take i) (l.take i) (l.drop i))):=by
 intro n
 induction n with
 | zero=>intro i s t _ _ _ _ h;omega
 | succ n ih =>
  intro i s t hS htl hD hil hn
  show tQ _ _ _ _ _ _ _=_
  unfold tQ
  rcases hd:l.drop i with _ | ⟨p,r⟩
  ·have:=wO hd
   simp (disch:=omega) only [z7,cond_false];rfl
  have hlt:=vA hd
  have ht:=zFB hd
  have hs:=hS.1
  rw [ht] at hs
  rw [hd] at hn
  simp only [List.length_cons] at hn
  simp only [tG,ht]
  obtain ⟨y,hy⟩:∃ y,t[i]?=some y:=⟨t[i]'(by omega),List.getElem?_eq_getElem _⟩
  simp (disch:=omega) only [z9,cond_true,yQ hd,Option.bind_some,hS.2,yN,q7,hy]
  by_cases c1:p.c0 < -1∨p.c0≥i∨p.c1<0∨p.c1≥names.length
  ·rw [if_pos c1,zEa (by decide)]
   have:(decide (p.c0<(-1:Int))||(decide (p.c0≥(i:Int))||(decide (p.c1<(0:Int))||decide (p.c1≥((names.length:Nat):Int)))))=true:=by simpa using c1
   rw [this];rfl
  ·rw [if_neg c1]
   simp (disch:=omega) only [z7,Bool.or_false,cond_false]
   by_cases c2:p∈l.take i
   ·rw [if_pos c2,z9 c2];rfl
   ·rw [if_neg c2,z7 c2,cond_false]
    have hr:=hD.range p.c0
    have htt:(t.take i).length=i:=by rw [List.length_take];omega
    have hstep:((bif (p.c0 != (-1:Int)) then ((t.set ((i:Int)).toNat (1:Int))[i]?).bind fun x_3=>(yC (t.set ((i:Int)).toNat (1:Int)) p.c0).bind fun x_4=>((t.set ((i:Int)).toNat (1:Int))[i]?).bind fun x_5 =>
      some ((t.set ((i:Int)).toNat (1:Int)).set ((i:Int)).toNat (zK (x_3+x_4))) else some (t.set ((i:Int)).toNat (1:Int))):Option (List Int))=some (t.set i (1+dOf (t.take i) p.c0)):=by
     rw [Int.toNat_natCast]
     by_cases hc:p.c0 = -1
     ·rw [y6 hc,cond_false];simp [dOf,hc]
     ·rw [y0 hc,cond_true,List.getElem?_set_self (by omega),Option.bind_some]
      have e:yC (t.set i 1) p.c0=some (dOf (t.take i) p.c0):=by
       obtain ⟨m,hm⟩:=Int.eq_ofNat_of_zero_le (show 0≤p.c0 by omega)
       rw [hm,q7,List.getElem?_set_ne (by omega)]
       have:(t.take i)[m]?=t[m]?:=by rw [List.getElem?_take_of_lt (by omega)]
       have hml:m<t.length:=by omega
       simp only [dOf]
       rw [if_neg (by omega),Int.toNat_natCast,this,List.getElem?_eq_getElem hml];rfl
      rw [e,Option.bind_some,Option.bind_some,w64 (by omega) (by omega),List.set_set]
    rw [hstep,Option.bind_some,List.getElem?_set_self (by omega),Option.bind_some]
    by_cases c3:1+dOf (t.take i) p.c0>32
    ·rw [if_pos c3,z9 c3];rfl
    ·rw [if_neg c3,z7 c3,cond_false,xP (by omega)]
     have hts:=zH0 (i:=i) (1+dOf (t.take i) p.c0) (show i<t.length by omega)
     rw [ih (i+1) _ _ (by rw [pF hd];exact zJo hS p) (by simp [htl]) (by rw [hts];exact hD.push (by rw [htt];exact zFQ hd) (by omega) (by omega) (by omega)) (by omega) (by rw [yD hd];omega),pF hd,yD hd,hts]
def tC (names:List (List Int)) (l:List zE):Int:=if 1000<names.length∨1000<l.length then 7 else if uW [] names≠0 then uW [] names else tG names.length [] [] l
theorem nK {names:List (List Int)} {l:List zE}:tN 200000 names l=some (tC names l):=by
 unfold tN tC
 by_cases h:1000<names.length∨1000<l.length
 ·rw [if_pos h]
  have:(decide ((((names).length:Nat):Int)>(1000:Int))||decide ((((l).length:Nat):Int)>(1000:Int)))=true:=by simp;omega
  rw [this];rfl
 rw [if_neg h]
 simp (disch:=omega) only [z7,Bool.or_false,cond_false]
 rw [zDq (by omega),Option.bind_some]
 by_cases h1:uW [] names≠0
 ·rw [y0 h1,if_pos h1];rfl
 have h1':uW [] names=0:=by omega
 have:=zEM (names:=names) (l:=l) (by omega) 200000 0 [] (List.replicate l.length 0) zJc (by simp) DI.nil (by omega) (by simp;omega)
 rw [h1',y6 rfl,cond_false,if_neg (by omega),yN (by omega),Option.bind_some]
 rw [show qW 200000 names l 200000 0 [] (List.replicate l.length 0)=_ from this]
 simp only [List.take_zero,List.drop_zero,Option.bind_some]
 generalize tG names.length [] [] l=v
 unfold toO
 by_cases hv:v=0
 ·rw [if_pos hv,hv]
 ·rw [if_neg hv]
def dsF (l:List zE):List Int:=l.foldl (fun ds p=>ds++[1+dOf ds p.c0]) []
theorem zMa:∀ (l:List zE) (ds:List Int),(l.foldl (fun ds p=>ds++[1+dOf ds p.c0]) ds).length=ds.length+l.length:=by
 intro l
 induction l with
 | nil=>intro ds;rfl
 | cons p r ih=>intro ds;rw [List.foldl_cons,ih];simp;omega
theorem zCe (l:List zE):(dsF l).length=l.length:=by simp [dsF,zMa]
theorem zJU (l:List zE) (p:zE):dsF (l++[p])=dsF l++[1+dOf (dsF l) p.c0]:=by simp [dsF]
theorem zBv:∀ (l seen:List (List Int)),uW seen l=0↔(∀ x∈l,wV x=0∧x∉seen)∧l.Nodup:=by
 intro l
 induction l with
 | nil=>intro seen;simp [uW]
 | cons x r ih =>
  intro seen
  simp only [uW]
  by_cases h:wV x≠0
  ·rw [if_pos h];simp [h]
  rw [if_neg h]
  by_cases h2:x∈seen
  ·rw [if_pos h2];simp [h2]
  rw [if_neg h2,ih]
  simp only [List.mem_cons,List.nodup_cons,forall_eq_or_imp,List.mem_append,List.not_mem_nil,or_false,not_or]
  constructor
  ·rintro ⟨h3,h4⟩
   exact ⟨⟨⟨by omega,h2⟩,fun y hy=>⟨(h3 y hy).1,(h3 y hy).2.1⟩⟩,fun hx=>(h3 x hx).2.2 rfl,h4⟩
  ·rintro ⟨⟨_,h3⟩,h4,h5⟩
   exact ⟨fun y hy=>⟨(h3 y hy).1,(h3 y hy).2,fun e=>h4 (e ▸ hy)⟩,h5⟩
structure zIX (nn k:Nat) (ds:List Int) (seen:List zE) (p:zE):Prop where
 lo : -1≤p.c0
 hi:p.c0<k
 lo1:0≤p.c1
 hi1:p.c1<nn
 new:p∉seen
 deep:1+dOf ds p.c0≤32
theorem zCX {nn:Nat}:∀ (r:List zE) (ds:List Int) (seen:List zE) (p:zE),tG nn ds seen (r++[p])=0↔tG nn ds seen r=0∧zIX nn (seen++r).length (r.foldl (fun ds p=>ds++[1+dOf ds p.c0]) ds) (seen++r) p:=by
 intro r
 induction r with
 | nil =>
  intro ds seen p
  simp only [List.nil_append,tG,List.append_nil,List.foldl_nil,true_and]
  constructor
  ·intro h
   split at h
   ·cases h
   split at h
   ·cases h
   split at h
   ·cases h
   exact ⟨by omega,by omega,by omega,by omega,by assumption,by omega⟩
  ·rintro ⟨h1,h2,h3,h4,h5,h6⟩
   rw [if_neg (by omega),if_neg h5,if_neg (by omega)]
 | cons q r ih =>
  intro ds seen p
  simp only [List.cons_append,tG,List.foldl_cons]
  split
  ·simp
  split
  ·simp
  split
  ·simp
  rw [ih];simp
theorem zKv {nn mm:Nat} (h:nn≤mm):∀ (r:List zE) (ds:List Int) (seen:List zE),tG nn ds seen r=0→tG mm ds seen r=0:=by
 intro r
 induction r with
 | nil=>intro ds seen _;rfl
 | cons q r ih =>
  intro ds seen hz
  simp only [tG] at hz ⊢
  split at hz
  ·cases hz
  rename_i h1
  rw [if_neg (by omega)]
  split at hz
  ·cases hz
  rename_i h2
  rw [if_neg h2]
  split at hz
  ·cases hz
  rename_i h3
  rw [if_neg h3]
  exact ih _ _ hz
structure wM (n:List (List Int)) (s:List zE):Prop where
 n1:n.length≤1000
 s1:s.length≤1000
 names:uW [] n=0
 st:tG n.length [] [] s=0
theorem zFn {n:List (List Int)} {s:List zE}:tC n s=0↔wM n s:=by
 unfold tC
 constructor
 ·intro h
  split at h
  ·cases h
  split at h
  ·omega
  exact ⟨by omega,by omega,by omega,h⟩
 ·rintro ⟨h1,h2,h3,h4⟩
  rw [if_neg (by omega),if_neg (by omega),h4]
theorem wM.nodup {n:List (List Int)} {s:List zE} (h:wM n s):n.Nodup:=((zBv _ _).1 h.names).2
theorem wM.valid {n:List (List Int)} {s:List zE} (h:wM n s) {x:List Int} (hx:x∈n):wV x=0:=(((zBv _ _).1 h.names).1 x hx).1
theorem wM.name {n:List (List Int)} {s:List zE} (h:wM n s) {x:List Int} (hx:wV x=0) (hn:x∉n) (hl:n.length<1000):wM (n++[x]) s:=by
 refine ⟨by simp;omega,h.s1,?_,zKv (by simp) _ _ _ h.st⟩
 rw [zBv]
 have h2:=(zBv _ _).1 h.names
 refine ⟨fun y hy=>⟨?_,by simp⟩,?_⟩
 ·rcases List.mem_append.1 hy with hy | hy
  ·exact h.valid hy
  ·simp at hy;rw [hy];exact hx
 ·rw [List.nodup_append]
  exact ⟨h.nodup,by simp,fun a ha b hb=>by simp at hb;rw [hb];exact fun e=>hn (e ▸ ha)⟩
theorem wM.push {n:List (List Int)} {s:List zE} {p:zE} (h:wM n s) (hp:zIX n.length s.length (dsF s) s p) (hl:s.length<1000):wM n (s++[p]) :=
 ⟨h.n1,by simp;omega,h.names,by rw [zCX];exact ⟨h.st,by rw [List.nil_append];exact hp⟩⟩
theorem zJj {nn:Nat} (s:List zE) (h:tG nn [] [] s=0):∀ (i:Nat),i<s.length→∃ p,s[i]?=some p∧zIX nn i (dsF (s.take i)) (s.take i) p:=by
 intro i hi
 have e:s=s.take i++(s[i]::s.drop (i+1)):=by simp
 have:∀ (m:Nat) (r:List zE),r.length=m→tG nn [] [] (s.take i++s[i]::r)=0→tG nn [] [] (s.take i++[s[i]])=0:=by
  intro m
  induction m with
  | zero=>intro r hr h;rw [List.length_eq_zero_iff.1 hr] at h;exact h
  | succ m ih =>
   intro r hr h
   rcases List.eq_nil_or_concat r with h0 | ⟨r',y,h0⟩
   ·rw [h0] at hr;simp at hr
   ·rw [h0] at h hr
    simp at hr
    rw [show s.take i++s[i]::r'.concat y=(s.take i++s[i]::r')++[y] by simp] at h
    exact ih r' hr ((zCX _ _ _ _).1 h).1
 have h2:=(zCX _ _ _ _).1 (this _ _ rfl (by rw [← e];exact h))
 refine ⟨s[i],List.getElem?_eq_getElem hi,?_⟩
 have h3:=h2.2
 simp only [List.nil_append,List.length_take,Nat.min_eq_left (Nat.le_of_lt hi)] at h3
 exact h3
theorem zFP (s:List zE) (i:Nat):dsF (s.take i)=(dsF s).take i:=by
 induction i with
 | zero=>rfl
 | succ i ih =>
  rcases hd:s.drop i with _ | ⟨x,r⟩
  ·have:=wO hd
   rw [List.take_of_length_le (by omega),List.take_of_length_le (by rw [zCe];omega)]
  ·have e:s=s.take i++([x]++r):=by rw [List.singleton_append,← hd,List.take_append_drop]
   have hlt:=vA hd
   have e2:∃ t,dsF s=dsF (s.take i++[x])++t:=by
    have hg:∀ (r:List zE) (ds:List Int),∃ t,r.foldl (fun ds p=>ds++[1+dOf ds p.c0]) ds=ds++t:=by
     intro r
     induction r with
     | nil=>intro ds;exact ⟨[],by simp⟩
     | cons y r ih2=>intro ds;obtain ⟨t,ht⟩:=ih2 (ds++[1+dOf ds y.c0]);exact ⟨_,by rw [List.foldl_cons,ht,List.append_assoc]⟩
    have:dsF s=r.foldl (fun ds p=>ds++[1+dOf ds p.c0]) (dsF (s.take i++[x])):=by
     have h3:dsF (s.take i++[x]++r)=r.foldl (fun ds p=>ds++[1+dOf ds p.c0]) (dsF (s.take i++[x])):=by unfold dsF;rw [List.foldl_append]
     rwa [List.append_assoc,← e] at h3
    rw [this];exact hg _ _
   obtain ⟨t,ht⟩:=e2
   rw [pF hd,ht,List.take_append_of_le_length (by simp [zCe];omega)]
   exact (List.take_of_length_le (by simp [zCe];omega)).symm
theorem zJ2 {ds:List Int} {i:Nat} {c:Int} (h:c<i) (h0 : -1≤c):dOf (ds.take i) c=dOf ds c:=by
 unfold dOf
 split
 ·rfl
 ·rw [List.getElem?_take_of_lt (by omega)]
theorem wM.pair {n:List (List Int)} {s:List zE} (h:wM n s) {i:Nat} {p:zE} (hp:s[i]?=some p) :
  -1≤p.c0∧p.c0<i∧0≤p.c1∧p.c1<n.length∧dOf (dsF s) (i:Int)=1+dOf (dsF s) p.c0∧dOf (dsF s) (i:Int)≤32∧p∉s.take i:=by
 have hi:i<s.length:=(List.getElem?_eq_some_iff.1 hp).1
 obtain ⟨q,hq,h1,h2,h3,h4,h5,h6⟩:=zJj s h.st i hi
 rw [hp] at hq;injection hq with hq;subst hq
 rw [zFP,zJ2 h2 h1] at h6
 have e:dOf (dsF s) (i:Int)=1+dOf (dsF s) p.c0:=by
  have e1:dsF (s.take (i+1))=dsF (s.take i)++[1+dOf (dsF (s.take i)) p.c0]:=by
   rw [List.take_add_one,hp];exact zJU _ _
  have e2:(dsF s)[i]?=some (1+dOf (dsF s) p.c0):=by
   have:((dsF s).take (i+1))[i]?=(dsF s)[i]?:=List.getElem?_take_of_lt (by omega)
   rw [← this,← zFP,e1,zFP,zJ2 h2 h1]
   have hl:((dsF s).take i).length=i:=by rw [List.length_take,zCe];omega
   rw [List.getElem?_append_right (by omega),hl];simp
  unfold dOf
  rw [if_neg (by omega),Int.toNat_natCast,e2];rfl
 exact ⟨h1,h2,h3,h4,e,by omega,h5⟩
theorem wM.snodup {n:List (List Int)} {s:List zE} (h:wM n s) {i j:Nat} {p:zE} (hi:s[i]?=some p) (hj:s[j]?=some p):i=j:=by
 rcases Nat.lt_trichotomy i j with hlt | he | hlt
 ·exact absurd (List.mem_of_getElem? (show (s.take j)[i]?=some p by rw [List.getElem?_take_of_lt hlt];exact hi)) (h.pair hj).2.2.2.2.2.2
 ·exact he
 ·exact absurd (List.mem_of_getElem? (show (s.take i)[j]?=some p by rw [List.getElem?_take_of_lt hlt];exact hj)) (h.pair hi).2.2.2.2.2.2
theorem wM.depth0 {n:List (List Int)} {s:List zE} (h:wM n s) {c:Int} (h0 : -1≤c) (h1:c<s.length):0≤dOf (dsF s) c∧dOf (dsF s) c≤32∧(dOf (dsF s) c=0↔c = -1):=by
 have key:∀ (m:Nat) (c:Int),c+1<m → -1≤c→c<s.length→0≤dOf (dsF s) c∧dOf (dsF s) c≤32∧(dOf (dsF s) c=0↔c = -1):=by
  intro m
  induction m with
  | zero=>intro c h1 h2;omega
  | succ m ih =>
   intro c h1 h2 h3
   by_cases hc:c = -1
   ·subst hc;simp [dOf]
   ·obtain ⟨i,rfl⟩:=Int.eq_ofNat_of_zero_le (show 0≤c by omega)
    have hi:i<s.length:=by omega
    obtain ⟨k1,k2,k3,k4,k5,k6,k7⟩:=h.pair (List.getElem?_eq_getElem hi)
    have:=ih (s[i]).c0 (by omega) k1 (by omega)
    omega
 exact key (c.toNat+3) c (by omega) h0 h1
def qX (n:List (List Int)) (s:List zE):Nat→Int→List (List Int)
 | 0,_=>[]
 | k+1,i=>if i<0 then [] else match s[i.toNat]? with
  | none=>[]
  | some p=>(n[p.c1.toNat]?).getD []::qX n s k p.c0
theorem zHB (n:List (List Int)) (s:List zE):∀ (k:Nat) (i:Int),(qX n s k i).length≤k:=by
 intro k
 induction k with
 | zero=>intro i;exact Nat.le_refl _
 | succ k ih =>
  intro i
  simp only [qX]
  split
  ·simp
  split
  ·simp
  ·rename_i p _
   have:=ih p.c0
   simp only [List.length_cons];omega
theorem zES {n:List (List Int)} {s:List zE} (h:wM n s):∀ (k f:Nat) (i:Int) (row:List (List Int)), -1≤i→i<s.length→dOf (dsF s) i≤k→k<f→row.length+k≤1000 →
  kJ 200000 n s f i row=some (row++qX n s k i):=by
 intro k
 induction k with
 | zero =>
  intro f i row h0 h1 h2 h3 h4
  have hi:i = -1:=(h.depth0 h0 h1).2.2.1 (by have:=(h.depth0 h0 h1).1;omega)
  subst hi
  obtain ⟨f,rfl⟩:∃ g,f=g+1:=⟨f - 1,by omega⟩
  show vH _ _ _ _ _ _=_
  unfold vH
  rw [y6 rfl,cond_false];simp [qX]
 | succ k ih =>
  intro f i row h0 h1 h2 h3 h4
  obtain ⟨f,rfl⟩:∃ g,f=g+1:=⟨f - 1,by omega⟩
  show vH _ _ _ _ _ _=_
  unfold vH
  by_cases hi:i = -1
  ·subst hi
   rw [y6 rfl,cond_false];simp [qX]
  ·obtain ⟨m,rfl⟩:=Int.eq_ofNat_of_zero_le (show 0≤i by omega)
   have hm:s[m]?=some (s[m]'(by omega)):=List.getElem?_eq_getElem _
   obtain ⟨k1,k2,k3,k4,k5,k6,k7⟩:=h.pair hm
   simp only [qX]
   rw [y0 hi,cond_true,q7,Int.toNat_natCast,if_neg (by omega)]
   generalize hp:s[m]'(by omega)=p at *
   obtain ⟨a,ha⟩:=Int.eq_ofNat_of_zero_le k3
   have hlt:a<n.length:=by omega
   rw [hm,Option.bind_some,ha,q7]
   simp only [ha,Int.toNat_natCast,List.getElem?_eq_getElem hlt,Option.bind_some,Option.getD_some]
   rw [yN (by simp;omega),Option.bind_some,ih _ _ _ k1 (by omega) (by omega) (by omega) (by simp;omega)]
   simp
theorem zGZ {n:List (List Int)} {s:List zE} (h:wM n s):∀ (k f:Nat) (i:Int) (row:List (List Int)), -1≤i→i<s.length→dOf (dsF s) i≤k→k<f→row.length+k≤1000 →
  nU 200000 n s f i row=some ((qX n s k i).reverse++row):=by
 intro k
 induction k with
 | zero =>
  intro f i row h0 h1 h2 h3 h4
  have hi:i = -1:=(h.depth0 h0 h1).2.2.1 (by have:=(h.depth0 h0 h1).1;omega)
  subst hi
  obtain ⟨f,rfl⟩:∃ g,f=g+1:=⟨f - 1,by omega⟩
  show uM _ _ _ _ _ _=_
  unfold uM
  rw [z7 (by omega),cond_false];simp [qX]
 | succ k ih =>
  intro f i row h0 h1 h2 h3 h4
  obtain ⟨f,rfl⟩:∃ g,f=g+1:=⟨f - 1,by omega⟩
  show uM _ _ _ _ _ _=_
  unfold uM
  by_cases hi:i = -1
  ·subst hi
   rw [z7 (by omega),cond_false];simp [qX]
  ·obtain ⟨m,rfl⟩:=Int.eq_ofNat_of_zero_le (show 0≤i by omega)
   have hm:s[m]?=some (s[m]'(by omega)):=List.getElem?_eq_getElem _
   obtain ⟨k1,k2,k3,k4,k5,k6,k7⟩:=h.pair hm
   simp only [qX]
   rw [z9 (by omega),cond_true,q7,Int.toNat_natCast,if_neg (by omega)]
   generalize hp:s[m]'(by omega)=p at *
   obtain ⟨a,ha⟩:=Int.eq_ofNat_of_zero_le k3
   have hlt:a<n.length:=by omega
   rw [hm,Option.bind_some,ha,q7]
   simp only [ha,Int.toNat_natCast,List.getElem?_eq_getElem hlt,Option.bind_some,Option.getD_some]
   rw [yN (by simp;omega),Option.bind_some,ih _ _ _ k1 (by omega) (by omega) (by omega) (by simp;omega)]
   simp
theorem zM5 {l:List (List Int)} (hl:l.length≤100000):∀ (f i:Nat) (row:List (List Int)),row.length=l.length→2 * i≤l.length+1→l.length<f+i →
  (∀ k,row[k]?=if k<i∨l.length≤k+i then l.reverse[k]? else l[k]?)→xO 200000 f (i:Int) ((l.length:Int) - 1 - i) row=some l.reverse:=by
 intro f
 induction f with
 | zero=>intro i row hr h2 hf;omega
 | succ f ih =>
  intro i row hr h2 hf hk
  show xQ _ _ _ _ _=_
  unfold xQ
  by_cases hi:(i:Int)<(l.length:Int) - 1 - i
  ·obtain ⟨j,hj⟩:=Int.eq_ofNat_of_zero_le (show 0≤(l.length:Int) - 1 - i by omega)
   have hjl:j<row.length:=by omega
   have hil:i<row.length:=by omega
   have hne:i≠j:=by omega
   rw [z9 hi,cond_true,hj,q7,q7,List.getElem?_eq_getElem hjl,Option.bind_some,List.getElem?_eq_getElem hil,Option.bind_some,Option.bind_some,
    Int.toNat_natCast,Int.toNat_natCast,q7,List.getElem?_set_ne hne,List.getElem?_eq_getElem hjl,Option.bind_some,w64 (by omega) (by omega),w64 (by omega) (by omega)]
   have:=ih (i+1) ((row.set i row[j]).set j row[i]) (by simp [hr]) (by omega) (by omega) ?_
   ·rw [show ((i:Int)+1)=((i+1:Nat):Int) by omega,show (j:Int) - 1=(l.length:Int) - 1 - ((i+1:Nat):Int) by omega];exact this
   ·intro k
    have ej:some row[j]=l.reverse[i]?:=by
     rw [← List.getElem?_eq_getElem hjl,hk j,if_neg (by omega),List.getElem?_reverse (by omega)];congr 1;omega
    have ei:some row[i]=l.reverse[j]?:=by
     rw [← List.getElem?_eq_getElem hil,hk i,if_neg (by omega),List.getElem?_reverse (by omega)];congr 1;omega
    by_cases h1:k=j
    ·subst h1;rw [List.getElem?_set_self (by simpa using hjl),if_pos (by omega),ei]
    rw [List.getElem?_set_ne (fun e=>h1 e.symm)]
    by_cases h3:k=i
    ·subst h3;rw [List.getElem?_set_self hil,if_pos (by omega),ej]
    rw [List.getElem?_set_ne (fun e=>h3 e.symm),hk k]
    by_cases h4:k<i∨l.length≤k+i
    ·rw [if_pos h4,if_pos (by omega)]
    ·rw [if_neg h4,if_neg (by omega)]
  ·rw [z7 hi,cond_false]
   congr 1
   apply List.ext_getElem?
   intro k
   rw [hk k]
   by_cases h1:k<i∨l.length≤k+i
   ·rw [if_pos h1]
   ·rw [if_neg h1,List.getElem?_reverse (by omega)];congr 1;omega
theorem zEO {l:List (List Int)} (hl:l.length≤100000):w5 200000 l=some l.reverse:=by
 unfold w5
 have:=zM5 hl 200000 0 l rfl (by omega) (by omega) (by
  intro k
  by_cases h:l.length≤k
  ·rw [if_pos (by omega),List.getElem?_eq_none h,List.getElem?_eq_none (by simpa using h)]
  ·rw [if_neg (by omega)])
 rw [w64 (by omega) (by omega),show (l.length:Int) - 1=(l.length:Int) - 1 - (0:Nat) by omega,show xO 200000 200000 0 ((l.length:Int) - 1 - (0:Nat)) l=_ from this,Option.bind_some]
def zAx (n:List (List Int)) (s:List zE) (i:Int):List (List Int)×Int :=
 if tC n s≠0 then ([],1) else if i < -1∨i≥s.length then ([],2) else ((qX n s 32 i).reverse,0)
theorem zF7 {n:List (List Int)} {s:List zE} {i:Int}:kW 200000 n s i=some (zAx n s i):=by
 unfold kW zAx
 rw [nK,Option.bind_some]
 by_cases h:tC n s≠0
 ·rw [y0 h,cond_true,if_pos h]
 rw [y6 (by omega),cond_false,if_neg h]
 by_cases h2:i < -1∨i≥s.length
 ·rw [if_pos h2]
  have:(decide (i<(-1:Int))||decide (i≥(((s).length:Nat):Int)))=true:=by simpa using h2
  rw [this];rfl
 rw [if_neg h2]
 simp (disch:=omega) only [z7,Bool.or_false,cond_false]
 have hg:wM n s:=zFn.1 (by omega)
 have hlen:=zHB n s 32 i
 rw [zES hg 32 _ _ _ (by omega) (by omega) ((hg.depth0 (by omega) (by omega)).2.1) (by omega) (by simp),Option.bind_some,List.nil_append,zEO (by omega),Option.bind_some,yN (by simp),Option.bind_some]
theorem zJ1 {n:List (List Int)} {s:List zE} {i:Int}:zBQ 200000 n s i=some (zAx n s i):=by
 unfold zBQ zAx
 rw [show tH 200000 n s=some (tC n s) from zA5,Option.bind_some]
 by_cases h:tC n s≠0
 ·rw [y0 h,cond_true,if_pos h]
 rw [y6 (by omega),cond_false,if_neg h]
 by_cases h2:i < -1∨i≥s.length
 ·rw [if_pos h2]
  have:(decide (i<(-1:Int))||decide (i≥(((s).length:Nat):Int)))=true:=by simpa using h2
  rw [this];rfl
 rw [if_neg h2]
 simp (disch:=omega) only [z7,Bool.or_false,cond_false]
 have hg:wM n s:=zFn.1 (by omega)
 rw [zGZ hg 32 _ _ _ (by omega) (by omega) ((hg.depth0 (by omega) (by omega)).2.1) (by omega) (by simp),Option.bind_some,List.append_nil]
theorem zK2 {n:List (List Int)} {s:List zE} {i:Int}:(zAx n s i).1.length≤32:=by
 unfold zAx
 split
 ·simp
 split
 ·simp
 ·simpa using zHB n s 32 i
theorem zAP {α:Type} {l m:List α} (h:l <+: m) {i:Nat} {x:α} (hx:l[i]?=some x):m[i]?=some x:=by
 obtain ⟨t,rfl⟩:=h
 rw [List.getElem?_append_left (List.getElem?_eq_some_iff.1 hx).1];exact hx
theorem zE9 {n:List (List Int)} {s:List zE} {x:List Int} (h:wM n s) (hx:wV x=0) :
  ((xH n x).2.2=6∧x∉n∧n.length=1000)∨((xH n x).2.2=0∧(∃ a:Nat,(xH n x).1=a∧(xH n x).2.1[a]?=some x)∧wM (xH n x).2.1 s∧n <+: (xH n x).2.1∧(x∈n→(xH n x).2.1=n)):=by
 unfold xH
 have hn1:=h.n1
 rw [if_neg (by omega)]
 rcases pI x n 0 with ⟨h1,h2⟩ | ⟨j,h1,h2⟩
 ·rw [if_neg (by omega)]
  by_cases h3:1000≤n.length
  ·rw [if_pos h3];exact .inl ⟨rfl,h2,by omega⟩
  ·rw [if_neg h3]
   exact .inr ⟨rfl,⟨n.length,rfl,by simp⟩,h.name hx h2 (by omega),List.prefix_append _ _,fun hm=>absurd hm h2⟩
 ·rw [if_pos (by omega)]
  exact .inr ⟨rfl,⟨j,by rw [h2];simp,h1⟩,h,List.prefix_refl _,fun _=>rfl⟩
def Has (n:List (List Int)) (s:List zE):Int→List (List Int)→Int→Prop
 | at_,[],i=>i=at_
 | at_,x::r,i=>∃ a b:Nat,n[a]?=some x∧s[b]?=some ⟨at_,(a:Int)⟩∧Has n s (b:Int) r i
theorem Has.mono {n n':List (List Int)} {s s':List zE} (hn:n <+: n') (hs:s <+: s'):∀ {l:List (List Int)} {at_ i:Int},Has n s at_ l i→Has n' s' at_ l i:=by
 intro l
 induction l with
 | nil=>intro at_ i h;exact h
 | cons x r ih =>
  rintro at_ i ⟨a,b,h1,h2,h3⟩
  exact ⟨a,b,zAP hn h1,zAP hs h2,ih h3⟩
theorem zMN {s:List zE} {p:zE}:dOf (dsF (s++[p])) (s.length:Int)=1+dOf (dsF s) p.c0:=by
 rw [zJU]
 unfold dOf
 rw [if_neg (by omega),Int.toNat_natCast,List.getElem?_append_right (by rw [zCe];exact Nat.le_refl _),zCe]
 simp
theorem zLY {n0:List (List Int)} {s0:List zE}:∀ (l:List (List Int)) (at_:Int) (n:List (List Int)) (s:List zE),wM n s→(∀ x∈l,wV x=0) → -1≤at_→at_<s.length→dOf (dsF s) at_+l.length≤32 →
  ((tZ n0 s0 l at_ n s).2.2.2≠0∧tZ n0 s0 l at_ n s=(0,n0,s0,(tZ n0 s0 l at_ n s).2.2.2)) ∨
  ((tZ n0 s0 l at_ n s).2.2.2=0∧wM (tZ n0 s0 l at_ n s).2.1 (tZ n0 s0 l at_ n s).2.2.1∧n <+: (tZ n0 s0 l at_ n s).2.1∧s <+: (tZ n0 s0 l at_ n s).2.2.1 ∧
   Has (tZ n0 s0 l at_ n s).2.1 (tZ n0 s0 l at_ n s).2.2.1 at_ l (tZ n0 s0 l at_ n s).1 ∧ -1≤(tZ n0 s0 l at_ n s).1∧(tZ n0 s0 l at_ n s).1<(tZ n0 s0 l at_ n s).2.2.1.length):=by
 intro l
 induction l with
 | nil=>intro at_ n s h hv h0 h1 h2;exact .inr ⟨rfl,h,List.prefix_refl _,List.prefix_refl _,rfl,h0,h1⟩
 | cons x r ih =>
  intro at_ n s h hv h0 h1 h2
  simp only [List.length_cons] at h2
  have hd0:=h.depth0 h0 h1
  simp only [tZ]
  rcases zE9 h (hv x (by simp)) with ⟨k1,_,_⟩ | ⟨k1,⟨a,k2,k3⟩,k4,k5,_⟩
  ·rw [k1,if_pos (by decide)];exact .inl ⟨(by decide:(6:Int)≠0),rfl⟩
  rw [k1,if_neg (by decide),k2]
  have hal:(a:Int)<(xH n x).2.1.length:=by have:=(List.getElem?_eq_some_iff.1 k3).1;omega
  rcases pI (⟨at_,(a:Int)⟩:zE) s 0 with ⟨g1,g2⟩ | ⟨j,g1,g2⟩
  ·rw [g1,if_neg (by decide)]
   by_cases hf:1000≤s.length
   ·rw [if_pos hf];exact .inl ⟨(by decide:(6:Int)≠0),rfl⟩
   rw [if_neg hf]
   have hg2:wM (xH n x).2.1 (s++[⟨at_,(a:Int)⟩]):=k4.push ⟨h0,h1,Int.natCast_nonneg _,hal,g2,by simp only;omega⟩ (by omega)
   have hl:=zMN (s:=s) (p:=⟨at_,(a:Int)⟩)
   rcases ih (s.length:Int) _ _ hg2 (fun y hy=>hv y (by simp [hy])) (by omega) (by simp;omega) (by rw [hl];simp only;omega) with h3 | ⟨h3,h4,h5,h6,h7,h8⟩
   ·exact .inl h3
   ·exact .inr ⟨h3,h4,k5.trans h5,(List.prefix_append _ _).trans h6,⟨a,s.length,zAP h5 k3,zAP h6 (by simp),h7⟩,h8⟩
  ·rw [g2,Nat.zero_add,if_pos (by omega)]
   have hp:=h.pair g1
   have hjl:=(List.getElem?_eq_some_iff.1 g1).1
   simp only at hp
   rcases ih (j:Int) _ _ k4 (fun y hy=>hv y (by simp [hy])) (by omega) (by omega) (by omega) with h3 | ⟨h3,h4,h5,h6,h7,h8⟩
   ·exact .inl h3
   ·exact .inr ⟨h3,h4,k5.trans h5,h6,⟨a,j,zAP h5 k3,zAP h6 g1,h7⟩,h8⟩
theorem zIR {α:Type} [DecidableEq α] {l:List α} {x:α} (hu:∀ i j:Nat,l[i]?=some x→l[j]?=some x→i=j) {a:Nat} (h:l[a]?=some x):wN x 0 l=(a:Int):=by
 rcases pI x l 0 with ⟨_,h2⟩ | ⟨j,h1,h2⟩
 ·exact absurd (List.mem_of_getElem? h) h2
 ·rw [h2,Nat.zero_add,hu _ _ h1 h]
theorem zL8 {α:Type} {l:List α} (h:l.Nodup) {x:α}:∀ i j:Nat,l[i]?=some x→l[j]?=some x→i=j:=by
 intro i j hi hj
 obtain ⟨h1,h2⟩:=List.getElem?_eq_some_iff.1 hi
 obtain ⟨h3,h4⟩:=List.getElem?_eq_some_iff.1 hj
 exact (List.getElem_inj h).1 (h2.trans h4.symm)
theorem zJA {n0:List (List Int)} {s0:List zE} {n:List (List Int)} {s:List zE} (h:wM n s):∀ (l:List (List Int)) (at_ i:Int),Has n s at_ l i→tZ n0 s0 l at_ n s=(i,n,s,0):=by
 intro l
 induction l with
 | nil=>intro at_ i hi;simp only [Has] at hi;simp only [tZ,hi]
 | cons x r ih =>
  rintro at_ i ⟨a,b,h1,h2,h3⟩
  have e:xH n x=((a:Int),n,0):=by
   have hv:=h.valid (List.mem_of_getElem? h1)
   unfold xH
   rw [if_neg (by omega),zIR (zL8 h.nodup) h1,if_pos (by omega)]
  simp only [tZ]
  rw [e]
  simp only
  rw [if_neg (by decide),zIR (fun i j hi hj=>h.snodup hi hj) h2,if_pos (by omega)]
  exact ih _ _ h3
theorem Has.fn {n:List (List Int)} {s:List zE} (h:wM n s):∀ {l:List (List Int)} {at_ i j:Int},Has n s at_ l i→Has n s at_ l j→i=j:=by
 intro l at_ i j h1 h2
 have e1:=zJA (n0:=[]) (s0:=[]) h l at_ i h1
 have e2:=zJA (n0:=[]) (s0:=[]) h l at_ j h2
 rw [e1] at e2
 exact (Prod.mk.inj e2).1
theorem Has.path {n:List (List Int)} {s:List zE}:∀ {l:List (List Int)} {at_ i:Int} {k:Nat},Has n s at_ l i→qX n s (k+l.length) i=l.reverse++qX n s k at_:=by
 intro l
 induction l with
 | nil=>intro at_ i k h;simp only [Has] at h;simp [h]
 | cons x r ih =>
  rintro at_ i k ⟨a,b,h1,h2,h3⟩
  have:=ih (k:=k+1) h3
  rw [show k+(x::r).length=k+1+r.length by simp only [List.length_cons];omega,this]
  simp only [qX]
  rw [if_neg (by omega),Int.toNat_natCast,h2]
  simp [h1]
theorem zGV (n:List (List Int)) (s:List zE) (k:Nat):qX n s k (-1)=[]:=by
 cases k<;>simp [qX]
theorem Has.list {n:List (List Int)} {s:List zE} {l:List (List Int)} {i:Int} (h:Has n s (-1) l i) (hl:l.length≤32):(qX n s 32 i).reverse=l:=by
 have:=Has.path (k:=32 - l.length) h
 rw [Nat.sub_add_cancel hl,zGV,List.append_nil] at this
 rw [this,List.reverse_reverse]
theorem Has.names {n:List (List Int)} {s:List zE}:∀ {l:List (List Int)} {at_ i:Int},Has n s at_ l i→∀ x∈l,x∈n:=by
 intro l
 induction l with
 | nil=>intro at_ i _ x hx;cases hx
 | cons y r ih =>
  rintro at_ i ⟨a,b,h1,h2,h3⟩ x hx
  rcases List.mem_cons.1 hx with rfl | hx
  ·exact List.mem_of_getElem? h1
  ·exact ih h3 x hx
theorem zEw {l:List (List Int)}:uQ l=0↔l.length≤32∧∀ x∈l,wV x=0:=by
 unfold uQ
 by_cases h:32<l.length
 ·rw [if_pos h];constructor
  ·intro h;cases h
  ·omega
 rw [if_neg h]
 by_cases h2:l.all (fun s=>decide (wV s=0))=true
 ·rw [if_pos h2];simp at h2;exact ⟨fun _=>⟨by omega,h2⟩,fun _=>rfl⟩
 ·rw [if_neg h2];simp only [List.all_eq_true,decide_eq_true_eq] at h2
  constructor
  ·intro h;cases h
  ·intro h3;exact absurd h3.2 h2
theorem zG7 {n:List (List Int)} {s:List zE} {l:List (List Int)} (h:wM n s) :
  ((xM n s l).2.2.2≠0∧xM n s l=(0,n,s,(xM n s l).2.2.2)) ∨
  ((xM n s l).2.2.2=0∧l.length≤32∧(∀ x∈l,wV x=0)∧wM (xM n s l).2.1 (xM n s l).2.2.1∧n <+: (xM n s l).2.1∧s <+: (xM n s l).2.2.1 ∧
   Has (xM n s l).2.1 (xM n s l).2.2.1 (-1) l (xM n s l).1 ∧ -1≤(xM n s l).1∧(xM n s l).1<(xM n s l).2.2.1.length):=by
 unfold xM
 by_cases hf:uQ l≠0
 ·rw [if_pos hf];exact .inl ⟨hf,rfl⟩
 rw [if_neg hf]
 obtain ⟨hl,hv⟩:=zEw.1 (show uQ l=0 by omega)
 rcases zLY (n0:=n) (s0:=s) l (-1) n s h hv (by omega) (by omega) (by simp [dOf];omega) with h1 | ⟨h1,h2⟩
 ·exact .inl h1
 ·exact .inr ⟨h1,hl,hv,h2⟩
end Go.Ab
