/- Plain laws of the functions uI this seat's, laid anew from another seat's text. No conditions but those that the theorems name. -/
import Derived.Test.YtdpgdpjoemdkjaaP10xD
import Derived.Test.YtdpgdpjoemdkjaaA35
namespace Go.Ab
open Go
set_option linter.unusedVariables false
def zCq:List Int:=[95,46,58,47,60,62,36,42,126,45]
def zAT (c:Int):Bool:=decide (97≤c∧c≤122)||decide (65≤c∧c≤90)||decide (48≤c∧c≤57)||zCq.contains c
def uB {α:Type} [DecidableEq α] (s:α):Nat→List α→Int
 | _,[] => -1
 | i,x::r=>if x=s then (i:Int) else uB s (i+1) r
theorem zAj {α:Type} [DecidableEq α] (s:α):∀ (l:List α) (i:Nat),(uB s i l = -1∧s∉l)∨∃ j,l[j]?=some s∧uB s i l=((i+j:Nat):Int):=by
 intro l
 induction l with
 | nil=>intro i;exact .inl ⟨rfl,by simp⟩
 | cons x r ih =>
  intro i
  unfold uB
  by_cases h:x=s
  ·exact .inr ⟨0,by simp [h],by simp [h]⟩
  ·rw [if_neg h]
   rcases ih (i+1) with ⟨h1,h2⟩ | ⟨j,h1,h2⟩
   ·exact .inl ⟨h1,by simp [h2,Ne.symm h]⟩
   ·exact .inr ⟨j+1,by simpa using h1,by rw [h2];omega⟩
def uU (s:List Int):Int:=if s=[]∨40<s.length then 3 else if s.all zAT then 0 else 3
theorem zBy {α R:Type} {l:List α} (L:Nat→Int→Option (Unit⊕R)) (f:Nat→α→Option R)
  (h0:∀ n i,l.length≤i→L (n+1) (i:Nat)=some (.inl ()))
  (h1:∀ n i x r,l.drop i=x::r→i<l.length→(∀ b,f i x=some b→L (n+1) (i:Nat)=some (.inr b))∧(f i x=none→L (n+1) (i:Nat)=L n ((i+1:Nat):Int)))
  {n:Nat} (hn:l.length<n):L n 0=some (pV f 0 l):=by
 have:=zJB (l:=l) (σ:=Unit) (fun n i _=>L n i) (fun i r _=>pV f i r) (fun _ _=>True) (fun n i _ hi _=>h0 n i hi) ?_ (n:=n) (s:=()) trivial hn
 ·exact this
 ·intro n i _ x r hd hlt _ ih
  obtain ⟨k1,k2⟩:=h1 n i x r hd hlt
  simp only [pV]
  cases hf:f i x with
  | none=>rw [k2 hf];exact ih () trivial
  | some b=>rw [k1 b hf]
theorem zJ8 (c:Int):∀ l:List Int, -1≤uH l c∧decide (uH l c≥0)=l.contains c:=by
 intro l
 induction l with
 | nil=>simp [uH]
 | cons b l ih =>
  unfold uH
  rw [List.contains_cons]
  by_cases h:b=c
  ·rw [if_pos h];subst h;simp
  ·rw [if_neg h]
   have hb:(c==b)=false:=by simpa using Ne.symm h
   rw [hb,Bool.false_or]
   by_cases h2:uH l c = -1
   ·rw [if_pos h2]
    have:=ih.2;rw [h2] at this
    exact ⟨by omega,this⟩
   ·rw [if_neg h2]
    refine ⟨by omega,?_⟩
    rw [← ih.2]
    have:=ih.1
    rw [y4 (by omega),y4 (by omega)]
theorem zHR {c:Int}:decide (uH zCq c≥0)=zCq.contains c:=(zJ8 c zCq).2
theorem zFL {c:Int}:nF c=some (zAT c):=by
 unfold nF wP jC
 have h:=zHR (c:=c)
 unfold zCq at h
 unfold zAT zCq
 simp only [Option.bind_some,h]
 by_cases c1:c≥97<;>by_cases c2:c≤122<;>by_cases c3:c≥65<;>by_cases c4:c≤90<;>by_cases c5:c≥48<;>by_cases c6:c≤57<;>simp [c1,c2,c3,c4,c5,c6]<;>omega
theorem zEj {α R:Type} (p:α→Bool) (v:R):∀ (l:List α) (i:Nat),pV (fun _ x=>if p x=false then some v else none) i l=if l.all p=true then .inl () else .inr v:=by
 intro l
 induction l with
 | nil=>intro i;rfl
 | cons x r ih =>
  intro i
  simp only [pV]
  by_cases hp:p x=false
  ·have ea:¬(x::r).all p=true:=by simp [hp]
   rw [if_pos hp,if_neg ea]
  ·have ea:(x::r).all p=r.all p:=by simp at hp;simp [hp]
   rw [if_neg hp,ih (i+1),ea]
theorem zMb {l:List Int} (L:Nat→Int→Option (Unit⊕Int)) (hl:l.length≤40)
  (e:∀ n i,L (n+1) (i:Nat)=bif decide (((i:Nat):Int)<((l.length:Nat):Int)) then (xQ l (i:Nat)).bind fun c=>(bif !(zAT c) then some (.inr (3:Int)) else L n (zG ((i:Nat)+(1:Int)))) else some (.inl ())) :
  L 200000 0=some (if l.all zAT=true then .inl () else .inr 3):=by
 have:=zBy (l:=l) L (fun _ x=>if zAT x=false then some 3 else none) ?_ ?_ (n:=200000) (by omega)
 ·rw [this,zEj]
 ·intro n i hi
  rw [e,yR (by omega),cond_false]
 ·intro n i x r hd hlt
  rw [e,y4 (by omega),cond_true,vH hd,Option.bind_some,qM (by omega)]
  cases zAT x<;>simp
theorem pN {l:List Int}:qU 200000 l=some (uU l):=by
 unfold qU uU
 by_cases h:l=[]∨40<l.length
 ·have:((l==([]:List Int))||decide ((((l).length:Nat):Int)>(40:Int)))=true:=by
   rcases h with h | h
   ·rw [h];rfl
   ·rw [y4 (p:=((l.length:Nat):Int)>40) (by omega),Bool.or_true]
  rw [this,cond_true,if_pos h]
 ·have:((l==([]:List Int))||decide ((((l).length:Nat):Int)>(40:Int)))=false:=by
   have hb:(l==([]:List Int))=false:=by
    cases l with
    | nil=>exact absurd (.inl rfl) h
    | cons a r=>rfl
   rw [hb,yR (by omega)];rfl
  rw [this,cond_false,if_neg h,zMb (l:=l) (pM 200000 l) (by omega) (fun n i=>by
   show qJ 200000 l _ _=_
   unfold qJ
   simp only [zFL,Option.bind_some]),Option.bind_some]
  by_cases ha:l.all zAT=true
  ·rw [if_pos ha,if_pos ha]
  ·rw [if_neg ha,if_neg ha]
def jW (l:List (List Int)):Int:=if 32<l.length then 7 else if l.all (fun s=>decide (uU s=0)) then 0 else 3
theorem zFa (s:List Int):uU s=0∨uU s=3:=by
 unfold uU;split
 ·exact .inr rfl
 ·split
  ·exact .inl rfl
  ·exact .inr rfl
theorem zJ6 {l:List (List Int)} (L:Nat→Int→Option (Unit⊕Int)) (hl:l.length≤100000)
  (e:∀ n i,L (n+1) (i:Nat)=bif decide (((i:Nat):Int)<((l.length:Nat):Int)) then (xQ l (i:Nat)).bind fun c=>(bif (uU c != (0:Int)) then some (.inr (3:Int)) else L n (zG ((i:Nat)+(1:Int)))) else some (.inl ())) :
  L 200000 0=some (if l.all (fun s=>decide (uU s=0))=true then .inl () else .inr 3):=by
 have:=zBy (l:=l) L (fun _ x=>if decide (uU x=0)=false then some 3 else none) ?_ ?_ (n:=200000) (by omega)
 ·rw [this,zEj (fun s=>decide (uU s=0))]
 ·intro n i hi
  rw [e,yR (by omega),cond_false]
 ·intro n i x r hd hlt
  rw [e,y4 (p:=((i:Nat):Int)<((l.length:Nat):Int)) (by omega),cond_true,vH hd,Option.bind_some,qM (by omega)]
  rcases zFa x with h | h<;>simp [h]
theorem zCO {l:List (List Int)}:kG 200000 l=some (jW l):=by
 unfold kG jW
 by_cases h:32<l.length
 ·rw [y4 (by omega),cond_true,if_pos h]
 ·rw [yR (by omega),cond_false,if_neg h,zJ6 (l:=l) (j4 200000 l) (by omega) (fun n i=>by
   show tI 200000 l _ _=_
   unfold tI
   simp only [pN,Option.bind_some]
   congr 1;congr 1;funext c
   rcases zFa c with h | h<;>rw [h]<;>rfl),Option.bind_some]
  by_cases ha:l.all (fun s=>decide (uU s=0))=true
  ·rw [if_pos ha,if_pos ha]
  ·rw [if_neg ha,if_neg ha]
theorem zHy {α:Type} [DecidableEq α] {l:List α} {s:α} (L:Nat→Int→Option (Unit⊕Int)) (hl:l.length≤100000)
  (e:∀ n i x r,l.drop i=x::r→i<l.length→L (n+1) (i:Nat)=if x=s then some (.inr (i:Int)) else L n ((i+1:Nat):Int))
  (e0:∀ n i,l.length≤i→L (n+1) (i:Nat)=some (.inl ())):L 200000 0=some (if uB s 0 l = -1 then .inl () else .inr (uB s 0 l)):=by
 have:=zJB (l:=l) (σ:=Unit) (fun n i _=>L n i) (fun i r _=>if uB s i r = -1 then .inl () else .inr (uB s i r)) (fun _ _=>True) (fun n i _ hi _=>by simpa [uB] using e0 n i hi) ?_ (n:=200000) (s:=()) trivial (by omega)
 ·exact this
 ·intro n i _ x r hd hlt _ ih
  show L (n+1) (i:Nat)=_
  rw [e n i x r hd hlt]
  by_cases h:x=s
  ·have:uB s i (x::r)=(i:Int):=by simp [uB,h]
   rw [if_pos h,this,if_neg (by omega)]
  ·have:uB s i (x::r)=uB s (i+1) r:=by simp [uB,h]
   rw [if_neg h,this];exact ih () trivial
theorem zBj {l:List (List Int)} {s:List Int} (hl:l.length≤100000):v5 200000 l s=some (uB s 0 l):=by
 unfold v5
 rw [zHy (l:=l) (s:=s) (vF 200000 l s) hl (fun n i x r hd hlt=>by
  show xN 200000 l s _ _=_
  unfold xN
  rw [y4 (p:=((i:Nat):Int)<((l.length:Nat):Int)) (by omega),cond_true,vH hd,Option.bind_some,qM (by omega)]
  by_cases h:x=s
  ·rw [if_pos h,zLJ h.symm];rfl
  ·rw [if_neg h,zOk (fun hc=>h hc.symm)];rfl) (fun n i hi=>by
  show xN 200000 l s _ _=_
  unfold xN
  rw [yR (p:=((i:Nat):Int)<((l.length:Nat):Int)) (by omega),cond_false]),Option.bind_some]
 by_cases h:uB s 0 l = -1
 ·rw [if_pos h,h]
 ·rw [if_neg h]
theorem zBV {l:List (zJ)} {s:zJ} (hl:l.length≤100000):uG 200000 l s=some (uB s 0 l):=by
 unfold uG
 rw [zHy (l:=l) (s:=s) (vQ 200000 l s) hl (fun n i x r hd hlt=>by
  show xV 200000 l s _ _=_
  unfold xV
  rw [y4 (p:=((i:Nat):Int)<((l.length:Nat):Int)) (by omega),cond_true,vH hd,Option.bind_some,qM (by omega)]
  by_cases h:x=s
  ·rw [if_pos h,y4 h.symm];rfl
  ·rw [if_neg h,yR (fun hc=>h hc.symm)];rfl) (fun n i hi=>by
  show xV 200000 l s _ _=_
  unfold xV
  rw [yR (p:=((i:Nat):Int)<((l.length:Nat):Int)) (by omega),cond_false]),Option.bind_some]
 by_cases h:uB s 0 l = -1
 ·rw [if_pos h,h]
 ·rw [if_neg h]
theorem zHa {l:List (List Int)} (hl:l.length≤100000):nD 200000 l l=some true:=by
 unfold nD
 rw [xS rfl,cond_false]
 have:=zBy (l:=l) (jZ 200000 l l) (fun _ _=>none) (fun n i hi=>by
  show vM 200000 l l _ _=_
  unfold vM
  rw [yR (by omega),cond_false]) (fun n i x r hd hlt=>⟨fun b hb=>(by cases hb),fun _=>by
  show vM 200000 l l _ _=_
  unfold vM
  rw [y4 (by omega),cond_true,vH hd,Option.bind_some,Option.bind_some,qM (by omega),zLJ rfl];rfl⟩) (n:=200000) (by omega)
 rw [this,zCv (fun _ _ _=>rfl)];rfl
theorem zGb {l:List zJ} (hl:l.length≤100000):pD 200000 l l=some true:=by
 unfold pD
 rw [xS rfl,cond_false]
 have:=zBy (l:=l) (jL 200000 l l) (fun _ _=>none) (fun n i hi=>by
  show vC 200000 l l _ _=_
  unfold vC
  rw [yR (by omega),cond_false]) (fun n i x r hd hlt=>⟨fun b hb=>(by cases hb),fun _=>by
  show vC 200000 l l _ _=_
  unfold vC
  rw [y4 (p:=((i:Nat):Int)<((l.length:Nat):Int)) (by omega),cond_true,vH hd,Option.bind_some,Option.bind_some,qM (by omega),y4 rfl];rfl⟩) (n:=200000) (by omega)
 rw [this,zCv (fun _ _ _=>rfl)];rfl
def wQ (names:List (List Int)) (s:List Int):Int×List (List Int)×Int :=
 if uU s≠0 then (0,names,uU s) else if uB s 0 names ≠ -1 then (uB s 0 names,names,0) else if 1000≤names.length then (0,names,6) else ((names.length:Int),names++[s],0)
theorem zBQ {α:Type} [DecidableEq α] (s:α) (l:List α) : -1≤uB s 0 l:=by
 rcases zAj s l 0 with ⟨h,_⟩ | ⟨j,_,h⟩<;>omega
theorem zD7 {names:List (List Int)} {s:List Int} (hl:names.length≤100000):zAp 200000 names s=some (wQ names s):=by
 unfold zAp wQ
 have hr:=zBQ s names
 rw [pN,Option.bind_some]
 by_cases h:uU s≠0
 ·rw [w4 h,if_pos h];rfl
 rw [xS (by omega),if_neg h,cond_false,zBj hl,Option.bind_some]
 by_cases h1:uB s 0 names ≠ -1
 ·rw [y4 (by omega),if_pos h1,cond_true]
 rw [yR (by omega),if_neg h1,cond_false]
 by_cases h2:1000≤names.length
 ·rw [y4 (by omega),if_pos h2,cond_true]
 rw [yR (by omega),if_neg h2,cond_false]
 unfold tB
 rw [xO (by simp only [List.length_nil];omega),Option.bind_some,Option.bind_some,List.nil_append,xO (by simp only [List.length_singleton];omega),Option.bind_some]
theorem zGz (names:List (List Int)) (s:List Int):(wQ names s).2.1.length≤names.length+1:=by
 unfold wQ;split
 ·simp
 ·split
  ·simp
  ·split<;>simp
def q9 (names0:List (List Int)) (stacks0:List zJ):List (List Int)→Int→List (List Int)→List zJ→Int×List (List Int)×List zJ×Int
 | [],at_,n,s=>(at_,n,s,0)
 | x::r,at_,n,s =>
  if (wQ n x).2.2≠0 then (0,names0,stacks0,(wQ n x).2.2) else
  if uB (⟨at_,(wQ n x).1⟩:zJ) 0 s ≠ -1 then q9 names0 stacks0 r (uB (⟨at_,(wQ n x).1⟩:zJ) 0 s) (wQ n x).2.1 s else
  if 1000≤s.length then (0,names0,stacks0,6) else q9 names0 stacks0 r (s.length:Int) (wQ n x).2.1 (s++[⟨at_,(wQ n x).1⟩])
def wM (names:List (List Int)) (stacks:List zJ) (l:List (List Int)):Int×List (List Int)×List zJ×Int :=
 if jW l≠0 then (0,names,stacks,jW l) else q9 names stacks l (-1) names stacks
def zOl (o:(Int×List (List Int)×List zJ)⊕(Int×List (List Int)×List zJ×Int)):Int×List (List Int)×List zJ×Int:=match o with | .inl q=>(q.1,q.2.1,q.2.2,0) | .inr q=>q
theorem zDN {names0:List (List Int)} {stacks0:List zJ} {l:List (List Int)} (hl:l.length≤40):∀ (m i:Nat) (at_:Int) (n:List (List Int)) (s:List zJ),(l.drop i).length<m→n.length+(l.drop i).length≤100000→s.length+(l.drop i).length≤100000 →
  ∃ o,tE 200000 names0 stacks0 l m at_ n (i:Int) s=some o∧zOl o=q9 names0 stacks0 (l.drop i) at_ n s:=by
 intro m
 induction m with
 | zero=>intro i at_ n s h;omega
 | succ m ih =>
  intro i at_ n s hm hn hs
  show ∃ o,uO 200000 names0 stacks0 l _ at_ n (i:Int) s=some o∧_
  unfold uO
  rcases hd:l.drop i with _ | ⟨x,r⟩
  ·have:=drop_nil hd
   rw [yR (by omega),cond_false]
   exact ⟨_,rfl,rfl⟩
  ·have hlt:=pF hd
   rw [hd] at hm hn hs
   simp only [List.length_cons] at hm hn hs
   have hstep:=uF hd
   rw [y4 (by omega),cond_true,vH hd,Option.bind_some,zD7 (by omega),Option.bind_some]
   have hpl:=zGz n x
   simp only [q9]
   generalize wQ n x=q at *
   by_cases h:q.2.2≠0
   ·rw [w4 h,cond_true,if_pos h];exact ⟨_,rfl,rfl⟩
   rw [xS (by omega),cond_false,if_neg h,zBV (by omega),Option.bind_some]
   have hr:=zBQ (⟨at_,q.1⟩:zJ) s
   by_cases h1:uB (⟨at_,q.1⟩:zJ) 0 s ≠ -1
   ·rw [y4 (by omega),cond_true,if_pos h1,qM (by omega),← hstep]
    exact ih (i+1) _ _ _ (by rw [hstep];omega) (by rw [hstep];omega) (by rw [hstep];omega)
   rw [yR (by omega),cond_false,if_neg h1]
   by_cases h2:1000≤s.length
   ·rw [y4 (by omega),cond_true,if_pos h2];exact ⟨_,rfl,rfl⟩
   rw [yR (by omega),cond_false,if_neg h2,xO (by simp only [List.length_singleton];omega),Option.bind_some,qM (by omega),← hstep]
   exact ih (i+1) _ _ _ (by rw [hstep];omega) (by rw [hstep];omega) (by rw [hstep];simp only [List.length_append,List.length_singleton];omega)
theorem zEk {names:List (List Int)} {stacks:List zJ} {l:List (List Int)} (hn:names.length≤50000) (hs:stacks.length≤50000):jD 200000 names stacks l=some (wM names stacks l):=by
 unfold jD wM
 rw [zCO,Option.bind_some]
 by_cases h:jW l≠0
 ·rw [w4 h,cond_true,if_pos h]
 have hl:l.length≤32:=by
  unfold jW at h
  by_cases hc:32<l.length
  ·rw [if_pos hc] at h;omega
  ·omega
 rw [xS (by omega),cond_false,if_neg h]
 unfold tT
 rw [xO (by simp only [List.length_nil];omega),Option.bind_some,Option.bind_some,List.nil_append]
 obtain ⟨o,h1,h2⟩:=zDN (names0:=names) (stacks0:=stacks) (l:=l) (by omega) 200000 0 (-1) names stacks (by simp;omega) (by simp;omega) (by simp;omega)
 rw [show tE 200000 names stacks l 200000 (-1) names 0 stacks=some o from h1,Option.bind_some]
 rw [List.drop_zero] at h2
 rw [← h2]
 cases o<;>rfl
def toO (v:Int):Unit⊕Int:=if v=0 then .inl () else .inr v
theorem zN5 {v:Int} (h:v≠0):toO v=.inr v:=if_neg h
def kK (seen:List (List Int)):List (List Int)→Int
 | []=>0
 | x::r=>if uU x≠0 then 3 else if x∈seen then 4 else kK (seen++[x]) r
theorem zGk {l:List (List Int)} (hl:l.length≤1000):uK 200000 l 200000 0 []=some (toO (kK [] l)):=by
 have:=zJB (l:=l) (fun n i s=>uK 200000 l n i s) (fun i r _=>toO (kK (l.take i) r)) (fun i s=>zI2 s (l.take i)) ?_ ?_ (n:=200000) (s:=[]) zIH (by omega)
 ·simpa using this
 ·intro n i s hi _
  show wU _ _ _ _ _=_
  unfold wU
  simp (disch:=omega) only [yR,cond_false];rfl
 ·intro n i s x r hd hlt hS ih
  show wU _ _ _ _ _=_
  unfold wU
  have hs:=hS.1
  rw [zJn hd] at hs
  simp only [kK]
  simp (disch:=omega) only [y4,cond_true,vH hd,Option.bind_some,pN,hS.2,xO,qM]
  rw [ih _ (by rw [zB4 hd];exact zIU hS x)]
  rcases zFa x with h | h
  ·by_cases h2:x∈l.take i<;>simp [h,h2,zB4 hd,toO]
  ·simp [h,toO]
theorem zDy {l:List (List Int)} (hl:l.length≤1000):jO 200000 l=some (kK [] l):=by
 unfold jO
 rw [zGk hl,Option.bind_some]
 unfold toO
 by_cases h:kK [] l=0
 ·rw [if_pos h,h]
 ·rw [if_neg h]
def dOf (ds:List Int) (i:Int):Int:=if i = -1 then 0 else (ds[i.toNat]?).getD 0
def DI (st:List zJ) (ds:List Int):Prop:=∀ (j:Nat) (d:Int),ds[j]?=some d→∃ p,st[j]?=some p ∧ -1≤p.c0∧p.c0<j∧d=1+dOf ds p.c0∧1≤d∧d≤32
theorem zKa {ds:List Int} {d c:Int} (h:c<ds.length) (h0 : -1≤c):dOf (ds++[d]) c=dOf ds c:=by
 unfold dOf
 split
 ·rfl
 ·rw [List.getElem?_append_left (by omega)]
theorem DI.range {st:List zJ} {ds:List Int} (h:DI st ds) (c:Int):0≤dOf ds c∧dOf ds c≤32:=by
 unfold dOf
 split
 ·omega
 ·cases hd:ds[c.toNat]? with
  | none=>simp
  | some d=>obtain ⟨p,_,_,_,_,h1,h2⟩:=h _ _ hd;simp;omega
theorem DI.push {st:List zJ} {ds:List Int} {p:zJ} (h:DI st ds) (hp:st[ds.length]?=some p) (h0 : -1≤p.c0) (h1:p.c0<ds.length) (h2:1+dOf ds p.c0≤32):DI st (ds++[1+dOf ds p.c0]):=by
 intro j d hj
 rcases Nat.lt_or_ge j ds.length with hlt | hge
 ·rw [List.getElem?_append_left hlt] at hj
  obtain ⟨q,h3,h4,h5,h6,h7⟩:=h j d hj
  exact ⟨q,h3,h4,h5,by rw [zKa (by omega) h4];exact h6,h7⟩
 ·have hj':j=ds.length:=by
   have:=(List.getElem?_eq_some_iff.1 hj).1
   simp at this;omega
  subst hj'
  simp at hj
  subst hj
  have:=h.range p.c0
  exact ⟨p,hp,h0,by omega,by rw [zKa h1 h0],by omega,h2⟩
theorem DI.nil {st:List zJ}:DI st []:=fun j d h=>by simp at h
def jM (nn:Nat) (ds:List Int) (seen:List zJ):List zJ→Int
 | []=>0
 | p::r=>if p.c0 < -1∨p.c0≥seen.length∨p.c1<0∨p.c1≥nn then 2 else if p∈seen then 4 else if 1+dOf ds p.c0>32 then 7 else jM nn (ds++[1+dOf ds p.c0]) (seen++[p]) r
theorem zHF {α:Type} {l:List α} {i:Nat} (v:α) (h:i<l.length):(l.set i v).take (i+1)=l.take i++[v]:=by
 rw [List.take_add_one,List.take_set_of_le (Nat.le_refl _),List.getElem?_set_self h];rfl
theorem zET {names:List (List Int)} {l:List zJ} (hl:l.length≤1000):∀ (n i:Nat) (s:List (zJ×Bool)) (t:List Int),zI2 s (l.take i)→t.length=l.length→DI l (t.take i)→i≤l.length→(l.drop i).length<n→jH 200000 names l n (i:Nat) s t=some (toO (jM names.length (t.take i) (l.take i) (l.drop i))):=by
 intro n
 induction n with
 | zero=>intro i s t _ _ _ _ h;omega
 | succ n ih =>
  intro i s t hS htl hD hil hn
  show tO _ _ _ _ _ _ _=_
  unfold tO
  rcases hd:l.drop i with _ | ⟨p,r⟩
  ·have:=drop_nil hd
   simp (disch:=omega) only [yR,cond_false];rfl
  have hlt:=pF hd
  have ht:=zJn hd
  have hs:=hS.1
  rw [ht] at hs
  rw [hd] at hn
  simp only [List.length_cons] at hn
  simp only [jM,ht]
  obtain ⟨y,hy⟩:∃ y,t[i]?=some y:=⟨t[i]'(by omega),List.getElem?_eq_getElem _⟩
  simp (disch:=omega) only [y4,cond_true,vH hd,Option.bind_some,hS.2,xO,pZ,hy]
  by_cases c1:p.c0 < -1∨p.c0≥i∨p.c1<0∨p.c1≥names.length
  ·rw [if_pos c1,zN5 (by decide)]
   have:(decide (p.c0<(-1:Int))||(decide (p.c0≥(i:Int))||(decide (p.c1<(0:Int))||decide (p.c1≥((names.length:Nat):Int)))))=true:=by simpa using c1
   rw [this];rfl
  ·rw [if_neg c1]
   simp (disch:=omega) only [yR,Bool.or_false,cond_false]
   by_cases c2:p∈l.take i
   ·rw [if_pos c2,y4 c2];rfl
   ·rw [if_neg c2,yR c2,cond_false]
    have hr:=hD.range p.c0
    have htt:(t.take i).length=i:=by rw [List.length_take];omega
    have hstep:((bif (p.c0 != (-1:Int)) then ((t.set ((i:Int)).toNat (1:Int))[i]?).bind fun x_3=>(xQ (t.set ((i:Int)).toNat (1:Int)) p.c0).bind fun x_4=>((t.set ((i:Int)).toNat (1:Int))[i]?).bind fun x_5 =>
      some ((t.set ((i:Int)).toNat (1:Int)).set ((i:Int)).toNat (zG (x_3+x_4))) else some (t.set ((i:Int)).toNat (1:Int))):Option (List Int))=some (t.set i (1+dOf (t.take i) p.c0)):=by
     rw [Int.toNat_natCast]
     by_cases hc:p.c0 = -1
     ·rw [xS hc,cond_false];simp [dOf,hc]
     ·rw [w4 hc,cond_true,List.getElem?_set_self (by omega),Option.bind_some]
      have e:xQ (t.set i 1) p.c0=some (dOf (t.take i) p.c0):=by
       obtain ⟨m,hm⟩:=Int.eq_ofNat_of_zero_le (show 0≤p.c0 by omega)
       rw [hm,pZ,List.getElem?_set_ne (by omega)]
       have:(t.take i)[m]?=t[m]?:=by rw [List.getElem?_take_of_lt (by omega)]
       have hml:m<t.length:=by omega
       simp only [dOf]
       rw [if_neg (by omega),Int.toNat_natCast,this,List.getElem?_eq_getElem hml];rfl
      rw [e,Option.bind_some,Option.bind_some,w64 (by omega) (by omega),List.set_set]
    rw [hstep,Option.bind_some,List.getElem?_set_self (by omega),Option.bind_some]
    by_cases c3:1+dOf (t.take i) p.c0>32
    ·rw [if_pos c3,y4 c3];rfl
    ·rw [if_neg c3,yR c3,cond_false,qM (by omega)]
     have hts:=zHF (i:=i) (1+dOf (t.take i) p.c0) (show i<t.length by omega)
     rw [ih (i+1) _ _ (by rw [zB4 hd];exact zIU hS p) (by simp [htl]) (by rw [hts];exact hD.push (by rw [htt];exact zMZ hd) (by omega) (by omega) (by omega)) (by omega) (by rw [uF hd];omega),zB4 hd,uF hd,hts]
def jN (names:List (List Int)) (l:List zJ):Int:=if 1000<names.length∨1000<l.length then 7 else if kK [] names≠0 then kK [] names else jM names.length [] [] l
theorem nV {names:List (List Int)} {l:List zJ}:q7 200000 names l=some (jN names l):=by
 unfold q7 jN
 by_cases h:1000<names.length∨1000<l.length
 ·rw [if_pos h]
  have:(decide ((((names).length:Nat):Int)>(1000:Int))||decide ((((l).length:Nat):Int)>(1000:Int)))=true:=by simp;omega
  rw [this];rfl
 rw [if_neg h]
 simp (disch:=omega) only [yR,Bool.or_false,cond_false]
 rw [zDy (by omega),Option.bind_some]
 by_cases h1:kK [] names≠0
 ·rw [w4 h1,if_pos h1];rfl
 have h1':kK [] names=0:=by omega
 have:=zET (names:=names) (l:=l) (by omega) 200000 0 [] (List.replicate l.length 0) zIH (by simp) DI.nil (by omega) (by simp;omega)
 rw [h1',xS rfl,cond_false,if_neg (by omega),xO (by omega),Option.bind_some]
 rw [show jH 200000 names l 200000 0 [] (List.replicate l.length 0)=_ from this]
 simp only [List.take_zero,List.drop_zero,Option.bind_some]
 generalize jM names.length [] [] l=v
 unfold toO
 by_cases hv:v=0
 ·rw [if_pos hv,hv]
 ·rw [if_neg hv]
def dsF (l:List zJ):List Int:=l.foldl (fun ds p=>ds++[1+dOf ds p.c0]) []
theorem zL6:∀ (l:List zJ) (ds:List Int),(l.foldl (fun ds p=>ds++[1+dOf ds p.c0]) ds).length=ds.length+l.length:=by
 intro l
 induction l with
 | nil=>intro ds;rfl
 | cons p r ih=>intro ds;rw [List.foldl_cons,ih];simp;omega
theorem zCp (l:List zJ):(dsF l).length=l.length:=by simp [dsF,zL6]
theorem zIp (l:List zJ) (p:zJ):dsF (l++[p])=dsF l++[1+dOf (dsF l) p.c0]:=by simp [dsF]
theorem zBL:∀ (l seen:List (List Int)),kK seen l=0↔(∀ x∈l,uU x=0∧x∉seen)∧l.Nodup:=by
 intro l
 induction l with
 | nil=>intro seen;simp [kK]
 | cons x r ih =>
  intro seen
  simp only [kK]
  by_cases h:uU x≠0
  ·rw [if_pos h];simp [h]
  rw [if_neg h]
  by_cases h2:x∈seen
  ·rw [if_pos h2];simp [h2]
  rw [if_neg h2,ih]
  simp only [List.mem_cons,List.nodup_cons,forall_eq_or_imp,List.mem_append,List.not_mem_nil,or_false,not_or]
  constructor
  ·rintro ⟨h3,h4⟩
   exact ⟨⟨⟨by omega,h2⟩,fun y hy=>⟨(h3 y hy).1,(h3 y hy).2.1⟩⟩,fun hx=>(h3 x hx).2.2 rfl,h4⟩
  ·rintro ⟨⟨_,h3⟩,h4,h5⟩
   exact ⟨fun y hy=>⟨(h3 y hy).1,(h3 y hy).2,fun e=>h4 (e ▸ hy)⟩,h5⟩
structure zJd (nn k:Nat) (ds:List Int) (seen:List zJ) (p:zJ):Prop where
 lo : -1≤p.c0
 hi:p.c0<k
 lo1:0≤p.c1
 hi1:p.c1<nn
 new:p∉seen
 deep:1+dOf ds p.c0≤32
theorem zC6 {nn:Nat}:∀ (r:List zJ) (ds:List Int) (seen:List zJ) (p:zJ),jM nn ds seen (r++[p])=0↔jM nn ds seen r=0∧zJd nn (seen++r).length (r.foldl (fun ds p=>ds++[1+dOf ds p.c0]) ds) (seen++r) p:=by
 intro r
 induction r with
 | nil =>
  intro ds seen p
  simp only [List.nil_append,jM,List.append_nil,List.foldl_nil,true_and]
  constructor
  ·intro h
   split at h
   ·cases h
   split at h
   ·cases h
   split at h
   ·cases h
   exact ⟨by omega,by omega,by omega,by omega,by assumption,by omega⟩
  ·rintro ⟨h1,h2,h3,h4,h5,h6⟩
   rw [if_neg (by omega),if_neg h5,if_neg (by omega)]
 | cons q r ih =>
  intro ds seen p
  simp only [List.cons_append,jM,List.foldl_cons]
  split
  ·simp
  split
  ·simp
  split
  ·simp
  rw [ih];simp
theorem zJR {nn mm:Nat} (h:nn≤mm):∀ (r:List zJ) (ds:List Int) (seen:List zJ),jM nn ds seen r=0→jM mm ds seen r=0:=by
 intro r
 induction r with
 | nil=>intro ds seen _;rfl
 | cons q r ih =>
  intro ds seen hz
  simp only [jM] at hz ⊢
  split at hz
  ·cases hz
  rename_i h1
  rw [if_neg (by omega)]
  split at hz
  ·cases hz
  rename_i h2
  rw [if_neg h2]
  split at hz
  ·cases hz
  rename_i h3
  rw [if_neg h3]
  exact ih _ _ hz
structure vB (n:List (List Int)) (s:List zJ):Prop where
 n1:n.length≤1000
 s1:s.length≤1000
 names:kK [] n=0
 st:jM n.length [] [] s=0
theorem zAP {n:List (List Int)} {s:List zJ}:jN n s=0↔vB n s:=by
 unfold jN
 constructor
 ·intro h
  split at h
  ·cases h
  split at h
  ·omega
  exact ⟨by omega,by omega,by omega,h⟩
 ·rintro ⟨h1,h2,h3,h4⟩
  rw [if_neg (by omega),if_neg (by omega),h4]
theorem vB.nodup {n:List (List Int)} {s:List zJ} (h:vB n s):n.Nodup:=((zBL _ _).1 h.names).2
theorem vB.valid {n:List (List Int)} {s:List zJ} (h:vB n s) {x:List Int} (hx:x∈n):uU x=0:=(((zBL _ _).1 h.names).1 x hx).1
theorem vB.name {n:List (List Int)} {s:List zJ} (h:vB n s) {x:List Int} (hx:uU x=0) (hn:x∉n) (hl:n.length<1000):vB (n++[x]) s:=by
 refine ⟨by simp;omega,h.s1,?_,zJR (by simp) _ _ _ h.st⟩
 rw [zBL]
 have h2:=(zBL _ _).1 h.names
 refine ⟨fun y hy=>⟨?_,by simp⟩,?_⟩
 ·rcases List.mem_append.1 hy with hy | hy
  ·exact h.valid hy
  ·simp at hy;rw [hy];exact hx
 ·rw [List.nodup_append]
  exact ⟨h.nodup,by simp,fun a ha b hb=>by simp at hb;rw [hb];exact fun e=>hn (e ▸ ha)⟩
theorem vB.push {n:List (List Int)} {s:List zJ} {p:zJ} (h:vB n s) (hp:zJd n.length s.length (dsF s) s p) (hl:s.length<1000):vB n (s++[p]) :=
 ⟨h.n1,by simp;omega,h.names,by rw [zC6];exact ⟨h.st,by rw [List.nil_append];exact hp⟩⟩
theorem zH9 {nn:Nat} (s:List zJ) (h:jM nn [] [] s=0):∀ (i:Nat),i<s.length→∃ p,s[i]?=some p∧zJd nn i (dsF (s.take i)) (s.take i) p:=by
 intro i hi
 have e:s=s.take i++(s[i]::s.drop (i+1)):=by simp
 have:∀ (m:Nat) (r:List zJ),r.length=m→jM nn [] [] (s.take i++s[i]::r)=0→jM nn [] [] (s.take i++[s[i]])=0:=by
  intro m
  induction m with
  | zero=>intro r hr h;rw [List.length_eq_zero_iff.1 hr] at h;exact h
  | succ m ih =>
   intro r hr h
   rcases List.eq_nil_or_concat r with h0 | ⟨r',y,h0⟩
   ·rw [h0] at hr;simp at hr
   ·rw [h0] at h hr
    simp at hr
    rw [show s.take i++s[i]::r'.concat y=(s.take i++s[i]::r')++[y] by simp] at h
    exact ih r' hr ((zC6 _ _ _ _).1 h).1
 have h2:=(zC6 _ _ _ _).1 (this _ _ rfl (by rw [← e];exact h))
 refine ⟨s[i],List.getElem?_eq_getElem hi,?_⟩
 have h3:=h2.2
 simp only [List.nil_append,List.length_take,Nat.min_eq_left (Nat.le_of_lt hi)] at h3
 exact h3
theorem zFx (s:List zJ) (i:Nat):dsF (s.take i)=(dsF s).take i:=by
 induction i with
 | zero=>rfl
 | succ i ih =>
  rcases hd:s.drop i with _ | ⟨x,r⟩
  ·have:=drop_nil hd
   rw [List.take_of_length_le (by omega),List.take_of_length_le (by rw [zCp];omega)]
  ·have e:s=s.take i++([x]++r):=by rw [List.singleton_append,← hd,List.take_append_drop]
   have hlt:=pF hd
   have e2:∃ t,dsF s=dsF (s.take i++[x])++t:=by
    have hg:∀ (r:List zJ) (ds:List Int),∃ t,r.foldl (fun ds p=>ds++[1+dOf ds p.c0]) ds=ds++t:=by
     intro r
     induction r with
     | nil=>intro ds;exact ⟨[],by simp⟩
     | cons y r ih2=>intro ds;obtain ⟨t,ht⟩:=ih2 (ds++[1+dOf ds y.c0]);exact ⟨_,by rw [List.foldl_cons,ht,List.append_assoc]⟩
    have:dsF s=r.foldl (fun ds p=>ds++[1+dOf ds p.c0]) (dsF (s.take i++[x])):=by
     have h3:dsF (s.take i++[x]++r)=r.foldl (fun ds p=>ds++[1+dOf ds p.c0]) (dsF (s.take i++[x])):=by unfold dsF;rw [List.foldl_append]
     rwa [List.append_assoc,← e] at h3
    rw [this];exact hg _ _
   obtain ⟨t,ht⟩:=e2
   rw [zB4 hd,ht,List.take_append_of_le_length (by simp [zCp];omega)]
   exact (List.take_of_length_le (by simp [zCp];omega)).symm
theorem zJk {ds:List Int} {i:Nat} {c:Int} (h:c<i) (h0 : -1≤c):dOf (ds.take i) c=dOf ds c:=by
 unfold dOf
 split
 ·rfl
 ·rw [List.getElem?_take_of_lt (by omega)]
theorem vB.pair {n:List (List Int)} {s:List zJ} (h:vB n s) {i:Nat} {p:zJ} (hp:s[i]?=some p) :
  -1≤p.c0∧p.c0<i∧0≤p.c1∧p.c1<n.length∧dOf (dsF s) (i:Int)=1+dOf (dsF s) p.c0∧dOf (dsF s) (i:Int)≤32∧p∉s.take i:=by
 have hi:i<s.length:=(List.getElem?_eq_some_iff.1 hp).1
 obtain ⟨q,hq,h1,h2,h3,h4,h5,h6⟩:=zH9 s h.st i hi
 rw [hp] at hq;injection hq with hq;subst hq
 rw [zFx,zJk h2 h1] at h6
 have e:dOf (dsF s) (i:Int)=1+dOf (dsF s) p.c0:=by
  have e1:dsF (s.take (i+1))=dsF (s.take i)++[1+dOf (dsF (s.take i)) p.c0]:=by
   rw [List.take_add_one,hp];exact zIp _ _
  have e2:(dsF s)[i]?=some (1+dOf (dsF s) p.c0):=by
   have:((dsF s).take (i+1))[i]?=(dsF s)[i]?:=List.getElem?_take_of_lt (by omega)
   rw [← this,← zFx,e1,zFx,zJk h2 h1]
   have hl:((dsF s).take i).length=i:=by rw [List.length_take,zCp];omega
   rw [List.getElem?_append_right (by omega),hl];simp
  unfold dOf
  rw [if_neg (by omega),Int.toNat_natCast,e2];rfl
 exact ⟨h1,h2,h3,h4,e,by omega,h5⟩
theorem vB.snodup {n:List (List Int)} {s:List zJ} (h:vB n s) {i j:Nat} {p:zJ} (hi:s[i]?=some p) (hj:s[j]?=some p):i=j:=by
 rcases Nat.lt_trichotomy i j with hlt | he | hlt
 ·exact absurd (List.mem_of_getElem? (show (s.take j)[i]?=some p by rw [List.getElem?_take_of_lt hlt];exact hi)) (h.pair hj).2.2.2.2.2.2
 ·exact he
 ·exact absurd (List.mem_of_getElem? (show (s.take i)[j]?=some p by rw [List.getElem?_take_of_lt hlt];exact hj)) (h.pair hi).2.2.2.2.2.2
theorem vB.depth0 {n:List (List Int)} {s:List zJ} (h:vB n s) {c:Int} (h0 : -1≤c) (h1:c<s.length):0≤dOf (dsF s) c∧dOf (dsF s) c≤32∧(dOf (dsF s) c=0↔c = -1):=by
 have key:∀ (m:Nat) (c:Int),c+1<m → -1≤c→c<s.length→0≤dOf (dsF s) c∧dOf (dsF s) c≤32∧(dOf (dsF s) c=0↔c = -1):=by
  intro m
  induction m with
  | zero=>intro c h1 h2;omega
  | succ m ih =>
   intro c h1 h2 h3
   by_cases hc:c = -1
   ·subst hc;simp [dOf]
   ·obtain ⟨i,rfl⟩:=Int.eq_ofNat_of_zero_le (show 0≤c by omega)
    have hi:i<s.length:=by omega
    obtain ⟨k1,k2,k3,k4,k5,k6,k7⟩:=h.pair (List.getElem?_eq_getElem hi)
    have:=ih (s[i]).c0 (by omega) k1 (by omega)
    omega
 exact key (c.toNat+3) c (by omega) h0 h1
def kZ (n:List (List Int)) (s:List zJ):Nat→Int→List (List Int)
 | 0,_=>[]
 | k+1,i=>if i<0 then [] else match s[i.toNat]? with
  | none=>[]
  | some p=>(n[p.c1.toNat]?).getD []::kZ n s k p.c0
theorem zEh (n:List (List Int)) (s:List zJ):∀ (k:Nat) (i:Int),(kZ n s k i).length≤k:=by
 intro k
 induction k with
 | zero=>intro i;exact Nat.le_refl _
 | succ k ih =>
  intro i
  simp only [kZ]
  split
  ·simp
  split
  ·simp
  ·rename_i p _
   have:=ih p.c0
   simp only [List.length_cons];omega
theorem zES {n:List (List Int)} {s:List zJ} (h:vB n s):∀ (k f:Nat) (i:Int) (row:List (List Int)), -1≤i→i<s.length→dOf (dsF s) i≤k→k<f→row.length+k≤1000 →
  kN 200000 n s f i row=some (row++kZ n s k i):=by
 intro k
 induction k with
 | zero =>
  intro f i row h0 h1 h2 h3 h4
  have hi:i = -1:=(h.depth0 h0 h1).2.2.1 (by have:=(h.depth0 h0 h1).1;omega)
  subst hi
  obtain ⟨f,rfl⟩:∃ g,f=g+1:=⟨f - 1,by omega⟩
  show vU _ _ _ _ _ _=_
  unfold vU
  rw [xS rfl,cond_false];simp [kZ]
 | succ k ih =>
  intro f i row h0 h1 h2 h3 h4
  obtain ⟨f,rfl⟩:∃ g,f=g+1:=⟨f - 1,by omega⟩
  show vU _ _ _ _ _ _=_
  unfold vU
  by_cases hi:i = -1
  ·subst hi
   rw [xS rfl,cond_false];simp [kZ]
  ·obtain ⟨m,rfl⟩:=Int.eq_ofNat_of_zero_le (show 0≤i by omega)
   have hm:s[m]?=some (s[m]'(by omega)):=List.getElem?_eq_getElem _
   obtain ⟨k1,k2,k3,k4,k5,k6,k7⟩:=h.pair hm
   simp only [kZ]
   rw [w4 hi,cond_true,pZ,Int.toNat_natCast,if_neg (by omega)]
   generalize hp:s[m]'(by omega)=p at *
   obtain ⟨a,ha⟩:=Int.eq_ofNat_of_zero_le k3
   have hlt:a<n.length:=by omega
   rw [hm,Option.bind_some,ha,pZ]
   simp only [ha,Int.toNat_natCast,List.getElem?_eq_getElem hlt,Option.bind_some,Option.getD_some]
   rw [xO (by simp;omega),Option.bind_some,ih _ _ _ k1 (by omega) (by omega) (by omega) (by simp;omega)]
   simp
theorem zNh {l:List (List Int)} (hl:l.length≤100000):∀ (f i:Nat) (row:List (List Int)),row.length=l.length→2 * i≤l.length+1→l.length<f+i →
  (∀ k,row[k]?=if k<i∨l.length≤k+i then l.reverse[k]? else l[k]?)→wC 200000 f (i:Int) ((l.length:Int) - 1 - i) row=some l.reverse:=by
 intro f
 induction f with
 | zero=>intro i row hr h2 hf;omega
 | succ f ih =>
  intro i row hr h2 hf hk
  show wG _ _ _ _ _=_
  unfold wG
  by_cases hi:(i:Int)<(l.length:Int) - 1 - i
  ·obtain ⟨j,hj⟩:=Int.eq_ofNat_of_zero_le (show 0≤(l.length:Int) - 1 - i by omega)
   have hjl:j<row.length:=by omega
   have hil:i<row.length:=by omega
   have hne:i≠j:=by omega
   rw [y4 hi,cond_true,hj,pZ,pZ,List.getElem?_eq_getElem hjl,Option.bind_some,List.getElem?_eq_getElem hil,Option.bind_some,Option.bind_some,
    Int.toNat_natCast,Int.toNat_natCast,pZ,List.getElem?_set_ne hne,List.getElem?_eq_getElem hjl,Option.bind_some,w64 (by omega) (by omega),w64 (by omega) (by omega)]
   have:=ih (i+1) ((row.set i row[j]).set j row[i]) (by simp [hr]) (by omega) (by omega) ?_
   ·rw [show ((i:Int)+1)=((i+1:Nat):Int) by omega,show (j:Int) - 1=(l.length:Int) - 1 - ((i+1:Nat):Int) by omega];exact this
   ·intro k
    have ej:some row[j]=l.reverse[i]?:=by
     rw [← List.getElem?_eq_getElem hjl,hk j,if_neg (by omega),List.getElem?_reverse (by omega)];congr 1;omega
    have ei:some row[i]=l.reverse[j]?:=by
     rw [← List.getElem?_eq_getElem hil,hk i,if_neg (by omega),List.getElem?_reverse (by omega)];congr 1;omega
    by_cases h1:k=j
    ·subst h1;rw [List.getElem?_set_self (by simpa using hjl),if_pos (by omega),ei]
    rw [List.getElem?_set_ne (fun e=>h1 e.symm)]
    by_cases h3:k=i
    ·subst h3;rw [List.getElem?_set_self hil,if_pos (by omega),ej]
    rw [List.getElem?_set_ne (fun e=>h3 e.symm),hk k]
    by_cases h4:k<i∨l.length≤k+i
    ·rw [if_pos h4,if_pos (by omega)]
    ·rw [if_neg h4,if_neg (by omega)]
  ·rw [yR hi,cond_false]
   congr 1
   apply List.ext_getElem?
   intro k
   rw [hk k]
   by_cases h1:k<i∨l.length≤k+i
   ·rw [if_pos h1]
   ·rw [if_neg h1,List.getElem?_reverse (by omega)];congr 1;omega
theorem zER {l:List (List Int)} (hl:l.length≤100000):vO 200000 l=some l.reverse:=by
 unfold vO
 have:=zNh hl 200000 0 l rfl (by omega) (by omega) (by
  intro k
  by_cases h:l.length≤k
  ·rw [if_pos (by omega),List.getElem?_eq_none h,List.getElem?_eq_none (by simpa using h)]
  ·rw [if_neg (by omega)])
 rw [w64 (by omega) (by omega),show (l.length:Int) - 1=(l.length:Int) - 1 - (0:Nat) by omega,show wC 200000 200000 0 ((l.length:Int) - 1 - (0:Nat)) l=_ from this,Option.bind_some]
def zA8 (n:List (List Int)) (s:List zJ) (i:Int):List (List Int)×Int :=
 if jN n s≠0 then ([],1) else if i < -1∨i≥s.length then ([],2) else ((kZ n s 32 i).reverse,0)
theorem zGs {n:List (List Int)} {s:List zJ} {i:Int}:pJ 200000 n s i=some (zA8 n s i):=by
 unfold pJ zA8
 rw [nV,Option.bind_some]
 by_cases h:jN n s≠0
 ·rw [w4 h,cond_true,if_pos h]
 rw [xS (by omega),cond_false,if_neg h]
 by_cases h2:i < -1∨i≥s.length
 ·rw [if_pos h2]
  have:(decide (i<(-1:Int))||decide (i≥(((s).length:Nat):Int)))=true:=by simpa using h2
  rw [this];rfl
 rw [if_neg h2]
 simp (disch:=omega) only [yR,Bool.or_false,cond_false]
 have hg:vB n s:=zAP.1 (by omega)
 have hlen:=zEh n s 32 i
 rw [zES hg 32 _ _ _ (by omega) (by omega) ((hg.depth0 (by omega) (by omega)).2.1) (by omega) (by simp),Option.bind_some,List.nil_append,zER (by omega),Option.bind_some,xO (by simp),Option.bind_some]
theorem zK1 {n:List (List Int)} {s:List zJ} {i:Int}:(zA8 n s i).1.length≤32:=by
 unfold zA8
 split
 ·simp
 split
 ·simp
 ·simpa using zEh n s 32 i
theorem zAS {α:Type} {l m:List α} (h:l <+: m) {i:Nat} {x:α} (hx:l[i]?=some x):m[i]?=some x:=by
 obtain ⟨t,rfl⟩:=h
 rw [List.getElem?_append_left (List.getElem?_eq_some_iff.1 hx).1];exact hx
theorem zEW {n:List (List Int)} {s:List zJ} {x:List Int} (h:vB n s) (hx:uU x=0) :
  ((wQ n x).2.2=6∧x∉n∧n.length=1000)∨((wQ n x).2.2=0∧(∃ a:Nat,(wQ n x).1=a∧(wQ n x).2.1[a]?=some x)∧vB (wQ n x).2.1 s∧n <+: (wQ n x).2.1∧(x∈n→(wQ n x).2.1=n)):=by
 unfold wQ
 have hn1:=h.n1
 rw [if_neg (by omega)]
 rcases zAj x n 0 with ⟨h1,h2⟩ | ⟨j,h1,h2⟩
 ·rw [if_neg (by omega)]
  by_cases h3:1000≤n.length
  ·rw [if_pos h3];exact .inl ⟨rfl,h2,by omega⟩
  ·rw [if_neg h3]
   exact .inr ⟨rfl,⟨n.length,rfl,by simp⟩,h.name hx h2 (by omega),List.prefix_append _ _,fun hm=>absurd hm h2⟩
 ·rw [if_pos (by omega)]
  exact .inr ⟨rfl,⟨j,by rw [h2];simp,h1⟩,h,List.prefix_refl _,fun _=>rfl⟩
def Has (n:List (List Int)) (s:List zJ):Int→List (List Int)→Int→Prop
 | at_,[],i=>i=at_
 | at_,x::r,i=>∃ a b:Nat,n[a]?=some x∧s[b]?=some ⟨at_,(a:Int)⟩∧Has n s (b:Int) r i
theorem Has.mono {n n':List (List Int)} {s s':List zJ} (hn:n <+: n') (hs:s <+: s'):∀ {l:List (List Int)} {at_ i:Int},Has n s at_ l i→Has n' s' at_ l i:=by
 intro l
 induction l with
 | nil=>intro at_ i h;exact h
 | cons x r ih =>
  rintro at_ i ⟨a,b,h1,h2,h3⟩
  exact ⟨a,b,zAS hn h1,zAS hs h2,ih h3⟩
theorem zMT {s:List zJ} {p:zJ}:dOf (dsF (s++[p])) (s.length:Int)=1+dOf (dsF s) p.c0:=by
 rw [zIp]
 unfold dOf
 rw [if_neg (by omega),Int.toNat_natCast,List.getElem?_append_right (by rw [zCp];exact Nat.le_refl _),zCp]
 simp
theorem zLK {n0:List (List Int)} {s0:List zJ}:∀ (l:List (List Int)) (at_:Int) (n:List (List Int)) (s:List zJ),vB n s→(∀ x∈l,uU x=0) → -1≤at_→at_<s.length→dOf (dsF s) at_+l.length≤32 →
  ((q9 n0 s0 l at_ n s).2.2.2≠0∧q9 n0 s0 l at_ n s=(0,n0,s0,(q9 n0 s0 l at_ n s).2.2.2)) ∨
  ((q9 n0 s0 l at_ n s).2.2.2=0∧vB (q9 n0 s0 l at_ n s).2.1 (q9 n0 s0 l at_ n s).2.2.1∧n <+: (q9 n0 s0 l at_ n s).2.1∧s <+: (q9 n0 s0 l at_ n s).2.2.1 ∧
   Has (q9 n0 s0 l at_ n s).2.1 (q9 n0 s0 l at_ n s).2.2.1 at_ l (q9 n0 s0 l at_ n s).1 ∧ -1≤(q9 n0 s0 l at_ n s).1∧(q9 n0 s0 l at_ n s).1<(q9 n0 s0 l at_ n s).2.2.1.length):=by
 intro l
 induction l with
 | nil=>intro at_ n s h hv h0 h1 h2;exact .inr ⟨rfl,h,List.prefix_refl _,List.prefix_refl _,rfl,h0,h1⟩
 | cons x r ih =>
  intro at_ n s h hv h0 h1 h2
  simp only [List.length_cons] at h2
  have hd0:=h.depth0 h0 h1
  simp only [q9]
  rcases zEW h (hv x (by simp)) with ⟨k1,_,_⟩ | ⟨k1,⟨a,k2,k3⟩,k4,k5,_⟩
  ·rw [k1,if_pos (by decide)];exact .inl ⟨(by decide:(6:Int)≠0),rfl⟩
  rw [k1,if_neg (by decide),k2]
  have hal:(a:Int)<(wQ n x).2.1.length:=by have:=(List.getElem?_eq_some_iff.1 k3).1;omega
  rcases zAj (⟨at_,(a:Int)⟩:zJ) s 0 with ⟨g1,g2⟩ | ⟨j,g1,g2⟩
  ·rw [g1,if_neg (by decide)]
   by_cases hf:1000≤s.length
   ·rw [if_pos hf];exact .inl ⟨(by decide:(6:Int)≠0),rfl⟩
   rw [if_neg hf]
   have hg2:vB (wQ n x).2.1 (s++[⟨at_,(a:Int)⟩]):=k4.push ⟨h0,h1,Int.natCast_nonneg _,hal,g2,by simp only;omega⟩ (by omega)
   have hl:=zMT (s:=s) (p:=⟨at_,(a:Int)⟩)
   rcases ih (s.length:Int) _ _ hg2 (fun y hy=>hv y (by simp [hy])) (by omega) (by simp;omega) (by rw [hl];simp only;omega) with h3 | ⟨h3,h4,h5,h6,h7,h8⟩
   ·exact .inl h3
   ·exact .inr ⟨h3,h4,k5.trans h5,(List.prefix_append _ _).trans h6,⟨a,s.length,zAS h5 k3,zAS h6 (by simp),h7⟩,h8⟩
  ·rw [g2,Nat.zero_add,if_pos (by omega)]
   have hp:=h.pair g1
   have hjl:=(List.getElem?_eq_some_iff.1 g1).1
   simp only at hp
   rcases ih (j:Int) _ _ k4 (fun y hy=>hv y (by simp [hy])) (by omega) (by omega) (by omega) with h3 | ⟨h3,h4,h5,h6,h7,h8⟩
   ·exact .inl h3
   ·exact .inr ⟨h3,h4,k5.trans h5,h6,⟨a,j,zAS h5 k3,zAS h6 g1,h7⟩,h8⟩
theorem zFr {α:Type} [DecidableEq α] {l:List α} {x:α} (hu:∀ i j:Nat,l[i]?=some x→l[j]?=some x→i=j) {a:Nat} (h:l[a]?=some x):uB x 0 l=(a:Int):=by
 rcases zAj x l 0 with ⟨_,h2⟩ | ⟨j,h1,h2⟩
 ·exact absurd (List.mem_of_getElem? h) h2
 ·rw [h2,Nat.zero_add,hu _ _ h1 h]
theorem zHn {α:Type} {l:List α} (h:l.Nodup) {x:α}:∀ i j:Nat,l[i]?=some x→l[j]?=some x→i=j:=by
 intro i j hi hj
 obtain ⟨h1,h2⟩:=List.getElem?_eq_some_iff.1 hi
 obtain ⟨h3,h4⟩:=List.getElem?_eq_some_iff.1 hj
 exact (List.getElem_inj h).1 (h2.trans h4.symm)
theorem zFh {n0:List (List Int)} {s0:List zJ} {n:List (List Int)} {s:List zJ} (h:vB n s):∀ (l:List (List Int)) (at_ i:Int),Has n s at_ l i→q9 n0 s0 l at_ n s=(i,n,s,0):=by
 intro l
 induction l with
 | nil=>intro at_ i hi;simp only [Has] at hi;simp only [q9,hi]
 | cons x r ih =>
  rintro at_ i ⟨a,b,h1,h2,h3⟩
  have e:wQ n x=((a:Int),n,0):=by
   have hv:=h.valid (List.mem_of_getElem? h1)
   unfold wQ
   rw [if_neg (by omega),zFr (zHn h.nodup) h1,if_pos (by omega)]
  simp only [q9]
  rw [e]
  simp only
  rw [if_neg (by decide),zFr (fun i j hi hj=>h.snodup hi hj) h2,if_pos (by omega)]
  exact ih _ _ h3
theorem Has.fn {n:List (List Int)} {s:List zJ} (h:vB n s):∀ {l:List (List Int)} {at_ i j:Int},Has n s at_ l i→Has n s at_ l j→i=j:=by
 intro l at_ i j h1 h2
 have e1:=zFh (n0:=[]) (s0:=[]) h l at_ i h1
 have e2:=zFh (n0:=[]) (s0:=[]) h l at_ j h2
 rw [e1] at e2
 exact (Prod.mk.inj e2).1
theorem Has.path {n:List (List Int)} {s:List zJ}:∀ {l:List (List Int)} {at_ i:Int} {k:Nat},Has n s at_ l i→kZ n s (k+l.length) i=l.reverse++kZ n s k at_:=by
 intro l
 induction l with
 | nil=>intro at_ i k h;simp only [Has] at h;simp [h]
 | cons x r ih =>
  rintro at_ i k ⟨a,b,h1,h2,h3⟩
  have:=ih (k:=k+1) h3
  rw [show k+(x::r).length=k+1+r.length by simp only [List.length_cons];omega,this]
  simp only [kZ]
  rw [if_neg (by omega),Int.toNat_natCast,h2]
  simp [h1]
theorem zF4 (n:List (List Int)) (s:List zJ) (k:Nat):kZ n s k (-1)=[]:=by
 cases k<;>simp [kZ]
theorem Has.list {n:List (List Int)} {s:List zJ} {l:List (List Int)} {i:Int} (h:Has n s (-1) l i) (hl:l.length≤32):(kZ n s 32 i).reverse=l:=by
 have:=Has.path (k:=32 - l.length) h
 rw [Nat.sub_add_cancel hl,zF4,List.append_nil] at this
 rw [this,List.reverse_reverse]
theorem Has.names {n:List (List Int)} {s:List zJ}:∀ {l:List (List Int)} {at_ i:Int},Has n s at_ l i→∀ x∈l,x∈n:=by
 intro l
 induction l with
 | nil=>intro at_ i _ x hx;cases hx
 | cons y r ih =>
  rintro at_ i ⟨a,b,h1,h2,h3⟩ x hx
  rcases List.mem_cons.1 hx with rfl | hx
  ·exact List.mem_of_getElem? h1
  ·exact ih h3 x hx
theorem zCH {l:List (List Int)}:jW l=0↔l.length≤32∧∀ x∈l,uU x=0:=by
 unfold jW
 by_cases h:32<l.length
 ·rw [if_pos h];constructor
  ·intro h;cases h
  ·omega
 rw [if_neg h]
 by_cases h2:l.all (fun s=>decide (uU s=0))=true
 ·rw [if_pos h2];simp at h2;exact ⟨fun _=>⟨by omega,h2⟩,fun _=>rfl⟩
 ·rw [if_neg h2];simp only [List.all_eq_true,decide_eq_true_eq] at h2
  constructor
  ·intro h;cases h
  ·intro h3;exact absurd h3.2 h2
theorem zG9 {n:List (List Int)} {s:List zJ} {l:List (List Int)} (h:vB n s) :
  ((wM n s l).2.2.2≠0∧wM n s l=(0,n,s,(wM n s l).2.2.2)) ∨
  ((wM n s l).2.2.2=0∧l.length≤32∧(∀ x∈l,uU x=0)∧vB (wM n s l).2.1 (wM n s l).2.2.1∧n <+: (wM n s l).2.1∧s <+: (wM n s l).2.2.1 ∧
   Has (wM n s l).2.1 (wM n s l).2.2.1 (-1) l (wM n s l).1 ∧ -1≤(wM n s l).1∧(wM n s l).1<(wM n s l).2.2.1.length):=by
 unfold wM
 by_cases hf:jW l≠0
 ·rw [if_pos hf];exact .inl ⟨hf,rfl⟩
 rw [if_neg hf]
 obtain ⟨hl,hv⟩:=zCH.1 (show jW l=0 by omega)
 rcases zLK (n0:=n) (s0:=s) l (-1) n s h hv (by omega) (by omega) (by simp [dOf];omega) with h1 | ⟨h1,h2⟩
 ·exact .inl h1
 ·exact .inr ⟨h1,hl,hv,h2⟩
end Go.Ab
