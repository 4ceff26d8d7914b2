/- Plain laws of the functions wU this seat's, laid anew from another seat's text. No conditions but those that the theorems name. -/
import Derived.Test.YtoeengmnmhhpgaaP15xD
import Derived.Test.YtoeengmnmhhpgaaA32
import Derived.Test.YtoeengmnmhhpgaaC15y
namespace Go.Ab
open Go
set_option linter.unusedVariables false
def lE:List Int:=[95,46,58,47,60,62,36,42,126,45]
def bD (c:Int):Bool:=decide (97≤c∧c≤122)||decide (65≤c∧c≤90)||decide (48≤c∧c≤57)||lE.contains c
def u5 {α:Type} [DecidableEq α] (s:α):Nat→List α→Int
 | _,[] => -1
 | i,x::r=>if x=s then (i:Int) else u5 s (i+1) r
theorem DR {α:Type} [DecidableEq α] (s:α):∀ (l:List α) (i:Nat),(u5 s i l = -1∧s∉l)∨∃ j,l[j]?=some s∧u5 s i l=((i+j:Nat):Int):=by
 intro l
 induction l with
 | nil=>intro i;exact .inl ⟨rfl,by simp⟩
 | cons x r ih =>
  intro i
  unfold u5
  by_cases h:x=s
  ·exact .inr ⟨0,by simp [h],by simp [h]⟩
  ·rw [if_neg h]
   rcases ih (i+1) with ⟨h1,h2⟩ | ⟨j,h1,h2⟩
   ·exact .inl ⟨h1,by simp [h2,Ne.symm h]⟩
   ·exact .inr ⟨j+1,by simpa using h1,by rw [h2];omega⟩
def uL (s:List Int):Int:=if s=[]∨40<s.length then 3 else if s.all bD then 0 else 3
theorem M3 {α R:Type} {l:List α} (L:Nat→Int→Option (Unit⊕R)) (f:Nat→α→Option R)
  (h0:∀ n i,l.length≤i→L (n+1) (i:Nat)=some (.inl ()))
  (h1:∀ n i x r,l.drop i=x::r→i<l.length→(∀ b,f i x=some b→L (n+1) (i:Nat)=some (.inr b))∧(f i x=none→L (n+1) (i:Nat)=L n ((i+1:Nat):Int)))
  {n:Nat} (hn:l.length<n):L n 0=some (uB f 0 l):=by
 have:=KC (l:=l) (σ:=Unit) (fun n i _=>L n i) (fun i r _=>uB f i r) (fun _ _=>True) (fun n i _ hi _=>h0 n i hi) ?_ (n:=n) (s:=()) trivial hn
 ·exact this
 ·intro n i _ x r hd hlt _ ih
  obtain ⟨k1,k2⟩:=h1 n i x r hd hlt
  simp only [uB]
  cases hf:f i x with
  | none=>rw [k2 hf];exact ih () trivial
  | some b=>rw [k1 b hf]
theorem Y3 (c:Int):∀ l:List Int, -1≤jL l c∧decide (jL l c≥0)=l.contains c:=by
 intro l
 induction l with
 | nil=>simp [jL]
 | cons b l ih =>
  unfold jL
  rw [List.contains_cons]
  by_cases h:b=c
  ·rw [if_pos h];subst h;simp
  ·rw [if_neg h]
   have hb:(c==b)=false:=by simpa using Ne.symm h
   rw [hb,Bool.false_or]
   by_cases h2:jL l c = -1
   ·rw [if_pos h2]
    have:=ih.2;rw [h2] at this
    exact ⟨by omega,this⟩
   ·rw [if_neg h2]
    refine ⟨by omega,?_⟩
    rw [← ih.2]
    have:=ih.1
    rw [yU (by omega),yU (by omega)]
theorem zAW {c:Int}:decide (jL lE c≥0)=lE.contains c:=(Y3 c lE).2
theorem X8 {c:Int}:CO c=some (bD c):=by
 unfold CO a8 GT
 have h:=zAW (c:=c)
 unfold lE at h
 unfold bD lE
 simp only [zbs,h]
 by_cases c1:c≥97<;>by_cases c2:c≤122<;>by_cases c3:c≥65<;>by_cases c4:c≤90<;>by_cases c5:c≥48<;>by_cases c6:c≤57<;>simp [c1,c2,c3,c4,c5,c6]<;>omega
theorem SU {α R:Type} (p:α→Bool) (v:R):∀ (l:List α) (i:Nat),uB (fun _ x=>if p x=false then some v else none) i l=if l.all p=true then .inl () else .inr v:=by
 intro l
 induction l with
 | nil=>intro i;rfl
 | cons x r ih =>
  intro i
  simp only [uB]
  by_cases hp:p x=false
  ·have ea:¬(x::r).all p=true:=by simp [hp]
   rw [if_pos hp,if_neg ea]
  ·have ea:(x::r).all p=r.all p:=by simp at hp;simp [hp]
   rw [if_neg hp,ih (i+1),ea]
theorem zDz {l:List Int} (L:Nat→Int→Option (Unit⊕Int)) (hl:l.length≤40)
  (e:∀ n i,L (n+1) (i:Nat)=bif decide (((i:Nat):Int)<((l.length:Nat):Int)) then (xI l (i:Nat)).bind fun c=>(bif !(bD c) then some (.inr (3:Int)) else L n (zI ((i:Nat)+(1:Int)))) else some (.inl ())) :
  L 281474976710656 0=some (if l.all bD=true then .inl () else .inr 3):=by
 have:=M3 (l:=l) L (fun _ x=>if bD x=false then some 3 else none) ?_ ?_ (n:=281474976710656) (by omega)
 ·rw [this,SU]
 ·intro n i hi
  rw [e,yO (by omega),cond_false]
 ·intro n i x r hd hlt
  rw [e,yU (by omega),cond_true,vS hd,zbs,vK (by omega)]
  cases bD x<;>simp
theorem BX {l:List Int}:dB 281474976710656 l=some (uL l):=by
 unfold dB uL
 by_cases h:l=[]∨40<l.length
 ·have:((l==([]:List Int))||decide ((((l).length:Nat):Int)>(40:Int)))=true:=by
   rcases h with h | h
   ·rw [h];rfl
   ·rw [yU (p:=((l.length:Nat):Int)>40) (by omega),Bool.or_true]
  rw [this,cond_true,if_pos h]
 ·have:((l==([]:List Int))||decide ((((l).length:Nat):Int)>(40:Int)))=false:=by
   have hb:(l==([]:List Int))=false:=by
    cases l with
    | nil=>exact absurd (.inl rfl) h
    | cons a r=>rfl
   rw [hb,yO (by omega)];rfl
  rw [this,cond_false,if_neg h,zDz (l:=l) (D6 281474976710656 l) (by omega) (fun n i=>by
   show DT 281474976710656 l _ _=_
   unfold DT
   simp only [X8,zbs]),zbs]
  by_cases ha:l.all bD=true
  ·rw [if_pos ha,if_pos ha]
  ·rw [if_neg ha,if_neg ha]
def kQ (l:List (List Int)):Int:=if 32<l.length then 7 else if l.all (fun s=>decide (uL s=0)) then 0 else 3
theorem JA (s:List Int):uL s=0∨uL s=3:=by
 unfold uL;split
 ·exact .inr rfl
 ·split
  ·exact .inl rfl
  ·exact .inr rfl
theorem ZI {l:List (List Int)} (L:Nat→Int→Option (Unit⊕Int)) (hl:l.length≤100000)
  (e:∀ n i,L (n+1) (i:Nat)=bif decide (((i:Nat):Int)<((l.length:Nat):Int)) then (xI l (i:Nat)).bind fun c=>(bif (uL c != (0:Int)) then some (.inr (3:Int)) else L n (zI ((i:Nat)+(1:Int)))) else some (.inl ())) :
  L 281474976710656 0=some (if l.all (fun s=>decide (uL s=0))=true then .inl () else .inr 3):=by
 have:=M3 (l:=l) L (fun _ x=>if decide (uL x=0)=false then some 3 else none) ?_ ?_ (n:=281474976710656) (by omega)
 ·rw [this,SU (fun s=>decide (uL s=0))]
 ·intro n i hi
  rw [e,yO (by omega),cond_false]
 ·intro n i x r hd hlt
  rw [e,yU (p:=((i:Nat):Int)<((l.length:Nat):Int)) (by omega),cond_true,vS hd,zbs,vK (by omega)]
  rcases JA x with h | h<;>simp [h]
theorem SA {l:List (List Int)}:oL 281474976710656 l=some (kQ l):=by
 unfold oL kQ
 by_cases h:32<l.length
 ·rw [yU (by omega),cond_true,if_pos h]
 ·rw [yO (by omega),cond_false,if_neg h,ZI (l:=l) (CX 281474976710656 l) (by omega) (fun n i=>by
   show CR 281474976710656 l _ _=_
   unfold CR
   simp only [BX,zbs]
   congr 1;congr 1;funext c
   rcases JA c with h | h<;>rw [h]<;>rfl),zbs]
  by_cases ha:l.all (fun s=>decide (uL s=0))=true
  ·rw [if_pos ha,if_pos ha]
  ·rw [if_neg ha,if_neg ha]
theorem OV {α:Type} [DecidableEq α] {l:List α} {s:α} (L:Nat→Int→Option (Unit⊕Int)) (hl:l.length≤100000)
  (e:∀ n i x r,l.drop i=x::r→i<l.length→L (n+1) (i:Nat)=if x=s then some (.inr (i:Int)) else L n ((i+1:Nat):Int))
  (e0:∀ n i,l.length≤i→L (n+1) (i:Nat)=some (.inl ())):L 281474976710656 0=some (if u5 s 0 l = -1 then .inl () else .inr (u5 s 0 l)):=by
 have:=KC (l:=l) (σ:=Unit) (fun n i _=>L n i) (fun i r _=>if u5 s i r = -1 then .inl () else .inr (u5 s i r)) (fun _ _=>True) (fun n i _ hi _=>by simpa [u5] using e0 n i hi) ?_ (n:=281474976710656) (s:=()) trivial (by omega)
 ·exact this
 ·intro n i _ x r hd hlt _ ih
  show L (n+1) (i:Nat)=_
  rw [e n i x r hd hlt]
  by_cases h:x=s
  ·have:u5 s i (x::r)=(i:Int):=by simp [u5,h]
   rw [if_pos h,this,if_neg (by omega)]
  ·have:u5 s i (x::r)=u5 s (i+1) r:=by simp [u5,h]
   rw [if_neg h,this];exact ih () trivial
theorem zEE {l:List (List Int)} {s:List Int} (hl:l.length≤100000):CH 281474976710656 l s=some (u5 s 0 l):=by
 unfold CH
 rw [OV (l:=l) (s:=s) (A4 281474976710656 l s) hl (fun n i x r hd hlt=>by
  show lY 281474976710656 l s _ _=_
  unfold lY
  rw [yU (p:=((i:Nat):Int)<((l.length:Nat):Int)) (by omega),cond_true,vS hd,zbs,vK (by omega)]
  by_cases h:x=s
  ·rw [if_pos h,oZ h.symm];rfl
  ·rw [if_neg h,EL (fun hc=>h hc.symm)];rfl) (fun n i hi=>by
  show lY 281474976710656 l s _ _=_
  unfold lY
  rw [yO (p:=((i:Nat):Int)<((l.length:Nat):Int)) (by omega),cond_false]),zbs]
 by_cases h:u5 s 0 l = -1
 ·rw [if_pos h,h]
 ·rw [if_neg h]
theorem zDO {l:List (zS)} {s:zS} (hl:l.length≤100000):BC 281474976710656 l s=some (u5 s 0 l):=by
 unfold BC
 rw [OV (l:=l) (s:=s) (CM 281474976710656 l s) hl (fun n i x r hd hlt=>by
  show lK 281474976710656 l s _ _=_
  unfold lK
  rw [yU (p:=((i:Nat):Int)<((l.length:Nat):Int)) (by omega),cond_true,vS hd,zbs,vK (by omega)]
  by_cases h:x=s
  ·rw [if_pos h,yU h.symm];rfl
  ·rw [if_neg h,yO (fun hc=>h hc.symm)];rfl) (fun n i hi=>by
  show lK 281474976710656 l s _ _=_
  unfold lK
  rw [yO (p:=((i:Nat):Int)<((l.length:Nat):Int)) (by omega),cond_false]),zbs]
 by_cases h:u5 s 0 l = -1
 ·rw [if_pos h,h]
 ·rw [if_neg h]
def uM (names:List (List Int)) (s:List Int):Int×List (List Int)×Int :=
 if uL s≠0 then (0,names,uL s) else if u5 s 0 names ≠ -1 then (u5 s 0 names,names,0) else if 1000≤names.length then (0,names,6) else ((names.length:Int),names++[s],0)
theorem ED {α:Type} [DecidableEq α] (s:α) (l:List α) : -1≤u5 s 0 l:=by
 rcases DR s l 0 with ⟨h,_⟩ | ⟨j,_,h⟩<;>omega
theorem VF {names:List (List Int)} {s:List Int} (hl:names.length≤100000):oE 281474976710656 names s=some (uM names s):=by
 unfold oE uM
 have hr:=ED s names
 rw [BX,zbs]
 by_cases h:uL s≠0
 ·rw [wA h,if_pos h];rfl
 rw [x8 (by omega),if_neg h,cond_false,zEE hl,zbs]
 by_cases h1:u5 s 0 names ≠ -1
 ·rw [yU (by omega),if_pos h1,cond_true]
 rw [yO (by omega),if_neg h1,cond_false]
 by_cases h2:1000≤names.length
 ·rw [yU (by omega),if_pos h2,cond_true]
 rw [yO (by omega),if_neg h2,cond_false]
 unfold JF
 rw [x7 (by simp only [List.length_nil];omega),zbs,zbs,List.nil_append,x7 (by simp only [zls];omega),zbs]
theorem T5 (names:List (List Int)) (s:List Int):(uM names s).2.1.length≤names.length+1:=by
 unfold uM;split
 ·simp
 ·split
  ·simp
  ·split<;>simp
def tD (names0:List (List Int)) (stacks0:List zS):List (List Int)→Int→List (List Int)→List zS→Int×List (List Int)×List zS×Int
 | [],at_,n,s=>(at_,n,s,0)
 | x::r,at_,n,s =>
  if (uM n x).2.2≠0 then (0,names0,stacks0,(uM n x).2.2) else
  if u5 (⟨at_,(uM n x).1⟩:zS) 0 s ≠ -1 then tD names0 stacks0 r (u5 (⟨at_,(uM n x).1⟩:zS) 0 s) (uM n x).2.1 s else
  if 1000≤s.length then (0,names0,stacks0,6) else tD names0 stacks0 r (s.length:Int) (uM n x).2.1 (s++[⟨at_,(uM n x).1⟩])
def qJ (names:List (List Int)) (stacks:List zS) (l:List (List Int)):Int×List (List Int)×List zS×Int :=
 if kQ l≠0 then (0,names,stacks,kQ l) else tD names stacks l (-1) names stacks
def zBC (o:(Int×List (List Int)×List zS)⊕(Int×List (List Int)×List zS×Int)):Int×List (List Int)×List zS×Int:=match o with | .inl q=>(q.1,q.2.1,q.2.2,0) | .inr q=>q
theorem zAw {names0:List (List Int)} {stacks0:List zS} {l:List (List Int)} (hl:l.length≤40):∀ (m i:Nat) (at_:Int) (n:List (List Int)) (s:List zS),(l.drop i).length<m→n.length+(l.drop i).length≤100000→s.length+(l.drop i).length≤100000 →
  ∃ o,rJ 281474976710656 names0 stacks0 l m at_ n (i:Int) s=some o∧zBC o=tD names0 stacks0 (l.drop i) at_ n s:=by
 intro m
 induction m with
 | zero=>intro i at_ n s h;omega
 | succ m ih =>
  intro i at_ n s hm hn hs
  show ∃ o,BR 281474976710656 names0 stacks0 l _ at_ n (i:Int) s=some o∧_
  unfold BR
  rcases hd:l.drop i with _ | ⟨x,r⟩
  ·have:=jO hd
   rw [yO (by omega),cond_false]
   exact ⟨_,rfl,rfl⟩
  ·have hlt:=q9 hd
   rw [hd] at hm hn hs
   simp only [zlc] at hm hn hs
   have hstep:=vN hd
   rw [yU (by omega),cond_true,vS hd,zbs,VF (by omega),zbs]
   have hpl:=T5 n x
   simp only [tD]
   generalize uM n x=q at *
   by_cases h:q.2.2≠0
   ·rw [wA h,cond_true,if_pos h];exact ⟨_,rfl,rfl⟩
   rw [x8 (by omega),cond_false,if_neg h,zDO (by omega),zbs]
   have hr:=ED (⟨at_,q.1⟩:zS) s
   by_cases h1:u5 (⟨at_,q.1⟩:zS) 0 s ≠ -1
   ·rw [yU (by omega),cond_true,if_pos h1,vK (by omega),← hstep]
    exact ih (i+1) _ _ _ (by rw [hstep];omega) (by rw [hstep];omega) (by rw [hstep];omega)
   rw [yO (by omega),cond_false,if_neg h1]
   by_cases h2:1000≤s.length
   ·rw [yU (by omega),cond_true,if_pos h2];exact ⟨_,rfl,rfl⟩
   rw [yO (by omega),cond_false,if_neg h2,x7 (by simp only [zls];omega),zbs,vK (by omega),← hstep]
   exact ih (i+1) _ _ _ (by rw [hstep];omega) (by rw [hstep];omega) (by rw [hstep];simp only [zla,zls];omega)
theorem zDd {names:List (List Int)} {stacks:List zS} {l:List (List Int)} (hn:names.length≤50000) (hs:stacks.length≤50000):r7 281474976710656 names stacks l=some (qJ names stacks l):=by
 unfold r7 qJ
 rw [SA,zbs]
 by_cases h:kQ l≠0
 ·rw [wA h,cond_true,if_pos h]
 have hl:l.length≤32:=by
  unfold kQ at h
  by_cases hc:32<l.length
  ·rw [if_pos hc] at h;omega
  ·omega
 rw [x8 (by omega),cond_false,if_neg h]
 unfold HV
 rw [x7 (by simp only [List.length_nil];omega),zbs,zbs,List.nil_append]
 obtain ⟨o,h1,h2⟩:=zAw (names0:=names) (stacks0:=stacks) (l:=l) (by omega) 281474976710656 0 (-1) names stacks (by simp;omega) (by simp;omega) (by simp;omega)
 rw [show rJ 281474976710656 names stacks l 281474976710656 (-1) names 0 stacks=some o from h1,zbs]
 rw [zdz] at h2
 rw [← h2]
 cases o<;>rfl
def toO (v:Int):Unit⊕Int:=if v=0 then .inl () else .inr v
theorem QQ {v:Int} (h:v≠0):toO v=.inr v:=if_neg h
def nG (seen:List (List Int)):List (List Int)→Int
 | []=>0
 | x::r=>if uL x≠0 then 3 else if x∈seen then 4 else nG (seen++[x]) r
theorem zCK {l:List (List Int)} (hl:l.length≤1000):rS 281474976710656 l 281474976710656 0 []=some (toO (nG [] l)):=by
 have:=KC (l:=l) (fun n i s=>rS 281474976710656 l n i s) (fun i r _=>toO (nG (l.take i) r)) (fun i s=>o8 s (l.take i)) ?_ ?_ (n:=281474976710656) (s:=[]) ML (by omega)
 ·simpa using this
 ·intro n i s hi _
  show gJ _ _ _ _ _=_
  unfold gJ
  simp (disch:=omega) only [yO,cond_false];rfl
 ·intro n i s x r hd hlt hS ih
  show gJ _ _ _ _ _=_
  unfold gJ
  have hs:=hS.1
  rw [QW hd] at hs
  simp only [nG]
  simp (disch:=omega) only [yU,cond_true,vS hd,zbs,BX,hS.2,x7,vK]
  rw [ih _ (by rw [mY hd];exact K4 hS x)]
  rcases JA x with h | h
  ·by_cases h2:x∈l.take i<;>simp [h,h2,mY hd,toO]
  ·simp [h,toO]
theorem zCs {l:List (List Int)} (hl:l.length≤1000):BY 281474976710656 l=some (nG [] l):=by
 unfold BY
 rw [zCK hl,zbs]
 unfold toO
 by_cases h:nG [] l=0
 ·rw [if_pos h,h]
 ·rw [if_neg h]
def dOf (ds:List Int) (i:Int):Int:=if i = -1 then 0 else (ds[i.toNat]?).getD 0
def DI (st:List zS) (ds:List Int):Prop:=∀ (j:Nat) (d:Int),ds[j]?=some d→∃ p,st[j]?=some p ∧ -1≤p.c0∧p.c0<j∧d=1+dOf ds p.c0∧1≤d∧d≤32
theorem UK {ds:List Int} {d c:Int} (h:c<ds.length) (h0 : -1≤c):dOf (ds++[d]) c=dOf ds c:=by
 unfold dOf
 split
 ·rfl
 ·rw [List.getElem?_append_left (by omega)]
theorem DI.range {st:List zS} {ds:List Int} (h:DI st ds) (c:Int):0≤dOf ds c∧dOf ds c≤32:=by
 unfold dOf
 split
 ·omega
 ·cases hd:ds[c.toNat]? with
  | none=>simp
  | some d=>obtain ⟨p,_,_,_,_,h1,h2⟩:=h _ _ hd;simp;omega
theorem DI.push {st:List zS} {ds:List Int} {p:zS} (h:DI st ds) (hp:st[ds.length]?=some p) (h0 : -1≤p.c0) (h1:p.c0<ds.length) (h2:1+dOf ds p.c0≤32):DI st (ds++[1+dOf ds p.c0]):=by
 intro j d hj
 rcases zlg j ds.length with hlt | hge
 ·rw [List.getElem?_append_left hlt] at hj
  obtain ⟨q,h3,h4,h5,h6,h7⟩:=h j d hj
  exact ⟨q,h3,h4,h5,by rw [UK (by omega) h4];exact h6,h7⟩
 ·have hj':j=ds.length:=by
   have:=(List.getElem?_eq_some_iff.1 hj).1
   simp at this;omega
  subst hj'
  simp at hj
  subst hj
  have:=h.range p.c0
  exact ⟨p,hp,h0,by omega,by rw [UK h1 h0],by omega,h2⟩
theorem DI.nil {st:List zS}:DI st []:=fun j d h=>by simp at h
def kT (nn:Nat) (ds:List Int) (seen:List zS):List zS→Int
 | []=>0
 | p::r=>if p.c0 < -1∨p.c0≥seen.length∨p.c1<0∨p.c1≥nn then 2 else if p∈seen then 4 else if 1+dOf ds p.c0>32 then 7 else kT nn (ds++[1+dOf ds p.c0]) (seen++[p]) r
theorem WX {α:Type} {l:List α} {i:Nat} (v:α) (h:i<l.length):(l.set i v).take (i+1)=l.take i++[v]:=by
 rw [List.take_add_one,List.take_set_of_le (Nat.le_refl _),List.getElem?_set_self h];rfl
theorem zB7 {names:List (List Int)} {l:List zS} (hl:l.length≤1000):∀ (n i:Nat) (s:List (zS×Bool)) (t:List Int),o8 s (l.take i)→t.length=l.length→DI l (t.take i)→i≤l.length→(l.drop i).length<n→oM 281474976710656 names l n (i:Nat) s t=some (toO (kT names.length (t.take i) (l.take i) (l.drop i))):=by
 intro n
 induction n with
 | zero=>intro i s t _ _ _ _ h;omega
 | succ n ih =>
  intro i s t hS htl hD hil hn
  show B1 _ _ _ _ _ _ _=_
  unfold B1
  rcases hd:l.drop i with _ | ⟨p,r⟩
  ·have:=jO hd
   simp (disch:=omega) only [yO,cond_false];rfl
  have hlt:=q9 hd
  have ht:=QW hd
  have hs:=hS.1
  rw [ht] at hs
  rw [hd] at hn
  simp only [zlc] at hn
  simp only [kT,ht]
  obtain ⟨y,hy⟩:∃ y,t[i]?=some y:=⟨t[i]'(by omega),List.getElem?_eq_getElem _⟩
  simp (disch:=omega) only [yU,cond_true,vS hd,zbs,hS.2,x7,bJ,hy]
  by_cases c1:p.c0 < -1∨p.c0≥i∨p.c1<0∨p.c1≥names.length
  ·rw [if_pos c1,QQ (by decide)]
   have:(decide (p.c0<(-1:Int))||(decide (p.c0≥(i:Int))||(decide (p.c1<(0:Int))||decide (p.c1≥((names.length:Nat):Int)))))=true:=by simpa using c1
   rw [this];rfl
  ·rw [if_neg c1]
   simp (disch:=omega) only [yO,Bool.or_false,cond_false]
   by_cases c2:p∈l.take i
   ·rw [if_pos c2,yU c2];rfl
   ·rw [if_neg c2,yO c2,cond_false]
    have hr:=hD.range p.c0
    have htt:(t.take i).length=i:=by rw [List.length_take];omega
    have hstep:((bif (p.c0 != (-1:Int)) then ((t.set ((i:Int)).toNat (1:Int))[i]?).bind fun x_3=>(xI (t.set ((i:Int)).toNat (1:Int)) p.c0).bind fun x_4=>((t.set ((i:Int)).toNat (1:Int))[i]?).bind fun x_5 =>
      some ((t.set ((i:Int)).toNat (1:Int)).set ((i:Int)).toNat (zI (x_3+x_4))) else some (t.set ((i:Int)).toNat (1:Int))):Option (List Int))=some (t.set i (1+dOf (t.take i) p.c0)):=by
     rw [Int.toNat_natCast]
     by_cases hc:p.c0 = -1
     ·rw [x8 hc,cond_false];simp [dOf,hc]
     ·rw [wA hc,cond_true,List.getElem?_set_self (by omega),zbs]
      have e:xI (t.set i 1) p.c0=some (dOf (t.take i) p.c0):=by
       obtain ⟨m,hm⟩:=Int.eq_ofNat_of_zero_le (show 0≤p.c0 by omega)
       rw [hm,bJ,List.getElem?_set_ne (by omega)]
       have:(t.take i)[m]?=t[m]?:=by rw [List.getElem?_take_of_lt (by omega)]
       have hml:m<t.length:=by omega
       simp only [dOf]
       rw [if_neg (by omega),Int.toNat_natCast,this,List.getElem?_eq_getElem hml];rfl
      rw [e,zbs,zbs,w64 (by omega) (by omega),List.set_set]
    rw [hstep,zbs,List.getElem?_set_self (by omega),zbs]
    by_cases c3:1+dOf (t.take i) p.c0>32
    ·rw [if_pos c3,yU c3];rfl
    ·rw [if_neg c3,yO c3,cond_false,vK (by omega)]
     have hts:=WX (i:=i) (1+dOf (t.take i) p.c0) (show i<t.length by omega)
     rw [ih (i+1) _ _ (by rw [mY hd];exact K4 hS p) (by simp [htl]) (by rw [hts];exact hD.push (by rw [htt];exact RB hd) (by omega) (by omega) (by omega)) (by omega) (by rw [vN hd];omega),mY hd,vN hd,hts]
def n6 (names:List (List Int)) (l:List zS):Int:=if 1000<names.length∨1000<l.length then 7 else if nG [] names≠0 then nG [] names else kT names.length [] [] l
theorem JC {names:List (List Int)} {l:List zS}:cO 281474976710656 names l=some (n6 names l):=by
 unfold cO n6
 by_cases h:1000<names.length∨1000<l.length
 ·rw [if_pos h]
  have:(decide ((((names).length:Nat):Int)>(1000:Int))||decide ((((l).length:Nat):Int)>(1000:Int)))=true:=by simp;omega
  rw [this];rfl
 rw [if_neg h]
 simp (disch:=omega) only [yO,Bool.or_false,cond_false]
 rw [zCs (by omega),zbs]
 by_cases h1:nG [] names≠0
 ·rw [wA h1,if_pos h1];rfl
 have h1':nG [] names=0:=by omega
 have:=zB7 (names:=names) (l:=l) (by omega) 281474976710656 0 [] (List.replicate l.length 0) ML (by simp) DI.nil (by omega) (by simp;omega)
 rw [h1',x8 rfl,cond_false,if_neg (by omega),x7 (by omega),zbs]
 rw [show oM 281474976710656 names l 281474976710656 0 [] (List.replicate l.length 0)=_ from this]
 simp only [List.take_zero,zdz,zbs]
 generalize kT names.length [] [] l=v
 unfold toO
 by_cases hv:v=0
 ·rw [if_pos hv,hv]
 ·rw [if_neg hv]
def dsF (l:List zS):List Int:=l.foldl (fun ds p=>ds++[1+dOf ds p.c0]) []
theorem zAb:∀ (l:List zS) (ds:List Int),(l.foldl (fun ds p=>ds++[1+dOf ds p.c0]) ds).length=ds.length+l.length:=by
 intro l
 induction l with
 | nil=>intro ds;rfl
 | cons p r ih=>intro ds;rw [List.foldl_cons,ih];simp;omega
theorem o5 (l:List zS):(dsF l).length=l.length:=by simp [dsF,zAb]
theorem QF (l:List zS) (p:zS):dsF (l++[p])=dsF l++[1+dOf (dsF l) p.c0]:=by simp [dsF]
theorem H6:∀ (l seen:List (List Int)),nG seen l=0↔(∀ x∈l,uL x=0∧x∉seen)∧l.Nodup:=by
 intro l
 induction l with
 | nil=>intro seen;simp [nG]
 | cons x r ih =>
  intro seen
  simp only [nG]
  by_cases h:uL x≠0
  ·rw [if_pos h];simp [h]
  rw [if_neg h]
  by_cases h2:x∈seen
  ·rw [if_pos h2];simp [h2]
  rw [if_neg h2,ih]
  simp only [List.mem_cons,List.nodup_cons,forall_eq_or_imp,List.mem_append,List.not_mem_nil,or_false,not_or]
  constructor
  ·rintro ⟨h3,h4⟩
   exact ⟨⟨⟨by omega,h2⟩,fun y hy=>⟨(h3 y hy).1,(h3 y hy).2.1⟩⟩,fun hx=>(h3 x hx).2.2 rfl,h4⟩
  ·rintro ⟨⟨_,h3⟩,h4,h5⟩
   exact ⟨fun y hy=>⟨(h3 y hy).1,(h3 y hy).2,fun e=>h4 (e ▸ hy)⟩,h5⟩
structure KU (nn k:Nat) (ds:List Int) (seen:List zS) (p:zS):Prop where
 lo : -1≤p.c0
 hi:p.c0<k
 lo1:0≤p.c1
 hi1:p.c1<nn
 new:p∉seen
 deep:1+dOf ds p.c0≤32
theorem N5 {nn:Nat}:∀ (r:List zS) (ds:List Int) (seen:List zS) (p:zS),kT nn ds seen (r++[p])=0↔kT nn ds seen r=0∧KU nn (seen++r).length (r.foldl (fun ds p=>ds++[1+dOf ds p.c0]) ds) (seen++r) p:=by
 intro r
 induction r with
 | nil =>
  intro ds seen p
  simp only [List.nil_append,kT,List.append_nil,List.foldl_nil,true_and]
  constructor
  ·intro h
   split at h
   ·cases h
   split at h
   ·cases h
   split at h
   ·cases h
   exact ⟨by omega,by omega,by omega,by omega,by assumption,by omega⟩
  ·rintro ⟨h1,h2,h3,h4,h5,h6⟩
   rw [if_neg (by omega),if_neg h5,if_neg (by omega)]
 | cons q r ih =>
  intro ds seen p
  simp only [List.cons_append,kT,List.foldl_cons]
  split
  ·simp
  split
  ·simp
  split
  ·simp
  rw [ih];simp
theorem YT {nn mm:Nat} (h:nn≤mm):∀ (r:List zS) (ds:List Int) (seen:List zS),kT nn ds seen r=0→kT mm ds seen r=0:=by
 intro r
 induction r with
 | nil=>intro ds seen _;rfl
 | cons q r ih =>
  intro ds seen hz
  simp only [kT] at hz ⊢
  split at hz
  ·cases hz
  rename_i h1
  rw [if_neg (by omega)]
  split at hz
  ·cases hz
  rename_i h2
  rw [if_neg h2]
  split at hz
  ·cases hz
  rename_i h3
  rw [if_neg h3]
  exact ih _ _ hz
structure vW (n:List (List Int)) (s:List zS):Prop where
 n1:n.length≤1000
 s1:s.length≤1000
 names:nG [] n=0
 st:kT n.length [] [] s=0
theorem GG {n:List (List Int)} {s:List zS}:n6 n s=0↔vW n s:=by
 unfold n6
 constructor
 ·intro h
  split at h
  ·cases h
  split at h
  ·omega
  exact ⟨by omega,by omega,by omega,h⟩
 ·rintro ⟨h1,h2,h3,h4⟩
  rw [if_neg (by omega),if_neg (by omega),h4]
theorem vW.nodup {n:List (List Int)} {s:List zS} (h:vW n s):n.Nodup:=((H6 _ _).1 h.names).2
theorem vW.valid {n:List (List Int)} {s:List zS} (h:vW n s) {x:List Int} (hx:x∈n):uL x=0:=(((H6 _ _).1 h.names).1 x hx).1
theorem vW.name {n:List (List Int)} {s:List zS} (h:vW n s) {x:List Int} (hx:uL x=0) (hn:x∉n) (hl:n.length<1000):vW (n++[x]) s:=by
 refine ⟨by simp;omega,h.s1,?_,YT (by simp) _ _ _ h.st⟩
 rw [H6]
 have h2:=(H6 _ _).1 h.names
 refine ⟨fun y hy=>⟨?_,by simp⟩,?_⟩
 ·rcases List.mem_append.1 hy with hy | hy
  ·exact h.valid hy
  ·simp at hy;rw [hy];exact hx
 ·rw [List.nodup_append]
  exact ⟨h.nodup,by simp,fun a ha b hb=>by simp at hb;rw [hb];exact fun e=>hn (e ▸ ha)⟩
theorem vW.push {n:List (List Int)} {s:List zS} {p:zS} (h:vW n s) (hp:KU n.length s.length (dsF s) s p) (hl:s.length<1000):vW n (s++[p]) :=
 ⟨h.n1,by simp;omega,h.names,by rw [N5];exact ⟨h.st,by rw [List.nil_append];exact hp⟩⟩
theorem zCe {nn:Nat} (s:List zS) (h:kT nn [] [] s=0):∀ (i:Nat),i<s.length→∃ p,s[i]?=some p∧KU nn i (dsF (s.take i)) (s.take i) p:=by
 intro i hi
 have e:s=s.take i++(s[i]::s.drop (i+1)):=by simp
 have:∀ (m:Nat) (r:List zS),r.length=m→kT nn [] [] (s.take i++s[i]::r)=0→kT nn [] [] (s.take i++[s[i]])=0:=by
  intro m
  induction m with
  | zero=>intro r hr h;rw [List.length_eq_zero_iff.1 hr] at h;exact h
  | succ m ih =>
   intro r hr h
   rcases List.eq_nil_or_concat r with h0 | ⟨r',y,h0⟩
   ·rw [h0] at hr;simp at hr
   ·rw [h0] at h hr
    simp at hr
    rw [show s.take i++s[i]::r'.concat y=(s.take i++s[i]::r')++[y] by simp] at h
    exact ih r' hr ((N5 _ _ _ _).1 h).1
 have h2:=(N5 _ _ _ _).1 (this _ _ rfl (by rw [← e];exact h))
 refine ⟨s[i],List.getElem?_eq_getElem hi,?_⟩
 have h3:=h2.2
 simp only [List.nil_append,List.length_take,Nat.min_eq_left (Nat.le_of_lt hi)] at h3
 exact h3
theorem L0 (s:List zS) (i:Nat):dsF (s.take i)=(dsF s).take i:=by
 induction i with
 | zero=>rfl
 | succ i ih =>
  rcases hd:s.drop i with _ | ⟨x,r⟩
  ·have:=jO hd
   rw [List.take_of_length_le (by omega),List.take_of_length_le (by rw [o5];omega)]
  ·have e:s=s.take i++([x]++r):=by rw [List.singleton_append,← hd,List.take_append_drop]
   have hlt:=q9 hd
   have e2:∃ t,dsF s=dsF (s.take i++[x])++t:=by
    have hg:∀ (r:List zS) (ds:List Int),∃ t,r.foldl (fun ds p=>ds++[1+dOf ds p.c0]) ds=ds++t:=by
     intro r
     induction r with
     | nil=>intro ds;exact ⟨[],by simp⟩
     | cons y r ih2=>intro ds;obtain ⟨t,ht⟩:=ih2 (ds++[1+dOf ds y.c0]);exact ⟨_,by rw [List.foldl_cons,ht,List.append_assoc]⟩
    have:dsF s=r.foldl (fun ds p=>ds++[1+dOf ds p.c0]) (dsF (s.take i++[x])):=by
     have h3:dsF (s.take i++[x]++r)=r.foldl (fun ds p=>ds++[1+dOf ds p.c0]) (dsF (s.take i++[x])):=by unfold dsF;rw [List.foldl_append]
     rwa [List.append_assoc,← e] at h3
    rw [this];exact hg _ _
   obtain ⟨t,ht⟩:=e2
   rw [mY hd,ht,List.take_append_of_le_length (by simp [o5];omega)]
   exact (List.take_of_length_le (by simp [o5];omega)).symm
theorem OF {ds:List Int} {i:Nat} {c:Int} (h:c<i) (h0 : -1≤c):dOf (ds.take i) c=dOf ds c:=by
 unfold dOf
 split
 ·rfl
 ·rw [List.getElem?_take_of_lt (by omega)]
theorem vW.pair {n:List (List Int)} {s:List zS} (h:vW n s) {i:Nat} {p:zS} (hp:s[i]?=some p) :
  -1≤p.c0∧p.c0<i∧0≤p.c1∧p.c1<n.length∧dOf (dsF s) (i:Int)=1+dOf (dsF s) p.c0∧dOf (dsF s) (i:Int)≤32∧p∉s.take i:=by
 have hi:i<s.length:=(List.getElem?_eq_some_iff.1 hp).1
 obtain ⟨q,hq,h1,h2,h3,h4,h5,h6⟩:=zCe s h.st i hi
 rw [hp] at hq;injection hq with hq;subst hq
 rw [L0,OF h2 h1] at h6
 have e:dOf (dsF s) (i:Int)=1+dOf (dsF s) p.c0:=by
  have e1:dsF (s.take (i+1))=dsF (s.take i)++[1+dOf (dsF (s.take i)) p.c0]:=by
   rw [List.take_add_one,hp];exact QF _ _
  have e2:(dsF s)[i]?=some (1+dOf (dsF s) p.c0):=by
   have:((dsF s).take (i+1))[i]?=(dsF s)[i]?:=List.getElem?_take_of_lt (by omega)
   rw [← this,← L0,e1,L0,OF h2 h1]
   have hl:((dsF s).take i).length=i:=by rw [List.length_take,o5];omega
   rw [List.getElem?_append_right (by omega),hl];simp
  unfold dOf
  rw [if_neg (by omega),Int.toNat_natCast,e2];rfl
 exact ⟨h1,h2,h3,h4,e,by omega,h5⟩
theorem vW.depth0 {n:List (List Int)} {s:List zS} (h:vW n s) {c:Int} (h0 : -1≤c) (h1:c<s.length):0≤dOf (dsF s) c∧dOf (dsF s) c≤32∧(dOf (dsF s) c=0↔c = -1):=by
 have key:∀ (m:Nat) (c:Int),c+1<m → -1≤c→c<s.length→0≤dOf (dsF s) c∧dOf (dsF s) c≤32∧(dOf (dsF s) c=0↔c = -1):=by
  intro m
  induction m with
  | zero=>intro c h1 h2;omega
  | succ m ih =>
   intro c h1 h2 h3
   by_cases hc:c = -1
   ·subst hc;simp [dOf]
   ·obtain ⟨i,rfl⟩:=Int.eq_ofNat_of_zero_le (show 0≤c by omega)
    have hi:i<s.length:=by omega
    obtain ⟨k1,k2,k3,k4,k5,k6,k7⟩:=h.pair (List.getElem?_eq_getElem hi)
    have:=ih (s[i]).c0 (by omega) k1 (by omega)
    omega
 exact key (c.toNat+3) c (by omega) h0 h1
def p9 (n:List (List Int)) (s:List zS):Nat→Int→List (List Int)
 | 0,_=>[]
 | k+1,i=>if i<0 then [] else match s[i.toNat]? with
  | none=>[]
  | some p=>(n[p.c1.toNat]?).getD []::p9 n s k p.c0
theorem ZA (n:List (List Int)) (s:List zS):∀ (k:Nat) (i:Int),(p9 n s k i).length≤k:=by
 intro k
 induction k with
 | zero=>intro i;exact Nat.le_refl _
 | succ k ih =>
  intro i
  simp only [p9]
  split
  ·simp
  split
  ·simp
  ·rename_i p _
   have:=ih p.c0
   simp only [zlc];omega
theorem zA9 {n:List (List Int)} {s:List zS} (h:vW n s):∀ (k f:Nat) (i:Int) (row:List (List Int)), -1≤i→i<s.length→dOf (dsF s) i≤k→k<f→row.length+k≤1000 →
  CK 281474976710656 n s f i row=some (row++p9 n s k i):=by
 intro k
 induction k with
 | zero =>
  intro f i row h0 h1 h2 h3 h4
  have hi:i = -1:=(h.depth0 h0 h1).2.2.1 (by have:=(h.depth0 h0 h1).1;omega)
  subst hi
  obtain ⟨f,rfl⟩:∃ g,f=g+1:=⟨f - 1,by omega⟩
  show gL _ _ _ _ _ _=_
  unfold gL
  rw [x8 rfl,cond_false];simp [p9]
 | succ k ih =>
  intro f i row h0 h1 h2 h3 h4
  obtain ⟨f,rfl⟩:∃ g,f=g+1:=⟨f - 1,by omega⟩
  show gL _ _ _ _ _ _=_
  unfold gL
  by_cases hi:i = -1
  ·subst hi
   rw [x8 rfl,cond_false];simp [p9]
  ·obtain ⟨m,rfl⟩:=Int.eq_ofNat_of_zero_le (show 0≤i by omega)
   have hm:s[m]?=some (s[m]'(by omega)):=List.getElem?_eq_getElem _
   obtain ⟨k1,k2,k3,k4,k5,k6,k7⟩:=h.pair hm
   simp only [p9]
   rw [wA hi,cond_true,bJ,Int.toNat_natCast,if_neg (by omega)]
   generalize hp:s[m]'(by omega)=p at *
   obtain ⟨a,ha⟩:=Int.eq_ofNat_of_zero_le k3
   have hlt:a<n.length:=by omega
   rw [hm,zbs,ha,bJ]
   simp only [ha,Int.toNat_natCast,List.getElem?_eq_getElem hlt,zbs,Option.getD_some]
   rw [x7 (by simp;omega),zbs,ih _ _ _ k1 (by omega) (by omega) (by omega) (by simp;omega)]
   simp
theorem Y4 {l:List (List Int)} (hl:l.length≤100000):∀ (f i:Nat) (row:List (List Int)),row.length=l.length→2 * i≤l.length+1→l.length<f+i →
  (∀ k,row[k]?=if k<i∨l.length≤k+i then l.reverse[k]? else l[k]?)→mV 281474976710656 f (i:Int) ((l.length:Int) - 1 - i) row=some l.reverse:=by
 intro f
 induction f with
 | zero=>intro i row hr h2 hf;omega
 | succ f ih =>
  intro i row hr h2 hf hk
  show BE _ _ _ _ _=_
  unfold BE
  by_cases hi:(i:Int)<(l.length:Int) - 1 - i
  ·obtain ⟨j,hj⟩:=Int.eq_ofNat_of_zero_le (show 0≤(l.length:Int) - 1 - i by omega)
   have hjl:j<row.length:=by omega
   have hil:i<row.length:=by omega
   have hne:i≠j:=by omega
   rw [yU hi,cond_true,hj,bJ,bJ,List.getElem?_eq_getElem hjl,zbs,List.getElem?_eq_getElem hil,zbs,zbs,
    Int.toNat_natCast,Int.toNat_natCast,bJ,List.getElem?_set_ne hne,List.getElem?_eq_getElem hjl,zbs,w64 (by omega) (by omega),w64 (by omega) (by omega)]
   have:=ih (i+1) ((row.set i row[j]).set j row[i]) (by simp [hr]) (by omega) (by omega) ?_
   ·rw [show ((i:Int)+1)=((i+1:Nat):Int) by omega,show (j:Int) - 1=(l.length:Int) - 1 - ((i+1:Nat):Int) by omega];exact this
   ·intro k
    have ej:some row[j]=l.reverse[i]?:=by
     rw [← List.getElem?_eq_getElem hjl,hk j,if_neg (by omega),List.getElem?_reverse (by omega)];congr 1;omega
    have ei:some row[i]=l.reverse[j]?:=by
     rw [← List.getElem?_eq_getElem hil,hk i,if_neg (by omega),List.getElem?_reverse (by omega)];congr 1;omega
    by_cases h1:k=j
    ·subst h1;rw [List.getElem?_set_self (by simpa using hjl),if_pos (by omega),ei]
    rw [List.getElem?_set_ne (fun e=>h1 e.symm)]
    by_cases h3:k=i
    ·subst h3;rw [List.getElem?_set_self hil,if_pos (by omega),ej]
    rw [List.getElem?_set_ne (fun e=>h3 e.symm),hk k]
    by_cases h4:k<i∨l.length≤k+i
    ·rw [if_pos h4,if_pos (by omega)]
    ·rw [if_neg h4,if_neg (by omega)]
  ·rw [yO hi,cond_false]
   congr 1
   apply List.ext_getElem?
   intro k
   rw [hk k]
   by_cases h1:k<i∨l.length≤k+i
   ·rw [if_pos h1]
   ·rw [if_neg h1,List.getElem?_reverse (by omega)];congr 1;omega
theorem W2 {l:List (List Int)} (hl:l.length≤100000):AF 281474976710656 l=some l.reverse:=by
 unfold AF
 have:=Y4 hl 281474976710656 0 l rfl (by omega) (by omega) (by
  intro k
  by_cases h:l.length≤k
  ·rw [if_pos (by omega),List.getElem?_eq_none h,List.getElem?_eq_none (by simpa using h)]
  ·rw [if_neg (by omega)])
 rw [w64 (by omega) (by omega),show (l.length:Int) - 1=(l.length:Int) - 1 - (0:Nat) by omega,show mV 281474976710656 281474976710656 0 ((l.length:Int) - 1 - (0:Nat)) l=_ from this,zbs]
def mO (n:List (List Int)) (s:List zS) (i:Int):List (List Int)×Int :=
 if n6 n s≠0 then ([],1) else if i < -1∨i≥s.length then ([],2) else ((p9 n s 32 i).reverse,0)
theorem zCz {n:List (List Int)} {s:List zS} {i:Int}:rP 281474976710656 n s i=some (mO n s i):=by
 unfold rP mO
 rw [JC,zbs]
 by_cases h:n6 n s≠0
 ·rw [wA h,cond_true,if_pos h]
 rw [x8 (by omega),cond_false,if_neg h]
 by_cases h2:i < -1∨i≥s.length
 ·rw [if_pos h2]
  have:(decide (i<(-1:Int))||decide (i≥(((s).length:Nat):Int)))=true:=by simpa using h2
  rw [this];rfl
 rw [if_neg h2]
 simp (disch:=omega) only [yO,Bool.or_false,cond_false]
 have hg:vW n s:=GG.1 (by omega)
 have hlen:=ZA n s 32 i
 rw [zA9 hg 32 _ _ _ (by omega) (by omega) ((hg.depth0 (by omega) (by omega)).2.1) (by omega) (by simp),zbs,List.nil_append,W2 (by omega),zbs,x7 (by simp),zbs]
theorem fG {α:Type} {l m:List α} (h:l <+: m) {i:Nat} {x:α} (hx:l[i]?=some x):m[i]?=some x:=by
 obtain ⟨t,rfl⟩:=h
 rw [List.getElem?_append_left (List.getElem?_eq_some_iff.1 hx).1];exact hx
theorem OK {n:List (List Int)} {s:List zS} {x:List Int} (h:vW n s) (hx:uL x=0) :
  ((uM n x).2.2=6∧x∉n∧n.length=1000)∨((uM n x).2.2=0∧(∃ a:Nat,(uM n x).1=a∧(uM n x).2.1[a]?=some x)∧vW (uM n x).2.1 s∧n <+: (uM n x).2.1∧(x∈n→(uM n x).2.1=n)):=by
 unfold uM
 have hn1:=h.n1
 rw [if_neg (by omega)]
 rcases DR x n 0 with ⟨h1,h2⟩ | ⟨j,h1,h2⟩
 ·rw [if_neg (by omega)]
  by_cases h3:1000≤n.length
  ·rw [if_pos h3];exact .inl ⟨rfl,h2,by omega⟩
  ·rw [if_neg h3]
   exact .inr ⟨rfl,⟨n.length,rfl,by simp⟩,h.name hx h2 (by omega),List.prefix_append _ _,fun hm=>absurd hm h2⟩
 ·rw [if_pos (by omega)]
  exact .inr ⟨rfl,⟨j,by rw [h2];simp,h1⟩,h,List.prefix_refl _,fun _=>rfl⟩
def Has (n:List (List Int)) (s:List zS):Int→List (List Int)→Int→Prop
 | at_,[],i=>i=at_
 | at_,x::r,i=>∃ a b:Nat,n[a]?=some x∧s[b]?=some ⟨at_,(a:Int)⟩∧Has n s (b:Int) r i
theorem Has.mono {n n':List (List Int)} {s s':List zS} (hn:n <+: n') (hs:s <+: s'):∀ {l:List (List Int)} {at_ i:Int},Has n s at_ l i→Has n' s' at_ l i:=by
 intro l
 induction l with
 | nil=>intro at_ i h;exact h
 | cons x r ih =>
  rintro at_ i ⟨a,b,h1,h2,h3⟩
  exact ⟨a,b,fG hn h1,fG hs h2,ih h3⟩
theorem zCP {s:List zS} {p:zS}:dOf (dsF (s++[p])) (s.length:Int)=1+dOf (dsF s) p.c0:=by
 rw [QF]
 unfold dOf
 rw [if_neg (by omega),Int.toNat_natCast,List.getElem?_append_right (by rw [o5];exact Nat.le_refl _),o5]
 simp
theorem YS {n0:List (List Int)} {s0:List zS}:∀ (l:List (List Int)) (at_:Int) (n:List (List Int)) (s:List zS),vW n s→(∀ x∈l,uL x=0) → -1≤at_→at_<s.length→dOf (dsF s) at_+l.length≤32 →
  ((tD n0 s0 l at_ n s).2.2.2≠0∧tD n0 s0 l at_ n s=(0,n0,s0,(tD n0 s0 l at_ n s).2.2.2)) ∨
  ((tD n0 s0 l at_ n s).2.2.2=0∧vW (tD n0 s0 l at_ n s).2.1 (tD n0 s0 l at_ n s).2.2.1∧n <+: (tD n0 s0 l at_ n s).2.1∧s <+: (tD n0 s0 l at_ n s).2.2.1 ∧
   Has (tD n0 s0 l at_ n s).2.1 (tD n0 s0 l at_ n s).2.2.1 at_ l (tD n0 s0 l at_ n s).1 ∧ -1≤(tD n0 s0 l at_ n s).1∧(tD n0 s0 l at_ n s).1<(tD n0 s0 l at_ n s).2.2.1.length):=by
 intro l
 induction l with
 | nil=>intro at_ n s h hv h0 h1 h2;exact .inr ⟨rfl,h,List.prefix_refl _,List.prefix_refl _,rfl,h0,h1⟩
 | cons x r ih =>
  intro at_ n s h hv h0 h1 h2
  simp only [zlc] at h2
  have hd0:=h.depth0 h0 h1
  simp only [tD]
  rcases OK h (hv x (by simp)) with ⟨k1,_,_⟩ | ⟨k1,⟨a,k2,k3⟩,k4,k5,_⟩
  ·rw [k1,if_pos (by decide)];exact .inl ⟨(by decide:(6:Int)≠0),rfl⟩
  rw [k1,if_neg (by decide),k2]
  have hal:(a:Int)<(uM n x).2.1.length:=by have:=(List.getElem?_eq_some_iff.1 k3).1;omega
  rcases DR (⟨at_,(a:Int)⟩:zS) s 0 with ⟨g1,g2⟩ | ⟨j,g1,g2⟩
  ·rw [g1,if_neg (by decide)]
   by_cases hf:1000≤s.length
   ·rw [if_pos hf];exact .inl ⟨(by decide:(6:Int)≠0),rfl⟩
   rw [if_neg hf]
   have hg2:vW (uM n x).2.1 (s++[⟨at_,(a:Int)⟩]):=k4.push ⟨h0,h1,Int.natCast_nonneg _,hal,g2,by simp only;omega⟩ (by omega)
   have hl:=zCP (s:=s) (p:=⟨at_,(a:Int)⟩)
   rcases ih (s.length:Int) _ _ hg2 (fun y hy=>hv y (by simp [hy])) (by omega) (by simp;omega) (by rw [hl];simp only;omega) with h3 | ⟨h3,h4,h5,h6,h7,h8⟩
   ·exact .inl h3
   ·exact .inr ⟨h3,h4,k5.trans h5,(List.prefix_append _ _).trans h6,⟨a,s.length,fG h5 k3,fG h6 (by simp),h7⟩,h8⟩
  ·rw [g2,Nat.zero_add,if_pos (by omega)]
   have hp:=h.pair g1
   have hjl:=(List.getElem?_eq_some_iff.1 g1).1
   simp only at hp
   rcases ih (j:Int) _ _ k4 (fun y hy=>hv y (by simp [hy])) (by omega) (by omega) (by omega) with h3 | ⟨h3,h4,h5,h6,h7,h8⟩
   ·exact .inl h3
   ·exact .inr ⟨h3,h4,k5.trans h5,h6,⟨a,j,fG h5 k3,fG h6 g1,h7⟩,h8⟩
theorem Has.path {n:List (List Int)} {s:List zS}:∀ {l:List (List Int)} {at_ i:Int} {k:Nat},Has n s at_ l i→p9 n s (k+l.length) i=l.reverse++p9 n s k at_:=by
 intro l
 induction l with
 | nil=>intro at_ i k h;simp only [Has] at h;simp [h]
 | cons x r ih =>
  rintro at_ i k ⟨a,b,h1,h2,h3⟩
  have:=ih (k:=k+1) h3
  rw [show k+(x::r).length=k+1+r.length by simp only [zlc];omega,this]
  simp only [p9]
  rw [if_neg (by omega),Int.toNat_natCast,h2]
  simp [h1]
theorem UA (n:List (List Int)) (s:List zS) (k:Nat):p9 n s k (-1)=[]:=by
 cases k<;>simp [p9]
theorem Has.list {n:List (List Int)} {s:List zS} {l:List (List Int)} {i:Int} (h:Has n s (-1) l i) (hl:l.length≤32):(p9 n s 32 i).reverse=l:=by
 have:=Has.path (k:=32 - l.length) h
 rw [Nat.sub_add_cancel hl,UA,List.append_nil] at this
 rw [this,List.reverse_reverse]
theorem QT {l:List (List Int)}:kQ l=0↔l.length≤32∧∀ x∈l,uL x=0:=by
 unfold kQ
 by_cases h:32<l.length
 ·rw [if_pos h];constructor
  ·intro h;cases h
  ·omega
 rw [if_neg h]
 by_cases h2:l.all (fun s=>decide (uL s=0))=true
 ·rw [if_pos h2];simp at h2;exact ⟨fun _=>⟨by omega,h2⟩,fun _=>rfl⟩
 ·rw [if_neg h2];simp only [List.all_eq_true,decide_eq_true_eq] at h2
  constructor
  ·intro h;cases h
  ·intro h3;exact absurd h3.2 h2
theorem XM {n:List (List Int)} {s:List zS} {l:List (List Int)} (h:vW n s) :
  ((qJ n s l).2.2.2≠0∧qJ n s l=(0,n,s,(qJ n s l).2.2.2)) ∨
  ((qJ n s l).2.2.2=0∧l.length≤32∧(∀ x∈l,uL x=0)∧vW (qJ n s l).2.1 (qJ n s l).2.2.1∧n <+: (qJ n s l).2.1∧s <+: (qJ n s l).2.2.1 ∧
   Has (qJ n s l).2.1 (qJ n s l).2.2.1 (-1) l (qJ n s l).1 ∧ -1≤(qJ n s l).1∧(qJ n s l).1<(qJ n s l).2.2.1.length):=by
 unfold qJ
 by_cases hf:kQ l≠0
 ·rw [if_pos hf];exact .inl ⟨hf,rfl⟩
 rw [if_neg hf]
 obtain ⟨hl,hv⟩:=QT.1 (show kQ l=0 by omega)
 rcases YS (n0:=n) (s0:=s) l (-1) n s h hv (by omega) (by omega) (by simp [dOf];omega) with h1 | ⟨h1,h2⟩
 ·exact .inl h1
 ·exact .inr ⟨h1,hl,hv,h2⟩
end Go.Ab
