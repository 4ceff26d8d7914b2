/- Plain laws of the functions w6 this seat's, laid anew from another seat's text. No conditions but those that the theorems name. -/
import Derived.Test.YtoeengmnmhhpgaaP15xD
import Derived.Test.YtoeengmnmhhpgaaB15a
import Derived.Test.YtoeengmnmhhpgaaB15b
import Derived.Test.YtoeengmnmhhpgaaB15c
import Derived.Test.YtoeengmnmhhpgaaB15d
import Derived.Test.YtoeengmnmhhpgaaB15t
namespace Go.Ab
open Go
set_option linter.unusedVariables false
theorem r7 {α β:Type} {l:List α} (L:Nat→Int→Option (Unit⊕β)) (f:Nat→α→Option β) (hl:l.length≤100000)
  (h0:∀ n i,l.length≤i→L (n+1) (i:Nat)=some (.inl ()))
  (h1:∀ n i x r,l.drop i=x::r→i<l.length→L (n+1) (i:Nat)=match f i x with | none=>L n ((i+1:Nat):Int) | some b=>some (.inr b)):L 281474976710656 0=some (uR f 0 l):=by
 have key:∀ (n i:Nat),(l.drop i).length<n→L n (i:Int)=some (uR f i (l.drop i)):=by
  intro n
  induction n with
  | zero=>intro i h;omega
  | succ n ih =>
   intro i hn
   rcases hd:l.drop i with _ | ⟨x,r⟩
   ·rw [h0 n i (jL hd)];rfl
   ·rw [h1 n i x r hd (jG hd)]
    rw [hd] at hn
    simp only [zlc] at hn
    simp only [uR]
    cases hf:f i x with
    | none=>simp only;rw [ih (i+1) (by rw [vQ hd];omega),vQ hd]
    | some b=>rfl
 have:=key 281474976710656 0 (by simp;omega)
 simpa using this
def kX {α:Type} (p:α→Bool) (l:List α):Int:=match uR (fun i x=>bif p x then some ((i:Nat):Int) else none) 0 l with | .inl _ => -1 | .inr q=>q
def idP (id:Int) (d:y7):Bool:=d.Id==id
theorem zB3 {d:List y7} {id:Int} (hl:d.length≤100000):C3 281474976710656 d id=some (kX (idP id) d):=by
 unfold C3
 rw [r7 (l:=d) (fun n i=>B6 281474976710656 d id n i) (fun i x=>bif idP id x then some ((i:Nat):Int) else none) hl]
 ·rw [zbs];first | (unfold kX;split<;>simp_all) | (unfold uz;split<;>simp_all) | (split<;>simp_all)
 ·intro n i hi
  show gO _ _ _ _ _=_
  unfold gO
  rw [yO (by omega),cond_false]
 ·intro n i x r hd hi
  show gO _ _ _ _ _=_
  unfold gO
  rw [yR (by omega),cond_true,w9 hd,zbs,vC (by omega)]
  unfold EJ idP
  rw [zbs]
  cases (x.Id==id)<;>rfl
theorem zBq {d:List y7} {t:xJ} (hl:d.length≤100000):CH 281474976710656 d t=some (kX (idP t.Domain) d):=by
 unfold CH
 rw [r7 (l:=d) (fun n i=>B0 281474976710656 d t n i) (fun i x=>bif idP t.Domain x then some ((i:Nat):Int) else none) hl]
 ·rw [zbs];first | (unfold kX;split<;>simp_all) | (unfold uz;split<;>simp_all) | (split<;>simp_all)
 ·intro n i hi
  show lD _ _ _ _ _=_
  unfold lD
  rw [yO (by omega),cond_false]
 ·intro n i x r hd hi
  show lD _ _ _ _ _=_
  unfold lD
  rw [yR (by omega),cond_true,w9 hd,zbs,vC (by omega)]
  unfold H4 idP
  rw [zbs]
  cases (x.Id==t.Domain)<;>rfl
theorem NU {d:List y7} {id:Int} (hl:d.length≤100000):gH 281474976710656 d id=some (kX (idP id) d):=by
 unfold gH;rw [zB3 hl];rfl
def BW (x:y7):Prop:=x.Id<0∨x.Id≥8∨x.Ppm<0∨x.Ppm>10000
instance decDomBad {x:y7}:Decidable (BW x):=inferInstanceAs (Decidable (_∨_))
def HC (d:List y7) (i:Nat) (x:y7):Option Int:=if BW x then some 2 else if kX (idP x.Id) (d.take i)≥0 then some 4 else none
theorem VH {d:List y7} (hl:d.length≤100000):BS 281474976710656 d=some (match uR (HC d) 0 d with | .inl _=>0 | .inr q=>q):=by
 unfold BS
 rw [r7 (l:=d) (fun n i=>AC 281474976710656 d n i) (HC d) hl]
 ·rw [zbs];first | (unfold kX;split<;>simp_all) | (unfold uz;split<;>simp_all) | (split<;>simp_all)
 ·intro n i hi
  show i9 _ _ _ _=_
  unfold i9
  rw [yO (by omega),cond_false]
 ·intro n i x r hd hi
  show i9 _ _ _ _=_
  unfold i9
  rw [yR (by omega),cond_true,w9 hd,zbs,vC (by omega),xY (by omega),XJ,NU (by rw [List.length_take];omega)]
  unfold HC
  by_cases h:BW x
  ·rw [if_pos h,EO (by simpa [BW] using h) rfl]
  ·rw [if_neg h,NX (by unfold BW at h;simp;omega) rfl,zbs,zbs]
   by_cases h2:kX (idP x.Id) (d.take i)≥0
   ·rw [if_pos h2,yR h2];rfl
   ·rw [if_neg h2,yO h2];rfl
def c9 (n:Int):Bool:=decide (n≥0)&&decide (n≤1000000000000)
def dX (d:List y7) (x:yP):Int :=
 if kX (idP x.A) d<0∨kX (idP x.B) d<0 then 5 else if x.A=x.B then 1 else
 if (c9 x.AtA&&(c9 x.AtB.Lo&&c9 x.AtB.Hi))=false∨x.AtB.Lo>x.AtB.Hi then 2 else 0
theorem Z7 {d:List y7} {x:yP} (hl:d.length≤100000):D4 281474976710656 d x=some (dX d x):=by
 unfold D4 dX oU
 rw [NU hl,zbs]
 simp only [NU hl,zbs]
 rw [show (decide (x.AtA≥(0:Int))&&decide (x.AtA≤(1000000000000:Int)))=c9 x.AtA from rfl,show (decide (x.AtB.Lo≥(0:Int))&&decide (x.AtB.Lo≤(1000000000000:Int)))=c9 x.AtB.Lo from rfl,
  show (decide (x.AtB.Hi≥(0:Int))&&decide (x.AtB.Hi≤(1000000000000:Int)))=c9 x.AtB.Hi from rfl]
 generalize kX (idP x.A) d=p
 generalize kX (idP x.B) d=q
 generalize c9 x.AtA=r1
 generalize c9 x.AtB.Lo=r2
 generalize c9 x.AtB.Hi=r3
 by_cases h1:p<0
 ·rw [yR h1];simp [h1]
 ·rw [yO h1]
  by_cases h2:q<0
  ·rw [yR h2];simp [h1,h2]
  ·rw [yO h2]
   simp only [cond_false,zbs,h1,h2,or_self,if_false]
   by_cases h3:x.A=x.B
   ·rw [uW h3,if_pos h3];rfl
   ·rw [qQ h3,if_neg h3]
    by_cases h4:x.AtB.Lo>x.AtB.Hi
    ·rw [yR h4];cases r1<;>cases r2<;>cases r3<;>simp [h4]
    ·rw [yO h4];cases r1<;>cases r2<;>cases r3<;>simp [h4]
def snF (d:List y7) (_:Nat) (x:yP):Option Int:=if dX d x≠0 then some (dX d x) else none
def uz (o:Unit⊕Int):Int:=match o with | .inl _=>0 | .inr q=>q
def fU (d:List y7):Int:=uz (uR (HC d) 0 d)
def tJ (d:List y7) (l:List yP):Int :=
 if d.length=0 then 8 else if d.length>8∨l.length>200 then 7 else if d[0]?≠some ⟨0,0⟩ then 10 else if fU d≠0 then fU d else uz (uR (snF d) 0 l)
theorem N2 {d:List y7} {l:List yP} (hl:d.length≤100000) (hm:l.length≤100000):lK 281474976710656 d l=some (tJ d l):=by
 unfold lK tJ
 by_cases h0:d.length=0
 ·rw [if_pos h0,uW (by omega)];rfl
 rw [if_neg h0,qQ (by omega),cond_false]
 by_cases h1:d.length>8∨l.length>200
 ·rw [if_pos h1,EO (by simp;omega) rfl]
 rw [if_neg h1,NX (by simp;omega) rfl,show xG d (0:Int)=d[0]? from nF d 0]
 cases hd:d[0]? with
 | none=>rw [List.getElem?_eq_none_iff] at hd;omega
 | some x =>
  rw [zbs]
  by_cases h2:x=⟨0,0⟩
  ·rw [if_neg (by simp [h2]),NX (by simp [h2]) rfl,VH hl,zbs]
   show (bif (fU d != 0) then some (fU d) else _)=_
   by_cases h3:fU d≠0
   ·rw [if_pos h3,wA h3];rfl
   ·rw [if_neg h3,x8 (by omega),cond_false,r7 (l:=l) (fun n i=>BH 281474976710656 d l n i) (snF d) hm]
    ·rw [zbs];first | (unfold kX;split<;>simp_all) | (unfold uz;split<;>simp_all) | (split<;>simp_all)
    ·intro n i hi
     show gR _ _ _ _ _=_
     unfold gR
     rw [yO (by omega),cond_false]
    ·intro n i x r hd hi
     show gR _ _ _ _ _=_
     unfold gR
     rw [yR (by omega),cond_true,w9 hd,zbs,vC (by omega),Z7 hl,zbs]
     unfold snF
     by_cases h:dX d x≠0
     ·rw [if_pos h,wA h];rfl
     ·rw [if_neg h,x8 (by omega)];rfl
  ·rw [if_pos (by simpa using h2),EO (by simpa using h2) rfl]
def thF (l:List xJ) (i:Nat) (t:xJ):Option Int:=if cE t≠0 then some (cE t) else if t.Id∈(l.take i).map (·.Id) then some 4 else none
def doF (d:List y7) (_:Nat) (t:xJ):Option Int:=if kX (idP t.Domain) d≥0 then none else some 5
def qP (h:zU):Int :=
 if h.Threads.length=0 then 8 else if h.Threads.length>64 then 7 else
 match uR (thF h.Threads) 0 h.Threads with
 | .inr q=>q
 | .inl _=>if tJ h.Domains h.Snaps≠0 then tJ h.Domains h.Snaps else uz (uR (doF h.Domains) 0 h.Threads)
theorem zAs {h:zU} (hl:h.Threads.length≤100000):∀ (n i:Nat) (row:List (Int×Bool)),oF row ((h.Threads.take i).map (·.Id))→(h.Threads.drop i).length<n →
  rL 281474976710656 h n (i:Nat) row=some (uR (thF h.Threads) i (h.Threads.drop i)):=by
 intro n
 induction n with
 | zero=>intro i row _ h;omega
 | succ n ih =>
  intro i row hs hn
  show C0 _ _ _ _ _=_
  unfold C0
  rcases hd:h.Threads.drop i with _ | ⟨x,r⟩
  ·have:=jL hd
   rw [yO (by omega),cond_false];rfl
  ·have hi:=jG hd
   rw [hd] at hn
   simp only [zlc] at hn
   rw [yR (by omega),cond_true,w9 hd,zbs,V5,zbs,vC (by omega)]
   simp only [uR,thF]
   by_cases h1:cE x≠0
   ·rw [if_pos h1,wA h1];rfl
   ·rw [if_neg h1,x8 (by omega),cond_false,hs.2]
    by_cases h2:x.Id∈(h.Threads.take i).map (·.Id)
    ·rw [if_pos h2,yR h2];rfl
    ·have hlen:=hs.1
     simp only [List.length_map,List.length_take] at hlen
     rw [if_neg h2,yO h2,cond_false,xY (by omega),zbs,ih (i+1) _ ?_ (by rw [vQ hd];omega),vQ hd]
     rw [oX hd,List.map_append]
     exact M5 hs x.Id
theorem T7 {h:zU} (hl:h.Threads.length≤100000) (hd:h.Domains.length≤100000) (hs:h.Snaps.length≤100000):iB 281474976710656 h=some (qP h):=by
 unfold iB qP
 by_cases h0:h.Threads.length=0
 ·rw [if_pos h0,uW (by omega)];rfl
 rw [if_neg h0,qQ (by omega),cond_false]
 by_cases h1:h.Threads.length>64
 ·rw [if_pos h1,yR (by omega)];rfl
 rw [if_neg h1,yO (by omega),cond_false,show rL 281474976710656 h 281474976710656 (0:Int) []=_ from zAs hl 281474976710656 0 [] (by simpa using JW) (by simp;omega),zbs,zdz]
 cases uR (thF h.Threads) 0 h.Threads with
 | inr q=>rfl
 | inl u =>
  simp only
  rw [N2 hd hs,zbs]
  by_cases h2:tJ h.Domains h.Snaps≠0
  ·rw [if_pos h2,wA h2];rfl
  ·rw [if_neg h2]
   have h2:tJ h.Domains h.Snaps=0:=by omega
   rw [h2]
   show Option.bind (m9 281474976710656 h 281474976710656 0) _=_
   rw [r7 (l:=h.Threads) (fun n i=>m9 281474976710656 h n i) (doF h.Domains) hl]
   ·rw [zbs];first | (unfold kX;split<;>simp_all) | (unfold uz;split<;>simp_all) | (split<;>simp_all)
   ·intro n i hi
    show gN _ _ _ _=_
    unfold gN
    rw [yO (by omega),cond_false]
   ·intro n i x r hx hi
    show gN _ _ _ _=_
    unfold gN
    rw [yR (by omega),cond_true,w9 hx,zbs,vC (by omega)]
    unfold HR doF
    rw [zBq hd,zbs,zbs]
    by_cases h3:kX (idP x.Domain) h.Domains≥0
    ·rw [if_pos h3,yR h3];rfl
    ·rw [if_neg h3,yO h3];rfl
end Go.Ab
