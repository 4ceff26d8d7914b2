/- Plain laws of the functions wU this seat's, laid anew from another seat's text. No conditions but those that the theorems name. -/
import Derived.Test.YtoeengmnmhhpgaaP15xD
import Derived.Test.YtoeengmnmhhpgaaB15a
import Derived.Test.YtoeengmnmhhpgaaB15b
import Derived.Test.YtoeengmnmhhpgaaB15c
import Derived.Test.YtoeengmnmhhpgaaB15d
import Derived.Test.YtoeengmnmhhpgaaB15t
namespace Go.Ab
open Go
set_option linter.unusedVariables false
theorem mS {α β:Type} {l:List α} (L:Nat→Int→Option (Unit⊕β)) (f:Nat→α→Option β) (hl:l.length≤100000)
  (h0:∀ n i,l.length≤i→L (n+1) (i:Nat)=some (.inl ()))
  (h1:∀ n i x r,l.drop i=x::r→i<l.length→L (n+1) (i:Nat)=match f i x with | none=>L n ((i+1:Nat):Int) | some b=>some (.inr b)):L 281474976710656 0=some (uB f 0 l):=by
 have key:∀ (n i:Nat),(l.drop i).length<n→L n (i:Int)=some (uB f i (l.drop i)):=by
  intro n
  induction n with
  | zero=>intro i h;omega
  | succ n ih =>
   intro i hn
   rcases hd:l.drop i with _ | ⟨x,r⟩
   ·rw [h0 n i (jO hd)];rfl
   ·rw [h1 n i x r hd (q9 hd)]
    rw [hd] at hn
    simp only [zlc] at hn
    simp only [uB]
    cases hf:f i x with
    | none=>simp only;rw [ih (i+1) (by rw [vN hd];omega),vN hd]
    | some b=>rfl
 have:=key 281474976710656 0 (by simp;omega)
 simpa using this
def kO {α:Type} (p:α→Bool) (l:List α):Int:=match uB (fun i x=>bif p x then some ((i:Nat):Int) else none) 0 l with | .inl _ => -1 | .inr q=>q
def idP (id:Int) (d:y0):Bool:=d.Id==id
theorem zC1 {d:List y0} {id:Int} (hl:d.length≤100000):BP 281474976710656 d id=some (kO (idP id) d):=by
 unfold BP
 rw [mS (l:=d) (fun n i=>DF 281474976710656 d id n i) (fun i x=>bif idP id x then some ((i:Nat):Int) else none) hl]
 ·rw [zbs];first | (unfold kO;split<;>simp_all) | (unfold uz;split<;>simp_all) | (split<;>simp_all)
 ·intro n i hi
  show gH _ _ _ _ _=_
  unfold gH
  rw [yO (by omega),cond_false]
 ·intro n i x r hd hi
  show gH _ _ _ _ _=_
  unfold gH
  rw [yU (by omega),cond_true,vS hd,zbs,vK (by omega)]
  unfold GA idP
  rw [zbs]
  cases (x.Id==id)<;>rfl
theorem zD2 {d:List y0} {t:xH} (hl:d.length≤100000):DC 281474976710656 d t=some (kO (idP t.Domain) d):=by
 unfold DC
 rw [mS (l:=d) (fun n i=>DJ 281474976710656 d t n i) (fun i x=>bif idP t.Domain x then some ((i:Nat):Int) else none) hl]
 ·rw [zbs];first | (unfold kO;split<;>simp_all) | (unfold uz;split<;>simp_all) | (split<;>simp_all)
 ·intro n i hi
  show gT _ _ _ _ _=_
  unfold gT
  rw [yO (by omega),cond_false]
 ·intro n i x r hd hi
  show gT _ _ _ _ _=_
  unfold gT
  rw [yU (by omega),cond_true,vS hd,zbs,vK (by omega)]
  unfold HY idP
  rw [zbs]
  cases (x.Id==t.Domain)<;>rfl
theorem KM {d:List y0} {id:Int} (hl:d.length≤100000):gG 281474976710656 d id=some (kO (idP id) d):=by
 unfold gG;rw [zC1 hl];rfl
def CD (x:y0):Prop:=x.Id<0∨x.Id≥8∨x.Ppm<0∨x.Ppm>10000
instance decDomBad {x:y0}:Decidable (CD x):=inferInstanceAs (Decidable (_∨_))
def C4 (d:List y0) (i:Nat) (x:y0):Option Int:=if CD x then some 2 else if kO (idP x.Id) (d.take i)≥0 then some 4 else none
theorem zEy {d:List y0} (hl:d.length≤100000):B3 281474976710656 d=some (match uB (C4 d) 0 d with | .inl _=>0 | .inr q=>q):=by
 unfold B3
 rw [mS (l:=d) (fun n i=>A1 281474976710656 d n i) (C4 d) hl]
 ·rw [zbs];first | (unfold kO;split<;>simp_all) | (unfold uz;split<;>simp_all) | (split<;>simp_all)
 ·intro n i hi
  show gN _ _ _ _=_
  unfold gN
  rw [yO (by omega),cond_false]
 ·intro n i x r hd hi
  show gN _ _ _ _=_
  unfold gN
  rw [yU (by omega),cond_true,vS hd,zbs,vK (by omega),x7 (by omega),zBA,KM (by rw [List.length_take];omega)]
  unfold C4
  by_cases h:CD x
  ·rw [if_pos h,JO (by simpa [CD] using h) rfl]
  ·rw [if_neg h,NO (by unfold CD at h;simp;omega) rfl,zbs,zbs]
   by_cases h2:kO (idP x.Id) (d.take i)≥0
   ·rw [if_pos h2,yU h2];rfl
   ·rw [if_neg h2,yO h2];rfl
def cV (n:Int):Bool:=decide (n≥0)&&decide (n≤1000000000000)
def bR (d:List y0) (x:yQ):Int :=
 if kO (idP x.A) d<0∨kO (idP x.B) d<0 then 5 else if x.A=x.B then 1 else
 if (cV x.AtA&&(cV x.AtB.Lo&&cV x.AtB.Hi))=false∨x.AtB.Lo>x.AtB.Hi then 2 else 0
theorem zD7 {d:List y0} {x:yQ} (hl:d.length≤100000):DL 281474976710656 d x=some (bR d x):=by
 unfold DL bR rN
 rw [KM hl,zbs]
 simp only [KM hl,zbs]
 rw [show (decide (x.AtA≥(0:Int))&&decide (x.AtA≤(1000000000000:Int)))=cV x.AtA from rfl,show (decide (x.AtB.Lo≥(0:Int))&&decide (x.AtB.Lo≤(1000000000000:Int)))=cV x.AtB.Lo from rfl,
  show (decide (x.AtB.Hi≥(0:Int))&&decide (x.AtB.Hi≤(1000000000000:Int)))=cV x.AtB.Hi from rfl]
 generalize kO (idP x.A) d=p
 generalize kO (idP x.B) d=q
 generalize cV x.AtA=r1
 generalize cV x.AtB.Lo=r2
 generalize cV x.AtB.Hi=r3
 by_cases h1:p<0
 ·rw [yU h1];simp [h1]
 ·rw [yO h1]
  by_cases h2:q<0
  ·rw [yU h2];simp [h1,h2]
  ·rw [yO h2]
   simp only [cond_false,zbs,h1,h2,or_self,if_false]
   by_cases h3:x.A=x.B
   ·rw [uE h3,if_pos h3];rfl
   ·rw [tA h3,if_neg h3]
    by_cases h4:x.AtB.Lo>x.AtB.Hi
    ·rw [yU h4];cases r1<;>cases r2<;>cases r3<;>simp [h4]
    ·rw [yO h4];cases r1<;>cases r2<;>cases r3<;>simp [h4]
def snF (d:List y0) (_:Nat) (x:yQ):Option Int:=if bR d x≠0 then some (bR d x) else none
def uz (o:Unit⊕Int):Int:=match o with | .inl _=>0 | .inr q=>q
def i7 (d:List y0):Int:=uz (uB (C4 d) 0 d)
def uZ (d:List y0) (l:List yQ):Int :=
 if d.length=0 then 8 else if d.length>8∨l.length>200 then 7 else if d[0]?≠some ⟨0,0⟩ then 10 else if i7 d≠0 then i7 d else uz (uB (snF d) 0 l)
theorem MV {d:List y0} {l:List yQ} (hl:d.length≤100000) (hm:l.length≤100000):gU 281474976710656 d l=some (uZ d l):=by
 unfold gU uZ
 by_cases h0:d.length=0
 ·rw [if_pos h0,uE (by omega)];rfl
 rw [if_neg h0,tA (by omega),cond_false]
 by_cases h1:d.length>8∨l.length>200
 ·rw [if_pos h1,JO (by simp;omega) rfl]
 rw [if_neg h1,NO (by simp;omega) rfl,show xI d (0:Int)=d[0]? from bJ d 0]
 cases hd:d[0]? with
 | none=>rw [List.getElem?_eq_none_iff] at hd;omega
 | some x =>
  rw [zbs]
  by_cases h2:x=⟨0,0⟩
  ·rw [if_neg (by simp [h2]),NO (by simp [h2]) rfl,zEy hl,zbs]
   show (bif (i7 d != 0) then some (i7 d) else _)=_
   by_cases h3:i7 d≠0
   ·rw [if_pos h3,wA h3];rfl
   ·rw [if_neg h3,x8 (by omega),cond_false,mS (l:=l) (fun n i=>C5 281474976710656 d l n i) (snF d) hm]
    ·rw [zbs];first | (unfold kO;split<;>simp_all) | (unfold uz;split<;>simp_all) | (split<;>simp_all)
    ·intro n i hi
     show l8 _ _ _ _ _=_
     unfold l8
     rw [yO (by omega),cond_false]
    ·intro n i x r hd hi
     show l8 _ _ _ _ _=_
     unfold l8
     rw [yU (by omega),cond_true,vS hd,zbs,vK (by omega),zD7 hl,zbs]
     unfold snF
     by_cases h:bR d x≠0
     ·rw [if_pos h,wA h];rfl
     ·rw [if_neg h,x8 (by omega)];rfl
  ·rw [if_pos (by simpa using h2),JO (by simpa using h2) rfl]
def thF (l:List xH) (i:Nat) (t:xH):Option Int:=if cW t≠0 then some (cW t) else if t.Id∈(l.take i).map (·.Id) then some 4 else none
def doF (d:List y0) (_:Nat) (t:xH):Option Int:=if kO (idP t.Domain) d≥0 then none else some 5
def qB (h:zT):Int :=
 if h.Threads.length=0 then 8 else if h.Threads.length>64 then 7 else
 match uB (thF h.Threads) 0 h.Threads with
 | .inr q=>q
 | .inl _=>if uZ h.Domains h.Snaps≠0 then uZ h.Domains h.Snaps else uz (uB (doF h.Domains) 0 h.Threads)
theorem WQ {h:zT} (hl:h.Threads.length≤100000):∀ (n i:Nat) (row:List (Int×Bool)),o8 row ((h.Threads.take i).map (·.Id))→(h.Threads.drop i).length<n →
  oQ 281474976710656 h n (i:Nat) row=some (uB (thF h.Threads) i (h.Threads.drop i)):=by
 intro n
 induction n with
 | zero=>intro i row _ h;omega
 | succ n ih =>
  intro i row hs hn
  show BG _ _ _ _ _=_
  unfold BG
  rcases hd:h.Threads.drop i with _ | ⟨x,r⟩
  ·have:=jO hd
   rw [yO (by omega),cond_false];rfl
  ·have hi:=q9 hd
   rw [hd] at hn
   simp only [zlc] at hn
   rw [yU (by omega),cond_true,vS hd,zbs,Y0,zbs,vK (by omega)]
   simp only [uB,thF]
   by_cases h1:cW x≠0
   ·rw [if_pos h1,wA h1];rfl
   ·rw [if_neg h1,x8 (by omega),cond_false,hs.2]
    by_cases h2:x.Id∈(h.Threads.take i).map (·.Id)
    ·rw [if_pos h2,yU h2];rfl
    ·have hlen:=hs.1
     simp only [List.length_map,List.length_take] at hlen
     rw [if_neg h2,yO h2,cond_false,x7 (by omega),zbs,ih (i+1) _ ?_ (by rw [vN hd];omega),vN hd]
     rw [mY hd,List.map_append]
     exact K4 hs x.Id
theorem OQ {h:zT} (hl:h.Threads.length≤100000) (hd:h.Domains.length≤100000) (hs:h.Snaps.length≤100000):gE 281474976710656 h=some (qB h):=by
 unfold gE qB
 by_cases h0:h.Threads.length=0
 ·rw [if_pos h0,uE (by omega)];rfl
 rw [if_neg h0,tA (by omega),cond_false]
 by_cases h1:h.Threads.length>64
 ·rw [if_pos h1,yU (by omega)];rfl
 rw [if_neg h1,yO (by omega),cond_false,show oQ 281474976710656 h 281474976710656 (0:Int) []=_ from WQ hl 281474976710656 0 [] (by simpa using ML) (by simp;omega),zbs,zdz]
 cases uB (thF h.Threads) 0 h.Threads with
 | inr q=>rfl
 | inl u =>
  simp only
  rw [MV hd hs,zbs]
  by_cases h2:uZ h.Domains h.Snaps≠0
  ·rw [if_pos h2,wA h2];rfl
  ·rw [if_neg h2]
   have h2:uZ h.Domains h.Snaps=0:=by omega
   rw [h2]
   show Option.bind (mI 281474976710656 h 281474976710656 0) _=_
   rw [mS (l:=h.Threads) (fun n i=>mI 281474976710656 h n i) (doF h.Domains) hl]
   ·rw [zbs];first | (unfold kO;split<;>simp_all) | (unfold uz;split<;>simp_all) | (split<;>simp_all)
   ·intro n i hi
    show lQ _ _ _ _=_
    unfold lQ
    rw [yO (by omega),cond_false]
   ·intro n i x r hx hi
    show lQ _ _ _ _=_
    unfold lQ
    rw [yU (by omega),cond_true,vS hx,zbs,vK (by omega)]
    unfold EM doF
    rw [zD2 hd,zbs,zbs]
    by_cases h3:kO (idP x.Domain) h.Domains≥0
    ·rw [if_pos h3,yU h3];rfl
    ·rw [if_neg h3,yO h3];rfl
end Go.Ab
