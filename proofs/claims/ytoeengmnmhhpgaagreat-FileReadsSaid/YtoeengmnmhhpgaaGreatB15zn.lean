/- Plain laws of the functions uV this seat's, laid anew from another seat's text. No conditions but those that the theorems name. -/
import Derived.Test.YtoeengmnmhhpgaaGreatP15zxD
import Derived.Test.YtoeengmnmhhpgaaGreatB15za
import Derived.Test.YtoeengmnmhhpgaaGreatB15zb
import Derived.Test.YtoeengmnmhhpgaaGreatB15zc
import Derived.Test.YtoeengmnmhhpgaaGreatB15zd
import Derived.Test.YtoeengmnmhhpgaaGreatB15zt
import Derived.Test.YtoeengmnmhhpgaaGreatB15zm
namespace Go.Ab
open Go
set_option linter.unusedVariables false
def fX (k:Int) (a:Int×Int) (p:z8):Int×Int:=if p.Thread=k then (p.Serial+p.Events.length,DN p.Events) else a
def jU (l:List z8) (k:Int):Int×Int:=l.foldl (fX k) (0,0)
theorem VG (l:List z8) (p:z8) (k:Int):jU (l++[p]) k=fX k (jU l k) p:=by simp [jU]
def evN (l:List z8):Nat:=(l.map fun p=>p.Events.length).sum
theorem BU (l:List z8) (p:z8):evN (l++[p])=evN l+p.Events.length:=by simp [evN]
theorem U1 (l m:List z8):evN (l++m)=evN l+evN m:=by simp [evN]
theorem M0 {l:List z8} {p:z8} (h:p∈l):p.Events.length≤evN l:=by
 induction l with
 | nil=>cases h
 | cons a r ih =>
  simp only [evN,List.map_cons,List.sum_cons]
  rcases List.mem_cons.1 h with rfl | h
  ·omega
  ·have:=ih h;simp only [evN] at this;omega
theorem zFb (l:List z8) (i:Nat):evN (l.take i)≤evN l:=by
 have:=U1 (l.take i) (l.drop i)
 rw [List.take_append_drop] at this
 omega
def nR (l:List z8):Prop:=∀ p∈l,qI p=0
theorem YM {l:List z8} (h:nR l) (k:Int):0≤(jU l k).1∧(jU l k).1≤1000000000000000:=by
 have:∀ (l:List z8) (a:Int×Int),nR l→0≤a.1∧a.1≤1000000000000000→0≤(l.foldl (fX k) a).1∧(l.foldl (fX k) a).1≤1000000000000000:=by
  intro l
  induction l with
  | nil=>intro a _ h;exact h
  | cons p r ih =>
   intro a h ha
   refine ih _ (fun q hq=>h q (by simp [hq])) ?_
   have:=bN (h p (by simp))
   unfold fX
   split
   ·simp only;omega
   ·exact ha
 exact this l _ h (by simp)
theorem zC3 {l:List z8} (h:nR l) {p:z8} (hp:p∈l):0<p.Events.length:=(bN (h p hp)).2.2.2.2.2.2.1
def bP (l:List z8) (p:z8):Bool:=decide (p.Serial=(jU l p.Thread).1+p.Lost)&&decide (GE p.Events≥(jU l p.Thread).2)
theorem zCz {l:List z8} {k:Int} (hl:l.length≤100000) (hN:evN l≤100000) (hv:nR l):∀ (n i:Nat),(l.drop i).length<n→BA 281474976710656 l k n (jU (l.take i) k).1 (jU (l.take i) k).2 (i:Nat)=some (jU l k):=by
 intro n
 induction n with
 | zero=>intro i h;omega
 | succ n ih =>
  intro i hn
  show C3 _ _ _ _ _ _ _=_
  unfold C3
  rcases hd:l.drop i with _ | ⟨x,r⟩
  ·have:=tZ hd
   rw [yM (by omega),cond_false,List.take_of_length_le this]
  ·have hi:=tQ hd
   rw [hd] at hn
   simp only [List.length_cons] at hn
   have hx:=nI hd
   have hz:=bN (hv x hx)
   have hle:=M0 hx
   have hstep:=ih (i+1) (by rw [wZ hd];omega)
   rw [bC hd,VG] at hstep
   rw [yP (by omega),cond_true]
   simp only [w5 hd,zbs,wW (show i<9223372036854775807 by omega)]
   by_cases he:x.Thread=k
   ·obtain ⟨e,h1,h2⟩:=SU hz.2.2.2.2.2.2.1 (show x.Events.length≤100000 by omega)
    rw [uF he,cond_true,h1,zbs,zbs,h2,w64 (by omega) (by omega)]
    simp only [fX,if_pos he] at hstep
    exact hstep
   ·rw [uH he,cond_false,zbs]
    simp only [fX,if_neg he] at hstep
    exact hstep
theorem Z4 {l:List z8} {k:Int} (hl:l.length≤100000) (hN:evN l≤100000) (hv:nR l):DF 281474976710656 l k=some (jU l k):=by
 unfold DF
 have:=zCz (k:=k) hl hN hv 281474976710656 0 (by simp;omega)
 rw [show BA 281474976710656 l k 281474976710656 0 0 0=some (jU l k) from this];rfl
theorem zFj {l:List z8} {p:z8} (hl:l.length≤100000) (hN:evN l≤100000) (hv:nR l) (hp:qI p=0):EK 281474976710656 l p=some (bP l p):=by
 have hz:=bN hp
 have hr:=YM hv p.Thread
 obtain ⟨e,h1,h2⟩:=SP hz.2.2.2.2.2.2.1
 unfold EK bP
 rw [Z4 hl hN hv,zbs,h1,w64 (by omega) (by omega),zbs,h2]
 by_cases h:p.Serial=(jU l p.Thread).1+p.Lost
 ·rw [uF h,yP h];simp
 ·rw [uH h,yM h];simp
def bA (h:yF):List Int:=h.Threads.map (·.Id)
theorem zGz {l:List z8} (hl:l.length≤100000) (hN:evN l≤100000):G9 281474976710656 l=some ((evN l:Nat):Int):=by
 have key:∀ (n i:Nat),(l.drop i).length<n→AP 281474976710656 l n (evN (l.take i):Nat) (i:Nat)=some ((evN l:Nat):Int):=by
  intro n
  induction n with
  | zero=>intro i h;omega
  | succ n ih =>
   intro i hn
   show H0 _ _ _ _ _=_
   unfold H0
   rcases hd:l.drop i with _ | ⟨x,r⟩
   ·have:=tZ hd
    rw [yM (by omega),cond_false,List.take_of_length_le this]
   ·have hi:=tQ hd
    rw [hd] at hn
    simp only [List.length_cons] at hn
    have hle:=M0 (nI hd)
    have hlt:=zFb l i
    have hN':evN (l.take (i+1))=evN (l.take i)+x.Events.length:=by rw [bC hd,BU]
    rw [yP (by omega),cond_true,w5 hd,zbs,wW (by omega),w64 (by omega) (by omega)]
    have:=ih (i+1) (by rw [wZ hd];omega)
    rw [hN'] at this
    rw [show ((evN (l.take i):Nat):Int)+(x.Events.length:Int)=((evN (l.take i)+x.Events.length:Nat):Int) by omega]
    exact this
 unfold G9
 have:=key 281474976710656 0 (by simp;omega)
 rw [show AP 281474976710656 l 281474976710656 (0:Int) (0:Int)=_ from this];rfl
theorem zCI {h:yF} {k:Int} (hl:h.Threads.length≤100000):HA 281474976710656 h k=some (decide (k∈bA h)):=by
 unfold HA
 rw [n6 (l:=h.Threads) (fun n i=>E9 281474976710656 h k n i) (fun _ t=>if t.Id=k then some true else none) hl]
 ·rw [zbs]
  by_cases hk:k∈bA h
  ·rw [yP hk]
   obtain ⟨y,hy,hyk⟩:=List.mem_map.1 hk
   have:∀ (m:List y7) (i:Nat),y∈m→uS (fun (_:Nat) (t:y7)=>if t.Id=k then some true else none) i m=.inr true:=by
    intro m
    induction m with
    | nil=>intro i h;cases h
    | cons a m ih =>
     intro i h
     simp only [uS]
     by_cases ha:a.Id=k
     ·rw [if_pos ha]
     ·rw [if_neg ha]
      rcases List.mem_cons.1 h with rfl | h
      ·exact absurd hyk ha
      ·exact ih _ h
   rw [this _ _ hy]
  ·rw [yM hk,UF (f:=fun (_:Nat) (t:y7)=>if t.Id=k then some true else none)]
   intro j x hj
   rw [if_neg]
   intro he
   exact hk (List.mem_map.2 ⟨x,List.mem_of_getElem? hj,he⟩)
 ·intro n i hi
  show mN _ _ _ _ _=_
  unfold mN
  rw [yM (by omega),cond_false]
 ·intro n i x r hd hi
  show mN _ _ _ _ _=_
  unfold mN
  rw [yP (by omega),cond_true,w5 hd,zbs,wW (by omega)]
  by_cases he:x.Id=k
  ·rw [uF he,if_pos he];rfl
  ·rw [uH he,if_neg he];rfl
end Go.Ab
