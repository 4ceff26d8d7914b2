/- Plain laws of the functions uS this seat's, laid anew from another seat's text. No conditions but those that the theorems name. -/
import Derived.Test.YtoeengmnmhhpgaaGreatP15zxD
import Derived.Test.YtoeengmnmhhpgaaGreatB15za
import Derived.Test.YtoeengmnmhhpgaaGreatB15zb
import Derived.Test.YtoeengmnmhhpgaaGreatB15zc
import Derived.Test.YtoeengmnmhhpgaaGreatB15zd
import Derived.Test.YtoeengmnmhhpgaaGreatB15zt
import Derived.Test.YtoeengmnmhhpgaaGreatB15zm
namespace Go.Ab
open Go
set_option linter.unusedVariables false
def i5 (k:Int) (a:Int×Int) (p:z7):Int×Int:=if p.Thread=k then (p.Serial+p.Events.length,GI p.Events) else a
def kH (l:List z7) (k:Int):Int×Int:=l.foldl (i5 k) (0,0)
theorem zAg (l:List z7) (p:z7) (k:Int):kH (l++[p]) k=i5 k (kH l k) p:=by simp [kH]
def evN (l:List z7):Nat:=(l.map fun p=>p.Events.length).sum
theorem gQ (l:List z7) (p:z7):evN (l++[p])=evN l+p.Events.length:=by simp [evN]
theorem UO (l m:List z7):evN (l++m)=evN l+evN m:=by simp [evN]
theorem U6 {l:List z7} {p:z7} (h:p∈l):p.Events.length<=evN l:=by
 induction l with
 | nil=>cases h
 | cons a r ih =>
  simp only [evN,List.map_cons,List.sum_cons];rcases List.mem_cons.1 h with rfl | h
  ·omega
  ·have:=ih h;simp only [evN] at this;omega
theorem zDC (l:List z7) (i:Nat):evN (l.take i)<=evN l:=by
 have:=UO (l.take i) (l.drop i)
 rw [List.take_append_drop] at this;omega
def nI (l:List z7):Prop:=∀ p∈l,t8 p=0
theorem zAm {l:List z7} (h:nI l) (k:Int):0<=(kH l k).1/\(kH l k).1<=1000000000000000:=by
 have:∀ (l:List z7) (a:Int×Int),nI l->0<=a.1/\a.1<=1000000000000000->0<=(l.foldl (i5 k) a).1/\(l.foldl (i5 k) a).1<=1000000000000000:=by
  intro l
  induction l with
  | nil=>intro a _ h;exact h
  | cons p r ih =>
   intro a h ha;refine ih _ (fun q hq=>h q (by simp [hq])) ?_
   have:=c9 (h p (by simp))
   unfold i5
   split
   ·simp only;omega
   ·exact ha
 exact this l _ h (by simp)
theorem zBE {l:List z7} (h:nI l) {p:z7} (hp:p∈l):0<p.Events.length:=(c9 (h p hp)).2.2.2.2.2.2.1
def aW (l:List z7) (p:z7):Bool:=decide (p.Serial=(kH l p.Thread).1+p.Lost)&&decide (EI p.Events>=(kH l p.Thread).2)
theorem zCD {l:List z7} {k:Int} (hl:l.length<=100000) (hN:evN l<=100000) (hv:nI l):∀ (n i:Nat),(l.drop i).length<n->BE 281474976710656 l k n (kH (l.take i) k).1 (kH (l.take i) k).2 (i:Nat)=some (kH l k):=by
 intro n
 induction n with
 | zero=>intro i h;omega
 | succ n ih =>
  intro i hn;show JU _ _ _ _ _ _ _=_;unfold JU;rcases hd:l.drop i with _ | ⟨x,r⟩
  ·have:=qC hd
   rw [yP (by omega),cond_false,List.take_of_length_le this]
  ·have hi:=tZ hd;rw [hd] at hn;simp only [zlc] at hn;have hx:=nQ hd;have hz:=c9 (hv x hx);have hle:=U6 hx;have hstep:=ih (i+1) (by rw [w6 hd];omega);rw [bO hd,zAg] at hstep;rw [yN (by omega),cond_true];simp only [vE hd,zbs,wX (show i<9223372036854775807 by omega)]
   by_cases he:x.Thread=k
   ·obtain ⟨e,h1,h2⟩:=W0 hz.2.2.2.2.2.2.1 (show x.Events.length<=100000 by omega);rw [u9 he,cond_true,h1,zbs,zbs,h2,w64 (by omega) (by omega)];simp only [i5,if_pos he] at hstep;exact hstep
   ·rw [uK he,cond_false,zbs];simp only [i5,if_neg he] at hstep;exact hstep
theorem zIk {l:List z7} {k:Int} (hl:l.length<=100000) (hN:evN l<=100000) (hv:nI l):KM 281474976710656 l k=some (kH l k):=by
 unfold KM
 have:=zCD (k:=k) hl hN hv 281474976710656 0 (by simp;omega)
 rw [show BE 281474976710656 l k 281474976710656 0 0 0=some (kH l k) from this];rfl
theorem V8 {l:List z7} {p:z7} (hl:l.length<=100000) (hN:evN l<=100000) (hv:nI l) (hp:t8 p=0):BN 281474976710656 l p=some (aW l p):=by
 have hz:=c9 hp;have hr:=zAm hv p.Thread;obtain ⟨e,h1,h2⟩:=V2 hz.2.2.2.2.2.2.1;unfold BN aW;rw [zIk hl hN hv,zbs,h1,w64 (by omega) (by omega),zbs,h2]
 by_cases h:p.Serial=(kH l p.Thread).1+p.Lost
 ·rw [u9 h,yN h];simp
 ·rw [uK h,yP h];simp
def kV (h:yB):List Int:=h.Threads.map (·.Id)
theorem VL {l:List z7} (hl:l.length<=100000) (hN:evN l<=100000):CW 281474976710656 l=some ((evN l:Nat):Int):=by
 have key:∀ (n i:Nat),(l.drop i).length<n->BT 281474976710656 l n (evN (l.take i):Nat) (i:Nat)=some ((evN l:Nat):Int):=by
  intro n
  induction n with
  | zero=>intro i h;omega
  | succ n ih =>
   intro i hn;show JF _ _ _ _ _=_;unfold JF;rcases hd:l.drop i with _ | ⟨x,r⟩
   ·have:=qC hd
    rw [yP (by omega),cond_false,List.take_of_length_le this]
   ·have hi:=tZ hd;rw [hd] at hn;simp only [zlc] at hn;have hle:=U6 (nQ hd);have hlt:=zDC l i;have hN':evN (l.take (i+1))=evN (l.take i)+x.Events.length:=by rw [bO hd,gQ]
    rw [yN (by omega),cond_true,vE hd,zbs,wX (by omega),w64 (by omega) (by omega)]
    have:=ih (i+1) (by rw [w6 hd];omega)
    rw [hN'] at this;rw [show ((evN (l.take i):Nat):Int)+(x.Events.length:Int)=((evN (l.take i)+x.Events.length:Nat):Int) by omega];exact this
 unfold CW
 have:=key 281474976710656 0 (by simp;omega)
 rw [show BT 281474976710656 l 281474976710656 (0:Int) (0:Int)=_ from this];rfl
theorem WK {h:yB} {k:Int} (hl:h.Threads.length<=100000):B3 281474976710656 h k=some (decide (k∈kV h)):=by
 unfold B3;rw [aJ (l:=h.Threads) (fun n i=>GG 281474976710656 h k n i) (fun _ t=>if t.Id=k then some true else none) hl]
 ·rw [zbs]
  by_cases hk:k∈kV h
  ·rw [yN hk];obtain ⟨y,hy,hyk⟩:=List.mem_map.1 hk
   have:∀ (m:List xI) (i:Nat),y∈m->uR (fun (_:Nat) (t:xI)=>if t.Id=k then some true else none) i m=.inr true:=by
    intro m
    induction m with
    | nil=>intro i h;cases h
    | cons a m ih =>
     intro i h;simp only [uR]
     by_cases ha:a.Id=k
     ·rw [if_pos ha]
     ·rw [if_neg ha];rcases List.mem_cons.1 h with rfl | h
      ·exact absurd hyk ha
      ·exact ih _ h
   rw [this _ _ hy]
  ·rw [yP hk,zAp (f:=fun (_:Nat) (t:xI)=>if t.Id=k then some true else none)];intro j x hj;rw [if_neg];intro he;exact hk (List.mem_map.2 ⟨x,List.mem_of_getElem? hj,he⟩)
 ·intro n i hi;show o5 _ _ _ _ _=_;unfold o5;rw [yP (by omega),cond_false]
 ·intro n i x r hd hi;show o5 _ _ _ _ _=_;unfold o5;rw [yN (by omega),cond_true,vE hd,zbs,wX (by omega)]
  by_cases he:x.Id=k
  ·rw [u9 he,if_pos he];rfl
  ·rw [uK he,if_neg he];rfl
end Go.Ab
