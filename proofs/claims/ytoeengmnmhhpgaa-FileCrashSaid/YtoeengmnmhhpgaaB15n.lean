/- Plain laws of the functions wU this seat's, laid anew from another seat's text. No conditions but those that the theorems name. -/
import Derived.Test.YtoeengmnmhhpgaaP15xD
import Derived.Test.YtoeengmnmhhpgaaB15a
import Derived.Test.YtoeengmnmhhpgaaB15b
import Derived.Test.YtoeengmnmhhpgaaB15c
import Derived.Test.YtoeengmnmhhpgaaB15d
import Derived.Test.YtoeengmnmhhpgaaB15t
import Derived.Test.YtoeengmnmhhpgaaB15m
namespace Go.Ab
open Go
set_option linter.unusedVariables false
def oH (k:Int) (a:Int×Int) (p:zQ):Int×Int:=if p.Thread=k then (p.Serial+p.Events.length,BD p.Events) else a
def pU (l:List zQ) (k:Int):Int×Int:=l.foldl (oH k) (0,0)
theorem zBy (l:List zQ) (p:zQ) (k:Int):pU (l++[p]) k=oH k (pU l k) p:=by simp [pU]
def evN (l:List zQ):Nat:=(l.map fun p=>p.Events.length).sum
theorem oY (l:List zQ) (p:zQ):evN (l++[p])=evN l+p.Events.length:=by simp [evN]
theorem VQ (l m:List zQ):evN (l++m)=evN l+evN m:=by simp [evN]
theorem zA7 {l:List zQ} {p:zQ} (h:p∈l):p.Events.length≤evN l:=by
 induction l with
 | nil=>cases h
 | cons a r ih =>
  simp only [evN,List.map_cons,List.sum_cons]
  rcases List.mem_cons.1 h with rfl | h
  ·omega
  ·have:=ih h;simp only [evN] at this;omega
def nL (l:List zQ):Prop:=∀ p∈l,u3 p=0
theorem zB3 {l:List zQ} (h:nL l) (k:Int):0≤(pU l k).1∧(pU l k).1≤1000000000000000:=by
 have:∀ (l:List zQ) (a:Int×Int),nL l→0≤a.1∧a.1≤1000000000000000→0≤(l.foldl (oH k) a).1∧(l.foldl (oH k) a).1≤1000000000000000:=by
  intro l
  induction l with
  | nil=>intro a _ h;exact h
  | cons p r ih =>
   intro a h ha
   refine ih _ (fun q hq=>h q (by simp [hq])) ?_
   have:=fA (h p (by simp))
   unfold oH
   split
   ·simp only;omega
   ·exact ha
 exact this l _ h (by simp)
theorem X9 {l:List zQ} (h:nL l) {p:zQ} (hp:p∈l):0<p.Events.length:=(fA (h p hp)).2.2.2.2.2.2.1
def aT (l:List zQ) (p:zQ):Bool:=decide (p.Serial=(pU l p.Thread).1+p.Lost)&&decide (BM p.Events≥(pU l p.Thread).2)
def pV (h:zT):List Int:=h.Threads.map (·.Id)
theorem zAZ {α β:Type} (f:Nat→α→Option β) (i:Nat) (x:α) (r:List α):uB f i (x::r)=match f i x with | none=>uB f (i+1) r | some b=>.inr b:=rfl
end Go.Ab
