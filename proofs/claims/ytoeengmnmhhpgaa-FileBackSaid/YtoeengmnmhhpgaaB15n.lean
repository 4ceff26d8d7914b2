/- Plain laws of the functions w6 this seat's, laid anew from another seat's text. No conditions but those that the theorems name. -/
import Derived.Test.YtoeengmnmhhpgaaP15xD
import Derived.Test.YtoeengmnmhhpgaaB15a
import Derived.Test.YtoeengmnmhhpgaaB15b
import Derived.Test.YtoeengmnmhhpgaaB15c
import Derived.Test.YtoeengmnmhhpgaaB15d
import Derived.Test.YtoeengmnmhhpgaaB15t
import Derived.Test.YtoeengmnmhhpgaaB15m
namespace Go.Ab
open Go
set_option linter.unusedVariables false
def r8 (k:Int) (a:Int×Int) (p:zQ):Int×Int:=if p.Thread=k then (p.Serial+p.Events.length,BX p.Events) else a
def pF (l:List zQ) (k:Int):Int×Int:=l.foldl (r8 k) (0,0)
theorem zAd (l:List zQ) (p:zQ) (k:Int):pF (l++[p]) k=r8 k (pF l k) p:=by simp [pF]
def evN (l:List zQ):Nat:=(l.map fun p=>p.Events.length).sum
theorem oB (l:List zQ) (p:zQ):evN (l++[p])=evN l+p.Events.length:=by simp [evN]
theorem Q0 (l m:List zQ):evN (l++m)=evN l+evN m:=by simp [evN]
theorem zAM {l:List zQ} {p:zQ} (h:p∈l):p.Events.length≤evN l:=by
 induction l with
 | nil=>cases h
 | cons a r ih =>
  simp only [evN,List.map_cons,List.sum_cons]
  rcases List.mem_cons.1 h with rfl | h
  ·omega
  ·have:=ih h;simp only [evN] at this;omega
def nW (l:List zQ):Prop:=∀ p∈l,tU p=0
theorem YT {l:List zQ} (h:nW l) (k:Int):0≤(pF l k).1∧(pF l k).1≤1000000000000000:=by
 have:∀ (l:List zQ) (a:Int×Int),nW l→0≤a.1∧a.1≤1000000000000000→0≤(l.foldl (r8 k) a).1∧(l.foldl (r8 k) a).1≤1000000000000000:=by
  intro l
  induction l with
  | nil=>intro a _ h;exact h
  | cons p r ih =>
   intro a h ha
   refine ih _ (fun q hq=>h q (by simp [hq])) ?_
   have:=fB (h p (by simp))
   unfold r8
   split
   ·simp only;omega
   ·exact ha
 exact this l _ h (by simp)
theorem zB9 {l:List zQ} (h:nW l) {p:zQ} (hp:p∈l):0<p.Events.length:=(fB (h p hp)).2.2.2.2.2.2.1
def aO (l:List zQ) (p:zQ):Bool:=decide (p.Serial=(pF l p.Thread).1+p.Lost)&&decide (DT p.Events≥(pF l p.Thread).2)
def p7 (h:zU):List Int:=h.Threads.map (·.Id)
end Go.Ab
