/- Plain laws of the functions wP this seat's, laid anew from another seat's text. No conditions but those that the theorems name. -/
import Derived.Test.YtdpgdpjoemdkjaaP10xD
import Derived.Test.YtdpgdpjoemdkjaaB10a
import Derived.Test.YtdpgdpjoemdkjaaB10b
import Derived.Test.YtdpgdpjoemdkjaaB10c
namespace Go.Ab
open Go
set_option linter.unusedVariables false
def xD (l:List Int):List Int:=l.flatMap fun n=>wM 9 (vI n)
theorem zFy (l:List Int) (n:Int):xD (l++[n])=xD l++wM 9 (vI n):=by simp [xD]
theorem zJT (n:Int) (l:List Int):xD (n::l)=wM 9 (vI n)++xD l:=by simp [xD]
theorem zLs (l:List Int):l.length≤(xD l).length∧(xD l).length≤10 * l.length:=by
 induction l with
 | nil=>simp [xD]
 | cons n l ih =>
  have:=zHH 9 (vI n)
  rw [zJT]
  simp only [List.length_append,List.length_cons]
  omega
theorem zLQ {l:List Int} (h:∀ x∈l,yC x):∀ x∈xD l,yP x:=by
 intro x hx
 obtain ⟨n,hn,hx⟩:=List.mem_flatMap.1 hx
 exact zGF (h n hn) x hx
def uZ (names:Int) (e:zF) (st:Int):List Int :=
 [e.Kind,e.At]++(if yQ e.Kind then [names] else [])++(if jE e.Kind then [e.N] else [])++(if jW e.Kind then [e.M] else [])++(if y3 e.Kind then [st] else [])
def uP (names:List (List Int)) (e:zF):Int×List (List Int)×Int:=if yQ e.Kind then vC names e.Name else (0,names,0)
def pF (names:List (List Int)) (stacks:List zI) (e:zF):Int×List (List Int)×List zI×Int:=if y3 e.Kind then wC names stacks e.Stack else (0,names,stacks,0)
def xN (names:List (List Int)) (stacks:List zI) (e:zF):List Int×List (List Int)×List zI×Int :=
 if tC names stacks≠0 then ([],[],[],1) else if evS e≠0 then ([],[],[],evS e) else
 if (uP names e).2.2≠0 then ([],[],[],(uP names e).2.2) else
 if (pF (uP names e).2.1 stacks e).2.2.2≠0 then ([],[],[],(pF (uP names e).2.1 stacks e).2.2.2) else
 (xD (uZ (uP names e).1 e (pF (uP names e).2.1 stacks e).1),(pF (uP names e).2.1 stacks e).2.1,(pF (uP names e).2.1 stacks e).2.2.1,0)
theorem zGH {n lo hi:Int}:uI n lo hi=0↔lo≤n∧n≤hi:=by
 unfold uI
 split
 ·constructor
  ·intro h;cases h
  ·omega
 ·constructor
  ·omega
  ·intro _;rfl
theorem zBX {e:zF} (h:evS e=0):0≤e.At∧e.At≤1000000000000∧1≤e.Kind∧e.Kind≤12∧zAh e=false∧zAS e=0∧zC8 e=0:=by
 unfold evS at h
 split at h
 ·cases h
 split at h
 ·cases h
 split at h
 ·cases h
 split at h
 ·contradiction
 rename_i h1 h2 h3 h4
 exact ⟨by omega,by omega,by omega,by omega,by simpa using h3,by omega,h⟩
theorem zFF {e:zF} (h:evS e=0):yC e.At∧yC e.Kind∧yC e.N∧yC e.M:=by
 obtain ⟨h1,h2,h3,h4,h5,h6,h7⟩:=zBX h
 unfold zAh at h5
 simp only [Bool.or_eq_false_iff,Bool.and_eq_false_iff,Bool.not_eq_false',bne_eq_false_iff_eq] at h5
 have w:∀ {n lo hi:Int},uI n lo hi=0→lo≤n∧n≤hi:=fun h=>zGH.1 h
 have hN:yC e.N:=by
  rcases h5.2.1 with h | h
  case inr=>unfold yC;omega
  unfold jE at h
  simp only [decide_eq_true_eq] at h
  unfold zC8 at h7
  unfold yC
  split at h7
  ·omega
  split at h7
  ·have:=w h7;omega
  split at h7
  ·have:=w h7;omega
  split at h7
  ·have:=w h7;omega
  split at h7
  ·split at h7
   ·rename_i h8;have:=w h8.1;omega
   ·split at h7
    ·cases h7
    ·have:=w h7;omega
  ·split at h7
   ·rename_i h8;have:=w h8.1;omega
   ·have:=w h7;omega
 have hM:yC e.M:=by
  rcases h5.2.2.1 with h | h
  case inr=>unfold yC;omega
  have hk:e.Kind=9∨e.Kind=11:=by unfold jW at h;simpa using h
  unfold zC8 at h7
  unfold yC
  rcases hk with hk | hk
  ·simp [hk] at h7
   split at h7
   ·have:=w h7;omega
   ·split at h7
    ·cases h7
    ·rename_i h8;have:e.M=0:=Classical.byContradiction fun hc=>h8 ⟨h7,hc⟩
     omega
  ·simp [hk] at h7
   split at h7
   ·have:=w h7;omega
   ·contradiction
 exact ⟨by unfold yC;omega,by unfold yC;omega,hN,hM⟩
end Go.Ab
