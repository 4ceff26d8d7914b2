/- Plain laws of the functions w9 this seat's, laid anew from another seat's text. No conditions but those that the theorems name. -/
import Derived.Test.YtdpgdpjoemdkjaaP10xD
import Derived.Test.YtdpgdpjoemdkjaaB10a
import Derived.Test.YtdpgdpjoemdkjaaB10b
import Derived.Test.YtdpgdpjoemdkjaaB10c
namespace Go.Ab
open Go
set_option linter.unusedVariables false
def yZ (l:List Int):List Int:=l.flatMap fun n=>xI 9 (xB n)
theorem pQ (l:List Int) (n:Int):yZ (l++[n])=yZ l++xI 9 (xB n):=by simp [yZ]
theorem zKj (n:Int) (l:List Int):yZ (n::l)=xI 9 (xB n)++yZ l:=by simp [yZ]
theorem zB9 (l:List Int):l.length≤(yZ l).length∧(yZ l).length≤10 * l.length:=by
 induction l with
 | nil=>simp [yZ]
 | cons n l ih =>
  have:=qN 9 (xB n)
  rw [zKj]
  simp only [List.length_append,List.length_cons]
  omega
theorem zLV {l:List Int} (h:∀ x∈l,z8 x):∀ x∈yZ l,yW x:=by
 intro x hx
 obtain ⟨n,hn,hx⟩:=List.mem_flatMap.1 hx
 exact zGC (h n hn) x hx
def tE (names:Int) (e:zE) (st:Int):List Int :=
 [e.Kind,e.At]++(if yK e.Kind then [names] else [])++(if uD e.Kind then [e.N] else [])++(if uI e.Kind then [e.M] else [])++(if yU e.Kind then [st] else [])
def uX (names:List (List Int)) (e:zE):Int×List (List Int)×Int:=if yK e.Kind then xM names e.Name else (0,names,0)
def qP (names:List (List Int)) (stacks:List zI) (e:zE):Int×List (List Int)×List zI×Int:=if yU e.Kind then xN names stacks e.Stack else (0,names,stacks,0)
def xO (names:List (List Int)) (stacks:List zI) (e:zE):List Int×List (List Int)×List zI×Int :=
 if tI names stacks≠0 then ([],[],[],1) else if evS e≠0 then ([],[],[],evS e) else
 if (uX names e).2.2≠0 then ([],[],[],(uX names e).2.2) else
 if (qP (uX names e).2.1 stacks e).2.2.2≠0 then ([],[],[],(qP (uX names e).2.1 stacks e).2.2.2) else
 (yZ (tE (uX names e).1 e (qP (uX names e).2.1 stacks e).1),(qP (uX names e).2.1 stacks e).2.1,(qP (uX names e).2.1 stacks e).2.2.1,0)
theorem zHI {n lo hi:Int}:u6 n lo hi=0↔lo≤n∧n≤hi:=by
 unfold u6
 split
 ·constructor
  ·intro h;cases h
  ·omega
 ·constructor
  ·omega
  ·intro _;rfl
theorem zCo {e:zE} (h:evS e=0):0≤e.At∧e.At≤1000000000000∧1≤e.Kind∧e.Kind≤12∧kW e=false∧zAl e=0∧zC7 e=0:=by
 unfold evS at h
 split at h
 ·cases h
 split at h
 ·cases h
 split at h
 ·cases h
 split at h
 ·contradiction
 rename_i h1 h2 h3 h4
 exact ⟨by omega,by omega,by omega,by omega,by simpa using h3,by omega,h⟩
theorem zCH {e:zE} (h:evS e=0):z8 e.At∧z8 e.Kind∧z8 e.N∧z8 e.M:=by
 obtain ⟨h1,h2,h3,h4,h5,h6,h7⟩:=zCo h
 unfold kW at h5
 simp only [Bool.or_eq_false_iff,Bool.and_eq_false_iff,Bool.not_eq_false',bne_eq_false_iff_eq] at h5
 have w:∀ {n lo hi:Int},u6 n lo hi=0→lo≤n∧n≤hi:=fun h=>zHI.1 h
 have hN:z8 e.N:=by
  rcases h5.2.1 with h | h
  case inr=>unfold z8;omega
  unfold uD at h
  simp only [decide_eq_true_eq] at h
  unfold zC7 at h7
  unfold z8
  split at h7
  ·omega
  split at h7
  ·have:=w h7;omega
  split at h7
  ·have:=w h7;omega
  split at h7
  ·have:=w h7;omega
  split at h7
  ·split at h7
   ·rename_i h8;have:=w h8.1;omega
   ·split at h7
    ·cases h7
    ·have:=w h7;omega
  ·split at h7
   ·rename_i h8;have:=w h8.1;omega
   ·have:=w h7;omega
 have hM:z8 e.M:=by
  rcases h5.2.2.1 with h | h
  case inr=>unfold z8;omega
  have hk:e.Kind=9∨e.Kind=11:=by unfold uI at h;simpa using h
  unfold zC7 at h7
  unfold z8
  rcases hk with hk | hk
  ·simp [hk] at h7
   split at h7
   ·have:=w h7;omega
   ·split at h7
    ·cases h7
    ·rename_i h8;have:e.M=0:=Classical.byContradiction fun hc=>h8 ⟨h7,hc⟩
     omega
  ·simp [hk] at h7
   split at h7
   ·have:=w h7;omega
   ·contradiction
 exact ⟨by unfold z8;omega,by unfold z8;omega,hN,hM⟩
theorem zJu {n:List (List Int)} {x:List Int} (hl:n.length≤100000):z8 (xM n x).1:=by
 have hr:=nZ x n
 have:w4 x 0 n≤n.length:=by
  rcases kO x n 0 with ⟨h,_⟩ | ⟨j,h1,h⟩
  ·omega
  ·have:=(List.getElem?_eq_some_iff.1 h1).1;omega
 unfold xM z8
 split
 ·simp
 split
 ·simp only;omega
 split
 ·simp
 ·simp only;omega
theorem zLy {n0:List (List Int)} {s0:List zI}:∀ (l:List (List Int)) (at_:Int) (n:List (List Int)) (s:List zI), -1≤at_→at_≤100000→s.length+l.length≤100000→z8 (uZ n0 s0 l at_ n s).1:=by
 intro l
 induction l with
 | nil=>intro at_ n s h0 h1 _;simp only [uZ,z8];omega
 | cons x r ih =>
  intro at_ n s h0 h1 h2
  simp only [List.length_cons] at h2
  simp only [uZ]
  generalize xM n x=q
  have hr:=nZ (⟨at_,q.1⟩:zI) s
  have:w4 (⟨at_,q.1⟩:zI) 0 s≤s.length:=by
   rcases kO (⟨at_,q.1⟩:zI) s 0 with ⟨h,_⟩ | ⟨j,h1,h⟩
   ·omega
   ·have:=(List.getElem?_eq_some_iff.1 h1).1;omega
  split
  ·simp [z8]
  split
  ·exact ih _ _ _ (by omega) (by omega) (by omega)
  split
  ·simp [z8]
  ·exact ih _ _ _ (by omega) (by omega) (by simp only [List.length_append,List.length_singleton];omega)
theorem zGd {n:List (List Int)} {s:List zI} {l:List (List Int)} (hs:s.length≤50000):z8 (xN n s l).1:=by
 unfold xN
 split
 ·simp [z8]
 ·rename_i h
  have:=(zCU.1 (show tA l=0 by omega)).1
  exact zLy l (-1) n s (by omega) (by omega) (by omega)
theorem zD5 {names:List (List Int)} {stacks:List zI} {e:zE} (hn:names.length≤40000) (hs:stacks.length≤40000):jU 200000 names stacks e=some (xO names stacks e):=by
 unfold jU xO
 rw [j5,Option.bind_some]
 by_cases hc:tI names stacks≠0
 ·rw [wA hc,if_pos hc];rfl
 rw [xS (by omega),cond_false,if_neg hc,nI,Option.bind_some]
 by_cases he:evS e≠0
 ·rw [wA he,if_pos he];rfl
 rw [xS (by omega),cond_false,if_neg he]
 obtain ⟨r1,r2,r3,r4⟩:=zCH (show evS e=0 by omega)
 rw [show pA e.Kind=some (yK e.Kind,uD e.Kind,uI e.Kind,yU e.Kind) from rfl,Option.bind_some]
 have hpn:=zEN names e.Name
 have hpi:=zJu (n:=names) (x:=e.Name) (by omega)
 have l2:=qN 9 (xB e.Kind)
 have l3:=qN 9 (xB e.At)
 have l5:=qN 9 (xB e.N)
 have l6:=qN 9 (xB e.M)
 rw [v9 r2 (by simp) (by omega),Option.bind_some,v9 r1 (by simp;omega) (by omega),Option.bind_some]
 simp only [List.nil_append,zCq (show names.length≤100000 by omega),Option.bind_some]
 have e0:yZ [e.Kind,e.At]=xI 9 (xB e.Kind)++xI 9 (xB e.At):=by simp [yZ]
 rw [← e0]
 unfold uX tE
 have tail:∀ (i:Int) (pre:List Int) (nm:List (List Int)),pre.length≤3→nm.length≤50000 → 
   ((((bif uD e.Kind then (y5 200000 (yZ pre) e.N).bind fun r_8=>some r_8 else some (yZ pre)):Option (List Int))).bind fun (o_2:(List Int)) =>
   (((bif uI e.Kind then (y5 200000 o_2 e.M).bind fun r_9=>some r_9 else some o_2):Option (List Int))).bind fun (o_3:(List Int)) =>
   (((bif yU e.Kind then (tB 200000 nm stacks e.Stack).bind fun r_10 =>
   (bif (r_10.2.2.2 != (0:Int)) then some (.inr ([],[],[],r_10.2.2.2)) else
   (y5 200000 o_3 r_10.1).bind fun r_11 =>
   some (.inl (r_10.2.1,r_10.2.2.1,r_11))) else
   some (.inl (nm,stacks,o_3))):Option (((List (List Int))×(List zI)×(List Int))⊕((List (Int))×(List (List Int))×(List (zI))×Int)))).bind fun (o_4:((List (List Int))×(List zI)×(List Int))⊕((List (Int))×(List (List Int))×(List (zI))×Int)) =>
   (match o_4 with
   | (.inl q_3)=>some (q_3.2.2,q_3.1,q_3.2.1,(0:Int))
   | (.inr q_4)=>some q_4)) =
   some (if (qP nm stacks e).2.2.2≠0 then ([],[],[],(qP nm stacks e).2.2.2) else
    (yZ (pre++(if uD e.Kind then [e.N] else [])++(if uI e.Kind then [e.M] else [])++(if yU e.Kind then [(qP nm stacks e).1] else [])),(qP nm stacks e).2.1,(qP nm stacks e).2.2.1,0)):=by
  intro i pre nm hp hnm
  have h1:(((bif uD e.Kind then (y5 200000 (yZ pre) e.N).bind fun r_8=>some r_8 else some (yZ pre)):Option (List Int)))=some (yZ (pre++(if uD e.Kind then [e.N] else []))):=by
   have:=zB9 pre
   cases uD e.Kind
   ·simp
   ·rw [cond_true,v9 r3 (by omega) (by omega),Option.bind_some];simp [pQ]
  rw [h1,Option.bind_some]
  have hq:(pre++(if uD e.Kind then [e.N] else [])).length≤4:=by cases uD e.Kind<;>simp<;>omega
  generalize pre++(if uD e.Kind then [e.N] else [])=q at *
  have h2:(((bif uI e.Kind then (y5 200000 (yZ q) e.M).bind fun r_9=>some r_9 else some (yZ q)):Option (List Int)))=some (yZ (q++(if uI e.Kind then [e.M] else []))):=by
   have:=zB9 q
   cases uI e.Kind
   ·simp
   ·rw [cond_true,v9 r4 (by omega) (by omega),Option.bind_some];simp [pQ]
  rw [h2,Option.bind_some]
  have hq2:(q++(if uI e.Kind then [e.M] else [])).length≤5:=by cases uI e.Kind<;>simp<;>omega
  generalize q++(if uI e.Kind then [e.M] else [])=p at *
  have:=zB9 p
  unfold qP
  cases yU e.Kind
  ·simp
  ·have hpx:=zGd (n:=nm) (s:=stacks) (l:=e.Stack) (by omega)
   simp only [cond_true,if_true]
   rw [zCQ (by omega) (by omega),Option.bind_some]
   by_cases hz:(xN nm stacks e.Stack).2.2.2≠0
   ·rw [wA hz,if_pos hz];rfl
   ·rw [xS (by omega),if_neg hz,cond_false,v9 hpx (by omega) (by omega)]
    simp [pQ]
 cases hun:yK e.Kind
 ·have:=tail 0 [e.Kind,e.At] names (by simp) (by omega)
  simp only [cond_false,Bool.false_eq_true,if_false,List.append_nil,Option.bind_some,ne_eq,not_true_eq_false]
  exact this
 ·have l7:=qN 9 (xB (xM names e.Name).1)
  simp only [cond_true,if_true]
  by_cases hp:(xM names e.Name).2.2≠0
  ·rw [wA hp,if_pos hp];rfl
  ·have:=tail 0 ([e.Kind,e.At]++[(xM names e.Name).1]) (xM names e.Name).2.1 (by simp) (by omega)
   rw [xS (by omega),if_neg hp,cond_false,v9 hpi (by rw [e0];simp;omega) (by omega),Option.bind_some,← pQ,Option.bind_some]
   exact this
end Go.Ab
