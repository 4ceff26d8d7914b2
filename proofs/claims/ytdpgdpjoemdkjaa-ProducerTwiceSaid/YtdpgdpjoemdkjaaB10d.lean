/- Plain laws of the functions uI this seat's, laid anew from another seat's text. No conditions but those that the theorems name. -/
import Derived.Test.YtdpgdpjoemdkjaaP10xD
import Derived.Test.YtdpgdpjoemdkjaaB10a
import Derived.Test.YtdpgdpjoemdkjaaB10b
import Derived.Test.YtdpgdpjoemdkjaaB10c
namespace Go.Ab
open Go
set_option linter.unusedVariables false
def xL (l:List Int):List Int:=l.flatMap fun n=>wT 9 (wF n)
theorem zAR (l:List Int) (n:Int):xL (l++[n])=xL l++wT 9 (wF n):=by simp [xL]
theorem zMa (n:Int) (l:List Int):xL (n::l)=wT 9 (wF n)++xL l:=by simp [xL]
theorem zDY (l:List Int):l.length≤(xL l).length∧(xL l).length≤10 * l.length:=by
 induction l with
 | nil=>simp [xL]
 | cons n l ih =>
  have:=kV 9 (wF n)
  rw [zMa]
  simp only [List.length_append,List.length_cons]
  omega
theorem zNz {l:List Int} (h:∀ x∈l,yS x):∀ x∈xL l,xJ x:=by
 intro x hx
 obtain ⟨n,hn,hx⟩:=List.mem_flatMap.1 hx
 exact zIw (h n hn) x hx
def vR (names:Int) (e:zE) (st:Int):List Int :=
 [e.Kind,e.At]++(if y9 e.Kind then [names] else [])++(if tY e.Kind then [e.N] else [])++(if qO e.Kind then [e.M] else [])++(if xM e.Kind then [st] else [])
def t4 (names:List (List Int)) (e:zE):Int×List (List Int)×Int:=if y9 e.Kind then wQ names e.Name else (0,names,0)
def jY (names:List (List Int)) (stacks:List zJ) (e:zE):Int×List (List Int)×List zJ×Int:=if xM e.Kind then wM names stacks e.Stack else (0,names,stacks,0)
def wN (names:List (List Int)) (stacks:List zJ) (e:zE):List Int×List (List Int)×List zJ×Int :=
 if jN names stacks≠0 then ([],[],[],1) else if evS e≠0 then ([],[],[],evS e) else
 if (t4 names e).2.2≠0 then ([],[],[],(t4 names e).2.2) else
 if (jY (t4 names e).2.1 stacks e).2.2.2≠0 then ([],[],[],(jY (t4 names e).2.1 stacks e).2.2.2) else
 (xL (vR (t4 names e).1 e (jY (t4 names e).2.1 stacks e).1),(jY (t4 names e).2.1 stacks e).2.1,(jY (t4 names e).2.1 stacks e).2.2.1,0)
theorem zJr {n lo hi:Int}:jG n lo hi=0↔lo≤n∧n≤hi:=by
 unfold jG
 split
 ·constructor
  ·intro h;cases h
  ·omega
 ·constructor
  ·omega
  ·intro _;rfl
theorem zDz {e:zE} (h:evS e=0):0≤e.At∧e.At≤1000000000000∧1≤e.Kind∧e.Kind≤12∧zBN e=false∧zCJ e=0∧zEA e=0:=by
 unfold evS at h
 split at h
 ·cases h
 split at h
 ·cases h
 split at h
 ·cases h
 split at h
 ·contradiction
 rename_i h1 h2 h3 h4
 exact ⟨by omega,by omega,by omega,by omega,by simpa using h3,by omega,h⟩
theorem zEo {e:zE} (h:evS e=0):yS e.At∧yS e.Kind∧yS e.N∧yS e.M:=by
 obtain ⟨h1,h2,h3,h4,h5,h6,h7⟩:=zDz h
 unfold zBN at h5
 simp only [Bool.or_eq_false_iff,Bool.and_eq_false_iff,Bool.not_eq_false',bne_eq_false_iff_eq] at h5
 have w:∀ {n lo hi:Int},jG n lo hi=0→lo≤n∧n≤hi:=fun h=>zJr.1 h
 have hN:yS e.N:=by
  rcases h5.2.1 with h | h
  case inr=>unfold yS;omega
  unfold tY at h
  simp only [decide_eq_true_eq] at h
  unfold zEA at h7
  unfold yS
  split at h7
  ·omega
  split at h7
  ·have:=w h7;omega
  split at h7
  ·have:=w h7;omega
  split at h7
  ·have:=w h7;omega
  split at h7
  ·split at h7
   ·rename_i h8;have:=w h8.1;omega
   ·split at h7
    ·cases h7
    ·have:=w h7;omega
  ·split at h7
   ·rename_i h8;have:=w h8.1;omega
   ·have:=w h7;omega
 have hM:yS e.M:=by
  rcases h5.2.2.1 with h | h
  case inr=>unfold yS;omega
  have hk:e.Kind=9∨e.Kind=11:=by unfold qO at h;simpa using h
  unfold zEA at h7
  unfold yS
  rcases hk with hk | hk
  ·simp [hk] at h7
   split at h7
   ·have:=w h7;omega
   ·split at h7
    ·cases h7
    ·rename_i h8;have:e.M=0:=Classical.byContradiction fun hc=>h8 ⟨h7,hc⟩
     omega
  ·simp [hk] at h7
   split at h7
   ·have:=w h7;omega
   ·contradiction
 exact ⟨by unfold yS;omega,by unfold yS;omega,hN,hM⟩
theorem zKE {n:List (List Int)} {x:List Int} (hl:n.length≤100000):yS (wQ n x).1:=by
 have hr:=zBQ x n
 have:uB x 0 n≤n.length:=by
  rcases zAj x n 0 with ⟨h,_⟩ | ⟨j,h1,h⟩
  ·omega
  ·have:=(List.getElem?_eq_some_iff.1 h1).1;omega
 unfold wQ yS
 split
 ·simp
 split
 ·simp only;omega
 split
 ·simp
 ·simp only;omega
theorem zNm {n0:List (List Int)} {s0:List zJ}:∀ (l:List (List Int)) (at_:Int) (n:List (List Int)) (s:List zJ), -1≤at_→at_≤100000→s.length+l.length≤100000→yS (q9 n0 s0 l at_ n s).1:=by
 intro l
 induction l with
 | nil=>intro at_ n s h0 h1 _;simp only [q9,yS];omega
 | cons x r ih =>
  intro at_ n s h0 h1 h2
  simp only [List.length_cons] at h2
  simp only [q9]
  generalize wQ n x=q
  have hr:=zBQ (⟨at_,q.1⟩:zJ) s
  have:uB (⟨at_,q.1⟩:zJ) 0 s≤s.length:=by
   rcases zAj (⟨at_,q.1⟩:zJ) s 0 with ⟨h,_⟩ | ⟨j,h1,h⟩
   ·omega
   ·have:=(List.getElem?_eq_some_iff.1 h1).1;omega
  split
  ·simp [yS]
  split
  ·exact ih _ _ _ (by omega) (by omega) (by omega)
  split
  ·simp [yS]
  ·exact ih _ _ _ (by omega) (by omega) (by simp only [List.length_append,List.length_singleton];omega)
theorem zHG {n:List (List Int)} {s:List zJ} {l:List (List Int)} (hs:s.length≤50000):yS (wM n s l).1:=by
 unfold wM
 split
 ·simp [yS]
 ·rename_i h
  have:=(zCH.1 (show jW l=0 by omega)).1
  exact zNm l (-1) n s (by omega) (by omega) (by omega)
theorem zFC {names:List (List Int)} {stacks:List zJ} {e:zE} (hn:names.length≤40000) (hs:stacks.length≤40000):nI 200000 names stacks e=some (wN names stacks e):=by
 unfold nI wN
 rw [nV,Option.bind_some]
 by_cases hc:jN names stacks≠0
 ·rw [w4 hc,if_pos hc];rfl
 rw [xS (by omega),cond_false,if_neg hc,zBw,Option.bind_some]
 by_cases he:evS e≠0
 ·rw [w4 he,if_pos he];rfl
 rw [xS (by omega),cond_false,if_neg he]
 obtain ⟨r1,r2,r3,r4⟩:=zEo (show evS e=0 by omega)
 rw [show zAH e.Kind=some (y9 e.Kind,tY e.Kind,qO e.Kind,xM e.Kind) from rfl,Option.bind_some]
 have hpn:=zGz names e.Name
 have hpi:=zKE (n:=names) (x:=e.Name) (by omega)
 have l2:=kV 9 (wF e.Kind)
 have l3:=kV 9 (wF e.At)
 have l5:=kV 9 (wF e.N)
 have l6:=kV 9 (wF e.M)
 rw [tQ r2 (by simp) (by omega),Option.bind_some,tQ r1 (by simp;omega) (by omega),Option.bind_some]
 simp only [List.nil_append,zD7 (show names.length≤100000 by omega),Option.bind_some]
 have e0:xL [e.Kind,e.At]=wT 9 (wF e.Kind)++wT 9 (wF e.At):=by simp [xL]
 rw [← e0]
 unfold t4 vR
 have tail:∀ (i:Int) (pre:List Int) (nm:List (List Int)),pre.length≤3→nm.length≤50000 → 
   ((((bif tY e.Kind then (x9 200000 (xL pre) e.N).bind fun r_8=>some r_8 else some (xL pre)):Option (List Int))).bind fun (o_2:(List Int)) =>
   (((bif qO e.Kind then (x9 200000 o_2 e.M).bind fun r_9=>some r_9 else some o_2):Option (List Int))).bind fun (o_3:(List Int)) =>
   (((bif xM e.Kind then (jD 200000 nm stacks e.Stack).bind fun yQ =>
   (bif (yQ.2.2.2 != (0:Int)) then some (.inr ([],[],[],yQ.2.2.2)) else
   (x9 200000 o_3 yQ.1).bind fun y1 =>
   some (.inl (yQ.2.1,yQ.2.2.1,y1))) else
   some (.inl (nm,stacks,o_3))):Option (((List (List Int))×(List zJ)×(List Int))⊕((List (Int))×(List (List Int))×(List (zJ))×Int)))).bind fun (o_4:((List (List Int))×(List zJ)×(List Int))⊕((List (Int))×(List (List Int))×(List (zJ))×Int)) =>
   (match o_4 with
   | (.inl q_3)=>some (q_3.2.2,q_3.1,q_3.2.1,(0:Int))
   | (.inr q_4)=>some q_4)) =
   some (if (jY nm stacks e).2.2.2≠0 then ([],[],[],(jY nm stacks e).2.2.2) else
    (xL (pre++(if tY e.Kind then [e.N] else [])++(if qO e.Kind then [e.M] else [])++(if xM e.Kind then [(jY nm stacks e).1] else [])),(jY nm stacks e).2.1,(jY nm stacks e).2.2.1,0)):=by
  intro i pre nm hp hnm
  have h1:(((bif tY e.Kind then (x9 200000 (xL pre) e.N).bind fun r_8=>some r_8 else some (xL pre)):Option (List Int)))=some (xL (pre++(if tY e.Kind then [e.N] else []))):=by
   have:=zDY pre
   cases tY e.Kind
   ·simp
   ·rw [cond_true,tQ r3 (by omega) (by omega),Option.bind_some];simp [zAR]
  rw [h1,Option.bind_some]
  have hq:(pre++(if tY e.Kind then [e.N] else [])).length≤4:=by cases tY e.Kind<;>simp<;>omega
  generalize pre++(if tY e.Kind then [e.N] else [])=q at *
  have h2:(((bif qO e.Kind then (x9 200000 (xL q) e.M).bind fun r_9=>some r_9 else some (xL q)):Option (List Int)))=some (xL (q++(if qO e.Kind then [e.M] else []))):=by
   have:=zDY q
   cases qO e.Kind
   ·simp
   ·rw [cond_true,tQ r4 (by omega) (by omega),Option.bind_some];simp [zAR]
  rw [h2,Option.bind_some]
  have hq2:(q++(if qO e.Kind then [e.M] else [])).length≤5:=by cases qO e.Kind<;>simp<;>omega
  generalize q++(if qO e.Kind then [e.M] else [])=p at *
  have:=zDY p
  unfold jY
  cases xM e.Kind
  ·simp
  ·have hpx:=zHG (n:=nm) (s:=stacks) (l:=e.Stack) (by omega)
   simp only [cond_true,if_true]
   rw [zEk (by omega) (by omega),Option.bind_some]
   by_cases hz:(wM nm stacks e.Stack).2.2.2≠0
   ·rw [w4 hz,if_pos hz];rfl
   ·rw [xS (by omega),if_neg hz,cond_false,tQ hpx (by omega) (by omega)]
    simp [zAR]
 cases hun:y9 e.Kind
 ·have:=tail 0 [e.Kind,e.At] names (by simp) (by omega)
  simp only [cond_false,Bool.false_eq_true,if_false,List.append_nil,Option.bind_some,ne_eq,not_true_eq_false]
  exact this
 ·have l7:=kV 9 (wF (wQ names e.Name).1)
  simp only [cond_true,if_true]
  by_cases hp:(wQ names e.Name).2.2≠0
  ·rw [w4 hp,if_pos hp];rfl
  ·have:=tail 0 ([e.Kind,e.At]++[(wQ names e.Name).1]) (wQ names e.Name).2.1 (by simp) (by omega)
   rw [xS (by omega),if_neg hp,cond_false,tQ hpi (by rw [e0];simp;omega) (by omega),Option.bind_some,← zAR,Option.bind_some]
   exact this
end Go.Ab
