/- Plain laws of the functions tL this seat's, laid anew from another seat's text. No conditions but those that the theorems name. -/
import Derived.Test.YtdpgdpjoemdkjaaP10xD
import Derived.Test.YtdpgdpjoemdkjaaB10a
import Derived.Test.YtdpgdpjoemdkjaaB10b
import Derived.Test.YtdpgdpjoemdkjaaB10c
namespace Go.Ab
open Go
set_option linter.unusedVariables false
def wD (l:List Int):List Int:=l.flatMap fun n=>w9 9 (wM n)
theorem zBk (l:List Int) (n:Int):wD (l++[n])=wD l++w9 9 (wM n):=by simp [wD]
theorem zPK (n:Int) (l:List Int):wD (n::l)=w9 9 (wM n)++wD l:=by simp [wD]
theorem zEW (l:List Int):l.length≤(wD l).length∧(wD l).length≤10 * l.length:=by
 induction l with
 | nil=>simp [wD]
 | cons n l ih =>
  have:=pL 9 (wM n)
  rw [zPK]
  simp only [List.length_append,List.length_cons]
  omega
theorem zQ5 {l:List Int} (h:∀ x∈l,y3 x):∀ x∈wD l,x4 x:=by
 intro x hx
 obtain ⟨n,hn,hx⟩:=List.mem_flatMap.1 hx
 exact zMF (h n hn) x hx
def j3 (names:Int) (e:zL) (st:Int):List Int :=
 [e.Kind,e.At]++(if y0 e.Kind then [names] else [])++(if wV e.Kind then [e.N] else [])++(if vE e.Kind then [e.M] else [])++(if xI e.Kind then [st] else [])
def j0 (names:List (List Int)) (e:zL):Int×List (List Int)×Int:=if y0 e.Kind then wP names e.Name else (0,names,0)
def j1 (names:List (List Int)) (stacks:List zO) (e:zL):Int×List (List Int)×List zO×Int:=if xI e.Kind then wX names stacks e.Stack else (0,names,stacks,0)
def vA (names:List (List Int)) (stacks:List zO) (e:zL):List Int×List (List Int)×List zO×Int :=
 if uA names stacks≠0 then ([],[],[],1) else if evS e≠0 then ([],[],[],evS e) else
 if (j0 names e).2.2≠0 then ([],[],[],(j0 names e).2.2) else
 if (j1 (j0 names e).2.1 stacks e).2.2.2≠0 then ([],[],[],(j1 (j0 names e).2.1 stacks e).2.2.2) else
 (wD (j3 (j0 names e).1 e (j1 (j0 names e).2.1 stacks e).1),(j1 (j0 names e).2.1 stacks e).2.1,(j1 (j0 names e).2.1 stacks e).2.2.1,0)
theorem zM7 {n lo hi:Int}:u6 n lo hi=0↔lo≤n∧n≤hi:=by
 unfold u6
 split
 ·constructor
  ·intro h;cases h
  ·omega
 ·constructor
  ·omega
  ·intro _;rfl
theorem zDf {e:zL} (h:evS e=0):0≤e.At∧e.At≤1000000000000∧1≤e.Kind∧e.Kind≤12∧zCI e=false∧zD0 e=0∧zE8 e=0:=by
 unfold evS at h
 split at h
 ·cases h
 split at h
 ·cases h
 split at h
 ·cases h
 split at h
 ·contradiction
 rename_i h1 h2 h3 h4
 exact ⟨by omega,by omega,by omega,by omega,by simpa using h3,by omega,h⟩
theorem zE7 {e:zL} (h:evS e=0):y3 e.At∧y3 e.Kind∧y3 e.N∧y3 e.M:=by
 obtain ⟨h1,h2,h3,h4,h5,h6,h7⟩:=zDf h
 unfold zCI at h5
 simp only [Bool.or_eq_false_iff,Bool.and_eq_false_iff,Bool.not_eq_false',bne_eq_false_iff_eq] at h5
 have w:∀ {n lo hi:Int},u6 n lo hi=0→lo≤n∧n≤hi:=fun h=>zM7.1 h
 have hN:y3 e.N:=by
  rcases h5.2.1 with h | h
  case inr=>unfold y3;omega
  unfold wV at h
  simp only [decide_eq_true_eq] at h
  unfold zE8 at h7
  unfold y3
  split at h7
  ·omega
  split at h7
  ·have:=w h7;omega
  split at h7
  ·have:=w h7;omega
  split at h7
  ·have:=w h7;omega
  split at h7
  ·split at h7
   ·rename_i h8;have:=w h8.1;omega
   ·split at h7
    ·cases h7
    ·have:=w h7;omega
  ·split at h7
   ·rename_i h8;have:=w h8.1;omega
   ·have:=w h7;omega
 have hM:y3 e.M:=by
  rcases h5.2.2.1 with h | h
  case inr=>unfold y3;omega
  have hk:e.Kind=9∨e.Kind=11:=by unfold vE at h;simpa using h
  unfold zE8 at h7
  unfold y3
  rcases hk with hk | hk
  ·simp [hk] at h7
   split at h7
   ·have:=w h7;omega
   ·split at h7
    ·cases h7
    ·rename_i h8;have:e.M=0:=Classical.byContradiction fun hc=>h8 ⟨h7,hc⟩
     omega
  ·simp [hk] at h7
   split at h7
   ·have:=w h7;omega
   ·contradiction
 exact ⟨by unfold y3;omega,by unfold y3;omega,hN,hM⟩
theorem zHE {k:Int} (h:1≤k∧k≤12):zDm k=some (y0 k,wV k,vE k,xI k):=by
 have:k=1∨k=2∨k=3∨k=4∨k=5∨k=6∨k=7∨k=8∨k=9∨k=10∨k=11∨k=12:=by omega
 rcases this with h | h | h | h | h | h | h | h | h | h | h | h<;>subst h<;>rfl
theorem zID {n:List (List Int)} {x:List Int} (hl:n.length≤100000):y3 (wP n x).1:=by
 have hr:=zAT x n
 have:vX x 0 n≤n.length:=by
  rcases zAw x n 0 with ⟨h,_⟩ | ⟨j,h1,h⟩
  ·omega
  ·have:=(List.getElem?_eq_some_iff.1 h1).1;omega
 unfold wP y3
 split
 ·simp
 split
 ·simp only;omega
 split
 ·simp
 ·simp only;omega
theorem zQl {n0:List (List Int)} {s0:List zO}:∀ (l:List (List Int)) (at_:Int) (n:List (List Int)) (s:List zO), -1≤at_→at_≤100000→s.length+l.length≤100000→y3 (jP n0 s0 l at_ n s).1:=by
 intro l
 induction l with
 | nil=>intro at_ n s h0 h1 _;simp only [jP,y3];omega
 | cons x r ih =>
  intro at_ n s h0 h1 h2
  simp only [List.length_cons] at h2
  simp only [jP]
  generalize wP n x=q
  have hr:=zAT (⟨at_,q.1⟩:zO) s
  have:vX (⟨at_,q.1⟩:zO) 0 s≤s.length:=by
   rcases zAw (⟨at_,q.1⟩:zO) s 0 with ⟨h,_⟩ | ⟨j,h1,h⟩
   ·omega
   ·have:=(List.getElem?_eq_some_iff.1 h1).1;omega
  split
  ·simp [y3]
  split
  ·exact ih _ _ _ (by omega) (by omega) (by omega)
  split
  ·simp [y3]
  ·exact ih _ _ _ (by omega) (by omega) (by simp only [List.length_append,List.length_singleton];omega)
theorem zGm {n:List (List Int)} {s:List zO} {l:List (List Int)} (hs:s.length≤50000):y3 (wX n s l).1:=by
 unfold wX
 split
 ·simp [y3]
 ·rename_i h
  have:=(zGS.1 (show t9 l=0 by omega)).1
  exact zQl l (-1) n s (by omega) (by omega) (by omega)
theorem zHW {names:List (List Int)} {stacks:List zO} {e:zL} (hn:names.length≤40000) (hs:stacks.length≤40000):zAR 200000 names stacks e=some (vA names stacks e):=by
 unfold zAR vA
 rw [zA5,zbs]
 by_cases hc:uA names stacks≠0
 ·rw [xQ hc,if_pos hc];rfl
 rw [xE (by omega),cond_false,if_neg hc,zDr,zbs]
 by_cases he:evS e≠0
 ·rw [xQ he,if_pos he];rfl
 rw [xE (by omega),cond_false,if_neg he]
 obtain ⟨r1,r2,r3,r4⟩:=zE7 (show evS e=0 by omega)
 rw [show zCj e.Kind=some (y0 e.Kind,wV e.Kind,vE e.Kind,xI e.Kind) from rfl,zbs]
 have hpn:=zEk names e.Name
 have hpi:=zID (n:=names) (x:=e.Name) (by omega)
 have l2:=pL 9 (wM e.Kind)
 have l3:=pL 9 (wM e.At)
 have l5:=pL 9 (wM e.N)
 have l6:=pL 9 (wM e.M)
 rw [q9 r2 (by simp) (by omega),zbs,q9 r1 (by simp;omega) (by omega),zbs]
 simp only [List.nil_append,zGg (show names.length≤100000 by omega),zbs]
 have e0:wD [e.Kind,e.At]=w9 9 (wM e.Kind)++w9 9 (wM e.At):=by simp [wD]
 rw [← e0]
 unfold j0 j3
 have tail:∀ (i:Int) (pre:List Int) (nm:List (List Int)),pre.length≤3→nm.length≤50000 → 
   ((((bif wV e.Kind then (wU 200000 (wD pre) e.N).bind fun r_8=>some r_8 else some (wD pre)):Option (List Int))).bind fun (o_2:(List Int)) =>
   (((bif vE e.Kind then (wU 200000 o_2 e.M).bind fun r_9=>some r_9 else some o_2):Option (List Int))).bind fun (o_3:(List Int)) =>
   (((bif xI e.Kind then (kJ 200000 nm stacks e.Stack).bind fun yZ =>
   (bif (yZ.2.2.2 != (0:Int)) then some (.inr ([],[],[],yZ.2.2.2)) else
   (wU 200000 o_3 yZ.1).bind fun xK =>
   some (.inl (yZ.2.1,yZ.2.2.1,xK))) else
   some (.inl (nm,stacks,o_3))):Option (((List (List Int))×(List zO)×(List Int))⊕((List (Int))×(List (List Int))×(List (zO))×Int)))).bind fun (o_4:((List (List Int))×(List zO)×(List Int))⊕((List (Int))×(List (List Int))×(List (zO))×Int)) =>
   (match o_4 with
   | (.inl q_3)=>some (q_3.2.2,q_3.1,q_3.2.1,(0:Int))
   | (.inr q_4)=>some q_4)) =
   some (if (j1 nm stacks e).2.2.2≠0 then ([],[],[],(j1 nm stacks e).2.2.2) else
    (wD (pre++(if wV e.Kind then [e.N] else [])++(if vE e.Kind then [e.M] else [])++(if xI e.Kind then [(j1 nm stacks e).1] else [])),(j1 nm stacks e).2.1,(j1 nm stacks e).2.2.1,0)):=by
  intro i pre nm hp hnm
  have h1:(((bif wV e.Kind then (wU 200000 (wD pre) e.N).bind fun r_8=>some r_8 else some (wD pre)):Option (List Int)))=some (wD (pre++(if wV e.Kind then [e.N] else []))):=by
   have:=zEW pre
   cases wV e.Kind
   ·simp
   ·rw [cond_true,q9 r3 (by omega) (by omega),zbs];simp [zBk]
  rw [h1,zbs]
  have hq:(pre++(if wV e.Kind then [e.N] else [])).length≤4:=by cases wV e.Kind<;>simp<;>omega
  generalize pre++(if wV e.Kind then [e.N] else [])=q at *
  have h2:(((bif vE e.Kind then (wU 200000 (wD q) e.M).bind fun r_9=>some r_9 else some (wD q)):Option (List Int)))=some (wD (q++(if vE e.Kind then [e.M] else []))):=by
   have:=zEW q
   cases vE e.Kind
   ·simp
   ·rw [cond_true,q9 r4 (by omega) (by omega),zbs];simp [zBk]
  rw [h2,zbs]
  have hq2:(q++(if vE e.Kind then [e.M] else [])).length≤5:=by cases vE e.Kind<;>simp<;>omega
  generalize q++(if vE e.Kind then [e.M] else [])=p at *
  have:=zEW p
  unfold j1
  cases xI e.Kind
  ·simp
  ·have hpx:=zGm (n:=nm) (s:=stacks) (l:=e.Stack) (by omega)
   simp only [cond_true,if_true]
   rw [zGs (by omega) (by omega),zbs]
   by_cases hz:(wX nm stacks e.Stack).2.2.2≠0
   ·rw [xQ hz,if_pos hz];rfl
   ·rw [xE (by omega),if_neg hz,cond_false,q9 hpx (by omega) (by omega)]
    simp [zBk]
 cases hun:y0 e.Kind
 ·have:=tail 0 [e.Kind,e.At] names (by simp) (by omega)
  simp only [cond_false,Bool.false_eq_true,if_false,List.append_nil,zbs,ne_eq,not_true_eq_false]
  exact this
 ·have l7:=pL 9 (wM (wP names e.Name).1)
  simp only [cond_true,if_true]
  by_cases hp:(wP names e.Name).2.2≠0
  ·rw [xQ hp,if_pos hp];rfl
  ·have:=tail 0 ([e.Kind,e.At]++[(wP names e.Name).1]) (wP names e.Name).2.1 (by simp) (by omega)
   rw [xE (by omega),if_neg hp,cond_false,q9 hpi (by rw [e0];simp;omega) (by omega),zbs,← zBk,zbs]
   exact this
end Go.Ab
