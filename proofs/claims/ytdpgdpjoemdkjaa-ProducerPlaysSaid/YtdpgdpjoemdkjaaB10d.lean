/- Plain laws of the functions qA this seat's, laid anew from another seat's text. No conditions but those that the theorems name. -/
import Derived.Test.YtdpgdpjoemdkjaaP10xD
import Derived.Test.YtdpgdpjoemdkjaaB10a
import Derived.Test.YtdpgdpjoemdkjaaB10b
import Derived.Test.YtdpgdpjoemdkjaaB10c
namespace Go.Ab
open Go
set_option linter.unusedVariables false
def wG (l:List Int):List Int:=l.flatMap fun n=>vV 9 (w8 n)
theorem zBH (l:List Int) (n:Int):wG (l++[n])=wG l++vV 9 (w8 n):=by simp [wG]
theorem zPq (n:Int) (l:List Int):wG (n::l)=vV 9 (w8 n)++wG l:=by simp [wG]
theorem zEV (l:List Int):l.length≤(wG l).length∧(wG l).length≤10 * l.length:=by
 induction l with
 | nil=>simp [wG]
 | cons n l ih =>
  have:=nN 9 (w8 n)
  rw [zPq]
  simp only [List.length_append,List.length_cons]
  omega
theorem zRv {l:List Int} (h:∀ x∈l,y2 x):∀ x∈wG l,x7 x:=by
 intro x hx
 obtain ⟨n,hn,hx⟩:=List.mem_flatMap.1 hx
 exact zM3 (h n hn) x hx
def kS (names:Int) (e:zL) (st:Int):List Int :=
 [e.Kind,e.At]++(if y5 e.Kind then [names] else [])++(if vH e.Kind then [e.N] else [])++(if v4 e.Kind then [e.M] else [])++(if xM e.Kind then [st] else [])
def kP (names:List (List Int)) (e:zL):Int×List (List Int)×Int:=if y5 e.Kind then vB names e.Name else (0,names,0)
def kT (names:List (List Int)) (stacks:List zN) (e:zL):Int×List (List Int)×List zN×Int:=if xM e.Kind then vN names stacks e.Stack else (0,names,stacks,0)
def vU (names:List (List Int)) (stacks:List zN) (e:zL):List Int×List (List Int)×List zN×Int :=
 if uW names stacks≠0 then ([],[],[],1) else if evS e≠0 then ([],[],[],evS e) else
 if (kP names e).2.2≠0 then ([],[],[],(kP names e).2.2) else
 if (kT (kP names e).2.1 stacks e).2.2.2≠0 then ([],[],[],(kT (kP names e).2.1 stacks e).2.2.2) else
 (wG (kS (kP names e).1 e (kT (kP names e).2.1 stacks e).1),(kT (kP names e).2.1 stacks e).2.1,(kT (kP names e).2.1 stacks e).2.2.1,0)
theorem zMD {n lo hi:Int}:tY n lo hi=0↔lo≤n∧n≤hi:=by
 unfold tY
 split
 ·constructor
  ·intro h;cases h
  ·omega
 ·constructor
  ·omega
  ·intro _;rfl
theorem zDj {e:zL} (h:evS e=0):0≤e.At∧e.At≤1000000000000∧1≤e.Kind∧e.Kind≤12∧zCU e=false∧zD5 e=0∧zFl e=0:=by
 unfold evS at h
 split at h
 ·cases h
 split at h
 ·cases h
 split at h
 ·cases h
 split at h
 ·contradiction
 rename_i h1 h2 h3 h4
 exact ⟨by omega,by omega,by omega,by omega,by simpa using h3,by omega,h⟩
theorem zFm {e:zL} (h:evS e=0):y2 e.At∧y2 e.Kind∧y2 e.N∧y2 e.M:=by
 obtain ⟨h1,h2,h3,h4,h5,h6,h7⟩:=zDj h
 unfold zCU at h5
 simp only [Bool.or_eq_false_iff,Bool.and_eq_false_iff,Bool.not_eq_false',bne_eq_false_iff_eq] at h5
 have w:∀ {n lo hi:Int},tY n lo hi=0→lo≤n∧n≤hi:=fun h=>zMD.1 h
 have hN:y2 e.N:=by
  rcases h5.2.1 with h | h
  case inr=>unfold y2;omega
  unfold vH at h
  simp only [decide_eq_true_eq] at h
  unfold zFl at h7
  unfold y2
  split at h7
  ·omega
  split at h7
  ·have:=w h7;omega
  split at h7
  ·have:=w h7;omega
  split at h7
  ·have:=w h7;omega
  split at h7
  ·split at h7
   ·rename_i h8;have:=w h8.1;omega
   ·split at h7
    ·cases h7
    ·have:=w h7;omega
  ·split at h7
   ·rename_i h8;have:=w h8.1;omega
   ·have:=w h7;omega
 have hM:y2 e.M:=by
  rcases h5.2.2.1 with h | h
  case inr=>unfold y2;omega
  have hk:e.Kind=9∨e.Kind=11:=by unfold v4 at h;simpa using h
  unfold zFl at h7
  unfold y2
  rcases hk with hk | hk
  ·simp [hk] at h7
   split at h7
   ·have:=w h7;omega
   ·split at h7
    ·cases h7
    ·rename_i h8;have:e.M=0:=Classical.byContradiction fun hc=>h8 ⟨h7,hc⟩
     omega
  ·simp [hk] at h7
   split at h7
   ·have:=w h7;omega
   ·contradiction
 exact ⟨by unfold y2;omega,by unfold y2;omega,hN,hM⟩
theorem zHH {k:Int} (h:1≤k∧k≤12):zDt k=some (y5 k,vH k,v4 k,xM k):=by
 have:k=1∨k=2∨k=3∨k=4∨k=5∨k=6∨k=7∨k=8∨k=9∨k=10∨k=11∨k=12:=by omega
 rcases this with h | h | h | h | h | h | h | h | h | h | h | h<;>subst h<;>rfl
theorem zI3 {n:List (List Int)} {x:List Int} (hl:n.length≤100000):y2 (vB n x).1:=by
 have hr:=zBj x n
 have:uL x 0 n≤n.length:=by
  rcases zAT x n 0 with ⟨h,_⟩ | ⟨j,h1,h⟩
  ·omega
  ·have:=(List.getElem?_eq_some_iff.1 h1).1;omega
 unfold vB y2
 split
 ·simp
 split
 ·simp only;omega
 split
 ·simp
 ·simp only;omega
theorem zQX {n0:List (List Int)} {s0:List zN}:∀ (l:List (List Int)) (at_:Int) (n:List (List Int)) (s:List zN), -1≤at_→at_≤100000→s.length+l.length≤100000→y2 (kE n0 s0 l at_ n s).1:=by
 intro l
 induction l with
 | nil=>intro at_ n s h0 h1 _;simp only [kE,y2];omega
 | cons x r ih =>
  intro at_ n s h0 h1 h2
  simp only [List.length_cons] at h2
  simp only [kE]
  generalize vB n x=q
  have hr:=zBj (⟨at_,q.1⟩:zN) s
  have:uL (⟨at_,q.1⟩:zN) 0 s≤s.length:=by
   rcases zAT (⟨at_,q.1⟩:zN) s 0 with ⟨h,_⟩ | ⟨j,h1,h⟩
   ·omega
   ·have:=(List.getElem?_eq_some_iff.1 h1).1;omega
  split
  ·simp [y2]
  split
  ·exact ih _ _ _ (by omega) (by omega) (by omega)
  split
  ·simp [y2]
  ·exact ih _ _ _ (by omega) (by omega) (by simp only [List.length_append,List.length_singleton];omega)
theorem zGu {n:List (List Int)} {s:List zN} {l:List (List Int)} (hs:s.length≤50000):y2 (vN n s l).1:=by
 unfold vN
 split
 ·simp [y2]
 ·rename_i h
  have:=(zG4.1 (show qZ l=0 by omega)).1
  exact zQX l (-1) n s (by omega) (by omega) (by omega)
theorem zH7 {names:List (List Int)} {stacks:List zN} {e:zL} (hn:names.length≤40000) (hs:stacks.length≤40000):zA0 200000 names stacks e=some (vU names stacks e):=by
 unfold zA0 vU
 rw [zBo,zbs]
 by_cases hc:uW names stacks≠0
 ·rw [xW hc,if_pos hc];rfl
 rw [xD (by omega),cond_false,if_neg hc,zDD,zbs]
 by_cases he:evS e≠0
 ·rw [xW he,if_pos he];rfl
 rw [xD (by omega),cond_false,if_neg he]
 obtain ⟨r1,r2,r3,r4⟩:=zFm (show evS e=0 by omega)
 rw [show zCq e.Kind=some (y5 e.Kind,vH e.Kind,v4 e.Kind,xM e.Kind) from rfl,zbs]
 have hpn:=zEf names e.Name
 have hpi:=zI3 (n:=names) (x:=e.Name) (by omega)
 have l2:=nN 9 (w8 e.Kind)
 have l3:=nN 9 (w8 e.At)
 have l5:=nN 9 (w8 e.N)
 have l6:=nN 9 (w8 e.M)
 rw [jZ r2 (by simp) (by omega),zbs,jZ r1 (by simp;omega) (by omega),zbs]
 simp only [List.nil_append,zGw (show names.length≤100000 by omega),zbs]
 have e0:wG [e.Kind,e.At]=vV 9 (w8 e.Kind)++vV 9 (w8 e.At):=by simp [wG]
 rw [← e0]
 unfold kP kS
 have tail:∀ (i:Int) (pre:List Int) (nm:List (List Int)),pre.length≤3→nm.length≤50000 → 
   ((((bif vH e.Kind then (vG 200000 (wG pre) e.N).bind fun r_8=>some r_8 else some (wG pre)):Option (List Int))).bind fun (o_2:(List Int)) =>
   (((bif v4 e.Kind then (vG 200000 o_2 e.M).bind fun r_9=>some r_9 else some o_2):Option (List Int))).bind fun (o_3:(List Int)) =>
   (((bif xM e.Kind then (pQ 200000 nm stacks e.Stack).bind fun y4 =>
   (bif (y4.2.2.2 != (0:Int)) then some (.inr ([],[],[],y4.2.2.2)) else
   (vG 200000 o_3 y4.1).bind fun y6 =>
   some (.inl (y4.2.1,y4.2.2.1,y6))) else
   some (.inl (nm,stacks,o_3))):Option (((List (List Int))×(List zN)×(List Int))⊕((List (Int))×(List (List Int))×(List (zN))×Int)))).bind fun (o_4:((List (List Int))×(List zN)×(List Int))⊕((List (Int))×(List (List Int))×(List (zN))×Int)) =>
   (match o_4 with
   | (.inl q_3)=>some (q_3.2.2,q_3.1,q_3.2.1,(0:Int))
   | (.inr q_4)=>some q_4)) =
   some (if (kT nm stacks e).2.2.2≠0 then ([],[],[],(kT nm stacks e).2.2.2) else
    (wG (pre++(if vH e.Kind then [e.N] else [])++(if v4 e.Kind then [e.M] else [])++(if xM e.Kind then [(kT nm stacks e).1] else [])),(kT nm stacks e).2.1,(kT nm stacks e).2.2.1,0)):=by
  intro i pre nm hp hnm
  have h1:(((bif vH e.Kind then (vG 200000 (wG pre) e.N).bind fun r_8=>some r_8 else some (wG pre)):Option (List Int)))=some (wG (pre++(if vH e.Kind then [e.N] else []))):=by
   have:=zEV pre
   cases vH e.Kind
   ·simp
   ·rw [cond_true,jZ r3 (by omega) (by omega),zbs];simp [zBH]
  rw [h1,zbs]
  have hq:(pre++(if vH e.Kind then [e.N] else [])).length≤4:=by cases vH e.Kind<;>simp<;>omega
  generalize pre++(if vH e.Kind then [e.N] else [])=q at *
  have h2:(((bif v4 e.Kind then (vG 200000 (wG q) e.M).bind fun r_9=>some r_9 else some (wG q)):Option (List Int)))=some (wG (q++(if v4 e.Kind then [e.M] else []))):=by
   have:=zEV q
   cases v4 e.Kind
   ·simp
   ·rw [cond_true,jZ r4 (by omega) (by omega),zbs];simp [zBH]
  rw [h2,zbs]
  have hq2:(q++(if v4 e.Kind then [e.M] else [])).length≤5:=by cases v4 e.Kind<;>simp<;>omega
  generalize q++(if v4 e.Kind then [e.M] else [])=p at *
  have:=zEV p
  unfold kT
  cases xM e.Kind
  ·simp
  ·have hpx:=zGu (n:=nm) (s:=stacks) (l:=e.Stack) (by omega)
   simp only [cond_true,if_true]
   rw [zGK (by omega) (by omega),zbs]
   by_cases hz:(vN nm stacks e.Stack).2.2.2≠0
   ·rw [xW hz,if_pos hz];rfl
   ·rw [xD (by omega),if_neg hz,cond_false,jZ hpx (by omega) (by omega)]
    simp [zBH]
 cases hun:y5 e.Kind
 ·have:=tail 0 [e.Kind,e.At] names (by simp) (by omega)
  simp only [cond_false,Bool.false_eq_true,if_false,List.append_nil,zbs,ne_eq,not_true_eq_false]
  exact this
 ·have l7:=nN 9 (w8 (vB names e.Name).1)
  simp only [cond_true,if_true]
  by_cases hp:(vB names e.Name).2.2≠0
  ·rw [xW hp,if_pos hp];rfl
  ·have:=tail 0 ([e.Kind,e.At]++[(vB names e.Name).1]) (vB names e.Name).2.1 (by simp) (by omega)
   rw [xD (by omega),if_neg hp,cond_false,jZ hpi (by rw [e0];simp;omega) (by omega),zbs,← zBH,zbs]
   exact this
end Go.Ab
