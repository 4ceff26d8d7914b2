/- Plain laws of the functions uE this seat's, laid anew from another seat's text. No conditions but those that the theorems name. -/
import Derived.Test.YtlnlcciflpncmaaP11xD
import Derived.Test.YtlnlcciflpncmaaB11a
import Derived.Test.YtlnlcciflpncmaaB11b
import Derived.Test.YtlnlcciflpncmaaB11c
import Derived.Test.YtlnlcciflpncmaaB11d
namespace Go.Ab
open Go
set_option linter.unusedVariables false
theorem zFH {F:Nat} {s:List Int} (hs:s.length≤140737488000000):∀ (n i:Nat) (row:List Int),(s.drop i).length<n→row.length+(s.drop i).length≤140737488355000 →
  qB F s n (i:Int) row=some (row++s.drop i):=by
 intro n
 induction n with
 | zero=>intro i row h;omega
 | succ n ih =>
  intro i row hn hr
  show t7 F s (qB F s n) i row=_
  unfold t7
  rcases hd:s.drop i with _ | ⟨c,r⟩
  ·have:=wO hd
   rw [z7 (by omega),cond_false];simp
  ·have hlt:=vA hd
   rw [hd] at hr hn
   simp only [List.length_cons] at hr hn
   rw [z9 (by omega),cond_true,yQ hd,Option.bind_some,yN (by simp;omega),Option.bind_some,w64 (by omega) (by omega),show (i:Int)+1=((i+1:Nat):Int) by omega,
    ih (i+1) _ (by rw [yD hd];omega) (by rw [yD hd];simp;omega),yD hd]
   simp
theorem zG1 {F:Nat} {b s:List Int} (hl:b.length≤1000000) (hs:s.length≤1000000) (hF:s.length<F) (hF2:9<F):zAC F b s=some (b++vX 9 (x9 s.length)++s):=by
 unfold zAC
 have hv:=(vI 9 (x9 s.length)).2
 rw [uA (by unfold yH;omega) (by omega) hF2,Option.bind_some,show qB F s F 0 (b++vX 9 (x9 s.length))=some (b++vX 9 (x9 s.length)++s.drop 0) from zFH (by omega) F 0 _ (by simpa using hF) (by simp;omega)]
 rfl
theorem zFT {F:Nat} {b s:List Int} (hl:b.length≤1000000) (hs:s.length≤1000000) (hF2:9<F):pY F b s=some (b++vX 9 (x9 s.length)++s):=by
 unfold pY
 have hv:=(vI 9 (x9 s.length)).2
 rw [vO (by unfold yH;omega) (by omega) hF2,Option.bind_some]
 generalize hr:b++vX 9 (x9 s.length)=r
 have hrl:r.length≤1000010:=by rw [← hr];simp;omega
 have e1:zK ((r.length:Int)+(s.length:Int))=((r.length+s.length:Nat):Int):=by rw [w64 (by omega) (by omega)];omega
 have c1:cpy (List.replicate (r.length+s.length) (0:Int)) 0 (r.length+s.length) r=r++List.replicate s.length 0:=by
  unfold cpy
  rw [show min r.length (r.length+s.length - 0)=r.length by omega,List.take_length,List.drop_replicate,show r.length+s.length - (0+r.length)=s.length by omega];rfl
 have c2:cpy (r++List.replicate s.length (0:Int)) r.length (r.length+s.length) s=r++s:=by
  unfold cpy
  rw [show min s.length (r.length+s.length - r.length)=s.length by omega,List.take_length,List.take_left,List.drop_eq_nil_of_le (by simp),List.append_nil]
 simp only [e1,Int.toNat_natCast,c1,c2,List.length_append,List.length_replicate]
 rw [yN (by omega),Option.bind_some,yN (by omega),Option.bind_some,yN (by omega),Option.bind_some,yN (by omega),Option.bind_some]
def txt (b:List Int) (most:Int):List Int×Int×Int :=
 let r:=vrd b 0 0
 if r.2.2≠0 then ([],0,r.2.2) else if r.1<0 then ([],0,10) else if r.1>most then ([],0,7) else if r.1>b.length - r.2.1 then ([],0,8) else
 (sub b r.2.1 (r.2.1+r.1),r.2.1+r.1,0)
theorem zD0 {F:Nat} {b:List Int} {most:Int} (hb:∀ x∈b,y8 x) (hl:b.length≤4611686018427387904) (hF:b.length<F):zAj F b most=some (txt b most):=by
 unfold zAj txt
 rw [zA7 hb hl hF,Option.bind_some]
 obtain ⟨k1,k2,k3⟩:=zEC (i:=0) (u:=0) hb (by omega) (by omega) (by decide)
 generalize vrd b 0 0=r at *
 unfold yH at k1
 simp only [Bool.cond_eq_ite,bne_iff_ne,decide_eq_true_eq]
 by_cases g0:r.2.2≠0
 ·rw [if_pos g0,if_pos g0]
 rw [if_neg g0,if_neg g0]
 have:=k2 (by omega)
 by_cases g1:r.1<0
 ·rw [if_pos g1,if_pos g1]
 rw [if_neg g1,if_neg g1]
 by_cases g2:r.1>most
 ·rw [if_pos g2,if_pos g2]
 rw [if_neg g2,if_neg g2,w64 (by omega) (by omega)]
 by_cases g3:r.1>b.length - r.2.1
 ·rw [if_pos g3,if_pos g3]
 rw [if_neg g3,if_neg g3,w64 (by omega) (by omega),yN (by omega),Option.bind_some]
theorem zKe {F:Nat} {b:List Int} {most:Int} (hb:∀ x∈b,y8 x) (hl:b.length≤4611686018427387904) (hF:b.length<F) (hF2:10<F):zCI F b most=some (txt b most):=by
 have h:=zD0 (most:=most) hb hl hF
 unfold zAj at h
 unfold zCI
 rw [zA7 hb hl hF] at h
 rw [zDw hb hl hF2]
 exact h
def xX (l:List Int):List Int:=l.flatMap fun n=>vX 9 (x9 n)
theorem zJY:xX []=[]:=rfl
theorem zBJ (l:List Int) (n:Int):xX (l++[n])=xX l++vX 9 (x9 n):=by simp [xX]
theorem zEz (n:Int) (l:List Int):xX (n::l)=vX 9 (x9 n)++xX l:=by simp [xX]
theorem tM (l:List Int):l.length≤(xX l).length∧(xX l).length≤10 * l.length:=by
 induction l with
 | nil=>simp [xX]
 | cons n l ih =>
  have:=vI 9 (x9 n)
  rw [zEz]
  simp only [List.length_append,List.length_cons]
  omega
theorem zNO {l:List Int} (h:∀ x∈l,yH x):∀ x∈xX l,y8 x:=by
 intro x hx
 obtain ⟨n,hn,hx⟩:=List.mem_flatMap.1 hx
 exact zMQ (h n hn) x hx
def zAh (names:Int) (e:zA) (st:Int):List Int :=
 [e.Kind,e.At]++(if yE e.Kind then [names] else [])++(if wE e.Kind then [e.N] else [])++(if wI e.Kind then [e.M] else [])++(if yP e.Kind then [st] else [])
def qF (names:List (List Int)) (e:zA):Int×List (List Int)×Int:=if yE e.Kind then xH names e.Name else (0,names,0)
def qG (names:List (List Int)) (stacks:List zE) (e:zA):Int×List (List Int)×List zE×Int:=if yP e.Kind then xM names stacks e.Stack else (0,names,stacks,0)
def kN (names:List (List Int)) (stacks:List zE) (e:zA):List Int×List (List Int)×List zE×Int :=
 if tC names stacks≠0 then ([],[],[],1) else if evS e≠0 then ([],[],[],evS e) else
 if (qF names e).2.2≠0 then ([],[],[],(qF names e).2.2) else
 if (qG (qF names e).2.1 stacks e).2.2.2≠0 then ([],[],[],(qG (qF names e).2.1 stacks e).2.2.2) else
 (xX (zAh (qF names e).1 e (qG (qF names e).2.1 stacks e).1),(qG (qF names e).2.1 stacks e).2.1,(qG (qF names e).2.1 stacks e).2.2.1,0)
theorem zJw {n lo hi:Int}:vU n lo hi=0↔lo≤n∧n≤hi:=by
 unfold vU
 split
 ·constructor
  ·intro h;cases h
  ·omega
 ·constructor
  ·omega
  ·intro _;rfl
theorem zFx {e:zA} (h:evS e=0):0≤e.At∧e.At≤1000000000000∧1≤e.Kind∧e.Kind≤12∧zA2 e=false∧zBF e=0∧zCK e=0:=by
 unfold evS at h
 split at h
 ·cases h
 split at h
 ·cases h
 split at h
 ·cases h
 split at h
 ·contradiction
 rename_i h1 h2 h3 h4
 exact ⟨by omega,by omega,by omega,by omega,by simpa using h3,by omega,h⟩
theorem zEd {e:zA} (h:evS e=0):yH e.At∧yH e.Kind∧yH e.N∧yH e.M:=by
 obtain ⟨h1,h2,h3,h4,h5,h6,h7⟩:=zFx h
 unfold zA2 at h5
 simp only [Bool.or_eq_false_iff,Bool.and_eq_false_iff,Bool.not_eq_false',bne_eq_false_iff_eq] at h5
 have w:∀ {n lo hi:Int},vU n lo hi=0→lo≤n∧n≤hi:=fun h=>zJw.1 h
 have hN:yH e.N:=by
  rcases h5.2.1 with h | h
  case inr=>unfold yH;omega
  unfold wE at h
  simp only [decide_eq_true_eq] at h
  unfold zCK at h7
  unfold yH
  split at h7
  ·omega
  split at h7
  ·have:=w h7;omega
  split at h7
  ·have:=w h7;omega
  split at h7
  ·have:=w h7;omega
  split at h7
  ·split at h7
   ·rename_i h8;have:=w h8.1;omega
   ·split at h7
    ·cases h7
    ·have:=w h7;omega
  ·split at h7
   ·rename_i h8;have:=w h8.1;omega
   ·have:=w h7;omega
 have hM:yH e.M:=by
  rcases h5.2.2.1 with h | h
  case inr=>unfold yH;omega
  have hk:e.Kind=9∨e.Kind=11:=by unfold wI at h;simpa using h
  unfold zCK at h7
  unfold yH
  rcases hk with hk | hk
  ·simp [hk] at h7
   split at h7
   ·have:=w h7;omega
   ·split at h7
    ·cases h7
    ·rename_i h8;have:e.M=0:=Classical.byContradiction fun hc=>h8 ⟨h7,hc⟩
     omega
  ·simp [hk] at h7
   split at h7
   ·have:=w h7;omega
   ·contradiction
 exact ⟨by unfold yH;omega,by unfold yH;omega,hN,hM⟩
theorem zFh {k:Int} (h:1≤k∧k≤12):zBt k=some (yE k,wE k,wI k,yP k):=by
 have:k=1∨k=2∨k=3∨k=4∨k=5∨k=6∨k=7∨k=8∨k=9∨k=10∨k=11∨k=12:=by omega
 rcases this with h | h | h | h | h | h | h | h | h | h | h | h<;>subst h<;>rfl
theorem zGC {n:List (List Int)} {x:List Int} (hl:n.length≤100000):yH (xH n x).1:=by
 have hr:=nF x n
 have:wN x 0 n≤n.length:=by
  rcases pI x n 0 with ⟨h,_⟩ | ⟨j,h1,h⟩
  ·omega
  ·have:=(List.getElem?_eq_some_iff.1 h1).1;omega
 unfold xH yH
 split
 ·simp
 split
 ·simp only;omega
 split
 ·simp
 ·simp only;omega
theorem zMZ {n0:List (List Int)} {s0:List zE}:∀ (l:List (List Int)) (at_:Int) (n:List (List Int)) (s:List zE), -1≤at_→at_≤100000→s.length+l.length≤100000→yH (tZ n0 s0 l at_ n s).1:=by
 intro l
 induction l with
 | nil=>intro at_ n s h0 h1 _;simp only [tZ,yH];omega
 | cons x r ih =>
  intro at_ n s h0 h1 h2
  simp only [List.length_cons] at h2
  simp only [tZ]
  generalize xH n x=q
  have hr:=nF (⟨at_,q.1⟩:zE) s
  have:wN (⟨at_,q.1⟩:zE) 0 s≤s.length:=by
   rcases pI (⟨at_,q.1⟩:zE) s 0 with ⟨h,_⟩ | ⟨j,h1,h⟩
   ·omega
   ·have:=(List.getElem?_eq_some_iff.1 h1).1;omega
  split
  ·simp [yH]
  split
  ·exact ih _ _ _ (by omega) (by omega) (by omega)
  split
  ·simp [yH]
  ·exact ih _ _ _ (by omega) (by omega) (by simp only [List.length_append,List.length_singleton];omega)
theorem zDV {n:List (List Int)} {s:List zE} {l:List (List Int)} (hs:s.length≤50000):yH (xM n s l).1:=by
 unfold xM
 split
 ·simp [yH]
 ·rename_i h
  have:=(zEw.1 (show uQ l=0 by omega)).1
  exact zMZ l (-1) n s (by omega) (by omega) (by omega)
theorem zFq {names:List (List Int)} {stacks:List zE} {e:zA} (hn:names.length≤40000) (hs:stacks.length≤40000):pU 200000 names stacks e=some (kN names stacks e):=by
 unfold pU kN
 rw [nK,Option.bind_some]
 by_cases hc:tC names stacks≠0
 ·rw [y0 hc,if_pos hc];rfl
 rw [y6 (by omega),cond_false,if_neg hc,zBu,Option.bind_some]
 by_cases he:evS e≠0
 ·rw [y0 he,if_pos he];rfl
 rw [y6 (by omega),cond_false,if_neg he]
 obtain ⟨r1,r2,r3,r4⟩:=zEd (show evS e=0 by omega)
 rw [show zAA e.Kind=some (yE e.Kind,wE e.Kind,wI e.Kind,yP e.Kind) from rfl,Option.bind_some]
 have hpn:=zB1 names e.Name
 have hpi:=zGC (n:=names) (x:=e.Name) (by omega)
 have l2:=vI 9 (x9 e.Kind)
 have l3:=vI 9 (x9 e.At)
 have l5:=vI 9 (x9 e.N)
 have l6:=vI 9 (x9 e.M)
 rw [vO r2 (by simp) (by omega),Option.bind_some,vO r1 (by simp;omega) (by omega),Option.bind_some]
 simp only [List.nil_append,zD1 (show names.length≤100000 by omega),Option.bind_some]
 have e0:xX [e.Kind,e.At]=vX 9 (x9 e.Kind)++vX 9 (x9 e.At):=by simp [xX]
 rw [← e0]
 unfold qF zAh
 have tail:∀ (i:Int) (pre:List Int) (nm:List (List Int)),pre.length≤3→nm.length≤50000 → 
   ((((bif wE e.Kind then (xL 200000 (xX pre) e.N).bind fun r_8=>some r_8 else some (xX pre)):Option (List Int))).bind fun (o_2:(List Int)) =>
   (((bif wI e.Kind then (xL 200000 o_2 e.M).bind fun r_9=>some r_9 else some o_2):Option (List Int))).bind fun (o_3:(List Int)) =>
   (((bif yP e.Kind then (qS 200000 nm stacks e.Stack).bind fun r_10 =>
   (bif (r_10.2.2.2 != (0:Int)) then some (.inr ([],[],[],r_10.2.2.2)) else
   (xL 200000 o_3 r_10.1).bind fun r_11 =>
   some (.inl (r_10.2.1,r_10.2.2.1,r_11))) else
   some (.inl (nm,stacks,o_3))):Option (((List (List Int))×(List zE)×(List Int))⊕((List (Int))×(List (List Int))×(List (zE))×Int)))).bind fun (o_4:((List (List Int))×(List zE)×(List Int))⊕((List (Int))×(List (List Int))×(List (zE))×Int)) =>
   (match o_4 with
   | (.inl q_3)=>some (q_3.2.2,q_3.1,q_3.2.1,(0:Int))
   | (.inr q_4)=>some q_4)) =
   some (if (qG nm stacks e).2.2.2≠0 then ([],[],[],(qG nm stacks e).2.2.2) else
    (xX (pre++(if wE e.Kind then [e.N] else [])++(if wI e.Kind then [e.M] else [])++(if yP e.Kind then [(qG nm stacks e).1] else [])),(qG nm stacks e).2.1,(qG nm stacks e).2.2.1,0)):=by
  intro i pre nm hp hnm
  have h1:(((bif wE e.Kind then (xL 200000 (xX pre) e.N).bind fun r_8=>some r_8 else some (xX pre)):Option (List Int)))=some (xX (pre++(if wE e.Kind then [e.N] else []))):=by
   have:=tM pre
   cases wE e.Kind
   ·simp
   ·rw [cond_true,vO r3 (by omega) (by omega),Option.bind_some];simp [zBJ]
  rw [h1,Option.bind_some]
  have hq:(pre++(if wE e.Kind then [e.N] else [])).length≤4:=by cases wE e.Kind<;>simp<;>omega
  generalize pre++(if wE e.Kind then [e.N] else [])=q at *
  have h2:(((bif wI e.Kind then (xL 200000 (xX q) e.M).bind fun r_9=>some r_9 else some (xX q)):Option (List Int)))=some (xX (q++(if wI e.Kind then [e.M] else []))):=by
   have:=tM q
   cases wI e.Kind
   ·simp
   ·rw [cond_true,vO r4 (by omega) (by omega),Option.bind_some];simp [zBJ]
  rw [h2,Option.bind_some]
  have hq2:(q++(if wI e.Kind then [e.M] else [])).length≤5:=by cases wI e.Kind<;>simp<;>omega
  generalize q++(if wI e.Kind then [e.M] else [])=p at *
  have:=tM p
  unfold qG
  cases yP e.Kind
  ·simp
  ·have hpx:=zDV (n:=nm) (s:=stacks) (l:=e.Stack) (by omega)
   simp only [cond_true,if_true]
   rw [zEo (by omega) (by omega),Option.bind_some]
   by_cases hz:(xM nm stacks e.Stack).2.2.2≠0
   ·rw [y0 hz,if_pos hz];rfl
   ·rw [y6 (by omega),if_neg hz,cond_false,vO hpx (by omega) (by omega)]
    simp [zBJ]
 cases hun:yE e.Kind
 ·have:=tail 0 [e.Kind,e.At] names (by simp) (by omega)
  simp only [cond_false,Bool.false_eq_true,if_false,List.append_nil,Option.bind_some,ne_eq,not_true_eq_false]
  exact this
 ·have l7:=vI 9 (x9 (xH names e.Name).1)
  simp only [cond_true,if_true]
  by_cases hp:(xH names e.Name).2.2≠0
  ·rw [y0 hp,if_pos hp];rfl
  ·have:=tail 0 ([e.Kind,e.At]++[(xH names e.Name).1]) (xH names e.Name).2.1 (by simp) (by omega)
   rw [y6 (by omega),if_neg hp,cond_false,vO hpi (by rw [e0];simp;omega) (by omega),Option.bind_some,← zBJ,Option.bind_some]
   exact this
end Go.Ab
