/- Plain laws of the functions wU this seat's, laid anew from another seat's text. No conditions but those that the theorems name. -/
import Derived.Test.YtoeengmnmhhpgaaP15xD
import Derived.Test.YtoeengmnmhhpgaaB15a
import Derived.Test.YtoeengmnmhhpgaaB15b
import Derived.Test.YtoeengmnmhhpgaaB15c
import Derived.Test.YtoeengmnmhhpgaaB15d
namespace Go.Ab
open Go
set_option linter.unusedVariables false
theorem SB {F:Nat} {b s:List Int} (hl:b.length≤1000000) (hs:s.length≤1000000) (hF2:9<F):rA F b s=some (b++wK 9 (wF s.length)++s):=by
 unfold rA
 have hv:=(pX 9 (wF s.length)).2
 rw [jK (by unfold yS;omega) (by omega) hF2,zbs]
 generalize hr:b++wK 9 (wF s.length)=r
 have hrl:r.length≤1000010:=by rw [← hr];simp;omega
 have e1:zI ((r.length:Int)+(s.length:Int))=((r.length+s.length:Nat):Int):=by rw [w64 (by omega) (by omega)];omega
 have c1:cpy (List.replicate (r.length+s.length) (0:Int)) 0 (r.length+s.length) r=r++List.replicate s.length 0:=by
  unfold cpy
  rw [show min r.length (r.length+s.length - 0)=r.length by omega,List.take_length,List.drop_replicate,show r.length+s.length - (0+r.length)=s.length by omega];rfl
 have c2:cpy (r++List.replicate s.length (0:Int)) r.length (r.length+s.length) s=r++s:=by
  unfold cpy
  rw [show min s.length (r.length+s.length - r.length)=s.length by omega,List.take_length,List.take_left,List.drop_eq_nil_of_le (by simp),List.append_nil]
 simp only [e1,Int.toNat_natCast,c1,c2,zla,List.length_replicate]
 rw [x7 (by omega),zbs,x7 (by omega),zbs,x7 (by omega),zbs,x7 (by omega),zbs]
def txt (b:List Int) (most:Int):List Int×Int×Int :=
 let r:=vrd b 0 0
 if r.2.2≠0 then ([],0,r.2.2) else if r.1<0 then ([],0,10) else if r.1>most then ([],0,7) else if r.1>b.length - r.2.1 then ([],0,8) else
 (sub b r.2.1 (r.2.1+r.1),r.2.1+r.1,0)
theorem UY {F:Nat} {b:List Int} {most:Int} (hb:∀ x∈b,xO x) (hl:b.length≤4611686018427387904) (hF:b.length<F):r9 F b most=some (txt b most):=by
 unfold r9 txt
 rw [oP hb hl hF,zbs]
 obtain ⟨k1,k2,k3⟩:=dI (i:=0) (u:=0) hb (by omega) (by omega) (by decide)
 generalize vrd b 0 0=r at *
 unfold yS at k1
 simp only [Bool.cond_eq_ite,bne_iff_ne,decide_eq_true_eq]
 by_cases g0:r.2.2≠0
 ·rw [if_pos g0,if_pos g0]
 rw [if_neg g0,if_neg g0]
 have:=k2 (by omega)
 by_cases g1:r.1<0
 ·rw [if_pos g1,if_pos g1]
 rw [if_neg g1,if_neg g1]
 by_cases g2:r.1>most
 ·rw [if_pos g2,if_pos g2]
 rw [if_neg g2,if_neg g2,w64 (by omega) (by omega)]
 by_cases g3:r.1>b.length - r.2.1
 ·rw [if_pos g3,if_pos g3]
 rw [if_neg g3,if_neg g3,w64 (by omega) (by omega),x7 (by omega),zbs]
def yP (l:List Int):List Int:=l.flatMap fun n=>wK 9 (wF n)
theorem O2:yP []=[]:=rfl
theorem BU (l:List Int) (n:Int):yP (l++[n])=yP l++wK 9 (wF n):=by simp [yP]
theorem M6 (n:Int) (l:List Int):yP (n::l)=wK 9 (wF n)++yP l:=by simp [yP]
theorem aL (l:List Int):l.length≤(yP l).length∧(yP l).length≤10 * l.length:=by
 induction l with
 | nil=>simp [yP]
 | cons n l ih =>
  have:=pX 9 (wF n)
  rw [M6]
  simp only [zla,zlc]
  omega
theorem B0 {l:List Int} (h:∀ x∈l,yS x):∀ x∈yP l,xO x:=by
 intro x hx
 obtain ⟨n,hn,hx⟩:=List.mem_flatMap.1 hx
 exact AH (h n hn) x hx
def nC (names:Int) (e:y6) (st:Int):List Int :=
 [e.Kind,e.At]++(if vX e.Kind then [names] else [])++(if u4 e.Kind then [e.N] else [])++(if tH e.Kind then [e.M] else [])++(if uS e.Kind then [st] else [])
def uU (names:List (List Int)) (e:y6):Int×List (List Int)×Int:=if vX e.Kind then uM names e.Name else (0,names,0)
def t8 (names:List (List Int)) (stacks:List zS) (e:y6):Int×List (List Int)×List zS×Int:=if uS e.Kind then qJ names stacks e.Stack else (0,names,stacks,0)
def qP (names:List (List Int)) (stacks:List zS) (e:y6):List Int×List (List Int)×List zS×Int :=
 if n6 names stacks≠0 then ([],[],[],1) else if evS e≠0 then ([],[],[],evS e) else
 if (uU names e).2.2≠0 then ([],[],[],(uU names e).2.2) else
 if (t8 (uU names e).2.1 stacks e).2.2.2≠0 then ([],[],[],(t8 (uU names e).2.1 stacks e).2.2.2) else
 (yP (nC (uU names e).1 e (t8 (uU names e).2.1 stacks e).1),(t8 (uU names e).2.1 stacks e).2.1,(t8 (uU names e).2.1 stacks e).2.2.1,0)
theorem WZ {n lo hi:Int}:pB n lo hi=0↔lo≤n∧n≤hi:=by
 unfold pB
 split
 ·constructor
  ·intro h;cases h
  ·omega
 ·constructor
  ·omega
  ·intro _;rfl
theorem LZ {e:y6} (h:evS e=0):0≤e.At∧e.At≤1000000000000∧1≤e.Kind∧e.Kind≤12∧bG e=false∧bC e=0∧fQ e=0:=by
 unfold evS at h
 split at h
 ·cases h
 split at h
 ·cases h
 split at h
 ·cases h
 split at h
 ·contradiction
 rename_i h1 h2 h3 h4
 exact ⟨by omega,by omega,by omega,by omega,by simpa using h3,by omega,h⟩
theorem MN {e:y6} (h:evS e=0):yS e.At∧yS e.Kind∧yS e.N∧yS e.M:=by
 obtain ⟨h1,h2,h3,h4,h5,h6,h7⟩:=LZ h
 unfold bG at h5
 simp only [Bool.or_eq_false_iff,Bool.and_eq_false_iff,Bool.not_eq_false',bne_eq_false_iff_eq] at h5
 have w:∀ {n lo hi:Int},pB n lo hi=0→lo≤n∧n≤hi:=fun h=>WZ.1 h
 have hN:yS e.N:=by
  rcases h5.2.1 with h | h
  case inr=>unfold yS;omega
  unfold u4 at h
  simp only [decide_eq_true_eq] at h
  unfold fQ at h7
  unfold yS
  split at h7
  ·omega
  split at h7
  ·have:=w h7;omega
  split at h7
  ·have:=w h7;omega
  split at h7
  ·have:=w h7;omega
  split at h7
  ·split at h7
   ·rename_i h8;have:=w h8.1;omega
   ·split at h7
    ·cases h7
    ·have:=w h7;omega
  ·split at h7
   ·rename_i h8;have:=w h8.1;omega
   ·have:=w h7;omega
 have hM:yS e.M:=by
  rcases h5.2.2.1 with h | h
  case inr=>unfold yS;omega
  have hk:e.Kind=9∨e.Kind=11:=by unfold tH at h;simpa using h
  unfold fQ at h7
  unfold yS
  rcases hk with hk | hk
  ·simp [hk] at h7
   split at h7
   ·have:=w h7;omega
   ·split at h7
    ·cases h7
    ·rename_i h8;have:e.M=0:=Classical.byContradiction fun hc=>h8 ⟨h7,hc⟩
     omega
  ·simp [hk] at h7
   split at h7
   ·have:=w h7;omega
   ·contradiction
 exact ⟨by unfold yS;omega,by unfold yS;omega,hN,hM⟩
theorem zAU {n:List (List Int)} {x:List Int} (hl:n.length≤100000):yS (uM n x).1:=by
 have hr:=ED x n
 have:u5 x 0 n≤n.length:=by
  rcases DR x n 0 with ⟨h,_⟩ | ⟨j,h1,h⟩
  ·omega
  ·have:=(List.getElem?_eq_some_iff.1 h1).1;omega
 unfold uM yS
 split
 ·simp
 split
 ·simp only;omega
 split
 ·simp
 ·simp only;omega
theorem zDC {n0:List (List Int)} {s0:List zS}:∀ (l:List (List Int)) (at_:Int) (n:List (List Int)) (s:List zS), -1≤at_→at_≤100000→s.length+l.length≤100000→yS (tD n0 s0 l at_ n s).1:=by
 intro l
 induction l with
 | nil=>intro at_ n s h0 h1 _;simp only [tD,yS];omega
 | cons x r ih =>
  intro at_ n s h0 h1 h2
  simp only [zlc] at h2
  simp only [tD]
  generalize uM n x=q
  have hr:=ED (⟨at_,q.1⟩:zS) s
  have:u5 (⟨at_,q.1⟩:zS) 0 s≤s.length:=by
   rcases DR (⟨at_,q.1⟩:zS) s 0 with ⟨h,_⟩ | ⟨j,h1,h⟩
   ·omega
   ·have:=(List.getElem?_eq_some_iff.1 h1).1;omega
  split
  ·simp [yS]
  split
  ·exact ih _ _ _ (by omega) (by omega) (by omega)
  split
  ·simp [yS]
  ·exact ih _ _ _ (by omega) (by omega) (by simp only [zla,zls];omega)
theorem zCq {n:List (List Int)} {s:List zS} {l:List (List Int)} (hs:s.length≤50000):yS (qJ n s l).1:=by
 unfold qJ
 split
 ·simp [yS]
 ·rename_i h
  have:=(QT.1 (show kQ l=0 by omega)).1
  exact zDC l (-1) n s (by omega) (by omega) (by omega)
theorem zBZ {names:List (List Int)} {stacks:List zS} {e:y6} (hn:names.length≤40000) (hs:stacks.length≤40000):D1 281474976710656 names stacks e=some (qP names stacks e):=by
 unfold D1 qP
 rw [JC,zbs]
 by_cases hc:n6 names stacks≠0
 ·rw [wA hc,if_pos hc];rfl
 rw [x8 (by omega),cond_false,if_neg hc,MF,zbs]
 by_cases he:evS e≠0
 ·rw [wA he,if_pos he];rfl
 rw [x8 (by omega),cond_false,if_neg he]
 obtain ⟨r1,r2,r3,r4⟩:=MN (show evS e=0 by omega)
 rw [show BJ e.Kind=some (vX e.Kind,u4 e.Kind,tH e.Kind,uS e.Kind) from rfl,zbs]
 have hpn:=T5 names e.Name
 have hpi:=zAU (n:=names) (x:=e.Name) (by omega)
 have l2:=pX 9 (wF e.Kind)
 have l3:=pX 9 (wF e.At)
 have l5:=pX 9 (wF e.N)
 have l6:=pX 9 (wF e.M)
 rw [jK r2 (by simp) (by omega),zbs,jK r1 (by simp;omega) (by omega),zbs]
 simp only [List.nil_append,VF (show names.length≤100000 by omega),zbs]
 have e0:yP [e.Kind,e.At]=wK 9 (wF e.Kind)++wK 9 (wF e.At):=by simp [yP]
 rw [← e0]
 unfold uU nC
 have tail:∀ (i:Int) (pre:List Int) (nm:List (List Int)),pre.length≤3→nm.length≤50000 → 
   ((((bif u4 e.Kind then (uY 281474976710656 (yP pre) e.N).bind fun r_8=>some r_8 else some (yP pre)):Option (List Int))).bind fun (o_2:(List Int)) =>
   (((bif tH e.Kind then (uY 281474976710656 o_2 e.M).bind fun r_9=>some r_9 else some o_2):Option (List Int))).bind fun (o_3:(List Int)) =>
   (((bif uS e.Kind then (r7 281474976710656 nm stacks e.Stack).bind fun xF =>
   (bif (xF.2.2.2 != (0:Int)) then some (.inr ([],[],[],xF.2.2.2)) else
   (uY 281474976710656 o_3 xF.1).bind fun wN =>
   some (.inl (xF.2.1,xF.2.2.1,wN))) else
   some (.inl (nm,stacks,o_3))):Option (((List (List Int))×(List zS)×(List Int))⊕((List (Int))×(List (List Int))×(List (zS))×Int)))).bind fun (o_4:((List (List Int))×(List zS)×(List Int))⊕((List (Int))×(List (List Int))×(List (zS))×Int)) =>
   (match o_4 with
   | (.inl q_3)=>some (q_3.2.2,q_3.1,q_3.2.1,(0:Int))
   | (.inr q_4)=>some q_4)) =
   some (if (t8 nm stacks e).2.2.2≠0 then ([],[],[],(t8 nm stacks e).2.2.2) else
    (yP (pre++(if u4 e.Kind then [e.N] else [])++(if tH e.Kind then [e.M] else [])++(if uS e.Kind then [(t8 nm stacks e).1] else [])),(t8 nm stacks e).2.1,(t8 nm stacks e).2.2.1,0)):=by
  intro i pre nm hp hnm
  have h1:(((bif u4 e.Kind then (uY 281474976710656 (yP pre) e.N).bind fun r_8=>some r_8 else some (yP pre)):Option (List Int)))=some (yP (pre++(if u4 e.Kind then [e.N] else []))):=by
   have:=aL pre
   cases u4 e.Kind
   ·simp
   ·rw [cond_true,jK r3 (by omega) (by omega),zbs];simp [BU]
  rw [h1,zbs]
  have hq:(pre++(if u4 e.Kind then [e.N] else [])).length≤4:=by cases u4 e.Kind<;>simp<;>omega
  generalize pre++(if u4 e.Kind then [e.N] else [])=q at *
  have h2:(((bif tH e.Kind then (uY 281474976710656 (yP q) e.M).bind fun r_9=>some r_9 else some (yP q)):Option (List Int)))=some (yP (q++(if tH e.Kind then [e.M] else []))):=by
   have:=aL q
   cases tH e.Kind
   ·simp
   ·rw [cond_true,jK r4 (by omega) (by omega),zbs];simp [BU]
  rw [h2,zbs]
  have hq2:(q++(if tH e.Kind then [e.M] else [])).length≤5:=by cases tH e.Kind<;>simp<;>omega
  generalize q++(if tH e.Kind then [e.M] else [])=p at *
  have:=aL p
  unfold t8
  cases uS e.Kind
  ·simp
  ·have hpx:=zCq (n:=nm) (s:=stacks) (l:=e.Stack) (by omega)
   simp only [cond_true,if_true]
   rw [zDd (by omega) (by omega),zbs]
   by_cases hz:(qJ nm stacks e.Stack).2.2.2≠0
   ·rw [wA hz,if_pos hz];rfl
   ·rw [x8 (by omega),if_neg hz,cond_false,jK hpx (by omega) (by omega)]
    simp [BU]
 cases hun:vX e.Kind
 ·have:=tail 0 [e.Kind,e.At] names (by simp) (by omega)
  simp only [cond_false,Bool.false_eq_true,if_false,List.append_nil,zbs,ne_eq,not_true_eq_false]
  exact this
 ·have l7:=pX 9 (wF (uM names e.Name).1)
  simp only [cond_true,if_true]
  by_cases hp:(uM names e.Name).2.2≠0
  ·rw [wA hp,if_pos hp];rfl
  ·have:=tail 0 ([e.Kind,e.At]++[(uM names e.Name).1]) (uM names e.Name).2.1 (by simp) (by omega)
   rw [x8 (by omega),if_neg hp,cond_false,jK hpi (by rw [e0];simp;omega) (by omega),zbs,← BU,zbs]
   exact this
end Go.Ab
