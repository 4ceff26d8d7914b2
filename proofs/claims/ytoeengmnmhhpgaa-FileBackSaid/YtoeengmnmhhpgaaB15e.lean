/- Plain laws of the functions w6 this seat's, laid anew from another seat's text. No conditions but those that the theorems name. -/
import Derived.Test.YtoeengmnmhhpgaaP15xD
import Derived.Test.YtoeengmnmhhpgaaB15a
import Derived.Test.YtoeengmnmhhpgaaB15b
import Derived.Test.YtoeengmnmhhpgaaB15c
import Derived.Test.YtoeengmnmhhpgaaB15d
namespace Go.Ab
open Go
set_option linter.unusedVariables false
theorem TY {F:Nat} {b s:List Int} (hl:b.length≤1000000) (hs:s.length≤1000000) (hF2:9<F):oG F b s=some (b++wI 9 (wB s.length)++s):=by
 unfold oG
 have hv:=(nH 9 (wB s.length)).2
 rw [jV (by unfold yU;omega) (by omega) hF2,zbs]
 generalize hr:b++wI 9 (wB s.length)=r
 have hrl:r.length≤1000010:=by rw [← hr];simp;omega
 have e1:zI ((r.length:Int)+(s.length:Int))=((r.length+s.length:Nat):Int):=by rw [w64 (by omega) (by omega)];omega
 have c1:cpy (List.replicate (r.length+s.length) (0:Int)) 0 (r.length+s.length) r=r++List.replicate s.length 0:=by
  unfold cpy
  rw [show min r.length (r.length+s.length - 0)=r.length by omega,List.take_length,List.drop_replicate,show r.length+s.length - (0+r.length)=s.length by omega];rfl
 have c2:cpy (r++List.replicate s.length (0:Int)) r.length (r.length+s.length) s=r++s:=by
  unfold cpy
  rw [show min s.length (r.length+s.length - r.length)=s.length by omega,List.take_length,List.take_left,List.drop_eq_nil_of_le (by simp),List.append_nil]
 simp only [e1,Int.toNat_natCast,c1,c2,zla,List.length_replicate]
 rw [xY (by omega),zbs,xY (by omega),zbs,xY (by omega),zbs,xY (by omega),zbs]
def txt (b:List Int) (most:Int):List Int×Int×Int :=
 let r:=vrd b 0 0
 if r.2.2≠0 then ([],0,r.2.2) else if r.1<0 then ([],0,10) else if r.1>most then ([],0,7) else if r.1>b.length - r.2.1 then ([],0,8) else
 (sub b r.2.1 (r.2.1+r.1),r.2.1+r.1,0)
theorem R7 {F:Nat} {b:List Int} {most:Int} (hb:∀ x∈b,xO x) (hl:b.length≤4611686018427387904) (hF:b.length<F):rZ F b most=some (txt b most):=by
 unfold rZ txt
 rw [oH hb hl hF,zbs]
 obtain ⟨k1,k2,k3⟩:=dF (i:=0) (u:=0) hb (by omega) (by omega) (by decide)
 generalize vrd b 0 0=r at *
 unfold yU at k1
 simp only [Bool.cond_eq_ite,bne_iff_ne,decide_eq_true_eq]
 by_cases g0:r.2.2≠0
 ·rw [if_pos g0,if_pos g0]
 rw [if_neg g0,if_neg g0]
 have:=k2 (by omega)
 by_cases g1:r.1<0
 ·rw [if_pos g1,if_pos g1]
 rw [if_neg g1,if_neg g1]
 by_cases g2:r.1>most
 ·rw [if_pos g2,if_pos g2]
 rw [if_neg g2,if_neg g2,w64 (by omega) (by omega)]
 by_cases g3:r.1>b.length - r.2.1
 ·rw [if_pos g3,if_pos g3]
 rw [if_neg g3,if_neg g3,w64 (by omega) (by omega),xY (by omega),zbs]
def yQ (l:List Int):List Int:=l.flatMap fun n=>wI 9 (wB n)
theorem OC:yQ []=[]:=rfl
theorem BV (l:List Int) (n:Int):yQ (l++[n])=yQ l++wI 9 (wB n):=by simp [yQ]
theorem KU (n:Int) (l:List Int):yQ (n::l)=wI 9 (wB n)++yQ l:=by simp [yQ]
theorem aG (l:List Int):l.length≤(yQ l).length∧(yQ l).length≤10 * l.length:=by
 induction l with
 | nil=>simp [yQ]
 | cons n l ih =>
  have:=nH 9 (wB n)
  rw [KU]
  simp only [zla,zlc]
  omega
theorem BO {l:List Int} (h:∀ x∈l,yU x):∀ x∈yQ l,xO x:=by
 intro x hx
 obtain ⟨n,hn,hx⟩:=List.mem_flatMap.1 hx
 exact C1 (h n hn) x hx
def p8 (names:Int) (e:xA) (st:Int):List Int :=
 [e.Kind,e.At]++(if vV e.Kind then [names] else [])++(if u7 e.Kind then [e.N] else [])++(if tF e.Kind then [e.M] else [])++(if uS e.Kind then [st] else [])
def tG (names:List (List Int)) (e:xA):Int×List (List Int)×Int:=if vV e.Kind then uT names e.Name else (0,names,0)
def qW (names:List (List Int)) (stacks:List zT) (e:xA):Int×List (List Int)×List zT×Int:=if uS e.Kind then q9 names stacks e.Stack else (0,names,stacks,0)
def jS (names:List (List Int)) (stacks:List zT) (e:xA):List Int×List (List Int)×List zT×Int :=
 if nU names stacks≠0 then ([],[],[],1) else if evS e≠0 then ([],[],[],evS e) else
 if (tG names e).2.2≠0 then ([],[],[],(tG names e).2.2) else
 if (qW (tG names e).2.1 stacks e).2.2.2≠0 then ([],[],[],(qW (tG names e).2.1 stacks e).2.2.2) else
 (yQ (p8 (tG names e).1 e (qW (tG names e).2.1 stacks e).1),(qW (tG names e).2.1 stacks e).2.1,(qW (tG names e).2.1 stacks e).2.2.1,0)
theorem zBW {n lo hi:Int}:pV n lo hi=0↔lo≤n∧n≤hi:=by
 unfold pV
 split
 ·constructor
  ·intro h;cases h
  ·omega
 ·constructor
  ·omega
  ·intro _;rfl
theorem J3 {e:xA} (h:evS e=0):0≤e.At∧e.At≤1000000000000∧1≤e.Kind∧e.Kind≤12∧aS e=false∧cG e=0∧rH e=0:=by
 unfold evS at h
 split at h
 ·cases h
 split at h
 ·cases h
 split at h
 ·cases h
 split at h
 ·contradiction
 rename_i h1 h2 h3 h4
 exact ⟨by omega,by omega,by omega,by omega,by simpa using h3,by omega,h⟩
theorem JJ {e:xA} (h:evS e=0):yU e.At∧yU e.Kind∧yU e.N∧yU e.M:=by
 obtain ⟨h1,h2,h3,h4,h5,h6,h7⟩:=J3 h
 unfold aS at h5
 simp only [Bool.or_eq_false_iff,Bool.and_eq_false_iff,Bool.not_eq_false',bne_eq_false_iff_eq] at h5
 have w:∀ {n lo hi:Int},pV n lo hi=0→lo≤n∧n≤hi:=fun h=>zBW.1 h
 have hN:yU e.N:=by
  rcases h5.2.1 with h | h
  case inr=>unfold yU;omega
  unfold u7 at h
  simp only [decide_eq_true_eq] at h
  unfold rH at h7
  unfold yU
  split at h7
  ·omega
  split at h7
  ·have:=w h7;omega
  split at h7
  ·have:=w h7;omega
  split at h7
  ·have:=w h7;omega
  split at h7
  ·split at h7
   ·rename_i h8;have:=w h8.1;omega
   ·split at h7
    ·cases h7
    ·have:=w h7;omega
  ·split at h7
   ·rename_i h8;have:=w h8.1;omega
   ·have:=w h7;omega
 have hM:yU e.M:=by
  rcases h5.2.2.1 with h | h
  case inr=>unfold yU;omega
  have hk:e.Kind=9∨e.Kind=11:=by unfold tF at h;simpa using h
  unfold rH at h7
  unfold yU
  rcases hk with hk | hk
  ·simp [hk] at h7
   split at h7
   ·have:=w h7;omega
   ·split at h7
    ·cases h7
    ·rename_i h8;have:e.M=0:=Classical.byContradiction fun hc=>h8 ⟨h7,hc⟩
     omega
  ·simp [hk] at h7
   split at h7
   ·have:=w h7;omega
   ·contradiction
 exact ⟨by unfold yU;omega,by unfold yU;omega,hN,hM⟩
theorem VO {n:List (List Int)} {x:List Int} (hl:n.length≤100000):yU (uT n x).1:=by
 have hr:=G4 x n
 have:tB x 0 n≤n.length:=by
  rcases B3 x n 0 with ⟨h,_⟩ | ⟨j,h1,h⟩
  ·omega
  ·have:=(List.getElem?_eq_some_iff.1 h1).1;omega
 unfold uT yU
 split
 ·simp
 split
 ·simp only;omega
 split
 ·simp
 ·simp only;omega
theorem zAT {n0:List (List Int)} {s0:List zT}:∀ (l:List (List Int)) (at_:Int) (n:List (List Int)) (s:List zT), -1≤at_→at_≤100000→s.length+l.length≤100000→yU (t9 n0 s0 l at_ n s).1:=by
 intro l
 induction l with
 | nil=>intro at_ n s h0 h1 _;simp only [t9,yU];omega
 | cons x r ih =>
  intro at_ n s h0 h1 h2
  simp only [zlc] at h2
  simp only [t9]
  generalize uT n x=q
  have hr:=G4 (⟨at_,q.1⟩:zT) s
  have:tB (⟨at_,q.1⟩:zT) 0 s≤s.length:=by
   rcases B3 (⟨at_,q.1⟩:zT) s 0 with ⟨h,_⟩ | ⟨j,h1,h⟩
   ·omega
   ·have:=(List.getElem?_eq_some_iff.1 h1).1;omega
  split
  ·simp [yU]
  split
  ·exact ih _ _ _ (by omega) (by omega) (by omega)
  split
  ·simp [yU]
  ·exact ih _ _ _ (by omega) (by omega) (by simp only [zla,zls];omega)
theorem zDv {n:List (List Int)} {s:List zT} {l:List (List Int)} (hs:s.length≤50000):yU (q9 n s l).1:=by
 unfold q9
 split
 ·simp [yU]
 ·rename_i h
  have:=(O0.1 (show nG l=0 by omega)).1
  exact zAT l (-1) n s (by omega) (by omega) (by omega)
theorem zAx {names:List (List Int)} {stacks:List zT} {e:xA} (hn:names.length≤40000) (hs:stacks.length≤40000):D1 281474976710656 names stacks e=some (jS names stacks e):=by
 unfold D1 jS
 rw [EU,zbs]
 by_cases hc:nU names stacks≠0
 ·rw [wA hc,if_pos hc];rfl
 rw [x8 (by omega),cond_false,if_neg hc,JP,zbs]
 by_cases he:evS e≠0
 ·rw [wA he,if_pos he];rfl
 rw [x8 (by omega),cond_false,if_neg he]
 obtain ⟨r1,r2,r3,r4⟩:=JJ (show evS e=0 by omega)
 rw [show DQ e.Kind=some (vV e.Kind,u7 e.Kind,tF e.Kind,uS e.Kind) from rfl,zbs]
 have hpn:=S5 names e.Name
 have hpi:=VO (n:=names) (x:=e.Name) (by omega)
 have l2:=nH 9 (wB e.Kind)
 have l3:=nH 9 (wB e.At)
 have l5:=nH 9 (wB e.N)
 have l6:=nH 9 (wB e.M)
 rw [jV r2 (by simp) (by omega),zbs,jV r1 (by simp;omega) (by omega),zbs]
 simp only [List.nil_append,SE (show names.length≤100000 by omega),zbs]
 have e0:yQ [e.Kind,e.At]=wI 9 (wB e.Kind)++wI 9 (wB e.At):=by simp [yQ]
 rw [← e0]
 unfold tG p8
 have tail:∀ (i:Int) (pre:List Int) (nm:List (List Int)),pre.length≤3→nm.length≤50000 → 
   ((((bif u7 e.Kind then (u0 281474976710656 (yQ pre) e.N).bind fun r_8=>some r_8 else some (yQ pre)):Option (List Int))).bind fun (o_2:(List Int)) =>
   (((bif tF e.Kind then (u0 281474976710656 o_2 e.M).bind fun r_9=>some r_9 else some o_2):Option (List Int))).bind fun (o_3:(List Int)) =>
   (((bif uS e.Kind then (oE 281474976710656 nm stacks e.Stack).bind fun xM =>
   (bif (xM.2.2.2 != (0:Int)) then some (.inr ([],[],[],xM.2.2.2)) else
   (u0 281474976710656 o_3 xM.1).bind fun v7 =>
   some (.inl (xM.2.1,xM.2.2.1,v7))) else
   some (.inl (nm,stacks,o_3))):Option (((List (List Int))×(List zT)×(List Int))⊕((List (Int))×(List (List Int))×(List (zT))×Int)))).bind fun (o_4:((List (List Int))×(List zT)×(List Int))⊕((List (Int))×(List (List Int))×(List (zT))×Int)) =>
   (match o_4 with
   | (.inl q_3)=>some (q_3.2.2,q_3.1,q_3.2.1,(0:Int))
   | (.inr q_4)=>some q_4)) =
   some (if (qW nm stacks e).2.2.2≠0 then ([],[],[],(qW nm stacks e).2.2.2) else
    (yQ (pre++(if u7 e.Kind then [e.N] else [])++(if tF e.Kind then [e.M] else [])++(if uS e.Kind then [(qW nm stacks e).1] else [])),(qW nm stacks e).2.1,(qW nm stacks e).2.2.1,0)):=by
  intro i pre nm hp hnm
  have h1:(((bif u7 e.Kind then (u0 281474976710656 (yQ pre) e.N).bind fun r_8=>some r_8 else some (yQ pre)):Option (List Int)))=some (yQ (pre++(if u7 e.Kind then [e.N] else []))):=by
   have:=aG pre
   cases u7 e.Kind
   ·simp
   ·rw [cond_true,jV r3 (by omega) (by omega),zbs];simp [BV]
  rw [h1,zbs]
  have hq:(pre++(if u7 e.Kind then [e.N] else [])).length≤4:=by cases u7 e.Kind<;>simp<;>omega
  generalize pre++(if u7 e.Kind then [e.N] else [])=q at *
  have h2:(((bif tF e.Kind then (u0 281474976710656 (yQ q) e.M).bind fun r_9=>some r_9 else some (yQ q)):Option (List Int)))=some (yQ (q++(if tF e.Kind then [e.M] else []))):=by
   have:=aG q
   cases tF e.Kind
   ·simp
   ·rw [cond_true,jV r4 (by omega) (by omega),zbs];simp [BV]
  rw [h2,zbs]
  have hq2:(q++(if tF e.Kind then [e.M] else [])).length≤5:=by cases tF e.Kind<;>simp<;>omega
  generalize q++(if tF e.Kind then [e.M] else [])=p at *
  have:=aG p
  unfold qW
  cases uS e.Kind
  ·simp
  ·have hpx:=zDv (n:=nm) (s:=stacks) (l:=e.Stack) (by omega)
   simp only [cond_true,if_true]
   rw [zAY (by omega) (by omega),zbs]
   by_cases hz:(q9 nm stacks e.Stack).2.2.2≠0
   ·rw [wA hz,if_pos hz];rfl
   ·rw [x8 (by omega),if_neg hz,cond_false,jV hpx (by omega) (by omega)]
    simp [BV]
 cases hun:vV e.Kind
 ·have:=tail 0 [e.Kind,e.At] names (by simp) (by omega)
  simp only [cond_false,Bool.false_eq_true,if_false,List.append_nil,zbs,ne_eq,not_true_eq_false]
  exact this
 ·have l7:=nH 9 (wB (uT names e.Name).1)
  simp only [cond_true,if_true]
  by_cases hp:(uT names e.Name).2.2≠0
  ·rw [wA hp,if_pos hp];rfl
  ·have:=tail 0 ([e.Kind,e.At]++[(uT names e.Name).1]) (uT names e.Name).2.1 (by simp) (by omega)
   rw [x8 (by omega),if_neg hp,cond_false,jV hpi (by rw [e0];simp;omega) (by omega),zbs,← BV,zbs]
   exact this
end Go.Ab
