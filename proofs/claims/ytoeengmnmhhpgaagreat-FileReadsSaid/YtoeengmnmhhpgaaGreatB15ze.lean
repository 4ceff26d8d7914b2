/- Plain laws of the functions uV this seat's, laid anew from another seat's text. No conditions but those that the theorems name. -/
import Derived.Test.YtoeengmnmhhpgaaGreatP15zxD
import Derived.Test.YtoeengmnmhhpgaaGreatB15za
import Derived.Test.YtoeengmnmhhpgaaGreatB15zb
import Derived.Test.YtoeengmnmhhpgaaGreatB15zc
import Derived.Test.YtoeengmnmhhpgaaGreatB15zd
namespace Go.Ab
open Go
set_option linter.unusedVariables false
theorem zCu {F:Nat} {s:List Int} (hs:s.length≤140737488000000):∀ (n i:Nat) (row:List Int),(s.drop i).length<n→row.length+(s.drop i).length≤140737488355000 →
  lM F s n (i:Int) row=some (row++s.drop i):=by
 intro n
 induction n with
 | zero=>intro i row h;omega
 | succ n ih =>
  intro i row hn hr
  show G6 F s (lM F s n) i row=_
  unfold G6
  rcases hd:s.drop i with _ | ⟨c,r⟩
  ·have:=tZ hd
   rw [yM (by omega),cond_false];simp
  ·have hlt:=tQ hd
   rw [hd] at hr hn
   simp only [List.length_cons] at hr hn
   rw [yP (by omega),cond_true,w5 hd,zbs,xZ (by simp;omega),zbs,w64 (by omega) (by omega),show (i:Int)+1=((i+1:Nat):Int) by omega,
    ih (i+1) _ (by rw [wZ hd];omega) (by rw [wZ hd];simp;omega),wZ hd]
   simp
theorem ZQ {F:Nat} {b s:List Int} (hl:b.length≤1000000) (hs:s.length≤1000000) (hF:s.length<F) (hF2:9<F):CN F b s=some (b++vH 9 (wT s.length)++s):=by
 unfold CN
 have hv:=(j5 9 (wT s.length)).2
 rw [cC (by unfold xP;omega) (by omega) hF2,zbs,show lM F s F 0 (b++vH 9 (wT s.length))=some (b++vH 9 (wT s.length)++s.drop 0) from zCu (by omega) F 0 _ (by simpa using hF) (by simp;omega)]
 rfl
theorem VS {F:Nat} {b s:List Int} (hl:b.length≤1000000) (hs:s.length≤1000000) (hF2:9<F):A1 F b s=some (b++vH 9 (wT s.length)++s):=by
 unfold A1
 have hv:=(j5 9 (wT s.length)).2
 rw [kZ (by unfold xP;omega) (by omega) hF2,zbs]
 generalize hr:b++vH 9 (wT s.length)=r
 have hrl:r.length≤1000010:=by rw [← hr];simp;omega
 have e1:zG ((r.length:Int)+(s.length:Int))=((r.length+s.length:Nat):Int):=by rw [w64 (by omega) (by omega)];omega
 have c1:cpy (List.replicate (r.length+s.length) (0:Int)) 0 (r.length+s.length) r=r++List.replicate s.length 0:=by
  unfold cpy
  rw [show min r.length (r.length+s.length - 0)=r.length by omega,List.take_length,List.drop_replicate,show r.length+s.length - (0+r.length)=s.length by omega];rfl
 have c2:cpy (r++List.replicate s.length (0:Int)) r.length (r.length+s.length) s=r++s:=by
  unfold cpy
  rw [show min s.length (r.length+s.length - r.length)=s.length by omega,List.take_length,List.take_left,List.drop_eq_nil_of_le (by simp),List.append_nil]
 simp only [e1,Int.toNat_natCast,c1,c2,List.length_append,List.length_replicate]
 rw [xZ (by omega),zbs,xZ (by omega),zbs,xZ (by omega),zbs,xZ (by omega),zbs]
def txt (b:List Int) (most:Int):List Int×Int×Int :=
 let r:=vrd b 0 0
 if r.2.2≠0 then ([],0,r.2.2) else if r.1<0 then ([],0,10) else if r.1>most then ([],0,7) else if r.1>b.length - r.2.1 then ([],0,8) else
 (sub b r.2.1 (r.2.1+r.1),r.2.1+r.1,0)
theorem QY {F:Nat} {b:List Int} {most:Int} (hb:∀ x∈b,x6 x) (hl:b.length≤4611686018427387904) (hF:b.length<F):mT F b most=some (txt b most):=by
 unfold mT txt
 rw [m7 hb hl hF,zbs]
 obtain ⟨k1,k2,k3⟩:=cJ (i:=0) (u:=0) hb (by omega) (by omega) (by decide)
 generalize vrd b 0 0=r at *
 unfold xP at k1
 simp only [Bool.cond_eq_ite,bne_iff_ne,decide_eq_true_eq]
 by_cases g0:r.2.2≠0
 ·rw [if_pos g0,if_pos g0]
 rw [if_neg g0,if_neg g0]
 have:=k2 (by omega)
 by_cases g1:r.1<0
 ·rw [if_pos g1,if_pos g1]
 rw [if_neg g1,if_neg g1]
 by_cases g2:r.1>most
 ·rw [if_pos g2,if_pos g2]
 rw [if_neg g2,if_neg g2,w64 (by omega) (by omega)]
 by_cases g3:r.1>b.length - r.2.1
 ·rw [if_pos g3,if_pos g3]
 rw [if_neg g3,if_neg g3,w64 (by omega) (by omega),xZ (by omega),zbs]
theorem S9 {F:Nat} {b:List Int} {most:Int} (hb:∀ x∈b,x6 x) (hl:b.length≤4611686018427387904) (hF:b.length<F) (hF2:10<F):AZ F b most=some (txt b most):=by
 have h:=QY (most:=most) hb hl hF
 unfold mT at h
 unfold AZ
 rw [m7 hb hl hF] at h
 rw [KW hb hl hF2]
 exact h
def vO (l:List Int):List Int:=l.flatMap fun n=>vH 9 (wT n)
theorem YO:vO []=[]:=rfl
theorem EH (l:List Int) (n:Int):vO (l++[n])=vO l++vH 9 (wT n):=by simp [vO]
theorem OK (n:Int) (l:List Int):vO (n::l)=vH 9 (wT n)++vO l:=by simp [vO]
theorem kX (l:List Int):l.length≤(vO l).length∧(vO l).length≤10 * l.length:=by
 induction l with
 | nil=>simp [vO]
 | cons n l ih =>
  have:=j5 9 (wT n)
  rw [OK]
  simp only [List.length_append,List.length_cons]
  omega
theorem zCj {l:List Int} (h:∀ x∈l,xP x):∀ x∈vO l,x6 x:=by
 intro x hx
 obtain ⟨n,hn,hx⟩:=List.mem_flatMap.1 hx
 exact zBk (h n hn) x hx
def dO (names:Int) (e:yW) (st:Int):List Int :=
 [e.Kind,e.At]++(if vB e.Kind then [names] else [])++(if vZ e.Kind then [e.N] else [])++(if uD e.Kind then [e.M] else [])++(if uP e.Kind then [st] else [])
def qJ (names:List (List Int)) (e:yW):Int×List (List Int)×Int:=if vB e.Kind then uU names e.Name else (0,names,0)
def qL (names:List (List Int)) (stacks:List zQ) (e:yW):Int×List (List Int)×List zQ×Int:=if uP e.Kind then q7 names stacks e.Stack else (0,names,stacks,0)
def jR (names:List (List Int)) (stacks:List zQ) (e:yW):List Int×List (List Int)×List zQ×Int :=
 if j0 names stacks≠0 then ([],[],[],1) else if evS e≠0 then ([],[],[],evS e) else
 if (qJ names e).2.2≠0 then ([],[],[],(qJ names e).2.2) else
 if (qL (qJ names e).2.1 stacks e).2.2.2≠0 then ([],[],[],(qL (qJ names e).2.1 stacks e).2.2.2) else
 (vO (dO (qJ names e).1 e (qL (qJ names e).2.1 stacks e).1),(qL (qJ names e).2.1 stacks e).2.1,(qL (qJ names e).2.1 stacks e).2.2.1,0)
theorem ZY {n lo hi:Int}:kA n lo hi=0↔lo≤n∧n≤hi:=by
 unfold kA
 split
 ·constructor
  ·intro h;cases h
  ·omega
 ·constructor
  ·omega
  ·intro _;rfl
theorem NN {e:yW} (h:evS e=0):0≤e.At∧e.At≤1000000000000∧1≤e.Kind∧e.Kind≤12∧aK e=false∧b7 e=0∧gG e=0:=by
 unfold evS at h
 split at h
 ·cases h
 split at h
 ·cases h
 split at h
 ·cases h
 split at h
 ·contradiction
 rename_i h1 h2 h3 h4
 exact ⟨by omega,by omega,by omega,by omega,by simpa using h3,by omega,h⟩
theorem RP {e:yW} (h:evS e=0):xP e.At∧xP e.Kind∧xP e.N∧xP e.M:=by
 obtain ⟨h1,h2,h3,h4,h5,h6,h7⟩:=NN h
 unfold aK at h5
 simp only [Bool.or_eq_false_iff,Bool.and_eq_false_iff,Bool.not_eq_false',bne_eq_false_iff_eq] at h5
 have w:∀ {n lo hi:Int},kA n lo hi=0→lo≤n∧n≤hi:=fun h=>ZY.1 h
 have hN:xP e.N:=by
  rcases h5.2.1 with h | h
  case inr=>unfold xP;omega
  unfold vZ at h
  simp only [decide_eq_true_eq] at h
  unfold gG at h7
  unfold xP
  split at h7
  ·omega
  split at h7
  ·have:=w h7;omega
  split at h7
  ·have:=w h7;omega
  split at h7
  ·have:=w h7;omega
  split at h7
  ·split at h7
   ·rename_i h8;have:=w h8.1;omega
   ·split at h7
    ·cases h7
    ·have:=w h7;omega
  ·split at h7
   ·rename_i h8;have:=w h8.1;omega
   ·have:=w h7;omega
 have hM:xP e.M:=by
  rcases h5.2.2.1 with h | h
  case inr=>unfold xP;omega
  have hk:e.Kind=9∨e.Kind=11:=by unfold uD at h;simpa using h
  unfold gG at h7
  unfold xP
  rcases hk with hk | hk
  ·simp [hk] at h7
   split at h7
   ·have:=w h7;omega
   ·split at h7
    ·cases h7
    ·rename_i h8;have:e.M=0:=Classical.byContradiction fun hc=>h8 ⟨h7,hc⟩
     omega
  ·simp [hk] at h7
   split at h7
   ·have:=w h7;omega
   ·contradiction
 exact ⟨by unfold xP;omega,by unfold xP;omega,hN,hM⟩
theorem XW {k:Int} (h:1≤k∧k≤12):rR k=some (vB k,vZ k,uD k,uP k):=by
 have:k=1∨k=2∨k=3∨k=4∨k=5∨k=6∨k=7∨k=8∨k=9∨k=10∨k=11∨k=12:=by omega
 rcases this with h | h | h | h | h | h | h | h | h | h | h | h<;>subst h<;>rfl
theorem S8 {n:List (List Int)} {x:List Int} (hl:n.length≤100000):xP (uU n x).1:=by
 have hr:=B1 x n
 have:u4 x 0 n≤n.length:=by
  rcases oQ x n 0 with ⟨h,_⟩ | ⟨j,h1,h⟩
  ·omega
  ·have:=(List.getElem?_eq_some_iff.1 h1).1;omega
 unfold uU xP
 split
 ·simp
 split
 ·simp only;omega
 split
 ·simp
 ·simp only;omega
theorem zFc {n0:List (List Int)} {s0:List zQ}:∀ (l:List (List Int)) (at_:Int) (n:List (List Int)) (s:List zQ), -1≤at_→at_≤100000→s.length+l.length≤100000→xP (qE n0 s0 l at_ n s).1:=by
 intro l
 induction l with
 | nil=>intro at_ n s h0 h1 _;simp only [qE,xP];omega
 | cons x r ih =>
  intro at_ n s h0 h1 h2
  simp only [List.length_cons] at h2
  simp only [qE]
  generalize uU n x=q
  have hr:=B1 (⟨at_,q.1⟩:zQ) s
  have:u4 (⟨at_,q.1⟩:zQ) 0 s≤s.length:=by
   rcases oQ (⟨at_,q.1⟩:zQ) s 0 with ⟨h,_⟩ | ⟨j,h1,h⟩
   ·omega
   ·have:=(List.getElem?_eq_some_iff.1 h1).1;omega
  split
  ·simp [xP]
  split
  ·exact ih _ _ _ (by omega) (by omega) (by omega)
  split
  ·simp [xP]
  ·exact ih _ _ _ (by omega) (by omega) (by simp only [List.length_append,List.length_singleton];omega)
theorem TI {n:List (List Int)} {s:List zQ} {l:List (List Int)} (hs:s.length≤50000):xP (q7 n s l).1:=by
 unfold q7
 split
 ·simp [xP]
 ·rename_i h
  have:=(V8.1 (show kH l=0 by omega)).1
  exact zFc l (-1) n s (by omega) (by omega) (by omega)
theorem zBO {names:List (List Int)} {stacks:List zQ} {e:yW} (hn:names.length≤40000) (hs:stacks.length≤40000):HL 281474976710656 names stacks e=some (jR names stacks e):=by
 unfold HL jR
 rw [L3,zbs]
 by_cases hc:j0 names stacks≠0
 ·rw [wE hc,if_pos hc];rfl
 rw [wF (by omega),cond_false,if_neg hc,MW,zbs]
 by_cases he:evS e≠0
 ·rw [wE he,if_pos he];rfl
 rw [wF (by omega),cond_false,if_neg he]
 obtain ⟨r1,r2,r3,r4⟩:=RP (show evS e=0 by omega)
 rw [show DK e.Kind=some (vB e.Kind,vZ e.Kind,uD e.Kind,uP e.Kind) from rfl,zbs]
 have hpn:=LN names e.Name
 have hpi:=S8 (n:=names) (x:=e.Name) (by omega)
 have l2:=j5 9 (wT e.Kind)
 have l3:=j5 9 (wT e.At)
 have l5:=j5 9 (wT e.N)
 have l6:=j5 9 (wT e.M)
 rw [kZ r2 (by simp) (by omega),zbs,kZ r1 (by simp;omega) (by omega),zbs]
 simp only [List.nil_append,X9 (show names.length≤100000 by omega),zbs]
 have e0:vO [e.Kind,e.At]=vH 9 (wT e.Kind)++vH 9 (wT e.At):=by simp [vO]
 rw [← e0]
 unfold qJ dO
 have tail:∀ (i:Int) (pre:List Int) (nm:List (List Int)),pre.length≤3→nm.length≤50000 → 
   ((((bif vZ e.Kind then (qD 281474976710656 (vO pre) e.N).bind fun r_8=>some r_8 else some (vO pre)):Option (List Int))).bind fun (o_2:(List Int)) =>
   (((bif uD e.Kind then (qD 281474976710656 o_2 e.M).bind fun r_9=>some r_9 else some o_2):Option (List Int))).bind fun (o_3:(List Int)) =>
   (((bif uP e.Kind then (AB 281474976710656 nm stacks e.Stack).bind fun xL =>
   (bif (xL.2.2.2 != (0:Int)) then some (.inr ([],[],[],xL.2.2.2)) else
   (qD 281474976710656 o_3 xL.1).bind fun wN =>
   some (.inl (xL.2.1,xL.2.2.1,wN))) else
   some (.inl (nm,stacks,o_3))):Option (((List (List Int))×(List zQ)×(List Int))⊕((List (Int))×(List (List Int))×(List (zQ))×Int)))).bind fun (o_4:((List (List Int))×(List zQ)×(List Int))⊕((List (Int))×(List (List Int))×(List (zQ))×Int)) =>
   (match o_4 with
   | (.inl q_3)=>some (q_3.2.2,q_3.1,q_3.2.1,(0:Int))
   | (.inr q_4)=>some q_4)) =
   some (if (qL nm stacks e).2.2.2≠0 then ([],[],[],(qL nm stacks e).2.2.2) else
    (vO (pre++(if vZ e.Kind then [e.N] else [])++(if uD e.Kind then [e.M] else [])++(if uP e.Kind then [(qL nm stacks e).1] else [])),(qL nm stacks e).2.1,(qL nm stacks e).2.2.1,0)):=by
  intro i pre nm hp hnm
  have h1:(((bif vZ e.Kind then (qD 281474976710656 (vO pre) e.N).bind fun r_8=>some r_8 else some (vO pre)):Option (List Int)))=some (vO (pre++(if vZ e.Kind then [e.N] else []))):=by
   have:=kX pre
   cases vZ e.Kind
   ·simp
   ·rw [cond_true,kZ r3 (by omega) (by omega),zbs];simp [EH]
  rw [h1,zbs]
  have hq:(pre++(if vZ e.Kind then [e.N] else [])).length≤4:=by cases vZ e.Kind<;>simp<;>omega
  generalize pre++(if vZ e.Kind then [e.N] else [])=q at *
  have h2:(((bif uD e.Kind then (qD 281474976710656 (vO q) e.M).bind fun r_9=>some r_9 else some (vO q)):Option (List Int)))=some (vO (q++(if uD e.Kind then [e.M] else []))):=by
   have:=kX q
   cases uD e.Kind
   ·simp
   ·rw [cond_true,kZ r4 (by omega) (by omega),zbs];simp [EH]
  rw [h2,zbs]
  have hq2:(q++(if uD e.Kind then [e.M] else [])).length≤5:=by cases uD e.Kind<;>simp<;>omega
  generalize q++(if uD e.Kind then [e.M] else [])=p at *
  have:=kX p
  unfold qL
  cases uP e.Kind
  ·simp
  ·have hpx:=TI (n:=nm) (s:=stacks) (l:=e.Stack) (by omega)
   simp only [cond_true,if_true]
   rw [zEx (by omega) (by omega),zbs]
   by_cases hz:(q7 nm stacks e.Stack).2.2.2≠0
   ·rw [wE hz,if_pos hz];rfl
   ·rw [wF (by omega),if_neg hz,cond_false,kZ hpx (by omega) (by omega)]
    simp [EH]
 cases hun:vB e.Kind
 ·have:=tail 0 [e.Kind,e.At] names (by simp) (by omega)
  simp only [cond_false,Bool.false_eq_true,if_false,List.append_nil,zbs,ne_eq,not_true_eq_false]
  exact this
 ·have l7:=j5 9 (wT (uU names e.Name).1)
  simp only [cond_true,if_true]
  by_cases hp:(uU names e.Name).2.2≠0
  ·rw [wE hp,if_pos hp];rfl
  ·have:=tail 0 ([e.Kind,e.At]++[(uU names e.Name).1]) (uU names e.Name).2.1 (by simp) (by omega)
   rw [wF (by omega),if_neg hp,cond_false,kZ hpi (by rw [e0];simp;omega) (by omega),zbs,← EH,zbs]
   exact this
end Go.Ab
