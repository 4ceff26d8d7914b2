/- Plain laws of the functions uS this seat's, laid anew from another seat's text. No conditions but those that the theorems name. -/
import Derived.Test.YtoeengmnmhhpgaaGreatP15zxD
import Derived.Test.YtoeengmnmhhpgaaGreatB15za
import Derived.Test.YtoeengmnmhhpgaaGreatB15zb
import Derived.Test.YtoeengmnmhhpgaaGreatB15zc
import Derived.Test.YtoeengmnmhhpgaaGreatB15zd
namespace Go.Ab
open Go
set_option linter.unusedVariables false
theorem zDu {F:Nat} {s:List Int} (hs:s.length<=140737488000000):∀ (n i:Nat) (row:List Int),(s.drop i).length<n->row.length+(s.drop i).length<=140737488355000 ->
  mI F s n (i:Int) row=some (row++s.drop i):=by
 intro n
 induction n with
 | zero=>intro i row h;omega
 | succ n ih =>
  intro i row hn hr;show D8 F s (mI F s n) i row=_;unfold D8;rcases hd:s.drop i with _ | ⟨c,r⟩
  ·have:=qC hd
   rw [yP (by omega),cond_false];simp
  ·have hlt:=tZ hd;rw [hd] at hr hn;simp only [zlc] at hr hn;rw [yN (by omega),cond_true,vE hd,zbs,xQ (by simp;omega),zbs,w64 (by omega) (by omega),show (i:Int)+1=((i+1:Nat):Int) by omega,
    ih (i+1) _ (by rw [w6 hd];omega) (by rw [w6 hd];simp;omega),w6 hd]
   simp
theorem X4 {F:Nat} {b s:List Int} (hl:b.length<=1000000) (hs:s.length<=1000000) (hF:s.length<F) (hF2:9<F):BG F b s=some (b++vJ 9 (wT s.length)++s):=by
 unfold BG;have hv:=(kT 9 (wT s.length)).2;rw [jM (by unfold xM;omega) (by omega) hF2,zbs,show mI F s F 0 (b++vJ 9 (wT s.length))=some (b++vJ 9 (wT s.length)++s.drop 0) from zDu (by omega) F 0 _ (by simpa using hF) (by simp;omega)];rfl
theorem YJ {F:Nat} {b s:List Int} (hl:b.length<=1000000) (hs:s.length<=1000000) (hF2:9<F):CZ F b s=some (b++vJ 9 (wT s.length)++s):=by
 unfold CZ;have hv:=(kT 9 (wT s.length)).2;rw [pA (by unfold xM;omega) (by omega) hF2,zbs];generalize hr:b++vJ 9 (wT s.length)=r;have hrl:r.length<=1000010:=by rw [<- hr];simp;omega
 have e1:zI ((r.length:Int)+(s.length:Int))=((r.length+s.length:Nat):Int):=by rw [w64 (by omega) (by omega)];omega
 have c1:cpy (List.replicate (r.length+s.length) (0:Int)) 0 (r.length+s.length) r=r++List.replicate s.length 0:=by
  unfold cpy;rw [show min r.length (r.length+s.length - 0)=r.length by omega,List.take_length,List.drop_replicate,show r.length+s.length - (0+r.length)=s.length by omega];rfl
 have c2:cpy (r++List.replicate s.length (0:Int)) r.length (r.length+s.length) s=r++s:=by
  unfold cpy;rw [show min s.length (r.length+s.length - r.length)=s.length by omega,List.take_length,List.take_left,List.drop_eq_nil_of_le (by simp),List.append_nil]
 simp only [e1,Int.toNat_natCast,c1,c2,zla,List.length_replicate];rw [xQ (by omega),zbs,xQ (by omega),zbs,xQ (by omega),zbs,xQ (by omega),zbs]
def txt (b:List Int) (most:Int):List Int×Int×Int :=
 let r:=vrd b 0 0
 if r.2.2≠0 then ([],0,r.2.2) else if r.1<0 then ([],0,10) else if r.1>most then ([],0,7) else if r.1>b.length - r.2.1 then ([],0,8) else
 (sub b r.2.1 (r.2.1+r.1),r.2.1+r.1,0)
theorem S7 {F:Nat} {b:List Int} {most:Int} (hb:∀ x∈b,xY x) (hl:b.length<=4611686018427387904) (hF:b.length<F):mV F b most=some (txt b most):=by
 unfold mV txt;rw [oO hb hl hF,zbs];obtain ⟨k1,k2,k3⟩:=cJ (i:=0) (u:=0) hb (by omega) (by omega) (by decide);generalize vrd b 0 0=r at *;unfold xM at k1;simp only [Bool.cond_eq_ite,bne_iff_ne,decide_eq_true_eq]
 by_cases g0:r.2.2≠0
 ·rw [if_pos g0,if_pos g0]
 rw [if_neg g0,if_neg g0]
 have:=k2 (by omega)
 by_cases g1:r.1<0
 ·rw [if_pos g1,if_pos g1]
 rw [if_neg g1,if_neg g1]
 by_cases g2:r.1>most
 ·rw [if_pos g2,if_pos g2]
 rw [if_neg g2,if_neg g2,w64 (by omega) (by omega)]
 by_cases g3:r.1>b.length - r.2.1
 ·rw [if_pos g3,if_pos g3]
 rw [if_neg g3,if_neg g3,w64 (by omega) (by omega),xQ (by omega),zbs]
theorem zAB {F:Nat} {b:List Int} {most:Int} (hb:∀ x∈b,xY x) (hl:b.length<=4611686018427387904) (hF:b.length<F) (hF2:10<F):CL F b most=some (txt b most):=by
 have h:=S7 (most:=most) hb hl hF;unfold mV at h;unfold CL;rw [oO hb hl hF] at h;rw [M1 hb hl hF2];exact h
def vX (l:List Int):List Int:=l.flatMap fun n=>vJ 9 (wT n)
theorem zAi:vX []=[]:=rfl
theorem G0 (l:List Int) (n:Int):vX (l++[n])=vX l++vJ 9 (wT n):=by simp [vX]
theorem TU (n:Int) (l:List Int):vX (n::l)=vJ 9 (wT n)++vX l:=by simp [vX]
theorem pN (l:List Int):l.length<=(vX l).length/\(vX l).length<=10 * l.length:=by
 induction l with
 | nil=>simp [vX]
 | cons n l ih =>
  have:=kT 9 (wT n)
  rw [TU];simp only [zla,zlc];omega
theorem EE {l:List Int} (h:∀ x∈l,xM x):∀ x∈vX l,xY x:=by
 intro x hx;obtain ⟨n,hn,hx⟩:=List.mem_flatMap.1 hx;exact SU (h n hn) x hx
def d8 (names:Int) (e:xD) (st:Int):List Int :=
 [e.Kind,e.At]++(if vP e.Kind then [names] else [])++(if uC e.Kind then [e.N] else [])++(if uM e.Kind then [e.M] else [])++(if u4 e.Kind then [st] else [])
def q8 (names:List (List Int)) (e:xD):Int×List (List Int)×Int:=if vP e.Kind then tF names e.Name else (0,names,0)
def qZ (names:List (List Int)) (stacks:List zV) (e:xD):Int×List (List Int)×List zV×Int:=if u4 e.Kind then jS names stacks e.Stack else (0,names,stacks,0)
def kF (names:List (List Int)) (stacks:List zV) (e:xD):List Int×List (List Int)×List zV×Int :=
 if kU names stacks≠0 then ([],[],[],1) else if evS e≠0 then ([],[],[],evS e) else
 if (q8 names e).2.2≠0 then ([],[],[],(q8 names e).2.2) else
 if (qZ (q8 names e).2.1 stacks e).2.2.2≠0 then ([],[],[],(qZ (q8 names e).2.1 stacks e).2.2.2) else
 (vX (d8 (q8 names e).1 e (qZ (q8 names e).2.1 stacks e).1),(qZ (q8 names e).2.1 stacks e).2.1,(qZ (q8 names e).2.1 stacks e).2.2.1,0)
theorem zEW {n lo hi:Int}:kM n lo hi=0↔lo<=n/\n<=hi:=by
 unfold kM
 split
 ·constructor
  ·intro h;cases h
  ·omega
 ·constructor
  ·omega
  ·intro _;rfl
theorem QR {e:xD} (h:evS e=0):0<=e.At/\e.At<=1000000000000/\1<=e.Kind/\e.Kind<=12/\bR e=false/\gN e=0/\gY e=0:=by
 unfold evS at h
 split at h
 ·cases h
 split at h
 ·cases h
 split at h
 ·cases h
 split at h
 ·contradiction
 rename_i h1 h2 h3 h4
 exact ⟨by omega,by omega,by omega,by omega,by simpa using h3,by omega,h⟩
theorem RF {e:xD} (h:evS e=0):xM e.At/\xM e.Kind/\xM e.N/\xM e.M:=by
 obtain ⟨h1,h2,h3,h4,h5,h6,h7⟩:=QR h;unfold bR at h5;simp only [Bool.or_eq_false_iff,Bool.and_eq_false_iff,Bool.not_eq_false',bne_eq_false_iff_eq] at h5;have w:∀ {n lo hi:Int},kM n lo hi=0->lo<=n/\n<=hi:=fun h=>zEW.1 h
 have hN:xM e.N:=by
  rcases h5.2.1 with h | h
  case inr=>unfold xM;omega
  unfold uC at h;simp only [decide_eq_true_eq] at h;unfold gY at h7;unfold xM
  split at h7
  ·omega
  split at h7
  ·have:=w h7;omega
  split at h7
  ·have:=w h7;omega
  split at h7
  ·have:=w h7;omega
  split at h7
  ·split at h7
   ·rename_i h8;have:=w h8.1;omega
   ·split at h7
    ·cases h7
    ·have:=w h7;omega
  ·split at h7
   ·rename_i h8;have:=w h8.1;omega
   ·have:=w h7;omega
 have hM:xM e.M:=by
  rcases h5.2.2.1 with h | h
  case inr=>unfold xM;omega
  have hk:e.Kind=9\/e.Kind=11:=by unfold uM at h;simpa using h
  unfold gY at h7;unfold xM;rcases hk with hk | hk
  ·simp [hk] at h7
   split at h7
   ·have:=w h7;omega
   ·split at h7
    ·cases h7
    ·rename_i h8;have:e.M=0:=Classical.byContradiction fun hc=>h8 ⟨h7,hc⟩
     omega
  ·simp [hk] at h7
   split at h7
   ·have:=w h7;omega
   ·contradiction
 exact ⟨by unfold xM;omega,by unfold xM;omega,hN,hM⟩
theorem ZM {k:Int} (h:1<=k/\k<=12):DM k=some (vP k,uC k,uM k,u4 k):=by
 have:k=1\/k=2\/k=3\/k=4\/k=5\/k=6\/k=7\/k=8\/k=9\/k=10\/k=11\/k=12:=by omega
 rcases this with h | h | h | h | h | h | h | h | h | h | h | h<;>subst h<;>rfl
theorem ZV {n:List (List Int)} {x:List Int} (hl:n.length<=100000):xM (tF n x).1:=by
 have hr:=CX x n
 have:tL x 0 n<=n.length:=by
  rcases rZ x n 0 with ⟨h,_⟩ | ⟨j,h1,h⟩
  ·omega
  ·have:=(List.getElem?_eq_some_iff.1 h1).1;omega
 unfold tF xM
 split
 ·simp
 split
 ·simp only;omega
 split
 ·simp
 ·simp only;omega
theorem zGa {n0:List (List Int)} {s0:List zV}:∀ (l:List (List Int)) (at_:Int) (n:List (List Int)) (s:List zV), -1<=at_->at_<=100000->s.length+l.length<=100000->xM (jI n0 s0 l at_ n s).1:=by
 intro l
 induction l with
 | nil=>intro at_ n s h0 h1 _;simp only [jI,xM];omega
 | cons x r ih =>
  intro at_ n s h0 h1 h2;simp only [zlc] at h2;simp only [jI];generalize tF n x=q;have hr:=CX (⟨at_,q.1⟩:zV) s
  have:tL (⟨at_,q.1⟩:zV) 0 s<=s.length:=by
   rcases rZ (⟨at_,q.1⟩:zV) s 0 with ⟨h,_⟩ | ⟨j,h1,h⟩
   ·omega
   ·have:=(List.getElem?_eq_some_iff.1 h1).1;omega
  split
  ·simp [xM]
  split
  ·exact ih _ _ _ (by omega) (by omega) (by omega)
  split
  ·simp [xM]
  ·exact ih _ _ _ (by omega) (by omega) (by simp only [zla,zls];omega)
theorem VC {n:List (List Int)} {s:List zV} {l:List (List Int)} (hs:s.length<=50000):xM (jS n s l).1:=by
 unfold jS
 split
 ·simp [xM]
 ·rename_i h
  have:=(WW.1 (show pM l=0 by omega)).1
  exact zGa l (-1) n s (by omega) (by omega) (by omega)
theorem zBg {names:List (List Int)} {stacks:List zV} {e:xD} (hn:names.length<=40000) (hs:stacks.length<=40000):J1 281474976710656 names stacks e=some (kF names stacks e):=by
 unfold J1 kF;rw [L5,zbs]
 by_cases hc:kU names stacks≠0
 ·rw [xX hc,if_pos hc];rfl
 rw [x7 (by omega),cond_false,if_neg hc,SA,zbs]
 by_cases he:evS e≠0
 ·rw [xX he,if_pos he];rfl
 rw [x7 (by omega),cond_false,if_neg he];obtain ⟨r1,r2,r3,r4⟩:=RF (show evS e=0 by omega);rw [show GW e.Kind=some (vP e.Kind,uC e.Kind,uM e.Kind,u4 e.Kind) from rfl,zbs];have hpn:=LH names e.Name;have hpi:=ZV (n:=names) (x:=e.Name) (by omega);have l2:=kT 9 (wT e.Kind);have l3:=kT 9 (wT e.At);have l5:=kT 9 (wT e.N);have l6:=kT 9 (wT e.M);rw [pA r2 (by simp) (by omega),zbs,pA r1 (by simp;omega) (by omega),zbs];simp only [List.nil_append,WA (show names.length<=100000 by omega),zbs];have e0:vX [e.Kind,e.At]=vJ 9 (wT e.Kind)++vJ 9 (wT e.At):=by simp [vX]
 rw [<- e0];unfold q8 d8;have tail:∀ (i:Int) (pre:List Int) (nm:List (List Int)),pre.length<=3->nm.length<=50000 -> 
   ((((bif uC e.Kind then (qT 281474976710656 (vX pre) e.N).bind fun r_8=>some r_8 else some (vX pre)):Option (List Int))).bind fun (o_2:(List Int)) =>
   (((bif uM e.Kind then (qT 281474976710656 o_2 e.M).bind fun r_9=>some r_9 else some o_2):Option (List Int))).bind fun (o_3:(List Int)) =>
   (((bif u4 e.Kind then (CF 281474976710656 nm stacks e.Stack).bind fun y8 =>
   (bif (y8.2.2.2 != (0:Int)) then some (.inr ([],[],[],y8.2.2.2)) else
   (qT 281474976710656 o_3 y8.1).bind fun wM =>
   some (.inl (y8.2.1,y8.2.2.1,wM))) else
   some (.inl (nm,stacks,o_3))):Option (((List (List Int))×(List zV)×(List Int))⊕((List (Int))×(List (List Int))×(List (zV))×Int)))).bind fun (o_4:((List (List Int))×(List zV)×(List Int))⊕((List (Int))×(List (List Int))×(List (zV))×Int)) =>
   (match o_4 with
   | (.inl q_3)=>some (q_3.2.2,q_3.1,q_3.2.1,(0:Int))
   | (.inr q_4)=>some q_4)) =
   some (if (qZ nm stacks e).2.2.2≠0 then ([],[],[],(qZ nm stacks e).2.2.2) else
    (vX (pre++(if uC e.Kind then [e.N] else [])++(if uM e.Kind then [e.M] else [])++(if u4 e.Kind then [(qZ nm stacks e).1] else [])),(qZ nm stacks e).2.1,(qZ nm stacks e).2.2.1,0)):=by
  intro i pre nm hp hnm;have h1:(((bif uC e.Kind then (qT 281474976710656 (vX pre) e.N).bind fun r_8=>some r_8 else some (vX pre)):Option (List Int)))=some (vX (pre++(if uC e.Kind then [e.N] else []))):=by
   have:=pN pre
   cases uC e.Kind
   ·simp
   ·rw [cond_true,pA r3 (by omega) (by omega),zbs];simp [G0]
  rw [h1,zbs];have hq:(pre++(if uC e.Kind then [e.N] else [])).length<=4:=by cases uC e.Kind<;>simp<;>omega
  generalize pre++(if uC e.Kind then [e.N] else [])=q at *;have h2:(((bif uM e.Kind then (qT 281474976710656 (vX q) e.M).bind fun r_9=>some r_9 else some (vX q)):Option (List Int)))=some (vX (q++(if uM e.Kind then [e.M] else []))):=by
   have:=pN q
   cases uM e.Kind
   ·simp
   ·rw [cond_true,pA r4 (by omega) (by omega),zbs];simp [G0]
  rw [h2,zbs];have hq2:(q++(if uM e.Kind then [e.M] else [])).length<=5:=by cases uM e.Kind<;>simp<;>omega
  generalize q++(if uM e.Kind then [e.M] else [])=p at *
  have:=pN p
  unfold qZ;cases u4 e.Kind
  ·simp
  ·have hpx:=VC (n:=nm) (s:=stacks) (l:=e.Stack) (by omega);simp only [cond_true,if_true];rw [zBp (by omega) (by omega),zbs]
   by_cases hz:(jS nm stacks e.Stack).2.2.2≠0
   ·rw [xX hz,if_pos hz];rfl
   ·rw [x7 (by omega),if_neg hz,cond_false,pA hpx (by omega) (by omega)];simp [G0]
 cases hun:vP e.Kind
 ·have:=tail 0 [e.Kind,e.At] names (by simp) (by omega)
  simp only [cond_false,Bool.false_eq_true,if_false,List.append_nil,zbs,ne_eq,not_true_eq_false];exact this
 ·have l7:=kT 9 (wT (tF names e.Name).1);simp only [cond_true,if_true]
  by_cases hp:(tF names e.Name).2.2≠0
  ·rw [xX hp,if_pos hp];rfl
  ·have:=tail 0 ([e.Kind,e.At]++[(tF names e.Name).1]) (tF names e.Name).2.1 (by simp) (by omega)
   rw [x7 (by omega),if_neg hp,cond_false,pA hpi (by rw [e0];simp;omega) (by omega),zbs,<- G0,zbs];exact this
end Go.Ab
