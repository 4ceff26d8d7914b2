/- Plain laws of the functions uI this seat's, laid anew from another seat's text. No conditions but those that the theorems name. -/
import Derived.Test.YtdpgdpjoemdkjaaP10xD
import Derived.Test.YtdpgdpjoemdkjaaB10a
namespace Go.Ab
open Go
set_option linter.unusedVariables false
def ctn (D:List Int) (s k:Nat):List Int:=(List.range k).map fun j=>D.getD ((s+j) % D.length) 0
theorem zBq (D:List Int) (s k:Nat):(ctn D s k).length=k:=by simp [ctn]
theorem zEF {D:List Int} {s k j:Nat} (h:j<k):(ctn D s k)[j]?=some (D.getD ((s+j) % D.length) 0):=by
 simp [ctn,h]
theorem zFH (D:List Int) (s k:Nat):ctn D s (k+1)=ctn D s k++[D.getD ((s+k) % D.length) 0]:=by
 simp [ctn,List.range_succ]
theorem zKg (D:List Int) (s i k:Nat):ctn D s (i+k)=ctn D s i++ctn D (s+i) k:=by
 induction k with
 | zero=>simp [ctn]
 | succ k ih=>rw [← Nat.add_assoc,zFH,ih,zFH,List.append_assoc,Nat.add_assoc]
theorem zOb {D:List Int} {s k:Nat} (h:∀ x∈D,xJ x):∀ x∈ctn D s k,xJ x:=by
 intro x hx
 simp only [ctn,List.mem_map] at hx
 obtain ⟨j,_,rfl⟩:=hx
 rw [List.getD_eq_getElem?_getD]
 cases hq:D[(s+j) % D.length]? with
 | none=>simp [xJ]
 | some v=>exact h v (List.mem_of_getElem? hq)
theorem zFP {S n j:Nat} (hn:0<n) (hj:j<n):(S+j) % n=if S % n+j<n then S % n+j else S % n+j - n:=by
 have ha:=Nat.mod_lt S hn
 rw [← Nat.mod_add_mod]
 split
 ·exact Nat.mod_eq_of_lt (by assumption)
 ·rw [Nat.mod_eq_sub_mod (by omega),Nat.mod_eq_of_lt (by omega)]
theorem zM2 {D:List Int} {S k:Nat} (hn:0<D.length) (hk:k≤D.length) :
  cpy (cpy (List.replicate k 0) 0 k (D.drop (S % D.length))) (min (D.drop (S % D.length)).length (k - 0)) k D=ctn D S k:=by
 have ha:=Nat.mod_lt S hn
 apply List.ext_getElem?
 intro j
 have hl:(cpy (cpy (List.replicate k 0) 0 k (D.drop (S % D.length))) (min (D.drop (S % D.length)).length (k - 0)) k D).length=k:=by
  rw [pI (by omega) (by rw [pI (by omega) (by simp)];simp),pI (by omega) (by simp)];simp
 by_cases hj:j<k
 ·rw [zEF hj,zFP hn (by omega)]
  generalize hA:S % D.length=a at *
  have hm:min (D.drop a).length (k - 0)=min (D.length - a) k:=by simp
  rw [hm]
  generalize hM:min (D.length - a) k=m
  have hin:cpy (List.replicate k 0) 0 k (D.drop a)=(D.drop a).take m++List.replicate (k - m) 0:=by
   unfold cpy
   simp [hM]
  rw [hin]
  unfold cpy
  have e1:((D.drop a).take m++List.replicate (k - m) 0).take m=(D.drop a).take m:=by
   rw [List.take_left' (by simp;omega)]
  rw [e1,List.append_assoc]
  have l1:((D.drop a).take m).length=m:=by simp;omega
  by_cases hjm:j<m
  ·rw [List.getElem?_append_left (by omega),List.getElem?_take,if_pos hjm,List.getElem?_drop,if_pos (by omega),List.getD_eq_getElem?_getD,List.getElem?_eq_getElem (by omega)];rfl
  ·rw [List.getElem?_append_right (by omega),l1,List.getElem?_append_left (by simp;omega),List.getElem?_take,if_pos (by omega),if_neg (by omega),List.getD_eq_getElem?_getD,show a+j - D.length=j - m by omega,List.getElem?_eq_getElem (by omega)];rfl
 ·rw [List.getElem?_eq_none (by rw [hl];omega),List.getElem?_eq_none (by rw [zBq];omega)]
theorem zEL {α:Type} (l:List α) (a:Int):sub l a (l.length:Int)=l.drop a.toNat:=by simp [sub]
structure zCR (r:zB):Prop where
 n1:16≤r.Data.length
 n2:r.Data.length≤65536
 s0:0≤r.Start
 se:r.Start≤r.End
 e1:r.End≤1000000000000000
 k1:r.End - r.Start≤(r.Data.length:Int)
 f0:0≤r.First
 fn:r.First≤r.Next
 nx:r.Next≤1000000000000000
def used (r:zB):Nat:=(r.End - r.Start).toNat
def wW (r:zB):List Int:=ctn r.Data r.Start.toNat (used r)
theorem zFb (a b:Nat):yH (a:Int) (b:Int)=((a % b:Nat):Int):=by
 rw [zFN (by omega)];exact (Int.natCast_emod a b).symm
theorem zFv {r:zB} (g:zCR r):nG r=some (wW r):=by
 have:=g.n1;have:=g.n2;have:=g.s0;have:=g.se;have:=g.e1;have:=g.k1
 unfold nG wW used
 obtain ⟨S,hS⟩:=Int.eq_ofNat_of_zero_le g.s0
 have hk:((r.End - r.Start).toNat:Int)=r.End - r.Start:=by omega
 rw [w64 (by omega) (by omega),hS,zFb]
 rw [hS] at hk
 generalize hK:(r.End - (S:Int)).toNat=k at *
 have hm:=Nat.mod_lt S (show 0<r.Data.length by omega)
 have e:sub r.Data ((S % r.Data.length:Nat):Int) (r.Data.length:Int)=r.Data.drop (S % r.Data.length):=by rw [zEL,Int.toNat_natCast]
 simp only [e]
 rw [xO (by omega),Option.bind_some,xO (by omega),Option.bind_some,xO (by omega),Option.bind_some,xO (by simp),Option.bind_some,xO (by omega),Option.bind_some,xO ⟨by omega,by rw [pI (by omega) (by simp)];simp⟩,Option.bind_some,zM2 (by omega) (by omega)]
 rfl
theorem zCU {r:zB} (g:zCR r):pC 200000 r=some (wW r):=by
 have:=g.n1;have:=g.n2;have:=g.s0;have:=g.se;have:=g.e1;have:=g.k1
 unfold pC wW used
 obtain ⟨S,hS⟩:=Int.eq_ofNat_of_zero_le g.s0
 have hk:((r.End - r.Start).toNat:Int)=r.End - r.Start:=by omega
 generalize hK:(r.End - r.Start).toNat=k at *
 have key:∀ (n j:Nat),j≤k→k - j<n→jI 200000 r n ((S+j:Nat):Int) (ctn r.Data S j)=some (ctn r.Data S k):=by
  intro n
  induction n with
  | zero=>intro j _ h;omega
  | succ n ih =>
   intro j hj hn
   show tN 200000 r _ _ _=_
   unfold tN
   rcases Nat.lt_or_ge j k with h | h
   ·have hm:=Nat.mod_lt (S+j) (show 0<r.Data.length by omega)
    rw [y4 (by omega),cond_true,xO (by omega),Option.bind_some,zFb,pZ,List.getElem?_eq_getElem hm,Option.bind_some,xO (by rw [zBq];simp only [List.length_cons,List.length_nil];omega),Option.bind_some,qM (by omega)]
    have:=ih (j+1) (by omega) (by omega)
    rw [zFH,List.getD_eq_getElem?_getD,List.getElem?_eq_getElem hm] at this
    exact this
   ·rw [yR (by omega),cond_false,show j=k by omega]
 have:=key 200000 0 (by omega) (by omega)
 rw [hS,show jI 200000 r 200000 (S:Int) []=_ from this,Option.bind_some]
 rfl
/- Records. -/
def recs:Nat→List Int→List (List Int)×Bool
 | 0,b=>([],b.isEmpty)
 | m+1,b=>if b=[] then ([],true) else
  let q:=vrd b 0 0
  if q.2.2≠0∨q.1<0∨2000<q.1∨(b.length:Int)<q.2.1+q.1 then ([],false) else
  let r:=recs m (b.drop (q.2.1+q.1).toNat)
  (sub b q.2.1 (q.2.1+q.1)::r.1,r.2)
def zAX (row:List (List Int)) (q:List (List Int)×Bool):List (List Int)⊕(List (List Int)×Bool):=if q.2 then .inl (row++q.1) else .inr ([],false)
theorem zF0:∀ (n m:Nat) (b:List Int) (row:List (List Int)),(∀ x∈b,xJ x)→b.length<n→b.length≤m→b.length≤100000→row.length+b.length≤200000→nE 200000 n b row=some (zAX row (recs m b)):=by
 intro n
 induction n with
 | zero=>intro m b row _ h;omega
 | succ n ih =>
  intro m b row hb hn hm hl hr
  show jB 200000 _ b row=_
  unfold jB
  by_cases he:b=[]
  ·subst he
   rw [yR (by simp),cond_false]
   cases m<;>simp [recs,zAX]
  have hpos:=List.length_pos_iff.2 he
  obtain ⟨m,rfl⟩:∃ k,m=k+1:=⟨m - 1,by omega⟩
  obtain ⟨k1,k2,k3⟩:=zAg (i:=0) (u:=0) hb (by omega) (by omega) (by decide)
  rw [y4 (by omega),cond_true,zEd hb (by omega) (by omega),Option.bind_some]
  simp only [recs,if_neg he]
  generalize hq:vrd b 0 0=q at *
  unfold yS at k1
  by_cases hbad:q.2.2≠0∨q.1<0∨2000<q.1∨(b.length:Int)<q.2.1+q.1
  ·rw [if_pos hbad]
   have:((q.2.2 != 0)||(decide (q.1<0)||(decide (q.1>2000)||decide (zG (q.2.1+q.1)>(b.length:Int)))))=true:=by
    by_cases c0:q.2.2≠0
    ·rw [w4 c0];rfl
    have k2:=k2 (by omega)
    by_cases c1:q.1<0
    ·rw [y4 c1,Bool.true_or,Bool.or_true]
    by_cases c2:2000<q.1
    ·rw [y4 (p:=q.1>2000) c2,Bool.true_or,Bool.or_true,Bool.or_true]
    rw [y4 (p:=zG (q.2.1+q.1)>(b.length:Int)) (by rw [w64 (by omega) (by omega)];omega),Bool.or_true,Bool.or_true,Bool.or_true]
   rw [this,cond_true];rfl
  ·rw [if_neg hbad]
   have k2:=k2 (by omega)
   have:((q.2.2 != 0)||(decide (q.1<0)||(decide (q.1>2000)||decide (zG (q.2.1+q.1)>(b.length:Int)))))=false:=by
    rw [xS (by omega),yR (by omega),yR (by omega),yR (by rw [w64 (by omega) (by omega)];omega)];rfl
   rw [this,cond_false,w64 (by omega) (by omega),xO (by omega),Option.bind_some,xO (by simp only [List.length_cons,List.length_nil];omega),Option.bind_some,xO (by omega),Option.bind_some,zEL,
    ih m _ _ (fun x hx=>hb x (List.mem_of_mem_drop hx)) (by simp;omega) (by simp;omega) (by simp;omega) (by simp;omega)]
   unfold zAX
   simp only
   split<;>simp
theorem zFt:∀ (n m:Nat) (b:List Int) (row:List (List Int)),(∀ x∈b,xJ x)→b.length<n→b.length≤m→b.length≤100000→row.length+b.length≤200000→pE 200000 n b row=some (zAX row (recs m b)):=by
 intro n
 induction n with
 | zero=>intro m b row _ h;omega
 | succ n ih =>
  intro m b row hb hn hm hl hr
  show qK 200000 _ b row=_
  unfold qK
  by_cases he:b=[]
  ·subst he
   rw [yR (by simp),cond_false]
   cases m<;>simp [recs,zAX]
  have hpos:=List.length_pos_iff.2 he
  obtain ⟨m,rfl⟩:∃ k,m=k+1:=⟨m - 1,by omega⟩
  obtain ⟨k1,k2,k3⟩:=zAg (i:=0) (u:=0) hb (by omega) (by omega) (by decide)
  rw [y4 (by omega),cond_true,zLg hb (by omega) (by omega),Option.bind_some]
  simp only [recs,if_neg he]
  generalize hq:vrd b 0 0=q at *
  unfold yS at k1
  by_cases hbad:q.2.2≠0∨q.1<0∨2000<q.1∨(b.length:Int)<q.2.1+q.1
  ·rw [if_pos hbad]
   have:((q.2.2 != 0)||(decide (q.1<0)||(decide (q.1>2000)||decide (q.1>zG ((b.length:Int) - q.2.1)))))=true:=by
    by_cases c0:q.2.2≠0
    ·rw [w4 c0];rfl
    have k2:=k2 (by omega)
    by_cases c1:q.1<0
    ·rw [y4 c1,Bool.true_or,Bool.or_true]
    by_cases c2:2000<q.1
    ·rw [y4 (p:=q.1>2000) c2,Bool.true_or,Bool.or_true,Bool.or_true]
    rw [y4 (p:=q.1>zG ((b.length:Int) - q.2.1)) (by rw [w64 (by omega) (by omega)];omega),Bool.or_true,Bool.or_true,Bool.or_true]
   rw [this,cond_true];rfl
  ·rw [if_neg hbad]
   have k2:=k2 (by omega)
   have:((q.2.2 != 0)||(decide (q.1<0)||(decide (q.1>2000)||decide (q.1>zG ((b.length:Int) - q.2.1)))))=false:=by
    rw [xS (by omega),yR (by omega),yR (by omega),yR (by rw [w64 (by omega) (by omega)];omega)];rfl
   rw [this,cond_false,w64 (by omega) (by omega),xO (by omega),Option.bind_some,xO (by simp only [List.length_cons,List.length_nil];omega),Option.bind_some,xO (by omega),Option.bind_some,zEL,
    ih m _ _ (fun x hx=>hb x (List.mem_of_mem_drop hx)) (by simp;omega) (by simp;omega) (by simp;omega) (by simp;omega)]
   unfold zAX
   simp only
   split<;>simp
def tF (b:List Int):List (List Int)×Bool:=if (recs b.length b).2 then recs b.length b else ([],false)
theorem zH0 {b:List Int} (hb:∀ x∈b,xJ x) (hl:b.length≤100000):zBb 200000 b=some (tF b):=by
 unfold zBb tF
 rw [zF0 200000 b.length b [] hb (by omega) (by omega) hl (by simp;omega),Option.bind_some]
 unfold zAX
 cases hh:(recs b.length b).2
 ·rfl
 ·simp only [if_true,List.nil_append];rw [← hh]
theorem zDv {b:List Int} (hb:∀ x∈b,xJ x) (hl:b.length≤100000):nN 200000 b=some (tF b):=by
 unfold nN tF
 rw [zFt 200000 b.length b [] hb (by omega) (by omega) hl (by simp;omega),Option.bind_some]
 unfold zAX
 cases hh:(recs b.length b).2
 ·rfl
 ·simp only [if_true,List.nil_append];rw [← hh]
def tG (r:zB):Prop:=r.Policy≠1∧r.Policy≠2
def tM (r:zB):Prop:=(r.Data.length:Int)<16∨(r.Data.length:Int)>65536∨r.Start<0∨r.End<r.Start∨r.End>1000000000000000∨r.End - r.Start>(r.Data.length:Int)∨r.First<0∨r.Next<r.First∨r.Next>1000000000000000
instance (r:zB):Decidable (tG r):=inferInstanceAs (Decidable (_∧_))
instance (r:zB):Decidable (tM r):=inferInstanceAs (Decidable (_∨_))
theorem zEI {r:zB} (h:¬tM r):zCR r:=by
 unfold tM at h
 exact ⟨by omega,by omega,by omega,by omega,by omega,by omega,by omega,by omega,by omega⟩
theorem zFE {r:zB} (g:zCR r):¬tM r:=by
 have:=g.n1;have:=g.n2;have:=g.s0;have:=g.se;have:=g.e1;have:=g.k1;have:=g.f0;have:=g.fn;have:=g.nx
 unfold tM;omega
def vA (r:zB):Prop:=(∀ x∈r.Data,xJ x)∧yS r.Start∧yS r.End∧yS r.First∧yS r.Next∧r.Data.length≤4000000000000000000
def yZ (r:zB):List (List Int)×Int:=if tG r then ([],1) else if tM r then ([],2) else
 let q:=tF (wW r)
 if q.2=false∨(q.1.length:Int)≠r.Next - r.First then ([],10) else (q.1,0)
theorem zDf {r:zB} (g:zCR r):used r≤r.Data.length:=by
 have:=g.k1;have:=g.se;unfold used;omega
theorem nL (r:zB):(wW r).length=used r:=zBq _ _ _
theorem pT {r:zB} (h:∀ x∈r.Data,xJ x):∀ x∈wW r,xJ x:=zOb h
theorem zCN {r:zB} (h:vA r):zAd 200000 r=some (yZ r):=by
 obtain ⟨hd,i1,i2,i3,i4,i5⟩:=h
 unfold yS at i1 i2 i3 i4
 unfold zAd yZ
 by_cases hp:tG r
 ·rw [if_pos hp]
  unfold tG at hp
  rw [show ((r.Policy != 1)&&(r.Policy != 2))=true by rw [w4 hp.1,w4 hp.2];rfl,cond_true];rfl
 rw [if_neg hp]
 rw [show ((r.Policy != 1)&&(r.Policy != 2))=false by
  unfold tG at hp
  by_cases h1:r.Policy=1
  ·rw [xS h1];rfl
  ·rw [xS (a:=r.Policy) (b:=2) (by omega),Bool.and_false],cond_false]
 by_cases hb:tM r
 ·rw [if_pos hb]
  unfold tM at hb
  by_cases c1:(r.Data.length:Int)<16
  ·rw [y4 c1,Bool.true_or,cond_true];rfl
  by_cases c2:(r.Data.length:Int)>65536
  ·rw [y4 c2,Bool.or_true,cond_true];rfl
  rw [yR c1,yR c2,Bool.or_false,cond_false]
  by_cases c3:r.Start<0
  ·rw [y4 c3,cond_true];rfl
  rw [yR c3,cond_false]
  by_cases c4:r.End<r.Start
  ·rw [y4 c4,cond_true];rfl
  rw [yR c4,cond_false]
  by_cases c5:r.End>1000000000000000
  ·rw [y4 c5,cond_true];rfl
  rw [yR c5,cond_false,w64 (by omega) (by omega)]
  by_cases c6:r.End - r.Start>(r.Data.length:Int)
  ·rw [y4 c6,cond_true];rfl
  rw [yR c6,cond_false]
  by_cases c7:r.First<0
  ·rw [y4 c7,cond_true];rfl
  rw [yR c7,cond_false]
  by_cases c8:r.Next<r.First
  ·rw [y4 c8,cond_true];rfl
  rw [yR c8,cond_false,y4 (by omega),cond_true];rfl
 rw [if_neg hb]
 have g:=zEI hb
 have:=g.n1;have:=g.n2;have:=g.s0;have:=g.se;have:=g.e1;have:=g.k1;have:=g.f0;have:=g.fn;have:=g.nx
 rw [yR (by omega),yR (by omega),Bool.or_false,cond_false,yR (by omega),cond_false,yR (by omega),cond_false,yR (by omega),cond_false,w64 (by omega) (by omega),yR (by omega),cond_false,yR (by omega),cond_false,yR (by omega),cond_false,yR (by omega),cond_false,Option.bind_some]
 simp only
 have hu:=zDf g
 rw [zFv g,Option.bind_some,zH0 (pT hd) (by rw [nL];omega),Option.bind_some,w64 (by omega) (by omega)]
 generalize tF (wW r)=q
 cases h2:q.2
 ·rw [if_pos (.inl rfl)];rfl
 ·by_cases hc:(q.1.length:Int)≠r.Next - r.First
  ·rw [if_pos (.inr hc),w4 hc];rfl
  ·rw [if_neg (by simp;omega),xS (by omega)];rfl
theorem zIc {r:zB} (h:vA r):zBT 200000 r=some (yZ r).2:=by
 obtain ⟨hd,i1,i2,i3,i4,i5⟩:=h
 unfold yS at i1 i2 i3 i4
 unfold zBT yZ
 by_cases hp:tG r
 ·rw [if_pos hp]
  unfold tG at hp
  rw [show ((r.Policy != 1)&&(r.Policy != 2))=true by rw [w4 hp.1,w4 hp.2];rfl,cond_true]
 rw [if_neg hp]
 rw [show ((r.Policy != 1)&&(r.Policy != 2))=false by
  unfold tG at hp
  by_cases h1:r.Policy=1
  ·rw [xS h1];rfl
  ·rw [xS (a:=r.Policy) (b:=2) (by omega),Bool.and_false],cond_false]
 by_cases hb:tM r
 ·rw [if_pos hb]
  unfold tM at hb
  have:(decide ((r.Data.length:Int)<16)||(decide ((r.Data.length:Int)>65536)||(decide (r.Start<0)||(decide (r.Start>r.End)||(decide (r.End>1000000000000000)||(decide (zG (r.End - r.Start)>(r.Data.length:Int))||(decide (r.First<0)||(decide (r.First>r.Next)||decide (r.Next>1000000000000000)))))))))=true:=by
   simp only [Bool.or_eq_true,decide_eq_true_eq]
   by_cases c:r.Start<0∨r.Start>r.End∨r.End>1000000000000000
   ·omega
   ·rw [w64 (by omega) (by omega)];omega
  rw [this,cond_true]
 rw [if_neg hb]
 have g:=zEI hb
 have:=g.n1;have:=g.n2;have:=g.s0;have:=g.se;have:=g.e1;have:=g.k1;have:=g.f0;have:=g.fn;have:=g.nx
 have hu:=zDf g
 rw [w64 (x:=r.End - r.Start) (by omega) (by omega),yR (by omega),yR (by omega),yR (by omega),yR (by omega),yR (by omega),yR (by omega),yR (by omega),yR (by omega),yR (by omega)]
 simp only [Bool.or_false,cond_false]
 rw [zCU g,Option.bind_some,zDv (pT hd) (by rw [nL];omega),Option.bind_some,w64 (by omega) (by omega)]
 generalize tF (wW r)=q
 cases h2:q.2
 ·rw [if_pos (.inl rfl)];rfl
 ·by_cases hc:(q.1.length:Int)≠r.Next - r.First
  ·rw [if_pos (.inr hc),w4 hc];rfl
  ·rw [if_neg (by simp;omega),xS (by omega)];rfl
theorem kL {r:zB} (h:(yZ r).2=0):¬tG r∧zCR r∧tF (wW r)=((yZ r).1,true)∧((yZ r).1.length:Int)=r.Next - r.First:=by
 unfold yZ at h ⊢
 by_cases hp:tG r
 ·rw [if_pos hp] at h;simp at h
 rw [if_neg hp] at h ⊢
 by_cases hb:tM r
 ·rw [if_pos hb] at h;simp at h
 rw [if_neg hb] at h ⊢
 simp only at h ⊢
 by_cases hc:(tF (wW r)).2=false∨((tF (wW r)).1.length:Int)≠r.Next - r.First
 ·rw [if_pos hc] at h;simp at h
 rw [if_neg hc] at h ⊢
 refine ⟨hp,zEI hb,?_,by simp only;omega⟩
 have:(tF (wW r)).2=true:=by
  cases h2:(tF (wW r)).2
  ·exact absurd (.inl h2) hc
  ·rfl
 exact Prod.ext rfl this
theorem zH2 {r:zB} (h:vA r):zBd 200000 r=some (yZ r).2:=by
 unfold zBd;rw [zCN h];rfl
def v9 (r:zB):List (List Int)×zB:=if (yZ r).2≠0 then ([],r) else ((yZ r).1,⟨r.Policy,r.Data,r.End,r.End,r.Next,r.Next⟩)
theorem zEv {r:zB} (h:vA r):zAW 200000 r=some (v9 r):=by
 unfold zAW v9
 rw [zCN h,Option.bind_some]
 by_cases hc:(yZ r).2≠0
 ·rw [w4 hc,if_pos hc];rfl
 ·rw [xS (by omega),if_neg hc];rfl
theorem zJ0 {r:zB} (h:vA r):zBr 200000 r=some (v9 r):=by
 unfold zBr v9
 rw [zIc h,Option.bind_some]
 by_cases hc:(yZ r).2≠0
 ·rw [w4 hc,if_pos hc];rfl
 ·obtain ⟨_,g,e,_⟩:=kL (r:=r) (by omega)
  have hu:=zDf g
  have:=g.n2
  rw [xS (by omega),if_neg hc,cond_false,zCU g,Option.bind_some,zDv (pT h.1) (by rw [nL];omega),Option.bind_some,e]
theorem zIQ:∀ (m:Nat) (b:List Int),(∀ x∈b,xJ x)→(recs m b).2=true→(recs m b).1.length≤b.length:=by
 intro m
 induction m with
 | zero=>intro b _ _;simp [recs]
 | succ m ih =>
  intro b hb h
  simp only [recs] at h ⊢
  by_cases he:b=[]
  ·rw [if_pos he];simp
  rw [if_neg he] at h ⊢
  obtain ⟨k1,k2,k3⟩:=zAg (i:=0) (u:=0) hb (by omega) (by omega) (by decide)
  generalize hq:vrd b 0 0=q at *
  by_cases hbad:q.2.2≠0∨q.1<0∨2000<q.1∨(b.length:Int)<q.2.1+q.1
  ·rw [if_pos hbad] at h;simp at h
  rw [if_neg hbad] at h ⊢
  have k2:=k2 (by omega)
  have:=ih _ (fun x hx=>hb x (List.mem_of_mem_drop hx)) h
  simp only [List.length_cons,List.length_drop] at this ⊢
  omega
theorem zEi {r:zB} (hd:∀ x∈r.Data,xJ x):(yZ r).1.length≤65536:=by
 by_cases hc:(yZ r).2=0
 ·obtain ⟨_,g,e,_⟩:=kL hc
  have hu:=zDf g
  have:=g.n2
  unfold tF at e
  by_cases h2:(recs (wW r).length (wW r)).2=true
  ·rw [if_pos h2] at e
   have:=zIQ _ _ (pT hd) h2
   rw [e,nL] at this
   simp only at this;omega
  ·rw [if_neg h2] at e;injection e with _ e;cases e
 ·have:(yZ r).1=[]:=by
   unfold yZ at hc ⊢
   split
   ·rfl
   ·split
    ·rfl
    ·simp only
     split
     ·rfl
     ·rename_i h1 h2 h3;rw [if_neg h1,if_neg h2] at hc;simp only at hc;rw [if_neg h3] at hc;exact absurd rfl hc
  rw [this];simp
end Go.Ab
