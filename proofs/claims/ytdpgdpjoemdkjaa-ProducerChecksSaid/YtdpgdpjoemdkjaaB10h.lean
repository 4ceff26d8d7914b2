/- Plain laws of the functions tL this seat's, laid anew from another seat's text. No conditions but those that the theorems name. -/
import Derived.Test.YtdpgdpjoemdkjaaP10xD
import Derived.Test.YtdpgdpjoemdkjaaB10a
namespace Go.Ab
open Go
set_option linter.unusedVariables false
def ctn (D:List Int) (s k:Nat):List Int:=(List.range k).map fun j=>D.getD ((s+j) % D.length) 0
theorem zDl (D:List Int) (s k:Nat):(ctn D s k).length=k:=by simp [ctn]
theorem zHb {D:List Int} {s k j:Nat} (h:j<k):(ctn D s k)[j]?=some (D.getD ((s+j) % D.length) 0):=by
 simp [ctn,h]
theorem zH7 (D:List Int) (s k:Nat):ctn D s (k+1)=ctn D s k++[D.getD ((s+k) % D.length) 0]:=by
 simp [ctn,List.range_succ]
theorem zN1 (D:List Int) (s i k:Nat):ctn D s (i+k)=ctn D s i++ctn D (s+i) k:=by
 induction k with
 | zero=>simp [ctn]
 | succ k ih=>rw [← Nat.add_assoc,zH7,ih,zH7,List.append_assoc,Nat.add_assoc]
theorem zRK {D:List Int} {s k:Nat} (h:∀ x∈D,x4 x):∀ x∈ctn D s k,x4 x:=by
 intro x hx
 simp only [ctn,List.mem_map] at hx
 obtain ⟨j,_,rfl⟩:=hx
 rw [List.getD_eq_getElem?_getD]
 cases hq:D[(s+j) % D.length]? with
 | none=>simp [x4]
 | some v=>exact h v (List.mem_of_getElem? hq)
theorem zFT {S n j:Nat} (hn:0<n) (hj:j<n):(S+j) % n=if S % n+j<n then S % n+j else S % n+j - n:=by
 have ha:=Nat.mod_lt S hn
 rw [← Nat.mod_add_mod]
 split
 ·exact Nat.mod_eq_of_lt (by assumption)
 ·rw [Nat.mod_eq_sub_mod (by omega),Nat.mod_eq_of_lt (by omega)]
theorem zQA {D:List Int} {S k:Nat} (hn:0<D.length) (hk:k≤D.length) :
  cpy (cpy (List.replicate k 0) 0 k (D.drop (S % D.length))) (min (D.drop (S % D.length)).length (k - 0)) k D=ctn D S k:=by
 have ha:=Nat.mod_lt S hn
 apply List.ext_getElem?
 intro j
 have hl:(cpy (cpy (List.replicate k 0) 0 k (D.drop (S % D.length))) (min (D.drop (S % D.length)).length (k - 0)) k D).length=k:=by
  rw [zAi (by omega) (by rw [zAi (by omega) (by simp)];simp),zAi (by omega) (by simp)];simp
 by_cases hj:j<k
 ·rw [zHb hj,zFT hn (by omega)]
  generalize hA:S % D.length=a at *
  have hm:min (D.drop a).length (k - 0)=min (D.length - a) k:=by simp
  rw [hm]
  generalize hM:min (D.length - a) k=m
  have hin:cpy (List.replicate k 0) 0 k (D.drop a)=(D.drop a).take m++List.replicate (k - m) 0:=by
   unfold cpy
   simp [hM]
  rw [hin]
  unfold cpy
  have e1:((D.drop a).take m++List.replicate (k - m) 0).take m=(D.drop a).take m:=by
   rw [List.take_left' (by simp;omega)]
  rw [e1,List.append_assoc]
  have l1:((D.drop a).take m).length=m:=by simp;omega
  by_cases hjm:j<m
  ·rw [List.getElem?_append_left (by omega),List.getElem?_take,if_pos hjm,List.getElem?_drop,if_pos (by omega),List.getD_eq_getElem?_getD,List.getElem?_eq_getElem (by omega)];rfl
  ·rw [List.getElem?_append_right (by omega),l1,List.getElem?_append_left (by simp;omega),List.getElem?_take,if_pos (by omega),if_neg (by omega),List.getD_eq_getElem?_getD,show a+j - D.length=j - m by omega,List.getElem?_eq_getElem (by omega)];rfl
 ·rw [List.getElem?_eq_none (by rw [hl];omega),List.getElem?_eq_none (by rw [zDl];omega)]
theorem zG0 {α:Type} (l:List α) (a:Int):sub l a (l.length:Int)=l.drop a.toNat:=by simp [sub]
structure zFa (r:zW):Prop where
 n1:16≤r.Data.length
 n2:r.Data.length≤65536
 s0:0≤r.Start
 se:r.Start≤r.End
 e1:r.End≤1000000000000000
 k1:r.End - r.Start≤(r.Data.length:Int)
 f0:0≤r.First
 fn:r.First≤r.Next
 nx:r.Next≤1000000000000000
def used (r:zW):Nat:=(r.End - r.Start).toNat
def vL (r:zW):List Int:=ctn r.Data r.Start.toNat (used r)
theorem zF7 (a b:Nat):yM (a:Int) (b:Int)=((a % b:Nat):Int):=by
 rw [zFP (by omega)];exact (Int.natCast_emod a b).symm
theorem zIi {r:zW} (g:zFa r):zAN r=some (vL r):=by
 have:=g.n1;have:=g.n2;have:=g.s0;have:=g.se;have:=g.e1;have:=g.k1
 unfold zAN vL used
 obtain ⟨S,hS⟩:=Int.eq_ofNat_of_zero_le g.s0
 have hk:((r.End - r.Start).toNat:Int)=r.End - r.Start:=by omega
 rw [w64 (by omega) (by omega),hS,zF7]
 rw [hS] at hk
 generalize hK:(r.End - (S:Int)).toNat=k at *
 have hm:=Nat.mod_lt S (show 0<r.Data.length by omega)
 have e:sub r.Data ((S % r.Data.length:Nat):Int) (r.Data.length:Int)=r.Data.drop (S % r.Data.length):=by rw [zG0,Int.toNat_natCast]
 simp only [e]
 rw [xA (by omega),zbs,xA (by omega),zbs,xA (by omega),zbs,xA (by simp),zbs,xA (by omega),zbs,xA ⟨by omega,by rw [zAi (by omega) (by simp)];simp⟩,zbs,zQA (by omega) (by omega)]
 rfl
theorem zCS {r:zW} (g:zFa r):pV 200000 r=some (vL r):=by
 have:=g.n1;have:=g.n2;have:=g.s0;have:=g.se;have:=g.e1;have:=g.k1
 unfold pV vL used
 obtain ⟨S,hS⟩:=Int.eq_ofNat_of_zero_le g.s0
 have hk:((r.End - r.Start).toNat:Int)=r.End - r.Start:=by omega
 generalize hK:(r.End - r.Start).toNat=k at *
 have key:∀ (n j:Nat),j≤k→k - j<n→kQ 200000 r n ((S+j:Nat):Int) (ctn r.Data S j)=some (ctn r.Data S k):=by
  intro n
  induction n with
  | zero=>intro j _ h;omega
  | succ n ih =>
   intro j hj hn
   show jA 200000 r _ _ _=_
   unfold jA
   rcases Nat.lt_or_ge j k with h | h
   ·have hm:=Nat.mod_lt (S+j) (show 0<r.Data.length by omega)
    rw [yR (by omega),cond_true,xA (by omega),zbs,zF7,qO,List.getElem?_eq_getElem hm,zbs,xA (by rw [zDl];simp only [List.length_cons,List.length_nil];omega),zbs,vK (by omega)]
    have:=ih (j+1) (by omega) (by omega)
    rw [zH7,List.getD_eq_getElem?_getD,List.getElem?_eq_getElem hm] at this
    exact this
   ·rw [yF (by omega),cond_false,show j=k by omega]
 have:=key 200000 0 (by omega) (by omega)
 rw [hS,show kQ 200000 r 200000 (S:Int) []=_ from this,zbs]
 rfl
/- Records. -/
def recs:Nat→List Int→List (List Int)×Bool
 | 0,b=>([],b.isEmpty)
 | m+1,b=>if b=[] then ([],true) else
  let q:=vrd b 0 0
  if q.2.2≠0∨q.1<0∨2000<q.1∨(b.length:Int)<q.2.1+q.1 then ([],false) else
  let r:=recs m (b.drop (q.2.1+q.1).toNat)
  (sub b q.2.1 (q.2.1+q.1)::r.1,r.2)
def zCB (row:List (List Int)) (q:List (List Int)×Bool):List (List Int)⊕(List (List Int)×Bool):=if q.2 then .inl (row++q.1) else .inr ([],false)
theorem zIZ:∀ (n m:Nat) (b:List Int) (row:List (List Int)),(∀ x∈b,x4 x)→b.length<n→b.length≤m→b.length≤100000→row.length+b.length≤200000→zAP 200000 n b row=some (zCB row (recs m b)):=by
 intro n
 induction n with
 | zero=>intro m b row _ h;omega
 | succ n ih =>
  intro m b row hb hn hm hl hr
  show kH 200000 _ b row=_
  unfold kH
  by_cases he:b=[]
  ·subst he
   rw [yF (by simp),cond_false]
   cases m<;>simp [recs,zCB]
  have hpos:=List.length_pos_iff.2 he
  obtain ⟨m,rfl⟩:∃ k,m=k+1:=⟨m - 1,by omega⟩
  obtain ⟨k1,k2,k3⟩:=zBe (i:=0) (u:=0) hb (by omega) (by omega) (by decide)
  rw [yR (by omega),cond_true,zGE hb (by omega) (by omega),zbs]
  simp only [recs,if_neg he]
  generalize hq:vrd b 0 0=q at *
  unfold y3 at k1
  by_cases hbad:q.2.2≠0∨q.1<0∨2000<q.1∨(b.length:Int)<q.2.1+q.1
  ·rw [if_pos hbad]
   have:((q.2.2 != 0)||(decide (q.1<0)||(decide (q.1>2000)||decide (zI (q.2.1+q.1)>(b.length:Int)))))=true:=by
    by_cases c0:q.2.2≠0
    ·rw [xQ c0];rfl
    have k2:=k2 (by omega)
    by_cases c1:q.1<0
    ·rw [yR c1,Bool.true_or,Bool.or_true]
    by_cases c2:2000<q.1
    ·rw [yR (p:=q.1>2000) c2,Bool.true_or,Bool.or_true,Bool.or_true]
    rw [yR (p:=zI (q.2.1+q.1)>(b.length:Int)) (by rw [w64 (by omega) (by omega)];omega),Bool.or_true,Bool.or_true,Bool.or_true]
   rw [this,cond_true];rfl
  ·rw [if_neg hbad]
   have k2:=k2 (by omega)
   have:((q.2.2 != 0)||(decide (q.1<0)||(decide (q.1>2000)||decide (zI (q.2.1+q.1)>(b.length:Int)))))=false:=by
    rw [xE (by omega),yF (by omega),yF (by omega),yF (by rw [w64 (by omega) (by omega)];omega)];rfl
   rw [this,cond_false,w64 (by omega) (by omega),xA (by omega),zbs,xA (by simp only [List.length_cons,List.length_nil];omega),zbs,xA (by omega),zbs,zG0,
    ih m _ _ (fun x hx=>hb x (List.mem_of_mem_drop hx)) (by simp;omega) (by simp;omega) (by simp;omega) (by simp;omega)]
   unfold zCB
   simp only
   split<;>simp
theorem zHS:∀ (n m:Nat) (b:List Int) (row:List (List Int)),(∀ x∈b,x4 x)→b.length<n→b.length≤m→b.length≤100000→row.length+b.length≤200000→nX 200000 n b row=some (zCB row (recs m b)):=by
 intro n
 induction n with
 | zero=>intro m b row _ h;omega
 | succ n ih =>
  intro m b row hb hn hm hl hr
  show jS 200000 _ b row=_
  unfold jS
  by_cases he:b=[]
  ·subst he
   rw [yF (by simp),cond_false]
   cases m<;>simp [recs,zCB]
  have hpos:=List.length_pos_iff.2 he
  obtain ⟨m,rfl⟩:∃ k,m=k+1:=⟨m - 1,by omega⟩
  obtain ⟨k1,k2,k3⟩:=zBe (i:=0) (u:=0) hb (by omega) (by omega) (by decide)
  rw [yR (by omega),cond_true,zIN hb (by omega) (by omega),zbs]
  simp only [recs,if_neg he]
  generalize hq:vrd b 0 0=q at *
  unfold y3 at k1
  by_cases hbad:q.2.2≠0∨q.1<0∨2000<q.1∨(b.length:Int)<q.2.1+q.1
  ·rw [if_pos hbad]
   have:((q.2.2 != 0)||(decide (q.1<0)||(decide (q.1>2000)||decide (q.1>zI ((b.length:Int) - q.2.1)))))=true:=by
    by_cases c0:q.2.2≠0
    ·rw [xQ c0];rfl
    have k2:=k2 (by omega)
    by_cases c1:q.1<0
    ·rw [yR c1,Bool.true_or,Bool.or_true]
    by_cases c2:2000<q.1
    ·rw [yR (p:=q.1>2000) c2,Bool.true_or,Bool.or_true,Bool.or_true]
    rw [yR (p:=q.1>zI ((b.length:Int) - q.2.1)) (by rw [w64 (by omega) (by omega)];omega),Bool.or_true,Bool.or_true,Bool.or_true]
   rw [this,cond_true];rfl
  ·rw [if_neg hbad]
   have k2:=k2 (by omega)
   have:((q.2.2 != 0)||(decide (q.1<0)||(decide (q.1>2000)||decide (q.1>zI ((b.length:Int) - q.2.1)))))=false:=by
    rw [xE (by omega),yF (by omega),yF (by omega),yF (by rw [w64 (by omega) (by omega)];omega)];rfl
   rw [this,cond_false,w64 (by omega) (by omega),xA (by omega),zbs,xA (by simp only [List.length_cons,List.length_nil];omega),zbs,xA (by omega),zbs,zG0,
    ih m _ _ (fun x hx=>hb x (List.mem_of_mem_drop hx)) (by simp;omega) (by simp;omega) (by simp;omega) (by simp;omega)]
   unfold zCB
   simp only
   split<;>simp
def qU (b:List Int):List (List Int)×Bool:=if (recs b.length b).2 then recs b.length b else ([],false)
theorem zKL {b:List Int} (hb:∀ x∈b,x4 x) (hl:b.length≤100000):zCP 200000 b=some (qU b):=by
 unfold zCP qU
 rw [zIZ 200000 b.length b [] hb (by omega) (by omega) hl (by simp;omega),zbs]
 unfold zCB
 cases hh:(recs b.length b).2
 ·rfl
 ·simp only [if_true,List.nil_append];rw [← hh]
theorem zDp {b:List Int} (hb:∀ x∈b,x4 x) (hl:b.length≤100000):nN 200000 b=some (qU b):=by
 unfold nN qU
 rw [zHS 200000 b.length b [] hb (by omega) (by omega) hl (by simp;omega),zbs]
 unfold zCB
 cases hh:(recs b.length b).2
 ·rfl
 ·simp only [if_true,List.nil_append];rw [← hh]
def jL (r:zW):Prop:=r.Policy≠1∧r.Policy≠2
def j4 (r:zW):Prop:=(r.Data.length:Int)<16∨(r.Data.length:Int)>65536∨r.Start<0∨r.End<r.Start∨r.End>1000000000000000∨r.End - r.Start>(r.Data.length:Int)∨r.First<0∨r.Next<r.First∨r.Next>1000000000000000
instance (r:zW):Decidable (jL r):=inferInstanceAs (Decidable (_∧_))
instance (r:zW):Decidable (j4 r):=inferInstanceAs (Decidable (_∨_))
theorem zG3 {r:zW} (h:¬j4 r):zFa r:=by
 unfold j4 at h
 exact ⟨by omega,by omega,by omega,by omega,by omega,by omega,by omega,by omega,by omega⟩
theorem zHX {r:zW} (g:zFa r):¬j4 r:=by
 have:=g.n1;have:=g.n2;have:=g.s0;have:=g.se;have:=g.e1;have:=g.k1;have:=g.f0;have:=g.fn;have:=g.nx
 unfold j4;omega
def wO (r:zW):Prop:=(∀ x∈r.Data,x4 x)∧y3 r.Start∧y3 r.End∧y3 r.First∧y3 r.Next∧r.Data.length≤4000000000000000000
def y7 (r:zW):List (List Int)×Int:=if jL r then ([],1) else if j4 r then ([],2) else
 let q:=qU (vL r)
 if q.2=false∨(q.1.length:Int)≠r.Next - r.First then ([],10) else (q.1,0)
theorem zEr {r:zW} (g:zFa r):used r≤r.Data.length:=by
 have:=g.k1;have:=g.se;unfold used;omega
theorem nM (r:zW):(vL r).length=used r:=zDl _ _ _
theorem nF {r:zW} (h:∀ x∈r.Data,x4 x):∀ x∈vL r,x4 x:=zRK h
theorem zEF {r:zW} (h:wO r):zBl 200000 r=some (y7 r):=by
 obtain ⟨hd,i1,i2,i3,i4,i5⟩:=h
 unfold y3 at i1 i2 i3 i4
 unfold zBl y7
 by_cases hp:jL r
 ·rw [if_pos hp]
  unfold jL at hp
  rw [show ((r.Policy != 1)&&(r.Policy != 2))=true by rw [xQ hp.1,xQ hp.2];rfl,cond_true];rfl
 rw [if_neg hp]
 rw [show ((r.Policy != 1)&&(r.Policy != 2))=false by
  unfold jL at hp
  by_cases h1:r.Policy=1
  ·rw [xE h1];rfl
  ·rw [xE (a:=r.Policy) (b:=2) (by omega),Bool.and_false],cond_false]
 by_cases hb:j4 r
 ·rw [if_pos hb]
  unfold j4 at hb
  by_cases c1:(r.Data.length:Int)<16
  ·rw [yR c1,Bool.true_or,cond_true];rfl
  by_cases c2:(r.Data.length:Int)>65536
  ·rw [yR c2,Bool.or_true,cond_true];rfl
  rw [yF c1,yF c2,Bool.or_false,cond_false]
  by_cases c3:r.Start<0
  ·rw [yR c3,cond_true];rfl
  rw [yF c3,cond_false]
  by_cases c4:r.End<r.Start
  ·rw [yR c4,cond_true];rfl
  rw [yF c4,cond_false]
  by_cases c5:r.End>1000000000000000
  ·rw [yR c5,cond_true];rfl
  rw [yF c5,cond_false,w64 (by omega) (by omega)]
  by_cases c6:r.End - r.Start>(r.Data.length:Int)
  ·rw [yR c6,cond_true];rfl
  rw [yF c6,cond_false]
  by_cases c7:r.First<0
  ·rw [yR c7,cond_true];rfl
  rw [yF c7,cond_false]
  by_cases c8:r.Next<r.First
  ·rw [yR c8,cond_true];rfl
  rw [yF c8,cond_false,yR (by omega),cond_true];rfl
 rw [if_neg hb]
 have g:=zG3 hb
 have:=g.n1;have:=g.n2;have:=g.s0;have:=g.se;have:=g.e1;have:=g.k1;have:=g.f0;have:=g.fn;have:=g.nx
 rw [yF (by omega),yF (by omega),Bool.or_false,cond_false,yF (by omega),cond_false,yF (by omega),cond_false,yF (by omega),cond_false,w64 (by omega) (by omega),yF (by omega),cond_false,yF (by omega),cond_false,yF (by omega),cond_false,yF (by omega),cond_false,zbs]
 simp only
 have hu:=zEr g
 rw [zIi g,zbs,zKL (nF hd) (by rw [nM];omega),zbs,w64 (by omega) (by omega)]
 generalize qU (vL r)=q
 cases h2:q.2
 ·rw [if_pos (.inl rfl)];rfl
 ·by_cases hc:(q.1.length:Int)≠r.Next - r.First
  ·rw [if_pos (.inr hc),xQ hc];rfl
  ·rw [if_neg (by simp;omega),xE (by omega)];rfl
theorem zC5 {r:zW} (h:wO r):zAo 200000 r=some (y7 r).2:=by
 obtain ⟨hd,i1,i2,i3,i4,i5⟩:=h
 unfold y3 at i1 i2 i3 i4
 unfold zAo y7
 by_cases hp:jL r
 ·rw [if_pos hp]
  unfold jL at hp
  rw [show ((r.Policy != 1)&&(r.Policy != 2))=true by rw [xQ hp.1,xQ hp.2];rfl,cond_true]
 rw [if_neg hp]
 rw [show ((r.Policy != 1)&&(r.Policy != 2))=false by
  unfold jL at hp
  by_cases h1:r.Policy=1
  ·rw [xE h1];rfl
  ·rw [xE (a:=r.Policy) (b:=2) (by omega),Bool.and_false],cond_false]
 by_cases hb:j4 r
 ·rw [if_pos hb]
  unfold j4 at hb
  have:(decide ((r.Data.length:Int)<16)||(decide ((r.Data.length:Int)>65536)||(decide (r.Start<0)||(decide (r.Start>r.End)||(decide (r.End>1000000000000000)||(decide (zI (r.End - r.Start)>(r.Data.length:Int))||(decide (r.First<0)||(decide (r.First>r.Next)||decide (r.Next>1000000000000000)))))))))=true:=by
   simp only [Bool.or_eq_true,decide_eq_true_eq]
   by_cases c:r.Start<0∨r.Start>r.End∨r.End>1000000000000000
   ·omega
   ·rw [w64 (by omega) (by omega)];omega
  rw [this,cond_true]
 rw [if_neg hb]
 have g:=zG3 hb
 have:=g.n1;have:=g.n2;have:=g.s0;have:=g.se;have:=g.e1;have:=g.k1;have:=g.f0;have:=g.fn;have:=g.nx
 have hu:=zEr g
 rw [w64 (x:=r.End - r.Start) (by omega) (by omega),yF (by omega),yF (by omega),yF (by omega),yF (by omega),yF (by omega),yF (by omega),yF (by omega),yF (by omega),yF (by omega)]
 simp only [Bool.or_false,cond_false]
 rw [zCS g,zbs,zDp (nF hd) (by rw [nM];omega),zbs,w64 (by omega) (by omega)]
 generalize qU (vL r)=q
 cases h2:q.2
 ·rw [if_pos (.inl rfl)];rfl
 ·by_cases hc:(q.1.length:Int)≠r.Next - r.First
  ·rw [if_pos (.inr hc),xQ hc];rfl
  ·rw [if_neg (by simp;omega),xE (by omega)];rfl
theorem j9 {r:zW} (h:(y7 r).2=0):¬jL r∧zFa r∧qU (vL r)=((y7 r).1,true)∧((y7 r).1.length:Int)=r.Next - r.First:=by
 unfold y7 at h ⊢
 by_cases hp:jL r
 ·rw [if_pos hp] at h;simp at h
 rw [if_neg hp] at h ⊢
 by_cases hb:j4 r
 ·rw [if_pos hb] at h;simp at h
 rw [if_neg hb] at h ⊢
 simp only at h ⊢
 by_cases hc:(qU (vL r)).2=false∨((qU (vL r)).1.length:Int)≠r.Next - r.First
 ·rw [if_pos hc] at h;simp at h
 rw [if_neg hc] at h ⊢
 refine ⟨hp,zG3 hb,?_,by simp only;omega⟩
 have:(qU (vL r)).2=true:=by
  cases h2:(qU (vL r)).2
  ·exact absurd (.inl h2) hc
  ·rfl
 exact Prod.ext rfl this
theorem zKK {r:zW} (h:wO r):zCY 200000 r=some (y7 r).2:=by
 unfold zCY;rw [zEF h];rfl
def zK6 (r:zW):Int:=if (y7 r).2≠0 then 0 else r.Data.length - (r.End - r.Start)
def uR (r:zW):List (List Int)×zW:=if (y7 r).2≠0 then ([],r) else ((y7 r).1,⟨r.Policy,r.Data,r.End,r.End,r.Next,r.Next⟩)
theorem zHp {r:zW} (h:wO r):zDh 200000 r=some (zK6 r):=by
 unfold zDh zK6
 rw [zC5 h,zbs]
 by_cases hc:(y7 r).2≠0
 ·rw [xQ hc,if_pos hc];rfl
 ·have g:=(j9 (r:=r) (by omega)).2.1
  have:=g.n2;have:=g.s0;have:=g.se;have:=g.e1
  rw [xE (by omega),if_neg hc,cond_false,w64 (x:=r.End - r.Start) (by omega) (by omega),w64 (by omega) (by omega)]
theorem zGC {r:zW} (h:wO r):zCF 200000 r=some (uR r):=by
 unfold zCF uR
 rw [zEF h,zbs]
 by_cases hc:(y7 r).2≠0
 ·rw [xQ hc,if_pos hc];rfl
 ·rw [xE (by omega),if_neg hc];rfl
theorem zFq {r:zW} (h:wO r):zA9 200000 r=some (uR r):=by
 unfold zA9 uR
 rw [zC5 h,zbs]
 by_cases hc:(y7 r).2≠0
 ·rw [xQ hc,if_pos hc];rfl
 ·obtain ⟨_,g,e,_⟩:=j9 (r:=r) (by omega)
  have hu:=zEr g
  have:=g.n2
  rw [xE (by omega),if_neg hc,cond_false,zCS g,zbs,zDp (nF h.1) (by rw [nM];omega),zbs,e]
theorem zMh:∀ (m:Nat) (b:List Int),(∀ x∈b,x4 x)→(recs m b).2=true→(recs m b).1.length≤b.length:=by
 intro m
 induction m with
 | zero=>intro b _ _;simp [recs]
 | succ m ih =>
  intro b hb h
  simp only [recs] at h ⊢
  by_cases he:b=[]
  ·rw [if_pos he];simp
  rw [if_neg he] at h ⊢
  obtain ⟨k1,k2,k3⟩:=zBe (i:=0) (u:=0) hb (by omega) (by omega) (by decide)
  generalize hq:vrd b 0 0=q at *
  by_cases hbad:q.2.2≠0∨q.1<0∨2000<q.1∨(b.length:Int)<q.2.1+q.1
  ·rw [if_pos hbad] at h;simp at h
  rw [if_neg hbad] at h ⊢
  have k2:=k2 (by omega)
  have:=ih _ (fun x hx=>hb x (List.mem_of_mem_drop hx)) h
  simp only [List.length_cons,List.length_drop] at this ⊢
  omega
theorem zFf {r:zW} (hd:∀ x∈r.Data,x4 x):(y7 r).1.length≤65536:=by
 by_cases hc:(y7 r).2=0
 ·obtain ⟨_,g,e,_⟩:=j9 hc
  have hu:=zEr g
  have:=g.n2
  unfold qU at e
  by_cases h2:(recs (vL r).length (vL r)).2=true
  ·rw [if_pos h2] at e
   have:=zMh _ _ (nF hd) h2
   rw [e,nM] at this
   simp only at this;omega
  ·rw [if_neg h2] at e;injection e with _ e;cases e
 ·have:(y7 r).1=[]:=by
   unfold y7 at hc ⊢
   split
   ·rfl
   ·split
    ·rfl
    ·simp only
     split
     ·rfl
     ·rename_i h1 h2 h3;rw [if_neg h1,if_neg h2] at hc;simp only at hc;rw [if_neg h3] at hc;exact absurd rfl hc
  rw [this];simp
end Go.Ab
