/- Plain laws of the functions qA this seat's, laid anew from another seat's text. No conditions but those that the theorems name. -/
import Derived.Test.YtdpgdpjoemdkjaaP10xD
import Derived.Test.YtdpgdpjoemdkjaaB10a
namespace Go.Ab
open Go
set_option linter.unusedVariables false
def ctn (D:List Int) (s k:Nat):List Int:=(List.range k).map fun j=>D.getD ((s+j) % D.length) 0
theorem zDl (D:List Int) (s k:Nat):(ctn D s k).length=k:=by simp [ctn]
theorem zHh {D:List Int} {s k j:Nat} (h:j<k):(ctn D s k)[j]?=some (D.getD ((s+j) % D.length) 0):=by
 simp [ctn,h]
theorem zIc (D:List Int) (s k:Nat):ctn D s (k+1)=ctn D s k++[D.getD ((s+k) % D.length) 0]:=by
 simp [ctn,List.range_succ]
theorem zOf (D:List Int) (s i k:Nat):ctn D s (i+k)=ctn D s i++ctn D (s+i) k:=by
 induction k with
 | zero=>simp [ctn]
 | succ k ih=>rw [← Nat.add_assoc,zIc,ih,zIc,List.append_assoc,Nat.add_assoc]
theorem zR4 {D:List Int} {s k:Nat} (h:∀ x∈D,x7 x):∀ x∈ctn D s k,x7 x:=by
 intro x hx
 simp only [ctn,List.mem_map] at hx
 obtain ⟨j,_,rfl⟩:=hx
 rw [List.getD_eq_getElem?_getD]
 cases hq:D[(s+j) % D.length]? with
 | none=>simp [x7]
 | some v=>exact h v (List.mem_of_getElem? hq)
theorem zFU {S n j:Nat} (hn:0<n) (hj:j<n):(S+j) % n=if S % n+j<n then S % n+j else S % n+j - n:=by
 have ha:=Nat.mod_lt S hn
 rw [← Nat.mod_add_mod]
 split
 ·exact Nat.mod_eq_of_lt (by assumption)
 ·rw [Nat.mod_eq_sub_mod (by omega),Nat.mod_eq_of_lt (by omega)]
theorem zQC {D:List Int} {S k:Nat} (hn:0<D.length) (hk:k≤D.length) :
  cpy (cpy (List.replicate k 0) 0 k (D.drop (S % D.length))) (min (D.drop (S % D.length)).length (k - 0)) k D=ctn D S k:=by
 have ha:=Nat.mod_lt S hn
 apply List.ext_getElem?
 intro j
 have hl:(cpy (cpy (List.replicate k 0) 0 k (D.drop (S % D.length))) (min (D.drop (S % D.length)).length (k - 0)) k D).length=k:=by
  rw [zAD (by omega) (by rw [zAD (by omega) (by simp)];simp),zAD (by omega) (by simp)];simp
 by_cases hj:j<k
 ·rw [zHh hj,zFU hn (by omega)]
  generalize hA:S % D.length=a at *
  have hm:min (D.drop a).length (k - 0)=min (D.length - a) k:=by simp
  rw [hm]
  generalize hM:min (D.length - a) k=m
  have hin:cpy (List.replicate k 0) 0 k (D.drop a)=(D.drop a).take m++List.replicate (k - m) 0:=by
   unfold cpy
   simp [hM]
  rw [hin]
  unfold cpy
  have e1:((D.drop a).take m++List.replicate (k - m) 0).take m=(D.drop a).take m:=by
   rw [List.take_left' (by simp;omega)]
  rw [e1,List.append_assoc]
  have l1:((D.drop a).take m).length=m:=by simp;omega
  by_cases hjm:j<m
  ·rw [List.getElem?_append_left (by omega),List.getElem?_take,if_pos hjm,List.getElem?_drop,if_pos (by omega),List.getD_eq_getElem?_getD,List.getElem?_eq_getElem (by omega)];rfl
  ·rw [List.getElem?_append_right (by omega),l1,List.getElem?_append_left (by simp;omega),List.getElem?_take,if_pos (by omega),if_neg (by omega),List.getD_eq_getElem?_getD,show a+j - D.length=j - m by omega,List.getElem?_eq_getElem (by omega)];rfl
 ·rw [List.getElem?_eq_none (by rw [hl];omega),List.getElem?_eq_none (by rw [zDl];omega)]
theorem zHf {α:Type} (l:List α) (a:Int):sub l a (l.length:Int)=l.drop a.toNat:=by simp [sub]
structure zFe (r:zO):Prop where
 n1:16≤r.Data.length
 n2:r.Data.length≤65536
 s0:0≤r.Start
 se:r.Start≤r.End
 e1:r.End≤1000000000000000
 k1:r.End - r.Start≤(r.Data.length:Int)
 f0:0≤r.First
 fn:r.First≤r.Next
 nx:r.Next≤1000000000000000
def used (r:zO):Nat:=(r.End - r.Start).toNat
def uA (r:zO):List Int:=ctn r.Data r.Start.toNat (used r)
theorem zFY (a b:Nat):yQ (a:Int) (b:Int)=((a % b:Nat):Int):=by
 rw [zGb (by omega)];exact (Int.natCast_emod a b).symm
theorem zIk {r:zO} (g:zFe r):zA2 r=some (uA r):=by
 have:=g.n1;have:=g.n2;have:=g.s0;have:=g.se;have:=g.e1;have:=g.k1
 unfold zA2 uA used
 obtain ⟨S,hS⟩:=Int.eq_ofNat_of_zero_le g.s0
 have hk:((r.End - r.Start).toNat:Int)=r.End - r.Start:=by omega
 rw [w64 (by omega) (by omega),hS,zFY]
 rw [hS] at hk
 generalize hK:(r.End - (S:Int)).toNat=k at *
 have hm:=Nat.mod_lt S (show 0<r.Data.length by omega)
 have e:sub r.Data ((S % r.Data.length:Nat):Int) (r.Data.length:Int)=r.Data.drop (S % r.Data.length):=by rw [zHf,Int.toNat_natCast]
 simp only [e]
 rw [xE (by omega),zbs,xE (by omega),zbs,xE (by omega),zbs,xE (by simp),zbs,xE (by omega),zbs,xE ⟨by omega,by rw [zAD (by omega) (by simp)];simp⟩,zbs,zQC (by omega) (by omega)]
 rfl
theorem zCP {r:zO} (g:zFe r):nK 200000 r=some (uA r):=by
 have:=g.n1;have:=g.n2;have:=g.s0;have:=g.se;have:=g.e1;have:=g.k1
 unfold nK uA used
 obtain ⟨S,hS⟩:=Int.eq_ofNat_of_zero_le g.s0
 have hk:((r.End - r.Start).toNat:Int)=r.End - r.Start:=by omega
 generalize hK:(r.End - r.Start).toNat=k at *
 have key:∀ (n j:Nat),j≤k→k - j<n→pR 200000 r n ((S+j:Nat):Int) (ctn r.Data S j)=some (ctn r.Data S k):=by
  intro n
  induction n with
  | zero=>intro j _ h;omega
  | succ n ih =>
   intro j hj hn
   show j1 200000 r _ _ _=_
   unfold j1
   rcases Nat.lt_or_ge j k with h | h
   ·have hm:=Nat.mod_lt (S+j) (show 0<r.Data.length by omega)
    rw [yW (by omega),cond_true,xE (by omega),zbs,zFY,jI,List.getElem?_eq_getElem hm,zbs,xE (by rw [zDl];simp only [List.length_cons,List.length_nil];omega),zbs,vS (by omega)]
    have:=ih (j+1) (by omega) (by omega)
    rw [zIc,List.getD_eq_getElem?_getD,List.getElem?_eq_getElem hm] at this
    exact this
   ·rw [yI (by omega),cond_false,show j=k by omega]
 have:=key 200000 0 (by omega) (by omega)
 rw [hS,show pR 200000 r 200000 (S:Int) []=_ from this,zbs]
 rfl
/- Records. -/
def recs:Nat→List Int→List (List Int)×Bool
 | 0,b=>([],b.isEmpty)
 | m+1,b=>if b=[] then ([],true) else
  let q:=vrd b 0 0
  if q.2.2≠0∨q.1<0∨2000<q.1∨(b.length:Int)<q.2.1+q.1 then ([],false) else
  let r:=recs m (b.drop (q.2.1+q.1).toNat)
  (sub b q.2.1 (q.2.1+q.1)::r.1,r.2)
def zCK (row:List (List Int)) (q:List (List Int)×Bool):List (List Int)⊕(List (List Int)×Bool):=if q.2 then .inl (row++q.1) else .inr ([],false)
theorem zJF:∀ (n m:Nat) (b:List Int) (row:List (List Int)),(∀ x∈b,x7 x)→b.length<n→b.length≤m→b.length≤100000→row.length+b.length≤200000→zA9 200000 n b row=some (zCK row (recs m b)):=by
 intro n
 induction n with
 | zero=>intro m b row _ h;omega
 | succ n ih =>
  intro m b row hb hn hm hl hr
  show k9 200000 _ b row=_
  unfold k9
  by_cases he:b=[]
  ·subst he
   rw [yI (by simp),cond_false]
   cases m<;>simp [recs,zCK]
  have hpos:=List.length_pos_iff.2 he
  obtain ⟨m,rfl⟩:∃ k,m=k+1:=⟨m - 1,by omega⟩
  obtain ⟨k1,k2,k3⟩:=zBE (i:=0) (u:=0) hb (by omega) (by omega) (by decide)
  rw [yW (by omega),cond_true,zGJ hb (by omega) (by omega),zbs]
  simp only [recs,if_neg he]
  generalize hq:vrd b 0 0=q at *
  unfold y2 at k1
  by_cases hbad:q.2.2≠0∨q.1<0∨2000<q.1∨(b.length:Int)<q.2.1+q.1
  ·rw [if_pos hbad]
   have:((q.2.2 != 0)||(decide (q.1<0)||(decide (q.1>2000)||decide (zJ (q.2.1+q.1)>(b.length:Int)))))=true:=by
    by_cases c0:q.2.2≠0
    ·rw [xW c0];rfl
    have k2:=k2 (by omega)
    by_cases c1:q.1<0
    ·rw [yW c1,Bool.true_or,Bool.or_true]
    by_cases c2:2000<q.1
    ·rw [yW (p:=q.1>2000) c2,Bool.true_or,Bool.or_true,Bool.or_true]
    rw [yW (p:=zJ (q.2.1+q.1)>(b.length:Int)) (by rw [w64 (by omega) (by omega)];omega),Bool.or_true,Bool.or_true,Bool.or_true]
   rw [this,cond_true];rfl
  ·rw [if_neg hbad]
   have k2:=k2 (by omega)
   have:((q.2.2 != 0)||(decide (q.1<0)||(decide (q.1>2000)||decide (zJ (q.2.1+q.1)>(b.length:Int)))))=false:=by
    rw [xD (by omega),yI (by omega),yI (by omega),yI (by rw [w64 (by omega) (by omega)];omega)];rfl
   rw [this,cond_false,w64 (by omega) (by omega),xE (by omega),zbs,xE (by simp only [List.length_cons,List.length_nil];omega),zbs,xE (by omega),zbs,zHf,
    ih m _ _ (fun x hx=>hb x (List.mem_of_mem_drop hx)) (by simp;omega) (by simp;omega) (by simp;omega) (by simp;omega)]
   unfold zCK
   simp only
   split<;>simp
theorem zIC:∀ (n m:Nat) (b:List Int) (row:List (List Int)),(∀ x∈b,x7 x)→b.length<n→b.length≤m→b.length≤100000→row.length+b.length≤200000→zAs 200000 n b row=some (zCK row (recs m b)):=by
 intro n
 induction n with
 | zero=>intro m b row _ h;omega
 | succ n ih =>
  intro m b row hb hn hm hl hr
  show kL 200000 _ b row=_
  unfold kL
  by_cases he:b=[]
  ·subst he
   rw [yI (by simp),cond_false]
   cases m<;>simp [recs,zCK]
  have hpos:=List.length_pos_iff.2 he
  obtain ⟨m,rfl⟩:∃ k,m=k+1:=⟨m - 1,by omega⟩
  obtain ⟨k1,k2,k3⟩:=zBE (i:=0) (u:=0) hb (by omega) (by omega) (by decide)
  rw [yW (by omega),cond_true,zIJ hb (by omega) (by omega),zbs]
  simp only [recs,if_neg he]
  generalize hq:vrd b 0 0=q at *
  unfold y2 at k1
  by_cases hbad:q.2.2≠0∨q.1<0∨2000<q.1∨(b.length:Int)<q.2.1+q.1
  ·rw [if_pos hbad]
   have:((q.2.2 != 0)||(decide (q.1<0)||(decide (q.1>2000)||decide (q.1>zJ ((b.length:Int) - q.2.1)))))=true:=by
    by_cases c0:q.2.2≠0
    ·rw [xW c0];rfl
    have k2:=k2 (by omega)
    by_cases c1:q.1<0
    ·rw [yW c1,Bool.true_or,Bool.or_true]
    by_cases c2:2000<q.1
    ·rw [yW (p:=q.1>2000) c2,Bool.true_or,Bool.or_true,Bool.or_true]
    rw [yW (p:=q.1>zJ ((b.length:Int) - q.2.1)) (by rw [w64 (by omega) (by omega)];omega),Bool.or_true,Bool.or_true,Bool.or_true]
   rw [this,cond_true];rfl
  ·rw [if_neg hbad]
   have k2:=k2 (by omega)
   have:((q.2.2 != 0)||(decide (q.1<0)||(decide (q.1>2000)||decide (q.1>zJ ((b.length:Int) - q.2.1)))))=false:=by
    rw [xD (by omega),yI (by omega),yI (by omega),yI (by rw [w64 (by omega) (by omega)];omega)];rfl
   rw [this,cond_false,w64 (by omega) (by omega),xE (by omega),zbs,xE (by simp only [List.length_cons,List.length_nil];omega),zbs,xE (by omega),zbs,zHf,
    ih m _ _ (fun x hx=>hb x (List.mem_of_mem_drop hx)) (by simp;omega) (by simp;omega) (by simp;omega) (by simp;omega)]
   unfold zCK
   simp only
   split<;>simp
def jQ (b:List Int):List (List Int)×Bool:=if (recs b.length b).2 then recs b.length b else ([],false)
theorem zKT {b:List Int} (hb:∀ x∈b,x7 x) (hl:b.length≤100000):zCO 200000 b=some (jQ b):=by
 unfold zCO jQ
 rw [zJF 200000 b.length b [] hb (by omega) (by omega) hl (by simp;omega),zbs]
 unfold zCK
 cases hh:(recs b.length b).2
 ·rfl
 ·simp only [if_true,List.nil_append];rw [← hh]
theorem zDr {b:List Int} (hb:∀ x∈b,x7 x) (hl:b.length≤100000):zAj 200000 b=some (jQ b):=by
 unfold zAj jQ
 rw [zIC 200000 b.length b [] hb (by omega) (by omega) hl (by simp;omega),zbs]
 unfold zCK
 cases hh:(recs b.length b).2
 ·rfl
 ·simp only [if_true,List.nil_append];rw [← hh]
def jO (r:zO):Prop:=r.Policy≠1∧r.Policy≠2
def j0 (r:zO):Prop:=(r.Data.length:Int)<16∨(r.Data.length:Int)>65536∨r.Start<0∨r.End<r.Start∨r.End>1000000000000000∨r.End - r.Start>(r.Data.length:Int)∨r.First<0∨r.Next<r.First∨r.Next>1000000000000000
instance (r:zO):Decidable (jO r):=inferInstanceAs (Decidable (_∧_))
instance (r:zO):Decidable (j0 r):=inferInstanceAs (Decidable (_∨_))
theorem zHi {r:zO} (h:¬j0 r):zFe r:=by
 unfold j0 at h
 exact ⟨by omega,by omega,by omega,by omega,by omega,by omega,by omega,by omega,by omega⟩
theorem zIo {r:zO} (g:zFe r):¬j0 r:=by
 have:=g.n1;have:=g.n2;have:=g.s0;have:=g.se;have:=g.e1;have:=g.k1;have:=g.f0;have:=g.fn;have:=g.nx
 unfold j0;omega
def vA (r:zO):Prop:=(∀ x∈r.Data,x7 x)∧y2 r.Start∧y2 r.End∧y2 r.First∧y2 r.Next∧r.Data.length≤4000000000000000000
def xB (r:zO):List (List Int)×Int:=if jO r then ([],1) else if j0 r then ([],2) else
 let q:=jQ (uA r)
 if q.2=false∨(q.1.length:Int)≠r.Next - r.First then ([],10) else (q.1,0)
theorem zEw {r:zO} (g:zFe r):used r≤r.Data.length:=by
 have:=g.k1;have:=g.se;unfold used;omega
theorem zAg (r:zO):(uA r).length=used r:=zDl _ _ _
theorem zAe {r:zO} (h:∀ x∈r.Data,x7 x):∀ x∈uA r,x7 x:=zR4 h
theorem zE2 {r:zO} (h:vA r):zBr 200000 r=some (xB r):=by
 obtain ⟨hd,i1,i2,i3,i4,i5⟩:=h
 unfold y2 at i1 i2 i3 i4
 unfold zBr xB
 by_cases hp:jO r
 ·rw [if_pos hp]
  unfold jO at hp
  rw [show ((r.Policy != 1)&&(r.Policy != 2))=true by rw [xW hp.1,xW hp.2];rfl,cond_true];rfl
 rw [if_neg hp]
 rw [show ((r.Policy != 1)&&(r.Policy != 2))=false by
  unfold jO at hp
  by_cases h1:r.Policy=1
  ·rw [xD h1];rfl
  ·rw [xD (a:=r.Policy) (b:=2) (by omega),Bool.and_false],cond_false]
 by_cases hb:j0 r
 ·rw [if_pos hb]
  unfold j0 at hb
  by_cases c1:(r.Data.length:Int)<16
  ·rw [yW c1,Bool.true_or,cond_true];rfl
  by_cases c2:(r.Data.length:Int)>65536
  ·rw [yW c2,Bool.or_true,cond_true];rfl
  rw [yI c1,yI c2,Bool.or_false,cond_false]
  by_cases c3:r.Start<0
  ·rw [yW c3,cond_true];rfl
  rw [yI c3,cond_false]
  by_cases c4:r.End<r.Start
  ·rw [yW c4,cond_true];rfl
  rw [yI c4,cond_false]
  by_cases c5:r.End>1000000000000000
  ·rw [yW c5,cond_true];rfl
  rw [yI c5,cond_false,w64 (by omega) (by omega)]
  by_cases c6:r.End - r.Start>(r.Data.length:Int)
  ·rw [yW c6,cond_true];rfl
  rw [yI c6,cond_false]
  by_cases c7:r.First<0
  ·rw [yW c7,cond_true];rfl
  rw [yI c7,cond_false]
  by_cases c8:r.Next<r.First
  ·rw [yW c8,cond_true];rfl
  rw [yI c8,cond_false,yW (by omega),cond_true];rfl
 rw [if_neg hb]
 have g:=zHi hb
 have:=g.n1;have:=g.n2;have:=g.s0;have:=g.se;have:=g.e1;have:=g.k1;have:=g.f0;have:=g.fn;have:=g.nx
 rw [yI (by omega),yI (by omega),Bool.or_false,cond_false,yI (by omega),cond_false,yI (by omega),cond_false,yI (by omega),cond_false,w64 (by omega) (by omega),yI (by omega),cond_false,yI (by omega),cond_false,yI (by omega),cond_false,yI (by omega),cond_false,zbs]
 simp only
 have hu:=zEw g
 rw [zIk g,zbs,zKT (zAe hd) (by rw [zAg];omega),zbs,w64 (by omega) (by omega)]
 generalize jQ (uA r)=q
 cases h2:q.2
 ·rw [if_pos (.inl rfl)];rfl
 ·by_cases hc:(q.1.length:Int)≠r.Next - r.First
  ·rw [if_pos (.inr hc),xW hc];rfl
  ·rw [if_neg (by simp;omega),xD (by omega)];rfl
theorem zC6 {r:zO} (h:vA r):zAH 200000 r=some (xB r).2:=by
 obtain ⟨hd,i1,i2,i3,i4,i5⟩:=h
 unfold y2 at i1 i2 i3 i4
 unfold zAH xB
 by_cases hp:jO r
 ·rw [if_pos hp]
  unfold jO at hp
  rw [show ((r.Policy != 1)&&(r.Policy != 2))=true by rw [xW hp.1,xW hp.2];rfl,cond_true]
 rw [if_neg hp]
 rw [show ((r.Policy != 1)&&(r.Policy != 2))=false by
  unfold jO at hp
  by_cases h1:r.Policy=1
  ·rw [xD h1];rfl
  ·rw [xD (a:=r.Policy) (b:=2) (by omega),Bool.and_false],cond_false]
 by_cases hb:j0 r
 ·rw [if_pos hb]
  unfold j0 at hb
  have:(decide ((r.Data.length:Int)<16)||(decide ((r.Data.length:Int)>65536)||(decide (r.Start<0)||(decide (r.Start>r.End)||(decide (r.End>1000000000000000)||(decide (zJ (r.End - r.Start)>(r.Data.length:Int))||(decide (r.First<0)||(decide (r.First>r.Next)||decide (r.Next>1000000000000000)))))))))=true:=by
   simp only [Bool.or_eq_true,decide_eq_true_eq]
   by_cases c:r.Start<0∨r.Start>r.End∨r.End>1000000000000000
   ·omega
   ·rw [w64 (by omega) (by omega)];omega
  rw [this,cond_true]
 rw [if_neg hb]
 have g:=zHi hb
 have:=g.n1;have:=g.n2;have:=g.s0;have:=g.se;have:=g.e1;have:=g.k1;have:=g.f0;have:=g.fn;have:=g.nx
 have hu:=zEw g
 rw [w64 (x:=r.End - r.Start) (by omega) (by omega),yI (by omega),yI (by omega),yI (by omega),yI (by omega),yI (by omega),yI (by omega),yI (by omega),yI (by omega),yI (by omega)]
 simp only [Bool.or_false,cond_false]
 rw [zCP g,zbs,zDr (zAe hd) (by rw [zAg];omega),zbs,w64 (by omega) (by omega)]
 generalize jQ (uA r)=q
 cases h2:q.2
 ·rw [if_pos (.inl rfl)];rfl
 ·by_cases hc:(q.1.length:Int)≠r.Next - r.First
  ·rw [if_pos (.inr hc),xW hc];rfl
  ·rw [if_neg (by simp;omega),xD (by omega)];rfl
theorem kY {r:zO} (h:(xB r).2=0):¬jO r∧zFe r∧jQ (uA r)=((xB r).1,true)∧((xB r).1.length:Int)=r.Next - r.First:=by
 unfold xB at h ⊢
 by_cases hp:jO r
 ·rw [if_pos hp] at h;simp at h
 rw [if_neg hp] at h ⊢
 by_cases hb:j0 r
 ·rw [if_pos hb] at h;simp at h
 rw [if_neg hb] at h ⊢
 simp only at h ⊢
 by_cases hc:(jQ (uA r)).2=false∨((jQ (uA r)).1.length:Int)≠r.Next - r.First
 ·rw [if_pos hc] at h;simp at h
 rw [if_neg hc] at h ⊢
 refine ⟨hp,zHi hb,?_,by simp only;omega⟩
 have:(jQ (uA r)).2=true:=by
  cases h2:(jQ (uA r)).2
  ·exact absurd (.inl h2) hc
  ·rfl
 exact Prod.ext rfl this
theorem zKS {r:zO} (h:vA r):zC7 200000 r=some (xB r).2:=by
 unfold zC7;rw [zE2 h];rfl
def zLo (r:zO):Int:=if (xB r).2≠0 then 0 else r.Data.length - (r.End - r.Start)
def tL (r:zO):List (List Int)×zO:=if (xB r).2≠0 then ([],r) else ((xB r).1,⟨r.Policy,r.Data,r.End,r.End,r.Next,r.Next⟩)
theorem zHJ {r:zO} (h:vA r):zDC 200000 r=some (zLo r):=by
 unfold zDC zLo
 rw [zC6 h,zbs]
 by_cases hc:(xB r).2≠0
 ·rw [xW hc,if_pos hc];rfl
 ·have g:=(kY (r:=r) (by omega)).2.1
  have:=g.n2;have:=g.s0;have:=g.se;have:=g.e1
  rw [xD (by omega),if_neg hc,cond_false,w64 (x:=r.End - r.Start) (by omega) (by omega),w64 (by omega) (by omega)]
theorem zG6 {r:zO} (h:vA r):zCJ 200000 r=some (tL r):=by
 unfold zCJ tL
 rw [zE2 h,zbs]
 by_cases hc:(xB r).2≠0
 ·rw [xW hc,if_pos hc];rfl
 ·rw [xD (by omega),if_neg hc];rfl
theorem zFp {r:zO} (h:vA r):zBu 200000 r=some (tL r):=by
 unfold zBu tL
 rw [zC6 h,zbs]
 by_cases hc:(xB r).2≠0
 ·rw [xW hc,if_pos hc];rfl
 ·obtain ⟨_,g,e,_⟩:=kY (r:=r) (by omega)
  have hu:=zEw g
  have:=g.n2
  rw [xD (by omega),if_neg hc,cond_false,zCP g,zbs,zDr (zAe h.1) (by rw [zAg];omega),zbs,e]
theorem zLZ:∀ (m:Nat) (b:List Int),(∀ x∈b,x7 x)→(recs m b).2=true→(recs m b).1.length≤b.length:=by
 intro m
 induction m with
 | zero=>intro b _ _;simp [recs]
 | succ m ih =>
  intro b hb h
  simp only [recs] at h ⊢
  by_cases he:b=[]
  ·rw [if_pos he];simp
  rw [if_neg he] at h ⊢
  obtain ⟨k1,k2,k3⟩:=zBE (i:=0) (u:=0) hb (by omega) (by omega) (by decide)
  generalize hq:vrd b 0 0=q at *
  by_cases hbad:q.2.2≠0∨q.1<0∨2000<q.1∨(b.length:Int)<q.2.1+q.1
  ·rw [if_pos hbad] at h;simp at h
  rw [if_neg hbad] at h ⊢
  have k2:=k2 (by omega)
  have:=ih _ (fun x hx=>hb x (List.mem_of_mem_drop hx)) h
  simp only [List.length_cons,List.length_drop] at this ⊢
  omega
theorem zFh {r:zO} (hd:∀ x∈r.Data,x7 x):(xB r).1.length≤65536:=by
 by_cases hc:(xB r).2=0
 ·obtain ⟨_,g,e,_⟩:=kY hc
  have hu:=zEw g
  have:=g.n2
  unfold jQ at e
  by_cases h2:(recs (uA r).length (uA r)).2=true
  ·rw [if_pos h2] at e
   have:=zLZ _ _ (zAe hd) h2
   rw [e,zAg] at this
   simp only at this;omega
  ·rw [if_neg h2] at e;injection e with _ e;cases e
 ·have:(xB r).1=[]:=by
   unfold xB at hc ⊢
   split
   ·rfl
   ·split
    ·rfl
    ·simp only
     split
     ·rfl
     ·rename_i h1 h2 h3;rw [if_neg h1,if_neg h2] at hc;simp only at hc;rw [if_neg h3] at hc;exact absurd rfl hc
  rw [this];simp
end Go.Ab
