/- Plain laws of the functions wP this seat's, laid anew from another seat's text. No conditions but those that the theorems name. -/
import Derived.Test.YtdpgdpjoemdkjaaP10xD
import Derived.Test.YtdpgdpjoemdkjaaB10a
namespace Go.Ab
open Go
set_option linter.unusedVariables false
def ctn (D:List Int) (s k:Nat):List Int:=(List.range k).map fun j=>D.getD ((s+j) % D.length) 0
theorem nP (D:List Int) (s k:Nat):(ctn D s k).length=k:=by simp [ctn]
theorem zC2 {D:List Int} {s k j:Nat} (h:j<k):(ctn D s k)[j]?=some (D.getD ((s+j) % D.length) 0):=by
 simp [ctn,h]
theorem zD0 (D:List Int) (s k:Nat):ctn D s (k+1)=ctn D s k++[D.getD ((s+k) % D.length) 0]:=by
 simp [ctn,List.range_succ]
theorem zIE (D:List Int) (s i k:Nat):ctn D s (i+k)=ctn D s i++ctn D (s+i) k:=by
 induction k with
 | zero=>simp [ctn]
 | succ k ih=>rw [← Nat.add_assoc,zD0,ih,zD0,List.append_assoc,Nat.add_assoc]
theorem zMg {D:List Int} {s k:Nat} (h:∀ x∈D,yP x):∀ x∈ctn D s k,yP x:=by
 intro x hx
 simp only [ctn,List.mem_map] at hx
 obtain ⟨j,_,rfl⟩:=hx
 rw [List.getD_eq_getElem?_getD]
 cases hq:D[(s+j) % D.length]? with
 | none=>simp [yP]
 | some v=>exact h v (List.mem_of_getElem? hq)
theorem zDX {S n j:Nat} (hn:0<n) (hj:j<n):(S+j) % n=if S % n+j<n then S % n+j else S % n+j - n:=by
 have ha:=Nat.mod_lt S hn
 rw [← Nat.mod_add_mod]
 split
 ·exact Nat.mod_eq_of_lt (by assumption)
 ·rw [Nat.mod_eq_sub_mod (by omega),Nat.mod_eq_of_lt (by omega)]
theorem zKK {D:List Int} {S k:Nat} (hn:0<D.length) (hk:k≤D.length) :
  cpy (cpy (List.replicate k 0) 0 k (D.drop (S % D.length))) (min (D.drop (S % D.length)).length (k - 0)) k D=ctn D S k:=by
 have ha:=Nat.mod_lt S hn
 apply List.ext_getElem?
 intro j
 have hl:(cpy (cpy (List.replicate k 0) 0 k (D.drop (S % D.length))) (min (D.drop (S % D.length)).length (k - 0)) k D).length=k:=by
  rw [pO (by omega) (by rw [pO (by omega) (by simp)];simp),pO (by omega) (by simp)];simp
 by_cases hj:j<k
 ·rw [zC2 hj,zDX hn (by omega)]
  generalize hA:S % D.length=a at *
  have hm:min (D.drop a).length (k - 0)=min (D.length - a) k:=by simp
  rw [hm]
  generalize hM:min (D.length - a) k=m
  have hin:cpy (List.replicate k 0) 0 k (D.drop a)=(D.drop a).take m++List.replicate (k - m) 0:=by
   unfold cpy
   simp [hM]
  rw [hin]
  unfold cpy
  have e1:((D.drop a).take m++List.replicate (k - m) 0).take m=(D.drop a).take m:=by
   rw [List.take_left' (by simp;omega)]
  rw [e1,List.append_assoc]
  have l1:((D.drop a).take m).length=m:=by simp;omega
  by_cases hjm:j<m
  ·rw [List.getElem?_append_left (by omega),List.getElem?_take,if_pos hjm,List.getElem?_drop,if_pos (by omega),List.getD_eq_getElem?_getD,List.getElem?_eq_getElem (by omega)];rfl
  ·rw [List.getElem?_append_right (by omega),l1,List.getElem?_append_left (by simp;omega),List.getElem?_take,if_pos (by omega),if_neg (by omega),List.getD_eq_getElem?_getD,show a+j - D.length=j - m by omega,List.getElem?_eq_getElem (by omega)];rfl
 ·rw [List.getElem?_eq_none (by rw [hl];omega),List.getElem?_eq_none (by rw [nP];omega)]
theorem zFm {α:Type} (l:List α) (a:Int):sub l a (l.length:Int)=l.drop a.toNat:=by simp [sub]
structure zBg (r:zB):Prop where
 n1:16≤r.Data.length
 n2:r.Data.length≤65536
 s0:0≤r.Start
 se:r.Start≤r.End
 e1:r.End≤1000000000000000
 k1:r.End - r.Start≤(r.Data.length:Int)
 f0:0≤r.First
 fn:r.First≤r.Next
 nx:r.Next≤1000000000000000
def used (r:zB):Nat:=(r.End - r.Start).toNat
def xZ (r:zB):List Int:=ctn r.Data r.Start.toNat (used r)
theorem zGQ (a b:Nat):zX (a:Int) (b:Int)=((a % b:Nat):Int):=by
 rw [zDT (by omega)];exact (Int.natCast_emod a b).symm
theorem zDE {r:zB} (g:zBg r):jI r=some (xZ r):=by
 have:=g.n1;have:=g.n2;have:=g.s0;have:=g.se;have:=g.e1;have:=g.k1
 unfold jI xZ used
 obtain ⟨S,hS⟩:=Int.eq_ofNat_of_zero_le g.s0
 have hk:((r.End - r.Start).toNat:Int)=r.End - r.Start:=by omega
 rw [w64 (by omega) (by omega),hS,zGQ]
 rw [hS] at hk
 generalize hK:(r.End - (S:Int)).toNat=k at *
 have hm:=Nat.mod_lt S (show 0<r.Data.length by omega)
 have e:sub r.Data ((S % r.Data.length:Nat):Int) (r.Data.length:Int)=r.Data.drop (S % r.Data.length):=by rw [zFm,Int.toNat_natCast]
 simp only [e]
 rw [wG (by omega),Option.bind_some,wG (by omega),Option.bind_some,wG (by omega),Option.bind_some,wG (by simp),Option.bind_some,wG (by omega),Option.bind_some,wG ⟨by omega,by rw [pO (by omega) (by simp)];simp⟩,Option.bind_some,zKK (by omega) (by omega)]
 rfl
theorem zBd {r:zB} (g:zBg r):qQ 200000 r=some (xZ r):=by
 have:=g.n1;have:=g.n2;have:=g.s0;have:=g.se;have:=g.e1;have:=g.k1
 unfold qQ xZ used
 obtain ⟨S,hS⟩:=Int.eq_ofNat_of_zero_le g.s0
 have hk:((r.End - r.Start).toNat:Int)=r.End - r.Start:=by omega
 generalize hK:(r.End - r.Start).toNat=k at *
 have key:∀ (n j:Nat),j≤k→k - j<n→uK 200000 r n ((S+j:Nat):Int) (ctn r.Data S j)=some (ctn r.Data S k):=by
  intro n
  induction n with
  | zero=>intro j _ h;omega
  | succ n ih =>
   intro j hj hn
   show vM 200000 r _ _ _=_
   unfold vM
   rcases Nat.lt_or_ge j k with h | h
   ·have hm:=Nat.mod_lt (S+j) (show 0<r.Data.length by omega)
    rw [yR (by omega),cond_true,wG (by omega),Option.bind_some,zGQ,q7,List.getElem?_eq_getElem hm,Option.bind_some,wG (by rw [nP];simp only [List.length_cons,List.length_nil];omega),Option.bind_some,j3 (by omega)]
    have:=ih (j+1) (by omega) (by omega)
    rw [zD0,List.getD_eq_getElem?_getD,List.getElem?_eq_getElem hm] at this
    exact this
   ·rw [yH (by omega),cond_false,show j=k by omega]
 have:=key 200000 0 (by omega) (by omega)
 rw [hS,show uK 200000 r 200000 (S:Int) []=_ from this,Option.bind_some]
 rfl
/- Records. -/
def recs:Nat→List Int→List (List Int)×Bool
 | 0,b=>([],b.isEmpty)
 | m+1,b=>if b=[] then ([],true) else
  let q:=vrd b 0 0
  if q.2.2≠0∨q.1<0∨2000<q.1∨(b.length:Int)<q.2.1+q.1 then ([],false) else
  let r:=recs m (b.drop (q.2.1+q.1).toNat)
  (sub b q.2.1 (q.2.1+q.1)::r.1,r.2)
def pN (row:List (List Int)) (q:List (List Int)×Bool):List (List Int)⊕(List (List Int)×Bool):=if q.2 then .inl (row++q.1) else .inr ([],false)
theorem zEA:∀ (n m:Nat) (b:List Int) (row:List (List Int)),(∀ x∈b,yP x)→b.length<n→b.length≤m→b.length≤100000→row.length+b.length≤200000→jN 200000 n b row=some (pN row (recs m b)):=by
 intro n
 induction n with
 | zero=>intro m b row _ h;omega
 | succ n ih =>
  intro m b row hb hn hm hl hr
  show uG 200000 _ b row=_
  unfold uG
  by_cases he:b=[]
  ·subst he
   rw [yH (by simp),cond_false]
   cases m<;>simp [recs,pN]
  have hpos:=List.length_pos_iff.2 he
  obtain ⟨m,rfl⟩:∃ k,m=k+1:=⟨m - 1,by omega⟩
  obtain ⟨k1,k2,k3⟩:=j4 (i:=0) (u:=0) hb (by omega) (by omega) (by decide)
  rw [yR (by omega),cond_true,zCx hb (by omega) (by omega),Option.bind_some]
  simp only [recs,if_neg he]
  generalize hq:vrd b 0 0=q at *
  unfold yC at k1
  by_cases hbad:q.2.2≠0∨q.1<0∨2000<q.1∨(b.length:Int)<q.2.1+q.1
  ·rw [if_pos hbad]
   have:((q.2.2 != 0)||(decide (q.1<0)||(decide (q.1>2000)||decide (zG (q.2.1+q.1)>(b.length:Int)))))=true:=by
    by_cases c0:q.2.2≠0
    ·rw [wW c0];rfl
    have k2:=k2 (by omega)
    by_cases c1:q.1<0
    ·rw [yR c1,Bool.true_or,Bool.or_true]
    by_cases c2:2000<q.1
    ·rw [yR (p:=q.1>2000) c2,Bool.true_or,Bool.or_true,Bool.or_true]
    rw [yR (p:=zG (q.2.1+q.1)>(b.length:Int)) (by rw [w64 (by omega) (by omega)];omega),Bool.or_true,Bool.or_true,Bool.or_true]
   rw [this,cond_true];rfl
  ·rw [if_neg hbad]
   have k2:=k2 (by omega)
   have:((q.2.2 != 0)||(decide (q.1<0)||(decide (q.1>2000)||decide (zG (q.2.1+q.1)>(b.length:Int)))))=false:=by
    rw [xA (by omega),yH (by omega),yH (by omega),yH (by rw [w64 (by omega) (by omega)];omega)];rfl
   rw [this,cond_false,w64 (by omega) (by omega),wG (by omega),Option.bind_some,wG (by simp only [List.length_cons,List.length_nil];omega),Option.bind_some,wG (by omega),Option.bind_some,zFm,
    ih m _ _ (fun x hx=>hb x (List.mem_of_mem_drop hx)) (by simp;omega) (by simp;omega) (by simp;omega) (by simp;omega)]
   unfold pN
   simp only
   split<;>simp
theorem zDt:∀ (n m:Nat) (b:List Int) (row:List (List Int)),(∀ x∈b,yP x)→b.length<n→b.length≤m→b.length≤100000→row.length+b.length≤200000→qU 200000 n b row=some (pN row (recs m b)):=by
 intro n
 induction n with
 | zero=>intro m b row _ h;omega
 | succ n ih =>
  intro m b row hb hn hm hl hr
  show vZ 200000 _ b row=_
  unfold vZ
  by_cases he:b=[]
  ·subst he
   rw [yH (by simp),cond_false]
   cases m<;>simp [recs,pN]
  have hpos:=List.length_pos_iff.2 he
  obtain ⟨m,rfl⟩:∃ k,m=k+1:=⟨m - 1,by omega⟩
  obtain ⟨k1,k2,k3⟩:=j4 (i:=0) (u:=0) hb (by omega) (by omega) (by decide)
  rw [yR (by omega),cond_true,zI3 hb (by omega) (by omega),Option.bind_some]
  simp only [recs,if_neg he]
  generalize hq:vrd b 0 0=q at *
  unfold yC at k1
  by_cases hbad:q.2.2≠0∨q.1<0∨2000<q.1∨(b.length:Int)<q.2.1+q.1
  ·rw [if_pos hbad]
   have:((q.2.2 != 0)||(decide (q.1<0)||(decide (q.1>2000)||decide (q.1>zG ((b.length:Int) - q.2.1)))))=true:=by
    by_cases c0:q.2.2≠0
    ·rw [wW c0];rfl
    have k2:=k2 (by omega)
    by_cases c1:q.1<0
    ·rw [yR c1,Bool.true_or,Bool.or_true]
    by_cases c2:2000<q.1
    ·rw [yR (p:=q.1>2000) c2,Bool.true_or,Bool.or_true,Bool.or_true]
    rw [yR (p:=q.1>zG ((b.length:Int) - q.2.1)) (by rw [w64 (by omega) (by omega)];omega),Bool.or_true,Bool.or_true,Bool.or_true]
   rw [this,cond_true];rfl
  ·rw [if_neg hbad]
   have k2:=k2 (by omega)
   have:((q.2.2 != 0)||(decide (q.1<0)||(decide (q.1>2000)||decide (q.1>zG ((b.length:Int) - q.2.1)))))=false:=by
    rw [xA (by omega),yH (by omega),yH (by omega),yH (by rw [w64 (by omega) (by omega)];omega)];rfl
   rw [this,cond_false,w64 (by omega) (by omega),wG (by omega),Option.bind_some,wG (by simp only [List.length_cons,List.length_nil];omega),Option.bind_some,wG (by omega),Option.bind_some,zFm,
    ih m _ _ (fun x hx=>hb x (List.mem_of_mem_drop hx)) (by simp;omega) (by simp;omega) (by simp;omega) (by simp;omega)]
   unfold pN
   simp only
   split<;>simp
def v4 (b:List Int):List (List Int)×Bool:=if (recs b.length b).2 then recs b.length b else ([],false)
theorem zFZ {b:List Int} (hb:∀ x∈b,yP x) (hl:b.length≤100000):pZ 200000 b=some (v4 b):=by
 unfold pZ v4
 rw [zEA 200000 b.length b [] hb (by omega) (by omega) hl (by simp;omega),Option.bind_some]
 unfold pN
 cases hh:(recs b.length b).2
 ·rfl
 ·simp only [if_true,List.nil_append];rw [← hh]
theorem zBK {b:List Int} (hb:∀ x∈b,yP x) (hl:b.length≤100000):jQ 200000 b=some (v4 b):=by
 unfold jQ v4
 rw [zDt 200000 b.length b [] hb (by omega) (by omega) hl (by simp;omega),Option.bind_some]
 unfold pN
 cases hh:(recs b.length b).2
 ·rfl
 ·simp only [if_true,List.nil_append];rw [← hh]
def vB (r:zB):Prop:=r.Policy≠1∧r.Policy≠2
def vG (r:zB):Prop:=(r.Data.length:Int)<16∨(r.Data.length:Int)>65536∨r.Start<0∨r.End<r.Start∨r.End>1000000000000000∨r.End - r.Start>(r.Data.length:Int)∨r.First<0∨r.Next<r.First∨r.Next>1000000000000000
instance (r:zB):Decidable (vB r):=inferInstanceAs (Decidable (_∧_))
instance (r:zB):Decidable (vG r):=inferInstanceAs (Decidable (_∨_))
theorem zC4 {r:zB} (h:¬vG r):zBg r:=by
 unfold vG at h
 exact ⟨by omega,by omega,by omega,by omega,by omega,by omega,by omega,by omega,by omega⟩
theorem zDw {r:zB} (g:zBg r):¬vG r:=by
 have:=g.n1;have:=g.n2;have:=g.s0;have:=g.se;have:=g.e1;have:=g.k1;have:=g.f0;have:=g.fn;have:=g.nx
 unfold vG;omega
def wF (r:zB):Prop:=(∀ x∈r.Data,yP x)∧yC r.Start∧yC r.End∧yC r.First∧yC r.Next∧r.Data.length≤4000000000000000000
def yI (r:zB):List (List Int)×Int:=if vB r then ([],1) else if vG r then ([],2) else
 let q:=v4 (xZ r)
 if q.2=false∨(q.1.length:Int)≠r.Next - r.First then ([],10) else (q.1,0)
theorem zC1 {r:zB} (g:zBg r):used r≤r.Data.length:=by
 have:=g.k1;have:=g.se;unfold used;omega
theorem kU (r:zB):(xZ r).length=used r:=nP _ _ _
theorem kJ {r:zB} (h:∀ x∈r.Data,yP x):∀ x∈xZ r,yP x:=zMg h
theorem zCV {r:zB} (h:wF r):kC 200000 r=some (yI r):=by
 obtain ⟨hd,i1,i2,i3,i4,i5⟩:=h
 unfold yC at i1 i2 i3 i4
 unfold kC yI
 by_cases hp:vB r
 ·rw [if_pos hp]
  unfold vB at hp
  rw [show ((r.Policy != 1)&&(r.Policy != 2))=true by rw [wW hp.1,wW hp.2];rfl,cond_true];rfl
 rw [if_neg hp]
 rw [show ((r.Policy != 1)&&(r.Policy != 2))=false by
  unfold vB at hp
  by_cases h1:r.Policy=1
  ·rw [xA h1];rfl
  ·rw [xA (a:=r.Policy) (b:=2) (by omega),Bool.and_false],cond_false]
 by_cases hb:vG r
 ·rw [if_pos hb]
  unfold vG at hb
  by_cases c1:(r.Data.length:Int)<16
  ·rw [yR c1,Bool.true_or,cond_true];rfl
  by_cases c2:(r.Data.length:Int)>65536
  ·rw [yR c2,Bool.or_true,cond_true];rfl
  rw [yH c1,yH c2,Bool.or_false,cond_false]
  by_cases c3:r.Start<0
  ·rw [yR c3,cond_true];rfl
  rw [yH c3,cond_false]
  by_cases c4:r.End<r.Start
  ·rw [yR c4,cond_true];rfl
  rw [yH c4,cond_false]
  by_cases c5:r.End>1000000000000000
  ·rw [yR c5,cond_true];rfl
  rw [yH c5,cond_false,w64 (by omega) (by omega)]
  by_cases c6:r.End - r.Start>(r.Data.length:Int)
  ·rw [yR c6,cond_true];rfl
  rw [yH c6,cond_false]
  by_cases c7:r.First<0
  ·rw [yR c7,cond_true];rfl
  rw [yH c7,cond_false]
  by_cases c8:r.Next<r.First
  ·rw [yR c8,cond_true];rfl
  rw [yH c8,cond_false,yR (by omega),cond_true];rfl
 rw [if_neg hb]
 have g:=zC4 hb
 have:=g.n1;have:=g.n2;have:=g.s0;have:=g.se;have:=g.e1;have:=g.k1;have:=g.f0;have:=g.fn;have:=g.nx
 rw [yH (by omega),yH (by omega),Bool.or_false,cond_false,yH (by omega),cond_false,yH (by omega),cond_false,yH (by omega),cond_false,w64 (by omega) (by omega),yH (by omega),cond_false,yH (by omega),cond_false,yH (by omega),cond_false,yH (by omega),cond_false,Option.bind_some]
 simp only
 have hu:=zC1 g
 rw [zDE g,Option.bind_some,zFZ (kJ hd) (by rw [kU];omega),Option.bind_some,w64 (by omega) (by omega)]
 generalize v4 (xZ r)=q
 cases h2:q.2
 ·rw [if_pos (.inl rfl)];rfl
 ·by_cases hc:(q.1.length:Int)≠r.Next - r.First
  ·rw [if_pos (.inr hc),wW hc];rfl
  ·rw [if_neg (by simp;omega),xA (by omega)];rfl
theorem zG3 {r:zB} (h:wF r):zAk 200000 r=some (yI r).2:=by
 obtain ⟨hd,i1,i2,i3,i4,i5⟩:=h
 unfold yC at i1 i2 i3 i4
 unfold zAk yI
 by_cases hp:vB r
 ·rw [if_pos hp]
  unfold vB at hp
  rw [show ((r.Policy != 1)&&(r.Policy != 2))=true by rw [wW hp.1,wW hp.2];rfl,cond_true]
 rw [if_neg hp]
 rw [show ((r.Policy != 1)&&(r.Policy != 2))=false by
  unfold vB at hp
  by_cases h1:r.Policy=1
  ·rw [xA h1];rfl
  ·rw [xA (a:=r.Policy) (b:=2) (by omega),Bool.and_false],cond_false]
 by_cases hb:vG r
 ·rw [if_pos hb]
  unfold vG at hb
  have:(decide ((r.Data.length:Int)<16)||(decide ((r.Data.length:Int)>65536)||(decide (r.Start<0)||(decide (r.Start>r.End)||(decide (r.End>1000000000000000)||(decide (zG (r.End - r.Start)>(r.Data.length:Int))||(decide (r.First<0)||(decide (r.First>r.Next)||decide (r.Next>1000000000000000)))))))))=true:=by
   simp only [Bool.or_eq_true,decide_eq_true_eq]
   by_cases c:r.Start<0∨r.Start>r.End∨r.End>1000000000000000
   ·omega
   ·rw [w64 (by omega) (by omega)];omega
  rw [this,cond_true]
 rw [if_neg hb]
 have g:=zC4 hb
 have:=g.n1;have:=g.n2;have:=g.s0;have:=g.se;have:=g.e1;have:=g.k1;have:=g.f0;have:=g.fn;have:=g.nx
 have hu:=zC1 g
 rw [w64 (x:=r.End - r.Start) (by omega) (by omega),yH (by omega),yH (by omega),yH (by omega),yH (by omega),yH (by omega),yH (by omega),yH (by omega),yH (by omega),yH (by omega)]
 simp only [Bool.or_false,cond_false]
 rw [zBd g,Option.bind_some,zBK (kJ hd) (by rw [kU];omega),Option.bind_some,w64 (by omega) (by omega)]
 generalize v4 (xZ r)=q
 cases h2:q.2
 ·rw [if_pos (.inl rfl)];rfl
 ·by_cases hc:(q.1.length:Int)≠r.Next - r.First
  ·rw [if_pos (.inr hc),wW hc];rfl
  ·rw [if_neg (by simp;omega),xA (by omega)];rfl
theorem q9 {r:zB} (h:(yI r).2=0):¬vB r∧zBg r∧v4 (xZ r)=((yI r).1,true)∧((yI r).1.length:Int)=r.Next - r.First:=by
 unfold yI at h ⊢
 by_cases hp:vB r
 ·rw [if_pos hp] at h;simp at h
 rw [if_neg hp] at h ⊢
 by_cases hb:vG r
 ·rw [if_pos hb] at h;simp at h
 rw [if_neg hb] at h ⊢
 simp only at h ⊢
 by_cases hc:(v4 (xZ r)).2=false∨((v4 (xZ r)).1.length:Int)≠r.Next - r.First
 ·rw [if_pos hc] at h;simp at h
 rw [if_neg hc] at h ⊢
 refine ⟨hp,zC4 hb,?_,by simp only;omega⟩
 have:(v4 (xZ r)).2=true:=by
  cases h2:(v4 (xZ r)).2
  ·exact absurd (.inl h2) hc
  ·rfl
 exact Prod.ext rfl this
theorem zFV {r:zB} (h:wF r):p9 200000 r=some (yI r).2:=by
 unfold p9;rw [zCV h];rfl
def wV (r:zB):List (List Int)×zB:=if (yI r).2≠0 then ([],r) else ((yI r).1,⟨r.Policy,r.Data,r.End,r.End,r.Next,r.Next⟩)
theorem zG0 {r:zB} (h:wF r):pL 200000 r=some (wV r):=by
 unfold pL wV
 rw [zCV h,Option.bind_some]
 by_cases hc:(yI r).2≠0
 ·rw [wW hc,if_pos hc];rfl
 ·rw [xA (by omega),if_neg hc];rfl
theorem zH9 {r:zB} (h:wF r):nV 200000 r=some (wV r):=by
 unfold nV wV
 rw [zG3 h,Option.bind_some]
 by_cases hc:(yI r).2≠0
 ·rw [wW hc,if_pos hc];rfl
 ·obtain ⟨_,g,e,_⟩:=q9 (r:=r) (by omega)
  have hu:=zC1 g
  have:=g.n2
  rw [xA (by omega),if_neg hc,cond_false,zBd g,Option.bind_some,zBK (kJ h.1) (by rw [kU];omega),Option.bind_some,e]
theorem zLl:∀ (m:Nat) (b:List Int),(∀ x∈b,yP x)→(recs m b).2=true→(recs m b).1.length≤b.length:=by
 intro m
 induction m with
 | zero=>intro b _ _;simp [recs]
 | succ m ih =>
  intro b hb h
  simp only [recs] at h ⊢
  by_cases he:b=[]
  ·rw [if_pos he];simp
  rw [if_neg he] at h ⊢
  obtain ⟨k1,k2,k3⟩:=j4 (i:=0) (u:=0) hb (by omega) (by omega) (by decide)
  generalize hq:vrd b 0 0=q at *
  by_cases hbad:q.2.2≠0∨q.1<0∨2000<q.1∨(b.length:Int)<q.2.1+q.1
  ·rw [if_pos hbad] at h;simp at h
  rw [if_neg hbad] at h ⊢
  have k2:=k2 (by omega)
  have:=ih _ (fun x hx=>hb x (List.mem_of_mem_drop hx)) h
  simp only [List.length_cons,List.length_drop] at this ⊢
  omega
theorem zFB {r:zB} (hd:∀ x∈r.Data,yP x):(yI r).1.length≤65536:=by
 by_cases hc:(yI r).2=0
 ·obtain ⟨_,g,e,_⟩:=q9 hc
  have hu:=zC1 g
  have:=g.n2
  unfold v4 at e
  by_cases h2:(recs (xZ r).length (xZ r)).2=true
  ·rw [if_pos h2] at e
   have:=zLl _ _ (kJ hd) h2
   rw [e,kU] at this
   simp only at this;omega
  ·rw [if_neg h2] at e;injection e with _ e;cases e
 ·have:(yI r).1=[]:=by
   unfold yI at hc ⊢
   split
   ·rfl
   ·split
    ·rfl
    ·simp only
     split
     ·rfl
     ·rename_i h1 h2 h3;rw [if_neg h1,if_neg h2] at hc;simp only at hc;rw [if_neg h3] at hc;exact absurd rfl hc
  rw [this];simp
end Go.Ab
