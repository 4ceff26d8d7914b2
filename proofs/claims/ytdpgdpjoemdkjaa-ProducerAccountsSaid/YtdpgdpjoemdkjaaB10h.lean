/- Plain laws of the functions w9 this seat's, laid anew from another seat's text. No conditions but those that the theorems name. -/
import Derived.Test.YtdpgdpjoemdkjaaP10xD
import Derived.Test.YtdpgdpjoemdkjaaB10a
namespace Go.Ab
open Go
set_option linter.unusedVariables false
def ctn (D:List Int) (s k:Nat):List Int:=(List.range k).map fun j=>D.getD ((s+j) % D.length) 0
theorem zAS (D:List Int) (s k:Nat):(ctn D s k).length=k:=by simp [ctn]
theorem zDd {D:List Int} {s k j:Nat} (h:j<k):(ctn D s k)[j]?=some (D.getD ((s+j) % D.length) 0):=by
 simp [ctn,h]
theorem zGs (D:List Int) (s k:Nat):ctn D s (k+1)=ctn D s k++[D.getD ((s+k) % D.length) 0]:=by
 simp [ctn,List.range_succ]
theorem zIx (D:List Int) (s i k:Nat):ctn D s (i+k)=ctn D s i++ctn D (s+i) k:=by
 induction k with
 | zero=>simp [ctn]
 | succ k ih=>rw [← Nat.add_assoc,zGs,ih,zGs,List.append_assoc,Nat.add_assoc]
theorem zMx {D:List Int} {s k:Nat} (h:∀ x∈D,yW x):∀ x∈ctn D s k,yW x:=by
 intro x hx
 simp only [ctn,List.mem_map] at hx
 obtain ⟨j,_,rfl⟩:=hx
 rw [List.getD_eq_getElem?_getD]
 cases hq:D[(s+j) % D.length]? with
 | none=>simp [yW]
 | some v=>exact h v (List.mem_of_getElem? hq)
theorem zDV {S n j:Nat} (hn:0<n) (hj:j<n):(S+j) % n=if S % n+j<n then S % n+j else S % n+j - n:=by
 have ha:=Nat.mod_lt S hn
 rw [← Nat.mod_add_mod]
 split
 ·exact Nat.mod_eq_of_lt (by assumption)
 ·rw [Nat.mod_eq_sub_mod (by omega),Nat.mod_eq_of_lt (by omega)]
theorem zK4 {D:List Int} {S k:Nat} (hn:0<D.length) (hk:k≤D.length) :
  cpy (cpy (List.replicate k 0) 0 k (D.drop (S % D.length))) (min (D.drop (S % D.length)).length (k - 0)) k D=ctn D S k:=by
 have ha:=Nat.mod_lt S hn
 apply List.ext_getElem?
 intro j
 have hl:(cpy (cpy (List.replicate k 0) 0 k (D.drop (S % D.length))) (min (D.drop (S % D.length)).length (k - 0)) k D).length=k:=by
  rw [jD (by omega) (by rw [jD (by omega) (by simp)];simp),jD (by omega) (by simp)];simp
 by_cases hj:j<k
 ·rw [zDd hj,zDV hn (by omega)]
  generalize hA:S % D.length=a at *
  have hm:min (D.drop a).length (k - 0)=min (D.length - a) k:=by simp
  rw [hm]
  generalize hM:min (D.length - a) k=m
  have hin:cpy (List.replicate k 0) 0 k (D.drop a)=(D.drop a).take m++List.replicate (k - m) 0:=by
   unfold cpy
   simp [hM]
  rw [hin]
  unfold cpy
  have e1:((D.drop a).take m++List.replicate (k - m) 0).take m=(D.drop a).take m:=by
   rw [List.take_left' (by simp;omega)]
  rw [e1,List.append_assoc]
  have l1:((D.drop a).take m).length=m:=by simp;omega
  by_cases hjm:j<m
  ·rw [List.getElem?_append_left (by omega),List.getElem?_take,if_pos hjm,List.getElem?_drop,if_pos (by omega),List.getD_eq_getElem?_getD,List.getElem?_eq_getElem (by omega)];rfl
  ·rw [List.getElem?_append_right (by omega),l1,List.getElem?_append_left (by simp;omega),List.getElem?_take,if_pos (by omega),if_neg (by omega),List.getD_eq_getElem?_getD,show a+j - D.length=j - m by omega,List.getElem?_eq_getElem (by omega)];rfl
 ·rw [List.getElem?_eq_none (by rw [hl];omega),List.getElem?_eq_none (by rw [zAS];omega)]
theorem zC4 {α:Type} (l:List α) (a:Int):sub l a (l.length:Int)=l.drop a.toNat:=by simp [sub]
structure zCb (r:zB):Prop where
 n1:16≤r.Data.length
 n2:r.Data.length≤65536
 s0:0≤r.Start
 se:r.Start≤r.End
 e1:r.End≤1000000000000000
 k1:r.End - r.Start≤(r.Data.length:Int)
 f0:0≤r.First
 fn:r.First≤r.Next
 nx:r.Next≤1000000000000000
def used (r:zB):Nat:=(r.End - r.Start).toNat
def x5 (r:zB):List Int:=ctn r.Data r.Start.toNat (used r)
theorem zHv (a b:Nat):z0 (a:Int) (b:Int)=((a % b:Nat):Int):=by
 rw [zLs (by omega)];exact (Int.natCast_emod a b).symm
theorem zEe {r:zB} (g:zCb r):jS r=some (x5 r):=by
 have:=g.n1;have:=g.n2;have:=g.s0;have:=g.se;have:=g.e1;have:=g.k1
 unfold jS x5 used
 obtain ⟨S,hS⟩:=Int.eq_ofNat_of_zero_le g.s0
 have hk:((r.End - r.Start).toNat:Int)=r.End - r.Start:=by omega
 rw [w64 (by omega) (by omega),hS,zHv]
 rw [hS] at hk
 generalize hK:(r.End - (S:Int)).toNat=k at *
 have hm:=Nat.mod_lt S (show 0<r.Data.length by omega)
 have e:sub r.Data ((S % r.Data.length:Nat):Int) (r.Data.length:Int)=r.Data.drop (S % r.Data.length):=by rw [zC4,Int.toNat_natCast]
 simp only [e]
 rw [yX (by omega),Option.bind_some,yX (by omega),Option.bind_some,yX (by omega),Option.bind_some,yX (by simp),Option.bind_some,yX (by omega),Option.bind_some,yX ⟨by omega,by rw [jD (by omega) (by simp)];simp⟩,Option.bind_some,zK4 (by omega) (by omega)]
 rfl
/- Records. -/
def recs:Nat→List Int→List (List Int)×Bool
 | 0,b=>([],b.isEmpty)
 | m+1,b=>if b=[] then ([],true) else
  let q:=vrd b 0 0
  if q.2.2≠0∨q.1<0∨2000<q.1∨(b.length:Int)<q.2.1+q.1 then ([],false) else
  let r:=recs m (b.drop (q.2.1+q.1).toNat)
  (sub b q.2.1 (q.2.1+q.1)::r.1,r.2)
def zC9 (row:List (List Int)) (q:List (List Int)×Bool):List (List Int)⊕(List (List Int)×Bool):=if q.2 then .inl (row++q.1) else .inr ([],false)
theorem zEM:∀ (n m:Nat) (b:List Int) (row:List (List Int)),(∀ x∈b,yW x)→b.length<n→b.length≤m→b.length≤100000→row.length+b.length≤200000→jT 200000 n b row=some (zC9 row (recs m b)):=by
 intro n
 induction n with
 | zero=>intro m b row _ h;omega
 | succ n ih =>
  intro m b row hb hn hm hl hr
  show uU 200000 _ b row=_
  unfold uU
  by_cases he:b=[]
  ·subst he
   rw [z7 (by simp),cond_false]
   cases m<;>simp [recs,zC9]
  have hpos:=List.length_pos_iff.2 he
  obtain ⟨m,rfl⟩:∃ k,m=k+1:=⟨m - 1,by omega⟩
  obtain ⟨k1,k2,k3⟩:=pN (i:=0) (u:=0) hb (by omega) (by omega) (by decide)
  rw [yH (by omega),cond_true,zCx hb (by omega) (by omega),Option.bind_some]
  simp only [recs,if_neg he]
  generalize hq:vrd b 0 0=q at *
  unfold z8 at k1
  by_cases hbad:q.2.2≠0∨q.1<0∨2000<q.1∨(b.length:Int)<q.2.1+q.1
  ·rw [if_pos hbad]
   have:((q.2.2 != 0)||(decide (q.1<0)||(decide (q.1>2000)||decide (zH (q.2.1+q.1)>(b.length:Int)))))=true:=by
    by_cases c0:q.2.2≠0
    ·rw [wA c0];rfl
    have k2:=k2 (by omega)
    by_cases c1:q.1<0
    ·rw [yH c1,Bool.true_or,Bool.or_true]
    by_cases c2:2000<q.1
    ·rw [yH (p:=q.1>2000) c2,Bool.true_or,Bool.or_true,Bool.or_true]
    rw [yH (p:=zH (q.2.1+q.1)>(b.length:Int)) (by rw [w64 (by omega) (by omega)];omega),Bool.or_true,Bool.or_true,Bool.or_true]
   rw [this,cond_true];rfl
  ·rw [if_neg hbad]
   have k2:=k2 (by omega)
   have:((q.2.2 != 0)||(decide (q.1<0)||(decide (q.1>2000)||decide (zH (q.2.1+q.1)>(b.length:Int)))))=false:=by
    rw [xS (by omega),z7 (by omega),z7 (by omega),z7 (by rw [w64 (by omega) (by omega)];omega)];rfl
   rw [this,cond_false,w64 (by omega) (by omega),yX (by omega),Option.bind_some,yX (by simp only [List.length_cons,List.length_nil];omega),Option.bind_some,yX (by omega),Option.bind_some,zC4,
    ih m _ _ (fun x hx=>hb x (List.mem_of_mem_drop hx)) (by simp;omega) (by simp;omega) (by simp;omega) (by simp;omega)]
   unfold zC9
   simp only
   split<;>simp
def uT (b:List Int):List (List Int)×Bool:=if (recs b.length b).2 then recs b.length b else ([],false)
theorem zF7 {b:List Int} (hb:∀ x∈b,yW x) (hl:b.length≤100000):nB 200000 b=some (uT b):=by
 unfold nB uT
 rw [zEM 200000 b.length b [] hb (by omega) (by omega) hl (by simp;omega),Option.bind_some]
 unfold zC9
 cases hh:(recs b.length b).2
 ·rfl
 ·simp only [if_true,List.nil_append];rw [← hh]
def tT (r:zB):Prop:=r.Policy≠1∧r.Policy≠2
def tG (r:zB):Prop:=(r.Data.length:Int)<16∨(r.Data.length:Int)>65536∨r.Start<0∨r.End<r.Start∨r.End>1000000000000000∨r.End - r.Start>(r.Data.length:Int)∨r.First<0∨r.Next<r.First∨r.Next>1000000000000000
instance (r:zB):Decidable (tT r):=inferInstanceAs (Decidable (_∧_))
instance (r:zB):Decidable (tG r):=inferInstanceAs (Decidable (_∨_))
theorem zE5 {r:zB} (h:¬tG r):zCb r:=by
 unfold tG at h
 exact ⟨by omega,by omega,by omega,by omega,by omega,by omega,by omega,by omega,by omega⟩
theorem zDY {r:zB} (g:zCb r):¬tG r:=by
 have:=g.n1;have:=g.n2;have:=g.s0;have:=g.se;have:=g.e1;have:=g.k1;have:=g.f0;have:=g.fn;have:=g.nx
 unfold tG;omega
def wG (r:zB):Prop:=(∀ x∈r.Data,yW x)∧z8 r.Start∧z8 r.End∧z8 r.First∧z8 r.Next∧r.Data.length≤4000000000000000000
def yF (r:zB):List (List Int)×Int:=if tT r then ([],1) else if tG r then ([],2) else
 let q:=uT (x5 r)
 if q.2=false∨(q.1.length:Int)≠r.Next - r.First then ([],10) else (q.1,0)
theorem zFv {r:zB} (g:zCb r):used r≤r.Data.length:=by
 have:=g.k1;have:=g.se;unfold used;omega
theorem zAb (r:zB):(x5 r).length=used r:=zAS _ _ _
theorem pX {r:zB} (h:∀ x∈r.Data,yW x):∀ x∈x5 r,yW x:=zMx h
theorem zBc {r:zB} (h:wG r):kD 200000 r=some (yF r):=by
 obtain ⟨hd,i1,i2,i3,i4,i5⟩:=h
 unfold z8 at i1 i2 i3 i4
 unfold kD yF
 by_cases hp:tT r
 ·rw [if_pos hp]
  unfold tT at hp
  rw [show ((r.Policy != 1)&&(r.Policy != 2))=true by rw [wA hp.1,wA hp.2];rfl,cond_true];rfl
 rw [if_neg hp]
 rw [show ((r.Policy != 1)&&(r.Policy != 2))=false by
  unfold tT at hp
  by_cases h1:r.Policy=1
  ·rw [xS h1];rfl
  ·rw [xS (a:=r.Policy) (b:=2) (by omega),Bool.and_false],cond_false]
 by_cases hb:tG r
 ·rw [if_pos hb]
  unfold tG at hb
  by_cases c1:(r.Data.length:Int)<16
  ·rw [yH c1,Bool.true_or,cond_true];rfl
  by_cases c2:(r.Data.length:Int)>65536
  ·rw [yH c2,Bool.or_true,cond_true];rfl
  rw [z7 c1,z7 c2,Bool.or_false,cond_false]
  by_cases c3:r.Start<0
  ·rw [yH c3,cond_true];rfl
  rw [z7 c3,cond_false]
  by_cases c4:r.End<r.Start
  ·rw [yH c4,cond_true];rfl
  rw [z7 c4,cond_false]
  by_cases c5:r.End>1000000000000000
  ·rw [yH c5,cond_true];rfl
  rw [z7 c5,cond_false,w64 (by omega) (by omega)]
  by_cases c6:r.End - r.Start>(r.Data.length:Int)
  ·rw [yH c6,cond_true];rfl
  rw [z7 c6,cond_false]
  by_cases c7:r.First<0
  ·rw [yH c7,cond_true];rfl
  rw [z7 c7,cond_false]
  by_cases c8:r.Next<r.First
  ·rw [yH c8,cond_true];rfl
  rw [z7 c8,cond_false,yH (by omega),cond_true];rfl
 rw [if_neg hb]
 have g:=zE5 hb
 have:=g.n1;have:=g.n2;have:=g.s0;have:=g.se;have:=g.e1;have:=g.k1;have:=g.f0;have:=g.fn;have:=g.nx
 rw [z7 (by omega),z7 (by omega),Bool.or_false,cond_false,z7 (by omega),cond_false,z7 (by omega),cond_false,z7 (by omega),cond_false,w64 (by omega) (by omega),z7 (by omega),cond_false,z7 (by omega),cond_false,z7 (by omega),cond_false,z7 (by omega),cond_false,Option.bind_some]
 simp only
 have hu:=zFv g
 rw [zEe g,Option.bind_some,zF7 (pX hd) (by rw [zAb];omega),Option.bind_some,w64 (by omega) (by omega)]
 generalize uT (x5 r)=q
 cases h2:q.2
 ·rw [if_pos (.inl rfl)];rfl
 ·by_cases hc:(q.1.length:Int)≠r.Next - r.First
  ·rw [if_pos (.inr hc),wA hc];rfl
  ·rw [if_neg (by simp;omega),xS (by omega)];rfl
theorem jO {r:zB} (h:(yF r).2=0):¬tT r∧zCb r∧uT (x5 r)=((yF r).1,true)∧((yF r).1.length:Int)=r.Next - r.First:=by
 unfold yF at h ⊢
 by_cases hp:tT r
 ·rw [if_pos hp] at h;simp at h
 rw [if_neg hp] at h ⊢
 by_cases hb:tG r
 ·rw [if_pos hb] at h;simp at h
 rw [if_neg hb] at h ⊢
 simp only at h ⊢
 by_cases hc:(uT (x5 r)).2=false∨((uT (x5 r)).1.length:Int)≠r.Next - r.First
 ·rw [if_pos hc] at h;simp at h
 rw [if_neg hc] at h ⊢
 refine ⟨hp,zE5 hb,?_,by simp only;omega⟩
 have:(uT (x5 r)).2=true:=by
  cases h2:(uT (x5 r)).2
  ·exact absurd (.inl h2) hc
  ·rfl
 exact Prod.ext rfl this
theorem zF4 {r:zB} (h:wG r):pY 200000 r=some (yF r).2:=by
 unfold pY;rw [zBc h];rfl
def v5 (r:zB):List (List Int)×zB:=if (yF r).2≠0 then ([],r) else ((yF r).1,⟨r.Policy,r.Data,r.End,r.End,r.Next,r.Next⟩)
theorem zCZ {r:zB} (h:wG r):pP 200000 r=some (v5 r):=by
 unfold pP v5
 rw [zBc h,Option.bind_some]
 by_cases hc:(yF r).2≠0
 ·rw [wA hc,if_pos hc];rfl
 ·rw [xS (by omega),if_neg hc];rfl
theorem zHo:∀ (m:Nat) (b:List Int),(∀ x∈b,yW x)→(recs m b).2=true→(recs m b).1.length≤b.length:=by
 intro m
 induction m with
 | zero=>intro b _ _;simp [recs]
 | succ m ih =>
  intro b hb h
  simp only [recs] at h ⊢
  by_cases he:b=[]
  ·rw [if_pos he];simp
  rw [if_neg he] at h ⊢
  obtain ⟨k1,k2,k3⟩:=pN (i:=0) (u:=0) hb (by omega) (by omega) (by decide)
  generalize hq:vrd b 0 0=q at *
  by_cases hbad:q.2.2≠0∨q.1<0∨2000<q.1∨(b.length:Int)<q.2.1+q.1
  ·rw [if_pos hbad] at h;simp at h
  rw [if_neg hbad] at h ⊢
  have k2:=k2 (by omega)
  have:=ih _ (fun x hx=>hb x (List.mem_of_mem_drop hx)) h
  simp only [List.length_cons,List.length_drop] at this ⊢
  omega
theorem zCv {r:zB} (hd:∀ x∈r.Data,yW x):(yF r).1.length≤65536:=by
 by_cases hc:(yF r).2=0
 ·obtain ⟨_,g,e,_⟩:=jO hc
  have hu:=zFv g
  have:=g.n2
  unfold uT at e
  by_cases h2:(recs (x5 r).length (x5 r)).2=true
  ·rw [if_pos h2] at e
   have:=zHo _ _ (pX hd) h2
   rw [e,zAb] at this
   simp only at this;omega
  ·rw [if_neg h2] at e;injection e with _ e;cases e
 ·have:(yF r).1=[]:=by
   unfold yF at hc ⊢
   split
   ·rfl
   ·split
    ·rfl
    ·simp only
     split
     ·rfl
     ·rename_i h1 h2 h3;rw [if_neg h1,if_neg h2] at hc;simp only at hc;rw [if_neg h3] at hc;exact absurd rfl hc
  rw [this];simp
end Go.Ab
