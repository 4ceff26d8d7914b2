/- Plain laws of the functions w9 this seat's, laid anew from another seat's text. No conditions but those that the theorems name. -/
import Derived.Test.YtdpgdpjoemdkjaaP10xD
import Derived.Test.YtdpgdpjoemdkjaaA35
namespace Go.Ab
open Go
set_option linter.unusedVariables false
def xB (n:Int):Int:=if n<0 then -2 * n - 1 else 2 * n
def zAy (u:Int):Int:=if u % 2=1 then -(u / 2) - 1 else u / 2
theorem zAF {n:Int} (h:z8 n):zC8 (xB n):=by unfold z8 at h;unfold zC8 xB;split<;>omega
theorem zI0 {u:Int} (h:zC8 u):z8 (zAy u):=by unfold zC8 at h;unfold z8 zAy;split<;>omega
theorem zJ5 (n:Int):zAy (xB n)=n:=by unfold zAy xB;split<;>split<;>omega
theorem zFQ {u:Int} (h:0≤u):xB (zAy u)=u:=by unfold zAy xB;split<;>split<;>omega
theorem zDT {u:Int} (h:zC8 u):jP u=some (zAy u):=by
 unfold zC8 at h
 unfold jP
 have e1:j3 .u64 u 1=u / 2:=by
  have:=zGt (k:=.u64) (x:=u) (s:=1) h.1 (by decide)
  simpa using this
 rw [e1,zJV h.1 h.2,w64 (x:=u / 2) (by omega) (by omega),w64 (x:=u % 2) (by omega) (by omega),w64 (x:=0 - u % 2) (by omega) (by omega)]
 unfold zAy
 split
 ·rename_i h1
  rw [h1,show (0:Int) - 1 = -1 from rfl,zHp (by omega) (by omega)]
 ·rename_i h1
  rw [show (0:Int) - u % 2=0 by omega,zF0 (by omega) (by omega)]
theorem zEz {n:Int} (h:z8 n):kB n=some (xB n):=by
 unfold z8 at h
 unfold kB
 have e2:j3 .i64 n 63=if n<0 then -1 else 0:=by
  unfold j3
  simp only [IntKind.bits]
  rw [Int.fdiv_eq_ediv_of_nonneg _ (by decide)]
  split<;>simp<;>omega
 rw [e2]
 unfold xB
 have e1:qM .u64 (vT n) 1=2 * vT n % 18446744073709551616:=by
  unfold qM
  have:=zAY (vT n * 2 ^ (min (1:Int).toNat IntKind.u64.bits))
  simp only [vT] at this ⊢
  rw [this];simp [IntKind.bits];omega
 rw [e1,zAY n]
 split
 ·rw [zAY (-1),show (-1:Int) % 18446744073709551616=18446744073709551615 by decide,zGc (by omega) (by omega)]
  congr 1;omega
 ·rw [zAY 0,show (0:Int) % 18446744073709551616=0 by decide,zGj (by omega) (by omega)]
  congr 1;omega
def vrd:List Int→Nat→Int→Int×Int×Int
 | [],_,_=>(0,0,8)
 | c::r,i,u =>
  if i=9∧1<c then (0,0,10) else
  if 128≤c then vrd r (i+1) (u+(c - 128) * 2 ^ (7 * i)) else
  if c=0∧0<i then (0,0,10) else (zAy (u+c * 2 ^ (7 * i)),(i:Int)+1,0)
theorem zHL (i:Nat):(2:Int) ^ (7 * (i+1))=128 * 2 ^ (7 * i):=by
 rw [Nat.mul_add,Int.pow_add];omega
theorem zA4 (i:Nat):(1:Int)≤2 ^ (7 * i):=by
 have:(0:Int)<2 ^ (7 * i):=Int.pow_pos (by decide)
 omega
theorem zLd {i:Nat} (h:i≤8):(2:Int) ^ (7 * i)≤72057594037927936:=by
 have:=Nat.pow_le_pow_right (n:=2) (by decide) (show 7 * i≤56 by omega)
 have h2:(((2 ^ (7 * i):Nat)):Int)=2 ^ (7 * i):=by simp
 have h3:(2:Nat) ^ 56=72057594037927936:=rfl
 omega
theorem zDf {a m q:Int} (h:a≤m) (hq:0≤q):a * q≤m * q:=Int.mul_le_mul_of_nonneg_right h hq
theorem zGu {i:Nat} {u a c:Int} (hi:i≤9) (h9:¬((i:Int)=9∧c>1)) (hu:u<2 ^ (7 * i)) (hu0:0≤u) (ha:0≤a) (ha1:a≤127) (hac:a≤c) :
  0≤a * 2 ^ (7 * i)∧u+a * 2 ^ (7 * i)≤18446744073709551615:=by
 have hp:=zA4 i
 refine ⟨Int.mul_nonneg ha (by omega),?_⟩
 rcases Nat.lt_or_ge i 9 with h | h
 ·have:=zLd (show i≤8 by omega)
  have:=zDf ha1 (show 0≤(2:Int) ^ (7 * i) by omega)
  omega
 ·obtain rfl:i=9:=by omega
  have:=zDf (show a≤1 by omega) (show 0≤(2:Int) ^ (7 * 9) by omega)
  omega
def zMP (e:Int×Int×Int) (o:Unit⊕(Int×Int×Int)):Int×Int×Int:=match o with | .inl _=>e | .inr q=>q
theorem zFa {F:Nat} {b:List Int} (hb:∀ x∈b,yW x) (hl:b.length≤4611686018427387904):∀ (n i:Nat) (u:Int),i≤9→0≤u→u<2 ^ (7 * i)→(b.drop i).length<n →
  ∃ o,tX F b n u i=some o∧zMP (0,0,8) o=vrd (b.drop i) i u:=by
 intro n
 induction n with
 | zero=>intro i u _ _ _ h;omega
 | succ n ih =>
  intro i u hi hu0 hu hn
  show ∃ o,tM F b (tX F b n) u i=some o∧_
  unfold tM
  rcases hd:b.drop i with _ | ⟨c,r⟩
  ·have:=tY hd
   simp (disch:=omega) only [z7,cond_false]
   exact ⟨_,rfl,rfl⟩
  ·have hlt:=qB hd
   have hc:yW c:=hb c (List.mem_of_mem_drop (hd ▸ List.mem_cons_self))
   unfold yW at hc
   have hp:=zA4 i
   rw [yH (show (i:Int)<(b.length:Int) by omega),cond_true]
   simp (disch:=omega) only [wL hd,Option.bind_some,Bool.cond_eq_ite,Bool.and_eq_true,beq_iff_eq,decide_eq_true_eq,vrd,w64,yX,zKU,zMR]
   have h7:(7:Int) * (i:Int)=((7 * i:Nat):Int):=by omega
   by_cases h9:(i:Int)=9∧c>1
   ·simp (disch:=omega) only [if_pos]
    exact ⟨_,rfl,rfl⟩
   rw [if_neg h9,if_neg (show ¬(i=9∧1<c) by omega)]
   have hm:0≤c % 128∧c % 128≤127∧c % 128≤c:=by omega
   obtain ⟨b1,b2⟩:=zGu hi h9 hu hu0 hm.1 hm.2.1 hm.2.2
   have e1:ior .u64 u (qM .u64 (c % 128) (7 * (i:Int)))=u+c % 128 * 2 ^ (7 * i):=by
    rw [h7,zLb (k:=.u64) hm.1 (by simp only [IntKind.bits];omega) (show c % 128 * 2 ^ (7 * i)<18446744073709551616 by omega),zIK (k:=.u64) hu0 hu hm.1 (show u+c % 128 * 2 ^ (7 * i)<18446744073709551616 by omega)]
   rw [e1]
   by_cases hc1:c≥128
   ·rw [show c % 128=c - 128 by omega]
    simp (disch:=omega) only [if_pos]
    rw [show c % 128=c - 128 by omega] at b1 b2
    have hi8:i≤8:=by omega
    have:=zHL i
    have h2:=zDf (show c - 128≤127 by omega) (show 0≤(2:Int) ^ (7 * i) by omega)
    have:=ih (i+1) (u+(c - 128) * 2 ^ (7 * i)) (by omega) (by omega) (by omega) (by rw [x8 hd];rw [hd] at hn;simp at hn;omega)
    rw [x8 hd] at this
    exact this
   ·rw [show c % 128=c by omega] at b1 b2 ⊢
    by_cases h0:c=0∧(i:Int)>0
    ·simp (disch:=omega) only [if_pos,if_neg]
     exact ⟨_,rfl,rfl⟩
    ·rw [zDT ⟨by omega,b2⟩]
     simp (disch:=omega) only [if_neg]
     exact ⟨_,rfl,rfl⟩
theorem zCx {F:Nat} {b:List Int} (hb:∀ x∈b,yW x) (hl:b.length≤4611686018427387904) (hF:b.length<F):pR F b=some (vrd b 0 0):=by
 obtain ⟨o,h1,h2⟩:=zFa (F:=F) hb hl F 0 0 (by omega) (by omega) (by decide) (by simpa using hF)
 unfold pR
 simp only [List.drop_zero] at h2
 rw [show tX F b F (0:Int) 0=some o from h1,← h2]
 cases o<;>rfl
def xI:Nat→Int→List Int
 | 0,u=>[u]
 | k+1,u=>if u<128 then [u] else (u % 128+128)::xI k (u / 128)
theorem qN (k:Nat) (u:Int):1≤(xI k u).length∧(xI k u).length≤k+1:=by
 induction k generalizing u with
 | zero=>simp [xI]
 | succ k ih =>
  simp only [xI];split
  ·simp
  ·have:=ih (u / 128);simp;omega
theorem zMj (k:Nat):(128:Int) ^ (k+1)=128 * 128 ^ k:=by rw [Int.pow_succ];omega
theorem zHi {k:Nat} {u:Int} (h:u<128 ^ (k+1+1)):u / 128<128 ^ (k+1):=by
 have:=zMj (k+1);omega
theorem zLU {k:Nat} {u:Int} (h0:0≤u) (h:u<128 ^ (k+1)):∀ x∈xI k u,yW x:=by
 induction k generalizing u with
 | zero=>intro x hx;simp [xI] at hx;subst hx;simp at h;unfold yW;omega
 | succ k ih =>
  intro x hx
  simp only [xI] at hx
  split at hx
  ·simp at hx;subst hx;unfold yW;omega
  ·rcases List.mem_cons.1 hx with rfl | hx
   ·unfold yW;omega
   ·exact ih (by omega) (zHi h) x hx
theorem zFk {u:Int} (h:u≤18446744073709551615):u<128 ^ (9+1):=by
 have:(128:Int) ^ (9+1)=1180591620717411303424:=by decide
 omega
theorem zE4 (p r:List Int) (x v:Int):(p++x::r).set p.length v=p++v::r:=by
 rw [List.set_append_right _ _ (Nat.le_refl _)];simp
theorem zFu (p r:List Int) (x:Int):(p++x::r)[p.length]?=some x:=by
 rw [List.getElem?_append_right (Nat.le_refl _)];simp
theorem zDk {F:Nat}:∀ (k n:Nat) (u:Int) (p r:List Int),0≤u→u≤18446744073709551615→u<128 ^ (k+1)→k<n→p.length+k+1=10→r.length=k+1 →
  ∃ (m:Nat) (l:List Int),vI F n (p.length:Int) u (p++r)=some (((m:Nat):Int),l)∧l.take m=p++xI k u∧m≤10∧l.length=10:=by
 intro k
 induction k with
 | zero =>
  intro n u p r h0 h1 h2 hn hp hr
  obtain ⟨n,rfl⟩:∃ m,n=m+1:=⟨n - 1,by omega⟩
  simp at h2
  match r,hr with
  | x::r,hr =>
   show ∃ (m:Nat) (l:List Int),wQ F (vI F n) (p.length:Int) u (p++x::r)=some (((m:Nat):Int),l)∧_
   unfold wQ
   rw [yX (by omega),Option.bind_some,Int.toNat_natCast,zFu,Option.bind_some,yH h2,cond_true,zDA h0 h1,zE4]
   simp (disch:=omega) only [w64,wu8]
   refine ⟨p.length+1,_,rfl,?_,by omega,by simp only [List.length_append,List.length_cons] at hr ⊢;omega⟩
   rw [show u % 128=u by omega,show p++u::r=(p++[u])++r by simp,List.take_left' (by simp)]
   rfl
 | succ k ih =>
  intro n u p r h0 h1 h2 hn hp hr
  obtain ⟨n,rfl⟩:∃ m,n=m+1:=⟨n - 1,by omega⟩
  match r,hr with
  | x::r,hr =>
   show ∃ (m:Nat) (l:List Int),wQ F (vI F n) (p.length:Int) u (p++x::r)=some (((m:Nat):Int),l)∧_
   unfold wQ
   rw [yX (by omega),Option.bind_some,Int.toNat_natCast,zFu,Option.bind_some,zDA h0 h1,zE4]
   by_cases hu:u<128
   ·rw [yH hu,cond_true]
    simp (disch:=omega) only [w64,wu8]
    refine ⟨p.length+1,_,rfl,?_,by omega,by simp only [List.length_append,List.length_cons] at hr ⊢;omega⟩
    rw [show u % 128=u by omega,show p++u::r=(p++[u])++r by simp,List.take_left' (by simp)]
    simp [xI,hu]
   ·rw [z7 hu,cond_false]
    simp (disch:=omega) only [w64,wu8]
    rw [show (p.length:Int)+1 - 1=(p.length:Int) by omega,yX (by omega),Option.bind_some,Int.toNat_natCast,zFu,Option.bind_some,Option.bind_some,Option.bind_some,zE4,zLL (by omega) (by omega)]
    have e1:j3 .u64 u 7=u / 128:=by
     have:=zGt (k:=.u64) (x:=u) (s:=7) h0 (by decide)
     simpa using this
    rw [e1,show p++(u % 128+128)::r=(p++[u % 128+128])++r by simp]
    obtain ⟨m,l,q1,q2,q3,q4⟩:=ih n (u / 128) (p++[u % 128+128]) r (by omega) (by omega) (zHi h2) (by omega) (by simp;omega) (by simpa using hr)
    refine ⟨m,l,?_,?_,q3,q4⟩
    ·rw [← q1];simp
    ·rw [q2];simp only [xI,if_neg hu,List.append_assoc,List.singleton_append]
theorem zLW {α:Type} (l:List α):sub l 0 (l.length:Int)=l:=by simp [sub]
theorem v9 {F:Nat} {b:List Int} {n:Int} (hn:z8 n) (hl:b.length≤140737488355000) (hF:9<F):y5 F b n=some (b++xI 9 (xB n)):=by
 have hz:=zAF hn
 unfold y5
 obtain ⟨m,l,e1,e2,e3,e4⟩:=zDk (F:=F) 9 F (xB n) [] (List.replicate 10 0) hz.1 hz.2 (zFk hz.2) hF (by rfl) (by rfl)
 rw [List.nil_append] at e1 e2
 rw [zEz hn,Option.bind_some,show vI F F 0 (xB n) (List.replicate 10 0)=some ((m:Int),l) from e1,Option.bind_some]
 have hv:=(qN 9 (xB n)).2
 simp only [Int.toNat_natCast,List.drop_zero,zLW,e2]
 have hv1:=(qN 9 (xB n)).1
 rw [yX (by omega),Option.bind_some,yX (by omega),Option.bind_some,yX (by omega),Option.bind_some,yX (.inl hv1),Option.bind_some]
theorem pN {l:List Int} {i:Nat} {u:Int} (hl:∀ x∈l,yW x) (hi:i≤9) (h0:0≤u) (h1:u<2 ^ (7 * i)) :
  z8 (vrd l i u).1∧((vrd l i u).2.2=0→(i:Int)<(vrd l i u).2.1∧(vrd l i u).2.1≤10∧(vrd l i u).2.1≤i+l.length)∧((vrd l i u).2.2=0∨(vrd l i u).1=0∧(vrd l i u).2.1=0∧((vrd l i u).2.2=8∨(vrd l i u).2.2=10)):=by
 induction l generalizing i u with
 | nil=>simp [vrd,z8]
 | cons c r ih =>
  have hc:yW c:=hl c (by simp)
  unfold yW at hc
  have hp:=zA4 i
  simp only [vrd]
  by_cases h9:i=9∧1<c
  ·rw [if_pos h9];simp [z8]
  rw [if_neg h9]
  obtain ⟨b1,b2⟩:=zGu (c:=c) (a:=c % 128) hi (by omega) h1 h0 (by omega) (by omega) (by omega)
  by_cases hc1:128≤c
  ·rw [if_pos hc1]
   have:=zHL i
   have h2:=zDf (show c - 128≤127 by omega) (show 0≤(2:Int) ^ (7 * i) by omega)
   have h3:0≤(c - 128) * (2:Int) ^ (7 * i):=Int.mul_nonneg (by omega) (by omega)
   obtain ⟨k1,k2,k3⟩:=ih (i:=i+1) (u:=u+(c - 128) * 2 ^ (7 * i)) (fun x hx=>hl x (by simp [hx])) (by omega) (by omega) (by omega)
   refine ⟨k1,fun h=>?_,k3⟩
   have:=k2 h
   simp only [List.length_cons];omega
  ·rw [if_neg hc1]
   by_cases h0:c=0∧0<i
   ·rw [if_pos h0];simp [z8]
   ·rw [if_neg h0]
    rw [show c % 128=c by omega] at b1 b2
    refine ⟨zI0 ⟨by omega,b2⟩,fun _=>?_,.inl rfl⟩
    simp only [List.length_cons];omega
theorem zLD {k:Nat} {i:Nat} {u v:Int} {more:List Int} (hi:i+k≤9) (hv0:0≤v) (hv:v<128 ^ (k+1)) (hz:v=0→i=0) (hb:u+v * 2 ^ (7 * i)≤18446744073709551615) (h0:0≤u) :
  vrd (xI k v++more) i u=(zAy (u+v * 2 ^ (7 * i)),((i+(xI k v).length:Nat):Int),0):=by
 have last:∀ {i:Nat} {u v:Int} {more:List Int},i≤9→0≤v→v<128→(v=0→i=0)→u+v * 2 ^ (7 * i)≤18446744073709551615→0≤u→vrd (v::more) i u=(zAy (u+v * 2 ^ (7 * i)),((i+1:Nat):Int),0):=by
  intro i u v more hi hv0 hv hz hb h0
  simp only [vrd]
  have h9:¬(i=9∧1<v):=by
   rintro ⟨rfl,h⟩
   have:=zDf (show 2≤v by omega) (show (0:Int)≤2 ^ (7 * 9) by decide)
   omega
  rw [if_neg h9,if_neg (by omega),if_neg (by omega)]
  rfl
 induction k generalizing i u v with
 | zero=>exact last (by omega) hv0 (by simpa using hv) hz hb h0
 | succ k ih =>
  simp only [xI]
  by_cases hs:v<128
  ·rw [if_pos hs];exact last (by omega) hv0 hs hz hb h0
  ·rw [if_neg hs,List.cons_append]
   simp only [vrd]
   rw [if_neg (by omega),if_pos (by omega),show v % 128+128 - 128=v % 128 by omega]
   have e:u+v % 128 * 2 ^ (7 * i)+v / 128 * 2 ^ (7 * (i+1))=u+v * 2 ^ (7 * i):=by
    have h1:v * (2:Int) ^ (7 * i)=(v % 128+128 * (v / 128)) * 2 ^ (7 * i):=by rw [Int.emod_add_mul_ediv]
    rw [h1,zHL,Int.add_mul,Int.add_assoc,← Int.mul_assoc,Int.mul_comm (v / 128) 128]
   have hp:(0:Int)≤v % 128 * 2 ^ (7 * i):=Int.mul_nonneg (by omega) (by have:=zA4 i;omega)
   rw [ih (i:=i+1) (u:=u+v % 128 * 2 ^ (7 * i)) (v:=v / 128) (by omega) (by omega) (zHi hv) (by omega) (by rw [e];exact hb) (by omega),e]
   simp only [List.length_cons]
   congr 3;omega
theorem zEk {l:List Int} {i:Nat} {u:Int} (hl:∀ x∈l,yW x) (hi:i≤9) (h0:0≤u) (h1:u<2 ^ (7 * i)) (he:(vrd l i u).2.2=0) :
  ∃ v,0≤v∧(v=0→i=0)∧u+v * 2 ^ (7 * i)≤18446744073709551615∧(vrd l i u).1=zAy (u+v * 2 ^ (7 * i))∧l.take ((vrd l i u).2.1 - i).toNat=xI (9 - i) v:=by
 induction l generalizing i u with
 | nil=>simp [vrd] at he
 | cons c r ih =>
  have hc:yW c:=hl c (by simp)
  unfold yW at hc
  have hp:=zA4 i
  simp only [vrd] at he ⊢
  by_cases h9:i=9∧1<c
  ·rw [if_pos h9] at he;simp at he
  rw [if_neg h9] at he ⊢
  obtain ⟨b1,b2⟩:=zGu (c:=c) (a:=c % 128) hi (by omega) h1 h0 (by omega) (by omega) (by omega)
  by_cases hc1:128≤c
  ·rw [if_pos hc1] at he ⊢
   have:=zHL i
   have h2:=zDf (show c - 128≤127 by omega) (show 0≤(2:Int) ^ (7 * i) by omega)
   have h3:0≤(c - 128) * (2:Int) ^ (7 * i):=Int.mul_nonneg (by omega) (by omega)
   have hr:∀ x∈r,yW x:=fun x hx=>hl x (by simp [hx])
   obtain ⟨v,k1,k2,k3,k4,k5⟩:=ih (i:=i+1) (u:=u+(c - 128) * 2 ^ (7 * i)) hr (by omega) (by omega) (by omega) he
   obtain ⟨_,r2,_⟩:=pN (i:=i+1) (u:=u+(c - 128) * 2 ^ (7 * i)) hr (by omega) (by omega) (by omega)
   have r2:=r2 he
   have e:u+(c - 128+128 * v) * 2 ^ (7 * i)=u+(c - 128) * 2 ^ (7 * i)+v * 2 ^ (7 * (i+1)):=by
    rw [zHL,Int.add_mul,Int.add_assoc,← Int.mul_assoc,Int.mul_comm v 128]
   refine ⟨c - 128+128 * v,by omega,by omega,by rw [e];exact k3,by rw [e];exact k4,?_⟩
   generalize vrd r (i+1) (u+(c - 128) * 2 ^ (7 * i))=q at *
   obtain ⟨m,hm⟩:∃ m:Nat,q.2.1=i+1+m:=⟨(q.2.1 - (i+1)).toNat,by omega⟩
   rw [hm] at k5 ⊢
   rw [show ((i:Int)+1+m - i).toNat=m+1 by omega,List.take_succ_cons]
   rw [show ((i:Int)+1+m - ((i+1:Nat):Int)).toNat=m by omega] at k5
   rw [k5,show 9 - i=(9 - (i+1))+1 by omega]
   simp only [xI]
   rw [if_neg (by omega)]
   congr 1
   ·omega
   ·congr 1;omega
  ·rw [if_neg hc1] at he ⊢
   by_cases hz:c=0∧0<i
   ·rw [if_pos hz] at he;simp at he
   ·rw [if_neg hz] at he ⊢
    rw [show c % 128=c by omega] at b1 b2
    refine ⟨c,by omega,by omega,b2,rfl,?_⟩
    simp only
    rw [show ((i:Int)+1 - i).toNat=1 by omega]
    show [c]=_
    rcases hk:9 - i with _ | k
    ·rfl
    ·simp only [xI];rw [if_pos (by omega)]
theorem zIJ {n:Int} {more:List Int} (hn:z8 n):vrd (xI 9 (xB n)++more) 0 0=(n,((xI 9 (xB n)).length:Int),0):=by
 have hz:=zAF hn
 have:=zLD (k:=9) (i:=0) (u:=0) (v:=xB n) (more:=more) (by omega) hz.1 (zFk hz.2) (fun _=>rfl) (by have:=hz.2;simpa using this) (by omega)
 rw [this]
 simp [zJ5]
theorem zGC {n:Int} (hn:z8 n):∀ x∈xI 9 (xB n),yW x:=zLU (zAF hn).1 (zFk (zAF hn).2)
theorem zMn {l m:List Int} (hl:∀ x∈l,yW x) (hm:∀ x∈m,yW x):∀ x∈l++m,yW x:=by
 intro x hx;rcases List.mem_append.1 hx with h | h
 ·exact hl x h
 ·exact hm x h
end Go.Ab
