/- Plain laws of the functions w6 this seat's, laid anew from another seat's text. No conditions but those that the theorems name. -/
import Derived.Test.YtoeengmnmhhpgaaP15xD
import Derived.Test.YtoeengmnmhhpgaaA32
namespace Go.Ab
open Go
set_option linter.unusedVariables false
def wB (n:Int):Int:=if n<0 then -2 * n - 1 else 2 * n
def aI (u:Int):Int:=if u % 2=1 then -(u / 2) - 1 else u / 2
theorem D5 {n:Int} (h:yU n):mZ (wB n):=by unfold yU at h;unfold mZ wB;split<;>omega
theorem YN {u:Int} (h:mZ u):yU (aI u):=by unfold mZ at h;unfold yU aI;split<;>omega
theorem XW (n:Int):aI (wB n)=n:=by unfold aI wB;split<;>split<;>omega
theorem zDs {u:Int} (h:0≤u):wB (aI u)=u:=by unfold aI wB;split<;>split<;>omega
theorem zBS {u:Int} (h:mZ u):DX u=some (aI u):=by
 unfold mZ at h
 unfold DX
 have e1:qI .u64 u 1=u / 2:=by
  have:=LB (k:=.u64) (x:=u) (s:=1) h.1 (by decide)
  simpa using this
 rw [e1,zCI h.1 h.2,w64 (x:=u / 2) (by omega) (by omega),w64 (x:=u % 2) (by omega) (by omega),w64 (x:=0 - u % 2) (by omega) (by omega)]
 unfold aI
 split
 ·rename_i h1
  rw [h1,show (0:Int) - 1 = -1 from rfl,ZV (by omega) (by omega)]
 ·rename_i h1
  rw [show (0:Int) - u % 2=0 by omega,zDU (by omega) (by omega)]
theorem zAu {n:Int} (h:yU n):B7 n=some (wB n):=by
 unfold yU at h
 unfold B7
 have e2:qI .i64 n 63=if n<0 then -1 else 0:=by
  unfold qI
  simp only [IntKind.bits]
  rw [Int.fdiv_eq_ediv_of_nonneg _ (by decide)]
  split<;>simp<;>omega
 rw [e2]
 unfold wB
 have e1:pP .u64 (jO n) 1=2 * jO n % 18446744073709551616:=by
  unfold pP
  have:=AG (jO n * 2 ^ (min (1:Int).toNat IntKind.u64.bits))
  simp only [jO] at this ⊢
  rw [this];simp [IntKind.bits];omega
 rw [e1,AG n]
 split
 ·rw [AG (-1),show (-1:Int) % 18446744073709551616=18446744073709551615 by decide,V6 (by omega) (by omega)]
  congr 1;omega
 ·rw [AG 0,show (0:Int) % 18446744073709551616=0 by decide,zD1 (by omega) (by omega)]
  congr 1;omega
def vrd:List Int→Nat→Int→Int×Int×Int
 | [],_,_=>(0,0,8)
 | c::r,i,u =>
  if i=9∧1<c then (0,0,10) else
  if 128≤c then vrd r (i+1) (u+(c - 128) * 2 ^ (7 * i)) else
  if c=0∧0<i then (0,0,10) else (aI (u+c * 2 ^ (7 * i)),(i:Int)+1,0)
theorem AF (i:Nat):(2:Int) ^ (7 * (i+1))=128 * 2 ^ (7 * i):=by
 rw [Nat.mul_add,Int.pow_add];omega
theorem AR (i:Nat):(1:Int)≤2 ^ (7 * i):=by
 have:(0:Int)<2 ^ (7 * i):=Int.pow_pos (by decide)
 omega
theorem YH {i:Nat} (h:i≤8):(2:Int) ^ (7 * i)≤72057594037927936:=by
 have:=Nat.pow_le_pow_right (n:=2) (by decide) (show 7 * i≤56 by omega)
 have h2:(((2 ^ (7 * i):Nat)):Int)=2 ^ (7 * i):=by simp
 have h3:(2:Nat) ^ 56=72057594037927936:=rfl
 omega
theorem mJ {a m q:Int} (h:a≤m) (hq:0≤q):a * q≤m * q:=Int.mul_le_mul_of_nonneg_right h hq
theorem LL {i:Nat} {u a c:Int} (hi:i≤9) (h9:¬((i:Int)=9∧c>1)) (hu:u<2 ^ (7 * i)) (hu0:0≤u) (ha:0≤a) (ha1:a≤127) (hac:a≤c) :
  0≤a * 2 ^ (7 * i)∧u+a * 2 ^ (7 * i)≤18446744073709551615:=by
 have hp:=AR i
 refine ⟨Int.mul_nonneg ha (by omega),?_⟩
 rcases zlg i 9 with h | h
 ·have:=YH (show i≤8 by omega)
  have:=mJ ha1 (show 0≤(2:Int) ^ (7 * i) by omega)
  omega
 ·obtain rfl:i=9:=by omega
  have:=mJ (show a≤1 by omega) (show 0≤(2:Int) ^ (7 * 9) by omega)
  omega
def XC (e:Int×Int×Int) (o:Unit⊕(Int×Int×Int)):Int×Int×Int:=match o with | .inl _=>e | .inr q=>q
theorem zAK {F:Nat} {b:List Int} (hb:∀ x∈b,xO x) (hl:b.length≤4611686018427387904):∀ (n i:Nat) (u:Int),i≤9→0≤u→u<2 ^ (7 * i)→(b.drop i).length<n →
  ∃ o,fW F b n u i=some o∧XC (0,0,8) o=vrd (b.drop i) i u:=by
 intro n
 induction n with
 | zero=>intro i u _ _ _ h;omega
 | succ n ih =>
  intro i u hi hu0 hu hn
  show ∃ o,BN F b (fW F b n) u i=some o∧_
  unfold BN
  rcases hd:b.drop i with _ | ⟨c,r⟩
  ·have:=jL hd
   simp (disch:=omega) only [yO,cond_false]
   exact ⟨_,rfl,rfl⟩
  ·have hlt:=jG hd
   have hc:xO c:=hb c (List.mem_of_mem_drop (hd ▸ List.mem_cons_self))
   unfold xO at hc
   have hp:=AR i
   rw [yR (show (i:Int)<(b.length:Int) by omega),cond_true]
   simp (disch:=omega) only [w9 hd,zbs,Bool.cond_eq_ite,zba,beq_iff_eq,decide_eq_true_eq,vrd,w64,xY,zBU,zAy]
   have h7:(7:Int) * (i:Int)=((7 * i:Nat):Int):=by omega
   by_cases h9:(i:Int)=9∧c>1
   ·simp (disch:=omega) only [if_pos]
    exact ⟨_,rfl,rfl⟩
   rw [if_neg h9,if_neg (show ¬(i=9∧1<c) by omega)]
   have hm:0≤c % 128∧c % 128≤127∧c % 128≤c:=by omega
   obtain ⟨b1,b2⟩:=LL hi h9 hu hu0 hm.1 hm.2.1 hm.2.2
   have e1:ior .u64 u (pP .u64 (c % 128) (7 * (i:Int)))=u+c % 128 * 2 ^ (7 * i):=by
    rw [h7,XA (k:=.u64) hm.1 (by simp only [IntKind.bits];omega) (show c % 128 * 2 ^ (7 * i)<18446744073709551616 by omega),OB (k:=.u64) hu0 hu hm.1 (show u+c % 128 * 2 ^ (7 * i)<18446744073709551616 by omega)]
   rw [e1]
   by_cases hc1:c≥128
   ·rw [show c % 128=c - 128 by omega]
    simp (disch:=omega) only [if_pos]
    rw [show c % 128=c - 128 by omega] at b1 b2
    have hi8:i≤8:=by omega
    have:=AF i
    have h2:=mJ (show c - 128≤127 by omega) (show 0≤(2:Int) ^ (7 * i) by omega)
    have:=ih (i+1) (u+(c - 128) * 2 ^ (7 * i)) (by omega) (by omega) (by omega) (by rw [vQ hd];rw [hd] at hn;simp at hn;omega)
    rw [vQ hd] at this
    exact this
   ·rw [show c % 128=c by omega] at b1 b2 ⊢
    by_cases h0:c=0∧(i:Int)>0
    ·simp (disch:=omega) only [if_pos,if_neg]
     exact ⟨_,rfl,rfl⟩
    ·rw [zBS ⟨by omega,b2⟩]
     simp (disch:=omega) only [if_neg]
     exact ⟨_,rfl,rfl⟩
theorem oH {F:Nat} {b:List Int} (hb:∀ x∈b,xO x) (hl:b.length≤4611686018427387904) (hF:b.length<F):bL F b=some (vrd b 0 0):=by
 obtain ⟨o,h1,h2⟩:=zAK (F:=F) hb hl F 0 0 (by omega) (by omega) (by decide) (by simpa using hF)
 unfold bL
 simp only [zdz] at h2
 rw [show fW F b F (0:Int) 0=some o from h1,← h2]
 cases o<;>rfl
def wI:Nat→Int→List Int
 | 0,u=>[u]
 | k+1,u=>if u<128 then [u] else (u % 128+128)::wI k (u / 128)
theorem nH (k:Nat) (u:Int):1≤(wI k u).length∧(wI k u).length≤k+1:=by
 induction k generalizing u with
 | zero=>simp [wI]
 | succ k ih =>
  simp only [wI];split
  ·simp
  ·have:=ih (u / 128);simp;omega
theorem zDC (k:Nat):(128:Int) ^ (k+1)=128 * 128 ^ k:=by rw [Int.pow_succ];omega
theorem J6 {k:Nat} {u:Int} (h:u<128 ^ (k+1+1)):u / 128<128 ^ (k+1):=by
 have:=zDC (k+1);omega
theorem zC5 {k:Nat} {u:Int} (h0:0≤u) (h:u<128 ^ (k+1)):∀ x∈wI k u,xO x:=by
 induction k generalizing u with
 | zero=>intro x hx;simp [wI] at hx;subst hx;simp at h;unfold xO;omega
 | succ k ih =>
  intro x hx
  simp only [wI] at hx
  split at hx
  ·simp at hx;subst hx;unfold xO;omega
  ·rcases List.mem_cons.1 hx with rfl | hx
   ·unfold xO;omega
   ·exact ih (by omega) (J6 h) x hx
theorem NL {u:Int} (h:u≤18446744073709551615):u<128 ^ (9+1):=by
 have:(128:Int) ^ (9+1)=1180591620717411303424:=by decide
 omega
theorem NA (p r:List Int) (x v:Int):(p++x::r).set p.length v=p++v::r:=by
 rw [List.set_append_right _ _ (Nat.le_refl _)];simp
theorem NN (p r:List Int) (x:Int):(p++x::r)[p.length]?=some x:=by
 rw [List.getElem?_append_right (Nat.le_refl _)];simp
theorem YW {F:Nat}:∀ (k n:Nat) (u:Int) (p r:List Int),0≤u→u≤18446744073709551615→u<128 ^ (k+1)→k<n→p.length+k+1=10→r.length=k+1 →
  ∃ (m:Nat) (l:List Int),dH F n (p.length:Int) u (p++r)=some (((m:Nat):Int),l)∧l.take m=p++wI k u∧m≤10∧l.length=10:=by
 intro k
 induction k with
 | zero =>
  intro n u p r h0 h1 h2 hn hp hr
  obtain ⟨n,rfl⟩:∃ m,n=m+1:=⟨n - 1,by omega⟩
  simp at h2
  match r,hr with
  | x::r,hr =>
   show ∃ (m:Nat) (l:List Int),iE F (dH F n) (p.length:Int) u (p++x::r)=some (((m:Nat):Int),l)∧_
   unfold iE
   rw [xY (by omega),zbs,Int.toNat_natCast,NN,zbs,yR h2,cond_true,QO h0 h1,NA]
   simp (disch:=omega) only [w64,wu8]
   refine ⟨p.length+1,_,rfl,?_,by omega,by simp only [zla,zlc] at hr ⊢;omega⟩
   rw [show u % 128=u by omega,show p++u::r=(p++[u])++r by simp,List.take_left' (by simp)]
   rfl
 | succ k ih =>
  intro n u p r h0 h1 h2 hn hp hr
  obtain ⟨n,rfl⟩:∃ m,n=m+1:=⟨n - 1,by omega⟩
  match r,hr with
  | x::r,hr =>
   show ∃ (m:Nat) (l:List Int),iE F (dH F n) (p.length:Int) u (p++x::r)=some (((m:Nat):Int),l)∧_
   unfold iE
   rw [xY (by omega),zbs,Int.toNat_natCast,NN,zbs,QO h0 h1,NA]
   by_cases hu:u<128
   ·rw [yR hu,cond_true]
    simp (disch:=omega) only [w64,wu8]
    refine ⟨p.length+1,_,rfl,?_,by omega,by simp only [zla,zlc] at hr ⊢;omega⟩
    rw [show u % 128=u by omega,show p++u::r=(p++[u])++r by simp,List.take_left' (by simp)]
    simp [wI,hu]
   ·rw [yO hu,cond_false]
    simp (disch:=omega) only [w64,wu8]
    rw [show (p.length:Int)+1 - 1=(p.length:Int) by omega,xY (by omega),zbs,Int.toNat_natCast,NN,zbs,zbs,zbs,NA,zDN (by omega) (by omega)]
    have e1:qI .u64 u 7=u / 128:=by
     have:=LB (k:=.u64) (x:=u) (s:=7) h0 (by decide)
     simpa using this
    rw [e1,show p++(u % 128+128)::r=(p++[u % 128+128])++r by simp]
    obtain ⟨m,l,q1,q2,q3,q4⟩:=ih n (u / 128) (p++[u % 128+128]) r (by omega) (by omega) (J6 h2) (by omega) (by simp;omega) (by simpa using hr)
    refine ⟨m,l,?_,?_,q3,q4⟩
    ·rw [← q1];simp
    ·rw [q2];simp only [wI,if_neg hu,List.append_assoc,List.singleton_append]
theorem zA0 {α:Type} (l:List α):sub l 0 (l.length:Int)=l:=by simp [sub]
theorem jV {F:Nat} {b:List Int} {n:Int} (hn:yU n) (hl:b.length≤140737488355000) (hF:9<F):u0 F b n=some (b++wI 9 (wB n)):=by
 have hz:=D5 hn
 unfold u0
 obtain ⟨m,l,e1,e2,e3,e4⟩:=YW (F:=F) 9 F (wB n) [] (List.replicate 10 0) hz.1 hz.2 (NL hz.2) hF (by rfl) (by rfl)
 rw [List.nil_append] at e1 e2
 rw [zAu hn,zbs,show dH F F 0 (wB n) (List.replicate 10 0)=some ((m:Int),l) from e1,zbs]
 have hv:=(nH 9 (wB n)).2
 simp only [Int.toNat_natCast,zdz,zA0,e2]
 have hv1:=(nH 9 (wB n)).1
 rw [xY (by omega),zbs,xY (by omega),zbs,xY (by omega),zbs,xY (.inl hv1),zbs]
theorem dF {l:List Int} {i:Nat} {u:Int} (hl:∀ x∈l,xO x) (hi:i≤9) (h0:0≤u) (h1:u<2 ^ (7 * i)) :
  yU (vrd l i u).1∧((vrd l i u).2.2=0→(i:Int)<(vrd l i u).2.1∧(vrd l i u).2.1≤10∧(vrd l i u).2.1≤i+l.length)∧((vrd l i u).2.2=0∨(vrd l i u).1=0∧(vrd l i u).2.1=0∧((vrd l i u).2.2=8∨(vrd l i u).2.2=10)):=by
 induction l generalizing i u with
 | nil=>simp [vrd,yU]
 | cons c r ih =>
  have hc:xO c:=hl c (by simp)
  unfold xO at hc
  have hp:=AR i
  simp only [vrd]
  by_cases h9:i=9∧1<c
  ·rw [if_pos h9];simp [yU]
  rw [if_neg h9]
  obtain ⟨b1,b2⟩:=LL (c:=c) (a:=c % 128) hi (by omega) h1 h0 (by omega) (by omega) (by omega)
  by_cases hc1:128≤c
  ·rw [if_pos hc1]
   have:=AF i
   have h2:=mJ (show c - 128≤127 by omega) (show 0≤(2:Int) ^ (7 * i) by omega)
   have h3:0≤(c - 128) * (2:Int) ^ (7 * i):=Int.mul_nonneg (by omega) (by omega)
   obtain ⟨k1,k2,k3⟩:=ih (i:=i+1) (u:=u+(c - 128) * 2 ^ (7 * i)) (fun x hx=>hl x (by simp [hx])) (by omega) (by omega) (by omega)
   refine ⟨k1,fun h=>?_,k3⟩
   have:=k2 h
   simp only [zlc];omega
  ·rw [if_neg hc1]
   by_cases h0:c=0∧0<i
   ·rw [if_pos h0];simp [yU]
   ·rw [if_neg h0]
    rw [show c % 128=c by omega] at b1 b2
    refine ⟨YN ⟨by omega,b2⟩,fun _=>?_,.inl rfl⟩
    simp only [zlc];omega
theorem X4 {k:Nat} {i:Nat} {u v:Int} {more:List Int} (hi:i+k≤9) (hv0:0≤v) (hv:v<128 ^ (k+1)) (hz:v=0→i=0) (hb:u+v * 2 ^ (7 * i)≤18446744073709551615) (h0:0≤u) :
  vrd (wI k v++more) i u=(aI (u+v * 2 ^ (7 * i)),((i+(wI k v).length:Nat):Int),0):=by
 have last:∀ {i:Nat} {u v:Int} {more:List Int},i≤9→0≤v→v<128→(v=0→i=0)→u+v * 2 ^ (7 * i)≤18446744073709551615→0≤u→vrd (v::more) i u=(aI (u+v * 2 ^ (7 * i)),((i+1:Nat):Int),0):=by
  intro i u v more hi hv0 hv hz hb h0
  simp only [vrd]
  have h9:¬(i=9∧1<v):=by
   rintro ⟨rfl,h⟩
   have:=mJ (show 2≤v by omega) (show (0:Int)≤2 ^ (7 * 9) by decide)
   omega
  rw [if_neg h9,if_neg (by omega),if_neg (by omega)]
  rfl
 induction k generalizing i u v with
 | zero=>exact last (by omega) hv0 (by simpa using hv) hz hb h0
 | succ k ih =>
  simp only [wI]
  by_cases hs:v<128
  ·rw [if_pos hs];exact last (by omega) hv0 hs hz hb h0
  ·rw [if_neg hs,List.cons_append]
   simp only [vrd]
   rw [if_neg (by omega),if_pos (by omega),show v % 128+128 - 128=v % 128 by omega]
   have e:u+v % 128 * 2 ^ (7 * i)+v / 128 * 2 ^ (7 * (i+1))=u+v * 2 ^ (7 * i):=by
    have h1:v * (2:Int) ^ (7 * i)=(v % 128+128 * (v / 128)) * 2 ^ (7 * i):=by rw [Int.emod_add_mul_ediv]
    rw [h1,AF,Int.add_mul,Int.add_assoc,← Int.mul_assoc,Int.mul_comm (v / 128) 128]
   have hp:(0:Int)≤v % 128 * 2 ^ (7 * i):=Int.mul_nonneg (by omega) (by have:=AR i;omega)
   rw [ih (i:=i+1) (u:=u+v % 128 * 2 ^ (7 * i)) (v:=v / 128) (by omega) (by omega) (J6 hv) (by omega) (by rw [e];exact hb) (by omega),e]
   simp only [zlc]
   congr 3;omega
theorem WM {k:Nat} {i j:Nat} {u v:Int} (hj:j<(wI k v).length) (hi:i+k≤9) (hv0:0≤v):vrd ((wI k v).take j) i u=(0,0,8):=by
 induction k generalizing i j u v with
 | zero =>
  simp [wI] at hj;subst hj;rfl
 | succ k ih =>
  cases j with
  | zero=>rfl
  | succ j =>
   simp only [wI] at hj ⊢
   split at hj
   ·simp at hj
   ·rename_i hs
    rw [if_neg hs,List.take_succ_cons]
    simp only [vrd]
    rw [if_neg (by omega),if_pos (by omega)]
    exact ih (by simpa using hj) (by omega) (by omega)
theorem zCQ {l:List Int} {i:Nat} {u:Int} (hl:∀ x∈l,xO x) (hi:i≤9) (h0:0≤u) (h1:u<2 ^ (7 * i)) (he:(vrd l i u).2.2=0) :
  ∃ v,0≤v∧(v=0→i=0)∧u+v * 2 ^ (7 * i)≤18446744073709551615∧(vrd l i u).1=aI (u+v * 2 ^ (7 * i))∧l.take ((vrd l i u).2.1 - i).toNat=wI (9 - i) v:=by
 induction l generalizing i u with
 | nil=>simp [vrd] at he
 | cons c r ih =>
  have hc:xO c:=hl c (by simp)
  unfold xO at hc
  have hp:=AR i
  simp only [vrd] at he ⊢
  by_cases h9:i=9∧1<c
  ·rw [if_pos h9] at he;simp at he
  rw [if_neg h9] at he ⊢
  obtain ⟨b1,b2⟩:=LL (c:=c) (a:=c % 128) hi (by omega) h1 h0 (by omega) (by omega) (by omega)
  by_cases hc1:128≤c
  ·rw [if_pos hc1] at he ⊢
   have:=AF i
   have h2:=mJ (show c - 128≤127 by omega) (show 0≤(2:Int) ^ (7 * i) by omega)
   have h3:0≤(c - 128) * (2:Int) ^ (7 * i):=Int.mul_nonneg (by omega) (by omega)
   have hr:∀ x∈r,xO x:=fun x hx=>hl x (by simp [hx])
   obtain ⟨v,k1,k2,k3,k4,k5⟩:=ih (i:=i+1) (u:=u+(c - 128) * 2 ^ (7 * i)) hr (by omega) (by omega) (by omega) he
   obtain ⟨_,r2,_⟩:=dF (i:=i+1) (u:=u+(c - 128) * 2 ^ (7 * i)) hr (by omega) (by omega) (by omega)
   have r2:=r2 he
   have e:u+(c - 128+128 * v) * 2 ^ (7 * i)=u+(c - 128) * 2 ^ (7 * i)+v * 2 ^ (7 * (i+1)):=by
    rw [AF,Int.add_mul,Int.add_assoc,← Int.mul_assoc,Int.mul_comm v 128]
   refine ⟨c - 128+128 * v,by omega,by omega,by rw [e];exact k3,by rw [e];exact k4,?_⟩
   generalize vrd r (i+1) (u+(c - 128) * 2 ^ (7 * i))=q at *
   obtain ⟨m,hm⟩:∃ m:Nat,q.2.1=i+1+m:=⟨(q.2.1 - (i+1)).toNat,by omega⟩
   rw [hm] at k5 ⊢
   rw [show ((i:Int)+1+m - i).toNat=m+1 by omega,List.take_succ_cons]
   rw [show ((i:Int)+1+m - ((i+1:Nat):Int)).toNat=m by omega] at k5
   rw [k5,show 9 - i=(9 - (i+1))+1 by omega]
   simp only [wI]
   rw [if_neg (by omega)]
   congr 1
   ·omega
   ·congr 1;omega
  ·rw [if_neg hc1] at he ⊢
   by_cases hz:c=0∧0<i
   ·rw [if_pos hz] at he;simp at he
   ·rw [if_neg hz] at he ⊢
    rw [show c % 128=c by omega] at b1 b2
    refine ⟨c,by omega,by omega,b2,rfl,?_⟩
    simp only
    rw [show ((i:Int)+1 - i).toNat=1 by omega]
    show [c]=_
    rcases hk:9 - i with _ | k
    ·rfl
    ·simp only [wI];rw [if_pos (by omega)]
theorem GS {n:Int} {more:List Int} (hn:yU n):vrd (wI 9 (wB n)++more) 0 0=(n,((wI 9 (wB n)).length:Int),0):=by
 have hz:=D5 hn
 have:=X4 (k:=9) (i:=0) (u:=0) (v:=wB n) (more:=more) (by omega) hz.1 (NL hz.2) (fun _=>rfl) (by have:=hz.2;simpa using this) (by omega)
 rw [this]
 simp [XW]
theorem C1 {n:Int} (hn:yU n):∀ x∈wI 9 (wB n),xO x:=zC5 (D5 hn).1 (NL (D5 hn).2)
abbrev TN:BitVec 32:=0xedb88320#32
def G9 (x:BitVec 32):BitVec 32:=(x >>> 1) ^^^ (bif x.getLsbD 0 then TN else 0#32)
def EV:Nat→BitVec 32→BitVec 32
 | 0,x=>x
 | n+1,x=>EV n (G9 x)
def zCM (x:BitVec 32) (c:Int):BitVec 32:=EV 8 (x ^^^ BitVec.ofInt 32 c)
def MN:BitVec 32→List Int→BitVec 32
 | x,[]=>x
 | x,c::r=>MN (zCM x c) r
def l9 (l:List Int):BitVec 32:=MN (BitVec.allOnes 32) l ^^^ BitVec.allOnes 32
def i32 (x:BitVec 32):Int:=(x.toNat:Int)
theorem LD (x:BitVec 32):0≤i32 x∧i32 x≤4294967295:=by
 unfold i32;have:=x.isLt;omega
theorem L0 (x y:BitVec 32):tW .u32 (i32 x) (i32 y)=i32 (x ^^^ y):=by
 unfold i32
 rw [QS (k:=.u32) (show _<2 ^ 32 from x.isLt) (show _<2 ^ 32 from y.isLt),BitVec.toNat_xor]
theorem zDr (x:BitVec 32):x.getLsbD 0=decide (i32 x % 2=1):=by
 unfold i32 BitVec.getLsbD
 rw [Nat.testBit_zero]
 congr 1
 exact propext ⟨fun h=>by omega,fun h=>by omega⟩
theorem zDA (x:BitVec 32):i32 x / (2:Int)=i32 (x >>> (1:Nat)):=by
 unfold i32
 rw [BitVec.toNat_ushiftRight,Nat.shiftRight_eq_div_pow];omega
theorem WZ (x:BitVec 32):(if i32 x % 2=1 then tW .u32 (i32 x / 2) 3988292384 else i32 x / 2)=i32 (G9 x):=by
 unfold G9
 rw [zDr,zDA]
 split
 ·rename_i h
  rw [yR h,cond_true,show (3988292384:Int)=i32 TN by decide,L0]
 ·rename_i h
  rw [yO h,cond_false,BitVec.xor_zero]
theorem zBf {c:Int} (h:xO c):c=i32 (BitVec.ofInt 32 c):=by
 unfold xO at h;unfold i32
 rw [BitVec.toNat_ofInt]
 have:(2 ^ 32:Nat)=4294967296:=rfl
 omega
theorem zBJ {F:Nat}:∀ (k n:Nat) (x:BitVec 32),k≤8→k<n→d7 F n (i32 x) (8 - (k:Int))=some (i32 (EV k x)):=by
 intro k
 induction k with
 | zero =>
  intro n x _ hn
  obtain ⟨n,rfl⟩:∃ m,n=m+1:=⟨n - 1,by omega⟩
  show g8 F (d7 F n) _ _=_
  unfold g8
  rw [yO (by omega),cond_false];rfl
 | succ k ih =>
  intro n x hk hn
  obtain ⟨n,rfl⟩:∃ m,n=m+1:=⟨n - 1,by omega⟩
  show g8 F (d7 F n) _ _=_
  have hr:=LD x
  unfold g8
  have e1:qI .u32 (i32 x) 1=i32 x / 2:=by
   have:=LB (k:=.u32) (x:=i32 x) (s:=1) hr.1 (by decide)
   simpa using this
  rw [yR (by omega),cond_true,zBP hr.1 hr.2,e1,w64 (by omega) (by omega),show 8 - ((k+1:Nat):Int)+1=8 - (k:Int) by omega]
  have:=ih n (G9 x) (by omega) (by omega)
  rw [← WZ] at this
  simp only [Bool.cond_eq_ite,beq_iff_eq]
  simp only [EV]
  rw [← this]
  split<;>rfl
theorem YF {F:Nat} {b:List Int} (hb:∀ x∈b,xO x) (hl:b.length≤4611686018427387904) (hF:8<F):∀ (n i:Nat) (x:BitVec 32),(b.drop i).length<n→lH F b n (i32 x) i=some (i32 (MN x (b.drop i))):=by
 intro n
 induction n with
 | zero=>intro i x h;omega
 | succ n ih =>
  intro i x hn
  show A5 F b (lH F b n) _ _=_
  unfold A5
  rcases hd:b.drop i with _ | ⟨c,r⟩
  ·have:=jL hd
   rw [yO (by omega),cond_false];rfl
  ·have hlt:=jG hd
   have hc:xO c:=hb c (List.mem_of_mem_drop (hd ▸ List.mem_cons_self))
   have hc':=hc;unfold xO at hc'
   rw [hd] at hn;simp only [zlc] at hn
   rw [yR (by omega),cond_true,w9 hd,zbs,zCe (by omega) (by omega)]
   have e:=zBJ (F:=F) 8 F (x ^^^ BitVec.ofInt 32 c) (by omega) hF
   rw [← L0,← zBf hc] at e
   rw [show d7 F F (tW .u32 (i32 x) c) 0=_ from e,zbs,w64 (by omega) (by omega),show (i:Int)+1=((i+1:Nat):Int) by omega,ih (i+1) _ (by rw [vQ hd];omega),vQ hd]
   rfl
theorem zDR {F:Nat} {b:List Int} (hb:∀ x∈b,xO x) (hl:b.length≤4611686018427387904) (hF:8<F) (hF2:b.length<F):D3 F b=some (i32 (l9 b)):=by
 unfold D3
 have e:=YF (F:=F) hb hl hF F 0 (BitVec.allOnes 32) (by simpa using hF2)
 rw [show lH F b F 4294967295 0=_ from e,zbs,show (4294967295:Int)=i32 (BitVec.allOnes 32) by decide,L0,BitVec.xor_comm,zdz]
 have hr:=LD (l9 b)
 rw [w64 (by show _≤i32 (l9 b);omega) (by show i32 (l9 b)≤_;omega)]
 rfl
end Go.Ab
