/- Plain laws of the functions wU this seat's, laid anew from another seat's text. No conditions but those that the theorems name. -/
import Derived.Test.YtoeengmnmhhpgaaP15xD
import Derived.Test.YtoeengmnmhhpgaaA32
namespace Go.Ab
open Go
set_option linter.unusedVariables false
def wF (n:Int):Int:=if n<0 then -2 * n - 1 else 2 * n
def aO (u:Int):Int:=if u % 2=1 then -(u / 2) - 1 else u / 2
theorem DK {n:Int} (h:yS n):rY (wF n):=by unfold yS at h;unfold rY wF;split<;>omega
theorem zEp {u:Int} (h:rY u):yS (aO u):=by unfold rY at h;unfold yS aO;split<;>omega
theorem zC8 (n:Int):aO (wF n)=n:=by unfold aO wF;split<;>split<;>omega
theorem zEc {u:Int} (h:0≤u):wF (aO u)=u:=by unfold aO wF;split<;>split<;>omega
theorem V8 {u:Int} (h:rY u):DQ u=some (aO u):=by
 unfold rY at h
 unfold DQ
 have e1:qD .u64 u 1=u / 2:=by
  have:=LU (k:=.u64) (x:=u) (s:=1) h.1 (by decide)
  simpa using this
 rw [e1,zBg h.1 h.2,w64 (x:=u / 2) (by omega) (by omega),w64 (x:=u % 2) (by omega) (by omega),w64 (x:=0 - u % 2) (by omega) (by omega)]
 unfold aO
 split
 ·rename_i h1
  rw [h1,show (0:Int) - 1 = -1 from rfl,zAT (by omega) (by omega)]
 ·rename_i h1
  rw [show (0:Int) - u % 2=0 by omega,zBN (by omega) (by omega)]
theorem Y1 {n:Int} (h:yS n):CY n=some (wF n):=by
 unfold yS at h
 unfold CY
 have e2:qD .i64 n 63=if n<0 then -1 else 0:=by
  unfold qD
  simp only [IntKind.bits]
  rw [Int.fdiv_eq_ediv_of_nonneg _ (by decide)]
  split<;>simp<;>omega
 rw [e2]
 unfold wF
 have e1:pL .u64 (jH n) 1=2 * jH n % 18446744073709551616:=by
  unfold pL
  have:=CB (jH n * 2 ^ (min (1:Int).toNat IntKind.u64.bits))
  simp only [jH] at this ⊢
  rw [this];simp [IntKind.bits];omega
 rw [e1,CB n]
 split
 ·rw [CB (-1),show (-1:Int) % 18446744073709551616=18446744073709551615 by decide,zCA (by omega) (by omega)]
  congr 1;omega
 ·rw [CB 0,show (0:Int) % 18446744073709551616=0 by decide,zBF (by omega) (by omega)]
  congr 1;omega
def vrd:List Int→Nat→Int→Int×Int×Int
 | [],_,_=>(0,0,8)
 | c::r,i,u =>
  if i=9∧1<c then (0,0,10) else
  if 128≤c then vrd r (i+1) (u+(c - 128) * 2 ^ (7 * i)) else
  if c=0∧0<i then (0,0,10) else (aO (u+c * 2 ^ (7 * i)),(i:Int)+1,0)
theorem DX (i:Nat):(2:Int) ^ (7 * (i+1))=128 * 2 ^ (7 * i):=by
 rw [Nat.mul_add,Int.pow_add];omega
theorem A8 (i:Nat):(1:Int)≤2 ^ (7 * i):=by
 have:(0:Int)<2 ^ (7 * i):=Int.pow_pos (by decide)
 omega
theorem zBb {i:Nat} (h:i≤8):(2:Int) ^ (7 * i)≤72057594037927936:=by
 have:=Nat.pow_le_pow_right (n:=2) (by decide) (show 7 * i≤56 by omega)
 have h2:(((2 ^ (7 * i):Nat)):Int)=2 ^ (7 * i):=by simp
 have h3:(2:Nat) ^ 56=72057594037927936:=rfl
 omega
theorem mH {a m q:Int} (h:a≤m) (hq:0≤q):a * q≤m * q:=Int.mul_le_mul_of_nonneg_right h hq
theorem M9 {i:Nat} {u a c:Int} (hi:i≤9) (h9:¬((i:Int)=9∧c>1)) (hu:u<2 ^ (7 * i)) (hu0:0≤u) (ha:0≤a) (ha1:a≤127) (hac:a≤c) :
  0≤a * 2 ^ (7 * i)∧u+a * 2 ^ (7 * i)≤18446744073709551615:=by
 have hp:=A8 i
 refine ⟨Int.mul_nonneg ha (by omega),?_⟩
 rcases zlg i 9 with h | h
 ·have:=zBb (show i≤8 by omega)
  have:=mH ha1 (show 0≤(2:Int) ^ (7 * i) by omega)
  omega
 ·obtain rfl:i=9:=by omega
  have:=mH (show a≤1 by omega) (show 0≤(2:Int) ^ (7 * 9) by omega)
  omega
def Z8 (e:Int×Int×Int) (o:Unit⊕(Int×Int×Int)):Int×Int×Int:=match o with | .inl _=>e | .inr q=>q
theorem V0 {F:Nat} {b:List Int} (hb:∀ x∈b,xO x) (hl:b.length≤4611686018427387904):∀ (n i:Nat) (u:Int),i≤9→0≤u→u<2 ^ (7 * i)→(b.drop i).length<n →
  ∃ o,l9 F b n u i=some o∧Z8 (0,0,8) o=vrd (b.drop i) i u:=by
 intro n
 induction n with
 | zero=>intro i u _ _ _ h;omega
 | succ n ih =>
  intro i u hi hu0 hu hn
  show ∃ o,DP F b (l9 F b n) u i=some o∧_
  unfold DP
  rcases hd:b.drop i with _ | ⟨c,r⟩
  ·have:=jO hd
   simp (disch:=omega) only [yO,cond_false]
   exact ⟨_,rfl,rfl⟩
  ·have hlt:=q9 hd
   have hc:xO c:=hb c (List.mem_of_mem_drop (hd ▸ List.mem_cons_self))
   unfold xO at hc
   have hp:=A8 i
   rw [yU (show (i:Int)<(b.length:Int) by omega),cond_true]
   simp (disch:=omega) only [vS hd,zbs,Bool.cond_eq_ite,zba,beq_iff_eq,decide_eq_true_eq,vrd,w64,x7,zBG,zBX]
   have h7:(7:Int) * (i:Int)=((7 * i:Nat):Int):=by omega
   by_cases h9:(i:Int)=9∧c>1
   ·simp (disch:=omega) only [if_pos]
    exact ⟨_,rfl,rfl⟩
   rw [if_neg h9,if_neg (show ¬(i=9∧1<c) by omega)]
   have hm:0≤c % 128∧c % 128≤127∧c % 128≤c:=by omega
   obtain ⟨b1,b2⟩:=M9 hi h9 hu hu0 hm.1 hm.2.1 hm.2.2
   have e1:ior .u64 u (pL .u64 (c % 128) (7 * (i:Int)))=u+c % 128 * 2 ^ (7 * i):=by
    rw [h7,Z6 (k:=.u64) hm.1 (by simp only [IntKind.bits];omega) (show c % 128 * 2 ^ (7 * i)<18446744073709551616 by omega),UZ (k:=.u64) hu0 hu hm.1 (show u+c % 128 * 2 ^ (7 * i)<18446744073709551616 by omega)]
   rw [e1]
   by_cases hc1:c≥128
   ·rw [show c % 128=c - 128 by omega]
    simp (disch:=omega) only [if_pos]
    rw [show c % 128=c - 128 by omega] at b1 b2
    have hi8:i≤8:=by omega
    have:=DX i
    have h2:=mH (show c - 128≤127 by omega) (show 0≤(2:Int) ^ (7 * i) by omega)
    have:=ih (i+1) (u+(c - 128) * 2 ^ (7 * i)) (by omega) (by omega) (by omega) (by rw [vN hd];rw [hd] at hn;simp at hn;omega)
    rw [vN hd] at this
    exact this
   ·rw [show c % 128=c by omega] at b1 b2 ⊢
    by_cases h0:c=0∧(i:Int)>0
    ·simp (disch:=omega) only [if_pos,if_neg]
     exact ⟨_,rfl,rfl⟩
    ·rw [V8 ⟨by omega,b2⟩]
     simp (disch:=omega) only [if_neg]
     exact ⟨_,rfl,rfl⟩
theorem oP {F:Nat} {b:List Int} (hb:∀ x∈b,xO x) (hl:b.length≤4611686018427387904) (hF:b.length<F):cB F b=some (vrd b 0 0):=by
 obtain ⟨o,h1,h2⟩:=V0 (F:=F) hb hl F 0 0 (by omega) (by omega) (by decide) (by simpa using hF)
 unfold cB
 simp only [zdz] at h2
 rw [show l9 F b F (0:Int) 0=some o from h1,← h2]
 cases o<;>rfl
def wK:Nat→Int→List Int
 | 0,u=>[u]
 | k+1,u=>if u<128 then [u] else (u % 128+128)::wK k (u / 128)
theorem pX (k:Nat) (u:Int):1≤(wK k u).length∧(wK k u).length≤k+1:=by
 induction k generalizing u with
 | zero=>simp [wK]
 | succ k ih =>
  simp only [wK];split
  ·simp
  ·have:=ih (u / 128);simp;omega
theorem zD9 (k:Nat):(128:Int) ^ (k+1)=128 * 128 ^ k:=by rw [Int.pow_succ];omega
theorem NZ {k:Nat} {u:Int} (h:u<128 ^ (k+1+1)):u / 128<128 ^ (k+1):=by
 have:=zD9 (k+1);omega
theorem zDY {k:Nat} {u:Int} (h0:0≤u) (h:u<128 ^ (k+1)):∀ x∈wK k u,xO x:=by
 induction k generalizing u with
 | zero=>intro x hx;simp [wK] at hx;subst hx;simp at h;unfold xO;omega
 | succ k ih =>
  intro x hx
  simp only [wK] at hx
  split at hx
  ·simp at hx;subst hx;unfold xO;omega
  ·rcases List.mem_cons.1 hx with rfl | hx
   ·unfold xO;omega
   ·exact ih (by omega) (NZ h) x hx
theorem MK {u:Int} (h:u≤18446744073709551615):u<128 ^ (9+1):=by
 have:(128:Int) ^ (9+1)=1180591620717411303424:=by decide
 omega
theorem NW (p r:List Int) (x v:Int):(p++x::r).set p.length v=p++v::r:=by
 rw [List.set_append_right _ _ (Nat.le_refl _)];simp
theorem KV (p r:List Int) (x:Int):(p++x::r)[p.length]?=some x:=by
 rw [List.getElem?_append_right (Nat.le_refl _)];simp
theorem Y5 {F:Nat}:∀ (k n:Nat) (u:Int) (p r:List Int),0≤u→u≤18446744073709551615→u<128 ^ (k+1)→k<n→p.length+k+1=10→r.length=k+1 →
  ∃ (m:Nat) (l:List Int),fD F n (p.length:Int) u (p++r)=some (((m:Nat):Int),l)∧l.take m=p++wK k u∧m≤10∧l.length=10:=by
 intro k
 induction k with
 | zero =>
  intro n u p r h0 h1 h2 hn hp hr
  obtain ⟨n,rfl⟩:∃ m,n=m+1:=⟨n - 1,by omega⟩
  simp at h2
  match r,hr with
  | x::r,hr =>
   show ∃ (m:Nat) (l:List Int),lS F (fD F n) (p.length:Int) u (p++x::r)=some (((m:Nat):Int),l)∧_
   unfold lS
   rw [x7 (by omega),zbs,Int.toNat_natCast,KV,zbs,yU h2,cond_true,RZ h0 h1,NW]
   simp (disch:=omega) only [w64,wu8]
   refine ⟨p.length+1,_,rfl,?_,by omega,by simp only [zla,zlc] at hr ⊢;omega⟩
   rw [show u % 128=u by omega,show p++u::r=(p++[u])++r by simp,List.take_left' (by simp)]
   rfl
 | succ k ih =>
  intro n u p r h0 h1 h2 hn hp hr
  obtain ⟨n,rfl⟩:∃ m,n=m+1:=⟨n - 1,by omega⟩
  match r,hr with
  | x::r,hr =>
   show ∃ (m:Nat) (l:List Int),lS F (fD F n) (p.length:Int) u (p++x::r)=some (((m:Nat):Int),l)∧_
   unfold lS
   rw [x7 (by omega),zbs,Int.toNat_natCast,KV,zbs,RZ h0 h1,NW]
   by_cases hu:u<128
   ·rw [yU hu,cond_true]
    simp (disch:=omega) only [w64,wu8]
    refine ⟨p.length+1,_,rfl,?_,by omega,by simp only [zla,zlc] at hr ⊢;omega⟩
    rw [show u % 128=u by omega,show p++u::r=(p++[u])++r by simp,List.take_left' (by simp)]
    simp [wK,hu]
   ·rw [yO hu,cond_false]
    simp (disch:=omega) only [w64,wu8]
    rw [show (p.length:Int)+1 - 1=(p.length:Int) by omega,x7 (by omega),zbs,Int.toNat_natCast,KV,zbs,zbs,zbs,NW,zDw (by omega) (by omega)]
    have e1:qD .u64 u 7=u / 128:=by
     have:=LU (k:=.u64) (x:=u) (s:=7) h0 (by decide)
     simpa using this
    rw [e1,show p++(u % 128+128)::r=(p++[u % 128+128])++r by simp]
    obtain ⟨m,l,q1,q2,q3,q4⟩:=ih n (u / 128) (p++[u % 128+128]) r (by omega) (by omega) (NZ h2) (by omega) (by simp;omega) (by simpa using hr)
    refine ⟨m,l,?_,?_,q3,q4⟩
    ·rw [← q1];simp
    ·rw [q2];simp only [wK,if_neg hu,List.append_assoc,List.singleton_append]
theorem zAj {α:Type} (l:List α):sub l 0 (l.length:Int)=l:=by simp [sub]
theorem jK {F:Nat} {b:List Int} {n:Int} (hn:yS n) (hl:b.length≤140737488355000) (hF:9<F):uY F b n=some (b++wK 9 (wF n)):=by
 have hz:=DK hn
 unfold uY
 obtain ⟨m,l,e1,e2,e3,e4⟩:=Y5 (F:=F) 9 F (wF n) [] (List.replicate 10 0) hz.1 hz.2 (MK hz.2) hF (by rfl) (by rfl)
 rw [List.nil_append] at e1 e2
 rw [Y1 hn,zbs,show fD F F 0 (wF n) (List.replicate 10 0)=some ((m:Int),l) from e1,zbs]
 have hv:=(pX 9 (wF n)).2
 simp only [Int.toNat_natCast,zdz,zAj,e2]
 have hv1:=(pX 9 (wF n)).1
 rw [x7 (by omega),zbs,x7 (by omega),zbs,x7 (by omega),zbs,x7 (.inl hv1),zbs]
theorem dI {l:List Int} {i:Nat} {u:Int} (hl:∀ x∈l,xO x) (hi:i≤9) (h0:0≤u) (h1:u<2 ^ (7 * i)) :
  yS (vrd l i u).1∧((vrd l i u).2.2=0→(i:Int)<(vrd l i u).2.1∧(vrd l i u).2.1≤10∧(vrd l i u).2.1≤i+l.length)∧((vrd l i u).2.2=0∨(vrd l i u).1=0∧(vrd l i u).2.1=0∧((vrd l i u).2.2=8∨(vrd l i u).2.2=10)):=by
 induction l generalizing i u with
 | nil=>simp [vrd,yS]
 | cons c r ih =>
  have hc:xO c:=hl c (by simp)
  unfold xO at hc
  have hp:=A8 i
  simp only [vrd]
  by_cases h9:i=9∧1<c
  ·rw [if_pos h9];simp [yS]
  rw [if_neg h9]
  obtain ⟨b1,b2⟩:=M9 (c:=c) (a:=c % 128) hi (by omega) h1 h0 (by omega) (by omega) (by omega)
  by_cases hc1:128≤c
  ·rw [if_pos hc1]
   have:=DX i
   have h2:=mH (show c - 128≤127 by omega) (show 0≤(2:Int) ^ (7 * i) by omega)
   have h3:0≤(c - 128) * (2:Int) ^ (7 * i):=Int.mul_nonneg (by omega) (by omega)
   obtain ⟨k1,k2,k3⟩:=ih (i:=i+1) (u:=u+(c - 128) * 2 ^ (7 * i)) (fun x hx=>hl x (by simp [hx])) (by omega) (by omega) (by omega)
   refine ⟨k1,fun h=>?_,k3⟩
   have:=k2 h
   simp only [zlc];omega
  ·rw [if_neg hc1]
   by_cases h0:c=0∧0<i
   ·rw [if_pos h0];simp [yS]
   ·rw [if_neg h0]
    rw [show c % 128=c by omega] at b1 b2
    refine ⟨zEp ⟨by omega,b2⟩,fun _=>?_,.inl rfl⟩
    simp only [zlc];omega
theorem zAM {k:Nat} {i:Nat} {u v:Int} {more:List Int} (hi:i+k≤9) (hv0:0≤v) (hv:v<128 ^ (k+1)) (hz:v=0→i=0) (hb:u+v * 2 ^ (7 * i)≤18446744073709551615) (h0:0≤u) :
  vrd (wK k v++more) i u=(aO (u+v * 2 ^ (7 * i)),((i+(wK k v).length:Nat):Int),0):=by
 have last:∀ {i:Nat} {u v:Int} {more:List Int},i≤9→0≤v→v<128→(v=0→i=0)→u+v * 2 ^ (7 * i)≤18446744073709551615→0≤u→vrd (v::more) i u=(aO (u+v * 2 ^ (7 * i)),((i+1:Nat):Int),0):=by
  intro i u v more hi hv0 hv hz hb h0
  simp only [vrd]
  have h9:¬(i=9∧1<v):=by
   rintro ⟨rfl,h⟩
   have:=mH (show 2≤v by omega) (show (0:Int)≤2 ^ (7 * 9) by decide)
   omega
  rw [if_neg h9,if_neg (by omega),if_neg (by omega)]
  rfl
 induction k generalizing i u v with
 | zero=>exact last (by omega) hv0 (by simpa using hv) hz hb h0
 | succ k ih =>
  simp only [wK]
  by_cases hs:v<128
  ·rw [if_pos hs];exact last (by omega) hv0 hs hz hb h0
  ·rw [if_neg hs,List.cons_append]
   simp only [vrd]
   rw [if_neg (by omega),if_pos (by omega),show v % 128+128 - 128=v % 128 by omega]
   have e:u+v % 128 * 2 ^ (7 * i)+v / 128 * 2 ^ (7 * (i+1))=u+v * 2 ^ (7 * i):=by
    have h1:v * (2:Int) ^ (7 * i)=(v % 128+128 * (v / 128)) * 2 ^ (7 * i):=by rw [Int.emod_add_mul_ediv]
    rw [h1,DX,Int.add_mul,Int.add_assoc,← Int.mul_assoc,Int.mul_comm (v / 128) 128]
   have hp:(0:Int)≤v % 128 * 2 ^ (7 * i):=Int.mul_nonneg (by omega) (by have:=A8 i;omega)
   rw [ih (i:=i+1) (u:=u+v % 128 * 2 ^ (7 * i)) (v:=v / 128) (by omega) (by omega) (NZ hv) (by omega) (by rw [e];exact hb) (by omega),e]
   simp only [zlc]
   congr 3;omega
theorem zB4 {k:Nat} {i j:Nat} {u v:Int} (hj:j<(wK k v).length) (hi:i+k≤9) (hv0:0≤v):vrd ((wK k v).take j) i u=(0,0,8):=by
 induction k generalizing i j u v with
 | zero =>
  simp [wK] at hj;subst hj;rfl
 | succ k ih =>
  cases j with
  | zero=>rfl
  | succ j =>
   simp only [wK] at hj ⊢
   split at hj
   ·simp at hj
   ·rename_i hs
    rw [if_neg hs,List.take_succ_cons]
    simp only [vrd]
    rw [if_neg (by omega),if_pos (by omega)]
    exact ih (by simpa using hj) (by omega) (by omega)
theorem WK {l:List Int} {i:Nat} {u:Int} (hl:∀ x∈l,xO x) (hi:i≤9) (h0:0≤u) (h1:u<2 ^ (7 * i)) (he:(vrd l i u).2.2=0) :
  ∃ v,0≤v∧(v=0→i=0)∧u+v * 2 ^ (7 * i)≤18446744073709551615∧(vrd l i u).1=aO (u+v * 2 ^ (7 * i))∧l.take ((vrd l i u).2.1 - i).toNat=wK (9 - i) v:=by
 induction l generalizing i u with
 | nil=>simp [vrd] at he
 | cons c r ih =>
  have hc:xO c:=hl c (by simp)
  unfold xO at hc
  have hp:=A8 i
  simp only [vrd] at he ⊢
  by_cases h9:i=9∧1<c
  ·rw [if_pos h9] at he;simp at he
  rw [if_neg h9] at he ⊢
  obtain ⟨b1,b2⟩:=M9 (c:=c) (a:=c % 128) hi (by omega) h1 h0 (by omega) (by omega) (by omega)
  by_cases hc1:128≤c
  ·rw [if_pos hc1] at he ⊢
   have:=DX i
   have h2:=mH (show c - 128≤127 by omega) (show 0≤(2:Int) ^ (7 * i) by omega)
   have h3:0≤(c - 128) * (2:Int) ^ (7 * i):=Int.mul_nonneg (by omega) (by omega)
   have hr:∀ x∈r,xO x:=fun x hx=>hl x (by simp [hx])
   obtain ⟨v,k1,k2,k3,k4,k5⟩:=ih (i:=i+1) (u:=u+(c - 128) * 2 ^ (7 * i)) hr (by omega) (by omega) (by omega) he
   obtain ⟨_,r2,_⟩:=dI (i:=i+1) (u:=u+(c - 128) * 2 ^ (7 * i)) hr (by omega) (by omega) (by omega)
   have r2:=r2 he
   have e:u+(c - 128+128 * v) * 2 ^ (7 * i)=u+(c - 128) * 2 ^ (7 * i)+v * 2 ^ (7 * (i+1)):=by
    rw [DX,Int.add_mul,Int.add_assoc,← Int.mul_assoc,Int.mul_comm v 128]
   refine ⟨c - 128+128 * v,by omega,by omega,by rw [e];exact k3,by rw [e];exact k4,?_⟩
   generalize vrd r (i+1) (u+(c - 128) * 2 ^ (7 * i))=q at *
   obtain ⟨m,hm⟩:∃ m:Nat,q.2.1=i+1+m:=⟨(q.2.1 - (i+1)).toNat,by omega⟩
   rw [hm] at k5 ⊢
   rw [show ((i:Int)+1+m - i).toNat=m+1 by omega,List.take_succ_cons]
   rw [show ((i:Int)+1+m - ((i+1:Nat):Int)).toNat=m by omega] at k5
   rw [k5,show 9 - i=(9 - (i+1))+1 by omega]
   simp only [wK]
   rw [if_neg (by omega)]
   congr 1
   ·omega
   ·congr 1;omega
  ·rw [if_neg hc1] at he ⊢
   by_cases hz:c=0∧0<i
   ·rw [if_pos hz] at he;simp at he
   ·rw [if_neg hz] at he ⊢
    rw [show c % 128=c by omega] at b1 b2
    refine ⟨c,by omega,by omega,b2,rfl,?_⟩
    simp only
    rw [show ((i:Int)+1 - i).toNat=1 by omega]
    show [c]=_
    rcases hk:9 - i with _ | k
    ·rfl
    ·simp only [wK];rw [if_pos (by omega)]
theorem G7 {n:Int} {more:List Int} (hn:yS n):vrd (wK 9 (wF n)++more) 0 0=(n,((wK 9 (wF n)).length:Int),0):=by
 have hz:=DK hn
 have:=zAM (k:=9) (i:=0) (u:=0) (v:=wF n) (more:=more) (by omega) hz.1 (MK hz.2) (fun _=>rfl) (by have:=hz.2;simpa using this) (by omega)
 rw [this]
 simp [zC8]
theorem AH {n:Int} (hn:yS n):∀ x∈wK 9 (wF n),xO x:=zDY (DK hn).1 (MK (DK hn).2)
abbrev RG:BitVec 32:=0xedb88320#32
def GN (x:BitVec 32):BitVec 32:=(x >>> 1) ^^^ (bif x.getLsbD 0 then RG else 0#32)
def G8:Nat→BitVec 32→BitVec 32
 | 0,x=>x
 | n+1,x=>G8 n (GN x)
def zAz (x:BitVec 32) (c:Int):BitVec 32:=G8 8 (x ^^^ BitVec.ofInt 32 c)
def LD:BitVec 32→List Int→BitVec 32
 | x,[]=>x
 | x,c::r=>LD (zAz x c) r
def mW (l:List Int):BitVec 32:=LD (BitVec.allOnes 32) l ^^^ BitVec.allOnes 32
def i32 (x:BitVec 32):Int:=(x.toNat:Int)
theorem KJ (x:BitVec 32):0≤i32 x∧i32 x≤4294967295:=by
 unfold i32;have:=x.isLt;omega
theorem NR (x y:BitVec 32):tX .u32 (i32 x) (i32 y)=i32 (x ^^^ y):=by
 unfold i32
 rw [OM (k:=.u32) (show _<2 ^ 32 from x.isLt) (show _<2 ^ 32 from y.isLt),BitVec.toNat_xor]
theorem Y8 (x:BitVec 32):x.getLsbD 0=decide (i32 x % 2=1):=by
 unfold i32 BitVec.getLsbD
 rw [Nat.testBit_zero]
 congr 1
 exact propext ⟨fun h=>by omega,fun h=>by omega⟩
theorem zCS (x:BitVec 32):i32 x / (2:Int)=i32 (x >>> (1:Nat)):=by
 unfold i32
 rw [BitVec.toNat_ushiftRight,Nat.shiftRight_eq_div_pow];omega
theorem zAu (x:BitVec 32):(if i32 x % 2=1 then tX .u32 (i32 x / 2) 3988292384 else i32 x / 2)=i32 (GN x):=by
 unfold GN
 rw [Y8,zCS]
 split
 ·rename_i h
  rw [yU h,cond_true,show (3988292384:Int)=i32 RG by decide,NR]
 ·rename_i h
  rw [yO h,cond_false,BitVec.xor_zero]
theorem zB5 {c:Int} (h:xO c):c=i32 (BitVec.ofInt 32 c):=by
 unfold xO at h;unfold i32
 rw [BitVec.toNat_ofInt]
 have:(2 ^ 32:Nat)=4294967296:=rfl
 omega
theorem zBt {F:Nat}:∀ (k n:Nat) (x:BitVec 32),k≤8→k<n→fR F n (i32 x) (8 - (k:Int))=some (i32 (G8 k x)):=by
 intro k
 induction k with
 | zero =>
  intro n x _ hn
  obtain ⟨n,rfl⟩:∃ m,n=m+1:=⟨n - 1,by omega⟩
  show gO F (fR F n) _ _=_
  unfold gO
  rw [yO (by omega),cond_false];rfl
 | succ k ih =>
  intro n x hk hn
  obtain ⟨n,rfl⟩:∃ m,n=m+1:=⟨n - 1,by omega⟩
  show gO F (fR F n) _ _=_
  have hr:=KJ x
  unfold gO
  have e1:qD .u32 (i32 x) 1=i32 x / 2:=by
   have:=LU (k:=.u32) (x:=i32 x) (s:=1) hr.1 (by decide)
   simpa using this
  rw [yU (by omega),cond_true,zAs hr.1 hr.2,e1,w64 (by omega) (by omega),show 8 - ((k+1:Nat):Int)+1=8 - (k:Int) by omega]
  have:=ih n (GN x) (by omega) (by omega)
  rw [← zAu] at this
  simp only [Bool.cond_eq_ite,beq_iff_eq]
  simp only [G8]
  rw [← this]
  split<;>rfl
theorem WN {F:Nat} {b:List Int} (hb:∀ x∈b,xO x) (hl:b.length≤4611686018427387904) (hF:8<F):∀ (n i:Nat) (x:BitVec 32),(b.drop i).length<n→lI F b n (i32 x) i=some (i32 (LD x (b.drop i))):=by
 intro n
 induction n with
 | zero=>intro i x h;omega
 | succ n ih =>
  intro i x hn
  show AM F b (lI F b n) _ _=_
  unfold AM
  rcases hd:b.drop i with _ | ⟨c,r⟩
  ·have:=jO hd
   rw [yO (by omega),cond_false];rfl
  ·have hlt:=q9 hd
   have hc:xO c:=hb c (List.mem_of_mem_drop (hd ▸ List.mem_cons_self))
   have hc':=hc;unfold xO at hc'
   rw [hd] at hn;simp only [zlc] at hn
   rw [yU (by omega),cond_true,vS hd,zbs,ZK (by omega) (by omega)]
   have e:=zBt (F:=F) 8 F (x ^^^ BitVec.ofInt 32 c) (by omega) hF
   rw [← NR,← zB5 hc] at e
   rw [show fR F F (tX .u32 (i32 x) c) 0=_ from e,zbs,w64 (by omega) (by omega),show (i:Int)+1=((i+1:Nat):Int) by omega,ih (i+1) _ (by rw [vN hd];omega),vN hd]
   rfl
theorem zDD {F:Nat} {b:List Int} (hb:∀ x∈b,xO x) (hl:b.length≤4611686018427387904) (hF:8<F) (hF2:b.length<F):AP F b=some (i32 (mW b)):=by
 unfold AP
 have e:=WN (F:=F) hb hl hF F 0 (BitVec.allOnes 32) (by simpa using hF2)
 rw [show lI F b F 4294967295 0=_ from e,zbs,show (4294967295:Int)=i32 (BitVec.allOnes 32) by decide,NR,BitVec.xor_comm,zdz]
 have hr:=KJ (mW b)
 rw [w64 (by show _≤i32 (mW b);omega) (by show i32 (mW b)≤_;omega)]
 rfl
end Go.Ab
