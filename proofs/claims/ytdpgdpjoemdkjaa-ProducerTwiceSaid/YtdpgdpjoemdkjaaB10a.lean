/- Plain laws of the functions uI this seat's, laid anew from another seat's text. No conditions but those that the theorems name. -/
import Derived.Test.YtdpgdpjoemdkjaaP10xD
import Derived.Test.YtdpgdpjoemdkjaaA35
namespace Go.Ab
open Go
set_option linter.unusedVariables false
def wF (n:Int):Int:=if n<0 then -2 * n - 1 else 2 * n
def zA7 (u:Int):Int:=if u % 2=1 then -(u / 2) - 1 else u / 2
theorem zCi {n:Int} (h:yS n):zCS (wF n):=by unfold yS at h;unfold zCS wF;split<;>omega
theorem zLb {u:Int} (h:zCS u):yS (zA7 u):=by unfold zCS at h;unfold yS zA7;split<;>omega
theorem zL9 (n:Int):zA7 (wF n)=n:=by unfold zA7 wF;split<;>split<;>omega
theorem zHm {u:Int} (h:0≤u):wF (zA7 u)=u:=by unfold zA7 wF;split<;>split<;>omega
theorem zFq {u:Int} (h:zCS u):nJ u=some (zA7 u):=by
 unfold zCS at h
 unfold nJ
 have e1:nT .u64 u 1=u / 2:=by
  have:=zIb (k:=.u64) (x:=u) (s:=1) h.1 (by decide)
  simpa using this
 rw [e1,zMo h.1 h.2,w64 (x:=u / 2) (by omega) (by omega),w64 (x:=u % 2) (by omega) (by omega),w64 (x:=0 - u % 2) (by omega) (by omega)]
 unfold zA7
 split
 ·rename_i h1
  rw [h1,show (0:Int) - 1 = -1 from rfl,zIX (by omega) (by omega)]
 ·rename_i h1
  rw [show (0:Int) - u % 2=0 by omega,zHV (by omega) (by omega)]
theorem zHh {u:Int} (h:zCS u):zAE u=some (zA7 u):=by
 unfold zCS at h
 unfold zAE
 rw [zFN h.1,zMP (k:=.u64) h.1 (show u<2 ^ 64 by omega) (by omega)]
 simp only [Bool.cond_eq_ite,beq_iff_eq]
 unfold zA7
 simp (disch:=omega) only [w64,Int.zero_sub]
 split<;>rfl
theorem zF3 {n:Int} (h:yS n):zAf n=some (wF n):=by
 unfold yS at h
 unfold zAf
 have e2:nT .i64 n 63=if n<0 then -1 else 0:=by
  unfold nT
  simp only [IntKind.bits]
  rw [Int.fdiv_eq_ediv_of_nonneg _ (by decide)]
  split<;>simp<;>omega
 rw [e2]
 unfold wF
 have e1:kU .u64 (yG n) 1=2 * yG n % 18446744073709551616:=by
  unfold kU
  have:=zCD (yG n * 2 ^ (min (1:Int).toNat IntKind.u64.bits))
  simp only [yG] at this ⊢
  rw [this];simp [IntKind.bits];omega
 rw [e1,zCD n]
 split
 ·rw [zCD (-1),show (-1:Int) % 18446744073709551616=18446744073709551615 by decide,zHY (by omega) (by omega)]
  congr 1;omega
 ·rw [zCD 0,show (0:Int) % 18446744073709551616=0 by decide,zHW (by omega) (by omega)]
  congr 1;omega
def vrd:List Int→Nat→Int→Int×Int×Int
 | [],_,_=>(0,0,8)
 | c::r,i,u =>
  if i=9∧1<c then (0,0,10) else
  if 128≤c then vrd r (i+1) (u+(c - 128) * 2 ^ (7 * i)) else
  if c=0∧0<i then (0,0,10) else (zA7 (u+c * 2 ^ (7 * i)),(i:Int)+1,0)
theorem zGU (i:Nat):(2:Int) ^ (7 * (i+1))=128 * 2 ^ (7 * i):=by
 rw [Nat.mul_add,Int.pow_add];omega
theorem zBD (i:Nat):(1:Int)≤2 ^ (7 * i):=by
 have:(0:Int)<2 ^ (7 * i):=Int.pow_pos (by decide)
 omega
theorem zIf {i:Nat} (h:i≤8):(2:Int) ^ (7 * i)≤72057594037927936:=by
 have:=Nat.pow_le_pow_right (n:=2) (by decide) (show 7 * i≤56 by omega)
 have h2:(((2 ^ (7 * i):Nat)):Int)=2 ^ (7 * i):=by simp
 have h3:(2:Nat) ^ 56=72057594037927936:=rfl
 omega
theorem zDK {a m q:Int} (h:a≤m) (hq:0≤q):a * q≤m * q:=Int.mul_le_mul_of_nonneg_right h hq
theorem zGg {i:Nat} {u a c:Int} (hi:i≤9) (h9:¬((i:Int)=9∧c>1)) (hu:u<2 ^ (7 * i)) (hu0:0≤u) (ha:0≤a) (ha1:a≤127) (hac:a≤c) :
  0≤a * 2 ^ (7 * i)∧u+a * 2 ^ (7 * i)≤18446744073709551615:=by
 have hp:=zBD i
 refine ⟨Int.mul_nonneg ha (by omega),?_⟩
 rcases Nat.lt_or_ge i 9 with h | h
 ·have:=zIf (show i≤8 by omega)
  have:=zDK ha1 (show 0≤(2:Int) ^ (7 * i) by omega)
  omega
 ·obtain rfl:i=9:=by omega
  have:=zDK (show a≤1 by omega) (show 0≤(2:Int) ^ (7 * 9) by omega)
  omega
def zOm (e:Int×Int×Int) (o:Unit⊕(Int×Int×Int)):Int×Int×Int:=match o with | .inl _=>e | .inr q=>q
theorem zGL {F:Nat} {b:List Int} (hb:∀ x∈b,xJ x) (hl:b.length≤4611686018427387904):∀ (n i:Nat) (u:Int),i≤9→0≤u→u<2 ^ (7 * i)→(b.drop i).length<n →
  ∃ o,j6 F b n u i=some o∧zOm (0,0,8) o=vrd (b.drop i) i u:=by
 intro n
 induction n with
 | zero=>intro i u _ _ _ h;omega
 | succ n ih =>
  intro i u hi hu0 hu hn
  show ∃ o,jK F b (j6 F b n) u i=some o∧_
  unfold jK
  rcases hd:b.drop i with _ | ⟨c,r⟩
  ·have:=drop_nil hd
   simp (disch:=omega) only [yR,cond_false]
   exact ⟨_,rfl,rfl⟩
  ·have hlt:=pF hd
   have hc:xJ c:=hb c (List.mem_of_mem_drop (hd ▸ List.mem_cons_self))
   unfold xJ at hc
   have hp:=zBD i
   rw [y4 (show (i:Int)<(b.length:Int) by omega),cond_true]
   simp (disch:=omega) only [vH hd,Option.bind_some,Bool.cond_eq_ite,Bool.and_eq_true,beq_iff_eq,decide_eq_true_eq,vrd,w64,xO,zMC,zLl]
   have h7:(7:Int) * (i:Int)=((7 * i:Nat):Int):=by omega
   by_cases h9:(i:Int)=9∧c>1
   ·simp (disch:=omega) only [if_pos]
    exact ⟨_,rfl,rfl⟩
   rw [if_neg h9,if_neg (show ¬(i=9∧1<c) by omega)]
   have hm:0≤c % 128∧c % 128≤127∧c % 128≤c:=by omega
   obtain ⟨b1,b2⟩:=zGg hi h9 hu hu0 hm.1 hm.2.1 hm.2.2
   have e1:ior .u64 u (kU .u64 (c % 128) (7 * (i:Int)))=u+c % 128 * 2 ^ (7 * i):=by
    rw [h7,zMw (k:=.u64) hm.1 (by simp only [IntKind.bits];omega) (show c % 128 * 2 ^ (7 * i)<18446744073709551616 by omega),zJ9 (k:=.u64) hu0 hu hm.1 (show u+c % 128 * 2 ^ (7 * i)<18446744073709551616 by omega)]
   rw [e1]
   by_cases hc1:c≥128
   ·rw [show c % 128=c - 128 by omega]
    simp (disch:=omega) only [if_pos]
    rw [show c % 128=c - 128 by omega] at b1 b2
    have hi8:i≤8:=by omega
    have:=zGU i
    have h2:=zDK (show c - 128≤127 by omega) (show 0≤(2:Int) ^ (7 * i) by omega)
    have:=ih (i+1) (u+(c - 128) * 2 ^ (7 * i)) (by omega) (by omega) (by omega) (by rw [uF hd];rw [hd] at hn;simp at hn;omega)
    rw [uF hd] at this
    exact this
   ·rw [show c % 128=c by omega] at b1 b2 ⊢
    by_cases h0:c=0∧(i:Int)>0
    ·simp (disch:=omega) only [if_pos,if_neg]
     exact ⟨_,rfl,rfl⟩
    ·rw [zFq ⟨by omega,b2⟩]
     simp (disch:=omega) only [if_neg]
     exact ⟨_,rfl,rfl⟩
theorem zI7 {F:Nat} {b:List Int} (hb:∀ x∈b,xJ x) (hl:b.length≤4611686018427387904):∀ (n i:Nat) (u:Int),i≤9→0≤u→u<2 ^ (7 * i)→10 - i<n →
  ∃ o,pY F b n u (2 ^ (7 * i)) i=some o∧zOm (0,0,10) o=vrd (b.drop i) i u:=by
 intro n
 induction n with
 | zero=>intro i u _ _ _ h;omega
 | succ n ih =>
  intro i u hi hu0 hu hn
  show ∃ o,kO F b (pY F b n) u (2 ^ (7 * i)) i=some o∧_
  unfold kO
  rw [y4 (show (i:Int)<10 by omega),cond_true]
  rcases hd:b.drop i with _ | ⟨c,r⟩
  ·have:=drop_nil hd
   simp (disch:=omega) only [y4,cond_true]
   exact ⟨_,rfl,rfl⟩
  ·have hlt:=pF hd
   have hc:xJ c:=hb c (List.mem_of_mem_drop (hd ▸ List.mem_cons_self))
   unfold xJ at hc
   have hp:=zBD i
   have hm:0≤c % 128∧c % 128≤127∧c % 128≤c:=by omega
   rw [yR (show ¬ ((i:Int)≥(b.length:Int)) by omega),cond_false]
   simp (disch:=omega) only [vH hd,Option.bind_some,Bool.cond_eq_ite,Bool.and_eq_true,beq_iff_eq,decide_eq_true_eq,vrd,w64,zLl,zFN]
   by_cases h9:(i:Int)=9∧c>1
   ·simp (disch:=omega) only [if_pos]
    exact ⟨_,rfl,rfl⟩
   rw [if_neg h9,if_neg (show ¬(i=9∧1<c) by omega)]
   obtain ⟨b1,b2⟩:=zGg hi h9 hu hu0 hm.1 hm.2.1 hm.2.2
   simp (disch:=omega) only [zLl]
   by_cases h0:c=0∧(i:Int)>0
   ·simp (disch:=omega) only [if_pos,if_neg]
    exact ⟨_,rfl,rfl⟩
   by_cases hc1:c≥128
   ·rw [show c % 128=c - 128 by omega]
    have hi8:i≤8:=by omega
    have:=zGU i
    have:=zIf hi8
    have h2:=zDK (show c - 128≤127 by omega) (show 0≤(2:Int) ^ (7 * i) by omega)
    have h3:0≤(c - 128) * (2:Int) ^ (7 * i):=Int.mul_nonneg (by omega) (by omega)
    rw [zLl (x:=2 ^ (7 * i) * 128) (by omega) (by omega),show (2:Int) ^ (7 * i) * 128=2 ^ (7 * (i+1)) by omega]
    simp (disch:=omega) only [if_pos,if_neg]
    have:=ih (i+1) (u+(c - 128) * 2 ^ (7 * i)) (by omega) (by omega) (by omega) (by omega)
    rw [uF hd] at this
    exact this
   ·rw [show c % 128=c by omega] at b1 b2 ⊢
    rw [zHh ⟨by omega,b2⟩]
    simp (disch:=omega) only [if_pos,if_neg]
    exact ⟨_,rfl,rfl⟩
theorem zEd {F:Nat} {b:List Int} (hb:∀ x∈b,xJ x) (hl:b.length≤4611686018427387904) (hF:b.length<F):zAU F b=some (vrd b 0 0):=by
 obtain ⟨o,h1,h2⟩:=zGL (F:=F) hb hl F 0 0 (by omega) (by omega) (by decide) (by simpa using hF)
 unfold zAU
 simp only [List.drop_zero] at h2
 rw [show j6 F b F (0:Int) 0=some o from h1,← h2]
 cases o<;>rfl
theorem zLg {F:Nat} {b:List Int} (hb:∀ x∈b,xJ x) (hl:b.length≤4611686018427387904) (hF:10<F):zDb F b=some (vrd b 0 0):=by
 obtain ⟨o,h1,h2⟩:=zI7 (F:=F) hb hl F 0 0 (by omega) (by omega) (by decide) (by omega)
 unfold zDb
 simp only [List.drop_zero] at h2
 rw [show pY F b F (0:Int) 1 0=some o from h1,← h2]
 cases o<;>rfl
def wT:Nat→Int→List Int
 | 0,u=>[u]
 | k+1,u=>if u<128 then [u] else (u % 128+128)::wT k (u / 128)
theorem kV (k:Nat) (u:Int):1≤(wT k u).length∧(wT k u).length≤k+1:=by
 induction k generalizing u with
 | zero=>simp [wT]
 | succ k ih =>
  simp only [wT];split
  ·simp
  ·have:=ih (u / 128);simp;omega
theorem zOo (k:Nat):(128:Int) ^ (k+1)=128 * 128 ^ k:=by rw [Int.pow_succ];omega
theorem zIJ {k:Nat} {u:Int} (h:u<128 ^ (k+1+1)):u / 128<128 ^ (k+1):=by
 have:=zOo (k+1);omega
theorem zN0 {k:Nat} {u:Int} (h0:0≤u) (h:u<128 ^ (k+1)):∀ x∈wT k u,xJ x:=by
 induction k generalizing u with
 | zero=>intro x hx;simp [wT] at hx;subst hx;simp at h;unfold xJ;omega
 | succ k ih =>
  intro x hx
  simp only [wT] at hx
  split at hx
  ·simp at hx;subst hx;unfold xJ;omega
  ·rcases List.mem_cons.1 hx with rfl | hx
   ·unfold xJ;omega
   ·exact ih (by omega) (zIJ h) x hx
theorem zGY {u:Int} (h:u≤18446744073709551615):u<128 ^ (9+1):=by
 have:(128:Int) ^ (9+1)=1180591620717411303424:=by decide
 omega
theorem zG3 (p r:List Int) (x v:Int):(p++x::r).set p.length v=p++v::r:=by
 rw [List.set_append_right _ _ (Nat.le_refl _)];simp
theorem zG6 (p r:List Int) (x:Int):(p++x::r)[p.length]?=some x:=by
 rw [List.getElem?_append_right (Nat.le_refl _)];simp
theorem zEO {F:Nat}:∀ (k n:Nat) (u:Int) (p r:List Int),0≤u→u≤18446744073709551615→u<128 ^ (k+1)→k<n→p.length+k+1=10→r.length=k+1 →
  ∃ (m:Nat) (l:List Int),uW F n (p.length:Int) u (p++r)=some (((m:Nat):Int),l)∧l.take m=p++wT k u∧m≤10∧l.length=10:=by
 intro k
 induction k with
 | zero =>
  intro n u p r h0 h1 h2 hn hp hr
  obtain ⟨n,rfl⟩:∃ m,n=m+1:=⟨n - 1,by omega⟩
  simp at h2
  match r,hr with
  | x::r,hr =>
   show ∃ (m:Nat) (l:List Int),vV F (uW F n) (p.length:Int) u (p++x::r)=some (((m:Nat):Int),l)∧_
   unfold vV
   rw [xO (by omega),Option.bind_some,Int.toNat_natCast,zG6,Option.bind_some,y4 h2,cond_true,zE5 h0 h1,zG3]
   simp (disch:=omega) only [w64,wu8]
   refine ⟨p.length+1,_,rfl,?_,by omega,by simp only [List.length_append,List.length_cons] at hr ⊢;omega⟩
   rw [show u % 128=u by omega,show p++u::r=(p++[u])++r by simp,List.take_left' (by simp)]
   rfl
 | succ k ih =>
  intro n u p r h0 h1 h2 hn hp hr
  obtain ⟨n,rfl⟩:∃ m,n=m+1:=⟨n - 1,by omega⟩
  match r,hr with
  | x::r,hr =>
   show ∃ (m:Nat) (l:List Int),vV F (uW F n) (p.length:Int) u (p++x::r)=some (((m:Nat):Int),l)∧_
   unfold vV
   rw [xO (by omega),Option.bind_some,Int.toNat_natCast,zG6,Option.bind_some,zE5 h0 h1,zG3]
   by_cases hu:u<128
   ·rw [y4 hu,cond_true]
    simp (disch:=omega) only [w64,wu8]
    refine ⟨p.length+1,_,rfl,?_,by omega,by simp only [List.length_append,List.length_cons] at hr ⊢;omega⟩
    rw [show u % 128=u by omega,show p++u::r=(p++[u])++r by simp,List.take_left' (by simp)]
    simp [wT,hu]
   ·rw [yR hu,cond_false]
    simp (disch:=omega) only [w64,wu8]
    rw [show (p.length:Int)+1 - 1=(p.length:Int) by omega,xO (by omega),Option.bind_some,Int.toNat_natCast,zG6,Option.bind_some,Option.bind_some,Option.bind_some,zG3,zNU (by omega) (by omega)]
    have e1:nT .u64 u 7=u / 128:=by
     have:=zIb (k:=.u64) (x:=u) (s:=7) h0 (by decide)
     simpa using this
    rw [e1,show p++(u % 128+128)::r=(p++[u % 128+128])++r by simp]
    obtain ⟨m,l,q1,q2,q3,q4⟩:=ih n (u / 128) (p++[u % 128+128]) r (by omega) (by omega) (zIJ h2) (by omega) (by simp;omega) (by simpa using hr)
    refine ⟨m,l,?_,?_,q3,q4⟩
    ·rw [← q1];simp
    ·rw [q2];simp only [wT,if_neg hu,List.append_assoc,List.singleton_append]
theorem zNu {α:Type} (l:List α):sub l 0 (l.length:Int)=l:=by simp [sub]
theorem tQ {F:Nat} {b:List Int} {n:Int} (hn:yS n) (hl:b.length≤140737488355000) (hF:9<F):x9 F b n=some (b++wT 9 (wF n)):=by
 have hz:=zCi hn
 unfold x9
 obtain ⟨m,l,e1,e2,e3,e4⟩:=zEO (F:=F) 9 F (wF n) [] (List.replicate 10 0) hz.1 hz.2 (zGY hz.2) hF (by rfl) (by rfl)
 rw [List.nil_append] at e1 e2
 rw [zF3 hn,Option.bind_some,show uW F F 0 (wF n) (List.replicate 10 0)=some ((m:Int),l) from e1,Option.bind_some]
 have hv:=(kV 9 (wF n)).2
 simp only [Int.toNat_natCast,List.drop_zero,zNu,e2]
 have hv1:=(kV 9 (wF n)).1
 rw [xO (by omega),Option.bind_some,xO (by omega),Option.bind_some,xO (by omega),Option.bind_some,xO (.inl hv1),Option.bind_some]
theorem zAg {l:List Int} {i:Nat} {u:Int} (hl:∀ x∈l,xJ x) (hi:i≤9) (h0:0≤u) (h1:u<2 ^ (7 * i)) :
  yS (vrd l i u).1∧((vrd l i u).2.2=0→(i:Int)<(vrd l i u).2.1∧(vrd l i u).2.1≤10∧(vrd l i u).2.1≤i+l.length)∧((vrd l i u).2.2=0∨(vrd l i u).1=0∧(vrd l i u).2.1=0∧((vrd l i u).2.2=8∨(vrd l i u).2.2=10)):=by
 induction l generalizing i u with
 | nil=>simp [vrd,yS]
 | cons c r ih =>
  have hc:xJ c:=hl c (by simp)
  unfold xJ at hc
  have hp:=zBD i
  simp only [vrd]
  by_cases h9:i=9∧1<c
  ·rw [if_pos h9];simp [yS]
  rw [if_neg h9]
  obtain ⟨b1,b2⟩:=zGg (c:=c) (a:=c % 128) hi (by omega) h1 h0 (by omega) (by omega) (by omega)
  by_cases hc1:128≤c
  ·rw [if_pos hc1]
   have:=zGU i
   have h2:=zDK (show c - 128≤127 by omega) (show 0≤(2:Int) ^ (7 * i) by omega)
   have h3:0≤(c - 128) * (2:Int) ^ (7 * i):=Int.mul_nonneg (by omega) (by omega)
   obtain ⟨k1,k2,k3⟩:=ih (i:=i+1) (u:=u+(c - 128) * 2 ^ (7 * i)) (fun x hx=>hl x (by simp [hx])) (by omega) (by omega) (by omega)
   refine ⟨k1,fun h=>?_,k3⟩
   have:=k2 h
   simp only [List.length_cons];omega
  ·rw [if_neg hc1]
   by_cases h0:c=0∧0<i
   ·rw [if_pos h0];simp [yS]
   ·rw [if_neg h0]
    rw [show c % 128=c by omega] at b1 b2
    refine ⟨zLb ⟨by omega,b2⟩,fun _=>?_,.inl rfl⟩
    simp only [List.length_cons];omega
theorem zMW {k:Nat} {i:Nat} {u v:Int} {more:List Int} (hi:i+k≤9) (hv0:0≤v) (hv:v<128 ^ (k+1)) (hz:v=0→i=0) (hb:u+v * 2 ^ (7 * i)≤18446744073709551615) (h0:0≤u) :
  vrd (wT k v++more) i u=(zA7 (u+v * 2 ^ (7 * i)),((i+(wT k v).length:Nat):Int),0):=by
 have last:∀ {i:Nat} {u v:Int} {more:List Int},i≤9→0≤v→v<128→(v=0→i=0)→u+v * 2 ^ (7 * i)≤18446744073709551615→0≤u→vrd (v::more) i u=(zA7 (u+v * 2 ^ (7 * i)),((i+1:Nat):Int),0):=by
  intro i u v more hi hv0 hv hz hb h0
  simp only [vrd]
  have h9:¬(i=9∧1<v):=by
   rintro ⟨rfl,h⟩
   have:=zDK (show 2≤v by omega) (show (0:Int)≤2 ^ (7 * 9) by decide)
   omega
  rw [if_neg h9,if_neg (by omega),if_neg (by omega)]
  rfl
 induction k generalizing i u v with
 | zero=>exact last (by omega) hv0 (by simpa using hv) hz hb h0
 | succ k ih =>
  simp only [wT]
  by_cases hs:v<128
  ·rw [if_pos hs];exact last (by omega) hv0 hs hz hb h0
  ·rw [if_neg hs,List.cons_append]
   simp only [vrd]
   rw [if_neg (by omega),if_pos (by omega),show v % 128+128 - 128=v % 128 by omega]
   have e:u+v % 128 * 2 ^ (7 * i)+v / 128 * 2 ^ (7 * (i+1))=u+v * 2 ^ (7 * i):=by
    have h1:v * (2:Int) ^ (7 * i)=(v % 128+128 * (v / 128)) * 2 ^ (7 * i):=by rw [Int.emod_add_mul_ediv]
    rw [h1,zGU,Int.add_mul,Int.add_assoc,← Int.mul_assoc,Int.mul_comm (v / 128) 128]
   have hp:(0:Int)≤v % 128 * 2 ^ (7 * i):=Int.mul_nonneg (by omega) (by have:=zBD i;omega)
   rw [ih (i:=i+1) (u:=u+v % 128 * 2 ^ (7 * i)) (v:=v / 128) (by omega) (by omega) (zIJ hv) (by omega) (by rw [e];exact hb) (by omega),e]
   simp only [List.length_cons]
   congr 3;omega
theorem zGi {l:List Int} {i:Nat} {u:Int} (hl:∀ x∈l,xJ x) (hi:i≤9) (h0:0≤u) (h1:u<2 ^ (7 * i)) (he:(vrd l i u).2.2=0) :
  ∃ v,0≤v∧(v=0→i=0)∧u+v * 2 ^ (7 * i)≤18446744073709551615∧(vrd l i u).1=zA7 (u+v * 2 ^ (7 * i))∧l.take ((vrd l i u).2.1 - i).toNat=wT (9 - i) v:=by
 induction l generalizing i u with
 | nil=>simp [vrd] at he
 | cons c r ih =>
  have hc:xJ c:=hl c (by simp)
  unfold xJ at hc
  have hp:=zBD i
  simp only [vrd] at he ⊢
  by_cases h9:i=9∧1<c
  ·rw [if_pos h9] at he;simp at he
  rw [if_neg h9] at he ⊢
  obtain ⟨b1,b2⟩:=zGg (c:=c) (a:=c % 128) hi (by omega) h1 h0 (by omega) (by omega) (by omega)
  by_cases hc1:128≤c
  ·rw [if_pos hc1] at he ⊢
   have:=zGU i
   have h2:=zDK (show c - 128≤127 by omega) (show 0≤(2:Int) ^ (7 * i) by omega)
   have h3:0≤(c - 128) * (2:Int) ^ (7 * i):=Int.mul_nonneg (by omega) (by omega)
   have hr:∀ x∈r,xJ x:=fun x hx=>hl x (by simp [hx])
   obtain ⟨v,k1,k2,k3,k4,k5⟩:=ih (i:=i+1) (u:=u+(c - 128) * 2 ^ (7 * i)) hr (by omega) (by omega) (by omega) he
   obtain ⟨_,r2,_⟩:=zAg (i:=i+1) (u:=u+(c - 128) * 2 ^ (7 * i)) hr (by omega) (by omega) (by omega)
   have r2:=r2 he
   have e:u+(c - 128+128 * v) * 2 ^ (7 * i)=u+(c - 128) * 2 ^ (7 * i)+v * 2 ^ (7 * (i+1)):=by
    rw [zGU,Int.add_mul,Int.add_assoc,← Int.mul_assoc,Int.mul_comm v 128]
   refine ⟨c - 128+128 * v,by omega,by omega,by rw [e];exact k3,by rw [e];exact k4,?_⟩
   generalize vrd r (i+1) (u+(c - 128) * 2 ^ (7 * i))=q at *
   obtain ⟨m,hm⟩:∃ m:Nat,q.2.1=i+1+m:=⟨(q.2.1 - (i+1)).toNat,by omega⟩
   rw [hm] at k5 ⊢
   rw [show ((i:Int)+1+m - i).toNat=m+1 by omega,List.take_succ_cons]
   rw [show ((i:Int)+1+m - ((i+1:Nat):Int)).toNat=m by omega] at k5
   rw [k5,show 9 - i=(9 - (i+1))+1 by omega]
   simp only [wT]
   rw [if_neg (by omega)]
   congr 1
   ·omega
   ·congr 1;omega
  ·rw [if_neg hc1] at he ⊢
   by_cases hz:c=0∧0<i
   ·rw [if_pos hz] at he;simp at he
   ·rw [if_neg hz] at he ⊢
    rw [show c % 128=c by omega] at b1 b2
    refine ⟨c,by omega,by omega,b2,rfl,?_⟩
    simp only
    rw [show ((i:Int)+1 - i).toNat=1 by omega]
    show [c]=_
    rcases hk:9 - i with _ | k
    ·rfl
    ·simp only [wT];rw [if_pos (by omega)]
theorem zKc {n:Int} {more:List Int} (hn:yS n):vrd (wT 9 (wF n)++more) 0 0=(n,((wT 9 (wF n)).length:Int),0):=by
 have hz:=zCi hn
 have:=zMW (k:=9) (i:=0) (u:=0) (v:=wF n) (more:=more) (by omega) hz.1 (zGY hz.2) (fun _=>rfl) (by have:=hz.2;simpa using this) (by omega)
 rw [this]
 simp [zL9]
theorem zIw {n:Int} (hn:yS n):∀ x∈wT 9 (wF n),xJ x:=zN0 (zCi hn).1 (zGY (zCi hn).2)
theorem zOp {l m:List Int} (hl:∀ x∈l,xJ x) (hm:∀ x∈m,xJ x):∀ x∈l++m,xJ x:=by
 intro x hx;rcases List.mem_append.1 hx with h | h
 ·exact hl x h
 ·exact hm x h
end Go.Ab
