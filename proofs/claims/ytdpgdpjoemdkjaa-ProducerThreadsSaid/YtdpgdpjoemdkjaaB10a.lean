/- Plain laws of the functions wP this seat's, laid anew from another seat's text. No conditions but those that the theorems name. -/
import Derived.Test.YtdpgdpjoemdkjaaP10xD
import Derived.Test.YtdpgdpjoemdkjaaA35
namespace Go.Ab
open Go
set_option linter.unusedVariables false
def vI (n:Int):Int:=if n<0 then -2 * n - 1 else 2 * n
def pQ (u:Int):Int:=if u % 2=1 then -(u / 2) - 1 else u / 2
theorem zBZ {n:Int} (h:yC n):zBi (vI n):=by unfold yC at h;unfold zBi vI;split<;>omega
theorem zIU {u:Int} (h:zBi u):yC (pQ u):=by unfold zBi at h;unfold yC pQ;split<;>omega
theorem zJC (n:Int):pQ (vI n)=n:=by unfold pQ vI;split<;>split<;>omega
theorem zFC {u:Int} (h:0≤u):vI (pQ u)=u:=by unfold pQ vI;split<;>split<;>omega
theorem zDK {u:Int} (h:zBi u):jK u=some (pQ u):=by
 unfold zBi at h
 unfold jK
 have e1:pG .u64 u 1=u / 2:=by
  have:=zK4 (k:=.u64) (x:=u) (s:=1) h.1 (by decide)
  simpa using this
 rw [e1,zKx h.1 h.2,w64 (x:=u / 2) (by omega) (by omega),w64 (x:=u % 2) (by omega) (by omega),w64 (x:=0 - u % 2) (by omega) (by omega)]
 unfold pQ
 split
 ·rename_i h1
  rw [h1,show (0:Int) - 1 = -1 from rfl,zHg (by omega) (by omega)]
 ·rename_i h1
  rw [show (0:Int) - u % 2=0 by omega,zFY (by omega) (by omega)]
theorem zEZ {u:Int} (h:zBi u):kX u=some (pQ u):=by
 unfold zBi at h
 unfold kX
 rw [zDT h.1,zKZ (k:=.u64) h.1 (show u<2 ^ 64 by omega) (by omega)]
 simp only [Bool.cond_eq_ite,beq_iff_eq]
 unfold pQ
 simp (disch:=omega) only [w64,Int.zero_sub]
 split<;>rfl
def vrd:List Int→Nat→Int→Int×Int×Int
 | [],_,_=>(0,0,8)
 | c::r,i,u =>
  if i=9∧1<c then (0,0,10) else
  if 128≤c then vrd r (i+1) (u+(c - 128) * 2 ^ (7 * i)) else
  if c=0∧0<i then (0,0,10) else (pQ (u+c * 2 ^ (7 * i)),(i:Int)+1,0)
theorem zFo (i:Nat):(2:Int) ^ (7 * (i+1))=128 * 2 ^ (7 * i):=by
 rw [Nat.mul_add,Int.pow_add];omega
theorem nI (i:Nat):(1:Int)≤2 ^ (7 * i):=by
 have:(0:Int)<2 ^ (7 * i):=Int.pow_pos (by decide)
 omega
theorem zGK {i:Nat} (h:i≤8):(2:Int) ^ (7 * i)≤72057594037927936:=by
 have:=Nat.pow_le_pow_right (n:=2) (by decide) (show 7 * i≤56 by omega)
 have h2:(((2 ^ (7 * i):Nat)):Int)=2 ^ (7 * i):=by simp
 have h3:(2:Nat) ^ 56=72057594037927936:=rfl
 omega
theorem zB9 {a m q:Int} (h:a≤m) (hq:0≤q):a * q≤m * q:=Int.mul_le_mul_of_nonneg_right h hq
theorem zEC {i:Nat} {u a c:Int} (hi:i≤9) (h9:¬((i:Int)=9∧c>1)) (hu:u<2 ^ (7 * i)) (hu0:0≤u) (ha:0≤a) (ha1:a≤127) (hac:a≤c) :
  0≤a * 2 ^ (7 * i)∧u+a * 2 ^ (7 * i)≤18446744073709551615:=by
 have hp:=nI i
 refine ⟨Int.mul_nonneg ha (by omega),?_⟩
 rcases Nat.lt_or_ge i 9 with h | h
 ·have:=zGK (show i≤8 by omega)
  have:=zB9 ha1 (show 0≤(2:Int) ^ (7 * i) by omega)
  omega
 ·obtain rfl:i=9:=by omega
  have:=zB9 (show a≤1 by omega) (show 0≤(2:Int) ^ (7 * 9) by omega)
  omega
def zMq (e:Int×Int×Int) (o:Unit⊕(Int×Int×Int)):Int×Int×Int:=match o with | .inl _=>e | .inr q=>q
theorem zEY {F:Nat} {b:List Int} (hb:∀ x∈b,yP x) (hl:b.length≤4611686018427387904):∀ (n i:Nat) (u:Int),i≤9→0≤u→u<2 ^ (7 * i)→(b.drop i).length<n →
  ∃ o,u7 F b n u i=some o∧zMq (0,0,8) o=vrd (b.drop i) i u:=by
 intro n
 induction n with
 | zero=>intro i u _ _ _ h;omega
 | succ n ih =>
  intro i u hi hu0 hu hn
  show ∃ o,uU F b (u7 F b n) u i=some o∧_
  unfold uU
  rcases hd:b.drop i with _ | ⟨c,r⟩
  ·have:=pA hd
   simp (disch:=omega) only [yH,cond_false]
   exact ⟨_,rfl,rfl⟩
  ·have hlt:=pM hd
   have hc:yP c:=hb c (List.mem_of_mem_drop (hd ▸ List.mem_cons_self))
   unfold yP at hc
   have hp:=nI i
   rw [yR (show (i:Int)<(b.length:Int) by omega),cond_true]
   simp (disch:=omega) only [vS hd,Option.bind_some,Bool.cond_eq_ite,Bool.and_eq_true,beq_iff_eq,decide_eq_true_eq,vrd,w64,wG,zKI,zIJ]
   have h7:(7:Int) * (i:Int)=((7 * i:Nat):Int):=by omega
   by_cases h9:(i:Int)=9∧c>1
   ·simp (disch:=omega) only [if_pos]
    exact ⟨_,rfl,rfl⟩
   rw [if_neg h9,if_neg (show ¬(i=9∧1<c) by omega)]
   have hm:0≤c % 128∧c % 128≤127∧c % 128≤c:=by omega
   obtain ⟨b1,b2⟩:=zEC hi h9 hu hu0 hm.1 hm.2.1 hm.2.2
   have e1:ior .u64 u (jG .u64 (c % 128) (7 * (i:Int)))=u+c % 128 * 2 ^ (7 * i):=by
    rw [h7,zKS (k:=.u64) hm.1 (by simp only [IntKind.bits];omega) (show c % 128 * 2 ^ (7 * i)<18446744073709551616 by omega),zLS (k:=.u64) hu0 hu hm.1 (show u+c % 128 * 2 ^ (7 * i)<18446744073709551616 by omega)]
   rw [e1]
   by_cases hc1:c≥128
   ·rw [show c % 128=c - 128 by omega]
    simp (disch:=omega) only [if_pos]
    rw [show c % 128=c - 128 by omega] at b1 b2
    have hi8:i≤8:=by omega
    have:=zFo i
    have h2:=zB9 (show c - 128≤127 by omega) (show 0≤(2:Int) ^ (7 * i) by omega)
    have:=ih (i+1) (u+(c - 128) * 2 ^ (7 * i)) (by omega) (by omega) (by omega) (by rw [uD hd];rw [hd] at hn;simp at hn;omega)
    rw [uD hd] at this
    exact this
   ·rw [show c % 128=c by omega] at b1 b2 ⊢
    by_cases h0:c=0∧(i:Int)>0
    ·simp (disch:=omega) only [if_pos,if_neg]
     exact ⟨_,rfl,rfl⟩
    ·rw [zDK ⟨by omega,b2⟩]
     simp (disch:=omega) only [if_neg]
     exact ⟨_,rfl,rfl⟩
theorem zG9 {F:Nat} {b:List Int} (hb:∀ x∈b,yP x) (hl:b.length≤4611686018427387904):∀ (n i:Nat) (u:Int),i≤9→0≤u→u<2 ^ (7 * i)→10 - i<n →
  ∃ o,jB F b n u (2 ^ (7 * i)) i=some o∧zMq (0,0,10) o=vrd (b.drop i) i u:=by
 intro n
 induction n with
 | zero=>intro i u _ _ _ h;omega
 | succ n ih =>
  intro i u hi hu0 hu hn
  show ∃ o,tV F b (jB F b n) u (2 ^ (7 * i)) i=some o∧_
  unfold tV
  rw [yR (show (i:Int)<10 by omega),cond_true]
  rcases hd:b.drop i with _ | ⟨c,r⟩
  ·have:=pA hd
   simp (disch:=omega) only [yR,cond_true]
   exact ⟨_,rfl,rfl⟩
  ·have hlt:=pM hd
   have hc:yP c:=hb c (List.mem_of_mem_drop (hd ▸ List.mem_cons_self))
   unfold yP at hc
   have hp:=nI i
   have hm:0≤c % 128∧c % 128≤127∧c % 128≤c:=by omega
   rw [yH (show ¬ ((i:Int)≥(b.length:Int)) by omega),cond_false]
   simp (disch:=omega) only [vS hd,Option.bind_some,Bool.cond_eq_ite,Bool.and_eq_true,beq_iff_eq,decide_eq_true_eq,vrd,w64,zIJ,zDT]
   by_cases h9:(i:Int)=9∧c>1
   ·simp (disch:=omega) only [if_pos]
    exact ⟨_,rfl,rfl⟩
   rw [if_neg h9,if_neg (show ¬(i=9∧1<c) by omega)]
   obtain ⟨b1,b2⟩:=zEC hi h9 hu hu0 hm.1 hm.2.1 hm.2.2
   simp (disch:=omega) only [zIJ]
   by_cases h0:c=0∧(i:Int)>0
   ·simp (disch:=omega) only [if_pos,if_neg]
    exact ⟨_,rfl,rfl⟩
   by_cases hc1:c≥128
   ·rw [show c % 128=c - 128 by omega]
    have hi8:i≤8:=by omega
    have:=zFo i
    have:=zGK hi8
    have h2:=zB9 (show c - 128≤127 by omega) (show 0≤(2:Int) ^ (7 * i) by omega)
    have h3:0≤(c - 128) * (2:Int) ^ (7 * i):=Int.mul_nonneg (by omega) (by omega)
    rw [zIJ (x:=2 ^ (7 * i) * 128) (by omega) (by omega),show (2:Int) ^ (7 * i) * 128=2 ^ (7 * (i+1)) by omega]
    simp (disch:=omega) only [if_pos,if_neg]
    have:=ih (i+1) (u+(c - 128) * 2 ^ (7 * i)) (by omega) (by omega) (by omega) (by omega)
    rw [uD hd] at this
    exact this
   ·rw [show c % 128=c by omega] at b1 b2 ⊢
    rw [zEZ ⟨by omega,b2⟩]
    simp (disch:=omega) only [if_pos,if_neg]
    exact ⟨_,rfl,rfl⟩
theorem zCx {F:Nat} {b:List Int} (hb:∀ x∈b,yP x) (hl:b.length≤4611686018427387904) (hF:b.length<F):pI F b=some (vrd b 0 0):=by
 obtain ⟨o,h1,h2⟩:=zEY (F:=F) hb hl F 0 0 (by omega) (by omega) (by decide) (by simpa using hF)
 unfold pI
 simp only [List.drop_zero] at h2
 rw [show u7 F b F (0:Int) 0=some o from h1,← h2]
 cases o<;>rfl
theorem zI3 {F:Nat} {b:List Int} (hb:∀ x∈b,yP x) (hl:b.length≤4611686018427387904) (hF:10<F):zBD F b=some (vrd b 0 0):=by
 obtain ⟨o,h1,h2⟩:=zG9 (F:=F) hb hl F 0 0 (by omega) (by omega) (by decide) (by omega)
 unfold zBD
 simp only [List.drop_zero] at h2
 rw [show jB F b F (0:Int) 1 0=some o from h1,← h2]
 cases o<;>rfl
def wM:Nat→Int→List Int
 | 0,u=>[u]
 | k+1,u=>if u<128 then [u] else (u % 128+128)::wM k (u / 128)
theorem zHH (k:Nat) (u:Int):1≤(wM k u).length∧(wM k u).length≤k+1:=by
 induction k generalizing u with
 | zero=>simp [wM]
 | succ k ih =>
  simp only [wM];split
  ·simp
  ·have:=ih (u / 128);simp;omega
theorem zL8 (k:Nat):(128:Int) ^ (k+1)=128 * 128 ^ k:=by rw [Int.pow_succ];omega
theorem zKf {k:Nat} {u:Int} (h:u<128 ^ (k+1+1)):u / 128<128 ^ (k+1):=by
 have:=zL8 (k+1);omega
theorem zLO {k:Nat} {u:Int} (h0:0≤u) (h:u<128 ^ (k+1)):∀ x∈wM k u,yP x:=by
 induction k generalizing u with
 | zero=>intro x hx;simp [wM] at hx;subst hx;simp at h;unfold yP;omega
 | succ k ih =>
  intro x hx
  simp only [wM] at hx
  split at hx
  ·simp at hx;subst hx;unfold yP;omega
  ·rcases List.mem_cons.1 hx with rfl | hx
   ·unfold yP;omega
   ·exact ih (by omega) (zKf h) x hx
theorem zII {u:Int} (h:u≤18446744073709551615):u<128 ^ (9+1):=by
 have:(128:Int) ^ (9+1)=1180591620717411303424:=by decide
 omega
theorem j4 {l:List Int} {i:Nat} {u:Int} (hl:∀ x∈l,yP x) (hi:i≤9) (h0:0≤u) (h1:u<2 ^ (7 * i)) :
  yC (vrd l i u).1∧((vrd l i u).2.2=0→(i:Int)<(vrd l i u).2.1∧(vrd l i u).2.1≤10∧(vrd l i u).2.1≤i+l.length)∧((vrd l i u).2.2=0∨(vrd l i u).1=0∧(vrd l i u).2.1=0∧((vrd l i u).2.2=8∨(vrd l i u).2.2=10)):=by
 induction l generalizing i u with
 | nil=>simp [vrd,yC]
 | cons c r ih =>
  have hc:yP c:=hl c (by simp)
  unfold yP at hc
  have hp:=nI i
  simp only [vrd]
  by_cases h9:i=9∧1<c
  ·rw [if_pos h9];simp [yC]
  rw [if_neg h9]
  obtain ⟨b1,b2⟩:=zEC (c:=c) (a:=c % 128) hi (by omega) h1 h0 (by omega) (by omega) (by omega)
  by_cases hc1:128≤c
  ·rw [if_pos hc1]
   have:=zFo i
   have h2:=zB9 (show c - 128≤127 by omega) (show 0≤(2:Int) ^ (7 * i) by omega)
   have h3:0≤(c - 128) * (2:Int) ^ (7 * i):=Int.mul_nonneg (by omega) (by omega)
   obtain ⟨k1,k2,k3⟩:=ih (i:=i+1) (u:=u+(c - 128) * 2 ^ (7 * i)) (fun x hx=>hl x (by simp [hx])) (by omega) (by omega) (by omega)
   refine ⟨k1,fun h=>?_,k3⟩
   have:=k2 h
   simp only [List.length_cons];omega
  ·rw [if_neg hc1]
   by_cases h0:c=0∧0<i
   ·rw [if_pos h0];simp [yC]
   ·rw [if_neg h0]
    rw [show c % 128=c by omega] at b1 b2
    refine ⟨zIU ⟨by omega,b2⟩,fun _=>?_,.inl rfl⟩
    simp only [List.length_cons];omega
theorem zK6 {k:Nat} {i:Nat} {u v:Int} {more:List Int} (hi:i+k≤9) (hv0:0≤v) (hv:v<128 ^ (k+1)) (hz:v=0→i=0) (hb:u+v * 2 ^ (7 * i)≤18446744073709551615) (h0:0≤u) :
  vrd (wM k v++more) i u=(pQ (u+v * 2 ^ (7 * i)),((i+(wM k v).length:Nat):Int),0):=by
 have last:∀ {i:Nat} {u v:Int} {more:List Int},i≤9→0≤v→v<128→(v=0→i=0)→u+v * 2 ^ (7 * i)≤18446744073709551615→0≤u→vrd (v::more) i u=(pQ (u+v * 2 ^ (7 * i)),((i+1:Nat):Int),0):=by
  intro i u v more hi hv0 hv hz hb h0
  simp only [vrd]
  have h9:¬(i=9∧1<v):=by
   rintro ⟨rfl,h⟩
   have:=zB9 (show 2≤v by omega) (show (0:Int)≤2 ^ (7 * 9) by decide)
   omega
  rw [if_neg h9,if_neg (by omega),if_neg (by omega)]
  rfl
 induction k generalizing i u v with
 | zero=>exact last (by omega) hv0 (by simpa using hv) hz hb h0
 | succ k ih =>
  simp only [wM]
  by_cases hs:v<128
  ·rw [if_pos hs];exact last (by omega) hv0 hs hz hb h0
  ·rw [if_neg hs,List.cons_append]
   simp only [vrd]
   rw [if_neg (by omega),if_pos (by omega),show v % 128+128 - 128=v % 128 by omega]
   have e:u+v % 128 * 2 ^ (7 * i)+v / 128 * 2 ^ (7 * (i+1))=u+v * 2 ^ (7 * i):=by
    have h1:v * (2:Int) ^ (7 * i)=(v % 128+128 * (v / 128)) * 2 ^ (7 * i):=by rw [Int.emod_add_mul_ediv]
    rw [h1,zFo,Int.add_mul,Int.add_assoc,← Int.mul_assoc,Int.mul_comm (v / 128) 128]
   have hp:(0:Int)≤v % 128 * 2 ^ (7 * i):=Int.mul_nonneg (by omega) (by have:=nI i;omega)
   rw [ih (i:=i+1) (u:=u+v % 128 * 2 ^ (7 * i)) (v:=v / 128) (by omega) (by omega) (zKf hv) (by omega) (by rw [e];exact hb) (by omega),e]
   simp only [List.length_cons]
   congr 3;omega
theorem zEq {l:List Int} {i:Nat} {u:Int} (hl:∀ x∈l,yP x) (hi:i≤9) (h0:0≤u) (h1:u<2 ^ (7 * i)) (he:(vrd l i u).2.2=0) :
  ∃ v,0≤v∧(v=0→i=0)∧u+v * 2 ^ (7 * i)≤18446744073709551615∧(vrd l i u).1=pQ (u+v * 2 ^ (7 * i))∧l.take ((vrd l i u).2.1 - i).toNat=wM (9 - i) v:=by
 induction l generalizing i u with
 | nil=>simp [vrd] at he
 | cons c r ih =>
  have hc:yP c:=hl c (by simp)
  unfold yP at hc
  have hp:=nI i
  simp only [vrd] at he ⊢
  by_cases h9:i=9∧1<c
  ·rw [if_pos h9] at he;simp at he
  rw [if_neg h9] at he ⊢
  obtain ⟨b1,b2⟩:=zEC (c:=c) (a:=c % 128) hi (by omega) h1 h0 (by omega) (by omega) (by omega)
  by_cases hc1:128≤c
  ·rw [if_pos hc1] at he ⊢
   have:=zFo i
   have h2:=zB9 (show c - 128≤127 by omega) (show 0≤(2:Int) ^ (7 * i) by omega)
   have h3:0≤(c - 128) * (2:Int) ^ (7 * i):=Int.mul_nonneg (by omega) (by omega)
   have hr:∀ x∈r,yP x:=fun x hx=>hl x (by simp [hx])
   obtain ⟨v,k1,k2,k3,k4,k5⟩:=ih (i:=i+1) (u:=u+(c - 128) * 2 ^ (7 * i)) hr (by omega) (by omega) (by omega) he
   obtain ⟨_,r2,_⟩:=j4 (i:=i+1) (u:=u+(c - 128) * 2 ^ (7 * i)) hr (by omega) (by omega) (by omega)
   have r2:=r2 he
   have e:u+(c - 128+128 * v) * 2 ^ (7 * i)=u+(c - 128) * 2 ^ (7 * i)+v * 2 ^ (7 * (i+1)):=by
    rw [zFo,Int.add_mul,Int.add_assoc,← Int.mul_assoc,Int.mul_comm v 128]
   refine ⟨c - 128+128 * v,by omega,by omega,by rw [e];exact k3,by rw [e];exact k4,?_⟩
   generalize vrd r (i+1) (u+(c - 128) * 2 ^ (7 * i))=q at *
   obtain ⟨m,hm⟩:∃ m:Nat,q.2.1=i+1+m:=⟨(q.2.1 - (i+1)).toNat,by omega⟩
   rw [hm] at k5 ⊢
   rw [show ((i:Int)+1+m - i).toNat=m+1 by omega,List.take_succ_cons]
   rw [show ((i:Int)+1+m - ((i+1:Nat):Int)).toNat=m by omega] at k5
   rw [k5,show 9 - i=(9 - (i+1))+1 by omega]
   simp only [wM]
   rw [if_neg (by omega)]
   congr 1
   ·omega
   ·congr 1;omega
  ·rw [if_neg hc1] at he ⊢
   by_cases hz:c=0∧0<i
   ·rw [if_pos hz] at he;simp at he
   ·rw [if_neg hz] at he ⊢
    rw [show c % 128=c by omega] at b1 b2
    refine ⟨c,by omega,by omega,b2,rfl,?_⟩
    simp only
    rw [show ((i:Int)+1 - i).toNat=1 by omega]
    show [c]=_
    rcases hk:9 - i with _ | k
    ·rfl
    ·simp only [wM];rw [if_pos (by omega)]
theorem zIp {n:Int} {more:List Int} (hn:yC n):vrd (wM 9 (vI n)++more) 0 0=(n,((wM 9 (vI n)).length:Int),0):=by
 have hz:=zBZ hn
 have:=zK6 (k:=9) (i:=0) (u:=0) (v:=vI n) (more:=more) (by omega) hz.1 (zII hz.2) (fun _=>rfl) (by have:=hz.2;simpa using this) (by omega)
 rw [this]
 simp [zJC]
theorem zGF {n:Int} (hn:yC n):∀ x∈wM 9 (vI n),yP x:=zLO (zBZ hn).1 (zII (zBZ hn).2)
theorem zMk {l m:List Int} (hl:∀ x∈l,yP x) (hm:∀ x∈m,yP x):∀ x∈l++m,yP x:=by
 intro x hx;rcases List.mem_append.1 hx with h | h
 ·exact hl x h
 ·exact hm x h
end Go.Ab
