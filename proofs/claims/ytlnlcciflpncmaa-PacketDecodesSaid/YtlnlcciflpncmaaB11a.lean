/- Plain laws of the functions uE this seat's, laid anew from another seat's text. No conditions but those that the theorems name. -/
import Derived.Test.YtlnlcciflpncmaaP11xD
import Derived.Test.YtlnlcciflpncmaaA37
namespace Go.Ab
open Go
set_option linter.unusedVariables false
def x9 (n:Int):Int:=if n<0 then -2 * n - 1 else 2 * n
def zFj (u:Int):Int:=if u % 2=1 then -(u / 2) - 1 else u / 2
theorem zB6 {n:Int} (h:yH n):zCP (x9 n):=by unfold yH at h;unfold zCP x9;split<;>omega
theorem zLe {u:Int} (h:zCP u):yH (zFj u):=by unfold zCP at h;unfold yH zFj;split<;>omega
theorem zFR {u:Int} (h:zCP u):pZ u=some (zFj u):=by
 unfold zCP at h
 unfold pZ
 have e1:nJ .u64 u 1=u / 2:=by
  have:=zJh (k:=.u64) (x:=u) (s:=1) h.1 (by decide)
  simpa using this
 rw [e1,zLO h.1 h.2,w64 (x:=u / 2) (by omega) (by omega),w64 (x:=u % 2) (by omega) (by omega),w64 (x:=0 - u % 2) (by omega) (by omega)]
 unfold zFj
 split
 ·rename_i h1
  rw [h1,show (0:Int) - 1 = -1 from rfl,zIT (by omega) (by omega)]
 ·rename_i h1
  rw [show (0:Int) - u % 2=0 by omega,zIm (by omega) (by omega)]
theorem zG9 {u:Int} (h:zCP u):zAB u=some (zFj u):=by
 unfold zCP at h
 unfold zAB
 rw [zFG h.1,zJ7 (k:=.u64) h.1 (show u<2 ^ 64 by omega) (by omega)]
 simp only [Bool.cond_eq_ite,beq_iff_eq]
 unfold zFj
 simp (disch:=omega) only [w64,Int.zero_sub]
 split<;>rfl
theorem zGx {n:Int} (h:yH n):nP n=some (x9 n):=by
 unfold yH at h
 unfold nP
 have e2:nJ .i64 n 63=if n<0 then -1 else 0:=by
  unfold nJ
  simp only [IntKind.bits]
  rw [Int.fdiv_eq_ediv_of_nonneg _ (by decide)]
  split<;>simp<;>omega
 rw [e2]
 unfold x9
 have e1:kL .u64 (zW n) 1=2 * zW n % 18446744073709551616:=by
  unfold kL
  have:=zCG (zW n * 2 ^ (min (1:Int).toNat IntKind.u64.bits))
  simp only [zW] at this ⊢
  rw [this];simp [IntKind.bits];omega
 rw [e1,zCG n]
 split
 ·rw [zCG (-1),show (-1:Int) % 18446744073709551616=18446744073709551615 by decide,zHX (by omega) (by omega)]
  congr 1;omega
 ·rw [zCG 0,show (0:Int) % 18446744073709551616=0 by decide,zH8 (by omega) (by omega)]
  congr 1;omega
theorem zIv {n:Int} (h:yH n):zAR n=some (x9 n):=by
 unfold yH at h
 unfold zAR x9
 simp only [Bool.cond_eq_ite,decide_eq_true_eq]
 split
 ·simp (disch:=omega) only [w64,zHh];congr 1;omega
 ·simp (disch:=omega) only [zHh]
def vrd:List Int→Nat→Int→Int×Int×Int
 | [],_,_=>(0,0,8)
 | c::r,i,u =>
  if i=9∧1<c then (0,0,10) else
  if 128≤c then vrd r (i+1) (u+(c - 128) * 2 ^ (7 * i)) else
  if c=0∧0<i then (0,0,10) else (zFj (u+c * 2 ^ (7 * i)),(i:Int)+1,0)
theorem zM8 (i:Nat):(2:Int) ^ (7 * (i+1))=128 * 2 ^ (7 * i):=by
 rw [Nat.mul_add,Int.pow_add];omega
theorem zDx (i:Nat):(1:Int)≤2 ^ (7 * i):=by
 have:(0:Int)<2 ^ (7 * i):=Int.pow_pos (by decide)
 omega
theorem zJx {i:Nat} (h:i≤8):(2:Int) ^ (7 * i)≤72057594037927936:=by
 have:=Nat.pow_le_pow_right (n:=2) (by decide) (show 7 * i≤56 by omega)
 have h2:(((2 ^ (7 * i):Nat)):Int)=2 ^ (7 * i):=by simp
 have h3:(2:Nat) ^ 56=72057594037927936:=rfl
 omega
theorem zGz {a m q:Int} (h:a≤m) (hq:0≤q):a * q≤m * q:=Int.mul_le_mul_of_nonneg_right h hq
theorem zJs {i:Nat} {u a c:Int} (hi:i≤9) (h9:¬((i:Int)=9∧c>1)) (hu:u<2 ^ (7 * i)) (hu0:0≤u) (ha:0≤a) (ha1:a≤127) (hac:a≤c) :
  0≤a * 2 ^ (7 * i)∧u+a * 2 ^ (7 * i)≤18446744073709551615:=by
 have hp:=zDx i
 refine ⟨Int.mul_nonneg ha (by omega),?_⟩
 rcases Nat.lt_or_ge i 9 with h | h
 ·have:=zJx (show i≤8 by omega)
  have:=zGz ha1 (show 0≤(2:Int) ^ (7 * i) by omega)
  omega
 ·obtain rfl:i=9:=by omega
  have:=zGz (show a≤1 by omega) (show 0≤(2:Int) ^ (7 * 9) by omega)
  omega
def zNZ (e:Int×Int×Int) (o:Unit⊕(Int×Int×Int)):Int×Int×Int:=match o with | .inl _=>e | .inr q=>q
theorem zHA {F:Nat} {b:List Int} (hb:∀ x∈b,y8 x) (hl:b.length≤4611686018427387904):∀ (n i:Nat) (u:Int),i≤9→0≤u→u<2 ^ (7 * i)→(b.drop i).length<n →
  ∃ o,jO F b n u i=some o∧zNZ (0,0,8) o=vrd (b.drop i) i u:=by
 intro n
 induction n with
 | zero=>intro i u _ _ _ h;omega
 | succ n ih =>
  intro i u hi hu0 hu hn
  show ∃ o,jF F b (jO F b n) u i=some o∧_
  unfold jF
  rcases hd:b.drop i with _ | ⟨c,r⟩
  ·have:=wO hd
   simp (disch:=omega) only [z7,cond_false]
   exact ⟨_,rfl,rfl⟩
  ·have hlt:=vA hd
   have hc:y8 c:=hb c (List.mem_of_mem_drop (hd ▸ List.mem_cons_self))
   unfold y8 at hc
   have hp:=zDx i
   rw [z9 (show (i:Int)<(b.length:Int) by omega),cond_true]
   simp (disch:=omega) only [yQ hd,Option.bind_some,Bool.cond_eq_ite,Bool.and_eq_true,beq_iff_eq,decide_eq_true_eq,vrd,w64,yN,zMF,zHh]
   have h7:(7:Int) * (i:Int)=((7 * i:Nat):Int):=by omega
   by_cases h9:(i:Int)=9∧c>1
   ·simp (disch:=omega) only [if_pos]
    exact ⟨_,rfl,rfl⟩
   rw [if_neg h9,if_neg (show ¬(i=9∧1<c) by omega)]
   have hm:0≤c % 128∧c % 128≤127∧c % 128≤c:=by omega
   obtain ⟨b1,b2⟩:=zJs hi h9 hu hu0 hm.1 hm.2.1 hm.2.2
   have e1:ior .u64 u (kL .u64 (c % 128) (7 * (i:Int)))=u+c % 128 * 2 ^ (7 * i):=by
    rw [h7,zM0 (k:=.u64) hm.1 (by simp only [IntKind.bits];omega) (show c % 128 * 2 ^ (7 * i)<18446744073709551616 by omega),zKQ (k:=.u64) hu0 hu hm.1 (show u+c % 128 * 2 ^ (7 * i)<18446744073709551616 by omega)]
   rw [e1]
   by_cases hc1:c≥128
   ·rw [show c % 128=c - 128 by omega]
    simp (disch:=omega) only [if_pos]
    rw [show c % 128=c - 128 by omega] at b1 b2
    have hi8:i≤8:=by omega
    have:=zM8 i
    have h2:=zGz (show c - 128≤127 by omega) (show 0≤(2:Int) ^ (7 * i) by omega)
    have:=ih (i+1) (u+(c - 128) * 2 ^ (7 * i)) (by omega) (by omega) (by omega) (by rw [yD hd];rw [hd] at hn;simp at hn;omega)
    rw [yD hd] at this
    exact this
   ·rw [show c % 128=c by omega] at b1 b2 ⊢
    by_cases h0:c=0∧(i:Int)>0
    ·simp (disch:=omega) only [if_pos,if_neg]
     exact ⟨_,rfl,rfl⟩
    ·rw [zFR ⟨by omega,b2⟩]
     simp (disch:=omega) only [if_neg]
     exact ⟨_,rfl,rfl⟩
theorem zJe {F:Nat} {b:List Int} (hb:∀ x∈b,y8 x) (hl:b.length≤4611686018427387904):∀ (n i:Nat) (u:Int),i≤9→0≤u→u<2 ^ (7 * i)→10 - i<n →
  ∃ o,pK F b n u (2 ^ (7 * i)) i=some o∧zNZ (0,0,10) o=vrd (b.drop i) i u:=by
 intro n
 induction n with
 | zero=>intro i u _ _ _ h;omega
 | succ n ih =>
  intro i u hi hu0 hu hn
  show ∃ o,kF F b (pK F b n) u (2 ^ (7 * i)) i=some o∧_
  unfold kF
  rw [z9 (show (i:Int)<10 by omega),cond_true]
  rcases hd:b.drop i with _ | ⟨c,r⟩
  ·have:=wO hd
   simp (disch:=omega) only [z9,cond_true]
   exact ⟨_,rfl,rfl⟩
  ·have hlt:=vA hd
   have hc:y8 c:=hb c (List.mem_of_mem_drop (hd ▸ List.mem_cons_self))
   unfold y8 at hc
   have hp:=zDx i
   have hm:0≤c % 128∧c % 128≤127∧c % 128≤c:=by omega
   rw [z7 (show ¬ ((i:Int)≥(b.length:Int)) by omega),cond_false]
   simp (disch:=omega) only [yQ hd,Option.bind_some,Bool.cond_eq_ite,Bool.and_eq_true,beq_iff_eq,decide_eq_true_eq,vrd,w64,zHh,zFG]
   by_cases h9:(i:Int)=9∧c>1
   ·simp (disch:=omega) only [if_pos]
    exact ⟨_,rfl,rfl⟩
   rw [if_neg h9,if_neg (show ¬(i=9∧1<c) by omega)]
   obtain ⟨b1,b2⟩:=zJs hi h9 hu hu0 hm.1 hm.2.1 hm.2.2
   simp (disch:=omega) only [zHh]
   by_cases h0:c=0∧(i:Int)>0
   ·simp (disch:=omega) only [if_pos,if_neg]
    exact ⟨_,rfl,rfl⟩
   by_cases hc1:c≥128
   ·rw [show c % 128=c - 128 by omega]
    have hi8:i≤8:=by omega
    have:=zM8 i
    have:=zJx hi8
    have h2:=zGz (show c - 128≤127 by omega) (show 0≤(2:Int) ^ (7 * i) by omega)
    have h3:0≤(c - 128) * (2:Int) ^ (7 * i):=Int.mul_nonneg (by omega) (by omega)
    rw [zHh (x:=2 ^ (7 * i) * 128) (by omega) (by omega),show (2:Int) ^ (7 * i) * 128=2 ^ (7 * (i+1)) by omega]
    simp (disch:=omega) only [if_pos,if_neg]
    have:=ih (i+1) (u+(c - 128) * 2 ^ (7 * i)) (by omega) (by omega) (by omega) (by omega)
    rw [yD hd] at this
    exact this
   ·rw [show c % 128=c by omega] at b1 b2 ⊢
    rw [zG9 ⟨by omega,b2⟩]
    simp (disch:=omega) only [if_pos,if_neg]
    exact ⟨_,rfl,rfl⟩
theorem zA7 {F:Nat} {b:List Int} (hb:∀ x∈b,y8 x) (hl:b.length≤4611686018427387904) (hF:b.length<F):nO F b=some (vrd b 0 0):=by
 obtain ⟨o,h1,h2⟩:=zHA (F:=F) hb hl F 0 0 (by omega) (by omega) (by decide) (by simpa using hF)
 unfold nO
 simp only [List.drop_zero] at h2
 rw [show jO F b F (0:Int) 0=some o from h1,← h2]
 cases o<;>rfl
theorem zDw {F:Nat} {b:List Int} (hb:∀ x∈b,y8 x) (hl:b.length≤4611686018427387904) (hF:10<F):zBo F b=some (vrd b 0 0):=by
 obtain ⟨o,h1,h2⟩:=zJe (F:=F) hb hl F 0 0 (by omega) (by omega) (by decide) (by omega)
 unfold zBo
 simp only [List.drop_zero] at h2
 rw [show pK F b F (0:Int) 1 0=some o from h1,← h2]
 cases o<;>rfl
def vX:Nat→Int→List Int
 | 0,u=>[u]
 | k+1,u=>if u<128 then [u] else (u % 128+128)::vX k (u / 128)
theorem vI (k:Nat) (u:Int):1≤(vX k u).length∧(vX k u).length≤k+1:=by
 induction k generalizing u with
 | zero=>simp [vX]
 | succ k ih =>
  simp only [vX];split
  ·simp
  ·have:=ih (u / 128);simp;omega
theorem zNX (k:Nat):(128:Int) ^ (k+1)=128 * 128 ^ k:=by rw [Int.pow_succ];omega
theorem zI8 {k:Nat} {u:Int} (h:u<128 ^ (k+1+1)):u / 128<128 ^ (k+1):=by
 have:=zNX (k+1);omega
theorem zNL {k:Nat} {u:Int} (h0:0≤u) (h:u<128 ^ (k+1)):∀ x∈vX k u,y8 x:=by
 induction k generalizing u with
 | zero=>intro x hx;simp [vX] at hx;subst hx;simp at h;unfold y8;omega
 | succ k ih =>
  intro x hx
  simp only [vX] at hx
  split at hx
  ·simp at hx;subst hx;unfold y8;omega
  ·rcases List.mem_cons.1 hx with rfl | hx
   ·unfold y8;omega
   ·exact ih (by omega) (zI8 h) x hx
theorem zGH {F:Nat}:∀ (k n:Nat) (u:Int) (row:List Int),0≤u→u≤18446744073709551615→u<128 ^ (k+1)→k<n→row.length+k+2≤140737488355328 →
  ∃ a l,q9 F n u row=some (a,l)∧l++[a]=row++vX k u∧0≤a∧a<128∧l.length≤row.length+k:=by
 intro k
 induction k with
 | zero =>
  intro n u row h0 h1 h2 hn hr
  obtain ⟨n,rfl⟩:∃ m,n=m+1:=⟨n - 1,by omega⟩
  simp at h2
  show ∃ a l,vZ F (q9 F n) u row=some (a,l)∧_
  unfold vZ
  rw [z7 (show ¬ (u≥128) by omega),cond_false]
  exact ⟨u,row,rfl,rfl,h0,h2,by simp⟩
 | succ k ih =>
  intro n u row h0 h1 h2 hn hr
  obtain ⟨n,rfl⟩:∃ m,n=m+1:=⟨n - 1,by omega⟩
  show ∃ a l,vZ F (q9 F n) u row=some (a,l)∧_
  unfold vZ
  by_cases hu:u<128
  ·rw [z7 (show ¬ (u≥128) by omega),cond_false]
   exact ⟨u,row,rfl,by simp [vX,hu],h0,hu,by simp⟩
  ·rw [z9 (show u≥128 by omega),cond_true,yN (by simp;omega),Option.bind_some,zJ7 (k:=.u64) h0 (show u<2 ^ 64 by omega) (by omega),zFG h0]
   simp (disch:=omega) only [wu8]
   obtain ⟨a,l,e1,e2,e3,e4,e5⟩:=ih n (u / 128) (row++[u % 128+128]) (by omega) (by omega) (zI8 h2) (by omega) (by simp;omega)
   refine ⟨a,l,e1,?_,e3,e4,by simp at e5;omega⟩
   rw [e2];simp only [vX,if_neg hu,List.append_assoc,List.singleton_append]
theorem zHq {u:Int} (h:u≤18446744073709551615):u<128 ^ (9+1):=by
 have:(128:Int) ^ (9+1)=1180591620717411303424:=by decide
 omega
theorem uA {F:Nat} {b:List Int} {n:Int} (hn:yH n) (hl:b.length≤140737488355000) (hF:9<F):vN F b n=some (b++vX 9 (x9 n)):=by
 have hz:=zB6 hn
 unfold vN
 obtain ⟨a,l,e1,e2,e3,e4,e5⟩:=zGH (F:=F) 9 F (x9 n) b hz.1 hz.2 (zHq hz.2) hF (by omega)
 rw [yN (by simp;omega),Option.bind_some,zIv hn,Option.bind_some,List.nil_append,e1,Option.bind_some,yN (by simp;omega),Option.bind_some]
 simp (disch:=omega) only [wu8]
 rw [e2]
theorem zHl (p r:List Int) (x v:Int):(p++x::r).set p.length v=p++v::r:=by
 rw [List.set_append_right _ _ (Nat.le_refl _)];simp
theorem zG0 (p r:List Int) (x:Int):(p++x::r)[p.length]?=some x:=by
 rw [List.getElem?_append_right (Nat.le_refl _)];simp
theorem zEQ {F:Nat}:∀ (k n:Nat) (u:Int) (p r:List Int),0≤u→u≤18446744073709551615→u<128 ^ (k+1)→k<n→p.length+k+1=10→r.length=k+1 →
  ∃ (m:Nat) (l:List Int),uP F n (p.length:Int) u (p++r)=some (((m:Nat):Int),l)∧l.take m=p++vX k u∧m≤10∧l.length=10:=by
 intro k
 induction k with
 | zero =>
  intro n u p r h0 h1 h2 hn hp hr
  obtain ⟨n,rfl⟩:∃ m,n=m+1:=⟨n - 1,by omega⟩
  simp at h2
  match r,hr with
  | x::r,hr =>
   show ∃ (m:Nat) (l:List Int),vF F (uP F n) (p.length:Int) u (p++x::r)=some (((m:Nat):Int),l)∧_
   unfold vF
   rw [yN (by omega),Option.bind_some,Int.toNat_natCast,zG0,Option.bind_some,z9 h2,cond_true,zE0 h0 h1,zHl]
   simp (disch:=omega) only [w64,wu8]
   refine ⟨p.length+1,_,rfl,?_,by omega,by simp only [List.length_append,List.length_cons] at hr ⊢;omega⟩
   rw [show u % 128=u by omega,show p++u::r=(p++[u])++r by simp,List.take_left' (by simp)]
   rfl
 | succ k ih =>
  intro n u p r h0 h1 h2 hn hp hr
  obtain ⟨n,rfl⟩:∃ m,n=m+1:=⟨n - 1,by omega⟩
  match r,hr with
  | x::r,hr =>
   show ∃ (m:Nat) (l:List Int),vF F (uP F n) (p.length:Int) u (p++x::r)=some (((m:Nat):Int),l)∧_
   unfold vF
   rw [yN (by omega),Option.bind_some,Int.toNat_natCast,zG0,Option.bind_some,zE0 h0 h1,zHl]
   by_cases hu:u<128
   ·rw [z9 hu,cond_true]
    simp (disch:=omega) only [w64,wu8]
    refine ⟨p.length+1,_,rfl,?_,by omega,by simp only [List.length_append,List.length_cons] at hr ⊢;omega⟩
    rw [show u % 128=u by omega,show p++u::r=(p++[u])++r by simp,List.take_left' (by simp)]
    simp [vX,hu]
   ·rw [z7 hu,cond_false]
    simp (disch:=omega) only [w64,wu8]
    rw [show (p.length:Int)+1 - 1=(p.length:Int) by omega,yN (by omega),Option.bind_some,Int.toNat_natCast,zG0,Option.bind_some,Option.bind_some,Option.bind_some,zHl,zNS (by omega) (by omega)]
    have e1:nJ .u64 u 7=u / 128:=by
     have:=zJh (k:=.u64) (x:=u) (s:=7) h0 (by decide)
     simpa using this
    rw [e1,show p++(u % 128+128)::r=(p++[u % 128+128])++r by simp]
    obtain ⟨m,l,q1,q2,q3,q4⟩:=ih n (u / 128) (p++[u % 128+128]) r (by omega) (by omega) (zI8 h2) (by omega) (by simp;omega) (by simpa using hr)
    refine ⟨m,l,?_,?_,q3,q4⟩
    ·rw [← q1];simp
    ·rw [q2];simp only [vX,if_neg hu,List.append_assoc,List.singleton_append]
theorem zNp {α:Type} (l:List α):sub l 0 (l.length:Int)=l:=by simp [sub]
theorem vO {F:Nat} {b:List Int} {n:Int} (hn:yH n) (hl:b.length≤140737488355000) (hF:9<F):xL F b n=some (b++vX 9 (x9 n)):=by
 have hz:=zB6 hn
 unfold xL
 obtain ⟨m,l,e1,e2,e3,e4⟩:=zEQ (F:=F) 9 F (x9 n) [] (List.replicate 10 0) hz.1 hz.2 (zHq hz.2) hF (by rfl) (by rfl)
 rw [List.nil_append] at e1 e2
 rw [zGx hn,Option.bind_some,show uP F F 0 (x9 n) (List.replicate 10 0)=some ((m:Int),l) from e1,Option.bind_some]
 have hv:=(vI 9 (x9 n)).2
 simp only [Int.toNat_natCast,List.drop_zero,zNp,e2]
 have hv1:=(vI 9 (x9 n)).1
 rw [yN (by omega),Option.bind_some,yN (by omega),Option.bind_some,yN (by omega),Option.bind_some,yN (.inl hv1),Option.bind_some]
theorem zEC {l:List Int} {i:Nat} {u:Int} (hl:∀ x∈l,y8 x) (hi:i≤9) (h0:0≤u) (h1:u<2 ^ (7 * i)) :
  yH (vrd l i u).1∧((vrd l i u).2.2=0→(i:Int)<(vrd l i u).2.1∧(vrd l i u).2.1≤10∧(vrd l i u).2.1≤i+l.length)∧((vrd l i u).2.2=0∨(vrd l i u).1=0∧(vrd l i u).2.1=0∧((vrd l i u).2.2=8∨(vrd l i u).2.2=10)):=by
 induction l generalizing i u with
 | nil=>simp [vrd,yH]
 | cons c r ih =>
  have hc:y8 c:=hl c (by simp)
  unfold y8 at hc
  have hp:=zDx i
  simp only [vrd]
  by_cases h9:i=9∧1<c
  ·rw [if_pos h9];simp [yH]
  rw [if_neg h9]
  obtain ⟨b1,b2⟩:=zJs (c:=c) (a:=c % 128) hi (by omega) h1 h0 (by omega) (by omega) (by omega)
  by_cases hc1:128≤c
  ·rw [if_pos hc1]
   have:=zM8 i
   have h2:=zGz (show c - 128≤127 by omega) (show 0≤(2:Int) ^ (7 * i) by omega)
   have h3:0≤(c - 128) * (2:Int) ^ (7 * i):=Int.mul_nonneg (by omega) (by omega)
   obtain ⟨k1,k2,k3⟩:=ih (i:=i+1) (u:=u+(c - 128) * 2 ^ (7 * i)) (fun x hx=>hl x (by simp [hx])) (by omega) (by omega) (by omega)
   refine ⟨k1,fun h=>?_,k3⟩
   have:=k2 h
   simp only [List.length_cons];omega
  ·rw [if_neg hc1]
   by_cases h0:c=0∧0<i
   ·rw [if_pos h0];simp [yH]
   ·rw [if_neg h0]
    rw [show c % 128=c by omega] at b1 b2
    refine ⟨zLe ⟨by omega,b2⟩,fun _=>?_,.inl rfl⟩
    simp only [List.length_cons];omega
theorem zMQ {n:Int} (hn:yH n):∀ x∈vX 9 (x9 n),y8 x:=zNL (zB6 hn).1 (zHq (zB6 hn).2)
end Go.Ab
