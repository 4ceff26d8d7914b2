/- Plain laws of the functions tL this seat's, laid anew from another seat's text. No conditions but those that the theorems name. -/
import Derived.Test.YtdpgdpjoemdkjaaP10xD
import Derived.Test.YtdpgdpjoemdkjaaA35
namespace Go.Ab
open Go
set_option linter.unusedVariables false
def wM (n:Int):Int:=if n<0 then -2 * n - 1 else 2 * n
def zC1 (u:Int):Int:=if u % 2=1 then -(u / 2) - 1 else u / 2
theorem zC2 {n:Int} (h:y3 n):zE5 (wM n):=by unfold y3 at h;unfold zE5 wM;split<;>omega
theorem zOL {u:Int} (h:zE5 u):y3 (zC1 u):=by unfold zE5 at h;unfold y3 zC1;split<;>omega
theorem zO8 (n:Int):zC1 (wM n)=n:=by unfold zC1 wM;split<;>split<;>omega
theorem zKk {u:Int} (h:0≤u):wM (zC1 u)=u:=by unfold zC1 wM;split<;>split<;>omega
theorem zH0 {u:Int} (h:zE5 u):zAQ u=some (zC1 u):=by
 unfold zE5 at h
 unfold zAQ
 have e1:zA0 .u64 u 1=u / 2:=by
  have:=zM3 (k:=.u64) (x:=u) (s:=1) h.1 (by decide)
  simpa using this
 rw [e1,zPo h.1 h.2,w64 (x:=u / 2) (by omega) (by omega),w64 (x:=u % 2) (by omega) (by omega),w64 (x:=0 - u % 2) (by omega) (by omega)]
 unfold zC1
 split
 ·rename_i h1
  rw [h1,show (0:Int) - 1 = -1 from rfl,zMn (by omega) (by omega)]
 ·rename_i h1
  rw [show (0:Int) - u % 2=0 by omega,zKI (by omega) (by omega)]
theorem zJU {u:Int} (h:zE5 u):zCl u=some (zC1 u):=by
 unfold zE5 at h
 unfold zCl
 rw [zFP h.1,zLQ (k:=.u64) h.1 (show u<2 ^ 64 by omega) (by omega)]
 simp only [Bool.cond_eq_ite,beq_iff_eq]
 unfold zC1
 simp (disch:=omega) only [w64,Int.zero_sub]
 split<;>rfl
theorem zIr {n:Int} (h:y3 n):zBf n=some (wM n):=by
 unfold y3 at h
 unfold zBf
 have e2:zA0 .i64 n 63=if n<0 then -1 else 0:=by
  unfold zA0
  simp only [IntKind.bits]
  rw [Int.fdiv_eq_ediv_of_nonneg _ (by decide)]
  split<;>simp<;>omega
 rw [e2]
 unfold wM
 have e1:nQ .u64 (yN n) 1=2 * yN n % 18446744073709551616:=by
  unfold nQ
  have:=zEI (yN n * 2 ^ (min (1:Int).toNat IntKind.u64.bits))
  simp only [yN] at this ⊢
  rw [this];simp [IntKind.bits];omega
 rw [e1,zEI n]
 split
 ·rw [zEI (-1),show (-1:Int) % 18446744073709551616=18446744073709551615 by decide,zKx (by omega) (by omega)]
  congr 1;omega
 ·rw [zEI 0,show (0:Int) % 18446744073709551616=0 by decide,zK2 (by omega) (by omega)]
  congr 1;omega
theorem zK1 {n:Int} (h:y3 n):zCV n=some (wM n):=by
 unfold y3 at h
 unfold zCV wM
 simp only [Bool.cond_eq_ite,decide_eq_true_eq]
 split
 ·simp (disch:=omega) only [w64,zJ9];congr 1;omega
 ·simp (disch:=omega) only [zJ9]
def vrd:List Int→Nat→Int→Int×Int×Int
 | [],_,_=>(0,0,8)
 | c::r,i,u =>
  if i=9∧1<c then (0,0,10) else
  if 128≤c then vrd r (i+1) (u+(c - 128) * 2 ^ (7 * i)) else
  if c=0∧0<i then (0,0,10) else (zC1 (u+c * 2 ^ (7 * i)),(i:Int)+1,0)
theorem zJK (i:Nat):(2:Int) ^ (7 * (i+1))=128 * 2 ^ (7 * i):=by
 rw [Nat.mul_add,Int.pow_add];omega
theorem zDk (i:Nat):(1:Int)≤2 ^ (7 * i):=by
 have:(0:Int)<2 ^ (7 * i):=Int.pow_pos (by decide)
 omega
theorem zLj {i:Nat} (h:i≤8):(2:Int) ^ (7 * i)≤72057594037927936:=by
 have:=Nat.pow_le_pow_right (n:=2) (by decide) (show 7 * i≤56 by omega)
 have h2:(((2 ^ (7 * i):Nat)):Int)=2 ^ (7 * i):=by simp
 have h3:(2:Nat) ^ 56=72057594037927936:=rfl
 omega
theorem zFR {a m q:Int} (h:a≤m) (hq:0≤q):a * q≤m * q:=Int.mul_le_mul_of_nonneg_right h hq
theorem zI3 {i:Nat} {u a c:Int} (hi:i≤9) (h9:¬((i:Int)=9∧c>1)) (hu:u<2 ^ (7 * i)) (hu0:0≤u) (ha:0≤a) (ha1:a≤127) (hac:a≤c) :
  0≤a * 2 ^ (7 * i)∧u+a * 2 ^ (7 * i)≤18446744073709551615:=by
 have hp:=zDk i
 refine ⟨Int.mul_nonneg ha (by omega),?_⟩
 rcases Nat.lt_or_ge i 9 with h | h
 ·have:=zLj (show i≤8 by omega)
  have:=zFR ha1 (show 0≤(2:Int) ^ (7 * i) by omega)
  omega
 ·obtain rfl:i=9:=by omega
  have:=zFR (show a≤1 by omega) (show 0≤(2:Int) ^ (7 * 9) by omega)
  omega
def zRG (e:Int×Int×Int) (o:Unit⊕(Int×Int×Int)):Int×Int×Int:=match o with | .inl _=>e | .inr q=>q
theorem zJS {F:Nat} {b:List Int} (hb:∀ x∈b,x4 x) (hl:b.length≤4611686018427387904):∀ (n i:Nat) (u:Int),i≤9→0≤u→u<2 ^ (7 * i)→(b.drop i).length<n →
  ∃ o,pM F b n u i=some o∧zRG (0,0,8) o=vrd (b.drop i) i u:=by
 intro n
 induction n with
 | zero=>intro i u _ _ _ h;omega
 | succ n ih =>
  intro i u hi hu0 hu hn
  show ∃ o,pE F b (pM F b n) u i=some o∧_
  unfold pE
  rcases hd:b.drop i with _ | ⟨c,r⟩
  ·have:=qK hd
   simp (disch:=omega) only [yF,cond_false]
   exact ⟨_,rfl,rfl⟩
  ·have hlt:=jJ hd
   have hc:x4 c:=hb c (List.mem_of_mem_drop (hd ▸ List.mem_cons_self))
   unfold x4 at hc
   have hp:=zDk i
   rw [yR (show (i:Int)<(b.length:Int) by omega),cond_true]
   simp (disch:=omega) only [xZ hd,zbs,Bool.cond_eq_ite,Bool.and_eq_true,beq_iff_eq,decide_eq_true_eq,vrd,w64,xA,zQI,zJ9]
   have h7:(7:Int) * (i:Int)=((7 * i:Nat):Int):=by omega
   by_cases h9:(i:Int)=9∧c>1
   ·simp (disch:=omega) only [if_pos]
    exact ⟨_,rfl,rfl⟩
   rw [if_neg h9,if_neg (show ¬(i=9∧1<c) by omega)]
   have hm:0≤c % 128∧c % 128≤127∧c % 128≤c:=by omega
   obtain ⟨b1,b2⟩:=zI3 hi h9 hu hu0 hm.1 hm.2.1 hm.2.2
   have e1:ior .u64 u (nQ .u64 (c % 128) (7 * (i:Int)))=u+c % 128 * 2 ^ (7 * i):=by
    rw [h7,zPX (k:=.u64) hm.1 (by simp only [IntKind.bits];omega) (show c % 128 * 2 ^ (7 * i)<18446744073709551616 by omega),zNR (k:=.u64) hu0 hu hm.1 (show u+c % 128 * 2 ^ (7 * i)<18446744073709551616 by omega)]
   rw [e1]
   by_cases hc1:c≥128
   ·rw [show c % 128=c - 128 by omega]
    simp (disch:=omega) only [if_pos]
    rw [show c % 128=c - 128 by omega] at b1 b2
    have hi8:i≤8:=by omega
    have:=zJK i
    have h2:=zFR (show c - 128≤127 by omega) (show 0≤(2:Int) ^ (7 * i) by omega)
    have:=ih (i+1) (u+(c - 128) * 2 ^ (7 * i)) (by omega) (by omega) (by omega) (by rw [w8 hd];rw [hd] at hn;simp at hn;omega)
    rw [w8 hd] at this
    exact this
   ·rw [show c % 128=c by omega] at b1 b2 ⊢
    by_cases h0:c=0∧(i:Int)>0
    ·simp (disch:=omega) only [if_pos,if_neg]
     exact ⟨_,rfl,rfl⟩
    ·rw [zH0 ⟨by omega,b2⟩]
     simp (disch:=omega) only [if_neg]
     exact ⟨_,rfl,rfl⟩
theorem zLT {F:Nat} {b:List Int} (hb:∀ x∈b,x4 x) (hl:b.length≤4611686018427387904):∀ (n i:Nat) (u:Int),i≤9→0≤u→u<2 ^ (7 * i)→10 - i<n →
  ∃ o,zAz F b n u (2 ^ (7 * i)) i=some o∧zRG (0,0,10) o=vrd (b.drop i) i u:=by
 intro n
 induction n with
 | zero=>intro i u _ _ _ h;omega
 | succ n ih =>
  intro i u hi hu0 hu hn
  show ∃ o,nL F b (zAz F b n) u (2 ^ (7 * i)) i=some o∧_
  unfold nL
  rw [yR (show (i:Int)<10 by omega),cond_true]
  rcases hd:b.drop i with _ | ⟨c,r⟩
  ·have:=qK hd
   simp (disch:=omega) only [yR,cond_true]
   exact ⟨_,rfl,rfl⟩
  ·have hlt:=jJ hd
   have hc:x4 c:=hb c (List.mem_of_mem_drop (hd ▸ List.mem_cons_self))
   unfold x4 at hc
   have hp:=zDk i
   have hm:0≤c % 128∧c % 128≤127∧c % 128≤c:=by omega
   rw [yF (show ¬ ((i:Int)≥(b.length:Int)) by omega),cond_false]
   simp (disch:=omega) only [xZ hd,zbs,Bool.cond_eq_ite,Bool.and_eq_true,beq_iff_eq,decide_eq_true_eq,vrd,w64,zJ9,zFP]
   by_cases h9:(i:Int)=9∧c>1
   ·simp (disch:=omega) only [if_pos]
    exact ⟨_,rfl,rfl⟩
   rw [if_neg h9,if_neg (show ¬(i=9∧1<c) by omega)]
   obtain ⟨b1,b2⟩:=zI3 hi h9 hu hu0 hm.1 hm.2.1 hm.2.2
   simp (disch:=omega) only [zJ9]
   by_cases h0:c=0∧(i:Int)>0
   ·simp (disch:=omega) only [if_pos,if_neg]
    exact ⟨_,rfl,rfl⟩
   by_cases hc1:c≥128
   ·rw [show c % 128=c - 128 by omega]
    have hi8:i≤8:=by omega
    have:=zJK i
    have:=zLj hi8
    have h2:=zFR (show c - 128≤127 by omega) (show 0≤(2:Int) ^ (7 * i) by omega)
    have h3:0≤(c - 128) * (2:Int) ^ (7 * i):=Int.mul_nonneg (by omega) (by omega)
    rw [zJ9 (x:=2 ^ (7 * i) * 128) (by omega) (by omega),show (2:Int) ^ (7 * i) * 128=2 ^ (7 * (i+1)) by omega]
    simp (disch:=omega) only [if_pos,if_neg]
    have:=ih (i+1) (u+(c - 128) * 2 ^ (7 * i)) (by omega) (by omega) (by omega) (by omega)
    rw [w8 hd] at this
    exact this
   ·rw [show c % 128=c by omega] at b1 b2 ⊢
    rw [zJU ⟨by omega,b2⟩]
    simp (disch:=omega) only [if_pos,if_neg]
    exact ⟨_,rfl,rfl⟩
theorem zGE {F:Nat} {b:List Int} (hb:∀ x∈b,x4 x) (hl:b.length≤4611686018427387904) (hF:b.length<F):zCE F b=some (vrd b 0 0):=by
 obtain ⟨o,h1,h2⟩:=zJS (F:=F) hb hl F 0 0 (by omega) (by omega) (by decide) (by simpa using hF)
 unfold zCE
 simp only [List.drop_zero] at h2
 rw [show pM F b F (0:Int) 0=some o from h1,← h2]
 cases o<;>rfl
theorem zIN {F:Nat} {b:List Int} (hb:∀ x∈b,x4 x) (hl:b.length≤4611686018427387904) (hF:10<F):zEn F b=some (vrd b 0 0):=by
 obtain ⟨o,h1,h2⟩:=zLT (F:=F) hb hl F 0 0 (by omega) (by omega) (by decide) (by omega)
 unfold zEn
 simp only [List.drop_zero] at h2
 rw [show zAz F b F (0:Int) 1 0=some o from h1,← h2]
 cases o<;>rfl
def w9:Nat→Int→List Int
 | 0,u=>[u]
 | k+1,u=>if u<128 then [u] else (u % 128+128)::w9 k (u / 128)
theorem pL (k:Nat) (u:Int):1≤(w9 k u).length∧(w9 k u).length≤k+1:=by
 induction k generalizing u with
 | zero=>simp [w9]
 | succ k ih =>
  simp only [w9];split
  ·simp
  ·have:=ih (u / 128);simp;omega
theorem zRx (k:Nat):(128:Int) ^ (k+1)=128 * 128 ^ k:=by rw [Int.pow_succ];omega
theorem zIH {k:Nat} {u:Int} (h:u<128 ^ (k+1+1)):u / 128<128 ^ (k+1):=by
 have:=zRx (k+1);omega
theorem zRs {k:Nat} {u:Int} (h0:0≤u) (h:u<128 ^ (k+1)):∀ x∈w9 k u,x4 x:=by
 induction k generalizing u with
 | zero=>intro x hx;simp [w9] at hx;subst hx;simp at h;unfold x4;omega
 | succ k ih =>
  intro x hx
  simp only [w9] at hx
  split at hx
  ·simp at hx;subst hx;unfold x4;omega
  ·rcases List.mem_cons.1 hx with rfl | hx
   ·unfold x4;omega
   ·exact ih (by omega) (zIH h) x hx
theorem zI7 {F:Nat}:∀ (k n:Nat) (u:Int) (row:List Int),0≤u→u≤18446744073709551615→u<128 ^ (k+1)→k<n→row.length+k+2≤140737488355328 →
  ∃ a l,kV F n u row=some (a,l)∧l++[a]=row++w9 k u∧0≤a∧a<128∧l.length≤row.length+k:=by
 intro k
 induction k with
 | zero =>
  intro n u row h0 h1 h2 hn hr
  obtain ⟨n,rfl⟩:∃ m,n=m+1:=⟨n - 1,by omega⟩
  simp at h2
  show ∃ a l,tA F (kV F n) u row=some (a,l)∧_
  unfold tA
  rw [yF (show ¬ (u≥128) by omega),cond_false]
  exact ⟨u,row,rfl,rfl,h0,h2,by simp⟩
 | succ k ih =>
  intro n u row h0 h1 h2 hn hr
  obtain ⟨n,rfl⟩:∃ m,n=m+1:=⟨n - 1,by omega⟩
  show ∃ a l,tA F (kV F n) u row=some (a,l)∧_
  unfold tA
  by_cases hu:u<128
  ·rw [yF (show ¬ (u≥128) by omega),cond_false]
   exact ⟨u,row,rfl,by simp [w9,hu],h0,hu,by simp⟩
  ·rw [yR (show u≥128 by omega),cond_true,xA (by simp;omega),zbs,zLQ (k:=.u64) h0 (show u<2 ^ 64 by omega) (by omega),zFP h0]
   simp (disch:=omega) only [wu8]
   obtain ⟨a,l,e1,e2,e3,e4,e5⟩:=ih n (u / 128) (row++[u % 128+128]) (by omega) (by omega) (zIH h2) (by omega) (by simp;omega)
   refine ⟨a,l,e1,?_,e3,e4,by simp at e5;omega⟩
   rw [e2];simp only [w9,if_neg hu,List.append_assoc,List.singleton_append]
theorem zG8 {u:Int} (h:u≤18446744073709551615):u<128 ^ (9+1):=by
 have:(128:Int) ^ (9+1)=1180591620717411303424:=by decide
 omega
theorem zGj {F:Nat} {b:List Int} {n:Int} (hn:y3 n) (hl:b.length≤140737488355000) (hF:9<F):zBv F b n=some (b++w9 9 (wM n)):=by
 have hz:=zC2 hn
 unfold zBv
 obtain ⟨a,l,e1,e2,e3,e4,e5⟩:=zI7 (F:=F) 9 F (wM n) b hz.1 hz.2 (zG8 hz.2) hF (by omega)
 rw [xA (by simp;omega),zbs,zK1 hn,zbs,List.nil_append,e1,zbs,xA (by simp;omega),zbs]
 simp (disch:=omega) only [wu8]
 rw [e2]
theorem zJ2 (p r:List Int) (x v:Int):(p++x::r).set p.length v=p++v::r:=by
 rw [List.set_append_right _ _ (Nat.le_refl _)];simp
theorem zJT (p r:List Int) (x:Int):(p++x::r)[p.length]?=some x:=by
 rw [List.getElem?_append_right (Nat.le_refl _)];simp
theorem zHk {F:Nat}:∀ (k n:Nat) (u:Int) (p r:List Int),0≤u→u≤18446744073709551615→u<128 ^ (k+1)→k<n→p.length+k+1=10→r.length=k+1 →
  ∃ (m:Nat) (l:List Int),t7 F n (p.length:Int) u (p++r)=some (((m:Nat):Int),l)∧l.take m=p++w9 k u∧m≤10∧l.length=10:=by
 intro k
 induction k with
 | zero =>
  intro n u p r h0 h1 h2 hn hp hr
  obtain ⟨n,rfl⟩:∃ m,n=m+1:=⟨n - 1,by omega⟩
  simp at h2
  match r,hr with
  | x::r,hr =>
   show ∃ (m:Nat) (l:List Int),uO F (t7 F n) (p.length:Int) u (p++x::r)=some (((m:Nat):Int),l)∧_
   unfold uO
   rw [xA (by omega),zbs,Int.toNat_natCast,zJT,zbs,yR h2,cond_true,zHA h0 h1,zJ2]
   simp (disch:=omega) only [w64,wu8]
   refine ⟨p.length+1,_,rfl,?_,by omega,by simp only [List.length_append,List.length_cons] at hr ⊢;omega⟩
   rw [show u % 128=u by omega,show p++u::r=(p++[u])++r by simp,List.take_left' (by simp)]
   rfl
 | succ k ih =>
  intro n u p r h0 h1 h2 hn hp hr
  obtain ⟨n,rfl⟩:∃ m,n=m+1:=⟨n - 1,by omega⟩
  match r,hr with
  | x::r,hr =>
   show ∃ (m:Nat) (l:List Int),uO F (t7 F n) (p.length:Int) u (p++x::r)=some (((m:Nat):Int),l)∧_
   unfold uO
   rw [xA (by omega),zbs,Int.toNat_natCast,zJT,zbs,zHA h0 h1,zJ2]
   by_cases hu:u<128
   ·rw [yR hu,cond_true]
    simp (disch:=omega) only [w64,wu8]
    refine ⟨p.length+1,_,rfl,?_,by omega,by simp only [List.length_append,List.length_cons] at hr ⊢;omega⟩
    rw [show u % 128=u by omega,show p++u::r=(p++[u])++r by simp,List.take_left' (by simp)]
    simp [w9,hu]
   ·rw [yF hu,cond_false]
    simp (disch:=omega) only [w64,wu8]
    rw [show (p.length:Int)+1 - 1=(p.length:Int) by omega,xA (by omega),zbs,Int.toNat_natCast,zJT,zbs,zbs,zbs,zJ2,zQZ (by omega) (by omega)]
    have e1:zA0 .u64 u 7=u / 128:=by
     have:=zM3 (k:=.u64) (x:=u) (s:=7) h0 (by decide)
     simpa using this
    rw [e1,show p++(u % 128+128)::r=(p++[u % 128+128])++r by simp]
    obtain ⟨m,l,q1,q2,q3,q4⟩:=ih n (u / 128) (p++[u % 128+128]) r (by omega) (by omega) (zIH h2) (by omega) (by simp;omega) (by simpa using hr)
    refine ⟨m,l,?_,?_,q3,q4⟩
    ·rw [← q1];simp
    ·rw [q2];simp only [w9,if_neg hu,List.append_assoc,List.singleton_append]
theorem zQY {α:Type} (l:List α):sub l 0 (l.length:Int)=l:=by simp [sub]
theorem q9 {F:Nat} {b:List Int} {n:Int} (hn:y3 n) (hl:b.length≤140737488355000) (hF:9<F):wU F b n=some (b++w9 9 (wM n)):=by
 have hz:=zC2 hn
 unfold wU
 obtain ⟨m,l,e1,e2,e3,e4⟩:=zHk (F:=F) 9 F (wM n) [] (List.replicate 10 0) hz.1 hz.2 (zG8 hz.2) hF (by rfl) (by rfl)
 rw [List.nil_append] at e1 e2
 rw [zIr hn,zbs,show t7 F F 0 (wM n) (List.replicate 10 0)=some ((m:Int),l) from e1,zbs]
 have hv:=(pL 9 (wM n)).2
 simp only [Int.toNat_natCast,List.drop_zero,zQY,e2]
 have hv1:=(pL 9 (wM n)).1
 rw [xA (by omega),zbs,xA (by omega),zbs,xA (by omega),zbs,xA (.inl hv1),zbs]
theorem zBe {l:List Int} {i:Nat} {u:Int} (hl:∀ x∈l,x4 x) (hi:i≤9) (h0:0≤u) (h1:u<2 ^ (7 * i)) :
  y3 (vrd l i u).1∧((vrd l i u).2.2=0→(i:Int)<(vrd l i u).2.1∧(vrd l i u).2.1≤10∧(vrd l i u).2.1≤i+l.length)∧((vrd l i u).2.2=0∨(vrd l i u).1=0∧(vrd l i u).2.1=0∧((vrd l i u).2.2=8∨(vrd l i u).2.2=10)):=by
 induction l generalizing i u with
 | nil=>simp [vrd,y3]
 | cons c r ih =>
  have hc:x4 c:=hl c (by simp)
  unfold x4 at hc
  have hp:=zDk i
  simp only [vrd]
  by_cases h9:i=9∧1<c
  ·rw [if_pos h9];simp [y3]
  rw [if_neg h9]
  obtain ⟨b1,b2⟩:=zI3 (c:=c) (a:=c % 128) hi (by omega) h1 h0 (by omega) (by omega) (by omega)
  by_cases hc1:128≤c
  ·rw [if_pos hc1]
   have:=zJK i
   have h2:=zFR (show c - 128≤127 by omega) (show 0≤(2:Int) ^ (7 * i) by omega)
   have h3:0≤(c - 128) * (2:Int) ^ (7 * i):=Int.mul_nonneg (by omega) (by omega)
   obtain ⟨k1,k2,k3⟩:=ih (i:=i+1) (u:=u+(c - 128) * 2 ^ (7 * i)) (fun x hx=>hl x (by simp [hx])) (by omega) (by omega) (by omega)
   refine ⟨k1,fun h=>?_,k3⟩
   have:=k2 h
   simp only [List.length_cons];omega
  ·rw [if_neg hc1]
   by_cases h0:c=0∧0<i
   ·rw [if_pos h0];simp [y3]
   ·rw [if_neg h0]
    rw [show c % 128=c by omega] at b1 b2
    refine ⟨zOL ⟨by omega,b2⟩,fun _=>?_,.inl rfl⟩
    simp only [List.length_cons];omega
theorem zQH {k:Nat} {i:Nat} {u v:Int} {more:List Int} (hi:i+k≤9) (hv0:0≤v) (hv:v<128 ^ (k+1)) (hz:v=0→i=0) (hb:u+v * 2 ^ (7 * i)≤18446744073709551615) (h0:0≤u) :
  vrd (w9 k v++more) i u=(zC1 (u+v * 2 ^ (7 * i)),((i+(w9 k v).length:Nat):Int),0):=by
 have last:∀ {i:Nat} {u v:Int} {more:List Int},i≤9→0≤v→v<128→(v=0→i=0)→u+v * 2 ^ (7 * i)≤18446744073709551615→0≤u→vrd (v::more) i u=(zC1 (u+v * 2 ^ (7 * i)),((i+1:Nat):Int),0):=by
  intro i u v more hi hv0 hv hz hb h0
  simp only [vrd]
  have h9:¬(i=9∧1<v):=by
   rintro ⟨rfl,h⟩
   have:=zFR (show 2≤v by omega) (show (0:Int)≤2 ^ (7 * 9) by decide)
   omega
  rw [if_neg h9,if_neg (by omega),if_neg (by omega)]
  rfl
 induction k generalizing i u v with
 | zero=>exact last (by omega) hv0 (by simpa using hv) hz hb h0
 | succ k ih =>
  simp only [w9]
  by_cases hs:v<128
  ·rw [if_pos hs];exact last (by omega) hv0 hs hz hb h0
  ·rw [if_neg hs,List.cons_append]
   simp only [vrd]
   rw [if_neg (by omega),if_pos (by omega),show v % 128+128 - 128=v % 128 by omega]
   have e:u+v % 128 * 2 ^ (7 * i)+v / 128 * 2 ^ (7 * (i+1))=u+v * 2 ^ (7 * i):=by
    have h1:v * (2:Int) ^ (7 * i)=(v % 128+128 * (v / 128)) * 2 ^ (7 * i):=by rw [Int.emod_add_mul_ediv]
    rw [h1,zJK,Int.add_mul,Int.add_assoc,← Int.mul_assoc,Int.mul_comm (v / 128) 128]
   have hp:(0:Int)≤v % 128 * 2 ^ (7 * i):=Int.mul_nonneg (by omega) (by have:=zDk i;omega)
   rw [ih (i:=i+1) (u:=u+v % 128 * 2 ^ (7 * i)) (v:=v / 128) (by omega) (by omega) (zIH hv) (by omega) (by rw [e];exact hb) (by omega),e]
   simp only [List.length_cons]
   congr 3;omega
theorem zIL {l:List Int} {i:Nat} {u:Int} (hl:∀ x∈l,x4 x) (hi:i≤9) (h0:0≤u) (h1:u<2 ^ (7 * i)) (he:(vrd l i u).2.2=0) :
  ∃ v,0≤v∧(v=0→i=0)∧u+v * 2 ^ (7 * i)≤18446744073709551615∧(vrd l i u).1=zC1 (u+v * 2 ^ (7 * i))∧l.take ((vrd l i u).2.1 - i).toNat=w9 (9 - i) v:=by
 induction l generalizing i u with
 | nil=>simp [vrd] at he
 | cons c r ih =>
  have hc:x4 c:=hl c (by simp)
  unfold x4 at hc
  have hp:=zDk i
  simp only [vrd] at he ⊢
  by_cases h9:i=9∧1<c
  ·rw [if_pos h9] at he;simp at he
  rw [if_neg h9] at he ⊢
  obtain ⟨b1,b2⟩:=zI3 (c:=c) (a:=c % 128) hi (by omega) h1 h0 (by omega) (by omega) (by omega)
  by_cases hc1:128≤c
  ·rw [if_pos hc1] at he ⊢
   have:=zJK i
   have h2:=zFR (show c - 128≤127 by omega) (show 0≤(2:Int) ^ (7 * i) by omega)
   have h3:0≤(c - 128) * (2:Int) ^ (7 * i):=Int.mul_nonneg (by omega) (by omega)
   have hr:∀ x∈r,x4 x:=fun x hx=>hl x (by simp [hx])
   obtain ⟨v,k1,k2,k3,k4,k5⟩:=ih (i:=i+1) (u:=u+(c - 128) * 2 ^ (7 * i)) hr (by omega) (by omega) (by omega) he
   obtain ⟨_,r2,_⟩:=zBe (i:=i+1) (u:=u+(c - 128) * 2 ^ (7 * i)) hr (by omega) (by omega) (by omega)
   have r2:=r2 he
   have e:u+(c - 128+128 * v) * 2 ^ (7 * i)=u+(c - 128) * 2 ^ (7 * i)+v * 2 ^ (7 * (i+1)):=by
    rw [zJK,Int.add_mul,Int.add_assoc,← Int.mul_assoc,Int.mul_comm v 128]
   refine ⟨c - 128+128 * v,by omega,by omega,by rw [e];exact k3,by rw [e];exact k4,?_⟩
   generalize vrd r (i+1) (u+(c - 128) * 2 ^ (7 * i))=q at *
   obtain ⟨m,hm⟩:∃ m:Nat,q.2.1=i+1+m:=⟨(q.2.1 - (i+1)).toNat,by omega⟩
   rw [hm] at k5 ⊢
   rw [show ((i:Int)+1+m - i).toNat=m+1 by omega,List.take_succ_cons]
   rw [show ((i:Int)+1+m - ((i+1:Nat):Int)).toNat=m by omega] at k5
   rw [k5,show 9 - i=(9 - (i+1))+1 by omega]
   simp only [w9]
   rw [if_neg (by omega)]
   congr 1
   ·omega
   ·congr 1;omega
  ·rw [if_neg hc1] at he ⊢
   by_cases hz:c=0∧0<i
   ·rw [if_pos hz] at he;simp at he
   ·rw [if_neg hz] at he ⊢
    rw [show c % 128=c by omega] at b1 b2
    refine ⟨c,by omega,by omega,b2,rfl,?_⟩
    simp only
    rw [show ((i:Int)+1 - i).toNat=1 by omega]
    show [c]=_
    rcases hk:9 - i with _ | k
    ·rfl
    ·simp only [w9];rw [if_pos (by omega)]
theorem zNP {n:Int} {more:List Int} (hn:y3 n):vrd (w9 9 (wM n)++more) 0 0=(n,((w9 9 (wM n)).length:Int),0):=by
 have hz:=zC2 hn
 have:=zQH (k:=9) (i:=0) (u:=0) (v:=wM n) (more:=more) (by omega) hz.1 (zG8 hz.2) (fun _=>rfl) (by have:=hz.2;simpa using this) (by omega)
 rw [this]
 simp [zO8]
theorem zMF {n:Int} (hn:y3 n):∀ x∈w9 9 (wM n),x4 x:=zRs (zC2 hn).1 (zG8 (zC2 hn).2)
theorem zRP {l m:List Int} (hl:∀ x∈l,x4 x) (hm:∀ x∈m,x4 x):∀ x∈l++m,x4 x:=by
 intro x hx;rcases List.mem_append.1 hx with h | h
 ·exact hl x h
 ·exact hm x h
end Go.Ab
