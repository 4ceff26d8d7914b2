/- Plain laws of the functions qA this seat's, laid anew from another seat's text. No conditions but those that the theorems name. -/
import Derived.Test.YtdpgdpjoemdkjaaP10xD
import Derived.Test.YtdpgdpjoemdkjaaA35
namespace Go.Ab
open Go
set_option linter.unusedVariables false
def w8 (n:Int):Int:=if n<0 then -2 * n - 1 else 2 * n
def zC2 (u:Int):Int:=if u % 2=1 then -(u / 2) - 1 else u / 2
theorem zCX {n:Int} (h:y2 n):zFn (w8 n):=by unfold y2 at h;unfold zFn w8;split<;>omega
theorem zO8 {u:Int} (h:zFn u):y2 (zC2 u):=by unfold zFn at h;unfold y2 zC2;split<;>omega
theorem zPe (n:Int):zC2 (w8 n)=n:=by unfold zC2 w8;split<;>split<;>omega
theorem zKu {u:Int} (h:0≤u):w8 (zC2 u)=u:=by unfold zC2 w8;split<;>split<;>omega
theorem zH1 {u:Int} (h:zFn u):zBa u=some (zC2 u):=by
 unfold zFn at h
 unfold zBa
 have e1:zBl .u64 u 1=u / 2:=by
  have:=zMp (k:=.u64) (x:=u) (s:=1) h.1 (by decide)
  simpa using this
 rw [e1,zPf h.1 h.2,w64 (x:=u / 2) (by omega) (by omega),w64 (x:=u % 2) (by omega) (by omega),w64 (x:=0 - u % 2) (by omega) (by omega)]
 unfold zC2
 split
 ·rename_i h1
  rw [h1,show (0:Int) - 1 = -1 from rfl,zLR (by omega) (by omega)]
 ·rename_i h1
  rw [show (0:Int) - u % 2=0 by omega,zKX (by omega) (by omega)]
theorem zKs {u:Int} (h:zFn u):zCu u=some (zC2 u):=by
 unfold zFn at h
 unfold zCu
 rw [zGb h.1,zMm (k:=.u64) h.1 (show u<2 ^ 64 by omega) (by omega)]
 simp only [Bool.cond_eq_ite,beq_iff_eq]
 unfold zC2
 simp (disch:=omega) only [w64,Int.zero_sub]
 split<;>rfl
theorem zIF {n:Int} (h:y2 n):zBw n=some (w8 n):=by
 unfold y2 at h
 unfold zBw
 have e2:zBl .i64 n 63=if n<0 then -1 else 0:=by
  unfold zBl
  simp only [IntKind.bits]
  rw [Int.fdiv_eq_ediv_of_nonneg _ (by decide)]
  split<;>simp<;>omega
 rw [e2]
 unfold w8
 have e1:zAf .u64 (yR n) 1=2 * yR n % 18446744073709551616:=by
  unfold zAf
  have:=zEI (yR n * 2 ^ (min (1:Int).toNat IntKind.u64.bits))
  simp only [yR] at this ⊢
  rw [this];simp [IntKind.bits];omega
 rw [e1,zEI n]
 split
 ·rw [zEI (-1),show (-1:Int) % 18446744073709551616=18446744073709551615 by decide,zK7 (by omega) (by omega)]
  congr 1;omega
 ·rw [zEI 0,show (0:Int) % 18446744073709551616=0 by decide,zKR (by omega) (by omega)]
  congr 1;omega
theorem zK6 {n:Int} (h:y2 n):zC4 n=some (w8 n):=by
 unfold y2 at h
 unfold zC4 w8
 simp only [Bool.cond_eq_ite,decide_eq_true_eq]
 split
 ·simp (disch:=omega) only [w64,zKa];congr 1;omega
 ·simp (disch:=omega) only [zKa]
def vrd:List Int→Nat→Int→Int×Int×Int
 | [],_,_=>(0,0,8)
 | c::r,i,u =>
  if i=9∧1<c then (0,0,10) else
  if 128≤c then vrd r (i+1) (u+(c - 128) * 2 ^ (7 * i)) else
  if c=0∧0<i then (0,0,10) else (zC2 (u+c * 2 ^ (7 * i)),(i:Int)+1,0)
theorem zJW (i:Nat):(2:Int) ^ (7 * (i+1))=128 * 2 ^ (7 * i):=by
 rw [Nat.mul_add,Int.pow_add];omega
theorem zDh (i:Nat):(1:Int)≤2 ^ (7 * i):=by
 have:(0:Int)<2 ^ (7 * i):=Int.pow_pos (by decide)
 omega
theorem zM7 {i:Nat} (h:i≤8):(2:Int) ^ (7 * i)≤72057594037927936:=by
 have:=Nat.pow_le_pow_right (n:=2) (by decide) (show 7 * i≤56 by omega)
 have h2:(((2 ^ (7 * i):Nat)):Int)=2 ^ (7 * i):=by simp
 have h3:(2:Nat) ^ 56=72057594037927936:=rfl
 omega
theorem zFT {a m q:Int} (h:a≤m) (hq:0≤q):a * q≤m * q:=Int.mul_le_mul_of_nonneg_right h hq
theorem zJz {i:Nat} {u a c:Int} (hi:i≤9) (h9:¬((i:Int)=9∧c>1)) (hu:u<2 ^ (7 * i)) (hu0:0≤u) (ha:0≤a) (ha1:a≤127) (hac:a≤c) :
  0≤a * 2 ^ (7 * i)∧u+a * 2 ^ (7 * i)≤18446744073709551615:=by
 have hp:=zDh i
 refine ⟨Int.mul_nonneg ha (by omega),?_⟩
 rcases Nat.lt_or_ge i 9 with h | h
 ·have:=zM7 (show i≤8 by omega)
  have:=zFT ha1 (show 0≤(2:Int) ^ (7 * i) by omega)
  omega
 ·obtain rfl:i=9:=by omega
  have:=zFT (show a≤1 by omega) (show 0≤(2:Int) ^ (7 * 9) by omega)
  omega
def zR6 (e:Int×Int×Int) (o:Unit⊕(Int×Int×Int)):Int×Int×Int:=match o with | .inl _=>e | .inr q=>q
theorem zKg {F:Nat} {b:List Int} (hb:∀ x∈b,x7 x) (hl:b.length≤4611686018427387904):∀ (n i:Nat) (u:Int),i≤9→0≤u→u<2 ^ (7 * i)→(b.drop i).length<n →
  ∃ o,nH F b n u i=some o∧zR6 (0,0,8) o=vrd (b.drop i) i u:=by
 intro n
 induction n with
 | zero=>intro i u _ _ _ h;omega
 | succ n ih =>
  intro i u hi hu0 hu hn
  show ∃ o,pY F b (nH F b n) u i=some o∧_
  unfold pY
  rcases hd:b.drop i with _ | ⟨c,r⟩
  ·have:=qR hd
   simp (disch:=omega) only [yI,cond_false]
   exact ⟨_,rfl,rfl⟩
  ·have hlt:=jN hd
   have hc:x7 c:=hb c (List.mem_of_mem_drop (hd ▸ List.mem_cons_self))
   unfold x7 at hc
   have hp:=zDh i
   rw [yW (show (i:Int)<(b.length:Int) by omega),cond_true]
   simp (disch:=omega) only [x3 hd,zbs,Bool.cond_eq_ite,Bool.and_eq_true,beq_iff_eq,decide_eq_true_eq,vrd,w64,xE,zQA,zKa]
   have h7:(7:Int) * (i:Int)=((7 * i:Nat):Int):=by omega
   by_cases h9:(i:Int)=9∧c>1
   ·simp (disch:=omega) only [if_pos]
    exact ⟨_,rfl,rfl⟩
   rw [if_neg h9,if_neg (show ¬(i=9∧1<c) by omega)]
   have hm:0≤c % 128∧c % 128≤127∧c % 128≤c:=by omega
   obtain ⟨b1,b2⟩:=zJz hi h9 hu hu0 hm.1 hm.2.1 hm.2.2
   have e1:ior .u64 u (zAf .u64 (c % 128) (7 * (i:Int)))=u+c % 128 * 2 ^ (7 * i):=by
    rw [h7,zQj (k:=.u64) hm.1 (by simp only [IntKind.bits];omega) (show c % 128 * 2 ^ (7 * i)<18446744073709551616 by omega),zOe (k:=.u64) hu0 hu hm.1 (show u+c % 128 * 2 ^ (7 * i)<18446744073709551616 by omega)]
   rw [e1]
   by_cases hc1:c≥128
   ·rw [show c % 128=c - 128 by omega]
    simp (disch:=omega) only [if_pos]
    rw [show c % 128=c - 128 by omega] at b1 b2
    have hi8:i≤8:=by omega
    have:=zJW i
    have h2:=zFT (show c - 128≤127 by omega) (show 0≤(2:Int) ^ (7 * i) by omega)
    have:=ih (i+1) (u+(c - 128) * 2 ^ (7 * i)) (by omega) (by omega) (by omega) (by rw [wN hd];rw [hd] at hn;simp at hn;omega)
    rw [wN hd] at this
    exact this
   ·rw [show c % 128=c by omega] at b1 b2 ⊢
    by_cases h0:c=0∧(i:Int)>0
    ·simp (disch:=omega) only [if_pos,if_neg]
     exact ⟨_,rfl,rfl⟩
    ·rw [zH1 ⟨by omega,b2⟩]
     simp (disch:=omega) only [if_neg]
     exact ⟨_,rfl,rfl⟩
theorem zLN {F:Nat} {b:List Int} (hb:∀ x∈b,x7 x) (hl:b.length≤4611686018427387904):∀ (n i:Nat) (u:Int),i≤9→0≤u→u<2 ^ (7 * i)→10 - i<n →
  ∃ o,zAQ F b n u (2 ^ (7 * i)) i=some o∧zR6 (0,0,10) o=vrd (b.drop i) i u:=by
 intro n
 induction n with
 | zero=>intro i u _ _ _ h;omega
 | succ n ih =>
  intro i u hi hu0 hu hn
  show ∃ o,n8 F b (zAQ F b n) u (2 ^ (7 * i)) i=some o∧_
  unfold n8
  rw [yW (show (i:Int)<10 by omega),cond_true]
  rcases hd:b.drop i with _ | ⟨c,r⟩
  ·have:=qR hd
   simp (disch:=omega) only [yW,cond_true]
   exact ⟨_,rfl,rfl⟩
  ·have hlt:=jN hd
   have hc:x7 c:=hb c (List.mem_of_mem_drop (hd ▸ List.mem_cons_self))
   unfold x7 at hc
   have hp:=zDh i
   have hm:0≤c % 128∧c % 128≤127∧c % 128≤c:=by omega
   rw [yI (show ¬ ((i:Int)≥(b.length:Int)) by omega),cond_false]
   simp (disch:=omega) only [x3 hd,zbs,Bool.cond_eq_ite,Bool.and_eq_true,beq_iff_eq,decide_eq_true_eq,vrd,w64,zKa,zGb]
   by_cases h9:(i:Int)=9∧c>1
   ·simp (disch:=omega) only [if_pos]
    exact ⟨_,rfl,rfl⟩
   rw [if_neg h9,if_neg (show ¬(i=9∧1<c) by omega)]
   obtain ⟨b1,b2⟩:=zJz hi h9 hu hu0 hm.1 hm.2.1 hm.2.2
   simp (disch:=omega) only [zKa]
   by_cases h0:c=0∧(i:Int)>0
   ·simp (disch:=omega) only [if_pos,if_neg]
    exact ⟨_,rfl,rfl⟩
   by_cases hc1:c≥128
   ·rw [show c % 128=c - 128 by omega]
    have hi8:i≤8:=by omega
    have:=zJW i
    have:=zM7 hi8
    have h2:=zFT (show c - 128≤127 by omega) (show 0≤(2:Int) ^ (7 * i) by omega)
    have h3:0≤(c - 128) * (2:Int) ^ (7 * i):=Int.mul_nonneg (by omega) (by omega)
    rw [zKa (x:=2 ^ (7 * i) * 128) (by omega) (by omega),show (2:Int) ^ (7 * i) * 128=2 ^ (7 * (i+1)) by omega]
    simp (disch:=omega) only [if_pos,if_neg]
    have:=ih (i+1) (u+(c - 128) * 2 ^ (7 * i)) (by omega) (by omega) (by omega) (by omega)
    rw [wN hd] at this
    exact this
   ·rw [show c % 128=c by omega] at b1 b2 ⊢
    rw [zKs ⟨by omega,b2⟩]
    simp (disch:=omega) only [if_pos,if_neg]
    exact ⟨_,rfl,rfl⟩
theorem zGJ {F:Nat} {b:List Int} (hb:∀ x∈b,x7 x) (hl:b.length≤4611686018427387904) (hF:b.length<F):zCF F b=some (vrd b 0 0):=by
 obtain ⟨o,h1,h2⟩:=zKg (F:=F) hb hl F 0 0 (by omega) (by omega) (by decide) (by simpa using hF)
 unfold zCF
 simp only [List.drop_zero] at h2
 rw [show nH F b F (0:Int) 0=some o from h1,← h2]
 cases o<;>rfl
theorem zIJ {F:Nat} {b:List Int} (hb:∀ x∈b,x7 x) (hl:b.length≤4611686018427387904) (hF:10<F):zEB F b=some (vrd b 0 0):=by
 obtain ⟨o,h1,h2⟩:=zLN (F:=F) hb hl F 0 0 (by omega) (by omega) (by decide) (by omega)
 unfold zEB
 simp only [List.drop_zero] at h2
 rw [show zAQ F b F (0:Int) 1 0=some o from h1,← h2]
 cases o<;>rfl
def vV:Nat→Int→List Int
 | 0,u=>[u]
 | k+1,u=>if u<128 then [u] else (u % 128+128)::vV k (u / 128)
theorem nN (k:Nat) (u:Int):1≤(vV k u).length∧(vV k u).length≤k+1:=by
 induction k generalizing u with
 | zero=>simp [vV]
 | succ k ih =>
  simp only [vV];split
  ·simp
  ·have:=ih (u / 128);simp;omega
theorem zR2 (k:Nat):(128:Int) ^ (k+1)=128 * 128 ^ k:=by rw [Int.pow_succ];omega
theorem zJC {k:Nat} {u:Int} (h:u<128 ^ (k+1+1)):u / 128<128 ^ (k+1):=by
 have:=zR2 (k+1);omega
theorem zRA {k:Nat} {u:Int} (h0:0≤u) (h:u<128 ^ (k+1)):∀ x∈vV k u,x7 x:=by
 induction k generalizing u with
 | zero=>intro x hx;simp [vV] at hx;subst hx;simp at h;unfold x7;omega
 | succ k ih =>
  intro x hx
  simp only [vV] at hx
  split at hx
  ·simp at hx;subst hx;unfold x7;omega
  ·rcases List.mem_cons.1 hx with rfl | hx
   ·unfold x7;omega
   ·exact ih (by omega) (zJC h) x hx
theorem zIP {F:Nat}:∀ (k n:Nat) (u:Int) (row:List Int),0≤u→u≤18446744073709551615→u<128 ^ (k+1)→k<n→row.length+k+2≤140737488355328 →
  ∃ a l,pX F n u row=some (a,l)∧l++[a]=row++vV k u∧0≤a∧a<128∧l.length≤row.length+k:=by
 intro k
 induction k with
 | zero =>
  intro n u row h0 h1 h2 hn hr
  obtain ⟨n,rfl⟩:∃ m,n=m+1:=⟨n - 1,by omega⟩
  simp at h2
  show ∃ a l,t3 F (pX F n) u row=some (a,l)∧_
  unfold t3
  rw [yI (show ¬ (u≥128) by omega),cond_false]
  exact ⟨u,row,rfl,rfl,h0,h2,by simp⟩
 | succ k ih =>
  intro n u row h0 h1 h2 hn hr
  obtain ⟨n,rfl⟩:∃ m,n=m+1:=⟨n - 1,by omega⟩
  show ∃ a l,t3 F (pX F n) u row=some (a,l)∧_
  unfold t3
  by_cases hu:u<128
  ·rw [yI (show ¬ (u≥128) by omega),cond_false]
   exact ⟨u,row,rfl,by simp [vV,hu],h0,hu,by simp⟩
  ·rw [yW (show u≥128 by omega),cond_true,xE (by simp;omega),zbs,zMm (k:=.u64) h0 (show u<2 ^ 64 by omega) (by omega),zGb h0]
   simp (disch:=omega) only [wu8]
   obtain ⟨a,l,e1,e2,e3,e4,e5⟩:=ih n (u / 128) (row++[u % 128+128]) (by omega) (by omega) (zJC h2) (by omega) (by simp;omega)
   refine ⟨a,l,e1,?_,e3,e4,by simp at e5;omega⟩
   rw [e2];simp only [vV,if_neg hu,List.append_assoc,List.singleton_append]
theorem zHg {u:Int} (h:u≤18446744073709551615):u<128 ^ (9+1):=by
 have:(128:Int) ^ (9+1)=1180591620717411303424:=by decide
 omega
theorem zGA {F:Nat} {b:List Int} {n:Int} (hn:y2 n) (hl:b.length≤140737488355000) (hF:9<F):zBV F b n=some (b++vV 9 (w8 n)):=by
 have hz:=zCX hn
 unfold zBV
 obtain ⟨a,l,e1,e2,e3,e4,e5⟩:=zIP (F:=F) 9 F (w8 n) b hz.1 hz.2 (zHg hz.2) hF (by omega)
 rw [xE (by simp;omega),zbs,zK6 hn,zbs,List.nil_append,e1,zbs,xE (by simp;omega),zbs]
 simp (disch:=omega) only [wu8]
 rw [e2]
theorem zKp (p r:List Int) (x v:Int):(p++x::r).set p.length v=p++v::r:=by
 rw [List.set_append_right _ _ (Nat.le_refl _)];simp
theorem zJO (p r:List Int) (x:Int):(p++x::r)[p.length]?=some x:=by
 rw [List.getElem?_append_right (Nat.le_refl _)];simp
theorem zHz {F:Nat}:∀ (k n:Nat) (u:Int) (p r:List Int),0≤u→u≤18446744073709551615→u<128 ^ (k+1)→k<n→p.length+k+1=10→r.length=k+1 →
  ∃ (m:Nat) (l:List Int),qW F n (p.length:Int) u (p++r)=some (((m:Nat):Int),l)∧l.take m=p++vV k u∧m≤10∧l.length=10:=by
 intro k
 induction k with
 | zero =>
  intro n u p r h0 h1 h2 hn hp hr
  obtain ⟨n,rfl⟩:∃ m,n=m+1:=⟨n - 1,by omega⟩
  simp at h2
  match r,hr with
  | x::r,hr =>
   show ∃ (m:Nat) (l:List Int),tG F (qW F n) (p.length:Int) u (p++x::r)=some (((m:Nat):Int),l)∧_
   unfold tG
   rw [xE (by omega),zbs,Int.toNat_natCast,zJO,zbs,yW h2,cond_true,zHP h0 h1,zKp]
   simp (disch:=omega) only [w64,wu8]
   refine ⟨p.length+1,_,rfl,?_,by omega,by simp only [List.length_append,List.length_cons] at hr ⊢;omega⟩
   rw [show u % 128=u by omega,show p++u::r=(p++[u])++r by simp,List.take_left' (by simp)]
   rfl
 | succ k ih =>
  intro n u p r h0 h1 h2 hn hp hr
  obtain ⟨n,rfl⟩:∃ m,n=m+1:=⟨n - 1,by omega⟩
  match r,hr with
  | x::r,hr =>
   show ∃ (m:Nat) (l:List Int),tG F (qW F n) (p.length:Int) u (p++x::r)=some (((m:Nat):Int),l)∧_
   unfold tG
   rw [xE (by omega),zbs,Int.toNat_natCast,zJO,zbs,zHP h0 h1,zKp]
   by_cases hu:u<128
   ·rw [yW hu,cond_true]
    simp (disch:=omega) only [w64,wu8]
    refine ⟨p.length+1,_,rfl,?_,by omega,by simp only [List.length_append,List.length_cons] at hr ⊢;omega⟩
    rw [show u % 128=u by omega,show p++u::r=(p++[u])++r by simp,List.take_left' (by simp)]
    simp [vV,hu]
   ·rw [yI hu,cond_false]
    simp (disch:=omega) only [w64,wu8]
    rw [show (p.length:Int)+1 - 1=(p.length:Int) by omega,xE (by omega),zbs,Int.toNat_natCast,zJO,zbs,zbs,zbs,zKp,zRO (by omega) (by omega)]
    have e1:zBl .u64 u 7=u / 128:=by
     have:=zMp (k:=.u64) (x:=u) (s:=7) h0 (by decide)
     simpa using this
    rw [e1,show p++(u % 128+128)::r=(p++[u % 128+128])++r by simp]
    obtain ⟨m,l,q1,q2,q3,q4⟩:=ih n (u / 128) (p++[u % 128+128]) r (by omega) (by omega) (zJC h2) (by omega) (by simp;omega) (by simpa using hr)
    refine ⟨m,l,?_,?_,q3,q4⟩
    ·rw [← q1];simp
    ·rw [q2];simp only [vV,if_neg hu,List.append_assoc,List.singleton_append]
theorem zRC {α:Type} (l:List α):sub l 0 (l.length:Int)=l:=by simp [sub]
theorem jZ {F:Nat} {b:List Int} {n:Int} (hn:y2 n) (hl:b.length≤140737488355000) (hF:9<F):vG F b n=some (b++vV 9 (w8 n)):=by
 have hz:=zCX hn
 unfold vG
 obtain ⟨m,l,e1,e2,e3,e4⟩:=zHz (F:=F) 9 F (w8 n) [] (List.replicate 10 0) hz.1 hz.2 (zHg hz.2) hF (by rfl) (by rfl)
 rw [List.nil_append] at e1 e2
 rw [zIF hn,zbs,show qW F F 0 (w8 n) (List.replicate 10 0)=some ((m:Int),l) from e1,zbs]
 have hv:=(nN 9 (w8 n)).2
 simp only [Int.toNat_natCast,List.drop_zero,zRC,e2]
 have hv1:=(nN 9 (w8 n)).1
 rw [xE (by omega),zbs,xE (by omega),zbs,xE (by omega),zbs,xE (.inl hv1),zbs]
theorem zBE {l:List Int} {i:Nat} {u:Int} (hl:∀ x∈l,x7 x) (hi:i≤9) (h0:0≤u) (h1:u<2 ^ (7 * i)) :
  y2 (vrd l i u).1∧((vrd l i u).2.2=0→(i:Int)<(vrd l i u).2.1∧(vrd l i u).2.1≤10∧(vrd l i u).2.1≤i+l.length)∧((vrd l i u).2.2=0∨(vrd l i u).1=0∧(vrd l i u).2.1=0∧((vrd l i u).2.2=8∨(vrd l i u).2.2=10)):=by
 induction l generalizing i u with
 | nil=>simp [vrd,y2]
 | cons c r ih =>
  have hc:x7 c:=hl c (by simp)
  unfold x7 at hc
  have hp:=zDh i
  simp only [vrd]
  by_cases h9:i=9∧1<c
  ·rw [if_pos h9];simp [y2]
  rw [if_neg h9]
  obtain ⟨b1,b2⟩:=zJz (c:=c) (a:=c % 128) hi (by omega) h1 h0 (by omega) (by omega) (by omega)
  by_cases hc1:128≤c
  ·rw [if_pos hc1]
   have:=zJW i
   have h2:=zFT (show c - 128≤127 by omega) (show 0≤(2:Int) ^ (7 * i) by omega)
   have h3:0≤(c - 128) * (2:Int) ^ (7 * i):=Int.mul_nonneg (by omega) (by omega)
   obtain ⟨k1,k2,k3⟩:=ih (i:=i+1) (u:=u+(c - 128) * 2 ^ (7 * i)) (fun x hx=>hl x (by simp [hx])) (by omega) (by omega) (by omega)
   refine ⟨k1,fun h=>?_,k3⟩
   have:=k2 h
   simp only [List.length_cons];omega
  ·rw [if_neg hc1]
   by_cases h0:c=0∧0<i
   ·rw [if_pos h0];simp [y2]
   ·rw [if_neg h0]
    rw [show c % 128=c by omega] at b1 b2
    refine ⟨zO8 ⟨by omega,b2⟩,fun _=>?_,.inl rfl⟩
    simp only [List.length_cons];omega
theorem zQw {k:Nat} {i:Nat} {u v:Int} {more:List Int} (hi:i+k≤9) (hv0:0≤v) (hv:v<128 ^ (k+1)) (hz:v=0→i=0) (hb:u+v * 2 ^ (7 * i)≤18446744073709551615) (h0:0≤u) :
  vrd (vV k v++more) i u=(zC2 (u+v * 2 ^ (7 * i)),((i+(vV k v).length:Nat):Int),0):=by
 have last:∀ {i:Nat} {u v:Int} {more:List Int},i≤9→0≤v→v<128→(v=0→i=0)→u+v * 2 ^ (7 * i)≤18446744073709551615→0≤u→vrd (v::more) i u=(zC2 (u+v * 2 ^ (7 * i)),((i+1:Nat):Int),0):=by
  intro i u v more hi hv0 hv hz hb h0
  simp only [vrd]
  have h9:¬(i=9∧1<v):=by
   rintro ⟨rfl,h⟩
   have:=zFT (show 2≤v by omega) (show (0:Int)≤2 ^ (7 * 9) by decide)
   omega
  rw [if_neg h9,if_neg (by omega),if_neg (by omega)]
  rfl
 induction k generalizing i u v with
 | zero=>exact last (by omega) hv0 (by simpa using hv) hz hb h0
 | succ k ih =>
  simp only [vV]
  by_cases hs:v<128
  ·rw [if_pos hs];exact last (by omega) hv0 hs hz hb h0
  ·rw [if_neg hs,List.cons_append]
   simp only [vrd]
   rw [if_neg (by omega),if_pos (by omega),show v % 128+128 - 128=v % 128 by omega]
   have e:u+v % 128 * 2 ^ (7 * i)+v / 128 * 2 ^ (7 * (i+1))=u+v * 2 ^ (7 * i):=by
    have h1:v * (2:Int) ^ (7 * i)=(v % 128+128 * (v / 128)) * 2 ^ (7 * i):=by rw [Int.emod_add_mul_ediv]
    rw [h1,zJW,Int.add_mul,Int.add_assoc,← Int.mul_assoc,Int.mul_comm (v / 128) 128]
   have hp:(0:Int)≤v % 128 * 2 ^ (7 * i):=Int.mul_nonneg (by omega) (by have:=zDh i;omega)
   rw [ih (i:=i+1) (u:=u+v % 128 * 2 ^ (7 * i)) (v:=v / 128) (by omega) (by omega) (zJC hv) (by omega) (by rw [e];exact hb) (by omega),e]
   simp only [List.length_cons]
   congr 3;omega
theorem zJn {l:List Int} {i:Nat} {u:Int} (hl:∀ x∈l,x7 x) (hi:i≤9) (h0:0≤u) (h1:u<2 ^ (7 * i)) (he:(vrd l i u).2.2=0) :
  ∃ v,0≤v∧(v=0→i=0)∧u+v * 2 ^ (7 * i)≤18446744073709551615∧(vrd l i u).1=zC2 (u+v * 2 ^ (7 * i))∧l.take ((vrd l i u).2.1 - i).toNat=vV (9 - i) v:=by
 induction l generalizing i u with
 | nil=>simp [vrd] at he
 | cons c r ih =>
  have hc:x7 c:=hl c (by simp)
  unfold x7 at hc
  have hp:=zDh i
  simp only [vrd] at he ⊢
  by_cases h9:i=9∧1<c
  ·rw [if_pos h9] at he;simp at he
  rw [if_neg h9] at he ⊢
  obtain ⟨b1,b2⟩:=zJz (c:=c) (a:=c % 128) hi (by omega) h1 h0 (by omega) (by omega) (by omega)
  by_cases hc1:128≤c
  ·rw [if_pos hc1] at he ⊢
   have:=zJW i
   have h2:=zFT (show c - 128≤127 by omega) (show 0≤(2:Int) ^ (7 * i) by omega)
   have h3:0≤(c - 128) * (2:Int) ^ (7 * i):=Int.mul_nonneg (by omega) (by omega)
   have hr:∀ x∈r,x7 x:=fun x hx=>hl x (by simp [hx])
   obtain ⟨v,k1,k2,k3,k4,k5⟩:=ih (i:=i+1) (u:=u+(c - 128) * 2 ^ (7 * i)) hr (by omega) (by omega) (by omega) he
   obtain ⟨_,r2,_⟩:=zBE (i:=i+1) (u:=u+(c - 128) * 2 ^ (7 * i)) hr (by omega) (by omega) (by omega)
   have r2:=r2 he
   have e:u+(c - 128+128 * v) * 2 ^ (7 * i)=u+(c - 128) * 2 ^ (7 * i)+v * 2 ^ (7 * (i+1)):=by
    rw [zJW,Int.add_mul,Int.add_assoc,← Int.mul_assoc,Int.mul_comm v 128]
   refine ⟨c - 128+128 * v,by omega,by omega,by rw [e];exact k3,by rw [e];exact k4,?_⟩
   generalize vrd r (i+1) (u+(c - 128) * 2 ^ (7 * i))=q at *
   obtain ⟨m,hm⟩:∃ m:Nat,q.2.1=i+1+m:=⟨(q.2.1 - (i+1)).toNat,by omega⟩
   rw [hm] at k5 ⊢
   rw [show ((i:Int)+1+m - i).toNat=m+1 by omega,List.take_succ_cons]
   rw [show ((i:Int)+1+m - ((i+1:Nat):Int)).toNat=m by omega] at k5
   rw [k5,show 9 - i=(9 - (i+1))+1 by omega]
   simp only [vV]
   rw [if_neg (by omega)]
   congr 1
   ·omega
   ·congr 1;omega
  ·rw [if_neg hc1] at he ⊢
   by_cases hz:c=0∧0<i
   ·rw [if_pos hz] at he;simp at he
   ·rw [if_neg hz] at he ⊢
    rw [show c % 128=c by omega] at b1 b2
    refine ⟨c,by omega,by omega,b2,rfl,?_⟩
    simp only
    rw [show ((i:Int)+1 - i).toNat=1 by omega]
    show [c]=_
    rcases hk:9 - i with _ | k
    ·rfl
    ·simp only [vV];rw [if_pos (by omega)]
theorem zOi {n:Int} {more:List Int} (hn:y2 n):vrd (vV 9 (w8 n)++more) 0 0=(n,((vV 9 (w8 n)).length:Int),0):=by
 have hz:=zCX hn
 have:=zQw (k:=9) (i:=0) (u:=0) (v:=w8 n) (more:=more) (by omega) hz.1 (zHg hz.2) (fun _=>rfl) (by have:=hz.2;simpa using this) (by omega)
 rw [this]
 simp [zPe]
theorem zM3 {n:Int} (hn:y2 n):∀ x∈vV 9 (w8 n),x7 x:=zRA (zCX hn).1 (zHg (zCX hn).2)
theorem zR8 {l m:List Int} (hl:∀ x∈l,x7 x) (hm:∀ x∈m,x7 x):∀ x∈l++m,x7 x:=by
 intro x hx;rcases List.mem_append.1 hx with h | h
 ·exact hl x h
 ·exact hm x h
end Go.Ab
