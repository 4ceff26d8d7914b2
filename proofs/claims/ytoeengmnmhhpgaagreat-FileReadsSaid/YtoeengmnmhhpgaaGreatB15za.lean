/- Plain laws of the functions uV this seat's, laid anew from another seat's text. No conditions but those that the theorems name. -/
import Derived.Test.YtoeengmnmhhpgaaGreatP15zxD
import Derived.Test.YtoeengmnmhhpgaaGreatA32
namespace Go.Ab
open Go
set_option linter.unusedVariables false
def wT (n:Int):Int:=if n<0 then -2 * n - 1 else 2 * n
def nD (u:Int):Int:=if u % 2=1 then -(u / 2) - 1 else u / 2
theorem GM {n:Int} (h:xP n):gF (wT n):=by unfold xP at h;unfold gF wT;split<;>omega
theorem zGt {u:Int} (h:gF u):xP (nD u):=by unfold gF at h;unfold xP nD;split<;>omega
theorem ZE (n:Int):nD (wT n)=n:=by unfold nD wT;split<;>split<;>omega
theorem zDE {u:Int} (h:0≤u):wT (nD u)=u:=by unfold nD wT;split<;>split<;>omega
theorem zEl {u:Int} (h:gF u):HY u=some (nD u):=by
 unfold gF at h
 unfold HY
 have e1:jC .u64 u 1=u / 2:=by
  have:=OF (k:=.u64) (x:=u) (s:=1) h.1 (by decide)
  simpa using this
 rw [e1,YR h.1 h.2,w64 (x:=u / 2) (by omega) (by omega),w64 (x:=u % 2) (by omega) (by omega),w64 (x:=0 - u % 2) (by omega) (by omega)]
 unfold nD
 split
 ·rename_i h1
  rw [h1,show (0:Int) - 1 = -1 from rfl,zCA (by omega) (by omega)]
 ·rename_i h1
  rw [show (0:Int) - u % 2=0 by omega,ZO (by omega) (by omega)]
theorem zEF {u:Int} (h:gF u):C1 u=some (nD u):=by
 unfold gF at h
 unfold C1
 rw [MQ h.1,Q8 (k:=.u64) h.1 (show u<2 ^ 64 by omega) (by omega)]
 simp only [Bool.cond_eq_ite,beq_iff_eq]
 unfold nD
 simp (disch:=omega) only [w64,Int.zero_sub]
 split<;>rfl
theorem zD2 {n:Int} (h:xP n):H4 n=some (wT n):=by
 unfold xP at h
 unfold H4
 have e2:jC .i64 n 63=if n<0 then -1 else 0:=by
  unfold jC
  simp only [IntKind.bits]
  rw [Int.fdiv_eq_ediv_of_nonneg _ (by decide)]
  split<;>simp<;>omega
 rw [e2]
 unfold wT
 have e1:pX .u64 (vU n) 1=2 * vU n % 18446744073709551616:=by
  unfold pX
  have:=DL (vU n * 2 ^ (min (1:Int).toNat IntKind.u64.bits))
  simp only [vU] at this ⊢
  rw [this];simp [IntKind.bits];omega
 rw [e1,DL n]
 split
 ·rw [DL (-1),show (-1:Int) % 18446744073709551616=18446744073709551615 by decide,zC4 (by omega) (by omega)]
  congr 1;omega
 ·rw [DL 0,show (0:Int) % 18446744073709551616=0 by decide,zFD (by omega) (by omega)]
  congr 1;omega
theorem zCy {n:Int} (h:xP n):HU n=some (wT n):=by
 unfold xP at h
 unfold HU wT
 simp only [Bool.cond_eq_ite,decide_eq_true_eq]
 split
 ·simp (disch:=omega) only [w64,B2];congr 1;omega
 ·simp (disch:=omega) only [B2]
def vrd:List Int→Nat→Int→Int×Int×Int
 | [],_,_=>(0,0,8)
 | c::r,i,u =>
  if i=9∧1<c then (0,0,10) else
  if 128≤c then vrd r (i+1) (u+(c - 128) * 2 ^ (7 * i)) else
  if c=0∧0<i then (0,0,10) else (nD (u+c * 2 ^ (7 * i)),(i:Int)+1,0)
theorem BW (i:Nat):(2:Int) ^ (7 * (i+1))=128 * 2 ^ (7 * i):=by
 rw [Nat.mul_add,Int.pow_add];omega
theorem A7 (i:Nat):(1:Int)≤2 ^ (7 * i):=by
 have:(0:Int)<2 ^ (7 * i):=Int.pow_pos (by decide)
 omega
theorem YF {i:Nat} (h:i≤8):(2:Int) ^ (7 * i)≤72057594037927936:=by
 have:=Nat.pow_le_pow_right (n:=2) (by decide) (show 7 * i≤56 by omega)
 have h2:(((2 ^ (7 * i):Nat)):Int)=2 ^ (7 * i):=by simp
 have h3:(2:Nat) ^ 56=72057594037927936:=rfl
 omega
theorem gW {a m q:Int} (h:a≤m) (hq:0≤q):a * q≤m * q:=Int.mul_le_mul_of_nonneg_right h hq
theorem K2 {i:Nat} {u a c:Int} (hi:i≤9) (h9:¬((i:Int)=9∧c>1)) (hu:u<2 ^ (7 * i)) (hu0:0≤u) (ha:0≤a) (ha1:a≤127) (hac:a≤c) :
  0≤a * 2 ^ (7 * i)∧u+a * 2 ^ (7 * i)≤18446744073709551615:=by
 have hp:=A7 i
 refine ⟨Int.mul_nonneg ha (by omega),?_⟩
 rcases Nat.lt_or_ge i 9 with h | h
 ·have:=YF (show i≤8 by omega)
  have:=gW ha1 (show 0≤(2:Int) ^ (7 * i) by omega)
  omega
 ·obtain rfl:i=9:=by omega
  have:=gW (show a≤1 by omega) (show 0≤(2:Int) ^ (7 * 9) by omega)
  omega
def V6 (e:Int×Int×Int) (o:Unit⊕(Int×Int×Int)):Int×Int×Int:=match o with | .inl _=>e | .inr q=>q
theorem zBn {F:Nat} {b:List Int} (hb:∀ x∈b,x6 x) (hl:b.length≤4611686018427387904):∀ (n i:Nat) (u:Int),i≤9→0≤u→u<2 ^ (7 * i)→(b.drop i).length<n →
  ∃ o,mK F b n u i=some o∧V6 (0,0,8) o=vrd (b.drop i) i u:=by
 intro n
 induction n with
 | zero=>intro i u _ _ _ h;omega
 | succ n ih =>
  intro i u hi hu0 hu hn
  show ∃ o,CQ F b (mK F b n) u i=some o∧_
  unfold CQ
  rcases hd:b.drop i with _ | ⟨c,r⟩
  ·have:=tZ hd
   simp (disch:=omega) only [yM,cond_false]
   exact ⟨_,rfl,rfl⟩
  ·have hlt:=tQ hd
   have hc:x6 c:=hb c (List.mem_of_mem_drop (hd ▸ List.mem_cons_self))
   unfold x6 at hc
   have hp:=A7 i
   rw [yP (show (i:Int)<(b.length:Int) by omega),cond_true]
   simp (disch:=omega) only [w5 hd,zbs,Bool.cond_eq_ite,Bool.and_eq_true,beq_iff_eq,decide_eq_true_eq,vrd,w64,xZ,zA3,B2]
   have h7:(7:Int) * (i:Int)=((7 * i:Nat):Int):=by omega
   by_cases h9:(i:Int)=9∧c>1
   ·simp (disch:=omega) only [if_pos]
    exact ⟨_,rfl,rfl⟩
   rw [if_neg h9,if_neg (show ¬(i=9∧1<c) by omega)]
   have hm:0≤c % 128∧c % 128≤127∧c % 128≤c:=by omega
   obtain ⟨b1,b2⟩:=K2 hi h9 hu hu0 hm.1 hm.2.1 hm.2.2
   have e1:ior .u64 u (pX .u64 (c % 128) (7 * (i:Int)))=u+c % 128 * 2 ^ (7 * i):=by
    rw [h7,zGo (k:=.u64) hm.1 (by simp only [IntKind.bits];omega) (show c % 128 * 2 ^ (7 * i)<18446744073709551616 by omega),UE (k:=.u64) hu0 hu hm.1 (show u+c % 128 * 2 ^ (7 * i)<18446744073709551616 by omega)]
   rw [e1]
   by_cases hc1:c≥128
   ·rw [show c % 128=c - 128 by omega]
    simp (disch:=omega) only [if_pos]
    rw [show c % 128=c - 128 by omega] at b1 b2
    have hi8:i≤8:=by omega
    have:=BW i
    have h2:=gW (show c - 128≤127 by omega) (show 0≤(2:Int) ^ (7 * i) by omega)
    have:=ih (i+1) (u+(c - 128) * 2 ^ (7 * i)) (by omega) (by omega) (by omega) (by rw [wZ hd];rw [hd] at hn;simp at hn;omega)
    rw [wZ hd] at this
    exact this
   ·rw [show c % 128=c by omega] at b1 b2 ⊢
    by_cases h0:c=0∧(i:Int)>0
    ·simp (disch:=omega) only [if_pos,if_neg]
     exact ⟨_,rfl,rfl⟩
    ·rw [zEl ⟨by omega,b2⟩]
     simp (disch:=omega) only [if_neg]
     exact ⟨_,rfl,rfl⟩
theorem zAv {F:Nat} {b:List Int} (hb:∀ x∈b,x6 x) (hl:b.length≤4611686018427387904):∀ (n i:Nat) (u:Int),i≤9→0≤u→u<2 ^ (7 * i)→10 - i<n →
  ∃ o,mR F b n u (2 ^ (7 * i)) i=some o∧V6 (0,0,10) o=vrd (b.drop i) i u:=by
 intro n
 induction n with
 | zero=>intro i u _ _ _ h;omega
 | succ n ih =>
  intro i u hi hu0 hu hn
  show ∃ o,CP F b (mR F b n) u (2 ^ (7 * i)) i=some o∧_
  unfold CP
  rw [yP (show (i:Int)<10 by omega),cond_true]
  rcases hd:b.drop i with _ | ⟨c,r⟩
  ·have:=tZ hd
   simp (disch:=omega) only [yP,cond_true]
   exact ⟨_,rfl,rfl⟩
  ·have hlt:=tQ hd
   have hc:x6 c:=hb c (List.mem_of_mem_drop (hd ▸ List.mem_cons_self))
   unfold x6 at hc
   have hp:=A7 i
   have hm:0≤c % 128∧c % 128≤127∧c % 128≤c:=by omega
   rw [yM (show ¬ ((i:Int)≥(b.length:Int)) by omega),cond_false]
   simp (disch:=omega) only [w5 hd,zbs,Bool.cond_eq_ite,Bool.and_eq_true,beq_iff_eq,decide_eq_true_eq,vrd,w64,B2,MQ]
   by_cases h9:(i:Int)=9∧c>1
   ·simp (disch:=omega) only [if_pos]
    exact ⟨_,rfl,rfl⟩
   rw [if_neg h9,if_neg (show ¬(i=9∧1<c) by omega)]
   obtain ⟨b1,b2⟩:=K2 hi h9 hu hu0 hm.1 hm.2.1 hm.2.2
   simp (disch:=omega) only [B2]
   by_cases h0:c=0∧(i:Int)>0
   ·simp (disch:=omega) only [if_pos,if_neg]
    exact ⟨_,rfl,rfl⟩
   by_cases hc1:c≥128
   ·rw [show c % 128=c - 128 by omega]
    have hi8:i≤8:=by omega
    have:=BW i
    have:=YF hi8
    have h2:=gW (show c - 128≤127 by omega) (show 0≤(2:Int) ^ (7 * i) by omega)
    have h3:0≤(c - 128) * (2:Int) ^ (7 * i):=Int.mul_nonneg (by omega) (by omega)
    rw [B2 (x:=2 ^ (7 * i) * 128) (by omega) (by omega),show (2:Int) ^ (7 * i) * 128=2 ^ (7 * (i+1)) by omega]
    simp (disch:=omega) only [if_pos,if_neg]
    have:=ih (i+1) (u+(c - 128) * 2 ^ (7 * i)) (by omega) (by omega) (by omega) (by omega)
    rw [wZ hd] at this
    exact this
   ·rw [show c % 128=c by omega] at b1 b2 ⊢
    rw [zEF ⟨by omega,b2⟩]
    simp (disch:=omega) only [if_pos,if_neg]
    exact ⟨_,rfl,rfl⟩
theorem m7 {F:Nat} {b:List Int} (hb:∀ x∈b,x6 x) (hl:b.length≤4611686018427387904) (hF:b.length<F):cI F b=some (vrd b 0 0):=by
 obtain ⟨o,h1,h2⟩:=zBn (F:=F) hb hl F 0 0 (by omega) (by omega) (by decide) (by simpa using hF)
 unfold cI
 simp only [List.drop_zero] at h2
 rw [show mK F b F (0:Int) 0=some o from h1,← h2]
 cases o<;>rfl
theorem KW {F:Nat} {b:List Int} (hb:∀ x∈b,x6 x) (hl:b.length≤4611686018427387904) (hF:10<F):fL F b=some (vrd b 0 0):=by
 obtain ⟨o,h1,h2⟩:=zAv (F:=F) hb hl F 0 0 (by omega) (by omega) (by decide) (by omega)
 unfold fL
 simp only [List.drop_zero] at h2
 rw [show mR F b F (0:Int) 1 0=some o from h1,← h2]
 cases o<;>rfl
def vH:Nat→Int→List Int
 | 0,u=>[u]
 | k+1,u=>if u<128 then [u] else (u % 128+128)::vH k (u / 128)
theorem j5 (k:Nat) (u:Int):1≤(vH k u).length∧(vH k u).length≤k+1:=by
 induction k generalizing u with
 | zero=>simp [vH]
 | succ k ih =>
  simp only [vH];split
  ·simp
  ·have:=ih (u / 128);simp;omega
theorem zAk (k:Nat):(128:Int) ^ (k+1)=128 * 128 ^ k:=by rw [Int.pow_succ];omega
theorem JI {k:Nat} {u:Int} (h:u<128 ^ (k+1+1)):u / 128<128 ^ (k+1):=by
 have:=zAk (k+1);omega
theorem zEQ {k:Nat} {u:Int} (h0:0≤u) (h:u<128 ^ (k+1)):∀ x∈vH k u,x6 x:=by
 induction k generalizing u with
 | zero=>intro x hx;simp [vH] at hx;subst hx;simp at h;unfold x6;omega
 | succ k ih =>
  intro x hx
  simp only [vH] at hx
  split at hx
  ·simp at hx;subst hx;unfold x6;omega
  ·rcases List.mem_cons.1 hx with rfl | hx
   ·unfold x6;omega
   ·exact ih (by omega) (JI h) x hx
theorem zCD {F:Nat}:∀ (k n:Nat) (u:Int) (row:List Int),0≤u→u≤18446744073709551615→u<128 ^ (k+1)→k<n→row.length+k+2≤140737488355328 →
  ∃ a l,oM F n u row=some (a,l)∧l++[a]=row++vH k u∧0≤a∧a<128∧l.length≤row.length+k:=by
 intro k
 induction k with
 | zero =>
  intro n u row h0 h1 h2 hn hr
  obtain ⟨n,rfl⟩:∃ m,n=m+1:=⟨n - 1,by omega⟩
  simp at h2
  show ∃ a l,mZ F (oM F n) u row=some (a,l)∧_
  unfold mZ
  rw [yM (show ¬ (u≥128) by omega),cond_false]
  exact ⟨u,row,rfl,rfl,h0,h2,by simp⟩
 | succ k ih =>
  intro n u row h0 h1 h2 hn hr
  obtain ⟨n,rfl⟩:∃ m,n=m+1:=⟨n - 1,by omega⟩
  show ∃ a l,mZ F (oM F n) u row=some (a,l)∧_
  unfold mZ
  by_cases hu:u<128
  ·rw [yM (show ¬ (u≥128) by omega),cond_false]
   exact ⟨u,row,rfl,by simp [vH,hu],h0,hu,by simp⟩
  ·rw [yP (show u≥128 by omega),cond_true,xZ (by simp;omega),zbs,Q8 (k:=.u64) h0 (show u<2 ^ 64 by omega) (by omega),MQ h0]
   simp (disch:=omega) only [wu8]
   obtain ⟨a,l,e1,e2,e3,e4,e5⟩:=ih n (u / 128) (row++[u % 128+128]) (by omega) (by omega) (JI h2) (by omega) (by simp;omega)
   refine ⟨a,l,e1,?_,e3,e4,by simp at e5;omega⟩
   rw [e2];simp only [vH,if_neg hu,List.append_assoc,List.singleton_append]
theorem LX {u:Int} (h:u≤18446744073709551615):u<128 ^ (9+1):=by
 have:(128:Int) ^ (9+1)=1180591620717411303424:=by decide
 omega
theorem cC {F:Nat} {b:List Int} {n:Int} (hn:xP n) (hl:b.length≤140737488355000) (hF:9<F):nM F b n=some (b++vH 9 (wT n)):=by
 have hz:=GM hn
 unfold nM
 obtain ⟨a,l,e1,e2,e3,e4,e5⟩:=zCD (F:=F) 9 F (wT n) b hz.1 hz.2 (LX hz.2) hF (by omega)
 rw [xZ (by simp;omega),zbs,zCy hn,zbs,List.nil_append,e1,zbs,xZ (by simp;omega),zbs]
 simp (disch:=omega) only [wu8]
 rw [e2]
theorem QD (p r:List Int) (x v:Int):(p++x::r).set p.length v=p++v::r:=by
 rw [List.set_append_right _ _ (Nat.le_refl _)];simp
theorem NB (p r:List Int) (x:Int):(p++x::r)[p.length]?=some x:=by
 rw [List.getElem?_append_right (Nat.le_refl _)];simp
theorem zDy {F:Nat}:∀ (k n:Nat) (u:Int) (p r:List Int),0≤u→u≤18446744073709551615→u<128 ^ (k+1)→k<n→p.length+k+1=10→r.length=k+1 →
  ∃ (m:Nat) (l:List Int),fZ F n (p.length:Int) u (p++r)=some (((m:Nat):Int),l)∧l.take m=p++vH k u∧m≤10∧l.length=10:=by
 intro k
 induction k with
 | zero =>
  intro n u p r h0 h1 h2 hn hp hr
  obtain ⟨n,rfl⟩:∃ m,n=m+1:=⟨n - 1,by omega⟩
  simp at h2
  match r,hr with
  | x::r,hr =>
   show ∃ (m:Nat) (l:List Int),oH F (fZ F n) (p.length:Int) u (p++x::r)=some (((m:Nat):Int),l)∧_
   unfold oH
   rw [xZ (by omega),zbs,Int.toNat_natCast,NB,zbs,yP h2,cond_true,U3 h0 h1,QD]
   simp (disch:=omega) only [w64,wu8]
   refine ⟨p.length+1,_,rfl,?_,by omega,by simp only [List.length_append,List.length_cons] at hr ⊢;omega⟩
   rw [show u % 128=u by omega,show p++u::r=(p++[u])++r by simp,List.take_left' (by simp)]
   rfl
 | succ k ih =>
  intro n u p r h0 h1 h2 hn hp hr
  obtain ⟨n,rfl⟩:∃ m,n=m+1:=⟨n - 1,by omega⟩
  match r,hr with
  | x::r,hr =>
   show ∃ (m:Nat) (l:List Int),oH F (fZ F n) (p.length:Int) u (p++x::r)=some (((m:Nat):Int),l)∧_
   unfold oH
   rw [xZ (by omega),zbs,Int.toNat_natCast,NB,zbs,U3 h0 h1,QD]
   by_cases hu:u<128
   ·rw [yP hu,cond_true]
    simp (disch:=omega) only [w64,wu8]
    refine ⟨p.length+1,_,rfl,?_,by omega,by simp only [List.length_append,List.length_cons] at hr ⊢;omega⟩
    rw [show u % 128=u by omega,show p++u::r=(p++[u])++r by simp,List.take_left' (by simp)]
    simp [vH,hu]
   ·rw [yM hu,cond_false]
    simp (disch:=omega) only [w64,wu8]
    rw [show (p.length:Int)+1 - 1=(p.length:Int) by omega,xZ (by omega),zbs,Int.toNat_natCast,NB,zbs,zbs,zbs,QD,zCv (by omega) (by omega)]
    have e1:jC .u64 u 7=u / 128:=by
     have:=OF (k:=.u64) (x:=u) (s:=7) h0 (by decide)
     simpa using this
    rw [e1,show p++(u % 128+128)::r=(p++[u % 128+128])++r by simp]
    obtain ⟨m,l,q1,q2,q3,q4⟩:=ih n (u / 128) (p++[u % 128+128]) r (by omega) (by omega) (JI h2) (by omega) (by simp;omega) (by simpa using hr)
    refine ⟨m,l,?_,?_,q3,q4⟩
    ·rw [← q1];simp
    ·rw [q2];simp only [vH,if_neg hu,List.append_assoc,List.singleton_append]
theorem zBd {α:Type} (l:List α):sub l 0 (l.length:Int)=l:=by simp [sub]
theorem kZ {F:Nat} {b:List Int} {n:Int} (hn:xP n) (hl:b.length≤140737488355000) (hF:9<F):qD F b n=some (b++vH 9 (wT n)):=by
 have hz:=GM hn
 unfold qD
 obtain ⟨m,l,e1,e2,e3,e4⟩:=zDy (F:=F) 9 F (wT n) [] (List.replicate 10 0) hz.1 hz.2 (LX hz.2) hF (by rfl) (by rfl)
 rw [List.nil_append] at e1 e2
 rw [zD2 hn,zbs,show fZ F F 0 (wT n) (List.replicate 10 0)=some ((m:Int),l) from e1,zbs]
 have hv:=(j5 9 (wT n)).2
 simp only [Int.toNat_natCast,List.drop_zero,zBd,e2]
 have hv1:=(j5 9 (wT n)).1
 rw [xZ (by omega),zbs,xZ (by omega),zbs,xZ (by omega),zbs,xZ (.inl hv1),zbs]
theorem cJ {l:List Int} {i:Nat} {u:Int} (hl:∀ x∈l,x6 x) (hi:i≤9) (h0:0≤u) (h1:u<2 ^ (7 * i)) :
  xP (vrd l i u).1∧((vrd l i u).2.2=0→(i:Int)<(vrd l i u).2.1∧(vrd l i u).2.1≤10∧(vrd l i u).2.1≤i+l.length)∧((vrd l i u).2.2=0∨(vrd l i u).1=0∧(vrd l i u).2.1=0∧((vrd l i u).2.2=8∨(vrd l i u).2.2=10)):=by
 induction l generalizing i u with
 | nil=>simp [vrd,xP]
 | cons c r ih =>
  have hc:x6 c:=hl c (by simp)
  unfold x6 at hc
  have hp:=A7 i
  simp only [vrd]
  by_cases h9:i=9∧1<c
  ·rw [if_pos h9];simp [xP]
  rw [if_neg h9]
  obtain ⟨b1,b2⟩:=K2 (c:=c) (a:=c % 128) hi (by omega) h1 h0 (by omega) (by omega) (by omega)
  by_cases hc1:128≤c
  ·rw [if_pos hc1]
   have:=BW i
   have h2:=gW (show c - 128≤127 by omega) (show 0≤(2:Int) ^ (7 * i) by omega)
   have h3:0≤(c - 128) * (2:Int) ^ (7 * i):=Int.mul_nonneg (by omega) (by omega)
   obtain ⟨k1,k2,k3⟩:=ih (i:=i+1) (u:=u+(c - 128) * 2 ^ (7 * i)) (fun x hx=>hl x (by simp [hx])) (by omega) (by omega) (by omega)
   refine ⟨k1,fun h=>?_,k3⟩
   have:=k2 h
   simp only [List.length_cons];omega
  ·rw [if_neg hc1]
   by_cases h0:c=0∧0<i
   ·rw [if_pos h0];simp [xP]
   ·rw [if_neg h0]
    rw [show c % 128=c by omega] at b1 b2
    refine ⟨zGt ⟨by omega,b2⟩,fun _=>?_,.inl rfl⟩
    simp only [List.length_cons];omega
theorem zBf {k:Nat} {i:Nat} {u v:Int} {more:List Int} (hi:i+k≤9) (hv0:0≤v) (hv:v<128 ^ (k+1)) (hz:v=0→i=0) (hb:u+v * 2 ^ (7 * i)≤18446744073709551615) (h0:0≤u) :
  vrd (vH k v++more) i u=(nD (u+v * 2 ^ (7 * i)),((i+(vH k v).length:Nat):Int),0):=by
 have last:∀ {i:Nat} {u v:Int} {more:List Int},i≤9→0≤v→v<128→(v=0→i=0)→u+v * 2 ^ (7 * i)≤18446744073709551615→0≤u→vrd (v::more) i u=(nD (u+v * 2 ^ (7 * i)),((i+1:Nat):Int),0):=by
  intro i u v more hi hv0 hv hz hb h0
  simp only [vrd]
  have h9:¬(i=9∧1<v):=by
   rintro ⟨rfl,h⟩
   have:=gW (show 2≤v by omega) (show (0:Int)≤2 ^ (7 * 9) by decide)
   omega
  rw [if_neg h9,if_neg (by omega),if_neg (by omega)]
  rfl
 induction k generalizing i u v with
 | zero=>exact last (by omega) hv0 (by simpa using hv) hz hb h0
 | succ k ih =>
  simp only [vH]
  by_cases hs:v<128
  ·rw [if_pos hs];exact last (by omega) hv0 hs hz hb h0
  ·rw [if_neg hs,List.cons_append]
   simp only [vrd]
   rw [if_neg (by omega),if_pos (by omega),show v % 128+128 - 128=v % 128 by omega]
   have e:u+v % 128 * 2 ^ (7 * i)+v / 128 * 2 ^ (7 * (i+1))=u+v * 2 ^ (7 * i):=by
    have h1:v * (2:Int) ^ (7 * i)=(v % 128+128 * (v / 128)) * 2 ^ (7 * i):=by rw [Int.emod_add_mul_ediv]
    rw [h1,BW,Int.add_mul,Int.add_assoc,← Int.mul_assoc,Int.mul_comm (v / 128) 128]
   have hp:(0:Int)≤v % 128 * 2 ^ (7 * i):=Int.mul_nonneg (by omega) (by have:=A7 i;omega)
   rw [ih (i:=i+1) (u:=u+v % 128 * 2 ^ (7 * i)) (v:=v / 128) (by omega) (by omega) (JI hv) (by omega) (by rw [e];exact hb) (by omega),e]
   simp only [List.length_cons]
   congr 3;omega
theorem zGA {l:List Int} {i:Nat} {u:Int} (hl:∀ x∈l,x6 x) (hi:i≤9) (h0:0≤u) (h1:u<2 ^ (7 * i)) (he:(vrd l i u).2.2=0) :
  ∃ v,0≤v∧(v=0→i=0)∧u+v * 2 ^ (7 * i)≤18446744073709551615∧(vrd l i u).1=nD (u+v * 2 ^ (7 * i))∧l.take ((vrd l i u).2.1 - i).toNat=vH (9 - i) v:=by
 induction l generalizing i u with
 | nil=>simp [vrd] at he
 | cons c r ih =>
  have hc:x6 c:=hl c (by simp)
  unfold x6 at hc
  have hp:=A7 i
  simp only [vrd] at he ⊢
  by_cases h9:i=9∧1<c
  ·rw [if_pos h9] at he;simp at he
  rw [if_neg h9] at he ⊢
  obtain ⟨b1,b2⟩:=K2 (c:=c) (a:=c % 128) hi (by omega) h1 h0 (by omega) (by omega) (by omega)
  by_cases hc1:128≤c
  ·rw [if_pos hc1] at he ⊢
   have:=BW i
   have h2:=gW (show c - 128≤127 by omega) (show 0≤(2:Int) ^ (7 * i) by omega)
   have h3:0≤(c - 128) * (2:Int) ^ (7 * i):=Int.mul_nonneg (by omega) (by omega)
   have hr:∀ x∈r,x6 x:=fun x hx=>hl x (by simp [hx])
   obtain ⟨v,k1,k2,k3,k4,k5⟩:=ih (i:=i+1) (u:=u+(c - 128) * 2 ^ (7 * i)) hr (by omega) (by omega) (by omega) he
   obtain ⟨_,r2,_⟩:=cJ (i:=i+1) (u:=u+(c - 128) * 2 ^ (7 * i)) hr (by omega) (by omega) (by omega)
   have r2:=r2 he
   have e:u+(c - 128+128 * v) * 2 ^ (7 * i)=u+(c - 128) * 2 ^ (7 * i)+v * 2 ^ (7 * (i+1)):=by
    rw [BW,Int.add_mul,Int.add_assoc,← Int.mul_assoc,Int.mul_comm v 128]
   refine ⟨c - 128+128 * v,by omega,by omega,by rw [e];exact k3,by rw [e];exact k4,?_⟩
   generalize vrd r (i+1) (u+(c - 128) * 2 ^ (7 * i))=q at *
   obtain ⟨m,hm⟩:∃ m:Nat,q.2.1=i+1+m:=⟨(q.2.1 - (i+1)).toNat,by omega⟩
   rw [hm] at k5 ⊢
   rw [show ((i:Int)+1+m - i).toNat=m+1 by omega,List.take_succ_cons]
   rw [show ((i:Int)+1+m - ((i+1:Nat):Int)).toNat=m by omega] at k5
   rw [k5,show 9 - i=(9 - (i+1))+1 by omega]
   simp only [vH]
   rw [if_neg (by omega)]
   congr 1
   ·omega
   ·congr 1;omega
  ·rw [if_neg hc1] at he ⊢
   by_cases hz:c=0∧0<i
   ·rw [if_pos hz] at he;simp at he
   ·rw [if_neg hz] at he ⊢
    rw [show c % 128=c by omega] at b1 b2
    refine ⟨c,by omega,by omega,b2,rfl,?_⟩
    simp only
    rw [show ((i:Int)+1 - i).toNat=1 by omega]
    show [c]=_
    rcases hk:9 - i with _ | k
    ·rfl
    ·simp only [vH];rw [if_pos (by omega)]
theorem zDI {n:Int} {more:List Int} (hn:xP n):vrd (vH 9 (wT n)++more) 0 0=(n,((vH 9 (wT n)).length:Int),0):=by
 have hz:=GM hn
 have:=zBf (k:=9) (i:=0) (u:=0) (v:=wT n) (more:=more) (by omega) hz.1 (LX hz.2) (fun _=>rfl) (by have:=hz.2;simpa using this) (by omega)
 rw [this]
 simp [ZE]
theorem zBk {n:Int} (hn:xP n):∀ x∈vH 9 (wT n),x6 x:=zEQ (GM hn).1 (LX (GM hn).2)
abbrev YE:BitVec 32:=0xedb88320#32
def EU (x:BitVec 32):BitVec 32:=(x >>> 1) ^^^ (bif x.getLsbD 0 then YE else 0#32)
def BN:Nat→BitVec 32→BitVec 32
 | 0,x=>x
 | n+1,x=>BN n (EU x)
def zD1 (x:BitVec 32) (c:Int):BitVec 32:=BN 8 (x ^^^ BitVec.ofInt 32 c)
def KT:BitVec 32→List Int→BitVec 32
 | x,[]=>x
 | x,c::r=>KT (zD1 x c) r
def aX (l:List Int):BitVec 32:=KT (BitVec.allOnes 32) l ^^^ BitVec.allOnes 32
def i32 (x:BitVec 32):Int:=(x.toNat:Int)
theorem KB (x:BitVec 32):0≤i32 x∧i32 x≤4294967295:=by
 unfold i32;have:=x.isLt;omega
theorem GW (x y:BitVec 32):tJ .u32 (i32 x) (i32 y)=i32 (x ^^^ y):=by
 unfold i32
 rw [V5 (k:=.u32) (show _<2 ^ 32 from x.isLt) (show _<2 ^ 32 from y.isLt),BitVec.toNat_xor]
theorem zEr (x:BitVec 32):x.getLsbD 0=decide (i32 x % 2=1):=by
 unfold i32 BitVec.getLsbD
 rw [Nat.testBit_zero]
 congr 1
 exact propext ⟨fun h=>by omega,fun h=>by omega⟩
theorem zAf (x:BitVec 32):i32 x / (2:Int)=i32 (x >>> (1:Nat)):=by
 unfold i32
 rw [BitVec.toNat_ushiftRight,Nat.shiftRight_eq_div_pow];omega
theorem UK (x:BitVec 32):(if i32 x % 2=1 then tJ .u32 (i32 x / 2) 3988292384 else i32 x / 2)=i32 (EU x):=by
 unfold EU
 rw [zEr,zAf]
 split
 ·rename_i h
  rw [yP h,cond_true,show (3988292384:Int)=i32 YE by decide,GW]
 ·rename_i h
  rw [yM h,cond_false,BitVec.xor_zero]
theorem VA {c:Int} (h:x6 c):c=i32 (BitVec.ofInt 32 c):=by
 unfold x6 at h;unfold i32
 rw [BitVec.toNat_ofInt]
 have:(2 ^ 32:Nat)=4294967296:=rfl
 omega
theorem zAA {F:Nat}:∀ (k n:Nat) (x:BitVec 32),k≤8→k<n→d9 F n (i32 x) (8 - (k:Int))=some (i32 (BN k x)):=by
 intro k
 induction k with
 | zero =>
  intro n x _ hn
  obtain ⟨n,rfl⟩:∃ m,n=m+1:=⟨n - 1,by omega⟩
  show m3 F (d9 F n) _ _=_
  unfold m3
  rw [yM (by omega),cond_false];rfl
 | succ k ih =>
  intro n x hk hn
  obtain ⟨n,rfl⟩:∃ m,n=m+1:=⟨n - 1,by omega⟩
  show m3 F (d9 F n) _ _=_
  have hr:=KB x
  unfold m3
  have e1:jC .u32 (i32 x) 1=i32 x / 2:=by
   have:=OF (k:=.u32) (x:=i32 x) (s:=1) hr.1 (by decide)
   simpa using this
  rw [yP (by omega),cond_true,zCW hr.1 hr.2,e1,w64 (by omega) (by omega),show 8 - ((k+1:Nat):Int)+1=8 - (k:Int) by omega]
  have:=ih n (EU x) (by omega) (by omega)
  rw [← UK] at this
  simp only [Bool.cond_eq_ite,beq_iff_eq]
  simp only [BN]
  rw [← this]
  split<;>rfl
theorem zGM {F:Nat}:∀ (k n:Nat) (x:BitVec 32),k≤8→k<n→gB F n (i32 x) (8 - (k:Int))=some (i32 (BN k x)):=by
 intro k
 induction k with
 | zero =>
  intro n x _ hn
  obtain ⟨n,rfl⟩:∃ m,n=m+1:=⟨n - 1,by omega⟩
  show lE F (gB F n) _ _=_
  unfold lE
  rw [yM (by omega),cond_false];rfl
 | succ k ih =>
  intro n x hk hn
  obtain ⟨n,rfl⟩:∃ m,n=m+1:=⟨n - 1,by omega⟩
  show lE F (gB F n) _ _=_
  have hr:=KB x
  have hq:i32 x<(kW .u32:Nat):=by rw [show kW .u32=4294967296 from rfl];omega
  unfold lE
  rw [yP (by omega),cond_true,MQ hr.1,Q8 (k:=.u32) hr.1 hq (by omega),w64 (by omega) (by omega),show 8 - ((k+1:Nat):Int)+1=8 - (k:Int) by omega]
  have:=ih n (EU x) (by omega) (by omega)
  rw [← UK] at this
  simp only [Bool.cond_eq_ite,beq_iff_eq]
  simp only [BN]
  rw [← this]
  split<;>rfl
theorem zEn {F:Nat} {b:List Int} (hb:∀ x∈b,x6 x) (hl:b.length≤4611686018427387904) (hF:8<F):∀ (n i:Nat) (x:BitVec 32),(b.drop i).length<n→oO F b n (i32 x) i=some (i32 (KT x (b.drop i))):=by
 intro n
 induction n with
 | zero=>intro i x h;omega
 | succ n ih =>
  intro i x hn
  show H9 F b (oO F b n) _ _=_
  unfold H9
  rcases hd:b.drop i with _ | ⟨c,r⟩
  ·have:=tZ hd
   rw [yM (by omega),cond_false];rfl
  ·have hlt:=tQ hd
   have hc:x6 c:=hb c (List.mem_of_mem_drop (hd ▸ List.mem_cons_self))
   have hc':=hc;unfold x6 at hc'
   rw [hd] at hn;simp only [List.length_cons] at hn
   rw [yP (by omega),cond_true,w5 hd,zbs,YJ (by omega) (by omega)]
   have e:=zAA (F:=F) 8 F (x ^^^ BitVec.ofInt 32 c) (by omega) hF
   rw [← GW,← VA hc] at e
   rw [show d9 F F (tJ .u32 (i32 x) c) 0=_ from e,zbs,w64 (by omega) (by omega),show (i:Int)+1=((i+1:Nat):Int) by omega,ih (i+1) _ (by rw [wZ hd];omega),wZ hd]
   rfl
theorem zFo {F:Nat} {b:List Int} (hb:∀ x∈b,x6 x) (hl:b.length≤4611686018427387904) (hF:8<F):∀ (n i:Nat) (x:BitVec 32),(b.drop i).length<n→l9 F b n (i32 x) i=some (i32 (KT x (b.drop i))):=by
 intro n
 induction n with
 | zero=>intro i x h;omega
 | succ n ih =>
  intro i x hn
  show EZ F b (l9 F b n) _ _=_
  unfold EZ
  rcases hd:b.drop i with _ | ⟨c,r⟩
  ·have:=tZ hd
   rw [yM (by omega),cond_false];rfl
  ·have hlt:=tQ hd
   have hc:x6 c:=hb c (List.mem_of_mem_drop (hd ▸ List.mem_cons_self))
   have hc':=hc;unfold x6 at hc'
   rw [hd] at hn;simp only [List.length_cons] at hn
   rw [yP (by omega),cond_true,w5 hd,zbs,YJ (by omega) (by omega)]
   have e:=zGM (F:=F) 8 F (x ^^^ BitVec.ofInt 32 c) (by omega) hF
   rw [← GW,← VA hc] at e
   rw [show gB F F (tJ .u32 (i32 x) c) 0=_ from e,zbs,w64 (by omega) (by omega),show (i:Int)+1=((i+1:Nat):Int) by omega,ih (i+1) _ (by rw [wZ hd];omega),wZ hd]
   rfl
theorem zAS {F:Nat} {b:List Int} (hb:∀ x∈b,x6 x) (hl:b.length≤4611686018427387904) (hF:8<F) (hF2:b.length<F):EG F b=some (i32 (aX b)):=by
 unfold EG
 have e:=zEn (F:=F) hb hl hF F 0 (BitVec.allOnes 32) (by simpa using hF2)
 rw [show oO F b F 4294967295 0=_ from e,zbs,show (4294967295:Int)=i32 (BitVec.allOnes 32) by decide,GW,BitVec.xor_comm,List.drop_zero]
 have hr:=KB (aX b)
 rw [w64 (by show _≤i32 (aX b);omega) (by show i32 (aX b)≤_;omega)]
 rfl
theorem zE9 {F:Nat} {b:List Int} (hb:∀ x∈b,x6 x) (hl:b.length≤4611686018427387904) (hF:8<F) (hF2:b.length<F):C4 F b=some (i32 (aX b)):=by
 unfold C4
 have e:=zFo (F:=F) hb hl hF F 0 (BitVec.allOnes 32) (by simpa using hF2)
 rw [show l9 F b F 4294967295 0=_ from e,zbs,show (4294967295:Int)=i32 (BitVec.allOnes 32) by decide,GW,List.drop_zero]
 have hr:=KB (aX b)
 rw [w64 (by show _≤i32 (aX b);omega) (by show i32 (aX b)≤_;omega)]
 rfl
end Go.Ab
