/- Plain laws of the functions uS this seat's, laid anew from another seat's text. No conditions but those that the theorems name. -/
import Derived.Test.YtoeengmnmhhpgaaGreatP15zxD
import Derived.Test.YtoeengmnmhhpgaaGreatA32
namespace Go.Ab
open Go
set_option linter.unusedVariables false
def wT (n:Int):Int:=if n<0 then -2 * n - 1 else 2 * n
def nZ (u:Int):Int:=if u % 2=1 then -(u / 2) - 1 else u / 2
theorem JT {n:Int} (h:xM n):gK (wT n):=by unfold xM at h;unfold gK wT;split<;>omega
theorem zEV {u:Int} (h:gK u):xM (nZ u):=by unfold gK at h;unfold xM nZ;split<;>omega
theorem zBH (n:Int):nZ (wT n)=n:=by unfold nZ wT;split<;>split<;>omega
theorem zEL {u:Int} (h:0<=u):wT (nZ u)=u:=by unfold nZ wT;split<;>split<;>omega
theorem zIb {u:Int} (h:gK u):KI u=some (nZ u):=by
 unfold gK at h;unfold KI;have e1:jV .u64 u 1=u / 2:=by
  have:=QW (k:=.u64) (x:=u) (s:=1) h.1 (by decide)
  simpa using this
 rw [e1,zGj h.1 h.2,w64 (x:=u / 2) (by omega) (by omega),w64 (x:=u % 2) (by omega) (by omega),w64 (x:=0 - u % 2) (by omega) (by omega)];unfold nZ
 split
 ·rename_i h1
  rw [h1,show (0:Int) - 1 = -1 from rfl,zFD (by omega) (by omega)]
 ·rename_i h1
  rw [show (0:Int) - u % 2=0 by omega,zDZ (by omega) (by omega)]
theorem zD4 {u:Int} (h:gK u):J7 u=some (nZ u):=by
 unfold gK at h;unfold J7;rw [OP h.1,TC (k:=.u64) h.1 (show u<2 ^ 64 by omega) (by omega)];simp only [Bool.cond_eq_ite,beq_iff_eq];unfold nZ;simp (disch:=omega) only [w64,Int.zero_sub]
 split<;>rfl
theorem zBW {n:Int} (h:xM n):GV n=some (wT n):=by
 unfold xM at h;unfold GV;have e2:jV .i64 n 63=if n<0 then -1 else 0:=by
  unfold jV;simp only [IntKind.bits];rw [Int.fdiv_eq_ediv_of_nonneg _ (by decide)]
  split<;>simp<;>omega
 rw [e2];unfold wT;have e1:nV .u64 (v6 n) 1=2 * v6 n % 18446744073709551616:=by
  unfold nV
  have:=DZ (v6 n * 2 ^ (min (1:Int).toNat IntKind.u64.bits))
  simp only [v6] at this ⊢;rw [this];simp [IntKind.bits];omega
 rw [e1,DZ n]
 split
 ·rw [DZ (-1),show (-1:Int) % 18446744073709551616=18446744073709551615 by decide,zHB (by omega) (by omega)]
  congr 1;omega
 ·rw [DZ 0,show (0:Int) % 18446744073709551616=0 by decide,zGh (by omega) (by omega)]
  congr 1;omega
theorem zCZ {n:Int} (h:xM n):HO n=some (wT n):=by
 unfold xM at h;unfold HO wT;simp only [Bool.cond_eq_ite,decide_eq_true_eq]
 split
 ·simp (disch:=omega) only [w64,AI];congr 1;omega
 ·simp (disch:=omega) only [AI]
def vrd:List Int->Nat->Int->Int×Int×Int
 | [],_,_=>(0,0,8)
 | c::r,i,u =>
  if i=9/\1<c then (0,0,10) else
  if 128<=c then vrd r (i+1) (u+(c - 128) * 2 ^ (7 * i)) else
  if c=0/\0<i then (0,0,10) else (nZ (u+c * 2 ^ (7 * i)),(i:Int)+1,0)
theorem A3 (i:Nat):(2:Int) ^ (7 * (i+1))=128 * 2 ^ (7 * i):=by
 rw [Nat.mul_add,Int.pow_add];omega
theorem CV (i:Nat):(1:Int)<=2 ^ (7 * i):=by
 have:(0:Int)<2 ^ (7 * i):=Int.pow_pos (by decide)
 omega
theorem YT {i:Nat} (h:i<=8):(2:Int) ^ (7 * i)<=72057594037927936:=by
 have:=Nat.pow_le_pow_right (n:=2) (by decide) (show 7 * i<=56 by omega)
 have h2:(((2 ^ (7 * i):Nat)):Int)=2 ^ (7 * i):=by simp
 have h3:(2:Nat) ^ 56=72057594037927936:=rfl;omega
theorem lY {a m q:Int} (h:a<=m) (hq:0<=q):a * q<=m * q:=Int.mul_le_mul_of_nonneg_right h hq
theorem NI {i:Nat} {u a c:Int} (hi:i<=9) (h9:¬((i:Int)=9/\c>1)) (hu:u<2 ^ (7 * i)) (hu0:0<=u) (ha:0<=a) (ha1:a<=127) (hac:a<=c) :
  0<=a * 2 ^ (7 * i)/\u+a * 2 ^ (7 * i)<=18446744073709551615:=by
 have hp:=CV i;refine ⟨Int.mul_nonneg ha (by omega),?_⟩;rcases zlg i 9 with h | h
 ·have:=YT (show i<=8 by omega)
  have:=lY ha1 (show 0<=(2:Int) ^ (7 * i) by omega)
  omega
 ·obtain rfl:i=9:=by omega
  have:=lY (show a<=1 by omega) (show 0<=(2:Int) ^ (7 * 9) by omega)
  omega
def zBe (e:Int×Int×Int) (o:Unit⊕(Int×Int×Int)):Int×Int×Int:=match o with | .inl _=>e | .inr q=>q
theorem zCa {F:Nat} {b:List Int} (hb:∀ x∈b,xY x) (hl:b.length<=4611686018427387904):∀ (n i:Nat) (u:Int),i<=9->0<=u->u<2 ^ (7 * i)->(b.drop i).length<n ->
  ∃ o,lJ F b n u i=some o/\zBe (0,0,8) o=vrd (b.drop i) i u:=by
 intro n
 induction n with
 | zero=>intro i u _ _ _ h;omega
 | succ n ih =>
  intro i u hi hu0 hu hn;show ∃ o,K3 F b (lJ F b n) u i=some o/\_;unfold K3;rcases hd:b.drop i with _ | ⟨c,r⟩
  ·have:=qC hd
   simp (disch:=omega) only [yP,cond_false];exact ⟨_,rfl,rfl⟩
  ·have hlt:=tZ hd;have hc:xY c:=hb c (List.mem_of_mem_drop (hd ▸ List.mem_cons_self));unfold xY at hc;have hp:=CV i;rw [yN (show (i:Int)<(b.length:Int) by omega),cond_true];simp (disch:=omega) only [vE hd,zbs,Bool.cond_eq_ite,zba,beq_iff_eq,decide_eq_true_eq,vrd,w64,xQ,zDi,AI];have h7:(7:Int) * (i:Int)=((7 * i:Nat):Int):=by omega
   by_cases h9:(i:Int)=9/\c>1
   ·simp (disch:=omega) only [if_pos];exact ⟨_,rfl,rfl⟩
   rw [if_neg h9,if_neg (show ¬(i=9/\1<c) by omega)];have hm:0<=c % 128/\c % 128<=127/\c % 128<=c:=by omega
   obtain ⟨b1,b2⟩:=NI hi h9 hu hu0 hm.1 hm.2.1 hm.2.2;have e1:ior .u64 u (nV .u64 (c % 128) (7 * (i:Int)))=u+c % 128 * 2 ^ (7 * i):=by
    rw [h7,zCf (k:=.u64) hm.1 (by simp only [IntKind.bits];omega) (show c % 128 * 2 ^ (7 * i)<18446744073709551616 by omega),VY (k:=.u64) hu0 hu hm.1 (show u+c % 128 * 2 ^ (7 * i)<18446744073709551616 by omega)]
   rw [e1]
   by_cases hc1:c>=128
   ·rw [show c % 128=c - 128 by omega];simp (disch:=omega) only [if_pos];rw [show c % 128=c - 128 by omega] at b1 b2;have hi8:i<=8:=by omega
    have:=A3 i
    have h2:=lY (show c - 128<=127 by omega) (show 0<=(2:Int) ^ (7 * i) by omega)
    have:=ih (i+1) (u+(c - 128) * 2 ^ (7 * i)) (by omega) (by omega) (by omega) (by rw [w6 hd];rw [hd] at hn;simp at hn;omega)
    rw [w6 hd] at this;exact this
   ·rw [show c % 128=c by omega] at b1 b2 ⊢
    by_cases h0:c=0/\(i:Int)>0
    ·simp (disch:=omega) only [if_pos,if_neg];exact ⟨_,rfl,rfl⟩
    ·rw [zIb ⟨by omega,b2⟩];simp (disch:=omega) only [if_neg];exact ⟨_,rfl,rfl⟩
theorem zEN {F:Nat} {b:List Int} (hb:∀ x∈b,xY x) (hl:b.length<=4611686018427387904):∀ (n i:Nat) (u:Int),i<=9->0<=u->u<2 ^ (7 * i)->10 - i<n ->
  ∃ o,lX F b n u (2 ^ (7 * i)) i=some o/\zBe (0,0,10) o=vrd (b.drop i) i u:=by
 intro n
 induction n with
 | zero=>intro i u _ _ _ h;omega
 | succ n ih =>
  intro i u hi hu0 hu hn;show ∃ o,GT F b (lX F b n) u (2 ^ (7 * i)) i=some o/\_;unfold GT;rw [yN (show (i:Int)<10 by omega),cond_true];rcases hd:b.drop i with _ | ⟨c,r⟩
  ·have:=qC hd
   simp (disch:=omega) only [yN,cond_true];exact ⟨_,rfl,rfl⟩
  ·have hlt:=tZ hd;have hc:xY c:=hb c (List.mem_of_mem_drop (hd ▸ List.mem_cons_self));unfold xY at hc;have hp:=CV i;have hm:0<=c % 128/\c % 128<=127/\c % 128<=c:=by omega
   rw [yP (show ¬ ((i:Int)>=(b.length:Int)) by omega),cond_false];simp (disch:=omega) only [vE hd,zbs,Bool.cond_eq_ite,zba,beq_iff_eq,decide_eq_true_eq,vrd,w64,AI,OP]
   by_cases h9:(i:Int)=9/\c>1
   ·simp (disch:=omega) only [if_pos];exact ⟨_,rfl,rfl⟩
   rw [if_neg h9,if_neg (show ¬(i=9/\1<c) by omega)];obtain ⟨b1,b2⟩:=NI hi h9 hu hu0 hm.1 hm.2.1 hm.2.2;simp (disch:=omega) only [AI]
   by_cases h0:c=0/\(i:Int)>0
   ·simp (disch:=omega) only [if_pos,if_neg];exact ⟨_,rfl,rfl⟩
   by_cases hc1:c>=128
   ·rw [show c % 128=c - 128 by omega];have hi8:i<=8:=by omega
    have:=A3 i
    have:=YT hi8
    have h2:=lY (show c - 128<=127 by omega) (show 0<=(2:Int) ^ (7 * i) by omega);have h3:0<=(c - 128) * (2:Int) ^ (7 * i):=Int.mul_nonneg (by omega) (by omega);rw [AI (x:=2 ^ (7 * i) * 128) (by omega) (by omega),show (2:Int) ^ (7 * i) * 128=2 ^ (7 * (i+1)) by omega];simp (disch:=omega) only [if_pos,if_neg]
    have:=ih (i+1) (u+(c - 128) * 2 ^ (7 * i)) (by omega) (by omega) (by omega) (by omega)
    rw [w6 hd] at this;exact this
   ·rw [show c % 128=c by omega] at b1 b2 ⊢;rw [zD4 ⟨by omega,b2⟩];simp (disch:=omega) only [if_pos,if_neg];exact ⟨_,rfl,rfl⟩
theorem oO {F:Nat} {b:List Int} (hb:∀ x∈b,xY x) (hl:b.length<=4611686018427387904) (hF:b.length<F):dB F b=some (vrd b 0 0):=by
 obtain ⟨o,h1,h2⟩:=zCa (F:=F) hb hl F 0 0 (by omega) (by omega) (by decide) (by simpa using hF);unfold dB;simp only [zdz] at h2;rw [show lJ F b F (0:Int) 0=some o from h1,<- h2];cases o<;>rfl
theorem M1 {F:Nat} {b:List Int} (hb:∀ x∈b,xY x) (hl:b.length<=4611686018427387904) (hF:10<F):g6 F b=some (vrd b 0 0):=by
 obtain ⟨o,h1,h2⟩:=zEN (F:=F) hb hl F 0 0 (by omega) (by omega) (by decide) (by omega);unfold g6;simp only [zdz] at h2;rw [show lX F b F (0:Int) 1 0=some o from h1,<- h2];cases o<;>rfl
def vJ:Nat->Int->List Int
 | 0,u=>[u]
 | k+1,u=>if u<128 then [u] else (u % 128+128)::vJ k (u / 128)
theorem kT (k:Nat) (u:Int):1<=(vJ k u).length/\(vJ k u).length<=k+1:=by
 induction k generalizing u with
 | zero=>simp [vJ]
 | succ k ih =>
  simp only [vJ];split
  ·simp
  ·have:=ih (u / 128);simp;omega
theorem zDm (k:Nat):(128:Int) ^ (k+1)=128 * 128 ^ k:=by rw [Int.pow_succ];omega
theorem MF {k:Nat} {u:Int} (h:u<128 ^ (k+1+1)):u / 128<128 ^ (k+1):=by
 have:=zDm (k+1);omega
theorem zHu {k:Nat} {u:Int} (h0:0<=u) (h:u<128 ^ (k+1)):∀ x∈vJ k u,xY x:=by
 induction k generalizing u with
 | zero=>intro x hx;simp [vJ] at hx;subst hx;simp at h;unfold xY;omega
 | succ k ih =>
  intro x hx;simp only [vJ] at hx
  split at hx
  ·simp at hx;subst hx;unfold xY;omega
  ·rcases List.mem_cons.1 hx with rfl | hx
   ·unfold xY;omega
   ·exact ih (by omega) (MF h) x hx
theorem zH1 {F:Nat}:∀ (k n:Nat) (u:Int) (row:List Int),0<=u->u<=18446744073709551615->u<128 ^ (k+1)->k<n->row.length+k+2<=140737488355328 ->
  ∃ a l,lP F n u row=some (a,l)/\l++[a]=row++vJ k u/\0<=a/\a<128/\l.length<=row.length+k:=by
 intro k
 induction k with
 | zero =>
  intro n u row h0 h1 h2 hn hr;obtain ⟨n,rfl⟩:∃ m,n=m+1:=⟨n - 1,by omega⟩;simp at h2;show ∃ a l,rD F (lP F n) u row=some (a,l)/\_;unfold rD;rw [yP (show ¬ (u>=128) by omega),cond_false];exact ⟨u,row,rfl,rfl,h0,h2,by simp⟩
 | succ k ih =>
  intro n u row h0 h1 h2 hn hr;obtain ⟨n,rfl⟩:∃ m,n=m+1:=⟨n - 1,by omega⟩;show ∃ a l,rD F (lP F n) u row=some (a,l)/\_;unfold rD
  by_cases hu:u<128
  ·rw [yP (show ¬ (u>=128) by omega),cond_false];exact ⟨u,row,rfl,by simp [vJ,hu],h0,hu,by simp⟩
  ·rw [yN (show u>=128 by omega),cond_true,xQ (by simp;omega),zbs,TC (k:=.u64) h0 (show u<2 ^ 64 by omega) (by omega),OP h0];simp (disch:=omega) only [wu8];obtain ⟨a,l,e1,e2,e3,e4,e5⟩:=ih n (u / 128) (row++[u % 128+128]) (by omega) (by omega) (MF h2) (by omega) (by simp;omega);refine ⟨a,l,e1,?_,e3,e4,by simp at e5;omega⟩;rw [e2];simp only [vJ,if_neg hu,List.append_assoc,List.singleton_append]
theorem MU {u:Int} (h:u<=18446744073709551615):u<128 ^ (9+1):=by
 have:(128:Int) ^ (9+1)=1180591620717411303424:=by decide
 omega
theorem jM {F:Nat} {b:List Int} {n:Int} (hn:xM n) (hl:b.length<=140737488355000) (hF:9<F):qP F b n=some (b++vJ 9 (wT n)):=by
 have hz:=JT hn;unfold qP;obtain ⟨a,l,e1,e2,e3,e4,e5⟩:=zH1 (F:=F) 9 F (wT n) b hz.1 hz.2 (MU hz.2) hF (by omega);rw [xQ (by simp;omega),zbs,zCZ hn,zbs,List.nil_append,e1,zbs,xQ (by simp;omega),zbs];simp (disch:=omega) only [wu8];rw [e2]
theorem TS (p r:List Int) (x v:Int):(p++x::r).set p.length v=p++v::r:=by
 rw [List.set_append_right _ _ (Nat.le_refl _)];simp
theorem RW (p r:List Int) (x:Int):(p++x::r)[p.length]?=some x:=by
 rw [List.getElem?_append_right (Nat.le_refl _)];simp
theorem zEx {F:Nat}:∀ (k n:Nat) (u:Int) (p r:List Int),0<=u->u<=18446744073709551615->u<128 ^ (k+1)->k<n->p.length+k+1=10->r.length=k+1 ->
  ∃ (m:Nat) (l:List Int),gO F n (p.length:Int) u (p++r)=some (((m:Nat):Int),l)/\l.take m=p++vJ k u/\m<=10/\l.length=10:=by
 intro k
 induction k with
 | zero =>
  intro n u p r h0 h1 h2 hn hp hr;obtain ⟨n,rfl⟩:∃ m,n=m+1:=⟨n - 1,by omega⟩;simp at h2
  match r,hr with
  | x::r,hr =>
   show ∃ (m:Nat) (l:List Int),oJ F (gO F n) (p.length:Int) u (p++x::r)=some (((m:Nat):Int),l)/\_;unfold oJ;rw [xQ (by omega),zbs,Int.toNat_natCast,RW,zbs,yN h2,cond_true,YV h0 h1,TS];simp (disch:=omega) only [w64,wu8];refine ⟨p.length+1,_,rfl,?_,by omega,by simp only [zla,zlc] at hr ⊢;omega⟩;rw [show u % 128=u by omega,show p++u::r=(p++[u])++r by simp,List.take_left' (by simp)];rfl
 | succ k ih =>
  intro n u p r h0 h1 h2 hn hp hr;obtain ⟨n,rfl⟩:∃ m,n=m+1:=⟨n - 1,by omega⟩
  match r,hr with
  | x::r,hr =>
   show ∃ (m:Nat) (l:List Int),oJ F (gO F n) (p.length:Int) u (p++x::r)=some (((m:Nat):Int),l)/\_;unfold oJ;rw [xQ (by omega),zbs,Int.toNat_natCast,RW,zbs,YV h0 h1,TS]
   by_cases hu:u<128
   ·rw [yN hu,cond_true];simp (disch:=omega) only [w64,wu8];refine ⟨p.length+1,_,rfl,?_,by omega,by simp only [zla,zlc] at hr ⊢;omega⟩;rw [show u % 128=u by omega,show p++u::r=(p++[u])++r by simp,List.take_left' (by simp)];simp [vJ,hu]
   ·rw [yP hu,cond_false];simp (disch:=omega) only [w64,wu8];rw [show (p.length:Int)+1 - 1=(p.length:Int) by omega,xQ (by omega),zbs,Int.toNat_natCast,RW,zbs,zbs,zbs,TS,zDK (by omega) (by omega)];have e1:jV .u64 u 7=u / 128:=by
     have:=QW (k:=.u64) (x:=u) (s:=7) h0 (by decide)
     simpa using this
    rw [e1,show p++(u % 128+128)::r=(p++[u % 128+128])++r by simp];obtain ⟨m,l,q1,q2,q3,q4⟩:=ih n (u / 128) (p++[u % 128+128]) r (by omega) (by omega) (MF h2) (by omega) (by simp;omega) (by simpa using hr);refine ⟨m,l,?_,?_,q3,q4⟩
    ·rw [<- q1];simp
    ·rw [q2];simp only [vJ,if_neg hu,List.append_assoc,List.singleton_append]
theorem zG8 {α:Type} (l:List α):sub l 0 (l.length:Int)=l:=by simp [sub]
theorem pA {F:Nat} {b:List Int} {n:Int} (hn:xM n) (hl:b.length<=140737488355000) (hF:9<F):qT F b n=some (b++vJ 9 (wT n)):=by
 have hz:=JT hn;unfold qT;obtain ⟨m,l,e1,e2,e3,e4⟩:=zEx (F:=F) 9 F (wT n) [] (List.replicate 10 0) hz.1 hz.2 (MU hz.2) hF (by rfl) (by rfl);rw [List.nil_append] at e1 e2;rw [zBW hn,zbs,show gO F F 0 (wT n) (List.replicate 10 0)=some ((m:Int),l) from e1,zbs];have hv:=(kT 9 (wT n)).2;simp only [Int.toNat_natCast,zdz,zG8,e2];have hv1:=(kT 9 (wT n)).1;rw [xQ (by omega),zbs,xQ (by omega),zbs,xQ (by omega),zbs,xQ (.inl hv1),zbs]
theorem cJ {l:List Int} {i:Nat} {u:Int} (hl:∀ x∈l,xY x) (hi:i<=9) (h0:0<=u) (h1:u<2 ^ (7 * i)) :
  xM (vrd l i u).1/\((vrd l i u).2.2=0->(i:Int)<(vrd l i u).2.1/\(vrd l i u).2.1<=10/\(vrd l i u).2.1<=i+l.length)/\((vrd l i u).2.2=0\/(vrd l i u).1=0/\(vrd l i u).2.1=0/\((vrd l i u).2.2=8\/(vrd l i u).2.2=10)):=by
 induction l generalizing i u with
 | nil=>simp [vrd,xM]
 | cons c r ih =>
  have hc:xY c:=hl c (by simp);unfold xY at hc;have hp:=CV i;simp only [vrd]
  by_cases h9:i=9/\1<c
  ·rw [if_pos h9];simp [xM]
  rw [if_neg h9];obtain ⟨b1,b2⟩:=NI (c:=c) (a:=c % 128) hi (by omega) h1 h0 (by omega) (by omega) (by omega)
  by_cases hc1:128<=c
  ·rw [if_pos hc1]
   have:=A3 i
   have h2:=lY (show c - 128<=127 by omega) (show 0<=(2:Int) ^ (7 * i) by omega);have h3:0<=(c - 128) * (2:Int) ^ (7 * i):=Int.mul_nonneg (by omega) (by omega);obtain ⟨k1,k2,k3⟩:=ih (i:=i+1) (u:=u+(c - 128) * 2 ^ (7 * i)) (fun x hx=>hl x (by simp [hx])) (by omega) (by omega) (by omega);refine ⟨k1,fun h=>?_,k3⟩
   have:=k2 h
   simp only [zlc];omega
  ·rw [if_neg hc1]
   by_cases h0:c=0/\0<i
   ·rw [if_pos h0];simp [xM]
   ·rw [if_neg h0];rw [show c % 128=c by omega] at b1 b2;refine ⟨zEV ⟨by omega,b2⟩,fun _=>?_,.inl rfl⟩;simp only [zlc];omega
theorem zGP {k:Nat} {i:Nat} {u v:Int} {more:List Int} (hi:i+k<=9) (hv0:0<=v) (hv:v<128 ^ (k+1)) (hz:v=0->i=0) (hb:u+v * 2 ^ (7 * i)<=18446744073709551615) (h0:0<=u) :
  vrd (vJ k v++more) i u=(nZ (u+v * 2 ^ (7 * i)),((i+(vJ k v).length:Nat):Int),0):=by
 have last:∀ {i:Nat} {u v:Int} {more:List Int},i<=9->0<=v->v<128->(v=0->i=0)->u+v * 2 ^ (7 * i)<=18446744073709551615->0<=u->vrd (v::more) i u=(nZ (u+v * 2 ^ (7 * i)),((i+1:Nat):Int),0):=by
  intro i u v more hi hv0 hv hz hb h0;simp only [vrd];have h9:¬(i=9/\1<v):=by
   rintro ⟨rfl,h⟩
   have:=lY (show 2<=v by omega) (show (0:Int)<=2 ^ (7 * 9) by decide)
   omega
  rw [if_neg h9,if_neg (by omega),if_neg (by omega)];rfl
 induction k generalizing i u v with
 | zero=>exact last (by omega) hv0 (by simpa using hv) hz hb h0
 | succ k ih =>
  simp only [vJ]
  by_cases hs:v<128
  ·rw [if_pos hs];exact last (by omega) hv0 hs hz hb h0
  ·rw [if_neg hs,List.cons_append];simp only [vrd];rw [if_neg (by omega),if_pos (by omega),show v % 128+128 - 128=v % 128 by omega];have e:u+v % 128 * 2 ^ (7 * i)+v / 128 * 2 ^ (7 * (i+1))=u+v * 2 ^ (7 * i):=by
    have h1:v * (2:Int) ^ (7 * i)=(v % 128+128 * (v / 128)) * 2 ^ (7 * i):=by rw [Int.emod_add_mul_ediv]
    rw [h1,A3,Int.add_mul,Int.add_assoc,<- Int.mul_assoc,Int.mul_comm (v / 128) 128]
   have hp:(0:Int)<=v % 128 * 2 ^ (7 * i):=Int.mul_nonneg (by omega) (by have:=CV i;omega);rw [ih (i:=i+1) (u:=u+v % 128 * 2 ^ (7 * i)) (v:=v / 128) (by omega) (by omega) (MF hv) (by omega) (by rw [e];exact hb) (by omega),e];simp only [zlc]
   congr 3;omega
theorem zGq {l:List Int} {i:Nat} {u:Int} (hl:∀ x∈l,xY x) (hi:i<=9) (h0:0<=u) (h1:u<2 ^ (7 * i)) (he:(vrd l i u).2.2=0) :
  ∃ v,0<=v/\(v=0->i=0)/\u+v * 2 ^ (7 * i)<=18446744073709551615/\(vrd l i u).1=nZ (u+v * 2 ^ (7 * i))/\l.take ((vrd l i u).2.1 - i).toNat=vJ (9 - i) v:=by
 induction l generalizing i u with
 | nil=>simp [vrd] at he
 | cons c r ih =>
  have hc:xY c:=hl c (by simp);unfold xY at hc;have hp:=CV i;simp only [vrd] at he ⊢
  by_cases h9:i=9/\1<c
  ·rw [if_pos h9] at he;simp at he
  rw [if_neg h9] at he ⊢;obtain ⟨b1,b2⟩:=NI (c:=c) (a:=c % 128) hi (by omega) h1 h0 (by omega) (by omega) (by omega)
  by_cases hc1:128<=c
  ·rw [if_pos hc1] at he ⊢
   have:=A3 i
   have h2:=lY (show c - 128<=127 by omega) (show 0<=(2:Int) ^ (7 * i) by omega);have h3:0<=(c - 128) * (2:Int) ^ (7 * i):=Int.mul_nonneg (by omega) (by omega);have hr:∀ x∈r,xY x:=fun x hx=>hl x (by simp [hx])
   obtain ⟨v,k1,k2,k3,k4,k5⟩:=ih (i:=i+1) (u:=u+(c - 128) * 2 ^ (7 * i)) hr (by omega) (by omega) (by omega) he;obtain ⟨_,r2,_⟩:=cJ (i:=i+1) (u:=u+(c - 128) * 2 ^ (7 * i)) hr (by omega) (by omega) (by omega);have r2:=r2 he;have e:u+(c - 128+128 * v) * 2 ^ (7 * i)=u+(c - 128) * 2 ^ (7 * i)+v * 2 ^ (7 * (i+1)):=by
    rw [A3,Int.add_mul,Int.add_assoc,<- Int.mul_assoc,Int.mul_comm v 128]
   refine ⟨c - 128+128 * v,by omega,by omega,by rw [e];exact k3,by rw [e];exact k4,?_⟩;generalize vrd r (i+1) (u+(c - 128) * 2 ^ (7 * i))=q at *;obtain ⟨m,hm⟩:∃ m:Nat,q.2.1=i+1+m:=⟨(q.2.1 - (i+1)).toNat,by omega⟩;rw [hm] at k5 ⊢;rw [show ((i:Int)+1+m - i).toNat=m+1 by omega,List.take_succ_cons];rw [show ((i:Int)+1+m - ((i+1:Nat):Int)).toNat=m by omega] at k5;rw [k5,show 9 - i=(9 - (i+1))+1 by omega];simp only [vJ];rw [if_neg (by omega)]
   congr 1
   ·omega
   ·congr 1;omega
  ·rw [if_neg hc1] at he ⊢
   by_cases hz:c=0/\0<i
   ·rw [if_pos hz] at he;simp at he
   ·rw [if_neg hz] at he ⊢;rw [show c % 128=c by omega] at b1 b2;refine ⟨c,by omega,by omega,b2,rfl,?_⟩;simp only;rw [show ((i:Int)+1 - i).toNat=1 by omega];show [c]=_;rcases hk:9 - i with _ | k
    ·rfl
    ·simp only [vJ];rw [if_pos (by omega)]
theorem zHJ {n:Int} {more:List Int} (hn:xM n):vrd (vJ 9 (wT n)++more) 0 0=(n,((vJ 9 (wT n)).length:Int),0):=by
 have hz:=JT hn
 have:=zGP (k:=9) (i:=0) (u:=0) (v:=wT n) (more:=more) (by omega) hz.1 (MU hz.2) (fun _=>rfl) (by have:=hz.2;simpa using this) (by omega)
 rw [this];simp [zBH]
theorem SU {n:Int} (hn:xM n):∀ x∈vJ 9 (wT n),xY x:=zHu (JT hn).1 (MU (JT hn).2)
abbrev WN:BitVec 32:=0xedb88320#32
def GA (x:BitVec 32):BitVec 32:=(x >>> 1) ^^^ (bif x.getLsbD 0 then WN else 0#32)
def BB:Nat->BitVec 32->BitVec 32
 | 0,x=>x
 | n+1,x=>BB n (GA x)
def zG6 (x:BitVec 32) (c:Int):BitVec 32:=BB 8 (x ^^^ BitVec.ofInt 32 c)
def MZ:BitVec 32->List Int->BitVec 32
 | x,[]=>x
 | x,c::r=>MZ (zG6 x c) r
def bF (l:List Int):BitVec 32:=MZ (BitVec.allOnes 32) l ^^^ BitVec.allOnes 32
def i32 (x:BitVec 32):Int:=(x.toNat:Int)
theorem G3 (x:BitVec 32):0<=i32 x/\i32 x<=4294967295:=by
 unfold i32;have:=x.isLt;omega
theorem HN (x y:BitVec 32):tW .u32 (i32 x) (i32 y)=i32 (x ^^^ y):=by
 unfold i32;rw [VG (k:=.u32) (show _<2 ^ 32 from x.isLt) (show _<2 ^ 32 from y.isLt),BitVec.toNat_xor]
theorem zHO (x:BitVec 32):x.getLsbD 0=decide (i32 x % 2=1):=by
 unfold i32 BitVec.getLsbD;rw [Nat.testBit_zero]
 congr 1
 exact propext ⟨fun h=>by omega,fun h=>by omega⟩
theorem zDT (x:BitVec 32):i32 x / (2:Int)=i32 (x >>> (1:Nat)):=by
 unfold i32;rw [BitVec.toNat_ushiftRight,Nat.shiftRight_eq_div_pow];omega
theorem XV (x:BitVec 32):(if i32 x % 2=1 then tW .u32 (i32 x / 2) 3988292384 else i32 x / 2)=i32 (GA x):=by
 unfold GA;rw [zHO,zDT]
 split
 ·rename_i h
  rw [yN h,cond_true,show (3988292384:Int)=i32 WN by decide,HN]
 ·rename_i h
  rw [yP h,cond_false,BitVec.xor_zero]
theorem XB {c:Int} (h:xY c):c=i32 (BitVec.ofInt 32 c):=by
 unfold xY at h;unfold i32;rw [BitVec.toNat_ofInt]
 have:(2 ^ 32:Nat)=4294967296:=rfl
 omega
theorem zIe {F:Nat}:∀ (k n:Nat) (x:BitVec 32),k<=8->k<n->gM F n (i32 x) (8 - (k:Int))=some (i32 (BB k x)):=by
 intro k
 induction k with
 | zero =>
  intro n x _ hn;obtain ⟨n,rfl⟩:∃ m,n=m+1:=⟨n - 1,by omega⟩;show o6 F (gM F n) _ _=_;unfold o6;rw [yP (by omega),cond_false];rfl
 | succ k ih =>
  intro n x hk hn;obtain ⟨n,rfl⟩:∃ m,n=m+1:=⟨n - 1,by omega⟩;show o6 F (gM F n) _ _=_;have hr:=G3 x;unfold o6;have e1:jV .u32 (i32 x) 1=i32 x / 2:=by
   have:=QW (k:=.u32) (x:=i32 x) (s:=1) hr.1 (by decide)
   simpa using this
  rw [yN (by omega),cond_true,zDX hr.1 hr.2,e1,w64 (by omega) (by omega),show 8 - ((k+1:Nat):Int)+1=8 - (k:Int) by omega]
  have:=ih n (GA x) (by omega) (by omega)
  rw [<- XV] at this;simp only [Bool.cond_eq_ite,beq_iff_eq];simp only [BB];rw [<- this]
  split<;>rfl
theorem zHa {F:Nat}:∀ (k n:Nat) (x:BitVec 32),k<=8->k<n->iW F n (i32 x) (8 - (k:Int))=some (i32 (BB k x)):=by
 intro k
 induction k with
 | zero =>
  intro n x _ hn;obtain ⟨n,rfl⟩:∃ m,n=m+1:=⟨n - 1,by omega⟩;show rF F (iW F n) _ _=_;unfold rF;rw [yP (by omega),cond_false];rfl
 | succ k ih =>
  intro n x hk hn;obtain ⟨n,rfl⟩:∃ m,n=m+1:=⟨n - 1,by omega⟩;show rF F (iW F n) _ _=_;have hr:=G3 x;have hq:i32 x<(pQ .u32:Nat):=by rw [show pQ .u32=4294967296 from rfl];omega
  unfold rF;rw [yN (by omega),cond_true,OP hr.1,TC (k:=.u32) hr.1 hq (by omega),w64 (by omega) (by omega),show 8 - ((k+1:Nat):Int)+1=8 - (k:Int) by omega]
  have:=ih n (GA x) (by omega) (by omega)
  rw [<- XV] at this;simp only [Bool.cond_eq_ite,beq_iff_eq];simp only [BB];rw [<- this]
  split<;>rfl
theorem zFC {F:Nat} {b:List Int} (hb:∀ x∈b,xY x) (hl:b.length<=4611686018427387904) (hF:8<F):∀ (n i:Nat) (x:BitVec 32),(b.drop i).length<n->mG F b n (i32 x) i=some (i32 (MZ x (b.drop i))):=by
 intro n
 induction n with
 | zero=>intro i x h;omega
 | succ n ih =>
  intro i x hn;show D9 F b (mG F b n) _ _=_;unfold D9;rcases hd:b.drop i with _ | ⟨c,r⟩
  ·have:=qC hd
   rw [yP (by omega),cond_false];rfl
  ·have hlt:=tZ hd;have hc:xY c:=hb c (List.mem_of_mem_drop (hd ▸ List.mem_cons_self));have hc':=hc;unfold xY at hc';rw [hd] at hn;simp only [zlc] at hn;rw [yN (by omega),cond_true,vE hd,zbs,X9 (by omega) (by omega)];have e:=zIe (F:=F) 8 F (x ^^^ BitVec.ofInt 32 c) (by omega) hF;rw [<- HN,<- XB hc] at e;rw [show gM F F (tW .u32 (i32 x) c) 0=_ from e,zbs,w64 (by omega) (by omega),show (i:Int)+1=((i+1:Nat):Int) by omega,ih (i+1) _ (by rw [w6 hd];omega),w6 hd];rfl
theorem zBz {F:Nat} {b:List Int} (hb:∀ x∈b,xY x) (hl:b.length<=4611686018427387904) (hF:8<F):∀ (n i:Nat) (x:BitVec 32),(b.drop i).length<n->lM F b n (i32 x) i=some (i32 (MZ x (b.drop i))):=by
 intro n
 induction n with
 | zero=>intro i x h;omega
 | succ n ih =>
  intro i x hn;show EH F b (lM F b n) _ _=_;unfold EH;rcases hd:b.drop i with _ | ⟨c,r⟩
  ·have:=qC hd
   rw [yP (by omega),cond_false];rfl
  ·have hlt:=tZ hd;have hc:xY c:=hb c (List.mem_of_mem_drop (hd ▸ List.mem_cons_self));have hc':=hc;unfold xY at hc';rw [hd] at hn;simp only [zlc] at hn;rw [yN (by omega),cond_true,vE hd,zbs,X9 (by omega) (by omega)];have e:=zHa (F:=F) 8 F (x ^^^ BitVec.ofInt 32 c) (by omega) hF;rw [<- HN,<- XB hc] at e;rw [show iW F F (tW .u32 (i32 x) c) 0=_ from e,zbs,w64 (by omega) (by omega),show (i:Int)+1=((i+1:Nat):Int) by omega,ih (i+1) _ (by rw [w6 hd];omega),w6 hd];rfl
theorem zHp {F:Nat} {b:List Int} (hb:∀ x∈b,xY x) (hl:b.length<=4611686018427387904) (hF:8<F) (hF2:b.length<F):ET F b=some (i32 (bF b)):=by
 unfold ET;have e:=zFC (F:=F) hb hl hF F 0 (BitVec.allOnes 32) (by simpa using hF2);rw [show mG F b F 4294967295 0=_ from e,zbs,show (4294967295:Int)=i32 (BitVec.allOnes 32) by decide,HN,BitVec.xor_comm,zdz];have hr:=G3 (bF b);rw [w64 (by show _<=i32 (bF b);omega) (by show i32 (bF b)<=_;omega)];rfl
theorem zAz {F:Nat} {b:List Int} (hb:∀ x∈b,xY x) (hl:b.length<=4611686018427387904) (hF:8<F) (hF2:b.length<F):DE F b=some (i32 (bF b)):=by
 unfold DE;have e:=zBz (F:=F) hb hl hF F 0 (BitVec.allOnes 32) (by simpa using hF2);rw [show lM F b F 4294967295 0=_ from e,zbs,show (4294967295:Int)=i32 (BitVec.allOnes 32) by decide,HN,zdz];have hr:=G3 (bF b);rw [w64 (by show _<=i32 (bF b);omega) (by show i32 (bF b)<=_;omega)];rfl
end Go.Ab
