/- Plain laws of the functions w8 this seat's, laid anew from another seat's text. No conditions but those that the theorems name. -/
import Derived.Test.YtoeengmnmhhpgaaGreatP15zxD
import Derived.Test.YtoeengmnmhhpgaaGreatA35
namespace Go.Ab
open Go
set_option linter.unusedVariables false
/-- The number of an integer, and back. -/
def tU (n:Int):Int:=if n<0 then -2 * n - 1 else 2 * n
def QV (u:Int):Int:=if u % 2=1 then -(u / 2) - 1 else u / 2
theorem KR {n:Int} (h:w3 n):LY (tU n):=by unfold w3 at h;unfold LY tU;split<;>omega
theorem V5 {n:Int} (h:w3 n):dX n=some (tU n):=by
  unfold w3 at h
  unfold dX
  have e2:uT .i64 n 63=if n<0 then -1 else 0:=by
    unfold uT
    simp only [IntKind.bits]
    rw [Int.fdiv_eq_ediv_of_nonneg _ (by decide)]
    split<;>simp<;>omega
  rw [e2]
  unfold tU
  have e1:jT .u64 (v5 n) 1=2 * v5 n % 18446744073709551616:=by
    unfold jT
    have:=dU (v5 n * 2 ^ (min (1:Int).toNat IntKind.u64.bits))
    simp only [v5] at this ⊢
    rw [this];simp [IntKind.bits];omega
  rw [e1,dU n]
  split
  · rw [dU (-1),show (-1:Int) % 18446744073709551616=18446744073709551615 by decide,T5 (by omega) (by omega)]
    congr 1;omega
  · rw [dU 0,show (0:Int) % 18446744073709551616=0 by decide,TE (by omega) (by omega)]
    congr 1;omega
theorem S3 {n:Int} (h:w3 n):fS n=some (tU n):=by
  unfold w3 at h
  unfold fS tU
  simp only [Bool.cond_eq_ite,decide_eq_true_eq]
  split
  · simp (disch:=omega) only [w64,HZ];congr 1;omega
  · simp (disch:=omega) only [HZ]

/-- The integer at the beginning: behind i bytes of which u is known. -/
def vrd:List Int→Nat→Int→Int×Int×Int
  | [],_,_=>(0,0,8)
  | c::r,i,u =>
    if i=9∧1<c then (0,0,10) else
    if 128≤c then vrd r (i+1) (u+(c - 128) * 2 ^ (7 * i)) else
    if c=0∧0<i then (0,0,10) else (QV (u+c * 2 ^ (7 * i)),(i:Int)+1,0)

/-- The bytes of a number with at most k + 1 groups. -/
def tT:Nat→Int→List Int
  | 0,u=>[u]
  | k+1,u=>if u<128 then [u] else (u % 128+128)::tT k (u / 128)

theorem CG (k:Nat) (u:Int):1≤(tT k u).length∧(tT k u).length≤k+1:=by
  induction k generalizing u with
  | zero=>simp [tT]
  | succ k ih =>
    simp only [tT];split
    · simp
    · have:=ih (u / 128);simp;omega
theorem VR (k:Nat):(128:Int) ^ (k+1)=128 * 128 ^ k:=by rw [Int.pow_succ];omega
theorem LN {k:Nat} {u:Int} (h:u<128 ^ (k+1+1)):u / 128<128 ^ (k+1):=by
  have:=VR (k+1);omega
theorem QE {F:Nat}:∀ (k n:Nat) (u:Int) (row:List Int),0≤u→u≤18446744073709551615→u<128 ^ (k+1)→k<n→row.length+k+2≤140737488355328 →
    ∃ a l,aP F n u row=some (a,l)∧l++[a]=row++tT k u∧0≤a∧a<128∧l.length≤row.length+k:=by
  intro k
  induction k with
  | zero =>
    intro n u row h0 h1 h2 hn hr
    obtain ⟨n,rfl⟩:∃ m,n=m+1:=⟨n - 1,by omega⟩
    simp at h2
    show ∃ a l,aL F (aP F n) u row=some (a,l)∧_
    unfold aL
    rw [wV (show ¬ (u≥128) by omega),cond_false]
    exact ⟨u,row,rfl,rfl,h0,h2,by simp⟩
  | succ k ih =>
    intro n u row h0 h1 h2 hn hr
    obtain ⟨n,rfl⟩:∃ m,n=m+1:=⟨n - 1,by omega⟩
    show ∃ a l,aL F (aP F n) u row=some (a,l)∧_
    unfold aL
    by_cases hu:u<128
    · rw [wV (show ¬ (u≥128) by omega),cond_false]
      exact ⟨u,row,rfl,by simp [tT,hu],h0,hu,by simp⟩
    · rw [wM (show u≥128 by omega),cond_true,t8 (by simp;omega),zbs,L8 (k:=.u64) h0 (show u<2 ^ 64 by omega) (by omega),MU h0]
      simp (disch:=omega) only [wu8]
      obtain ⟨a,l,e1,e2,e3,e4,e5⟩:=ih n (u / 128) (row++[u % 128+128]) (by omega) (by omega) (LN h2) (by omega) (by simp;omega)
      refine ⟨a,l,e1,?_,e3,e4,by simp at e5;omega⟩
      rw [e2];simp only [tT,if_neg hu,List.append_assoc,List.singleton_append]

theorem KZ {u:Int} (h:u≤18446744073709551615):u<128 ^ (9+1):=by
  have:(128:Int) ^ (9+1)=1180591620717411303424:=by decide
  omega
theorem KA {F:Nat} {b:List Int} {n:Int} (hn:w3 n) (hl:b.length≤140737488355000) (hF:9<F):bP F b n=some (b++tT 9 (tU n)):=by
  have hz:=KR hn
  unfold bP
  obtain ⟨a,l,e1,e2,e3,e4,e5⟩:=QE (F:=F) 9 F (tU n) b hz.1 hz.2 (KZ hz.2) hF (by omega)
  rw [t8 (by simp;omega),zbs,S3 hn,zbs,List.nil_append,e1,zbs,t8 (by simp;omega),zbs]
  simp (disch:=omega) only [wu8]
  rw [e2]

theorem AL (p r:List Int) (x v:Int):(p++x::r).set p.length v=p++v::r:=by
  rw [List.set_append_right _ _ (Nat.le_refl _)];simp
theorem BF (p r:List Int) (x:Int):(p++x::r)[p.length]?=some x:=by
  rw [List.getElem?_append_right (Nat.le_refl _)];simp

theorem WF {F:Nat}:∀ (k n:Nat) (u:Int) (p r:List Int),0≤u→u≤18446744073709551615→u<128 ^ (k+1)→k<n→p.length+k+1=10→r.length=k+1 →
    ∃ (m:Nat) (l:List Int),nT F n (p.length:Int) u (p++r)=some (((m:Nat):Int),l)∧l.take m=p++tT k u∧m≤10∧l.length=10:=by
  intro k
  induction k with
  | zero =>
    intro n u p r h0 h1 h2 hn hp hr
    obtain ⟨n,rfl⟩:∃ m,n=m+1:=⟨n - 1,by omega⟩
    simp at h2
    match r,hr with
    | x::r,hr =>
      show ∃ (m:Nat) (l:List Int),aH F (nT F n) (p.length:Int) u (p++x::r)=some (((m:Nat):Int),l)∧_
      unfold aH
      rw [t8 (by omega),zbs,Int.toNat_natCast,BF,zbs,wM h2,cond_true,LO h0 h1,AL]
      simp (disch:=omega) only [w64,wu8]
      refine ⟨p.length+1,_,rfl,?_,by omega,by simp only [List.length_append,List.length_cons] at hr ⊢;omega⟩
      rw [show u % 128=u by omega,show p++u::r=(p++[u])++r by simp,List.take_left' (by simp)]
      rfl
  | succ k ih =>
    intro n u p r h0 h1 h2 hn hp hr
    obtain ⟨n,rfl⟩:∃ m,n=m+1:=⟨n - 1,by omega⟩
    match r,hr with
    | x::r,hr =>
      show ∃ (m:Nat) (l:List Int),aH F (nT F n) (p.length:Int) u (p++x::r)=some (((m:Nat):Int),l)∧_
      unfold aH
      rw [t8 (by omega),zbs,Int.toNat_natCast,BF,zbs,LO h0 h1,AL]
      by_cases hu:u<128
      · rw [wM hu,cond_true]
        simp (disch:=omega) only [w64,wu8]
        refine ⟨p.length+1,_,rfl,?_,by omega,by simp only [List.length_append,List.length_cons] at hr ⊢;omega⟩
        rw [show u % 128=u by omega,show p++u::r=(p++[u])++r by simp,List.take_left' (by simp)]
        simp [tT,hu]
      · rw [wV hu,cond_false]
        simp (disch:=omega) only [w64,wu8]
        rw [show (p.length:Int)+1 - 1=(p.length:Int) by omega,t8 (by omega),zbs,Int.toNat_natCast,BF,zbs,zbs,zbs,AL,NG (by omega) (by omega)]
        have e1:uT .u64 u 7=u / 128:=by
          have:=LP (k:=.u64) (x:=u) (s:=7) h0 (by decide)
          simpa using this
        rw [e1,show p++(u % 128+128)::r=(p++[u % 128+128])++r by simp]
        obtain ⟨m,l,q1,q2,q3,q4⟩:=ih n (u / 128) (p++[u % 128+128]) r (by omega) (by omega) (LN h2) (by omega) (by simp;omega) (by simpa using hr)
        refine ⟨m,l,?_,?_,q3,q4⟩
        · rw [← q1];simp
        · rw [q2];simp only [tT,if_neg hu,List.append_assoc,List.singleton_append]

theorem Q8 {α:Type} (l:List α):sub l 0 (l.length:Int)=l:=by simp [sub]
theorem HL {F:Nat} {b:List Int} {n:Int} (hn:w3 n) (hl:b.length≤140737488355000) (hF:9<F):uK F b n=some (b++tT 9 (tU n)):=by
  have hz:=KR hn
  unfold uK
  obtain ⟨m,l,e1,e2,e3,e4⟩:=WF (F:=F) 9 F (tU n) [] (List.replicate 10 0) hz.1 hz.2 (KZ hz.2) hF (by rfl) (by rfl)
  rw [List.nil_append] at e1 e2
  rw [V5 hn,zbs,show nT F F 0 (tU n) (List.replicate 10 0)=some ((m:Int),l) from e1,zbs]
  have hv:=(CG 9 (tU n)).2
  simp only [Int.toNat_natCast,List.drop_zero,Q8,e2]
  have hv1:=(CG 9 (tU n)).1
  rw [t8 (by omega),zbs,t8 (by omega),zbs,t8 (by omega),zbs,t8 (.inl hv1),zbs]

abbrev MR:BitVec 32:=0xedb88320#32
def dQ (x:BitVec 32):BitVec 32:=(x >>> 1) ^^^ (bif x.getLsbD 0 then MR else 0#32)
def bX:Nat→BitVec 32→BitVec 32
  | 0,x=>x
  | n+1,x=>bX n (dQ x)
def RP (x:BitVec 32) (c:Int):BitVec 32:=bX 8 (x ^^^ BitVec.ofInt 32 c)
def lT:BitVec 32→List Int→BitVec 32
  | x,[]=>x
  | x,c::r=>lT (RP x c) r
def kF (l:List Int):BitVec 32:=lT (BitVec.allOnes 32) l ^^^ BitVec.allOnes 32

def i32 (x:BitVec 32):Int:=(x.toNat:Int)
theorem fV (x:BitVec 32):0≤i32 x∧i32 x≤4294967295:=by
  unfold i32;have:=x.isLt;omega
theorem fH (x y:BitVec 32):vO .u32 (i32 x) (i32 y)=i32 (x ^^^ y):=by
  unfold i32
  rw [JM (k:=.u32) (show _<2 ^ 32 from x.isLt) (show _<2 ^ 32 from y.isLt),BitVec.toNat_xor]
theorem NE (x:BitVec 32):x.getLsbD 0=decide (i32 x % 2=1):=by
  unfold i32 BitVec.getLsbD
  rw [Nat.testBit_zero]
  congr 1
  exact propext ⟨fun h=>by omega,fun h=>by omega⟩
theorem O0 (x:BitVec 32):i32 x / (2:Int)=i32 (x >>> (1:Nat)):=by
  unfold i32
  rw [BitVec.toNat_ushiftRight,Nat.shiftRight_eq_div_pow];omega
theorem HW (x:BitVec 32):(if i32 x % 2=1 then vO .u32 (i32 x / 2) 3988292384 else i32 x / 2)=i32 (dQ x):=by
  unfold dQ
  rw [NE,O0]
  split
  · rename_i h
    rw [wM h,cond_true,show (3988292384:Int)=i32 MR by decide,fH]
  · rename_i h
    rw [wV h,cond_false,BitVec.xor_zero]
theorem LQ {c:Int} (h:v6 c):c=i32 (BitVec.ofInt 32 c):=by
  unfold v6 at h;unfold i32
  rw [BitVec.toNat_ofInt]
  have:(2 ^ 32:Nat)=4294967296:=rfl
  omega

theorem O5 {F:Nat}:∀ (k n:Nat) (x:BitVec 32),k≤8→k<n→pZ F n (i32 x) (8 - (k:Int))=some (i32 (bX k x)):=by
  intro k
  induction k with
  | zero =>
    intro n x _ hn
    obtain ⟨n,rfl⟩:∃ m,n=m+1:=⟨n - 1,by omega⟩
    show bB F (pZ F n) _ _=_
    unfold bB
    rw [wV (by omega),cond_false];rfl
  | succ k ih =>
    intro n x hk hn
    obtain ⟨n,rfl⟩:∃ m,n=m+1:=⟨n - 1,by omega⟩
    show bB F (pZ F n) _ _=_
    have hr:=fV x
    unfold bB
    have e1:uT .u32 (i32 x) 1=i32 x / 2:=by
      have:=LP (k:=.u32) (x:=i32 x) (s:=1) hr.1 (by decide)
      simpa using this
    rw [wM (by omega),cond_true,QH hr.1 hr.2,e1,w64 (by omega) (by omega),show 8 - ((k+1:Nat):Int)+1=8 - (k:Int) by omega]
    have:=ih n (dQ x) (by omega) (by omega)
    rw [← HW] at this
    simp only [Bool.cond_eq_ite,beq_iff_eq]
    simp only [bX]
    rw [← this]
    split<;>rfl
theorem NU {F:Nat}:∀ (k n:Nat) (x:BitVec 32),k≤8→k<n→p8 F n (i32 x) (8 - (k:Int))=some (i32 (bX k x)):=by
  intro k
  induction k with
  | zero =>
    intro n x _ hn
    obtain ⟨n,rfl⟩:∃ m,n=m+1:=⟨n - 1,by omega⟩
    show bG F (p8 F n) _ _=_
    unfold bG
    rw [wV (by omega),cond_false];rfl
  | succ k ih =>
    intro n x hk hn
    obtain ⟨n,rfl⟩:∃ m,n=m+1:=⟨n - 1,by omega⟩
    show bG F (p8 F n) _ _=_
    have hr:=fV x
    have hq:i32 x<(t7 .u32:Nat):=by rw [show t7 .u32=4294967296 from rfl];omega
    unfold bG
    rw [wM (by omega),cond_true,MU hr.1,L8 (k:=.u32) hr.1 hq (by omega),w64 (by omega) (by omega),show 8 - ((k+1:Nat):Int)+1=8 - (k:Int) by omega]
    have:=ih n (dQ x) (by omega) (by omega)
    rw [← HW] at this
    simp only [Bool.cond_eq_ite,beq_iff_eq]
    simp only [bX]
    rw [← this]
    split<;>rfl

theorem SJ {F:Nat} {b:List Int} (hb:∀ x∈b,v6 x) (hl:b.length≤4611686018427387904) (hF:8<F):∀ (n i:Nat) (x:BitVec 32),(b.drop i).length<n→aZ F b n (i32 x) i=some (i32 (lT x (b.drop i))):=by
  intro n
  induction n with
  | zero=>intro i x h;omega
  | succ n ih =>
    intro i x hn
    show iP F b (aZ F b n) _ _=_
    unfold iP
    rcases hd:b.drop i with _ | ⟨c,r⟩
    · have:=dG hd
      rw [wV (by omega),cond_false];rfl
    · have hlt:=a9 hd
      have hc:v6 c:=hb c (List.mem_of_mem_drop (hd ▸ List.mem_cons_self))
      have hc':=hc;unfold v6 at hc'
      rw [hd] at hn;simp only [List.length_cons] at hn
      rw [wM (by omega),cond_true,qF hd,zbs,KD (by omega) (by omega)]
      have e:=O5 (F:=F) 8 F (x ^^^ BitVec.ofInt 32 c) (by omega) hF
      rw [← fH,← LQ hc] at e
      rw [show pZ F F (vO .u32 (i32 x) c) 0=_ from e,zbs,w64 (by omega) (by omega),show (i:Int)+1=((i+1:Nat):Int) by omega,ih (i+1) _ (by rw [kT hd];omega),kT hd]
      rfl
theorem WE {F:Nat} {b:List Int} (hb:∀ x∈b,v6 x) (hl:b.length≤4611686018427387904) (hF:8<F):∀ (n i:Nat) (x:BitVec 32),(b.drop i).length<n→aQ F b n (i32 x) i=some (i32 (lT x (b.drop i))):=by
  intro n
  induction n with
  | zero=>intro i x h;omega
  | succ n ih =>
    intro i x hn
    show dJ F b (aQ F b n) _ _=_
    unfold dJ
    rcases hd:b.drop i with _ | ⟨c,r⟩
    · have:=dG hd
      rw [wV (by omega),cond_false];rfl
    · have hlt:=a9 hd
      have hc:v6 c:=hb c (List.mem_of_mem_drop (hd ▸ List.mem_cons_self))
      have hc':=hc;unfold v6 at hc'
      rw [hd] at hn;simp only [List.length_cons] at hn
      rw [wM (by omega),cond_true,qF hd,zbs,KD (by omega) (by omega)]
      have e:=NU (F:=F) 8 F (x ^^^ BitVec.ofInt 32 c) (by omega) hF
      rw [← fH,← LQ hc] at e
      rw [show p8 F F (vO .u32 (i32 x) c) 0=_ from e,zbs,w64 (by omega) (by omega),show (i:Int)+1=((i+1:Nat):Int) by omega,ih (i+1) _ (by rw [kT hd];omega),kT hd]
      rfl
theorem U1 {F:Nat} {b:List Int} (hb:∀ x∈b,v6 x) (hl:b.length≤4611686018427387904) (hF:8<F) (hF2:b.length<F):fQ F b=some (i32 (kF b)):=by
  unfold fQ
  have e:=SJ (F:=F) hb hl hF F 0 (BitVec.allOnes 32) (by simpa using hF2)
  rw [show aZ F b F 4294967295 0=_ from e,zbs,show (4294967295:Int)=i32 (BitVec.allOnes 32) by decide,fH,BitVec.xor_comm,List.drop_zero]
  have hr:=fV (kF b)
  rw [w64 (by show _≤i32 (kF b);omega) (by show i32 (kF b)≤_;omega)]
  rfl
theorem UK {F:Nat} {b:List Int} (hb:∀ x∈b,v6 x) (hl:b.length≤4611686018427387904) (hF:8<F) (hF2:b.length<F):fX F b=some (i32 (kF b)):=by
  unfold fX
  have e:=WE (F:=F) hb hl hF F 0 (BitVec.allOnes 32) (by simpa using hF2)
  rw [show aQ F b F 4294967295 0=_ from e,zbs,show (4294967295:Int)=i32 (BitVec.allOnes 32) by decide,fH,List.drop_zero]
  have hr:=fV (kF b)
  rw [w64 (by show _≤i32 (kF b);omega) (by show i32 (kF b)≤_;omega)]
  rfl
end Go.Ab
