/- A layer over the model: abstract values and states, and the rules by which the printed proofs go. No conditions. -/
import Derived.Test.YtlnlcciflpncmaaA29
/- Typed values behind cells: ranges of the integer kinds. -/
namespace Go.Ab
open Go
def yH (n:Int):Prop := -9223372036854775808≤n∧n≤9223372036854775807
def zCP (n:Int):Prop:=0≤n∧n≤18446744073709551615
def y8 (n:Int):Prop:=0≤n∧n≤255
def zLw (s:List Int):Prop:=(∀ x∈s,y8 x)∧s.length≤140737488355328
def zFS {α:Type} (ok:α→Prop) (l:List α):Prop:=(∀ x∈l,ok x)∧l.length≤140737488355328
theorem zC1 {k:IntKind} {n:Int} (h:k.wrap n=n):k.min≤n∧n≤k.max:=by
 rw [← h]
 cases k<;>simp only [IntKind.wrap,IntKind.min,IntKind.max,IntKind.signed,IntKind.bits]<;>simp<;>(try split)<;>omega
theorem zNi {n:Int} (h:IntKind.i64.wrap n=n):yH n:=by
 have:=zC1 h;exact this
theorem zNB {n:Int} (h:IntKind.u8.wrap n=n):y8 n:=by
 have:=zC1 h;exact this
theorem Enc.weak {α:Type} {s:List Sh} {c:α→List AV} {ok ok':α→Prop} (h:Enc s c ok) (ho:∀ x,ok x→ok' x):Enc s c ok':=by
 intro avs hf
 obtain ⟨x,rfl,hx⟩:=h avs hf
 exact ⟨x,rfl,ho x hx⟩
theorem zBd:Enc [.int .i64] (fun n=>[.int .i64 n]) yH:=(zKN .i64).weak fun _=>zNi
theorem zNV:Enc [.int .u8] (fun n=>[.int .u8 n]) y8:=(zKN .u8).weak fun _=>zNB
theorem zLX:Enc [.str] (fun s=>[.str s]) zLw:=zNP.weak fun s h=>⟨fun x hx=>by have:=h.1 x hx;unfold y8;omega,h.2⟩
theorem zLM {α:Type} {s:Sh} {e:α→AV} {ok:α→Prop} (h:Enc [s] (fun x=>[e x]) ok):Enc [.sl false [s]] (fun l=>[.sl false 1 (l.map e)]) (zFS ok):=zNN h
theorem zN3 {α:Type} {ss:List Sh} {c:α→List AV} {ok:α→Prop} (h:Enc ss c ok):Enc [.sl true ss] (fun l=>[.sl false ss.length (l.map fun x=>.agg (c x))]) (zFS ok):=zNv h
end Go.Ab

/- Words for the plain laws: ranges, bits, and how the printed functions compute. -/
namespace Go.Ab
open Go
theorem yN {p:Prop} [Decidable p] (h:p):need p=some ():=if_pos h
theorem z9 {p:Prop} [Decidable p] (h:p):decide p=true:=decide_eq_true h
theorem z7 {p:Prop} [Decidable p] (h:¬p):decide p=false:=decide_eq_false h
theorem tI {a b:Int} (h:a=b):(a==b)=true:=by simpa using h
theorem pP {a b:Int} (h:a≠b):(a==b)=false:=by simpa using h
theorem y0 {a b:Int} (h:a≠b):(a != b)=true:=by simpa using h
theorem y6 {a b:Int} (h:a=b):(a != b)=false:=by simpa using h
theorem w64 {x:Int} (h1 : -9223372036854775808≤x) (h2:x≤9223372036854775807):zK x=x:=by
 simp only [zK,IntKind.wrap,IntKind.bits,IntKind.signed];simp;split<;>omega
theorem zHh {x:Int} (h1:0≤x) (h2:x≤18446744073709551615):zW x=x:=by
 simp only [zW,IntKind.wrap,IntKind.bits,IntKind.signed];simp;omega
theorem wu8 {x:Int} (h1:0≤x) (h2:x≤255):y4 x=x:=by
 simp only [y4,IntKind.wrap,IntKind.bits,IntKind.signed];simp;omega
theorem zCG (x:Int):zW x=x % 18446744073709551616:=by
 simp only [zW,IntKind.wrap,IntKind.bits,IntKind.signed];simp
theorem zKV (x:Int):zK x=(x+9223372036854775808) % 18446744073709551616 - 9223372036854775808:=by
 simp only [zK,IntKind.wrap,IntKind.bits,IntKind.signed];simp;split<;>omega
theorem zKG {α:Type} {l:List α} {i:Int} (h:0≤i):yC l i=l[i.toNat]?:=if_pos h
theorem q7 {α:Type} (l:List α) (i:Nat):yC l (i:Int)=l[i]?:=by simp [yC]
theorem yQ {α:Type} {l:List α} {i:Nat} {x:α} {r:List α} (h:l.drop i=x::r):yC l (i:Int)=some x:=by
 rw [q7]
 have:=congrArg (·[0]?) h
 simpa using this
theorem vA {α:Type} {l:List α} {i:Nat} {x:α} {r:List α} (h:l.drop i=x::r):i<l.length:=by
 rcases Nat.lt_or_ge i l.length with h' | h'
 ·exact h'
 ·rw [List.drop_eq_nil_of_le h'] at h;cases h
theorem yD {α:Type} {l:List α} {i:Nat} {x:α} {r:List α} (h:l.drop i=x::r):l.drop (i+1)=r:=by
 rw [← List.drop_drop,h];rfl
theorem wO {α:Type} {l:List α} {i:Nat} (h:l.drop i=[]):l.length≤i:=List.drop_eq_nil_iff.1 h
def zAI (k:IntKind):Nat:=if k.signed then 2 ^ (k.bits - 1) else 2 ^ k.bits
theorem zBV {k:IntKind} {n:Nat} (h:n<zAI k):k.wrap (n:Int)=n:=by
 revert h
 cases k<;>simp only [zAI,IntKind.wrap,IntKind.bits,IntKind.signed]<;>simp<;>omega
theorem zCd (k:IntKind):zAI k≤2 ^ k.bits:=by cases k<;>decide
theorem zJl (k:IntKind):∃ j,zAI k=2 ^ j:=by
 cases k
 all_goals first | exact ⟨7,rfl⟩ | exact ⟨15,rfl⟩ | exact ⟨31,rfl⟩ | exact ⟨63,rfl⟩ | exact ⟨8,rfl⟩ | exact ⟨16,rfl⟩ | exact ⟨32,rfl⟩ | exact ⟨64,rfl⟩
theorem p7 {n x:Nat} (h:x<2 ^ n):(BitVec.ofInt n (x:Int)).toNat=x:=by
 simp [Nat.mod_eq_of_lt h]
theorem zFJ {k:IntKind} {x y:Nat} (hx:x<zAI k) (hy:y<zAI k):vG k (x:Int) (y:Int)=((x &&& y:Nat):Int):=by
 unfold vG
 rw [BitVec.toNat_and,p7 (Nat.lt_of_lt_of_le hx (zCd k)),p7 (Nat.lt_of_lt_of_le hy (zCd k))]
 exact zBV (Nat.lt_of_le_of_lt Nat.and_le_left hx)
theorem zNG {k:IntKind} {x y:Nat} (hx:x<zAI k) (hy:y<zAI k):ior k (x:Int) (y:Int)=((x ||| y:Nat):Int):=by
 unfold ior
 rw [BitVec.toNat_or,p7 (Nat.lt_of_lt_of_le hx (zCd k)),p7 (Nat.lt_of_lt_of_le hy (zCd k))]
 obtain ⟨j,hj⟩:=zJl k
 rw [hj] at hx hy
 exact zBV (by rw [hj];exact Nat.or_lt_two_pow hx hy)
theorem zM4 {k:IntKind} {x y:Nat} (hx:x<zAI k) (hy:y<zAI k):zAL k (x:Int) (y:Int)=((x ^^^ y:Nat):Int):=by
 unfold zAL
 rw [BitVec.toNat_xor,p7 (Nat.lt_of_lt_of_le hx (zCd k)),p7 (Nat.lt_of_lt_of_le hy (zCd k))]
 obtain ⟨j,hj⟩:=zJl k
 rw [hj] at hx hy
 exact zBV (by rw [hj];exact Nat.xor_lt_two_pow hx hy)
theorem zMF {x:Int} (h0:0≤x) (h1:x≤255):vG .u8 x 127=x % 128:=by
 obtain ⟨n,rfl⟩:=Int.eq_ofNat_of_zero_le h0
 rw [show (127:Int)=((127:Nat):Int) from rfl,zFJ (k:=.u8) (show n<256 by omega) (show 127<256 by omega),show 127=2 ^ 7 - 1 from rfl,Nat.and_two_pow_sub_one_eq_mod]
 simp
theorem zE0 {x:Int} (h0:0≤x) (h1:x≤18446744073709551615):vG .u64 x 127=x % 128:=by
 obtain ⟨n,rfl⟩:=Int.eq_ofNat_of_zero_le h0
 rw [show (127:Int)=((127:Nat):Int) from rfl,zFJ (k:=.u64) (show n<2 ^ 64 by omega) (show 127<2 ^ 64 by omega),show 127=2 ^ 7 - 1 from rfl,Nat.and_two_pow_sub_one_eq_mod]
 simp
theorem zLO {x:Int} (h0:0≤x) (h1:x≤18446744073709551615):vG .u64 x 1=x % 2:=by
 obtain ⟨n,rfl⟩:=Int.eq_ofNat_of_zero_le h0
 rw [show (1:Int)=((1:Nat):Int) from rfl,zFJ (k:=.u64) (show n<2 ^ 64 by omega) (show 1<2 ^ 64 by omega),Nat.and_one_is_mod]
 simp
theorem zKQ {k:IntKind} {x a:Int} {i:Nat} (h0:0≤x) (h1:x<2 ^ i) (ha:0≤a) (h:x+a * 2 ^ i<zAI k):ior k x (a * 2 ^ i)=x+a * 2 ^ i:=by
 obtain ⟨m,rfl⟩:=Int.eq_ofNat_of_zero_le h0
 obtain ⟨n,rfl⟩:=Int.eq_ofNat_of_zero_le ha
 have e:(n:Int) * 2 ^ i=((n * 2 ^ i:Nat):Int):=by simp
 rw [e] at h ⊢
 have h2:m+n * 2 ^ i<zAI k:=by exact_mod_cast h
 have h3:m<2 ^ i:=by exact_mod_cast h1
 rw [zNG (by omega) (by omega),Nat.or_comm,Nat.mul_comm,← Nat.two_pow_add_eq_or_of_lt h3]
 omega
theorem zM0 {k:IntKind} {x:Int} {s:Nat} (h0:0≤x) (hs:s≤k.bits) (h:x * 2 ^ s<zAI k):kL k x (s:Int)=x * 2 ^ s:=by
 obtain ⟨m,rfl⟩:=Int.eq_ofNat_of_zero_le h0
 unfold kL
 rw [Int.toNat_natCast,Nat.min_eq_left hs]
 have e:(m:Int) * 2 ^ s=((m * 2 ^ s:Nat):Int):=by simp
 rw [e] at h ⊢
 exact zBV (by exact_mod_cast h)
theorem zJh {k:IntKind} {x:Int} {s:Nat} (_:0≤x) (hs:s≤k.bits):nJ k x (s:Int)=x / 2 ^ s:=by
 unfold nJ
 rw [Int.toNat_natCast,Nat.min_eq_left hs,Int.fdiv_eq_ediv_of_nonneg _ (by have:(0:Int)<2 ^ s:=Int.pow_pos (by decide);omega)]
theorem zJ7 {k:IntKind} {x y:Int} (h0:0≤x) (h:x<zAI k) (hy:0≤y):zCu k x y=x / y:=by
 obtain ⟨m,rfl⟩:=Int.eq_ofNat_of_zero_le h0
 obtain ⟨n,rfl⟩:=Int.eq_ofNat_of_zero_le hy
 unfold zCu
 have e:(m:Int).tdiv n=((m / n:Nat):Int):=rfl
 rw [e]
 have h2:m<zAI k:=by exact_mod_cast h
 rw [zBV (Nat.lt_of_le_of_lt (Nat.div_le_self _ _) h2)];simp
theorem zFG {x y:Int} (h0:0≤x):vC x y=x % y:=by
 unfold vC
 rw [Int.tmod_eq_emod_of_nonneg h0]
theorem zIm {x:Int} (h0 : -9223372036854775808≤x) (h1:x≤9223372036854775807):zAL .i64 x 0=x:=by
 show IntKind.i64.wrap ((BitVec.ofInt 64 x ^^^ BitVec.ofInt 64 0).toNat:Int)=_
 rw [show BitVec.ofInt 64 0=0#64 by decide,BitVec.xor_zero,BitVec.toNat_ofInt]
 have:(2 ^ 64:Nat)=18446744073709551616:=rfl
 have h2:=zKV ((x % (2 ^ 64:Nat)).toNat:Int)
 simp only [zK] at h2
 rw [h2];omega
theorem zHP (x:BitVec 64):(x ^^^ BitVec.ofInt 64 (-1)).toNat=18446744073709551615 - x.toNat:=by
 have e:BitVec.ofInt 64 (-1)=BitVec.allOnes 64:=by decide
 rw [e,BitVec.xor_allOnes,BitVec.toNat_not]
theorem zIT {x:Int} (h0 : -9223372036854775808≤x) (h1:x≤9223372036854775807):zAL .i64 x (-1) = -x - 1:=by
 show IntKind.i64.wrap ((BitVec.ofInt 64 x ^^^ BitVec.ofInt 64 (-1)).toNat:Int)=_
 rw [zHP,BitVec.toNat_ofInt]
 have:(2 ^ 64:Nat)=18446744073709551616:=rfl
 have h2:=zKV ((18446744073709551615 - (x % (2 ^ 64:Nat)).toNat:Nat):Int)
 simp only [zK] at h2
 rw [h2];omega
theorem zHX {x:Int} (h0:0≤x) (h1:x≤18446744073709551615):zAL .u64 x 18446744073709551615=18446744073709551615 - x:=by
 show IntKind.u64.wrap ((BitVec.ofInt 64 x ^^^ BitVec.ofInt 64 18446744073709551615).toNat:Int)=_
 rw [show BitVec.ofInt 64 18446744073709551615=BitVec.ofInt 64 (-1) by decide,zHP,BitVec.toNat_ofInt]
 have:(2 ^ 64:Nat)=18446744073709551616:=rfl
 have h2:=zCG ((18446744073709551615 - (x % (2 ^ 64:Nat)).toNat:Nat):Int)
 simp only [zW] at h2
 rw [h2];omega
theorem zH8 {x:Int} (h0:0≤x) (h1:x≤18446744073709551615):zAL .u64 x 0=x:=by
 obtain ⟨n,rfl⟩:=Int.eq_ofNat_of_zero_le h0
 rw [show (0:Int)=((0:Nat):Int) from rfl,zM4 (k:=.u64) (show n<2 ^ 64 by omega) (show 0<2 ^ 64 by omega)]
 simp
theorem zNS {x:Int} (h0:0≤x) (h1:x≤127):ior .u8 x 128=x+128:=by
 have:=zKQ (k:=.u8) (x:=x) (a:=1) (i:=7) h0 (by omega) (by omega) (show x+1 * 2 ^ 7<256 by omega)
 simpa using this
end Go.Ab
