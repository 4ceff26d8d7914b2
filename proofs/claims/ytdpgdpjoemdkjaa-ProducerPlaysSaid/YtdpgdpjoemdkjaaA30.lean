/- A layer over the model: abstract values and states, and the rules by which the printed proofs go. No conditions. -/
import Derived.Test.YtdpgdpjoemdkjaaA27
/- Typed values behind cells: ranges of the integer kinds. -/
namespace Go.Ab
open Go
def y2 (n:Int):Prop := -9223372036854775808≤n∧n≤9223372036854775807
def zFn (n:Int):Prop:=0≤n∧n≤18446744073709551615
def x7 (n:Int):Prop:=0≤n∧n≤255
def zPo (_:Bool):Prop:=True
def zJA (s:List Int):Prop:=(∀ x∈s,x7 x)∧s.length≤140737488355328
def zGl {α:Type} (ok:α→Prop) (l:List α):Prop:=(∀ x∈l,ok x)∧l.length≤140737488355328
theorem zFw {k:IntKind} {n:Int} (h:k.wrap n=n):k.min≤n∧n≤k.max:=by
 rw [← h]
 cases k<;>simp only [IntKind.wrap,IntKind.min,IntKind.max,IntKind.signed,IntKind.bits]<;>simp<;>(try split)<;>omega
theorem zRd {n:Int} (h:IntKind.i64.wrap n=n):y2 n:=by
 have:=zFw h;exact this
theorem zRD {n:Int} (h:IntKind.u8.wrap n=n):x7 n:=by
 have:=zFw h;exact this
theorem Enc.weak {α:Type} {s:List Sh} {c:α→List AV} {ok ok':α→Prop} (h:Enc s c ok) (ho:∀ x,ok x→ok' x):Enc s c ok':=by
 intro avs hf
 obtain ⟨x,rfl,hx⟩:=h avs hf
 exact ⟨x,rfl,ho x hx⟩
theorem jS:Enc [.int .i64] (fun n=>[.int .i64 n]) y2:=(zOg .i64).weak fun _=>zRd
theorem zSd:Enc [.int .u8] (fun n=>[.int .u8 n]) x7:=(zOg .u8).weak fun _=>zRD
theorem zRX:Enc [.bool] (fun b=>[.bool b]) zPo:=zRa.weak fun _ _=>trivial
theorem zIM:Enc [.str] (fun s=>[.str s]) zJA:=zRs.weak fun s h=>⟨fun x hx=>by have:=h.1 x hx;unfold x7;omega,h.2⟩
theorem zNd {α:Type} {s:Sh} {e:α→AV} {ok:α→Prop} (h:Enc [s] (fun x=>[e x]) ok):Enc [.sl false [s]] (fun l=>[.sl false 1 (l.map e)]) (zGl ok):=zRt h
theorem zPN {α:Type} {ss:List Sh} {c:α→List AV} {ok:α→Prop} (h:Enc ss c ok):Enc [.sl true ss] (fun l=>[.sl false ss.length (l.map fun x=>.agg (c x))]) (zGl ok):=zRK h
end Go.Ab

/- Words for the plain laws: ranges, bits, and how the printed functions compute. -/
namespace Go.Ab
open Go
theorem xE {p:Prop} [Decidable p] (h:p):need p=some ():=if_pos h
theorem yW {p:Prop} [Decidable p] (h:p):decide p=true:=decide_eq_true h
theorem yI {p:Prop} [Decidable p] (h:¬p):decide p=false:=decide_eq_false h
theorem kZ {a b:Int} (h:a=b):(a==b)=true:=by simpa using h
theorem zBU {a b:Int} (h:a≠b):(a==b)=false:=by simpa using h
theorem xW {a b:Int} (h:a≠b):(a != b)=true:=by simpa using h
theorem xD {a b:Int} (h:a=b):(a != b)=false:=by simpa using h
theorem w64 {x:Int} (h1 : -9223372036854775808≤x) (h2:x≤9223372036854775807):zJ x=x:=by
 simp only [zJ,IntKind.wrap,IntKind.bits,IntKind.signed];simp;split<;>omega
theorem zKa {x:Int} (h1:0≤x) (h2:x≤18446744073709551615):yR x=x:=by
 simp only [yR,IntKind.wrap,IntKind.bits,IntKind.signed];simp;omega
theorem wu8 {x:Int} (h1:0≤x) (h2:x≤255):wK x=x:=by
 simp only [wK,IntKind.wrap,IntKind.bits,IntKind.signed];simp;omega
theorem zEI (x:Int):yR x=x % 18446744073709551616:=by
 simp only [yR,IntKind.wrap,IntKind.bits,IntKind.signed];simp
theorem zN8 (x:Int):zJ x=(x+9223372036854775808) % 18446744073709551616 - 9223372036854775808:=by
 simp only [zJ,IntKind.wrap,IntKind.bits,IntKind.signed];simp;split<;>omega
theorem zN7 {α:Type} {l:List α} {i:Int} (h:0≤i):y7 l i=l[i.toNat]?:=if_pos h
theorem jI {α:Type} (l:List α) (i:Nat):y7 l (i:Int)=l[i]?:=by simp [y7]
theorem x3 {α:Type} {l:List α} {i:Nat} {x:α} {r:List α} (h:l.drop i=x::r):y7 l (i:Int)=some x:=by
 rw [jI]
 have:=congrArg (·[0]?) h
 simpa using this
theorem jN {α:Type} {l:List α} {i:Nat} {x:α} {r:List α} (h:l.drop i=x::r):i<l.length:=by
 rcases Nat.lt_or_ge i l.length with h' | h'
 ·exact h'
 ·rw [List.drop_eq_nil_of_le h'] at h;cases h
theorem wN {α:Type} {l:List α} {i:Nat} {x:α} {r:List α} (h:l.drop i=x::r):l.drop (i+1)=r:=by
 rw [← List.drop_drop,h];rfl
theorem qR {α:Type} {l:List α} {i:Nat} (h:l.drop i=[]):l.length≤i:=List.drop_eq_nil_iff.1 h
def zCx (k:IntKind):Nat:=if k.signed then 2 ^ (k.bits - 1) else 2 ^ k.bits
theorem zD7 {k:IntKind} {n:Nat} (h:n<zCx k):k.wrap (n:Int)=n:=by
 revert h
 cases k<;>simp only [zCx,IntKind.wrap,IntKind.bits,IntKind.signed]<;>simp<;>omega
theorem zEA (k:IntKind):zCx k≤2 ^ k.bits:=by cases k<;>decide
theorem zMr (k:IntKind):∃ j,zCx k=2 ^ j:=by
 cases k
 all_goals first | exact ⟨7,rfl⟩ | exact ⟨15,rfl⟩ | exact ⟨31,rfl⟩ | exact ⟨63,rfl⟩ | exact ⟨8,rfl⟩ | exact ⟨16,rfl⟩ | exact ⟨32,rfl⟩ | exact ⟨64,rfl⟩
theorem zBe {n x:Nat} (h:x<2 ^ n):(BitVec.ofInt n (x:Int)).toNat=x:=by
 simp [Nat.mod_eq_of_lt h]
theorem zIb {k:IntKind} {x y:Nat} (hx:x<zCx k) (hy:y<zCx k):tC k (x:Int) (y:Int)=((x &&& y:Nat):Int):=by
 unfold tC
 rw [BitVec.toNat_and,zBe (Nat.lt_of_lt_of_le hx (zEA k)),zBe (Nat.lt_of_lt_of_le hy (zEA k))]
 exact zD7 (Nat.lt_of_le_of_lt Nat.and_le_left hx)
theorem zRT {k:IntKind} {x y:Nat} (hx:x<zCx k) (hy:y<zCx k):ior k (x:Int) (y:Int)=((x ||| y:Nat):Int):=by
 unfold ior
 rw [BitVec.toNat_or,zBe (Nat.lt_of_lt_of_le hx (zEA k)),zBe (Nat.lt_of_lt_of_le hy (zEA k))]
 obtain ⟨j,hj⟩:=zMr k
 rw [hj] at hx hy
 exact zD7 (by rw [hj];exact Nat.or_lt_two_pow hx hy)
theorem zQR {k:IntKind} {x y:Nat} (hx:x<zCx k) (hy:y<zCx k):zCD k (x:Int) (y:Int)=((x ^^^ y:Nat):Int):=by
 unfold zCD
 rw [BitVec.toNat_xor,zBe (Nat.lt_of_lt_of_le hx (zEA k)),zBe (Nat.lt_of_lt_of_le hy (zEA k))]
 obtain ⟨j,hj⟩:=zMr k
 rw [hj] at hx hy
 exact zD7 (by rw [hj];exact Nat.xor_lt_two_pow hx hy)
theorem zQA {x:Int} (h0:0≤x) (h1:x≤255):tC .u8 x 127=x % 128:=by
 obtain ⟨n,rfl⟩:=Int.eq_ofNat_of_zero_le h0
 rw [show (127:Int)=((127:Nat):Int) from rfl,zIb (k:=.u8) (show n<256 by omega) (show 127<256 by omega),show 127=2 ^ 7 - 1 from rfl,Nat.and_two_pow_sub_one_eq_mod]
 simp
theorem zHP {x:Int} (h0:0≤x) (h1:x≤18446744073709551615):tC .u64 x 127=x % 128:=by
 obtain ⟨n,rfl⟩:=Int.eq_ofNat_of_zero_le h0
 rw [show (127:Int)=((127:Nat):Int) from rfl,zIb (k:=.u64) (show n<2 ^ 64 by omega) (show 127<2 ^ 64 by omega),show 127=2 ^ 7 - 1 from rfl,Nat.and_two_pow_sub_one_eq_mod]
 simp
theorem zPf {x:Int} (h0:0≤x) (h1:x≤18446744073709551615):tC .u64 x 1=x % 2:=by
 obtain ⟨n,rfl⟩:=Int.eq_ofNat_of_zero_le h0
 rw [show (1:Int)=((1:Nat):Int) from rfl,zIb (k:=.u64) (show n<2 ^ 64 by omega) (show 1<2 ^ 64 by omega),Nat.and_one_is_mod]
 simp
theorem zOe {k:IntKind} {x a:Int} {i:Nat} (h0:0≤x) (h1:x<2 ^ i) (ha:0≤a) (h:x+a * 2 ^ i<zCx k):ior k x (a * 2 ^ i)=x+a * 2 ^ i:=by
 obtain ⟨m,rfl⟩:=Int.eq_ofNat_of_zero_le h0
 obtain ⟨n,rfl⟩:=Int.eq_ofNat_of_zero_le ha
 have e:(n:Int) * 2 ^ i=((n * 2 ^ i:Nat):Int):=by simp
 rw [e] at h ⊢
 have h2:m+n * 2 ^ i<zCx k:=by exact_mod_cast h
 have h3:m<2 ^ i:=by exact_mod_cast h1
 rw [zRT (by omega) (by omega),Nat.or_comm,Nat.mul_comm,← Nat.two_pow_add_eq_or_of_lt h3]
 omega
theorem zQj {k:IntKind} {x:Int} {s:Nat} (h0:0≤x) (hs:s≤k.bits) (h:x * 2 ^ s<zCx k):zAf k x (s:Int)=x * 2 ^ s:=by
 obtain ⟨m,rfl⟩:=Int.eq_ofNat_of_zero_le h0
 unfold zAf
 rw [Int.toNat_natCast,Nat.min_eq_left hs]
 have e:(m:Int) * 2 ^ s=((m * 2 ^ s:Nat):Int):=by simp
 rw [e] at h ⊢
 exact zD7 (by exact_mod_cast h)
theorem zMp {k:IntKind} {x:Int} {s:Nat} (_:0≤x) (hs:s≤k.bits):zBl k x (s:Int)=x / 2 ^ s:=by
 unfold zBl
 rw [Int.toNat_natCast,Nat.min_eq_left hs,Int.fdiv_eq_ediv_of_nonneg _ (by have:(0:Int)<2 ^ s:=Int.pow_pos (by decide);omega)]
theorem zMm {k:IntKind} {x y:Int} (h0:0≤x) (h:x<zCx k) (hy:0≤y):zEZ k x y=x / y:=by
 obtain ⟨m,rfl⟩:=Int.eq_ofNat_of_zero_le h0
 obtain ⟨n,rfl⟩:=Int.eq_ofNat_of_zero_le hy
 unfold zEZ
 have e:(m:Int).tdiv n=((m / n:Nat):Int):=rfl
 rw [e]
 have h2:m<zCx k:=by exact_mod_cast h
 rw [zD7 (Nat.lt_of_le_of_lt (Nat.div_le_self _ _) h2)];simp
theorem zGb {x y:Int} (h0:0≤x):yQ x y=x % y:=by
 unfold yQ
 rw [Int.tmod_eq_emod_of_nonneg h0]
theorem zKX {x:Int} (h0 : -9223372036854775808≤x) (h1:x≤9223372036854775807):zCD .i64 x 0=x:=by
 show IntKind.i64.wrap ((BitVec.ofInt 64 x ^^^ BitVec.ofInt 64 0).toNat:Int)=_
 rw [show BitVec.ofInt 64 0=0#64 by decide,BitVec.xor_zero,BitVec.toNat_ofInt]
 have:(2 ^ 64:Nat)=18446744073709551616:=rfl
 have h2:=zN8 ((x % (2 ^ 64:Nat)).toNat:Int)
 simp only [zJ] at h2
 rw [h2];omega
theorem zKF (x:BitVec 64):(x ^^^ BitVec.ofInt 64 (-1)).toNat=18446744073709551615 - x.toNat:=by
 have e:BitVec.ofInt 64 (-1)=BitVec.allOnes 64:=by decide
 rw [e,BitVec.xor_allOnes,BitVec.toNat_not]
theorem zLR {x:Int} (h0 : -9223372036854775808≤x) (h1:x≤9223372036854775807):zCD .i64 x (-1) = -x - 1:=by
 show IntKind.i64.wrap ((BitVec.ofInt 64 x ^^^ BitVec.ofInt 64 (-1)).toNat:Int)=_
 rw [zKF,BitVec.toNat_ofInt]
 have:(2 ^ 64:Nat)=18446744073709551616:=rfl
 have h2:=zN8 ((18446744073709551615 - (x % (2 ^ 64:Nat)).toNat:Nat):Int)
 simp only [zJ] at h2
 rw [h2];omega
theorem zK7 {x:Int} (h0:0≤x) (h1:x≤18446744073709551615):zCD .u64 x 18446744073709551615=18446744073709551615 - x:=by
 show IntKind.u64.wrap ((BitVec.ofInt 64 x ^^^ BitVec.ofInt 64 18446744073709551615).toNat:Int)=_
 rw [show BitVec.ofInt 64 18446744073709551615=BitVec.ofInt 64 (-1) by decide,zKF,BitVec.toNat_ofInt]
 have:(2 ^ 64:Nat)=18446744073709551616:=rfl
 have h2:=zEI ((18446744073709551615 - (x % (2 ^ 64:Nat)).toNat:Nat):Int)
 simp only [yR] at h2
 rw [h2];omega
theorem zKR {x:Int} (h0:0≤x) (h1:x≤18446744073709551615):zCD .u64 x 0=x:=by
 obtain ⟨n,rfl⟩:=Int.eq_ofNat_of_zero_le h0
 rw [show (0:Int)=((0:Nat):Int) from rfl,zQR (k:=.u64) (show n<2 ^ 64 by omega) (show 0<2 ^ 64 by omega)]
 simp
theorem zRO {x:Int} (h0:0≤x) (h1:x≤127):ior .u8 x 128=x+128:=by
 have:=zOe (k:=.u8) (x:=x) (a:=1) (i:=7) h0 (by omega) (by omega) (show x+1 * 2 ^ 7<256 by omega)
 simpa using this
end Go.Ab

/- Loops over lists, as the printed functions have them. -/
namespace Go.Ab
open Go
theorem zSn {α σ R:Type} {l:List α} (L:Nat→Int→σ→Option R) (G:Nat→List α→σ→R) (Inv:Nat→σ→Prop)
  (he:∀ n i s,l.length≤i→Inv i s→L (n+1) (i:Nat) s=some (G i [] s))
  (hs:∀ n i s x r,l.drop i=x::r→i<l.length→Inv i s→(∀ s',Inv (i+1) s'→L n ((i+1:Nat):Int) s'=some (G (i+1) r s'))→L (n+1) (i:Nat) s=some (G i (x::r) s)) :
  ∀ n i s,Inv i s→(l.drop i).length<n→L n (i:Nat) s=some (G i (l.drop i) s):=by
 intro n
 induction n with
 | zero=>intro i s _ h;omega
 | succ n ih =>
  intro i s hI hn
  rcases hd:l.drop i with _ | ⟨x,r⟩
  ·exact he n i s (qR hd) hI
  ·refine hs n i s x r hd (jN hd) hI fun s' hI'=>?_
   have:=ih (i+1) s' hI' (by rw [wN hd];rw [hd] at hn;simp only [List.length_cons] at hn;omega)
   rwa [wN hd] at this
theorem zHa {α σ R:Type} {l:List α} (L:Nat→Int→σ→Option R) (G:Nat→List α→σ→R) (Inv:Nat→σ→Prop)
  (he:∀ n i s,l.length≤i→Inv i s→L (n+1) (i:Nat) s=some (G i [] s))
  (hs:∀ n i s x r,l.drop i=x::r→i<l.length→Inv i s→(∀ s',Inv (i+1) s'→L n ((i+1:Nat):Int) s'=some (G (i+1) r s'))→L (n+1) (i:Nat) s=some (G i (x::r) s))
  {n:Nat} {s:σ} (hI:Inv 0 s) (hn:l.length<n):L n 0 s=some (G 0 l s):=by
 have:=zSn L G Inv he hs n 0 s hI (by simpa using hn)
 simpa using this
theorem vS {i:Nat} (h:i<9223372036854775807):zJ ((i:Int)+1)=((i+1:Nat):Int):=by
 rw [w64 (by omega) (by omega)];omega
theorem zES {α:Type} {l:List α} {i:Nat} {x:α} {r:List α} (h:l.drop i=x::r):x∈l:=List.mem_of_mem_drop (h ▸ List.mem_cons_self)
theorem zPz {α:Type} {l:List α} {i:Nat} (h0:0<i) (h:i<9223372036854775807):y7 l (zJ ((i:Int) - 1))=l[i - 1]?:=by
 rw [w64 (by omega) (by omega),show (i:Int) - 1=((i - 1:Nat):Int) by omega,jI]
def nP {α:Type} {β:Type} (f:Nat→α→Option β):Nat→List α→Unit⊕β
 | _,[]=>.inl ()
 | i,x::r=>match f i x with
  | none=>nP f (i+1) r
  | some b=>.inr b
theorem zBq {α β:Type} {f:Nat→α→Option β} {i:Nat} {l:List α} (h:∀ j x,l[j]?=some x→f (i+j) x=none):nP f i l=.inl ():=by
 induction l generalizing i with
 | nil=>rfl
 | cons a r ih =>
  simp only [nP]
  rw [show f i a=none from h 0 a rfl]
  exact ih fun j x hj=>by
   have:=h (j+1) x (by simpa using hj)
   rwa [show i+(j+1)=i+1+j by omega] at this
end Go.Ab

/- Maps of the call's own: typed tables, and what the layer asks of them. -/
namespace Go.Ab
open Go
def mpE {α β:Type} (f:α→AV) (g:β→AV) (p:α×β):AV×AV:=(f p.1,g p.2)
def j3 {α β:Type} [DecidableEq α]:List (α×β)→α→Option β
 | [],_=>none
 | p::l,k=>if p.1=k then some p.2 else j3 l k
def kG {α β:Type} [DecidableEq α]:List (α×β)→α→β→List (α×β)
 | [],k,v=>[(k,v)]
 | p::l,k,v=>if p.1=k then (k,v)::l else p::kG l k v
section
variable {α β:Type} [DecidableEq α] {f:α→AV} {g:β→AV}
theorem zG0 {l:List (α×β)} {k:α} (h:j3 l k=none):∀ p∈l,p.1≠k:=by
 induction l with
 | nil=>intro p hp;cases hp
 | cons q l ih =>
  unfold j3 at h
  split at h
  ·cases h
  ·rename_i hq
   intro p hp
   rcases List.mem_cons.1 hp with rfl | hp
   ·exact hq
   ·exact ih h p hp
theorem zKJ {l:List (α×β)} {k:α} {v:β} (h:j3 l k=some v):∃ (i:Nat) (p:α×β),l[i]?=some p∧p.1=k∧p.2=v∧∀ w,kG l k w=l.set i (k,w):=by
 induction l with
 | nil=>cases h
 | cons q l ih =>
  unfold j3 at h
  split at h
  ·rename_i hq
   injection h with h
   exact ⟨0,q,rfl,hq,h,fun w=>by simp [kG,hq]⟩
  ·rename_i hq
   obtain ⟨i,p,h1,h2,h3,h4⟩:=ih h
   exact ⟨i+1,p,by simpa using h1,h2,h3,fun w=>by simp [kG,hq,h4]⟩
theorem zPL {l:List (α×β)} {k:α} (h:∀ p∈l,p.1≠k) (v:β):kG l k v=l++[(k,v)]:=by
 induction l with
 | nil=>rfl
 | cons q l ih =>
  unfold kG
  rw [if_neg (h q (List.mem_cons_self ..)),ih fun p hp=>h p (List.mem_cons_of_mem _ hp)];rfl
theorem zKG (hf:∀ a b,f a=f b→a=b) (l:List (α×β)) (k:α) (z:β):zJg (l.map (mpE f g)) (f k) (g z) (g ((j3 l k).getD z)) (j3 l k).isSome:=by
 cases h:j3 l k with
 | none =>
  refine .inr ⟨fun x hx=>?_,rfl,rfl⟩
  obtain ⟨p,hp,rfl⟩:=List.mem_map.1 hx
  exact fun e=>zG0 h p hp (hf _ _ e)
 | some v =>
  obtain ⟨i,p,h1,h2,h3,_⟩:=zKJ h
  exact .inl ⟨i,mpE f g p,by rw [List.getElem?_map,h1];rfl,by simp [mpE,h2],by simp [mpE,h3],rfl⟩
theorem zLB (hf:∀ a b,f a=f b→a=b) (l:List (α×β)) (k:α) (v:β):zNh (l.map (mpE f g)) (f k) (g v) ((kG l k v).map (mpE f g)):=by
 cases h:j3 l k with
 | none =>
  refine .inr ⟨fun x hx=>?_,?_⟩
  ·obtain ⟨p,hp,rfl⟩:=List.mem_map.1 hx
   exact fun e=>zG0 h p hp (hf _ _ e)
  ·rw [zPL (zG0 h)];simp [mpE]
 | some v0 =>
  obtain ⟨i,p,h1,h2,h3,h4⟩:=zKJ h
  exact .inl ⟨i,mpE f g p,by rw [List.getElem?_map,h1];rfl,by simp [mpE,h2],by rw [h4,List.map_set];rfl⟩
omit [DecidableEq α] in
theorem zN0 {l:List (α×β)} (h:l.length<140737488355328):(l.map (mpE f g)).length<maxLen:=by
 rw [List.length_map,vT];omega
end
theorem zDT {α:Type} [DecidableEq α] {f:α→AV} (hf:∀ a b,f a=f b→a=b) (a b:α):decide (a=b)=true↔f a=f b:=by
 rw [decide_eq_true_iff];exact ⟨fun h=>by rw [h],hf a b⟩
theorem zN4:∀ a b:List Int,AV.str a=AV.str b→a=b:=fun _ _ h=>AV.str.inj h
theorem zOV {k:IntKind} {n:Int} (h:k.wrap n=n):(Lit.int k n).wf=true:=by
 have:=zFw h
 simp only [Lit.wf,Bool.and_eq_true,decide_eq_true_eq];exact this
theorem zPP {P:Program} {k:TypeId} (h:P.underlying k=some .string):zAc P k false [.str]:=by
 refine ⟨Maps.string_keyed h,fun w I T v a hr hm=>?_⟩
 cases a<;>simp [nQ,kcs,kc] at hm
 cases hr with
 | str h1 h2=>exact ⟨_,by simp [keyOf,h,mapKey,v9,ByteArray.size,h2];rfl⟩
end Go.Ab
