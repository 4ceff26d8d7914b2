/- A layer over the model: abstract values and states, and the rules by which the printed proofs go. No conditions. -/
import Derived.Test.YtdpgdpjoemdkjaaA27
/- Typed values behind cells: ranges of the integer kinds. -/
namespace Go.Ab
open Go
def y3 (n:Int):Prop := -9223372036854775808≤n∧n≤9223372036854775807
def zE5 (n:Int):Prop:=0≤n∧n≤18446744073709551615
def x4 (n:Int):Prop:=0≤n∧n≤255
def zO6 (_:Bool):Prop:=True
def zI9 (s:List Int):Prop:=(∀ x∈s,x4 x)∧s.length≤140737488355328
def zJZ {α:Type} (ok:α→Prop) (l:List α):Prop:=(∀ x∈l,ok x)∧l.length≤140737488355328
theorem zFr {k:IntKind} {n:Int} (h:k.wrap n=n):k.min≤n∧n≤k.max:=by
 rw [← h]
 cases k<;>simp only [IntKind.wrap,IntKind.min,IntKind.max,IntKind.signed,IntKind.bits]<;>simp<;>(try split)<;>omega
theorem zP5 {n:Int} (h:IntKind.i64.wrap n=n):y3 n:=by
 have:=zFr h;exact this
theorem zRg {n:Int} (h:IntKind.u8.wrap n=n):x4 n:=by
 have:=zFr h;exact this
theorem Enc.weak {α:Type} {s:List Sh} {c:α→List AV} {ok ok':α→Prop} (h:Enc s c ok) (ho:∀ x,ok x→ok' x):Enc s c ok':=by
 intro avs hf
 obtain ⟨x,rfl,hx⟩:=h avs hf
 exact ⟨x,rfl,ho x hx⟩
theorem jX:Enc [.int .i64] (fun n=>[.int .i64 n]) y3:=(zNL .i64).weak fun _=>zP5
theorem zRE:Enc [.int .u8] (fun n=>[.int .u8 n]) x4:=(zNL .u8).weak fun _=>zRg
theorem zRw:Enc [.bool] (fun b=>[.bool b]) zO6:=zQb.weak fun _ _=>trivial
theorem zIC:Enc [.str] (fun s=>[.str s]) zI9:=zQ7.weak fun s h=>⟨fun x hx=>by have:=h.1 x hx;unfold x4;omega,h.2⟩
theorem zMQ {α:Type} {s:Sh} {e:α→AV} {ok:α→Prop} (h:Enc [s] (fun x=>[e x]) ok):Enc [.sl false [s]] (fun l=>[.sl false 1 (l.map e)]) (zJZ ok):=zRe h
theorem zRR {α:Type} {ss:List Sh} {c:α→List AV} {ok:α→Prop} (h:Enc ss c ok):Enc [.sl true ss] (fun l=>[.sl false ss.length (l.map fun x=>.agg (c x))]) (zJZ ok):=zRt h
end Go.Ab

/- Words for the plain laws: ranges, bits, and how the printed functions compute. -/
namespace Go.Ab
open Go
theorem xA {p:Prop} [Decidable p] (h:p):need p=some ():=if_pos h
theorem yR {p:Prop} [Decidable p] (h:p):decide p=true:=decide_eq_true h
theorem yF {p:Prop} [Decidable p] (h:¬p):decide p=false:=decide_eq_false h
theorem kL {a b:Int} (h:a=b):(a==b)=true:=by simpa using h
theorem zCm {a b:Int} (h:a≠b):(a==b)=false:=by simpa using h
theorem xQ {a b:Int} (h:a≠b):(a != b)=true:=by simpa using h
theorem xE {a b:Int} (h:a=b):(a != b)=false:=by simpa using h
theorem w64 {x:Int} (h1 : -9223372036854775808≤x) (h2:x≤9223372036854775807):zI x=x:=by
 simp only [zI,IntKind.wrap,IntKind.bits,IntKind.signed];simp;split<;>omega
theorem zJ9 {x:Int} (h1:0≤x) (h2:x≤18446744073709551615):yN x=x:=by
 simp only [yN,IntKind.wrap,IntKind.bits,IntKind.signed];simp;omega
theorem wu8 {x:Int} (h1:0≤x) (h2:x≤255):wH x=x:=by
 simp only [wH,IntKind.wrap,IntKind.bits,IntKind.signed];simp;omega
theorem zEI (x:Int):yN x=x % 18446744073709551616:=by
 simp only [yN,IntKind.wrap,IntKind.bits,IntKind.signed];simp
theorem zNZ (x:Int):zI x=(x+9223372036854775808) % 18446744073709551616 - 9223372036854775808:=by
 simp only [zI,IntKind.wrap,IntKind.bits,IntKind.signed];simp;split<;>omega
theorem zNJ {α:Type} {l:List α} {i:Int} (h:0≤i):y2 l i=l[i.toNat]?:=if_pos h
theorem qO {α:Type} (l:List α) (i:Nat):y2 l (i:Int)=l[i]?:=by simp [y2]
theorem xZ {α:Type} {l:List α} {i:Nat} {x:α} {r:List α} (h:l.drop i=x::r):y2 l (i:Int)=some x:=by
 rw [qO]
 have:=congrArg (·[0]?) h
 simpa using this
theorem jJ {α:Type} {l:List α} {i:Nat} {x:α} {r:List α} (h:l.drop i=x::r):i<l.length:=by
 rcases Nat.lt_or_ge i l.length with h' | h'
 ·exact h'
 ·rw [List.drop_eq_nil_of_le h'] at h;cases h
theorem w8 {α:Type} {l:List α} {i:Nat} {x:α} {r:List α} (h:l.drop i=x::r):l.drop (i+1)=r:=by
 rw [← List.drop_drop,h];rfl
theorem qK {α:Type} {l:List α} {i:Nat} (h:l.drop i=[]):l.length≤i:=List.drop_eq_nil_iff.1 h
def zCs (k:IntKind):Nat:=if k.signed then 2 ^ (k.bits - 1) else 2 ^ k.bits
theorem zDY {k:IntKind} {n:Nat} (h:n<zCs k):k.wrap (n:Int)=n:=by
 revert h
 cases k<;>simp only [zCs,IntKind.wrap,IntKind.bits,IntKind.signed]<;>simp<;>omega
theorem zEp (k:IntKind):zCs k≤2 ^ k.bits:=by cases k<;>decide
theorem zLp (k:IntKind):∃ j,zCs k=2 ^ j:=by
 cases k
 all_goals first | exact ⟨7,rfl⟩ | exact ⟨15,rfl⟩ | exact ⟨31,rfl⟩ | exact ⟨63,rfl⟩ | exact ⟨8,rfl⟩ | exact ⟨16,rfl⟩ | exact ⟨32,rfl⟩ | exact ⟨64,rfl⟩
theorem zAZ {n x:Nat} (h:x<2 ^ n):(BitVec.ofInt n (x:Int)).toNat=x:=by
 simp [Nat.mod_eq_of_lt h]
theorem zIc {k:IntKind} {x y:Nat} (hx:x<zCs k) (hy:y<zCs k):uK k (x:Int) (y:Int)=((x &&& y:Nat):Int):=by
 unfold uK
 rw [BitVec.toNat_and,zAZ (Nat.lt_of_lt_of_le hx (zEp k)),zAZ (Nat.lt_of_lt_of_le hy (zEp k))]
 exact zDY (Nat.lt_of_le_of_lt Nat.and_le_left hx)
theorem zRm {k:IntKind} {x y:Nat} (hx:x<zCs k) (hy:y<zCs k):ior k (x:Int) (y:Int)=((x ||| y:Nat):Int):=by
 unfold ior
 rw [BitVec.toNat_or,zAZ (Nat.lt_of_lt_of_le hx (zEp k)),zAZ (Nat.lt_of_lt_of_le hy (zEp k))]
 obtain ⟨j,hj⟩:=zLp k
 rw [hj] at hx hy
 exact zDY (by rw [hj];exact Nat.or_lt_two_pow hx hy)
theorem zQF {k:IntKind} {x y:Nat} (hx:x<zCs k) (hy:y<zCs k):zCw k (x:Int) (y:Int)=((x ^^^ y:Nat):Int):=by
 unfold zCw
 rw [BitVec.toNat_xor,zAZ (Nat.lt_of_lt_of_le hx (zEp k)),zAZ (Nat.lt_of_lt_of_le hy (zEp k))]
 obtain ⟨j,hj⟩:=zLp k
 rw [hj] at hx hy
 exact zDY (by rw [hj];exact Nat.xor_lt_two_pow hx hy)
theorem zQI {x:Int} (h0:0≤x) (h1:x≤255):uK .u8 x 127=x % 128:=by
 obtain ⟨n,rfl⟩:=Int.eq_ofNat_of_zero_le h0
 rw [show (127:Int)=((127:Nat):Int) from rfl,zIc (k:=.u8) (show n<256 by omega) (show 127<256 by omega),show 127=2 ^ 7 - 1 from rfl,Nat.and_two_pow_sub_one_eq_mod]
 simp
theorem zHA {x:Int} (h0:0≤x) (h1:x≤18446744073709551615):uK .u64 x 127=x % 128:=by
 obtain ⟨n,rfl⟩:=Int.eq_ofNat_of_zero_le h0
 rw [show (127:Int)=((127:Nat):Int) from rfl,zIc (k:=.u64) (show n<2 ^ 64 by omega) (show 127<2 ^ 64 by omega),show 127=2 ^ 7 - 1 from rfl,Nat.and_two_pow_sub_one_eq_mod]
 simp
theorem zPo {x:Int} (h0:0≤x) (h1:x≤18446744073709551615):uK .u64 x 1=x % 2:=by
 obtain ⟨n,rfl⟩:=Int.eq_ofNat_of_zero_le h0
 rw [show (1:Int)=((1:Nat):Int) from rfl,zIc (k:=.u64) (show n<2 ^ 64 by omega) (show 1<2 ^ 64 by omega),Nat.and_one_is_mod]
 simp
theorem zNR {k:IntKind} {x a:Int} {i:Nat} (h0:0≤x) (h1:x<2 ^ i) (ha:0≤a) (h:x+a * 2 ^ i<zCs k):ior k x (a * 2 ^ i)=x+a * 2 ^ i:=by
 obtain ⟨m,rfl⟩:=Int.eq_ofNat_of_zero_le h0
 obtain ⟨n,rfl⟩:=Int.eq_ofNat_of_zero_le ha
 have e:(n:Int) * 2 ^ i=((n * 2 ^ i:Nat):Int):=by simp
 rw [e] at h ⊢
 have h2:m+n * 2 ^ i<zCs k:=by exact_mod_cast h
 have h3:m<2 ^ i:=by exact_mod_cast h1
 rw [zRm (by omega) (by omega),Nat.or_comm,Nat.mul_comm,← Nat.two_pow_add_eq_or_of_lt h3]
 omega
theorem zPX {k:IntKind} {x:Int} {s:Nat} (h0:0≤x) (hs:s≤k.bits) (h:x * 2 ^ s<zCs k):nQ k x (s:Int)=x * 2 ^ s:=by
 obtain ⟨m,rfl⟩:=Int.eq_ofNat_of_zero_le h0
 unfold nQ
 rw [Int.toNat_natCast,Nat.min_eq_left hs]
 have e:(m:Int) * 2 ^ s=((m * 2 ^ s:Nat):Int):=by simp
 rw [e] at h ⊢
 exact zDY (by exact_mod_cast h)
theorem zM3 {k:IntKind} {x:Int} {s:Nat} (_:0≤x) (hs:s≤k.bits):zA0 k x (s:Int)=x / 2 ^ s:=by
 unfold zA0
 rw [Int.toNat_natCast,Nat.min_eq_left hs,Int.fdiv_eq_ediv_of_nonneg _ (by have:(0:Int)<2 ^ s:=Int.pow_pos (by decide);omega)]
theorem zLQ {k:IntKind} {x y:Int} (h0:0≤x) (h:x<zCs k) (hy:0≤y):zEL k x y=x / y:=by
 obtain ⟨m,rfl⟩:=Int.eq_ofNat_of_zero_le h0
 obtain ⟨n,rfl⟩:=Int.eq_ofNat_of_zero_le hy
 unfold zEL
 have e:(m:Int).tdiv n=((m / n:Nat):Int):=rfl
 rw [e]
 have h2:m<zCs k:=by exact_mod_cast h
 rw [zDY (Nat.lt_of_le_of_lt (Nat.div_le_self _ _) h2)];simp
theorem zFP {x y:Int} (h0:0≤x):yM x y=x % y:=by
 unfold yM
 rw [Int.tmod_eq_emod_of_nonneg h0]
theorem zKI {x:Int} (h0 : -9223372036854775808≤x) (h1:x≤9223372036854775807):zCw .i64 x 0=x:=by
 show IntKind.i64.wrap ((BitVec.ofInt 64 x ^^^ BitVec.ofInt 64 0).toNat:Int)=_
 rw [show BitVec.ofInt 64 0=0#64 by decide,BitVec.xor_zero,BitVec.toNat_ofInt]
 have:(2 ^ 64:Nat)=18446744073709551616:=rfl
 have h2:=zNZ ((x % (2 ^ 64:Nat)).toNat:Int)
 simp only [zI] at h2
 rw [h2];omega
theorem zKe (x:BitVec 64):(x ^^^ BitVec.ofInt 64 (-1)).toNat=18446744073709551615 - x.toNat:=by
 have e:BitVec.ofInt 64 (-1)=BitVec.allOnes 64:=by decide
 rw [e,BitVec.xor_allOnes,BitVec.toNat_not]
theorem zMn {x:Int} (h0 : -9223372036854775808≤x) (h1:x≤9223372036854775807):zCw .i64 x (-1) = -x - 1:=by
 show IntKind.i64.wrap ((BitVec.ofInt 64 x ^^^ BitVec.ofInt 64 (-1)).toNat:Int)=_
 rw [zKe,BitVec.toNat_ofInt]
 have:(2 ^ 64:Nat)=18446744073709551616:=rfl
 have h2:=zNZ ((18446744073709551615 - (x % (2 ^ 64:Nat)).toNat:Nat):Int)
 simp only [zI] at h2
 rw [h2];omega
theorem zKx {x:Int} (h0:0≤x) (h1:x≤18446744073709551615):zCw .u64 x 18446744073709551615=18446744073709551615 - x:=by
 show IntKind.u64.wrap ((BitVec.ofInt 64 x ^^^ BitVec.ofInt 64 18446744073709551615).toNat:Int)=_
 rw [show BitVec.ofInt 64 18446744073709551615=BitVec.ofInt 64 (-1) by decide,zKe,BitVec.toNat_ofInt]
 have:(2 ^ 64:Nat)=18446744073709551616:=rfl
 have h2:=zEI ((18446744073709551615 - (x % (2 ^ 64:Nat)).toNat:Nat):Int)
 simp only [yN] at h2
 rw [h2];omega
theorem zK2 {x:Int} (h0:0≤x) (h1:x≤18446744073709551615):zCw .u64 x 0=x:=by
 obtain ⟨n,rfl⟩:=Int.eq_ofNat_of_zero_le h0
 rw [show (0:Int)=((0:Nat):Int) from rfl,zQF (k:=.u64) (show n<2 ^ 64 by omega) (show 0<2 ^ 64 by omega)]
 simp
theorem zQZ {x:Int} (h0:0≤x) (h1:x≤127):ior .u8 x 128=x+128:=by
 have:=zNR (k:=.u8) (x:=x) (a:=1) (i:=7) h0 (by omega) (by omega) (show x+1 * 2 ^ 7<256 by omega)
 simpa using this
end Go.Ab

/- Loops over lists, as the printed functions have them. -/
namespace Go.Ab
open Go
theorem zRX {α σ R:Type} {l:List α} (L:Nat→Int→σ→Option R) (G:Nat→List α→σ→R) (Inv:Nat→σ→Prop)
  (he:∀ n i s,l.length≤i→Inv i s→L (n+1) (i:Nat) s=some (G i [] s))
  (hs:∀ n i s x r,l.drop i=x::r→i<l.length→Inv i s→(∀ s',Inv (i+1) s'→L n ((i+1:Nat):Int) s'=some (G (i+1) r s'))→L (n+1) (i:Nat) s=some (G i (x::r) s)) :
  ∀ n i s,Inv i s→(l.drop i).length<n→L n (i:Nat) s=some (G i (l.drop i) s):=by
 intro n
 induction n with
 | zero=>intro i s _ h;omega
 | succ n ih =>
  intro i s hI hn
  rcases hd:l.drop i with _ | ⟨x,r⟩
  ·exact he n i s (qK hd) hI
  ·refine hs n i s x r hd (jJ hd) hI fun s' hI'=>?_
   have:=ih (i+1) s' hI' (by rw [w8 hd];rw [hd] at hn;simp only [List.length_cons] at hn;omega)
   rwa [w8 hd] at this
theorem zGM {α σ R:Type} {l:List α} (L:Nat→Int→σ→Option R) (G:Nat→List α→σ→R) (Inv:Nat→σ→Prop)
  (he:∀ n i s,l.length≤i→Inv i s→L (n+1) (i:Nat) s=some (G i [] s))
  (hs:∀ n i s x r,l.drop i=x::r→i<l.length→Inv i s→(∀ s',Inv (i+1) s'→L n ((i+1:Nat):Int) s'=some (G (i+1) r s'))→L (n+1) (i:Nat) s=some (G i (x::r) s))
  {n:Nat} {s:σ} (hI:Inv 0 s) (hn:l.length<n):L n 0 s=some (G 0 l s):=by
 have:=zRX L G Inv he hs n 0 s hI (by simpa using hn)
 simpa using this
theorem vK {i:Nat} (h:i<9223372036854775807):zI ((i:Int)+1)=((i+1:Nat):Int):=by
 rw [w64 (by omega) (by omega)];omega
theorem zEJ {α:Type} {l:List α} {i:Nat} {x:α} {r:List α} (h:l.drop i=x::r):x∈l:=List.mem_of_mem_drop (h ▸ List.mem_cons_self)
theorem zPA {α:Type} {l:List α} {i:Nat} (h0:0<i) (h:i<9223372036854775807):y2 l (zI ((i:Int) - 1))=l[i - 1]?:=by
 rw [w64 (by omega) (by omega),show (i:Int) - 1=((i - 1:Nat):Int) by omega,qO]
def pO {α:Type} {β:Type} (f:Nat→α→Option β):Nat→List α→Unit⊕β
 | _,[]=>.inl ()
 | i,x::r=>match f i x with
  | none=>pO f (i+1) r
  | some b=>.inr b
theorem zBj {α β:Type} {f:Nat→α→Option β} {i:Nat} {l:List α} (h:∀ j x,l[j]?=some x→f (i+j) x=none):pO f i l=.inl ():=by
 induction l generalizing i with
 | nil=>rfl
 | cons a r ih =>
  simp only [pO]
  rw [show f i a=none from h 0 a rfl]
  exact ih fun j x hj=>by
   have:=h (j+1) x (by simpa using hj)
   rwa [show i+(j+1)=i+1+j by omega] at this
end Go.Ab

/- Maps of the call's own: typed tables, and what the layer asks of them. -/
namespace Go.Ab
open Go
def mpE {α β:Type} (f:α→AV) (g:β→AV) (p:α×β):AV×AV:=(f p.1,g p.2)
def q8 {α β:Type} [DecidableEq α]:List (α×β)→α→Option β
 | [],_=>none
 | p::l,k=>if p.1=k then some p.2 else q8 l k
def jO {α β:Type} [DecidableEq α]:List (α×β)→α→β→List (α×β)
 | [],k,v=>[(k,v)]
 | p::l,k,v=>if p.1=k then (k,v)::l else p::jO l k v
section
variable {α β:Type} [DecidableEq α] {f:α→AV} {g:β→AV}
theorem zGX {l:List (α×β)} {k:α} (h:q8 l k=none):∀ p∈l,p.1≠k:=by
 induction l with
 | nil=>intro p hp;cases hp
 | cons q l ih =>
  unfold q8 at h
  split at h
  ·cases h
  ·rename_i hq
   intro p hp
   rcases List.mem_cons.1 hp with rfl | hp
   ·exact hq
   ·exact ih h p hp
theorem zKf {l:List (α×β)} {k:α} {v:β} (h:q8 l k=some v):∃ (i:Nat) (p:α×β),l[i]?=some p∧p.1=k∧p.2=v∧∀ w,jO l k w=l.set i (k,w):=by
 induction l with
 | nil=>cases h
 | cons q l ih =>
  unfold q8 at h
  split at h
  ·rename_i hq
   injection h with h
   exact ⟨0,q,rfl,hq,h,fun w=>by simp [jO,hq]⟩
  ·rename_i hq
   obtain ⟨i,p,h1,h2,h3,h4⟩:=ih h
   exact ⟨i+1,p,by simpa using h1,h2,h3,fun w=>by simp [jO,hq,h4]⟩
theorem zPv {l:List (α×β)} {k:α} (h:∀ p∈l,p.1≠k) (v:β):jO l k v=l++[(k,v)]:=by
 induction l with
 | nil=>rfl
 | cons q l ih =>
  unfold jO
  rw [if_neg (h q (List.mem_cons_self ..)),ih fun p hp=>h p (List.mem_cons_of_mem _ hp)];rfl
theorem zKp (hf:∀ a b,f a=f b→a=b) (l:List (α×β)) (k:α) (z:β):zIS (l.map (mpE f g)) (f k) (g z) (g ((q8 l k).getD z)) (q8 l k).isSome:=by
 cases h:q8 l k with
 | none =>
  refine .inr ⟨fun x hx=>?_,rfl,rfl⟩
  obtain ⟨p,hp,rfl⟩:=List.mem_map.1 hx
  exact fun e=>zGX h p hp (hf _ _ e)
 | some v =>
  obtain ⟨i,p,h1,h2,h3,_⟩:=zKf h
  exact .inl ⟨i,mpE f g p,by rw [List.getElem?_map,h1];rfl,by simp [mpE,h2],by simp [mpE,h3],rfl⟩
theorem zLU (hf:∀ a b,f a=f b→a=b) (l:List (α×β)) (k:α) (v:β):zLS (l.map (mpE f g)) (f k) (g v) ((jO l k v).map (mpE f g)):=by
 cases h:q8 l k with
 | none =>
  refine .inr ⟨fun x hx=>?_,?_⟩
  ·obtain ⟨p,hp,rfl⟩:=List.mem_map.1 hx
   exact fun e=>zGX h p hp (hf _ _ e)
  ·rw [zPv (zGX h)];simp [mpE]
 | some v0 =>
  obtain ⟨i,p,h1,h2,h3,h4⟩:=zKf h
  exact .inl ⟨i,mpE f g p,by rw [List.getElem?_map,h1];rfl,by simp [mpE,h2],by rw [h4,List.map_set];rfl⟩
omit [DecidableEq α] in
theorem zNS {l:List (α×β)} (h:l.length<140737488355328):(l.map (mpE f g)).length<maxLen:=by
 rw [List.length_map,w7];omega
end
theorem zDT {α:Type} [DecidableEq α] {f:α→AV} (hf:∀ a b,f a=f b→a=b) (a b:α):decide (a=b)=true↔f a=f b:=by
 rw [decide_eq_true_iff];exact ⟨fun h=>by rw [h],hf a b⟩
theorem zNQ:∀ a b:List Int,AV.str a=AV.str b→a=b:=fun _ _ h=>AV.str.inj h
theorem zOv {k:IntKind} {n:Int} (h:k.wrap n=n):(Lit.int k n).wf=true:=by
 have:=zFr h
 simp only [Lit.wf,Bool.and_eq_true,decide_eq_true_eq];exact this
theorem zO4 {P:Program} {k:TypeId} (h:P.underlying k=some .string):nG P k false [.str]:=by
 refine ⟨Maps.string_keyed h,fun w I T v a hr hm=>?_⟩
 cases a<;>simp [pU,kcs,kc] at hm
 cases hr with
 | str h1 h2=>exact ⟨_,by simp [keyOf,h,mapKey,vI,ByteArray.size,h2];rfl⟩
end Go.Ab
