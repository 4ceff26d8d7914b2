/- The operations that only compute, one by one. -/
import Derived.Test.YtlnlcciflpncmaaA3
import Derived.Laws.BytesString
import Derived.Laws.Small
import Derived.WideShapes
import Derived.Lib.SliceRun
namespace Go.Ab
open Go
def pA (P:Program) (ρ:Operand→Value) (o:Oper) (w:World) (I:Nat→Prop) (T:Tbl) (av:AV):Prop :=
 ∃ v w',(execOp ρ o).run P w=.ok (.value v) w'∧w.grownBy w' none ∧
  ∀ I' T',(∀ b,I b→b<w.heap.size→I' b)→(∀ b,w.heap.size≤b→b<w'.heap.size→I' b)→T.le T'→Rep w' I' T' v av
theorem wK (w:World):w.grownBy w none:=⟨rfl,rfl,rfl,Nat.le_refl _,fun _ _ _=>rfl⟩
theorem pA.same {P:Program} {ρ:Operand→Value} {o:Oper} {w:World} {I:Nat→Prop} {T:Tbl} {av:AV} {v:Value}
  (h:(execOp ρ o).run P w=.ok (.value v) w) (hr:Rep w I T v av):pA P ρ o w I T av :=
 ⟨v,w,h,wK w,fun _ _ hI _ hT=>hr.mono (Nat.le_refl _) (fun _ _ _=>rfl) hI hT⟩
/-! Operators on integers, truth values and strings. -/
def zHg (op:BinOp) (k:IntKind) (a:Int) (b:Int):Option (List Prop×AV) :=
 match op with
 | .add=>some ([],.int k (k.wrap (a+b)))
 | .sub=>some ([],.int k (k.wrap (a - b)))
 | .mul=>some ([],.int k (k.wrap (a * b)))
 | .quo=>some ([b≠0],.int k (zCu k a b))
 | .rem=>some ([b≠0],.int k (vC a b))
 | .and=>some ([],.int k (vG k a b))
 | .or=>some ([],.int k (ior k a b))
 | .xor=>some ([],.int k (zAL k a b))
 | .andNot=>some ([],.int k (zHj k a b))
 | .eql=>some ([],.bool (a==b))
 | .neq=>some ([],.bool (a != b))
 | .lss=>some ([],.bool (decide (a<b)))
 | .leq=>some ([],.bool (decide (a≤b)))
 | .gtr=>some ([],.bool (decide (a>b)))
 | .geq=>some ([],.bool (decide (a≥b)))
 | _=>none
def zAf:List Int→List Int→Bool
 | _,[]=>false
 | [],_::_=>true
 | a::x,b::y=>decide (a<b)||(a==b&&zAf x y)
def zGK (P:Program) (t:TypeId):Bool:=match P.underlying t with | some .bool=>true | _=>false
theorem zLH {P:Program} {t:TypeId} (h:zGK P t=true):P.underlying t=some .bool:=by
 unfold zGK at h;split at h<;>simp_all
def zIC (P:Program) (t:TypeId):Bool:=match P.underlying t with | some (.slice _)=>true | _=>false
theorem zNc {P:Program} {t:TypeId} (h:zIC P t=true):∃ e,P.underlying t=some (.slice e):=by
 unfold zIC at h;split at h
 ·rename_i e he;exact ⟨e,he⟩
 ·cases h
def zM6 (P:Program) (op:BinOp) (xT:TypeId) (x y:AV):Option (List Prop×AV) :=
 match x,y with
 | .int k a,.int k' b =>
  match op with
  | .shl=>some ([0≤b],.int k (kL k a b))
  | .shr=>some ([0≤b],.int k (nJ k a b))
  | op=>bif zDh k k' then zHg op k a b else none
 | .bool a,.bool b =>
  bif zGK P xT then
   match op with
   | .eql=>some ([],.bool (a==b))
   | .neq=>some ([],.bool (!(a==b)))
   | _=>none
  else none
 | .str a,.str b =>
  match op with
  | .eql=>some ([],.bool (a==b))
  | .neq=>some ([],.bool (!(a==b)))
  | .lss=>some ([],.bool (zAf a b))
  | .leq=>some ([],.bool (zAf a b||a==b))
  | .gtr=>some ([],.bool !(zAf a b||a==b))
  | .geq=>some ([],.bool !(zAf a b))
  | .add=>some ([a.length+b.length≤9223372036854775807],.str (a++b))
  | _=>none
 | .sl _ _ l,.nilsl =>
  match op with
  | .eql=>bif zIC P xT then some ([],.nb l) else none
  | _=>none
 | _,_=>none
theorem zBy (l:List Int):(x7 l).toList=l.map fun x=>UInt8.ofNat x.toNat:=by
 rw [ByteArray.toList_eq];simp [x7]
theorem pG (l:List Int):(x7 l).size=l.length:=by simp [x7,ByteArray.size]
theorem zL6 {a b:Int} (ha:0≤a∧a<256) (hb:0≤b∧b<256):UInt8.ofNat a.toNat=UInt8.ofNat b.toNat↔a=b:=by
 constructor
 ·intro h
  have h1:(UInt8.ofNat a.toNat).toNat=(UInt8.ofNat b.toNat).toNat:=by rw [h]
  simp only [UInt8.toNat_ofNat'] at h1
  omega
 ·intro h;rw [h]
theorem zN9 {a b:Int} (ha:0≤a∧a<256) (hb:0≤b∧b<256):(UInt8.ofNat a.toNat<UInt8.ofNat b.toNat)↔a<b:=by
 rw [UInt8.lt_iff_toNat_lt]
 simp only [UInt8.toNat_ofNat']
 omega
theorem zNT {a b:List Int} (ha:∀ x∈a,0≤x∧x<256) (hb:∀ x∈b,0≤x∧x<256) :
  ((x7 a).toList==(x7 b).toList)=(a==b):=by
 rw [zBy,zBy]
 induction a generalizing b with
 | nil=>cases b<;>simp
 | cons x r ih =>
  cases b with
  | nil=>simp
  | cons y s =>
   have h1:=ih (b:=s) (fun z hz=>ha z (by simp [hz])) (fun z hz=>hb z (by simp [hz]))
   simp only [List.map_cons,List.cons_beq_cons,h1]
   congr 1
   rw [Bool.eq_iff_iff]
   simp only [beq_iff_eq]
   exact zL6 (ha x (by simp)) (hb y (by simp))
theorem zMT {a b:List Int} (ha:∀ x∈a,0≤x∧x<256) (hb:∀ x∈b,0≤x∧x<256) :
  Op.bytesLess (x7 a).toList (x7 b).toList=zAf a b:=by
 rw [zBy,zBy]
 induction a generalizing b with
 | nil=>cases b<;>simp [Op.bytesLess,zAf]
 | cons x r ih =>
  cases b with
  | nil=>simp [Op.bytesLess,zAf]
  | cons y s =>
   have h1:=ih (b:=s) (fun z hz=>ha z (by simp [hz])) (fun z hz=>hb z (by simp [hz]))
   simp only [List.map_cons,Op.bytesLess,zAf,h1]
   have e1:=zL6 (ha x (by simp)) (hb y (by simp))
   have e2:=zN9 (ha x (by simp)) (hb y (by simp))
   congr 1
   ·rw [Bool.eq_iff_iff];simp only [decide_eq_true_eq];exact e2
   ·congr 1;rw [Bool.eq_iff_iff];simp only [beq_iff_eq];exact e1
theorem v4 {P:Program} {op:BinOp} {xT yT:TypeId} {x y:Operand} {ρ:Operand→Value} {o:Oper} {w:World} {X Y v:Value}
  (ho:o.op=.binOp op xT x y yT) (hX:ρ x=X) (hY:ρ y=Y) (hg:(eqGuard op xT x y X Y).run P w=.ok () w) (hb:(binOp op xT X Y).run P w=.ok v w) :
  (execOp ρ o).run P w=.ok (.value v) w:=by
 simp only [execOp,ho,hX,hY,Sem.run_bind,hg,Result.andThen_ok,hb]
 rfl
theorem u3 {P:Program} {op:BinOp} {xT:TypeId} {x y:Operand} {w:World} {X Y:Value} (hX:match X with | .nilIface | .agg _=>False | _=>True) :
  (eqGuard op xT x y X Y).run P w=.ok () w:=by
 unfold eqGuard
 cases X<;>first | exact hX.elim | (cases op<;>cases Y<;>simp)
theorem zH7 {P:Program} {op:BinOp} {k:IntKind} {a b:Int} {xT:TypeId} {w:World} {I:Nat→Prop} {T:Tbl} {r:List Prop×AV}
  (h:zHg op k a b=some r) (hv:∀ p∈r.1,p) (wa:k.wrap a=a):∃ v,(binOp op xT (.int k a) (.int k b)).run P w=.ok v w∧Rep w I T v r.2:=by
 cases op<;>simp only [zHg,Option.some.injEq,reduceCtorEq] at h<;>subst h
 case add=>exact ⟨_,by simp [binOp,Op.intArith],.int (tX _ _)⟩
 case sub=>exact ⟨_,by simp [binOp,Op.intArith],.int (tX _ _)⟩
 case mul=>exact ⟨_,by simp [binOp,Op.intArith],.int (tX _ _)⟩
 case and=>exact ⟨.int k (vG k a b),by simp [binOp,Op.intBits,vG],.int (tX _ _)⟩
 case or=>exact ⟨.int k (ior k a b),by simp [binOp,Op.intBits,ior],.int (tX _ _)⟩
 case xor=>exact ⟨.int k (zAL k a b),by simp [binOp,Op.intBits,zAL],.int (tX _ _)⟩
 case andNot=>exact ⟨.int k (zHj k a b),by simp [binOp,Op.intBits,zHj],.int (tX _ _)⟩
 case quo =>
  have h0:b≠0:=hv _ (by simp)
  exact ⟨.int k (zCu k a b),by simp [binOp,Op.intDiv,zCu,h0],.int (tX _ _)⟩
 case rem =>
  have h0:b≠0:=hv _ (by simp)
  exact ⟨.int k (vC a b),by simp [binOp,Op.intDiv,vC,h0],.int (zLI _ _ _ wa)⟩
 all_goals exact ⟨_,by simp [binOp,Op.intCmp],.bool⟩
theorem zK1 {P:Program} {op:BinOp} {xT yT:TypeId} {x y:Operand} {ρ:Operand→Value} {o:Oper} {w:World} {I:Nat→Prop} {T:Tbl} {X Y:AV} {r:List Prop×AV}
  (ho:o.op=.binOp op xT x y yT) (hx:Rep w I T (ρ x) X) (hy:Rep w I T (ρ y) Y) (h:zM6 P op xT X Y=some r) (hv:∀ p∈r.1,p):pA P ρ o w I T r.2:=by
 unfold zM6 at h
 split at h
 ·rename_i k a k' b
  generalize hX:ρ x=vx at hx
  generalize hY:ρ y=vy at hy
  cases hx with
  | int wa =>
  cases hy with
  | int wb =>
  split at h
  ·injection h with h;subst h
   have h0:0≤b:=hv _ (by simp)
   exact .same (v4 ho hX hY (u3 trivial) (by simp [binOp,Op.shift,kL,Int.not_lt.2 h0])) (.int (tX _ _))
  ·injection h with h;subst h
   have h0:0≤b:=hv _ (by simp)
   exact .same (v4 ho hX hY (u3 trivial) (by simp [binOp,Op.shift,nJ,Int.not_lt.2 h0])) (.int (zLU _ _ _ wa))
  ·rename_i hns hnr
   cases hk:zDh k k'
   ·rw [hk] at h;cases h
   ·rw [hk] at h
    have:=zHO hk
    subst this
    simp only [cond_true] at h
    obtain ⟨v,h1,h2⟩:=zH7 (P:=P) (xT:=xT) (w:=w) (I:=I) (T:=T) h hv wa
    exact .same (v4 ho hX hY (u3 trivial) h1) h2
 ·rename_i a b
  generalize hX:ρ x=vx at hx
  generalize hY:ρ y=vy at hy
  cases hx with
  | bool =>
  cases hy with
  | bool =>
  cases hb:zGK P xT
  ·rw [hb] at h;cases h
  ·rw [hb] at h
   simp only [cond_true] at h
   have ht:=zLH hb
   split at h<;>first | (injection h with h;subst h) | cases h
   ·exact .same (v4 ho hX hY (u3 trivial) (run_eql_bool w xT a b ht)) .bool
   ·exact .same (v4 ho hX hY (u3 trivial) (run_neq_bool w xT a b ht)) .bool
 ·rename_i a b
  generalize hX:ρ x=vx at hx
  generalize hY:ρ y=vy at hy
  cases hx with
  | str ra la =>
  cases hy with
  | str rb lb =>
  have e1:=zNT ra rb
  have e2:=zMT ra rb
  split at h<;>first | (injection h with h;subst h) | cases h
  iterate 6 (exact .same (v4 ho hX hY (u3 trivial) (by simp only [binOp,Op.stringOp,e1,e2];rfl)) .bool)
  have h0:a.length+b.length≤9223372036854775807:=hv _ (by simp)
  refine .same (v4 (v:=.string (x7 (a++b))) ho hX hY (u3 trivial) ?_) (.str (fun z hz=>?_) (by rw [xR];simpa using h0))
  ·have:¬ ((((x7 a).size+(x7 b).size:Nat):Int)>IntKind.i64.max):=by
    rw [pG,pG]
    have:IntKind.i64.max=9223372036854775807:=by decide
    omega
   have hcat:x7 a++x7 b=x7 (a++b):=by
    simp only [x7,List.map_append]
    apply WideShapes.bytes_inj
    simp
   simp only [binOp,Op.stringOp,this,hcat]
   simp
  ·rcases List.mem_append.1 hz with h | h
   ·exact ra z h
   ·exact rb z h
 ·rename_i f sz l
  split at h
  case h_2=>cases h
  cases hs:zIC P xT
  ·rw [hs] at h;cases h
  rw [hs] at h;injection h with h;subst h
  obtain ⟨e,he⟩:=zNc hs
  generalize hX:ρ x=vx at hx
  generalize hY:ρ y=vy at hy
  have hy':vy=.slice none 0 0:=by
   generalize hn:AV.nilsl=n at hy
   cases hy<;>first | rfl | cases hn
  subst hy'
  cases hx with
  | sl0 h1 h2=>exact .same (v4 ho hX hY (u3 trivial) (Lib.run_eql_slice_nil w xT e _ _ _ _ _ he)) (.nb fun _=>rfl)
  | sl g h1=>exact .same (v4 ho hX hY (u3 trivial) (Lib.run_eql_slice_nil w xT e _ _ _ _ _ he)) (.nb fun h=>by cases h)
 ·cases h
def vun (op:UnOp) (x:AV):Option (List Prop×AV) :=
 match op,x with
 | .neg,.int k n=>some ([],.int k (k.wrap (0 - n)))
 | .xor,.int k n=>some ([],.int k (zAL k (if k.signed then -1 else k.max) n))
 | .not,.bool b=>some ([],.bool !b)
 | _,_=>none
theorem zMr {P:Program} {op:UnOp} {xT:TypeId} {x:Operand} {ρ:Operand→Value} {o:Oper} {w:World} {I:Nat→Prop} {T:Tbl} {X:AV} {r:List Prop×AV}
  (ho:o.op=.unOp op xT x) (hx:Rep w I T (ρ x) X) (h:vun op X=some r):pA P ρ o w I T r.2:=by
 unfold vun at h
 generalize hX:ρ x=vx at hx
 split at h<;>first | (injection h with h;subst h) | cases h
 ·cases hx with
  | int wa=>exact .same (by simp [execOp,ho,hX,Op.unary,Op.intArith]) (.int (tX _ _))
 ·cases hx with
  | int wa=>exact .same (by simp [execOp,ho,hX,Op.unary,Op.intBits,zAL]) (.int (tX _ _))
 ·cases hx with
  | bool=>exact .same (by simp [execOp,ho,hX,Op.unary]) .bool
end Go.Ab
