/- The operations that only compute, one by one. -/
import Derived.Test.YtdpgdpjoemdkjaaA3
import Derived.Laws.BytesString
import Derived.Laws.Small
import Derived.WideShapes
import Derived.Lib.SliceRun
namespace Go.Ab
open Go
def zAw (P:Program) (ρ:Operand→Value) (o:Oper) (w:World) (I:Nat→Prop) (T:Tbl) (av:AV):Prop :=
 ∃ v w',(execOp ρ o).run P w=.ok (.value v) w'∧w.grownBy w' none ∧
  ∀ I' T',(∀ b,I b→b<w.heap.size→I' b)→(∀ b,w.heap.size≤b→b<w'.heap.size→I' b)→T.le T'→Rep w' I' T' v av
theorem uJ (w:World):w.grownBy w none:=⟨rfl,rfl,rfl,Nat.le_refl _,fun _ _ _=>rfl⟩
theorem zAw.same {P:Program} {ρ:Operand→Value} {o:Oper} {w:World} {I:Nat→Prop} {T:Tbl} {av:AV} {v:Value}
  (h:(execOp ρ o).run P w=.ok (.value v) w) (hr:Rep w I T v av):zAw P ρ o w I T av :=
 ⟨v,w,h,uJ w,fun _ _ hI _ hT=>hr.mono (Nat.le_refl _) (fun _ _ _=>rfl) hI hT⟩
/-! Operators on integers, truth values and strings. -/
def zJ0 (op:BinOp) (k:IntKind) (a:Int) (b:Int):Option (List Prop×AV) :=
 match op with
 | .add=>some ([],.int k (k.wrap (a+b)))
 | .sub=>some ([],.int k (k.wrap (a - b)))
 | .mul=>some ([],.int k (k.wrap (a * b)))
 | .quo=>some ([b≠0],.int k (zEZ k a b))
 | .rem=>some ([b≠0],.int k (yQ a b))
 | .and=>some ([],.int k (tC k a b))
 | .or=>some ([],.int k (ior k a b))
 | .xor=>some ([],.int k (zCD k a b))
 | .andNot=>some ([],.int k (zKi k a b))
 | .eql=>some ([],.bool (a==b))
 | .neq=>some ([],.bool (a != b))
 | .lss=>some ([],.bool (decide (a<b)))
 | .leq=>some ([],.bool (decide (a≤b)))
 | .gtr=>some ([],.bool (decide (a>b)))
 | .geq=>some ([],.bool (decide (a≥b)))
 | _=>none
def zBK:List Int→List Int→Bool
 | _,[]=>false
 | [],_::_=>true
 | a::x,b::y=>decide (a<b)||(a==b&&zBK x y)
def zIS (P:Program) (t:TypeId):Bool:=match P.underlying t with | some .bool=>true | _=>false
theorem zQc {P:Program} {t:TypeId} (h:zIS P t=true):P.underlying t=some .bool:=by
 unfold zIS at h;split at h<;>simp_all
def zLs (P:Program) (t:TypeId):Bool:=match P.underlying t with | some (.slice _)=>true | _=>false
theorem zQg {P:Program} {t:TypeId} (h:zLs P t=true):∃ e,P.underlying t=some (.slice e):=by
 unfold zLs at h;split at h
 ·rename_i e he;exact ⟨e,he⟩
 ·cases h
def zQV (P:Program) (op:BinOp) (xT:TypeId) (x y:AV):Option (List Prop×AV) :=
 match x,y with
 | .int k a,.int k' b =>
  match op with
  | .shl=>some ([0≤b],.int k (zAf k a b))
  | .shr=>some ([0≤b],.int k (zBl k a b))
  | op=>bif zFO k k' then zJ0 op k a b else none
 | .bool a,.bool b =>
  bif zIS P xT then
   match op with
   | .eql=>some ([],.bool (a==b))
   | .neq=>some ([],.bool (!(a==b)))
   | _=>none
  else none
 | .str a,.str b =>
  match op with
  | .eql=>some ([],.bool (a==b))
  | .neq=>some ([],.bool (!(a==b)))
  | .lss=>some ([],.bool (zBK a b))
  | .leq=>some ([],.bool (zBK a b||a==b))
  | .gtr=>some ([],.bool !(zBK a b||a==b))
  | .geq=>some ([],.bool !(zBK a b))
  | .add=>some ([a.length+b.length≤9223372036854775807],.str (a++b))
  | _=>none
 | .sl _ _ l,.nilsl =>
  match op with
  | .eql=>bif zLs P xT then some ([],.nb l) else none
  | _=>none
 | _,_=>none
theorem zDG (l:List Int):(v9 l).toList=l.map fun x=>UInt8.ofNat x.toNat:=by
 rw [ByteArray.toList_eq];simp [v9]
theorem zAN (l:List Int):(v9 l).size=l.length:=by simp [v9,ByteArray.size]
theorem zPv {a b:Int} (ha:0≤a∧a<256) (hb:0≤b∧b<256):UInt8.ofNat a.toNat=UInt8.ofNat b.toNat↔a=b:=by
 constructor
 ·intro h
  have h1:(UInt8.ofNat a.toNat).toNat=(UInt8.ofNat b.toNat).toNat:=by rw [h]
  simp only [UInt8.toNat_ofNat'] at h1
  omega
 ·intro h;rw [h]
theorem zSp {a b:Int} (ha:0≤a∧a<256) (hb:0≤b∧b<256):(UInt8.ofNat a.toNat<UInt8.ofNat b.toNat)↔a<b:=by
 rw [UInt8.lt_iff_toNat_lt]
 simp only [UInt8.toNat_ofNat']
 omega
theorem zR0 {a b:List Int} (ha:∀ x∈a,0≤x∧x<256) (hb:∀ x∈b,0≤x∧x<256) :
  ((v9 a).toList==(v9 b).toList)=(a==b):=by
 rw [zDG,zDG]
 induction a generalizing b with
 | nil=>cases b<;>simp
 | cons x r ih =>
  cases b with
  | nil=>simp
  | cons y s =>
   have h1:=ih (b:=s) (fun z hz=>ha z (by simp [hz])) (fun z hz=>hb z (by simp [hz]))
   simp only [List.map_cons,List.cons_beq_cons,h1]
   congr 1
   rw [Bool.eq_iff_iff]
   simp only [beq_iff_eq]
   exact zPv (ha x (by simp)) (hb y (by simp))
theorem zQr {a b:List Int} (ha:∀ x∈a,0≤x∧x<256) (hb:∀ x∈b,0≤x∧x<256) :
  Op.bytesLess (v9 a).toList (v9 b).toList=zBK a b:=by
 rw [zDG,zDG]
 induction a generalizing b with
 | nil=>cases b<;>simp [Op.bytesLess,zBK]
 | cons x r ih =>
  cases b with
  | nil=>simp [Op.bytesLess,zBK]
  | cons y s =>
   have h1:=ih (b:=s) (fun z hz=>ha z (by simp [hz])) (fun z hz=>hb z (by simp [hz]))
   simp only [List.map_cons,Op.bytesLess,zBK,h1]
   have e1:=zPv (ha x (by simp)) (hb y (by simp))
   have e2:=zSp (ha x (by simp)) (hb y (by simp))
   congr 1
   ·rw [Bool.eq_iff_iff];simp only [decide_eq_true_eq];exact e2
   ·congr 1;rw [Bool.eq_iff_iff];simp only [beq_iff_eq];exact e1
theorem t7 {P:Program} {op:BinOp} {xT yT:TypeId} {x y:Operand} {ρ:Operand→Value} {o:Oper} {w:World} {X Y v:Value}
  (ho:o.op=.binOp op xT x y yT) (hX:ρ x=X) (hY:ρ y=Y) (hg:(eqGuard op xT x y X Y).run P w=.ok () w) (hb:(binOp op xT X Y).run P w=.ok v w) :
  (execOp ρ o).run P w=.ok (.value v) w:=by
 simp only [execOp,ho,hX,hY,Sem.run_bind,hg,Result.andThen_ok,hb]
 rfl
theorem jD {P:Program} {op:BinOp} {xT:TypeId} {x y:Operand} {w:World} {X Y:Value} (hX:match X with | .nilIface | .agg _=>False | _=>True) :
  (eqGuard op xT x y X Y).run P w=.ok () w:=by
 unfold eqGuard
 cases X<;>first | exact hX.elim | (cases op<;>cases Y<;>simp)
theorem zLb {P:Program} {op:BinOp} {k:IntKind} {a b:Int} {xT:TypeId} {w:World} {I:Nat→Prop} {T:Tbl} {r:List Prop×AV}
  (h:zJ0 op k a b=some r) (hv:∀ p∈r.1,p) (wa:k.wrap a=a):∃ v,(binOp op xT (.int k a) (.int k b)).run P w=.ok v w∧Rep w I T v r.2:=by
 cases op<;>simp only [zJ0,Option.some.injEq,reduceCtorEq] at h<;>subst h
 case add=>exact ⟨_,by simp [binOp,Op.intArith],.int (kD _ _)⟩
 case sub=>exact ⟨_,by simp [binOp,Op.intArith],.int (kD _ _)⟩
 case mul=>exact ⟨_,by simp [binOp,Op.intArith],.int (kD _ _)⟩
 case and=>exact ⟨.int k (tC k a b),by simp [binOp,Op.intBits,tC],.int (kD _ _)⟩
 case or=>exact ⟨.int k (ior k a b),by simp [binOp,Op.intBits,ior],.int (kD _ _)⟩
 case xor=>exact ⟨.int k (zCD k a b),by simp [binOp,Op.intBits,zCD],.int (kD _ _)⟩
 case andNot=>exact ⟨.int k (zKi k a b),by simp [binOp,Op.intBits,zKi],.int (kD _ _)⟩
 case quo =>
  have h0:b≠0:=hv _ (by simp)
  exact ⟨.int k (zEZ k a b),by simp [binOp,Op.intDiv,zEZ,h0],.int (kD _ _)⟩
 case rem =>
  have h0:b≠0:=hv _ (by simp)
  exact ⟨.int k (yQ a b),by simp [binOp,Op.intDiv,yQ,h0],.int (zQe _ _ _ wa)⟩
 all_goals exact ⟨_,by simp [binOp,Op.intCmp],.bool⟩
theorem zOs {P:Program} {op:BinOp} {xT yT:TypeId} {x y:Operand} {ρ:Operand→Value} {o:Oper} {w:World} {I:Nat→Prop} {T:Tbl} {X Y:AV} {r:List Prop×AV}
  (ho:o.op=.binOp op xT x y yT) (hx:Rep w I T (ρ x) X) (hy:Rep w I T (ρ y) Y) (h:zQV P op xT X Y=some r) (hv:∀ p∈r.1,p):zAw P ρ o w I T r.2:=by
 unfold zQV at h
 split at h
 ·rename_i k a k' b
  generalize hX:ρ x=vx at hx
  generalize hY:ρ y=vy at hy
  cases hx with
  | int wa =>
  cases hy with
  | int wb =>
  split at h
  ·injection h with h;subst h
   have h0:0≤b:=hv _ (by simp)
   exact .same (t7 ho hX hY (jD trivial) (by simp [binOp,Op.shift,zAf,Int.not_lt.2 h0])) (.int (kD _ _))
  ·injection h with h;subst h
   have h0:0≤b:=hv _ (by simp)
   exact .same (t7 ho hX hY (jD trivial) (by simp [binOp,Op.shift,zBl,Int.not_lt.2 h0])) (.int (zPs _ _ _ wa))
  ·rename_i hns hnr
   cases hk:zFO k k'
   ·rw [hk] at h;cases h
   ·rw [hk] at h
    have:=zKC hk
    subst this
    simp only [cond_true] at h
    obtain ⟨v,h1,h2⟩:=zLb (P:=P) (xT:=xT) (w:=w) (I:=I) (T:=T) h hv wa
    exact .same (t7 ho hX hY (jD trivial) h1) h2
 ·rename_i a b
  generalize hX:ρ x=vx at hx
  generalize hY:ρ y=vy at hy
  cases hx with
  | bool =>
  cases hy with
  | bool =>
  cases hb:zIS P xT
  ·rw [hb] at h;cases h
  ·rw [hb] at h
   simp only [cond_true] at h
   have ht:=zQc hb
   split at h<;>first | (injection h with h;subst h) | cases h
   ·exact .same (t7 ho hX hY (jD trivial) (run_eql_bool w xT a b ht)) .bool
   ·exact .same (t7 ho hX hY (jD trivial) (run_neq_bool w xT a b ht)) .bool
 ·rename_i a b
  generalize hX:ρ x=vx at hx
  generalize hY:ρ y=vy at hy
  cases hx with
  | str ra la =>
  cases hy with
  | str rb lb =>
  have e1:=zR0 ra rb
  have e2:=zQr ra rb
  split at h<;>first | (injection h with h;subst h) | cases h
  iterate 6 (exact .same (t7 ho hX hY (jD trivial) (by simp only [binOp,Op.stringOp,e1,e2];rfl)) .bool)
  have h0:a.length+b.length≤9223372036854775807:=hv _ (by simp)
  refine .same (t7 (v:=.string (v9 (a++b))) ho hX hY (jD trivial) ?_) (.str (fun z hz=>?_) (by rw [vT];simpa using h0))
  ·have:¬ ((((v9 a).size+(v9 b).size:Nat):Int)>IntKind.i64.max):=by
    rw [zAN,zAN]
    have:IntKind.i64.max=9223372036854775807:=by decide
    omega
   have hcat:v9 a++v9 b=v9 (a++b):=by
    simp only [v9,List.map_append]
    apply WideShapes.bytes_inj
    simp
   simp only [binOp,Op.stringOp,this,hcat]
   simp
  ·rcases List.mem_append.1 hz with h | h
   ·exact ra z h
   ·exact rb z h
 ·rename_i f sz l
  split at h
  case h_2=>cases h
  cases hs:zLs P xT
  ·rw [hs] at h;cases h
  rw [hs] at h;injection h with h;subst h
  obtain ⟨e,he⟩:=zQg hs
  generalize hX:ρ x=vx at hx
  generalize hY:ρ y=vy at hy
  have hy':vy=.slice none 0 0:=by
   generalize hn:AV.nilsl=n at hy
   cases hy<;>first | rfl | cases hn
  subst hy'
  cases hx with
  | sl0 h1 h2=>exact .same (t7 ho hX hY (jD trivial) (Lib.run_eql_slice_nil w xT e _ _ _ _ _ he)) (.nb fun _=>rfl)
  | sl g h1=>exact .same (t7 ho hX hY (jD trivial) (Lib.run_eql_slice_nil w xT e _ _ _ _ _ he)) (.nb fun h=>by cases h)
 ·cases h
def vun (op:UnOp) (x:AV):Option (List Prop×AV) :=
 match op,x with
 | .neg,.int k n=>some ([],.int k (k.wrap (0 - n)))
 | .xor,.int k n=>some ([],.int k (zCD k (if k.signed then -1 else k.max) n))
 | .not,.bool b=>some ([],.bool !b)
 | _,_=>none
theorem zP4 {P:Program} {op:UnOp} {xT:TypeId} {x:Operand} {ρ:Operand→Value} {o:Oper} {w:World} {I:Nat→Prop} {T:Tbl} {X:AV} {r:List Prop×AV}
  (ho:o.op=.unOp op xT x) (hx:Rep w I T (ρ x) X) (h:vun op X=some r):zAw P ρ o w I T r.2:=by
 unfold vun at h
 generalize hX:ρ x=vx at hx
 split at h<;>first | (injection h with h;subst h) | cases h
 ·cases hx with
  | int wa=>exact .same (by simp [execOp,ho,hX,Op.unary,Op.intArith]) (.int (kD _ _))
 ·cases hx with
  | int wa=>exact .same (by simp [execOp,ho,hX,Op.unary,Op.intBits,zCD]) (.int (kD _ _))
 ·cases hx with
  | bool=>exact .same (by simp [execOp,ho,hX,Op.unary]) .bool
end Go.Ab
