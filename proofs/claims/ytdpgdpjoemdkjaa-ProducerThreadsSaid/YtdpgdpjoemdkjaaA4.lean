/- The operations that only compute, one by one. -/
import Derived.Test.YtdpgdpjoemdkjaaA3
import Derived.Laws.BytesString
import Derived.Laws.Small
import Derived.WideShapes
import Derived.Lib.SliceRun
namespace Go.Ab
open Go
def qV (P:Program) (ρ:Operand→Value) (o:Oper) (w:World) (I:Nat→Prop) (T:Tbl) (av:AV):Prop :=
 ∃ v w',(execOp ρ o).run P w=.ok (.value v) w'∧w.grownBy w' none ∧
  ∀ I' T',(∀ b,I b→b<w.heap.size→I' b)→(∀ b,w.heap.size≤b→b<w'.heap.size→I' b)→T.le T'→Rep w' I' T' v av
theorem xK (w:World):w.grownBy w none:=⟨rfl,rfl,rfl,Nat.le_refl _,fun _ _ _=>rfl⟩
theorem qV.same {P:Program} {ρ:Operand→Value} {o:Oper} {w:World} {I:Nat→Prop} {T:Tbl} {av:AV} {v:Value}
  (h:(execOp ρ o).run P w=.ok (.value v) w) (hr:Rep w I T v av):qV P ρ o w I T av :=
 ⟨v,w,h,xK w,fun _ _ hI _ hT=>hr.mono (Nat.le_refl _) (fun _ _ _=>rfl) hI hT⟩
/-! Operators on integers, truth values and strings. -/
def zFq (op:BinOp) (k:IntKind) (a:Int) (b:Int):Option (List Prop×AV) :=
 match op with
 | .add=>some ([],.int k (k.wrap (a+b)))
 | .sub=>some ([],.int k (k.wrap (a - b)))
 | .mul=>some ([],.int k (k.wrap (a * b)))
 | .quo=>some ([b≠0],.int k (zCf k a b))
 | .rem=>some ([b≠0],.int k (zX a b))
 | .and=>some ([],.int k (wA k a b))
 | .or=>some ([],.int k (ior k a b))
 | .xor=>some ([],.int k (zAV k a b))
 | .andNot=>some ([],.int k (zFi k a b))
 | .eql=>some ([],.bool (a==b))
 | .neq=>some ([],.bool (a != b))
 | .lss=>some ([],.bool (decide (a<b)))
 | .leq=>some ([],.bool (decide (a≤b)))
 | .gtr=>some ([],.bool (decide (a>b)))
 | .geq=>some ([],.bool (decide (a≥b)))
 | _=>none
def kN:List Int→List Int→Bool
 | _,[]=>false
 | [],_::_=>true
 | a::x,b::y=>decide (a<b)||(a==b&&kN x y)
def zD6 (P:Program) (t:TypeId):Bool:=match P.underlying t with | some .bool=>true | _=>false
theorem zKg {P:Program} {t:TypeId} (h:zD6 P t=true):P.underlying t=some .bool:=by
 unfold zD6 at h;split at h<;>simp_all
def zGg (P:Program) (t:TypeId):Bool:=match P.underlying t with | some (.slice _)=>true | _=>false
theorem zLa {P:Program} {t:TypeId} (h:zGg P t=true):∃ e,P.underlying t=some (.slice e):=by
 unfold zGg at h;split at h
 ·rename_i e he;exact ⟨e,he⟩
 ·cases h
def zKJ (P:Program) (op:BinOp) (xT:TypeId) (x y:AV):Option (List Prop×AV) :=
 match x,y with
 | .int k a,.int k' b =>
  match op with
  | .shl=>some ([0≤b],.int k (jG k a b))
  | .shr=>some ([0≤b],.int k (pG k a b))
  | op=>bif zBH k k' then zFq op k a b else none
 | .bool a,.bool b =>
  bif zD6 P xT then
   match op with
   | .eql=>some ([],.bool (a==b))
   | .neq=>some ([],.bool (!(a==b)))
   | _=>none
  else none
 | .str a,.str b =>
  match op with
  | .eql=>some ([],.bool (a==b))
  | .neq=>some ([],.bool (!(a==b)))
  | .lss=>some ([],.bool (kN a b))
  | .leq=>some ([],.bool (kN a b||a==b))
  | .gtr=>some ([],.bool !(kN a b||a==b))
  | .geq=>some ([],.bool !(kN a b))
  | .add=>some ([a.length+b.length≤9223372036854775807],.str (a++b))
  | _=>none
 | .sl _ _ l,.nilsl =>
  match op with
  | .eql=>bif zGg P xT then some ([],.nb l) else none
  | _=>none
 | _,_=>none
theorem zAa (l:List Int):(xC l).toList=l.map fun x=>UInt8.ofNat x.toNat:=by
 rw [ByteArray.toList_eq];simp [xC]
theorem qY (l:List Int):(xC l).size=l.length:=by simp [xC,ByteArray.size]
theorem zKk {a b:Int} (ha:0≤a∧a<256) (hb:0≤b∧b<256):UInt8.ofNat a.toNat=UInt8.ofNat b.toNat↔a=b:=by
 constructor
 ·intro h
  have h1:(UInt8.ofNat a.toNat).toNat=(UInt8.ofNat b.toNat).toNat:=by rw [h]
  simp only [UInt8.toNat_ofNat'] at h1
  omega
 ·intro h;rw [h]
theorem zMB {a b:Int} (ha:0≤a∧a<256) (hb:0≤b∧b<256):(UInt8.ofNat a.toNat<UInt8.ofNat b.toNat)↔a<b:=by
 rw [UInt8.lt_iff_toNat_lt]
 simp only [UInt8.toNat_ofNat']
 omega
theorem zMt {a b:List Int} (ha:∀ x∈a,0≤x∧x<256) (hb:∀ x∈b,0≤x∧x<256) :
  ((xC a).toList==(xC b).toList)=(a==b):=by
 rw [zAa,zAa]
 induction a generalizing b with
 | nil=>cases b<;>simp
 | cons x r ih =>
  cases b with
  | nil=>simp
  | cons y s =>
   have h1:=ih (b:=s) (fun z hz=>ha z (by simp [hz])) (fun z hz=>hb z (by simp [hz]))
   simp only [List.map_cons,List.cons_beq_cons,h1]
   congr 1
   rw [Bool.eq_iff_iff]
   simp only [beq_iff_eq]
   exact zKk (ha x (by simp)) (hb y (by simp))
theorem zK3 {a b:List Int} (ha:∀ x∈a,0≤x∧x<256) (hb:∀ x∈b,0≤x∧x<256) :
  Op.bytesLess (xC a).toList (xC b).toList=kN a b:=by
 rw [zAa,zAa]
 induction a generalizing b with
 | nil=>cases b<;>simp [Op.bytesLess,kN]
 | cons x r ih =>
  cases b with
  | nil=>simp [Op.bytesLess,kN]
  | cons y s =>
   have h1:=ih (b:=s) (fun z hz=>ha z (by simp [hz])) (fun z hz=>hb z (by simp [hz]))
   simp only [List.map_cons,Op.bytesLess,kN,h1]
   have e1:=zKk (ha x (by simp)) (hb y (by simp))
   have e2:=zMB (ha x (by simp)) (hb y (by simp))
   congr 1
   ·rw [Bool.eq_iff_iff];simp only [decide_eq_true_eq];exact e2
   ·congr 1;rw [Bool.eq_iff_iff];simp only [beq_iff_eq];exact e1
theorem wK {P:Program} {op:BinOp} {xT yT:TypeId} {x y:Operand} {ρ:Operand→Value} {o:Oper} {w:World} {X Y v:Value}
  (ho:o.op=.binOp op xT x y yT) (hX:ρ x=X) (hY:ρ y=Y) (hg:(eqGuard op xT x y X Y).run P w=.ok () w) (hb:(binOp op xT X Y).run P w=.ok v w) :
  (execOp ρ o).run P w=.ok (.value v) w:=by
 simp only [execOp,ho,hX,hY,Sem.run_bind,hg,Result.andThen_ok,hb]
 rfl
theorem w7 {P:Program} {op:BinOp} {xT:TypeId} {x y:Operand} {w:World} {X Y:Value} (hX:match X with | .nilIface | .agg _=>False | _=>True) :
  (eqGuard op xT x y X Y).run P w=.ok () w:=by
 unfold eqGuard
 cases X<;>first | exact hX.elim | (cases op<;>cases Y<;>simp)
theorem zGe {P:Program} {op:BinOp} {k:IntKind} {a b:Int} {xT:TypeId} {w:World} {I:Nat→Prop} {T:Tbl} {r:List Prop×AV}
  (h:zFq op k a b=some r) (hv:∀ p∈r.1,p) (wa:k.wrap a=a):∃ v,(binOp op xT (.int k a) (.int k b)).run P w=.ok v w∧Rep w I T v r.2:=by
 cases op<;>simp only [zFq,Option.some.injEq,reduceCtorEq] at h<;>subst h
 case add=>exact ⟨_,by simp [binOp,Op.intArith],.int (vP _ _)⟩
 case sub=>exact ⟨_,by simp [binOp,Op.intArith],.int (vP _ _)⟩
 case mul=>exact ⟨_,by simp [binOp,Op.intArith],.int (vP _ _)⟩
 case and=>exact ⟨.int k (wA k a b),by simp [binOp,Op.intBits,wA],.int (vP _ _)⟩
 case or=>exact ⟨.int k (ior k a b),by simp [binOp,Op.intBits,ior],.int (vP _ _)⟩
 case xor=>exact ⟨.int k (zAV k a b),by simp [binOp,Op.intBits,zAV],.int (vP _ _)⟩
 case andNot=>exact ⟨.int k (zFi k a b),by simp [binOp,Op.intBits,zFi],.int (vP _ _)⟩
 case quo =>
  have h0:b≠0:=hv _ (by simp)
  exact ⟨.int k (zCf k a b),by simp [binOp,Op.intDiv,zCf,h0],.int (vP _ _)⟩
 case rem =>
  have h0:b≠0:=hv _ (by simp)
  exact ⟨.int k (zX a b),by simp [binOp,Op.intDiv,zX,h0],.int (zKc _ _ _ wa)⟩
 all_goals exact ⟨_,by simp [binOp,Op.intCmp],.bool⟩
theorem zI6 {P:Program} {op:BinOp} {xT yT:TypeId} {x y:Operand} {ρ:Operand→Value} {o:Oper} {w:World} {I:Nat→Prop} {T:Tbl} {X Y:AV} {r:List Prop×AV}
  (ho:o.op=.binOp op xT x y yT) (hx:Rep w I T (ρ x) X) (hy:Rep w I T (ρ y) Y) (h:zKJ P op xT X Y=some r) (hv:∀ p∈r.1,p):qV P ρ o w I T r.2:=by
 unfold zKJ at h
 split at h
 ·rename_i k a k' b
  generalize hX:ρ x=vx at hx
  generalize hY:ρ y=vy at hy
  cases hx with
  | int wa =>
  cases hy with
  | int wb =>
  split at h
  ·injection h with h;subst h
   have h0:0≤b:=hv _ (by simp)
   exact .same (wK ho hX hY (w7 trivial) (by simp [binOp,Op.shift,jG,Int.not_lt.2 h0])) (.int (vP _ _))
  ·injection h with h;subst h
   have h0:0≤b:=hv _ (by simp)
   exact .same (wK ho hX hY (w7 trivial) (by simp [binOp,Op.shift,pG,Int.not_lt.2 h0])) (.int (zJ9 _ _ _ wa))
  ·rename_i hns hnr
   cases hk:zBH k k'
   ·rw [hk] at h;cases h
   ·rw [hk] at h
    have:=zFO hk
    subst this
    simp only [cond_true] at h
    obtain ⟨v,h1,h2⟩:=zGe (P:=P) (xT:=xT) (w:=w) (I:=I) (T:=T) h hv wa
    exact .same (wK ho hX hY (w7 trivial) h1) h2
 ·rename_i a b
  generalize hX:ρ x=vx at hx
  generalize hY:ρ y=vy at hy
  cases hx with
  | bool =>
  cases hy with
  | bool =>
  cases hb:zD6 P xT
  ·rw [hb] at h;cases h
  ·rw [hb] at h
   simp only [cond_true] at h
   have ht:=zKg hb
   split at h<;>first | (injection h with h;subst h) | cases h
   ·exact .same (wK ho hX hY (w7 trivial) (run_eql_bool w xT a b ht)) .bool
   ·exact .same (wK ho hX hY (w7 trivial) (run_neq_bool w xT a b ht)) .bool
 ·rename_i a b
  generalize hX:ρ x=vx at hx
  generalize hY:ρ y=vy at hy
  cases hx with
  | str ra la =>
  cases hy with
  | str rb lb =>
  have e1:=zMt ra rb
  have e2:=zK3 ra rb
  split at h<;>first | (injection h with h;subst h) | cases h
  iterate 6 (exact .same (wK ho hX hY (w7 trivial) (by simp only [binOp,Op.stringOp,e1,e2];rfl)) .bool)
  have h0:a.length+b.length≤9223372036854775807:=hv _ (by simp)
  refine .same (wK (v:=.string (xC (a++b))) ho hX hY (w7 trivial) ?_) (.str (fun z hz=>?_) (by rw [y4];simpa using h0))
  ·have:¬ ((((xC a).size+(xC b).size:Nat):Int)>IntKind.i64.max):=by
    rw [qY,qY]
    have:IntKind.i64.max=9223372036854775807:=by decide
    omega
   have hcat:xC a++xC b=xC (a++b):=by
    simp only [xC,List.map_append]
    apply WideShapes.bytes_inj
    simp
   simp only [binOp,Op.stringOp,this,hcat]
   simp
  ·rcases List.mem_append.1 hz with h | h
   ·exact ra z h
   ·exact rb z h
 ·rename_i f sz l
  split at h
  case h_2=>cases h
  cases hs:zGg P xT
  ·rw [hs] at h;cases h
  rw [hs] at h;injection h with h;subst h
  obtain ⟨e,he⟩:=zLa hs
  generalize hX:ρ x=vx at hx
  generalize hY:ρ y=vy at hy
  have hy':vy=.slice none 0 0:=by
   generalize hn:AV.nilsl=n at hy
   cases hy<;>first | rfl | cases hn
  subst hy'
  cases hx with
  | sl0 h1 h2=>exact .same (wK ho hX hY (w7 trivial) (Lib.run_eql_slice_nil w xT e _ _ _ _ _ he)) (.nb fun _=>rfl)
  | sl g h1=>exact .same (wK ho hX hY (w7 trivial) (Lib.run_eql_slice_nil w xT e _ _ _ _ _ he)) (.nb fun h=>by cases h)
 ·cases h
def vun (op:UnOp) (x:AV):Option (List Prop×AV) :=
 match op,x with
 | .neg,.int k n=>some ([],.int k (k.wrap (0 - n)))
 | .xor,.int k n=>some ([],.int k (zAV k (if k.signed then -1 else k.max) n))
 | .not,.bool b=>some ([],.bool !b)
 | _,_=>none
theorem zJE {P:Program} {op:UnOp} {xT:TypeId} {x:Operand} {ρ:Operand→Value} {o:Oper} {w:World} {I:Nat→Prop} {T:Tbl} {X:AV} {r:List Prop×AV}
  (ho:o.op=.unOp op xT x) (hx:Rep w I T (ρ x) X) (h:vun op X=some r):qV P ρ o w I T r.2:=by
 unfold vun at h
 generalize hX:ρ x=vx at hx
 split at h<;>first | (injection h with h;subst h) | cases h
 ·cases hx with
  | int wa=>exact .same (by simp [execOp,ho,hX,Op.unary,Op.intArith]) (.int (vP _ _))
 ·cases hx with
  | int wa=>exact .same (by simp [execOp,ho,hX,Op.unary,Op.intBits,zAV]) (.int (vP _ _))
 ·cases hx with
  | bool=>exact .same (by simp [execOp,ho,hX,Op.unary]) .bool
end Go.Ab
