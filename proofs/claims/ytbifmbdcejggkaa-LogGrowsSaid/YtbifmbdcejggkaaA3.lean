/- A layer over the model: abstract values and states, and the rules by which the printed proofs go. No conditions. -/
import Derived.Test.YtbifmbdcejggkaaA2
import Derived.Laws.BytesString
import Derived.Laws.Small
import Derived.WideShapes
import Derived.Lib.SliceRun
/- What the operations that only compute give: integers, truth values, strings, conversions, parts of values, places. -/
namespace Go.Ab
open Go

structure xK where
  id:Nat:=0
  n:Nat:=0
  z:Int:=0
  m:Nat:=0
  b:Bool:=false
  av:AV:=.junk
  l:List AV:=[]
  s:List Int:=[]
  ids:List Nat:=[]
  pre:List Box:=[]
  post:List Box:=[]
  lend:List Nat:=[]
  frz:List Nat:=[]
  lo:List (Nat×List Nat):=[]
  g:Bool:=true
  dep:Bool:=false
  vc:List Prop:=[]
  mag:Bool:=false
  mks:List KSh:=[]
  es:List (AV×AV):=[]
  giv:List Box:=[]
  gids:List Nat:=[]
  x:Bool:=false
  deriving Inhabited

def bytesOf (s:ByteArray):List Int:=s.data.toList.map fun c=>(c.toNat:Int)

def zAC:Value→AV
  | .int k n=>.int k n
  | .bool b=>.bool b
  | .string s=>.str (bytesOf s)
  | .slice none 0 0=>.nilsl
  | .pointer none=>.nilp
  | _=>.junk

def zBx:Value→AV
  | .agg vs=>.agg (vs.toList.map zAC)
  | v=>zAC v

def kC:Value→Bool
  | .int k n=>decide (k.wrap n=n)
  | .bool _=>true
  | .string s=>Nat.ble s.data.size 9223372036854775807
  | .slice none 0 0=>true
  | .pointer none=>true
  | _=>false

def zAM:Value→Bool
  | .agg vs=>vs.toList.all kC
  | v=>kC v

theorem w6:maxLen=9223372036854775807:=by decide

theorem zDn (s:ByteArray):vK (bytesOf s)=s:=by
  obtain ⟨d⟩:=s
  simp only [vK,bytesOf,List.map_map]
  congr 1
  have:((fun x:Int=>UInt8.ofNat x.toNat) ∘ fun c:UInt8=>(c.toNat:Int))=id:=by
    funext c;simp
  rw [this,List.map_id]

theorem zA9 (s:ByteArray):∀ x∈bytesOf s,0≤x∧x<256:=by
  intro x hx
  simp only [bytesOf,List.mem_map] at hx
  obtain ⟨c,_,rfl⟩:=hx
  have:=c.toNat_lt
  omega

theorem zE5 {w:World} {I:Nat→Prop} {T:Tbl} {v:Value} (h:kC v=true):Rep w I T v (zAC v):=by
  cases v with
  | int k n=>exact .int (of_decide_eq_true h)
  | bool b=>exact .bool
  | string s =>
    have hs:s.data.size≤9223372036854775807:=Nat.le_of_ble_eq_true h
    have:=Rep.str (w:=w) (I:=I) (T:=T) (l:=bytesOf s) (zA9 s) (by rw [w6];simpa [bytesOf] using hs)
    rw [zDn] at this
    exact this
  | slice a l c =>
    unfold kC at h
    split at h<;>simp_all
    rename_i heq
    obtain ⟨rfl,rfl,rfl⟩:=heq
    exact .nilsl
  | pointer a =>
    cases a with
    | none=>exact .nilp
    | some a=>simp [kC] at h
  | _=>simp [kC] at h

theorem zDN {v:Value} (h:kC v=true):(zAC v).one=true:=by
  unfold kC at h
  split at h<;>simp_all [zAC,AV.one]

theorem zDM {w:World} {I:Nat→Prop} {T:Tbl} {v:Value} (h:zAM v=true):Rep w I T v (zBx v):=by
  cases v with
  | agg vs =>
    simp only [zAM,List.all_eq_true] at h
    refine .agg (by simp) ?_ ?_
    · intro c hc
      simp only [List.mem_map] at hc
      obtain ⟨v,hv,rfl⟩:=hc
      exact zDN (h v hv)
    · intro j c hj
      rw [List.getElem?_map] at hj
      cases hvj:vs.toList[j]? with
      | none=>rw [hvj] at hj;cases hj
      | some v =>
        rw [hvj] at hj
        injection hj with hj
        subst hj
        have hv:v∈vs.toList:=List.mem_of_getElem? hvj
        have:vs.getD j undef=v:=by
          simp only [Array.getD_eq_getD_getElem?]
          rw [Array.getElem?_toList] at hvj
          rw [hvj];rfl
        rw [this]
        exact zE5 (h v hv)
  | _=>exact zE5 h

def y3:Operand→Bool
  | .const v=>zAM v
  | _=>true

def j7 (st:AS):List Operand→List (Nat×AV)
  | []=>[]
  | .tmp t::r=>(t,st.slot t)::j7 st r
  | _::r=>j7 st r

/-! Integers. -/
def zCt:IntKind→IntKind→Bool
  | .i8,.i8 | .i16,.i16 | .i32,.i32 | .i64,.i64 | .u8,.u8 | .u16,.u16 | .u32,.u32 | .u64,.u64=>true
  | _,_=>false

theorem zGz {a b:IntKind} (h:zCt a b=true):a=b:=by cases a<;>cases b<;>simp_all [zCt]

def zLw (k:IntKind) (x y:Int):Int:=k.wrap (BitVec.ofInt k.bits x &&& BitVec.ofInt k.bits y).toNat
def ior (k:IntKind) (x y:Int):Int:=k.wrap (BitVec.ofInt k.bits x ||| BitVec.ofInt k.bits y).toNat
def zID (k:IntKind) (x y:Int):Int:=k.wrap (BitVec.ofInt k.bits x ^^^ BitVec.ofInt k.bits y).toNat
def zGo (k:IntKind) (x y:Int):Int:=k.wrap (BitVec.ofInt k.bits x &&& ~~~BitVec.ofInt k.bits y).toNat
def zNl (k:IntKind) (x y:Int):Int:=k.wrap (x * 2 ^ (min y.toNat k.bits))
def zFW (k:IntKind) (x y:Int):Int:=x.fdiv (2 ^ (min y.toNat k.bits))
def zLW (k:IntKind) (x y:Int):Int:=k.wrap (x.tdiv y)
def zGd (x y:Int):Int:=x.tmod y

theorem tM (k:IntKind) (n:Int):k.wrap (k.wrap n)=k.wrap n:=by
  cases k<;>simp only [IntKind.wrap,IntKind.bits,IntKind.signed]<;>simp<;>omega

theorem zCW (k:IntKind) (n:Int) (h:k.wrap n=n):(if k.signed then -(2 ^ (k.bits - 1):Int) else 0)≤n∧n<(if k.signed then 2 ^ (k.bits - 1) else 2 ^ k.bits):=by
  cases k<;>simp only [IntKind.wrap,IntKind.bits,IntKind.signed] at h ⊢<;>simp at h ⊢<;>omega

theorem qA (k:IntKind) (n:Int) (h:(if k.signed then -(2 ^ (k.bits - 1):Int) else 0)≤n∧n<(if k.signed then 2 ^ (k.bits - 1) else 2 ^ k.bits)):k.wrap n=n:=by
  cases k<;>simp only [IntKind.wrap,IntKind.bits,IntKind.signed] at h ⊢<;>simp at h ⊢<;>omega

theorem zIL (k:IntKind) (n m:Int) (h:k.wrap n=n) (h1:0≤n→0≤m∧m≤n) (h2:n<0→n≤m∧m<0):k.wrap m=m:=by
  have hr:=zCW k n h
  refine qA k m ?_
  rcases Int.lt_or_le n 0 with h' | h'
  · have:=h2 h'
    cases k<;>simp only [IntKind.bits,IntKind.signed] at hr ⊢<;>simp at hr ⊢<;>omega
  · have:=h1 h'
    cases k<;>simp only [IntKind.bits,IntKind.signed] at hr ⊢<;>simp at hr ⊢<;>omega

theorem zK4 (k:IntKind) (x y:Int) (h:k.wrap x=x):k.wrap (zFW k x y)=zFW k x y:=by
  have hp:(0:Int)<2 ^ (min y.toNat k.bits):=Int.pow_pos (by omega)
  have he:zFW k x y=x / 2 ^ (min y.toNat k.bits):=by
    unfold zFW
    rw [Int.fdiv_eq_ediv_of_nonneg]
    omega
  rw [he]
  refine zIL k x _ h ?_ ?_
  · intro hx
    exact ⟨Int.ediv_nonneg hx (by omega),Int.ediv_le_self _ hx⟩
  · intro hx
    refine ⟨?_,Int.ediv_neg_of_neg_of_pos hx hp⟩
    have h1:(1:Int)≤2 ^ (min y.toNat k.bits):=by omega
    rw [Int.le_ediv_iff_mul_le hp]
    have:x * 2 ^ (min y.toNat k.bits)≤x * 1:=Int.mul_le_mul_of_nonpos_left (by omega) h1
    omega

theorem zJn {x:Int} (y:Int) (hx:0≤x):x.tmod y≤x:=by
  have h1:=Int.natAbs_tmod x y
  have h2:=Nat.mod_le x.natAbs y.natAbs
  have h3:=Int.tmod_nonneg y hx
  omega

theorem zKC (k:IntKind) (x y:Int) (h:k.wrap x=x):k.wrap (zGd x y)=zGd x y:=by
  unfold zGd
  have hr:=zCW k x h
  refine qA k _ ?_
  have h1:0≤x→0≤x.tmod y∧x.tmod y≤x:=fun hx=>⟨Int.tmod_nonneg _ hx,zJn _ hx⟩
  have h2:x<0→x≤x.tmod y∧x.tmod y≤0:=fun hx=>by
    have e:x.tmod y = -((-x).tmod y):=by rw [Int.neg_tmod];omega
    have a1:=Int.tmod_nonneg y (a := -x) (by omega)
    have a2:(-x).tmod y ≤ -x:=zJn y (by omega)
    omega
  rcases Int.lt_or_le x 0 with h' | h'
  · have:=h2 h'
    cases k<;>simp only [IntKind.bits,IntKind.signed] at hr ⊢<;>simp at hr ⊢<;>omega
  · have:=h1 h'
    cases k<;>simp only [IntKind.bits,IntKind.signed] at hr ⊢<;>simp at hr ⊢<;>omega

end Go.Ab

/- The operations that only compute, one by one. -/
namespace Go.Ab
open Go

/-- What an operation that writes no block of the call's own gives. -/
def jY (P:Program) (ρ:Operand→Value) (o:Oper) (w:World) (I:Nat→Prop) (T:Tbl) (av:AV):Prop :=
  ∃ v w',(execOp ρ o).run P w=.ok (.value v) w'∧w.grownBy w' none ∧
    ∀ I' T',(∀ b,I b→b<w.heap.size→I' b)→(∀ b,w.heap.size≤b→b<w'.heap.size→I' b)→T.le T'→Rep w' I' T' v av

theorem vF (w:World):w.grownBy w none:=⟨rfl,rfl,rfl,Nat.le_refl _,fun _ _ _=>rfl⟩

theorem jY.same {P:Program} {ρ:Operand→Value} {o:Oper} {w:World} {I:Nat→Prop} {T:Tbl} {av:AV} {v:Value}
    (h:(execOp ρ o).run P w=.ok (.value v) w) (hr:Rep w I T v av):jY P ρ o w I T av :=
  ⟨v,w,h,vF w,fun _ _ hI _ hT=>hr.mono (Nat.le_refl _) (fun _ _ _=>rfl) hI hT⟩

/-! Operators on integers, truth values and strings. -/
def zGs (op:BinOp) (k:IntKind) (a:Int) (b:Int):Option (List Prop×AV) :=
  match op with
  | .add=>some ([],.int k (k.wrap (a+b)))
  | .sub=>some ([],.int k (k.wrap (a - b)))
  | .mul=>some ([],.int k (k.wrap (a * b)))
  | .quo=>some ([b≠0],.int k (zLW k a b))
  | .rem=>some ([b≠0],.int k (zGd a b))
  | .and=>some ([],.int k (zLw k a b))
  | .or=>some ([],.int k (ior k a b))
  | .xor=>some ([],.int k (zID k a b))
  | .andNot=>some ([],.int k (zGo k a b))
  | .eql=>some ([],.bool (a==b))
  | .neq=>some ([],.bool (a != b))
  | .lss=>some ([],.bool (decide (a<b)))
  | .leq=>some ([],.bool (decide (a≤b)))
  | .gtr=>some ([],.bool (decide (a>b)))
  | .geq=>some ([],.bool (decide (a≥b)))
  | _=>none

def k9:List Int→List Int→Bool
  | _,[]=>false
  | [],_::_=>true
  | a::x,b::y=>decide (a<b)||(a==b&&k9 x y)

def zFb (P:Program) (t:TypeId):Bool:=match P.underlying t with | some .bool=>true | _=>false
theorem zKl {P:Program} {t:TypeId} (h:zFb P t=true):P.underlying t=some .bool:=by
  unfold zFb at h;split at h<;>simp_all
def zHn (P:Program) (t:TypeId):Bool:=match P.underlying t with | some (.slice _)=>true | _=>false
theorem zL5 {P:Program} {t:TypeId} (h:zHn P t=true):∃ e,P.underlying t=some (.slice e):=by
  unfold zHn at h;split at h
  · rename_i e he;exact ⟨e,he⟩
  · cases h

def zLF (P:Program) (op:BinOp) (xT:TypeId) (x y:AV):Option (List Prop×AV) :=
  match x,y with
  | .int k a,.int k' b =>
    match op with
    | .shl=>some ([0≤b],.int k (zNl k a b))
    | .shr=>some ([0≤b],.int k (zFW k a b))
    | op=>bif zCt k k' then zGs op k a b else none
  | .bool a,.bool b =>
    bif zFb P xT then
      match op with
      | .eql=>some ([],.bool (a==b))
      | .neq=>some ([],.bool (!(a==b)))
      | _=>none
    else none
  | .str a,.str b =>
    match op with
    | .eql=>some ([],.bool (a==b))
    | .neq=>some ([],.bool (!(a==b)))
    | .lss=>some ([],.bool (k9 a b))
    | .leq=>some ([],.bool (k9 a b||a==b))
    | .gtr=>some ([],.bool !(k9 a b||a==b))
    | .geq=>some ([],.bool !(k9 a b))
    | .add=>some ([a.length+b.length≤9223372036854775807],.str (a++b))
    | _=>none
  | .sl _ _ l,.nilsl =>
    match op with
    | .eql=>bif zHn P xT then some ([],.nb l) else none
    | _=>none
  | _,_=>none

theorem zAS (l:List Int):(vK l).toList=l.map fun x=>UInt8.ofNat x.toNat:=by
  rw [ByteArray.toList_eq];simp [vK]

theorem j0 (l:List Int):(vK l).size=l.length:=by simp [vK,ByteArray.size]

theorem zKB {a b:Int} (ha:0≤a∧a<256) (hb:0≤b∧b<256):UInt8.ofNat a.toNat=UInt8.ofNat b.toNat↔a=b:=by
  constructor
  · intro h
    have h1:(UInt8.ofNat a.toNat).toNat=(UInt8.ofNat b.toNat).toNat:=by rw [h]
    simp only [UInt8.toNat_ofNat'] at h1
    omega
  · intro h;rw [h]

theorem zNx {a b:Int} (ha:0≤a∧a<256) (hb:0≤b∧b<256):(UInt8.ofNat a.toNat<UInt8.ofNat b.toNat)↔a<b:=by
  rw [UInt8.lt_iff_toNat_lt]
  simp only [UInt8.toNat_ofNat']
  omega

theorem zNc {a b:List Int} (ha:∀ x∈a,0≤x∧x<256) (hb:∀ x∈b,0≤x∧x<256) :
    ((vK a).toList==(vK b).toList)=(a==b):=by
  rw [zAS,zAS]
  induction a generalizing b with
  | nil=>cases b<;>simp
  | cons x r ih =>
    cases b with
    | nil=>simp
    | cons y s =>
      have h1:=ih (b:=s) (fun z hz=>ha z (by simp [hz])) (fun z hz=>hb z (by simp [hz]))
      simp only [List.map_cons,List.cons_beq_cons,h1]
      congr 1
      rw [Bool.eq_iff_iff]
      simp only [beq_iff_eq]
      exact zKB (ha x (by simp)) (hb y (by simp))

theorem zLp {a b:List Int} (ha:∀ x∈a,0≤x∧x<256) (hb:∀ x∈b,0≤x∧x<256) :
    Op.bytesLess (vK a).toList (vK b).toList=k9 a b:=by
  rw [zAS,zAS]
  induction a generalizing b with
  | nil=>cases b<;>simp [Op.bytesLess,k9]
  | cons x r ih =>
    cases b with
    | nil=>simp [Op.bytesLess,k9]
    | cons y s =>
      have h1:=ih (b:=s) (fun z hz=>ha z (by simp [hz])) (fun z hz=>hb z (by simp [hz]))
      simp only [List.map_cons,Op.bytesLess,k9,h1]
      have e1:=zKB (ha x (by simp)) (hb y (by simp))
      have e2:=zNx (ha x (by simp)) (hb y (by simp))
      congr 1
      · rw [Bool.eq_iff_iff];simp only [decide_eq_true_eq];exact e2
      · congr 1;rw [Bool.eq_iff_iff];simp only [beq_iff_eq];exact e1

theorem uL {P:Program} {op:BinOp} {xT yT:TypeId} {x y:Operand} {ρ:Operand→Value} {o:Oper} {w:World} {X Y v:Value}
    (ho:o.op=.binOp op xT x y yT) (hX:ρ x=X) (hY:ρ y=Y) (hg:(eqGuard op xT x y X Y).run P w=.ok () w) (hb:(binOp op xT X Y).run P w=.ok v w) :
    (execOp ρ o).run P w=.ok (.value v) w:=by
  simp only [execOp,ho,hX,hY,Sem.run_bind,hg,Result.andThen_ok,hb]
  rfl

theorem u4 {P:Program} {op:BinOp} {xT:TypeId} {x y:Operand} {w:World} {X Y:Value} (hX:match X with | .nilIface | .agg _=>False | _=>True) :
    (eqGuard op xT x y X Y).run P w=.ok () w:=by
  unfold eqGuard
  cases X<;>first | exact hX.elim | (cases op<;>cases Y<;>simp)

theorem zGV {P:Program} {op:BinOp} {k:IntKind} {a b:Int} {xT:TypeId} {w:World} {I:Nat→Prop} {T:Tbl} {r:List Prop×AV}
    (h:zGs op k a b=some r) (hv:∀ p∈r.1,p) (wa:k.wrap a=a):∃ v,(binOp op xT (.int k a) (.int k b)).run P w=.ok v w∧Rep w I T v r.2:=by
  cases op<;>simp only [zGs,Option.some.injEq,reduceCtorEq] at h<;>subst h
  case add=>exact ⟨_,by simp [binOp,Op.intArith],.int (tM _ _)⟩
  case sub=>exact ⟨_,by simp [binOp,Op.intArith],.int (tM _ _)⟩
  case mul=>exact ⟨_,by simp [binOp,Op.intArith],.int (tM _ _)⟩
  case and=>exact ⟨.int k (zLw k a b),by simp [binOp,Op.intBits,zLw],.int (tM _ _)⟩
  case or=>exact ⟨.int k (ior k a b),by simp [binOp,Op.intBits,ior],.int (tM _ _)⟩
  case xor=>exact ⟨.int k (zID k a b),by simp [binOp,Op.intBits,zID],.int (tM _ _)⟩
  case andNot=>exact ⟨.int k (zGo k a b),by simp [binOp,Op.intBits,zGo],.int (tM _ _)⟩
  case quo =>
    have h0:b≠0:=hv _ (by simp)
    exact ⟨.int k (zLW k a b),by simp [binOp,Op.intDiv,zLW,h0],.int (tM _ _)⟩
  case rem =>
    have h0:b≠0:=hv _ (by simp)
    exact ⟨.int k (zGd a b),by simp [binOp,Op.intDiv,zGd,h0],.int (zKC _ _ _ wa)⟩
  all_goals exact ⟨_,by simp [binOp,Op.intCmp],.bool⟩

theorem zKg {P:Program} {op:BinOp} {xT yT:TypeId} {x y:Operand} {ρ:Operand→Value} {o:Oper} {w:World} {I:Nat→Prop} {T:Tbl} {X Y:AV} {r:List Prop×AV}
    (ho:o.op=.binOp op xT x y yT) (hx:Rep w I T (ρ x) X) (hy:Rep w I T (ρ y) Y) (h:zLF P op xT X Y=some r) (hv:∀ p∈r.1,p):jY P ρ o w I T r.2:=by
  unfold zLF at h
  split at h
  · rename_i k a k' b
    generalize hX:ρ x=vx at hx
    generalize hY:ρ y=vy at hy
    cases hx with
    | int wa =>
    cases hy with
    | int wb =>
    split at h
    · injection h with h;subst h
      have h0:0≤b:=hv _ (by simp)
      exact .same (uL ho hX hY (u4 trivial) (by simp [binOp,Op.shift,zNl,Int.not_lt.2 h0])) (.int (tM _ _))
    · injection h with h;subst h
      have h0:0≤b:=hv _ (by simp)
      exact .same (uL ho hX hY (u4 trivial) (by simp [binOp,Op.shift,zFW,Int.not_lt.2 h0])) (.int (zK4 _ _ _ wa))
    · rename_i hns hnr
      cases hk:zCt k k'
      · rw [hk] at h;cases h
      · rw [hk] at h
        have:=zGz hk
        subst this
        simp only [cond_true] at h
        obtain ⟨v,h1,h2⟩:=zGV (P:=P) (xT:=xT) (w:=w) (I:=I) (T:=T) h hv wa
        exact .same (uL ho hX hY (u4 trivial) h1) h2
  · rename_i a b
    generalize hX:ρ x=vx at hx
    generalize hY:ρ y=vy at hy
    cases hx with
    | bool =>
    cases hy with
    | bool =>
    cases hb:zFb P xT
    · rw [hb] at h;cases h
    · rw [hb] at h
      simp only [cond_true] at h
      have ht:=zKl hb
      split at h<;>first | (injection h with h;subst h) | cases h
      · exact .same (uL ho hX hY (u4 trivial) (run_eql_bool w xT a b ht)) .bool
      · exact .same (uL ho hX hY (u4 trivial) (run_neq_bool w xT a b ht)) .bool
  · rename_i a b
    generalize hX:ρ x=vx at hx
    generalize hY:ρ y=vy at hy
    cases hx with
    | str ra la =>
    cases hy with
    | str rb lb =>
    have e1:=zNc ra rb
    have e2:=zLp ra rb
    split at h<;>first | (injection h with h;subst h) | cases h
    iterate 6 (exact .same (uL ho hX hY (u4 trivial) (by simp only [binOp,Op.stringOp,e1,e2];rfl)) .bool)
    have h0:a.length+b.length≤9223372036854775807:=hv _ (by simp)
    refine .same (uL (v:=.string (vK (a++b))) ho hX hY (u4 trivial) ?_) (.str (fun z hz=>?_) (by rw [w6];simpa using h0))
    · have:¬ ((((vK a).size+(vK b).size:Nat):Int)>IntKind.i64.max):=by
        rw [j0,j0]
        have:IntKind.i64.max=9223372036854775807:=by decide
        omega
      have hcat:vK a++vK b=vK (a++b):=by
        simp only [vK,List.map_append]
        apply WideShapes.bytes_inj
        simp
      simp only [binOp,Op.stringOp,this,hcat]
      simp
    · rcases List.mem_append.1 hz with h | h
      · exact ra z h
      · exact rb z h
  · rename_i f sz l
    split at h
    case h_2=>cases h
    cases hs:zHn P xT
    · rw [hs] at h;cases h
    rw [hs] at h;injection h with h;subst h
    obtain ⟨e,he⟩:=zL5 hs
    generalize hX:ρ x=vx at hx
    generalize hY:ρ y=vy at hy
    have hy':vy=.slice none 0 0:=by
      generalize hn:AV.nilsl=n at hy
      cases hy<;>first | rfl | cases hn
    subst hy'
    cases hx with
    | sl0 h1 h2=>exact .same (uL ho hX hY (u4 trivial) (Lib.run_eql_slice_nil w xT e _ _ _ _ _ he)) (.nb fun _=>rfl)
    | sl g h1=>exact .same (uL ho hX hY (u4 trivial) (Lib.run_eql_slice_nil w xT e _ _ _ _ _ he)) (.nb fun h=>by cases h)
  · cases h

def vun (op:UnOp) (x:AV):Option (List Prop×AV) :=
  match op,x with
  | .neg,.int k n=>some ([],.int k (k.wrap (0 - n)))
  | .xor,.int k n=>some ([],.int k (zID k (if k.signed then -1 else k.max) n))
  | .not,.bool b=>some ([],.bool !b)
  | _,_=>none

theorem zLd {P:Program} {op:UnOp} {xT:TypeId} {x:Operand} {ρ:Operand→Value} {o:Oper} {w:World} {I:Nat→Prop} {T:Tbl} {X:AV} {r:List Prop×AV}
    (ho:o.op=.unOp op xT x) (hx:Rep w I T (ρ x) X) (h:vun op X=some r):jY P ρ o w I T r.2:=by
  unfold vun at h
  generalize hX:ρ x=vx at hx
  split at h<;>first | (injection h with h;subst h) | cases h
  · cases hx with
    | int wa=>exact .same (by simp [execOp,ho,hX,Op.unary,Op.intArith]) (.int (tM _ _))
  · cases hx with
    | int wa=>exact .same (by simp [execOp,ho,hX,Op.unary,Op.intBits,zID]) (.int (tM _ _))
  · cases hx with
    | bool=>exact .same (by simp [execOp,ho,hX,Op.unary]) .bool
end Go.Ab
