/- A layer over the model: abstract values and states, and the rules by which the printed proofs go. No conditions. -/
import Derived.Test.YtoeengmnmhhpgaaGreatA1
import Derived.Laws.BytesString
import Derived.Laws.Small
import Derived.WideShapes
import Derived.Lib.SliceRun
/- What the operations that only compute give: integers, truth values, strings, conversions, parts of values, places. -/
namespace Go.Ab
open Go

structure xC where
  id:Nat:=0
  n:Nat:=0
  z:Int:=0
  m:Nat:=0
  b:Bool:=false
  av:AV:=.junk
  l:List AV:=[]
  s:List Int:=[]
  ids:List Nat:=[]
  pre:List Box:=[]
  post:List Box:=[]
  lend:List Nat:=[]
  frz:List Nat:=[]
  lo:List (Nat×List Nat):=[]
  g:Bool:=true
  dep:Bool:=false
  vc:List Prop:=[]
  mag:Bool:=false
  mks:List KSh:=[]
  es:List (AV×AV):=[]
  giv:List Box:=[]
  gids:List Nat:=[]
  x:Bool:=false
  deriving Inhabited

def bytesOf (s:ByteArray):List Int:=s.data.toList.map fun c=>(c.toNat:Int)

def cO:Value→AV
  | .int k n=>.int k n
  | .bool b=>.bool b
  | .string s=>.str (bytesOf s)
  | .slice none 0 0=>.nilsl
  | .pointer none=>.nilp
  | .map none=>.fm true []
  | _=>.junk

def cL:Value→AV
  | .agg vs=>.agg (vs.toList.map cO)
  | v=>cO v

def kP:Value→Bool
  | .int k n=>decide (k.wrap n=n)
  | .bool _=>true
  | .string s=>Nat.ble s.data.size 9223372036854775807
  | .slice none 0 0=>true
  | .pointer none=>true
  | .map none=>true
  | _=>false

def bC:Value→Bool
  | .agg vs=>vs.toList.all kP
  | v=>kP v

theorem uM:maxLen=9223372036854775807:=by decide

theorem J5 (s:ByteArray):wO (bytesOf s)=s:=by
  obtain ⟨d⟩:=s
  simp only [wO,bytesOf,List.map_map]
  congr 1
  have:((fun x:Int=>UInt8.ofNat x.toNat) ∘ fun c:UInt8=>(c.toNat:Int))=id:=by
    funext c;simp
  rw [this,List.map_id]

theorem DE (s:ByteArray):∀ x∈bytesOf s,0≤x∧x<256:=by
  intro x hx
  simp only [bytesOf,List.mem_map] at hx
  obtain ⟨c,_,rfl⟩:=hx
  have:=c.toNat_lt
  omega

theorem KV {w:World} {I:Nat→Prop} {T:Tbl} {v:Value} (h:kP v=true):Rep w I T v (cO v):=by
  cases v with
  | int k n=>exact .int (of_decide_eq_true h)
  | bool b=>exact .bool
  | string s =>
    have hs:s.data.size≤9223372036854775807:=zle h
    have:=Rep.str (w:=w) (I:=I) (T:=T) (l:=bytesOf s) (DE s) (by rw [uM];simpa [bytesOf] using hs)
    rw [J5] at this
    exact this
  | slice a l c =>
    unfold kP at h
    split at h<;>simp_all
    rename_i heq
    obtain ⟨rfl,rfl,rfl⟩:=heq
    exact .nilsl
  | pointer a =>
    cases a with
    | none=>exact .nilp
    | some a=>simp [kP] at h
  | map a =>
    cases a with
    | none=>exact .fm0
    | some a=>simp [kP] at h
  | _=>simp [kP] at h

theorem G9 {v:Value} (h:kP v=true):(cO v).one=true:=by
  unfold kP at h
  split at h<;>simp_all [cO,AV.one]

theorem GV {w:World} {I:Nat→Prop} {T:Tbl} {v:Value} (h:bC v=true):Rep w I T v (cL v):=by
  cases v with
  | agg vs =>
    simp only [bC,List.all_eq_true] at h
    refine .agg (by simp) ?_ ?_
    · intro c hc
      simp only [List.mem_map] at hc
      obtain ⟨v,hv,rfl⟩:=hc
      exact G9 (h v hv)
    · intro j c hj
      rw [List.getElem?_map] at hj
      cases hvj:vs.toList[j]? with
      | none=>rw [hvj] at hj;cases hj
      | some v =>
        rw [hvj] at hj
        injection hj with hj
        subst hj
        have hv:v∈vs.toList:=List.mem_of_getElem? hvj
        have:vs.getD j undef=v:=by
          simp only [Array.getD_eq_getD_getElem?]
          rw [Array.getElem?_toList] at hvj
          rw [hvj];rfl
        rw [this]
        exact KV (h v hv)
  | _=>exact KV h

def y3:Operand→Bool
  | .const v=>bC v
  | _=>true

def tM (st:AS):List Operand→List (Nat×AV)
  | []=>[]
  | .tmp t::r=>(t,st.slot t)::tM st r
  | _::r=>tM st r

/-! Integers. -/
def cY:IntKind→IntKind→Bool
  | .i8,.i8 | .i16,.i16 | .i32,.i32 | .i64,.i64 | .u8,.u8 | .u16,.u16 | .u32,.u32 | .u64,.u64=>true
  | _,_=>false

theorem LW {a b:IntKind} (h:cY a b=true):a=b:=by cases a<;>cases b<;>simp_all [cY]

def vU (k:IntKind) (x y:Int):Int:=k.wrap (BitVec.ofInt k.bits x &&& BitVec.ofInt k.bits y).toNat
def ior (k:IntKind) (x y:Int):Int:=k.wrap (BitVec.ofInt k.bits x ||| BitVec.ofInt k.bits y).toNat
def vO (k:IntKind) (x y:Int):Int:=k.wrap (BitVec.ofInt k.bits x ^^^ BitVec.ofInt k.bits y).toNat
def B3 (k:IntKind) (x y:Int):Int:=k.wrap (BitVec.ofInt k.bits x &&& ~~~BitVec.ofInt k.bits y).toNat
def jT (k:IntKind) (x y:Int):Int:=k.wrap (x * 2 ^ (min y.toNat k.bits))
def uT (k:IntKind) (x y:Int):Int:=x.fdiv (2 ^ (min y.toNat k.bits))
def j1 (k:IntKind) (x y:Int):Int:=k.wrap (x.tdiv y)
def u0 (x y:Int):Int:=x.tmod y

theorem jP (k:IntKind) (n:Int):k.wrap (k.wrap n)=k.wrap n:=by
  cases k<;>simp only [IntKind.wrap,IntKind.bits,IntKind.signed]<;>simp<;>omega

theorem EC (k:IntKind) (n:Int) (h:k.wrap n=n):(if k.signed then -(2 ^ (k.bits - 1):Int) else 0)≤n∧n<(if k.signed then 2 ^ (k.bits - 1) else 2 ^ k.bits):=by
  cases k<;>simp only [IntKind.wrap,IntKind.bits,IntKind.signed] at h ⊢<;>simp at h ⊢<;>omega

theorem n9 (k:IntKind) (n:Int) (h:(if k.signed then -(2 ^ (k.bits - 1):Int) else 0)≤n∧n<(if k.signed then 2 ^ (k.bits - 1) else 2 ^ k.bits)):k.wrap n=n:=by
  cases k<;>simp only [IntKind.wrap,IntKind.bits,IntKind.signed] at h ⊢<;>simp at h ⊢<;>omega

theorem TO (k:IntKind) (n m:Int) (h:k.wrap n=n) (h1:0≤n→0≤m∧m≤n) (h2:n<0→n≤m∧m<0):k.wrap m=m:=by
  have hr:=EC k n h
  refine n9 k m ?_
  rcases Int.lt_or_le n 0 with h' | h'
  · have:=h2 h'
    cases k<;>simp only [IntKind.bits,IntKind.signed] at hr ⊢<;>simp at hr ⊢<;>omega
  · have:=h1 h'
    cases k<;>simp only [IntKind.bits,IntKind.signed] at hr ⊢<;>simp at hr ⊢<;>omega

theorem TI (k:IntKind) (x y:Int) (h:k.wrap x=x):k.wrap (uT k x y)=uT k x y:=by
  have hp:(0:Int)<2 ^ (min y.toNat k.bits):=Int.pow_pos (by omega)
  have he:uT k x y=x / 2 ^ (min y.toNat k.bits):=by
    unfold uT
    rw [Int.fdiv_eq_ediv_of_nonneg]
    omega
  rw [he]
  refine TO k x _ h ?_ ?_
  · intro hx
    exact ⟨Int.ediv_nonneg hx (by omega),Int.ediv_le_self _ hx⟩
  · intro hx
    refine ⟨?_,Int.ediv_neg_of_neg_of_pos hx hp⟩
    have h1:(1:Int)≤2 ^ (min y.toNat k.bits):=by omega
    rw [Int.le_ediv_iff_mul_le hp]
    have:x * 2 ^ (min y.toNat k.bits)≤x * 1:=Int.mul_le_mul_of_nonpos_left (by omega) h1
    omega

theorem ME {x:Int} (y:Int) (hx:0≤x):x.tmod y≤x:=by
  have h1:=Int.natAbs_tmod x y
  have h2:=Nat.mod_le x.natAbs y.natAbs
  have h3:=Int.tmod_nonneg y hx
  omega

theorem Q0 (k:IntKind) (x y:Int) (h:k.wrap x=x):k.wrap (u0 x y)=u0 x y:=by
  unfold u0
  have hr:=EC k x h
  refine n9 k _ ?_
  have h1:0≤x→0≤x.tmod y∧x.tmod y≤x:=fun hx=>⟨Int.tmod_nonneg _ hx,ME _ hx⟩
  have h2:x<0→x≤x.tmod y∧x.tmod y≤0:=fun hx=>by
    have e:x.tmod y = -((-x).tmod y):=by rw [Int.neg_tmod];omega
    have a1:=Int.tmod_nonneg y (a := -x) (by omega)
    have a2:(-x).tmod y ≤ -x:=ME y (by omega)
    omega
  rcases Int.lt_or_le x 0 with h' | h'
  · have:=h2 h'
    cases k<;>simp only [IntKind.bits,IntKind.signed] at hr ⊢<;>simp at hr ⊢<;>omega
  · have:=h1 h'
    cases k<;>simp only [IntKind.bits,IntKind.signed] at hr ⊢<;>simp at hr ⊢<;>omega

end Go.Ab

/- The operations that only compute, one by one. -/
namespace Go.Ab
open Go

/-- What an operation that writes no block of the call's own gives. -/
def u4 (P:Program) (ρ:Operand→Value) (o:Oper) (w:World) (I:Nat→Prop) (T:Tbl) (av:AV):Prop :=
  ∃ v w',(execOp ρ o).run P w=.ok (.value v) w'∧w.grownBy w' none ∧
    ∀ I' T',(∀ b,I b→b<w.heap.size→I' b)→(∀ b,w.heap.size≤b→b<w'.heap.size→I' b)→T.le T'→Rep w' I' T' v av

theorem tA (w:World):w.grownBy w none:=⟨rfl,rfl,rfl,Nat.le_refl _,fun _ _ _=>rfl⟩

theorem u4.same {P:Program} {ρ:Operand→Value} {o:Oper} {w:World} {I:Nat→Prop} {T:Tbl} {av:AV} {v:Value}
    (h:(execOp ρ o).run P w=.ok (.value v) w) (hr:Rep w I T v av):u4 P ρ o w I T av :=
  ⟨v,w,h,tA w,fun _ _ hI _ hT=>hr.mono (Nat.le_refl _) (fun _ _ _=>rfl) hI hT⟩

/-! Operators on integers, truth values and strings. -/
def DZ (op:BinOp) (k:IntKind) (a:Int) (b:Int):Option (List Prop×AV) :=
  match op with
  | .add=>some ([],.int k (k.wrap (a+b)))
  | .sub=>some ([],.int k (k.wrap (a - b)))
  | .mul=>some ([],.int k (k.wrap (a * b)))
  | .quo=>some ([b≠0],.int k (j1 k a b))
  | .rem=>some ([b≠0],.int k (u0 a b))
  | .and=>some ([],.int k (vU k a b))
  | .or=>some ([],.int k (ior k a b))
  | .xor=>some ([],.int k (vO k a b))
  | .andNot=>some ([],.int k (B3 k a b))
  | .eql=>some ([],.bool (a==b))
  | .neq=>some ([],.bool (a != b))
  | .lss=>some ([],.bool (decide (a<b)))
  | .leq=>some ([],.bool (decide (a≤b)))
  | .gtr=>some ([],.bool (decide (a>b)))
  | .geq=>some ([],.bool (decide (a≥b)))
  | _=>none

def pP:List Int→List Int→Bool
  | _,[]=>false
  | [],_::_=>true
  | a::x,b::y=>decide (a<b)||(a==b&&pP x y)

def rT (P:Program) (t:TypeId):Bool:=match P.underlying t with | some .bool=>true | _=>false
theorem VV {P:Program} {t:TypeId} (h:rT P t=true):P.underlying t=some .bool:=by
  unfold rT at h;split at h<;>simp_all
def c8 (P:Program) (t:TypeId):Bool:=match P.underlying t with | some (.slice _)=>true | _=>false
theorem JL {P:Program} {t:TypeId} (h:c8 P t=true):∃ e,P.underlying t=some (.slice e):=by
  unfold c8 at h;split at h
  · rename_i e he;exact ⟨e,he⟩
  · cases h

def mL (P:Program) (t:TypeId):Bool:=match P.underlying t with | some (.map _ _)=>true | _=>false
theorem OY {P:Program} {t:TypeId} (h:mL P t=true):∃ k e,P.underlying t=some (.map k e):=by
  unfold mL at h;split at h
  · rename_i k e he;exact ⟨k,e,he⟩
  · cases h
theorem Q6 {P:Program} (w:World) (d:Nat) (t k e:TypeId) (p:Option Nat) (h:P.underlying t=some (.map k e)) :
    (Op.equalIn (d+1) t (.map p) (.map none)).run P w=.ok p.isNone w:=by
  cases p<;>simp [Op.equalIn,run_underlying h]
theorem LA {P:Program} (w:World) (t k e:TypeId) (p:Option Nat) (h:P.underlying t=some (.map k e)) :
    (binOp .eql t (.map p) (.map none)).run P w=.ok (.bool p.isNone) w:=by
  simp only [binOp]
  simp [show Op.equal t (.map p) (.map none)=Op.equalIn (9999+1) t (.map p) (.map none) from rfl,Q6 w 9999 t k e p h]

def G0 (P:Program) (op:BinOp) (xT:TypeId) (x y:AV):Option (List Prop×AV) :=
  match x,y with
  | .int k a,.int k' b =>
    match op with
    | .shl=>some ([0≤b],.int k (jT k a b))
    | .shr=>some ([0≤b],.int k (uT k a b))
    | op=>bif cY k k' then DZ op k a b else none
  | .bool a,.bool b =>
    bif rT P xT then
      match op with
      | .eql=>some ([],.bool (a==b))
      | .neq=>some ([],.bool (!(a==b)))
      | _=>none
    else none
  | .str a,.str b =>
    match op with
    | .eql=>some ([],.bool (a==b))
    | .neq=>some ([],.bool (!(a==b)))
    | .lss=>some ([],.bool (pP a b))
    | .leq=>some ([],.bool (pP a b||a==b))
    | .gtr=>some ([],.bool !(pP a b||a==b))
    | .geq=>some ([],.bool !(pP a b))
    | .add=>some ([a.length+b.length≤9223372036854775807],.str (a++b))
    | _=>none
  | .sl _ _ l,.nilsl =>
    match op with
    | .eql=>bif c8 P xT then some ([],.nb l) else none
    | _=>none
  | .fm n _,.fm true [] =>
    match op with
    | .eql=>bif mL P xT then some ([],.bool n) else none
    | _=>none
  | _,_=>none

theorem r7 (l:List Int):(wO l).toList=l.map fun x=>UInt8.ofNat x.toNat:=by
  rw [ByteArray.toList_eq];simp [wO]

theorem nF (l:List Int):(wO l).size=l.length:=by simp [wO,ByteArray.size]

theorem H7 {a b:Int} (ha:0≤a∧a<256) (hb:0≤b∧b<256):UInt8.ofNat a.toNat=UInt8.ofNat b.toNat↔a=b:=by
  constructor
  · intro h
    have h1:(UInt8.ofNat a.toNat).toNat=(UInt8.ofNat b.toNat).toNat:=by rw [h]
    simp only [UInt8.toNat_ofNat'] at h1
    omega
  · intro h;rw [h]

theorem V9 {a b:Int} (ha:0≤a∧a<256) (hb:0≤b∧b<256):(UInt8.ofNat a.toNat<UInt8.ofNat b.toNat)↔a<b:=by
  rw [UInt8.lt_iff_toNat_lt]
  simp only [UInt8.toNat_ofNat']
  omega

theorem WH {a b:List Int} (ha:∀ x∈a,0≤x∧x<256) (hb:∀ x∈b,0≤x∧x<256) :
    ((wO a).toList==(wO b).toList)=(a==b):=by
  rw [r7,r7]
  induction a generalizing b with
  | nil=>cases b<;>simp
  | cons x r ih =>
    cases b with
    | nil=>simp
    | cons y s =>
      have h1:=ih (b:=s) (fun z hz=>ha z (by simp [hz])) (fun z hz=>hb z (by simp [hz]))
      simp only [List.map_cons,List.cons_beq_cons,h1]
      congr 1
      rw [Bool.eq_iff_iff]
      simp only [beq_iff_eq]
      exact H7 (ha x (by simp)) (hb y (by simp))

theorem WA {a b:List Int} (ha:∀ x∈a,0≤x∧x<256) (hb:∀ x∈b,0≤x∧x<256) :
    Op.bytesLess (wO a).toList (wO b).toList=pP a b:=by
  rw [r7,r7]
  induction a generalizing b with
  | nil=>cases b<;>simp [Op.bytesLess,pP]
  | cons x r ih =>
    cases b with
    | nil=>simp [Op.bytesLess,pP]
    | cons y s =>
      have h1:=ih (b:=s) (fun z hz=>ha z (by simp [hz])) (fun z hz=>hb z (by simp [hz]))
      simp only [List.map_cons,Op.bytesLess,pP,h1]
      have e1:=H7 (ha x (by simp)) (hb y (by simp))
      have e2:=V9 (ha x (by simp)) (hb y (by simp))
      congr 1
      · rw [Bool.eq_iff_iff];simp only [decide_eq_true_eq];exact e2
      · congr 1;rw [Bool.eq_iff_iff];simp only [beq_iff_eq];exact e1

theorem qQ {P:Program} {op:BinOp} {xT yT:TypeId} {x y:Operand} {ρ:Operand→Value} {o:Oper} {w:World} {X Y v:Value}
    (ho:o.op=.binOp op xT x y yT) (hX:ρ x=X) (hY:ρ y=Y) (hg:(eqGuard op xT x y X Y).run P w=.ok () w) (hb:(binOp op xT X Y).run P w=.ok v w) :
    (execOp ρ o).run P w=.ok (.value v) w:=by
  simp only [execOp,ho,hX,hY,Sem.run_bind,hg,Result.andThen_ok,hb]
  rfl

theorem jF {P:Program} {op:BinOp} {xT:TypeId} {x y:Operand} {w:World} {X Y:Value} (hX:match X with | .nilIface | .agg _=>False | _=>True) :
    (eqGuard op xT x y X Y).run P w=.ok () w:=by
  unfold eqGuard
  cases X<;>first | exact hX.elim | (cases op<;>cases Y<;>simp)

theorem S7 {P:Program} {op:BinOp} {k:IntKind} {a b:Int} {xT:TypeId} {w:World} {I:Nat→Prop} {T:Tbl} {r:List Prop×AV}
    (h:DZ op k a b=some r) (hv:∀ p∈r.1,p) (wa:k.wrap a=a):∃ v,(binOp op xT (.int k a) (.int k b)).run P w=.ok v w∧Rep w I T v r.2:=by
  cases op<;>simp only [DZ,Option.some.injEq,reduceCtorEq] at h<;>subst h
  case add=>exact ⟨_,by simp [binOp,Op.intArith],.int (jP _ _)⟩
  case sub=>exact ⟨_,by simp [binOp,Op.intArith],.int (jP _ _)⟩
  case mul=>exact ⟨_,by simp [binOp,Op.intArith],.int (jP _ _)⟩
  case and=>exact ⟨.int k (vU k a b),by simp [binOp,Op.intBits,vU],.int (jP _ _)⟩
  case or=>exact ⟨.int k (ior k a b),by simp [binOp,Op.intBits,ior],.int (jP _ _)⟩
  case xor=>exact ⟨.int k (vO k a b),by simp [binOp,Op.intBits,vO],.int (jP _ _)⟩
  case andNot=>exact ⟨.int k (B3 k a b),by simp [binOp,Op.intBits,B3],.int (jP _ _)⟩
  case quo =>
    have h0:b≠0:=hv _ (by simp)
    exact ⟨.int k (j1 k a b),by simp [binOp,Op.intDiv,j1,h0],.int (jP _ _)⟩
  case rem =>
    have h0:b≠0:=hv _ (by simp)
    exact ⟨.int k (u0 a b),by simp [binOp,Op.intDiv,u0,h0],.int (Q0 _ _ _ wa)⟩
  all_goals exact ⟨_,by simp [binOp,Op.intCmp],.bool⟩

theorem RT {P:Program} {op:BinOp} {xT yT:TypeId} {x y:Operand} {ρ:Operand→Value} {o:Oper} {w:World} {I:Nat→Prop} {T:Tbl} {X Y:AV} {r:List Prop×AV}
    (ho:o.op=.binOp op xT x y yT) (hx:Rep w I T (ρ x) X) (hy:Rep w I T (ρ y) Y) (h:G0 P op xT X Y=some r) (hv:∀ p∈r.1,p):u4 P ρ o w I T r.2:=by
  unfold G0 at h
  split at h
  · rename_i k a k' b
    generalize hX:ρ x=vx at hx
    generalize hY:ρ y=vy at hy
    cases hx with
    | int wa =>
    cases hy with
    | int wb =>
    split at h
    · injection h with h;subst h
      have h0:0≤b:=hv _ (by simp)
      exact .same (qQ ho hX hY (jF trivial) (by simp [binOp,Op.shift,jT,Int.not_lt.2 h0])) (.int (jP _ _))
    · injection h with h;subst h
      have h0:0≤b:=hv _ (by simp)
      exact .same (qQ ho hX hY (jF trivial) (by simp [binOp,Op.shift,uT,Int.not_lt.2 h0])) (.int (TI _ _ _ wa))
    · rename_i hns hnr
      cases hk:cY k k'
      · rw [hk] at h;cases h
      · rw [hk] at h
        have:=LW hk
        subst this
        simp only [cond_true] at h
        obtain ⟨v,h1,h2⟩:=S7 (P:=P) (xT:=xT) (w:=w) (I:=I) (T:=T) h hv wa
        exact .same (qQ ho hX hY (jF trivial) h1) h2
  · rename_i a b
    generalize hX:ρ x=vx at hx
    generalize hY:ρ y=vy at hy
    cases hx with
    | bool =>
    cases hy with
    | bool =>
    cases hb:rT P xT
    · rw [hb] at h;cases h
    · rw [hb] at h
      simp only [cond_true] at h
      have ht:=VV hb
      split at h<;>first | (injection h with h;subst h) | cases h
      · exact .same (qQ ho hX hY (jF trivial) (run_eql_bool w xT a b ht)) .bool
      · exact .same (qQ ho hX hY (jF trivial) (run_neq_bool w xT a b ht)) .bool
  · rename_i a b
    generalize hX:ρ x=vx at hx
    generalize hY:ρ y=vy at hy
    cases hx with
    | str ra la =>
    cases hy with
    | str rb lb =>
    have e1:=WH ra rb
    have e2:=WA ra rb
    split at h<;>first | (injection h with h;subst h) | cases h
    iterate 6 (exact .same (qQ ho hX hY (jF trivial) (by simp only [binOp,Op.stringOp,e1,e2];rfl)) .bool)
    have h0:a.length+b.length≤9223372036854775807:=hv _ (by simp)
    refine .same (qQ (v:=.string (wO (a++b))) ho hX hY (jF trivial) ?_) (.str (fun z hz=>?_) (by rw [uM];simpa using h0))
    · have:¬ ((((wO a).size+(wO b).size:Nat):Int)>IntKind.i64.max):=by
        rw [nF,nF]
        have:IntKind.i64.max=9223372036854775807:=by decide
        omega
      have hcat:wO a++wO b=wO (a++b):=by
        simp only [wO,List.map_append]
        apply WideShapes.bytes_inj
        simp
      simp only [binOp,Op.stringOp,this,hcat]
      simp
    · rcases List.mem_append.1 hz with h | h
      · exact ra z h
      · exact rb z h
  · rename_i f sz l
    split at h
    case h_2=>cases h
    cases hs:c8 P xT
    · rw [hs] at h;cases h
    rw [hs] at h;injection h with h;subst h
    obtain ⟨e,he⟩:=JL hs
    generalize hX:ρ x=vx at hx
    generalize hY:ρ y=vy at hy
    have hy':vy=.slice none 0 0:=by
      generalize hn:AV.nilsl=n at hy
      cases hy<;>first | rfl | cases hn
    subst hy'
    cases hx with
    | sl0 h1 h2=>exact .same (qQ ho hX hY (jF trivial) (Lib.run_eql_slice_nil w xT e _ _ _ _ _ he)) (.nb fun _=>rfl)
    | sl g h1=>exact .same (qQ ho hX hY (jF trivial) (Lib.run_eql_slice_nil w xT e _ _ _ _ _ he)) (.nb fun h=>by cases h)
  · rename_i n l
    split at h
    case h_2=>cases h
    cases hs:mL P xT
    · rw [hs] at h;cases h
    rw [hs] at h;injection h with h;subst h
    obtain ⟨k,e,he⟩:=OY hs
    generalize hX:ρ x=vx at hx
    generalize hY:ρ y=vy at hy
    have hy':vy=.map none:=by
      cases hy;rfl
    subst hy'
    cases hx with
    | fm0=>exact .same (qQ ho hX hY (jF trivial) (LA w xT k e _ he)) .bool
    | fm gk gv h1=>exact .same (qQ ho hX hY (jF trivial) (LA w xT k e _ he)) .bool
  · cases h

def vun (op:UnOp) (x:AV):Option (List Prop×AV) :=
  match op,x with
  | .neg,.int k n=>some ([],.int k (k.wrap (0 - n)))
  | .xor,.int k n=>some ([],.int k (vO k (if k.signed then -1 else k.max) n))
  | .not,.bool b=>some ([],.bool !b)
  | _,_=>none

theorem QR {P:Program} {op:UnOp} {xT:TypeId} {x:Operand} {ρ:Operand→Value} {o:Oper} {w:World} {I:Nat→Prop} {T:Tbl} {X:AV} {r:List Prop×AV}
    (ho:o.op=.unOp op xT x) (hx:Rep w I T (ρ x) X) (h:vun op X=some r):u4 P ρ o w I T r.2:=by
  unfold vun at h
  generalize hX:ρ x=vx at hx
  split at h<;>first | (injection h with h;subst h) | cases h
  · cases hx with
    | int wa=>exact .same (by simp [execOp,ho,hX,Op.unary,Op.intArith]) (.int (jP _ _))
  · cases hx with
    | int wa=>exact .same (by simp [execOp,ho,hX,Op.unary,Op.intBits,vO]) (.int (jP _ _))
  · cases hx with
    | bool=>exact .same (by simp [execOp,ho,hX,Op.unary]) .bool
end Go.Ab
