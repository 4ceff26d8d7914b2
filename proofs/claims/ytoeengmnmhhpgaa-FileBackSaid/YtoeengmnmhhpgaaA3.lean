/- A layer over the model: abstract values and states, and the rules by which the printed proofs go. No conditions. -/
import Derived.Test.YtoeengmnmhhpgaaA1
import Derived.Laws.BytesString
import Derived.Laws.Small
import Derived.WideShapes
import Derived.Lib.SliceRun
/- What the operations that only compute give: integers, truth values, strings, conversions, parts of values, places. -/
namespace Go.Ab
open Go
structure xN where
 id:Nat:=0
 n:Nat:=0
 z:Int:=0
 m:Nat:=0
 b:Bool:=false
 av:AV:=.junk
 l:List AV:=[]
 s:List Int:=[]
 ids:List Nat:=[]
 pre:List Box:=[]
 post:List Box:=[]
 lend:List Nat:=[]
 frz:List Nat:=[]
 lo:List (Nat×List Nat):=[]
 g:Bool:=true
 dep:Bool:=false
 vc:List Prop:=[]
 mag:Bool:=false
 mks:List KSh:=[]
 es:List (AV×AV):=[]
 giv:List Box:=[]
 gids:List Nat:=[]
 x:Bool:=false
 deriving Inhabited
def bytesOf (s:ByteArray):List Int:=s.data.toList.map fun c=>(c.toNat:Int)
def oO:Value→AV
 | .int k n=>.int k n
 | .bool b=>.bool b
 | .string s=>.str (bytesOf s)
 | .slice none 0 0=>.nilsl
 | .pointer none=>.nilp
 | .map none=>.fm true []
 | _=>.junk
def mP:Value→AV
 | .agg vs=>.agg (vs.toList.map oO)
 | v=>oO v
def bT:Value→Bool
 | .int k n=>decide (k.wrap n=n)
 | .bool _=>true
 | .string s=>Nat.ble s.data.size 9223372036854775807
 | .slice none 0 0=>true
 | .pointer none=>true
 | .map none=>true
 | _=>false
def iU:Value→Bool
 | .agg vs=>vs.toList.all bT
 | v=>bT v
theorem qC:maxLen=9223372036854775807:=by decide
theorem RD (s:ByteArray):w8 (bytesOf s)=s:=by
 obtain ⟨d⟩:=s
 simp only [w8,bytesOf,List.map_map]
 congr 1
 have:((fun x:Int=>UInt8.ofNat x.toNat) ∘ fun c:UInt8=>(c.toNat:Int))=id:=by
  funext c;simp
 rw [this,List.map_id]
theorem NH (s:ByteArray):∀ x∈bytesOf s,0≤x∧x<256:=by
 intro x hx
 simp only [bytesOf,List.mem_map] at hx
 obtain ⟨c,_,rfl⟩:=hx
 have:=c.toNat_lt
 omega
theorem SM {w:World} {I:Nat→Prop} {T:Tbl} {v:Value} (h:bT v=true):Rep w I T v (oO v):=by
 cases v with
 | int k n=>exact .int (of_decide_eq_true h)
 | bool b=>exact .bool
 | string s =>
  have hs:s.data.size≤9223372036854775807:=zle h
  have:=Rep.str (w:=w) (I:=I) (T:=T) (l:=bytesOf s) (NH s) (by rw [qC];simpa [bytesOf] using hs)
  rw [RD] at this
  exact this
 | slice a l c =>
  unfold bT at h
  split at h<;>simp_all
  rename_i heq
  obtain ⟨rfl,rfl,rfl⟩:=heq
  exact .nilsl
 | pointer a =>
  cases a with
  | none=>exact .nilp
  | some a=>simp [bT] at h
 | map a =>
  cases a with
  | none=>exact .fm0
  | some a=>simp [bT] at h
 | _=>simp [bT] at h
theorem O8 {v:Value} (h:bT v=true):(oO v).one=true:=by
 unfold bT at h
 split at h<;>simp_all [oO,AV.one]
theorem KE {w:World} {I:Nat→Prop} {T:Tbl} {v:Value} (h:iU v=true):Rep w I T v (mP v):=by
 cases v with
 | agg vs =>
  simp only [iU,List.all_eq_true] at h
  refine .agg (by simp) ?_ ?_
  ·intro c hc
   simp only [List.mem_map] at hc
   obtain ⟨v,hv,rfl⟩:=hc
   exact O8 (h v hv)
  ·intro j c hj
   rw [List.getElem?_map] at hj
   cases hvj:vs.toList[j]? with
   | none=>rw [hvj] at hj;cases hj
   | some v =>
    rw [hvj] at hj
    injection hj with hj
    subst hj
    have hv:v∈vs.toList:=List.mem_of_getElem? hvj
    have:vs.getD j undef=v:=by
     simp only [Array.getD_eq_getD_getElem?]
     rw [Array.getElem?_toList] at hvj
     rw [hvj];rfl
    rw [this]
    exact SM (h v hv)
 | _=>exact SM h
def xD:Operand→Bool
 | .const v=>iU v
 | _=>true
def kD (st:AS):List Operand→List (Nat×AV)
 | []=>[]
 | .tmp t::r=>(t,st.slot t)::kD st r
 | _::r=>kD st r
/-! Integers. -/
def mY:IntKind→IntKind→Bool
 | .i8,.i8 | .i16,.i16 | .i32,.i32 | .i64,.i64 | .u8,.u8 | .u16,.u16 | .u32,.u32 | .u64,.u64=>true
 | _,_=>false
theorem R3 {a b:IntKind} (h:mY a b=true):a=b:=by cases a<;>cases b<;>simp_all [mY]
def uG (k:IntKind) (x y:Int):Int:=k.wrap (BitVec.ofInt k.bits x &&& BitVec.ofInt k.bits y).toNat
def ior (k:IntKind) (x y:Int):Int:=k.wrap (BitVec.ofInt k.bits x ||| BitVec.ofInt k.bits y).toNat
def tW (k:IntKind) (x y:Int):Int:=k.wrap (BitVec.ofInt k.bits x ^^^ BitVec.ofInt k.bits y).toNat
def JM (k:IntKind) (x y:Int):Int:=k.wrap (BitVec.ofInt k.bits x &&& ~~~BitVec.ofInt k.bits y).toNat
def pP (k:IntKind) (x y:Int):Int:=k.wrap (x * 2 ^ (min y.toNat k.bits))
def qI (k:IntKind) (x y:Int):Int:=x.fdiv (2 ^ (min y.toNat k.bits))
def NS (k:IntKind) (x y:Int):Int:=k.wrap (x.tdiv y)
def mW (x y:Int):Int:=x.tmod y
theorem aL (k:IntKind) (n:Int):k.wrap (k.wrap n)=k.wrap n:=by
 cases k<;>simp only [IntKind.wrap,IntKind.bits,IntKind.signed]<;>simp<;>omega
theorem L5 (k:IntKind) (n:Int) (h:k.wrap n=n):(if k.signed then -(2 ^ (k.bits - 1):Int) else 0)≤n∧n<(if k.signed then 2 ^ (k.bits - 1) else 2 ^ k.bits):=by
 cases k<;>simp only [IntKind.wrap,IntKind.bits,IntKind.signed] at h ⊢<;>simp at h ⊢<;>omega
theorem iI (k:IntKind) (n:Int) (h:(if k.signed then -(2 ^ (k.bits - 1):Int) else 0)≤n∧n<(if k.signed then 2 ^ (k.bits - 1) else 2 ^ k.bits)):k.wrap n=n:=by
 cases k<;>simp only [IntKind.wrap,IntKind.bits,IntKind.signed] at h ⊢<;>simp at h ⊢<;>omega
theorem zAX (k:IntKind) (n m:Int) (h:k.wrap n=n) (h1:0≤n→0≤m∧m≤n) (h2:n<0→n≤m∧m<0):k.wrap m=m:=by
 have hr:=L5 k n h
 refine iI k m ?_
 rcases Int.lt_or_le n 0 with h' | h'
 ·have:=h2 h'
  cases k<;>simp only [IntKind.bits,IntKind.signed] at hr ⊢<;>simp at hr ⊢<;>omega
 ·have:=h1 h'
  cases k<;>simp only [IntKind.bits,IntKind.signed] at hr ⊢<;>simp at hr ⊢<;>omega
theorem Z4 (k:IntKind) (x y:Int) (h:k.wrap x=x):k.wrap (qI k x y)=qI k x y:=by
 have hp:(0:Int)<2 ^ (min y.toNat k.bits):=Int.pow_pos (by omega)
 have he:qI k x y=x / 2 ^ (min y.toNat k.bits):=by
  unfold qI
  rw [Int.fdiv_eq_ediv_of_nonneg]
  omega
 rw [he]
 refine zAX k x _ h ?_ ?_
 ·intro hx
  exact ⟨Int.ediv_nonneg hx (by omega),Int.ediv_le_self _ hx⟩
 ·intro hx
  refine ⟨?_,Int.ediv_neg_of_neg_of_pos hx hp⟩
  have h1:(1:Int)≤2 ^ (min y.toNat k.bits):=by omega
  rw [Int.le_ediv_iff_mul_le hp]
  have:x * 2 ^ (min y.toNat k.bits)≤x * 1:=Int.mul_le_mul_of_nonpos_left (by omega) h1
  omega
theorem U6 {x:Int} (y:Int) (hx:0≤x):x.tmod y≤x:=by
 have h1:=Int.natAbs_tmod x y
 have h2:=Nat.mod_le x.natAbs y.natAbs
 have h3:=Int.tmod_nonneg y hx
 omega
theorem VN (k:IntKind) (x y:Int) (h:k.wrap x=x):k.wrap (mW x y)=mW x y:=by
 unfold mW
 have hr:=L5 k x h
 refine iI k _ ?_
 have h1:0≤x→0≤x.tmod y∧x.tmod y≤x:=fun hx=>⟨Int.tmod_nonneg _ hx,U6 _ hx⟩
 have h2:x<0→x≤x.tmod y∧x.tmod y≤0:=fun hx=>by
  have e:x.tmod y = -((-x).tmod y):=by rw [Int.neg_tmod];omega
  have a1:=Int.tmod_nonneg y (a := -x) (by omega)
  have a2:(-x).tmod y ≤ -x:=U6 y (by omega)
  omega
 rcases Int.lt_or_le x 0 with h' | h'
 ·have:=h2 h'
  cases k<;>simp only [IntKind.bits,IntKind.signed] at hr ⊢<;>simp at hr ⊢<;>omega
 ·have:=h1 h'
  cases k<;>simp only [IntKind.bits,IntKind.signed] at hr ⊢<;>simp at hr ⊢<;>omega
end Go.Ab

/- The operations that only compute, one by one. -/
namespace Go.Ab
open Go
def jE (P:Program) (ρ:Operand→Value) (o:Oper) (w:World) (I:Nat→Prop) (T:Tbl) (av:AV):Prop :=
 ∃ v w',(execOp ρ o).run P w=.ok (.value v) w'∧w.grownBy w' none ∧
  ∀ I' T',(∀ b,I b→b<w.heap.size→I' b)→(∀ b,w.heap.size≤b→b<w'.heap.size→I' b)→T.le T'→Rep w' I' T' v av
theorem jQ (w:World):w.grownBy w none:=⟨rfl,rfl,rfl,Nat.le_refl _,fun _ _ _=>rfl⟩
theorem jE.same {P:Program} {ρ:Operand→Value} {o:Oper} {w:World} {I:Nat→Prop} {T:Tbl} {av:AV} {v:Value}
  (h:(execOp ρ o).run P w=.ok (.value v) w) (hr:Rep w I T v av):jE P ρ o w I T av :=
 ⟨v,w,h,jQ w,fun _ _ hI _ hT=>hr.mono (Nat.le_refl _) (fun _ _ _=>rfl) hI hT⟩
/-! Operators on integers, truth values and strings. -/
def LW (op:BinOp) (k:IntKind) (a:Int) (b:Int):Option (List Prop×AV) :=
 match op with
 | .add=>some ([],.int k (k.wrap (a+b)))
 | .sub=>some ([],.int k (k.wrap (a - b)))
 | .mul=>some ([],.int k (k.wrap (a * b)))
 | .quo=>some ([b≠0],.int k (NS k a b))
 | .rem=>some ([b≠0],.int k (mW a b))
 | .and=>some ([],.int k (uG k a b))
 | .or=>some ([],.int k (ior k a b))
 | .xor=>some ([],.int k (tW k a b))
 | .andNot=>some ([],.int k (JM k a b))
 | .eql=>some ([],.bool (a==b))
 | .neq=>some ([],.bool (a != b))
 | .lss=>some ([],.bool (decide (a<b)))
 | .leq=>some ([],.bool (decide (a≤b)))
 | .gtr=>some ([],.bool (decide (a>b)))
 | .geq=>some ([],.bool (decide (a≥b)))
 | _=>none
def dD:List Int→List Int→Bool
 | _,[]=>false
 | [],_::_=>true
 | a::x,b::y=>decide (a<b)||(a==b&&dD x y)
def H7 (P:Program) (t:TypeId):Bool:=match P.underlying t with | some .bool=>true | _=>false
theorem zEg {P:Program} {t:TypeId} (h:H7 P t=true):P.underlying t=some .bool:=by
 unfold H7 at h;split at h<;>simp_all
def oD (P:Program) (t:TypeId):Bool:=match P.underlying t with | some (.slice _)=>true | _=>false
theorem TR {P:Program} {t:TypeId} (h:oD P t=true):∃ e,P.underlying t=some (.slice e):=by
 unfold oD at h;split at h
 ·rename_i e he;exact ⟨e,he⟩
 ·cases h
def ED (P:Program) (t:TypeId):Bool:=match P.underlying t with | some (.map _ _)=>true | _=>false
theorem zEj {P:Program} {t:TypeId} (h:ED P t=true):∃ k e,P.underlying t=some (.map k e):=by
 unfold ED at h;split at h
 ·rename_i k e he;exact ⟨k,e,he⟩
 ·cases h
theorem zCV {P:Program} (w:World) (d:Nat) (t k e:TypeId) (p:Option Nat) (h:P.underlying t=some (.map k e)) :
  (Op.equalIn (d+1) t (.map p) (.map none)).run P w=.ok p.isNone w:=by
 cases p<;>simp [Op.equalIn,run_underlying h]
theorem RI {P:Program} (w:World) (t k e:TypeId) (p:Option Nat) (h:P.underlying t=some (.map k e)) :
  (binOp .eql t (.map p) (.map none)).run P w=.ok (.bool p.isNone) w:=by
 simp only [binOp]
 simp [show Op.equal t (.map p) (.map none)=Op.equalIn (9999+1) t (.map p) (.map none) from rfl,zCV w 9999 t k e p h]
def JY (P:Program) (op:BinOp) (xT:TypeId) (x y:AV):Option (List Prop×AV) :=
 match x,y with
 | .int k a,.int k' b =>
  match op with
  | .shl=>some ([0≤b],.int k (pP k a b))
  | .shr=>some ([0≤b],.int k (qI k a b))
  | op=>bif mY k k' then LW op k a b else none
 | .bool a,.bool b =>
  bif H7 P xT then
   match op with
   | .eql=>some ([],.bool (a==b))
   | .neq=>some ([],.bool (!(a==b)))
   | _=>none
  else none
 | .str a,.str b =>
  match op with
  | .eql=>some ([],.bool (a==b))
  | .neq=>some ([],.bool (!(a==b)))
  | .lss=>some ([],.bool (dD a b))
  | .leq=>some ([],.bool (dD a b||a==b))
  | .gtr=>some ([],.bool !(dD a b||a==b))
  | .geq=>some ([],.bool !(dD a b))
  | .add=>some ([a.length+b.length≤9223372036854775807],.str (a++b))
  | _=>none
 | .sl _ _ l,.nilsl =>
  match op with
  | .eql=>bif oD P xT then some ([],.nb l) else none
  | _=>none
 | .fm n _,.fm true [] =>
  match op with
  | .eql=>bif ED P xT then some ([],.bool n) else none
  | _=>none
 | _,_=>none
theorem GK (l:List Int):(w8 l).toList=l.map fun x=>UInt8.ofNat x.toNat:=by
 rw [ByteArray.toList_eq];simp [w8]
theorem fK (l:List Int):(w8 l).size=l.length:=by simp [w8,ByteArray.size]
theorem OI {a b:Int} (ha:0≤a∧a<256) (hb:0≤b∧b<256):UInt8.ofNat a.toNat=UInt8.ofNat b.toNat↔a=b:=by
 constructor
 ·intro h
  have h1:(UInt8.ofNat a.toNat).toNat=(UInt8.ofNat b.toNat).toNat:=by rw [h]
  simp only [UInt8.toNat_ofNat'] at h1
  omega
 ·intro h;rw [h]
theorem zBt {a b:Int} (ha:0≤a∧a<256) (hb:0≤b∧b<256):(UInt8.ofNat a.toNat<UInt8.ofNat b.toNat)↔a<b:=by
 rw [UInt8.lt_iff_toNat_lt]
 simp only [UInt8.toNat_ofNat']
 omega
theorem zA5 {a b:List Int} (ha:∀ x∈a,0≤x∧x<256) (hb:∀ x∈b,0≤x∧x<256) :
  ((w8 a).toList==(w8 b).toList)=(a==b):=by
 rw [GK,GK]
 induction a generalizing b with
 | nil=>cases b<;>simp
 | cons x r ih =>
  cases b with
  | nil=>simp
  | cons y s =>
   have h1:=ih (b:=s) (fun z hz=>ha z (by simp [hz])) (fun z hz=>hb z (by simp [hz]))
   simp only [List.map_cons,List.cons_beq_cons,h1]
   congr 1
   rw [Bool.eq_iff_iff]
   simp only [beq_iff_eq]
   exact OI (ha x (by simp)) (hb y (by simp))
theorem ZS {a b:List Int} (ha:∀ x∈a,0≤x∧x<256) (hb:∀ x∈b,0≤x∧x<256) :
  Op.bytesLess (w8 a).toList (w8 b).toList=dD a b:=by
 rw [GK,GK]
 induction a generalizing b with
 | nil=>cases b<;>simp [Op.bytesLess,dD]
 | cons x r ih =>
  cases b with
  | nil=>simp [Op.bytesLess,dD]
  | cons y s =>
   have h1:=ih (b:=s) (fun z hz=>ha z (by simp [hz])) (fun z hz=>hb z (by simp [hz]))
   simp only [List.map_cons,Op.bytesLess,dD,h1]
   have e1:=OI (ha x (by simp)) (hb y (by simp))
   have e2:=zBt (ha x (by simp)) (hb y (by simp))
   congr 1
   ·rw [Bool.eq_iff_iff];simp only [decide_eq_true_eq];exact e2
   ·congr 1;rw [Bool.eq_iff_iff];simp only [beq_iff_eq];exact e1
theorem pN {P:Program} {op:BinOp} {xT yT:TypeId} {x y:Operand} {ρ:Operand→Value} {o:Oper} {w:World} {X Y v:Value}
  (ho:o.op=.binOp op xT x y yT) (hX:ρ x=X) (hY:ρ y=Y) (hg:(eqGuard op xT x y X Y).run P w=.ok () w) (hb:(binOp op xT X Y).run P w=.ok v w) :
  (execOp ρ o).run P w=.ok (.value v) w:=by
 simp only [execOp,ho,hX,hY,Sem.run_bind,hg,Result.andThen_ok,hb]
 rfl
theorem nM {P:Program} {op:BinOp} {xT:TypeId} {x y:Operand} {w:World} {X Y:Value} (hX:match X with | .nilIface | .agg _=>False | _=>True) :
  (eqGuard op xT x y X Y).run P w=.ok () w:=by
 unfold eqGuard
 cases X<;>first | exact hX.elim | (cases op<;>cases Y<;>simp)
theorem W6 {P:Program} {op:BinOp} {k:IntKind} {a b:Int} {xT:TypeId} {w:World} {I:Nat→Prop} {T:Tbl} {r:List Prop×AV}
  (h:LW op k a b=some r) (hv:∀ p∈r.1,p) (wa:k.wrap a=a):∃ v,(binOp op xT (.int k a) (.int k b)).run P w=.ok v w∧Rep w I T v r.2:=by
 cases op<;>simp only [LW,Option.some.injEq,reduceCtorEq] at h<;>subst h
 case add=>exact ⟨_,by simp [binOp,Op.intArith],.int (aL _ _)⟩
 case sub=>exact ⟨_,by simp [binOp,Op.intArith],.int (aL _ _)⟩
 case mul=>exact ⟨_,by simp [binOp,Op.intArith],.int (aL _ _)⟩
 case and=>exact ⟨.int k (uG k a b),by simp [binOp,Op.intBits,uG],.int (aL _ _)⟩
 case or=>exact ⟨.int k (ior k a b),by simp [binOp,Op.intBits,ior],.int (aL _ _)⟩
 case xor=>exact ⟨.int k (tW k a b),by simp [binOp,Op.intBits,tW],.int (aL _ _)⟩
 case andNot=>exact ⟨.int k (JM k a b),by simp [binOp,Op.intBits,JM],.int (aL _ _)⟩
 case quo =>
  have h0:b≠0:=hv _ (by simp)
  exact ⟨.int k (NS k a b),by simp [binOp,Op.intDiv,NS,h0],.int (aL _ _)⟩
 case rem =>
  have h0:b≠0:=hv _ (by simp)
  exact ⟨.int k (mW a b),by simp [binOp,Op.intDiv,mW,h0],.int (VN _ _ _ wa)⟩
 all_goals exact ⟨_,by simp [binOp,Op.intCmp],.bool⟩
theorem zA8 {P:Program} {op:BinOp} {xT yT:TypeId} {x y:Operand} {ρ:Operand→Value} {o:Oper} {w:World} {I:Nat→Prop} {T:Tbl} {X Y:AV} {r:List Prop×AV}
  (ho:o.op=.binOp op xT x y yT) (hx:Rep w I T (ρ x) X) (hy:Rep w I T (ρ y) Y) (h:JY P op xT X Y=some r) (hv:∀ p∈r.1,p):jE P ρ o w I T r.2:=by
 unfold JY at h
 split at h
 ·rename_i k a k' b
  generalize hX:ρ x=vx at hx
  generalize hY:ρ y=vy at hy
  cases hx with
  | int wa =>
  cases hy with
  | int wb =>
  split at h
  ·injection h with h;subst h
   have h0:0≤b:=hv _ (by simp)
   exact .same (pN ho hX hY (nM trivial) (by simp [binOp,Op.shift,pP,Int.not_lt.2 h0])) (.int (aL _ _))
  ·injection h with h;subst h
   have h0:0≤b:=hv _ (by simp)
   exact .same (pN ho hX hY (nM trivial) (by simp [binOp,Op.shift,qI,Int.not_lt.2 h0])) (.int (Z4 _ _ _ wa))
  ·rename_i hns hnr
   cases hk:mY k k'
   ·rw [hk] at h;cases h
   ·rw [hk] at h
    have:=R3 hk
    subst this
    simp only [cond_true] at h
    obtain ⟨v,h1,h2⟩:=W6 (P:=P) (xT:=xT) (w:=w) (I:=I) (T:=T) h hv wa
    exact .same (pN ho hX hY (nM trivial) h1) h2
 ·rename_i a b
  generalize hX:ρ x=vx at hx
  generalize hY:ρ y=vy at hy
  cases hx with
  | bool =>
  cases hy with
  | bool =>
  cases hb:H7 P xT
  ·rw [hb] at h;cases h
  ·rw [hb] at h
   simp only [cond_true] at h
   have ht:=zEg hb
   split at h<;>first | (injection h with h;subst h) | cases h
   ·exact .same (pN ho hX hY (nM trivial) (run_eql_bool w xT a b ht)) .bool
   ·exact .same (pN ho hX hY (nM trivial) (run_neq_bool w xT a b ht)) .bool
 ·rename_i a b
  generalize hX:ρ x=vx at hx
  generalize hY:ρ y=vy at hy
  cases hx with
  | str ra la =>
  cases hy with
  | str rb lb =>
  have e1:=zA5 ra rb
  have e2:=ZS ra rb
  split at h<;>first | (injection h with h;subst h) | cases h
  iterate 6 (exact .same (pN ho hX hY (nM trivial) (by simp only [binOp,Op.stringOp,e1,e2];rfl)) .bool)
  have h0:a.length+b.length≤9223372036854775807:=hv _ (by simp)
  refine .same (pN (v:=.string (w8 (a++b))) ho hX hY (nM trivial) ?_) (.str (fun z hz=>?_) (by rw [qC];simpa using h0))
  ·have:¬ ((((w8 a).size+(w8 b).size:Nat):Int)>IntKind.i64.max):=by
    rw [fK,fK]
    have:IntKind.i64.max=9223372036854775807:=by decide
    omega
   have hcat:w8 a++w8 b=w8 (a++b):=by
    simp only [w8,List.map_append]
    apply WideShapes.bytes_inj
    simp
   simp only [binOp,Op.stringOp,this,hcat]
   simp
  ·rcases List.mem_append.1 hz with h | h
   ·exact ra z h
   ·exact rb z h
 ·rename_i f sz l
  split at h
  case h_2=>cases h
  cases hs:oD P xT
  ·rw [hs] at h;cases h
  rw [hs] at h;injection h with h;subst h
  obtain ⟨e,he⟩:=TR hs
  generalize hX:ρ x=vx at hx
  generalize hY:ρ y=vy at hy
  have hy':vy=.slice none 0 0:=by
   generalize hn:AV.nilsl=n at hy
   cases hy<;>first | rfl | cases hn
  subst hy'
  cases hx with
  | sl0 h1 h2=>exact .same (pN ho hX hY (nM trivial) (Lib.run_eql_slice_nil w xT e _ _ _ _ _ he)) (.nb fun _=>rfl)
  | sl g h1=>exact .same (pN ho hX hY (nM trivial) (Lib.run_eql_slice_nil w xT e _ _ _ _ _ he)) (.nb fun h=>by cases h)
 ·rename_i n l
  split at h
  case h_2=>cases h
  cases hs:ED P xT
  ·rw [hs] at h;cases h
  rw [hs] at h;injection h with h;subst h
  obtain ⟨k,e,he⟩:=zEj hs
  generalize hX:ρ x=vx at hx
  generalize hY:ρ y=vy at hy
  have hy':vy=.map none:=by
   cases hy;rfl
  subst hy'
  cases hx with
  | fm0=>exact .same (pN ho hX hY (nM trivial) (RI w xT k e _ he)) .bool
  | fm gk gv h1=>exact .same (pN ho hX hY (nM trivial) (RI w xT k e _ he)) .bool
 ·cases h
def vun (op:UnOp) (x:AV):Option (List Prop×AV) :=
 match op,x with
 | .neg,.int k n=>some ([],.int k (k.wrap (0 - n)))
 | .xor,.int k n=>some ([],.int k (tW k (if k.signed then -1 else k.max) n))
 | .not,.bool b=>some ([],.bool !b)
 | _,_=>none
theorem zBZ {P:Program} {op:UnOp} {xT:TypeId} {x:Operand} {ρ:Operand→Value} {o:Oper} {w:World} {I:Nat→Prop} {T:Tbl} {X:AV} {r:List Prop×AV}
  (ho:o.op=.unOp op xT x) (hx:Rep w I T (ρ x) X) (h:vun op X=some r):jE P ρ o w I T r.2:=by
 unfold vun at h
 generalize hX:ρ x=vx at hx
 split at h<;>first | (injection h with h;subst h) | cases h
 ·cases hx with
  | int wa=>exact .same (by simp [execOp,ho,hX,Op.unary,Op.intArith]) (.int (aL _ _))
 ·cases hx with
  | int wa=>exact .same (by simp [execOp,ho,hX,Op.unary,Op.intBits,tW]) (.int (aL _ _))
 ·cases hx with
  | bool=>exact .same (by simp [execOp,ho,hX,Op.unary]) .bool
end Go.Ab

/- Operations that read memory or take values apart. -/
namespace Go.Ab
open Go
def vG (P:Program) (t:TypeId):Bool:=match P.underlying t with | some (.struct _)=>true | some (.array _ _)=>true | _=>false
def vS (P:Program) (t:TypeId):Bool:=(P.underlying t).isSome&&(P.info? t).isSome
def szT (P:Program) (t:TypeId):Nat:=match P.info? t with | some i=>i.size | none=>0
theorem H3 {P:Program} {t:TypeId} (h:vS P t=true) (w:World):(isAgg t).run P w=.ok (vG P t) w:=by
 simp only [vS,zba,Option.isSome_iff_exists] at h
 obtain ⟨⟨d,hd⟩,_⟩:=h
 simp only [isAgg,Sem.run_bind,run_underlying hd,Result.andThen_ok,vG,hd]
 cases d<;>rfl
theorem jF {P:Program} {t:TypeId} (h:vS P t=true) (w:World):(sizeOf t).run P w=.ok (szT P t) w:=by
 simp only [vS,zba,Option.isSome_iff_exists] at h
 obtain ⟨_,⟨i,hi⟩⟩:=h
 simp [sizeOf,typeInfo,hi,szT]
def aV (P:Program) (t:TypeId) (cs:List AV) (off:Nat):Option AV :=
 bif vG P t then
  bif Nat.ble (off+szT P t) cs.length then some (.agg ((cs.drop off).take (szT P t))) else none
 else cs[off]?
theorem oS {P:Program} {t:TypeId} {cs:List AV} {off:Nat} {av:AV} (h:aV P t cs off=some av) (h1:∀ c∈cs,c.one=true) :
  (vG P t=true→av=.agg av.cells∧av.cells.length=szT P t)∧(vG P t=false→av.cells=[av])∧(∀ j c,av.cells[j]?=some c→cs[off+j]?=some c)∧(∀ c∈av.cells,c.one=true):=by
 unfold aV at h
 cases ha:vG P t
 ·rw [ha] at h
  simp only [cond_false] at h
  have hm:=List.mem_of_getElem? h
  have h1':=h1 _ hm
  have hc:av.cells=[av]:=by cases av<;>simp_all [AV.one,AV.cells]
  refine ⟨by simp,fun _=>hc,?_,?_⟩
  ·intro j c hj
   rw [hc] at hj
   cases j with
   | zero=>simp at hj;subst hj;simpa using h
   | succ j=>simp at hj
  ·rw [hc];simpa using h1'
 ·rw [ha] at h
  simp only [cond_true] at h
  cases hb:Nat.ble (off+szT P t) cs.length
  ·rw [hb] at h;cases h
  ·rw [hb] at h
   injection h with h
   subst h
   have hle:=zle hb
   refine ⟨fun _=>⟨rfl,by simp [AV.cells];omega⟩,by simp,?_,?_⟩
   ·intro j c hj
    simp only [AV.cells,List.getElem?_take,List.getElem?_drop] at hj
    split at hj
    ·exact hj
    ·cases hj
   ·intro c hc
    exact h1 c (List.mem_of_mem_drop (List.mem_of_mem_take hc))
theorem K3 {P:Program} {t:TypeId} {w:World} {b off:Nat} {av:AV} {g:Nat→Value} (hk:vS P t=true)
  (ha:vG P t=true→av=.agg av.cells∧av.cells.length=szT P t) (hn:vG P t=false→av.cells=[av])
  (hc:∀ j c,av.cells[j]?=some c→w.cell? ⟨b,off+j,none⟩=some (g j)) {I:Nat→Prop} {T:Tbl}
  (h1:∀ c∈av.cells,c.one=true)
  (hr:∀ j c,av.cells[j]?=some c→Rep w I T (g j) c):∃ v,(loadVar t ⟨b,off,none⟩).run P w=.ok v w∧Rep w I T v av:=by
 have hadd:∀ j,(⟨b,off,none⟩:Addr).add j=⟨b,off+j,none⟩:=fun j=>by unfold Addr.add;split<;>simp_all
 cases hA:vG P t
 ·have hcs:=hn hA
  have h0:=hc 0 av (by rw [hcs];rfl)
  refine ⟨g 0,?_,hr 0 av (by rw [hcs];rfl)⟩
  have h0':w.cell? ⟨b,off,none⟩=some (g 0):=by simpa using h0
  simp only [loadVar,Sem.run_bind,H3 hk,Result.andThen_ok,hA]
  simp [run_load,h0']
 ·obtain ⟨hav,hl⟩:=ha hA
  have hload:=run_loadCells (P:=P) w ⟨b,off,none⟩ (szT P t) g (fun j hj=>by
   rw [hadd]
   have:j<av.cells.length:=by omega
   exact hc j av.cells[j] (List.getElem?_eq_getElem this))
  refine ⟨.agg ((List.range (szT P t)).map g).toArray,?_,?_⟩
  ·simp only [loadVar,Sem.run_bind,H3 hk,jF hk,Result.andThen_ok,hA,if_true,hload]
   rfl
  ·rw [hav]
   refine .agg (by simp [hl]) (by simpa [AV.cells] using h1) ?_
   intro j c hj
   have hlt:j<szT P t:=by
    rcases zlg j (szT P t) with h | h
    ·exact h
    ·rw [List.getElem?_eq_none (by rw [hl];exact h)] at hj;cases hj
   have:(((List.range (szT P t)).map g).toArray).getD j undef=g j:=by
    simp [Array.getD_eq_getD_getElem?,hlt]
   rw [this]
   exact hr j c hj
def AU (P:Program) (s:TypeId) (f:Nat):Option Field :=
 match P.underlying s with
 | some (.struct fs)=>fs[f]?
 | _=>none
def K9 (P:Program) (s:TypeId) (x:AV) (f:Nat):Option (List Prop×AV) :=
 match AU P s f with
 | none=>none
 | some fd =>
  bif vS P fd.type&&!(Nat.beq (szT P fd.type) 0) then
   match x with
   | .ref (.agg cs)=>match aV P fd.type cs fd.offset with
    | some av=>some ([],.ref av)
    | none=>none
   | .ptr id sz i off=>some ([],.ptr id sz i (off+fd.offset))
   | _=>none
  else none
theorem S6 {P:Program} {s:TypeId} {f:Nat} {fd:Field} {b off:Nat} {w:World} (hf:AU P s f=some fd) (hk:vS P fd.type=true) (hz:szT P fd.type≠0) :
  (Instr.fieldAt s (.pointer (some ⟨b,off,none⟩)) f).run P w=.ok (.pointer (some ⟨b,off+fd.offset,none⟩)) w:=by
 unfold AU at hf
 split at hf
 ·rename_i fs hu
  have hadd:(⟨b,off,none⟩:Addr).add fd.offset=⟨b,off+fd.offset,none⟩:=by unfold Addr.add;split<;>simp_all
  simp only [Instr.fieldAt,Sem.run_bind,run_underlying hu,Result.andThen_ok,hf,Instr.sureAddr,Sem.run_pure,fieldPlace,jF hk,if_neg hz,hadd]
 ·cases hf
theorem X3 {P:Program} {s:TypeId} {x:Operand} {f:Nat} {ρ:Operand→Value} {o:Oper} {w:World} {I:Nat→Prop} {T:Tbl} {X:AV} {r:List Prop×AV}
  (ho:o.op=.fieldAddr s x f) (hx:Rep w I T (ρ x) X) (h:K9 P s X f=some r):jE P ρ o w I T r.2:=by
 unfold K9 at h
 split at h
 ·cases h
 rename_i fd hf
 cases hc:(vS P fd.type&&!(Nat.beq (szT P fd.type) 0))
 ·rw [hc] at h;cases h
 rw [hc] at h
 simp only [zba,Bool.not_eq_true'] at hc
 have hz:szT P fd.type≠0:=fun e=>by rw [e] at hc;simp at hc
 simp only [cond_true] at h
 generalize hX:ρ x=vx at hx
 split at h
 ·rename_i cs
  cases hx with
  | ref g hI hb h1 h2 h3 =>
  rename_i b off
  split at h
  ·rename_i av hav
   injection h with h;subst h
   obtain ⟨_,_,hsub,hone⟩:=oS hav h1
   refine .same (v:=.pointer (some ⟨b,off+fd.offset,none⟩)) ?_ (.ref (fun j=>g (fd.offset+j)) hI hb hone ?_ ?_)
   ·simp only [execOp,ho,hX,Sem.run_bind,S6 hf hc.1 hz,Result.andThen_ok];rfl
   ·intro j c hj
    rw [Nat.add_assoc]
    exact h2 _ _ (hsub j c hj)
   ·intro j c hj
    exact h3 _ _ (hsub j c hj)
  ·cases h
 ·injection h with h;subst h
  cases hx with
  | ptr hT ho' =>
  rename_i o' b' c'
  refine .same (v:=.pointer (some ⟨b',o'+fd.offset,none⟩)) ?_ (.ptr hT (by omega))
  simp only [execOp,ho,hX,Sem.run_bind,S6 hf hc.1 hz,Result.andThen_ok];rfl
 ·cases h
theorem QP {P:Program} {t:TypeId} {w:World} {cs:List AV} {vs:Array Value} {off:Nat} {av:AV} {I:Nat→Prop} {T:Tbl} (hk:vS P t=true)
  (h1:∀ c∈cs,c.one=true) (hs:vs.size=cs.length) (hr:∀ j c,cs[j]?=some c→Rep w I T (vs.getD j undef) c) (h:aV P t cs off=some av) :
  ∃ v,(part t vs off).run P w=.ok v w∧Rep w I T v av:=by
 obtain ⟨ha,hn,hsub,hone⟩:=oS h h1
 cases hA:vG P t
 ·have hcs:=hn hA
  have h0:=hsub 0 av (by rw [hcs];rfl)
  simp only [Nat.add_zero] at h0
  have hlt:off<vs.size:=by
   rcases zlg off vs.size with h' | h'
   ·exact h'
   ·rw [List.getElem?_eq_none (by omega)] at h0;cases h0
  refine ⟨vs[off],?_,?_⟩
  ·simp only [part,Sem.run_bind,H3 hk,Result.andThen_ok,hA]
   simp [hlt]
  ·have:=hr _ _ h0
   simpa [Array.getD_eq_getD_getElem?,hlt] using this
 ·obtain ⟨hav,hl⟩:=ha hA
  have hle:off+szT P t≤vs.size:=by
   unfold aV at h
   rw [hA] at h
   simp only [cond_true] at h
   cases hb:Nat.ble (off+szT P t) cs.length
   ·rw [hb] at h;cases h
   ·have:=zle hb;omega
  refine ⟨.agg (vs.extract off (off+szT P t)),?_,?_⟩
  ·simp only [part,Sem.run_bind,H3 hk,jF hk,Result.andThen_ok,hA,if_true]
   rfl
  ·rw [hav]
   refine .agg (by simp [hl];omega) (by simpa [AV.cells] using hone) ?_
   intro j c hj
   have hlt:j<szT P t:=by
    rcases zlg j (szT P t) with h | h
    ·exact h
    ·rw [List.getElem?_eq_none (by rw [hl];exact h)] at hj;cases hj
   have e:(vs.extract off (off+szT P t)).getD j undef=vs.getD (off+j) undef:=by
    simp only [Array.getD_eq_getD_getElem?,Array.getElem?_extract]
    rw [if_pos (by omega)]
   rw [e]
   exact hr _ _ (hsub j c hj)
def MH (P:Program) (s:TypeId) (x:AV) (f:Nat):Option (List Prop×AV) :=
 match AU P s f with
 | none=>none
 | some fd =>
  bif vS P fd.type then
   match x with
   | .agg cs=>match aV P fd.type cs fd.offset with
    | some av=>some ([],av)
    | none=>none
   | _=>none
  else none
theorem zB2 {P:Program} {s:TypeId} {x:Operand} {f:Nat} {ρ:Operand→Value} {o:Oper} {w:World} {I:Nat→Prop} {T:Tbl} {X:AV} {r:List Prop×AV}
  (ho:o.op=.field s x f) (hx:Rep w I T (ρ x) X) (h:MH P s X f=some r):jE P ρ o w I T r.2:=by
 unfold MH at h
 split at h
 ·cases h
 rename_i fd hf
 cases hc:vS P fd.type
 ·rw [hc] at h;cases h
 rw [hc] at h
 simp only [cond_true] at h
 generalize hX:ρ x=vx at hx
 split at h
 ·rename_i cs
  cases hx with
  | agg hs h1 h2 =>
  rename_i vs
  split at h
  ·rename_i av hav
   injection h with h;subst h
   obtain ⟨v,hrun,hrep⟩:=QP hc h1 hs h2 hav
   refine .same (v:=v) ?_ hrep
   unfold AU at hf
   split at hf
   ·rename_i fs hu
    simp only [execOp,ho,hX,Instr.field,Sem.run_bind,run_underlying hu,Result.andThen_ok,hf,asAgg,Sem.run_pure,hrun]
   ·cases hf
  ·cases h
 ·cases h
def KA (P:Program) (t:TypeId) (x:AV):Option (List Prop×AV) :=
 match x with
 | .ref av =>
  bif vS P t then
   bif vG P t then
    match av with
    | .agg cs=>bif Nat.beq cs.length (szT P t) then some ([],.agg cs) else none
    | _=>none
   else
    match av with
    | .agg _=>none
    | av=>some ([],av)
  else none
 | _=>none
theorem zDt {P:Program} {t:TypeId} {x:Operand} {ρ:Operand→Value} {o:Oper} {w:World} {I:Nat→Prop} {T:Tbl} {X:AV} {r:List Prop×AV}
  (ho:o.op=.load t x) (hx:Rep w I T (ρ x) X) (h:KA P t X=some r):jE P ρ o w I T r.2:=by
 unfold KA at h
 generalize hX:ρ x=vx at hx
 split at h
 ·rename_i av
  cases hk:vS P t
  ·rw [hk] at h;cases h
  rw [hk] at h
  simp only [cond_true] at h
  cases hx with
  | ref g hI hb h1 h2 h3 =>
  rename_i b off
  have key:∀ {av':AV},av'=av→(vG P t=true→av=.agg av.cells∧av.cells.length=szT P t)→(vG P t=false→av.cells=[av])→jE P ρ o w I T av':=by
   intro av' e ha hn
   subst e
   obtain ⟨v,hrun,hrep⟩:=K3 hk ha hn h2 h1 (fun j c hj=>(h3 j c hj).mono (Nat.le_refl _) (fun _ _ _=>rfl) (fun _ h _=>h) (T':=T) (fun i p hp=>by simp [Tbl.empty] at hp))
   refine .same (v:=v) ?_ hrep
   simp only [execOp,ho,hX,Instr.loadAt,Instr.sureAddr,Sem.run_bind,Sem.run_pure,Result.andThen_ok,hrun]
  cases hA:vG P t
  ·rw [hA] at h
   simp only [cond_false] at h
   split at h
   ·cases h
   ·rename_i hna
    injection h with h;subst h
    refine key rfl (by rw [hA];simp) (fun _=>?_)
    cases av<;>first | rfl | exact (hna _ rfl).elim
  ·rw [hA] at h
   simp only [cond_true] at h
   split at h
   ·rename_i cs
    cases hb:Nat.beq cs.length (szT P t)
    ·rw [hb] at h;cases h
    ·rw [hb] at h
     injection h with h;subst h
     exact key rfl (fun _=>⟨rfl,x6.1 hb⟩) (by rw [hA];simp)
   ·cases h
 ·cases h
end Go.Ab

/- Places in slices and arrays, parts of slices and strings, lengths. -/
namespace Go.Ab
open Go
def bW (l:List AV) (i:Int):Option AV:=if 0≤i then l[i.toNat]? else none
def HL (l:List Int) (i:Int):Option Int:=if 0≤i then l[i.toNat]? else none
theorem zBv {l:List AV} {i:Int} {av:AV} (h:bW l i=some av):0≤i∧i<l.length∧l[i.toNat]?=some av:=by
 unfold bW at h
 split at h
 ·rename_i h0
  have:i.toNat<l.length:=by
   rcases zlg i.toNat l.length with h' | h'
   ·exact h'
   ·rw [List.getElem?_eq_none h'] at h;cases h
  exact ⟨h0,by omega,h⟩
 ·cases h
theorem YI {l:List Int} {i:Int} {c:Int} (h:HL l i=some c):0≤i∧i<l.length∧l[i.toNat]?=some c:=by
 unfold HL at h
 split at h
 ·rename_i h0
  have:i.toNat<l.length:=by
   rcases zlg i.toNat l.length with h' | h'
   ·exact h'
   ·rw [List.getElem?_eq_none h'] at h;cases h
  exact ⟨h0,by omega,h⟩
 ·cases h
theorem aB (b off j:Nat):(⟨b,off,none⟩:Addr).add j=⟨b,off+j,none⟩:=by unfold Addr.add;split<;>simp_all
def K6 (P:Program) (t:TypeId) (x ix:AV) (h:xN):Option (List Prop×AV) :=
 match ix with
 | .int _ i =>
  match P.underlying t with
  | some (.slice e) =>
   bif vS P e then
    match x with
    | .sl _ sz l=>bif Nat.beq sz (szT P e) then some ([bW l i=some h.av],.ref h.av) else none
    | .own id n=>some ([0≤i,i<n],.ptr id (szT P e) i.toNat 0)
    | .part id sz lo hi=>bif Nat.beq sz (szT P e) then some ([0≤i,i<(hi:Int) - lo],.ptr id sz (lo+i.toNat) 0) else none
    | _=>none
   else none
  | some (.array n e) =>
   bif vS P e then
    match x with
    | .ref (.agg cs) =>
     match aV P e cs (i.toNat * szT P e) with
     | some av=>some ([0≤i,i<n],.ref av)
     | none=>none
    | .ptr id sz j off =>
     bif h.b then
      bif Nat.beq j 0&&Nat.beq off 0 then some ([0≤i,i<n],.ptr id (szT P e) i.toNat 0) else none
     else some ([0≤i,i<n],.ptr id sz j (off+i.toNat * szT P e))
    | _=>none
   else none
  | _=>none
 | _=>none
theorem KV {P:Program} {t e:TypeId} {k:IntKind} {i:Int} {b off n cap:Nat} {w:World} (hu:P.underlying t=some (.slice e)) (hk:vS P e=true)
  (h0:0≤i) (h1:i<n):(Instr.indexAt t (.slice (some ⟨b,off,none⟩) n cap) (.int k i)).run P w=.ok (.pointer (some ⟨b,off+i.toNat * szT P e,none⟩)) w:=by
 simp [Instr.indexAt,asIntOf,run_underlying hu,h0,h1,jF hk,aB]
theorem JI {P:Program} {t e:TypeId} {k:IntKind} {i:Int} {b off n:Nat} {w:World} (hu:P.underlying t=some (.array n e)) (hk:vS P e=true)
  (h0:0≤i) (h1:i<n):(Instr.indexAt t (.pointer (some ⟨b,off,none⟩)) (.int k i)).run P w=.ok (.pointer (some ⟨b,off+i.toNat * szT P e,none⟩)) w:=by
 simp [Instr.indexAt,asIntOf,run_underlying hu,h0,h1,jF hk,aB,Instr.sureAddr]
theorem zA1 {P:Program} {t:TypeId} {x ix:Operand} {ρ:Operand→Value} {o:Oper} {w:World} {I:Nat→Prop} {T:Tbl} {X IX:AV} {hn:xN} {r:List Prop×AV}
  (ho:o.op=.indexAddr t x ix) (hx:Rep w I T (ρ x) X) (hix:Rep w I T (ρ ix) IX) (h:K6 P t X IX hn=some r) (hv:∀ p∈r.1,p):jE P ρ o w I T r.2:=by
 unfold K6 at h
 generalize hX:ρ x=vx at hx
 generalize hIX:ρ ix=vi at hix
 split at h
 ·rename_i k i
  cases hix with
  | int wi =>
  split at h
  ·rename_i e hu
   cases hk:vS P e
   ·rw [hk] at h;cases h
   rw [hk] at h
   simp only [cond_true] at h
   split at h
   ·rename_i full sz l
    cases hb:Nat.beq sz (szT P e)
    ·rw [hb] at h;cases h
    rw [hb] at h
    injection h with h;subst h
    have hsz:=x6.1 hb
    have hidx:bW l i=some hn.av:=hv _ (by simp)
    obtain ⟨h0,h1,hget⟩:=zBv hidx
    cases hx with
    | sl0=>simp at h1;omega
    | sl g e1 e2 e3 e4 e5 e6 e7 e8 e9 e10 =>
    rename_i b off cap n
    refine .same (v:=.pointer (some ⟨b,off+i.toNat * szT P e,none⟩)) ?_ (.ref (g i.toNat) e7 e8 ?_ ?_ ?_)
    ·simp only [execOp,ho,hX,hIX,Sem.run_bind,KV (n:=n) hu hk h0 (by omega),Result.andThen_ok];rfl
    ·exact e6 _ (List.mem_of_getElem? hget)
    ·intro j c hj
     rw [← hsz]
     exact e9 _ _ _ _ hget hj
    ·intro j c hj
     exact e10 _ _ _ _ hget hj
   ·rename_i id n
    injection h with h;subst h
    have h0:0≤i:=hv _ (by simp)
    have h1:i<n:=hv _ (by simp)
    cases hx with
    | ownNil=>simp at h1;omega
    | own hT hn1 hn2 =>
    rename_i b cap
    refine .same (v:=.pointer (some ⟨b,0+i.toNat * szT P e,none⟩)) ?_ (.ptr hT (by omega))
    simp only [execOp,ho,hX,hIX,Sem.run_bind,KV hu hk h0 h1,Result.andThen_ok];rfl
   ·rename_i id sz lo hi
    cases hb:Nat.beq sz (szT P e)
    ·rw [hb] at h;cases h
    rw [hb] at h
    injection h with h;subst h
    have hsz:=x6.1 hb
    have h0:0≤i:=hv _ (by simp)
    have h1:i<(hi:Int) - lo:=hv _ (by simp)
    cases hx with
    | part0=>omega
    | part hT p1 p2 p3 p4 p5 p6 =>
    rename_i o n c b cap
    refine .same (v:=.pointer (some ⟨b,o+i.toNat * szT P e,none⟩)) ?_ (.ptr hT (by rw [← hsz,p6,Nat.add_zero,Nat.add_mul]))
    simp only [execOp,ho,hX,hIX,Sem.run_bind,KV (n:=n) hu hk h0 (by omega),Result.andThen_ok];rfl
   ·cases h
  ·rename_i n e hu
   cases hk:vS P e
   ·rw [hk] at h;cases h
   rw [hk] at h
   simp only [cond_true] at h
   split at h
   ·rename_i cs
    split at h
    ·rename_i av hav
     injection h with h;subst h
     have h0:0≤i:=hv _ (by simp)
     have h1:i<n:=hv _ (by simp)
     cases hx with
     | ref g hI hb e1 e2 e3 =>
     rename_i b off
     obtain ⟨_,_,hsub,hone⟩:=oS hav e1
     refine .same (v:=.pointer (some ⟨b,off+i.toNat * szT P e,none⟩)) ?_ (.ref (fun j=>g (i.toNat * szT P e+j)) hI hb hone ?_ ?_)
     ·simp only [execOp,ho,hX,hIX,Sem.run_bind,JI hu hk h0 h1,Result.andThen_ok];rfl
     ·intro j c hj
      rw [Nat.add_assoc]
      exact e2 _ _ (hsub j c hj)
     ·intro j c hj
      exact e3 _ _ (hsub j c hj)
    ·cases h
   ·rename_i id sz j off
    cases hx with
    | ptr hT ho' =>
    rename_i o b cap
    cases hb:hn.b
    ·rw [hb] at h
     injection h with h;subst h
     have h0:0≤i:=hv _ (by simp)
     have h1:i<n:=hv _ (by simp)
     refine .same (v:=.pointer (some ⟨b,o+i.toNat * szT P e,none⟩)) ?_ (.ptr hT (by omega))
     simp only [execOp,ho,hX,hIX,Sem.run_bind,JI hu hk h0 h1,Result.andThen_ok];rfl
    ·rw [hb] at h
     simp only [cond_true] at h
     cases hz:(Nat.beq j 0&&Nat.beq off 0)
     ·rw [hz] at h;cases h
     rw [hz] at h
     simp only [zba] at hz
     have z1:=x6.1 hz.1
     have z2:=x6.1 hz.2
     injection h with h;subst h
     have h0:0≤i:=hv _ (by simp)
     have h1:i<n:=hv _ (by simp)
     refine .same (v:=.pointer (some ⟨b,o+i.toNat * szT P e,none⟩)) ?_ (.ptr hT (by rw [ho',z1,z2];omega))
     simp only [execOp,ho,hX,hIX,Sem.run_bind,JI hu hk h0 h1,Result.andThen_ok];rfl
   ·cases h
  ·cases h
 ·cases h
def NJ (P:Program) (t:TypeId) (x ix:AV) (h:xN):Option (List Prop×AV) :=
 match ix with
 | .int _ i =>
  match P.underlying t,x with
  | some .string,.str l=>some ([HL l i=some h.z],.int .u8 h.z)
  | some (.array n e),.agg cs =>
   bif vS P e then
    match aV P e cs (i.toNat * szT P e) with
    | some av=>some ([0≤i,i<n],av)
    | none=>none
   else none
  | _,_=>none
 | _=>none
theorem Q9 {x:Int} (h:0≤x∧x<256):IntKind.u8.wrap x=x:=by
 apply iI;simp only [IntKind.bits,IntKind.signed];simp;omega
theorem ZL {l:List Int} {i:Nat} {c:Int} (h:l[i]?=some c) (hr:0≤c∧c<256):∃ b:UInt8,(w8 l)[i]?=some b∧(b.toNat:Int)=c:=by
 refine ⟨UInt8.ofNat c.toNat,?_,?_⟩
 ·have hlt:i<l.length:=by
   rcases zlg i l.length with h' | h'
   ·exact h'
   ·rw [List.getElem?_eq_none h'] at h;cases h
  have hs:i<(w8 l).size:=by rw [fK];exact hlt
  have e:(w8 l)[i]?=(w8 l).data[i]?:=rfl
  rw [e]
  simp [w8,h]
 ·simp only [UInt8.toNat_ofNat'];omega
theorem VK {P:Program} {t:TypeId} {x ix:Operand} {ρ:Operand→Value} {o:Oper} {w:World} {I:Nat→Prop} {T:Tbl} {X IX:AV} {hn:xN} {r:List Prop×AV}
  (ho:o.op=.index t x ix) (hx:Rep w I T (ρ x) X) (hix:Rep w I T (ρ ix) IX) (h:NJ P t X IX hn=some r) (hv:∀ p∈r.1,p):jE P ρ o w I T r.2:=by
 unfold NJ at h
 generalize hX:ρ x=vx at hx
 generalize hIX:ρ ix=vi at hix
 split at h
 ·rename_i k i
  cases hix with
  | int wi =>
  split at h
  ·rename_i l hu
   injection h with h;subst h
   have hidx:HL l i=some hn.z:=hv _ (by simp)
   obtain ⟨h0,h1,hget⟩:=YI hidx
   cases hx with
   | str hr hl =>
   have hc:=hr _ (List.mem_of_getElem? hget)
   obtain ⟨b,hb1,hb2⟩:=ZL hget hc
   refine .same (v:=.int .u8 hn.z) ?_ (.int (Q9 hc))
   simp [execOp,ho,hX,hIX,Instr.index,asIntOf,run_underlying hu,h0,hb1,hb2]
  ·rename_i n e cs hu
   cases hk:vS P e
   ·rw [hk] at h;cases h
   rw [hk] at h
   simp only [cond_true] at h
   split at h
   ·rename_i av hav
    injection h with h;subst h
    have h0:0≤i:=hv _ (by simp)
    have h1:i<n:=hv _ (by simp)
    cases hx with
    | agg hs e1 e2 =>
    obtain ⟨v,hrun,hrep⟩:=QP (w:=w) hk e1 hs e2 hav
    refine .same (v:=v) ?_ hrep
    simp [execOp,ho,hX,hIX,Instr.index,asIntOf,run_underlying hu,h0,h1,jF hk,hrun]
   ·cases h
  ·cases h
 ·cases h
/-! Lengths. -/
def MF (P:Program) (t:TypeId) (x:AV) (h:xN):Option (List Prop×AV) :=
 match P.underlying t,x with
 | some .string,.str l=>some ([],.int .i64 l.length)
 | some (.slice _),.sl _ _ l=>some ([l.length=h.n],.int .i64 h.n)
 | some (.slice _),.own _ n=>some ([],.int .i64 n)
 | some (.slice _),.part _ _ lo hi=>some ([hi - lo=h.n],.int .i64 h.n)
 | some (.array n _),_=>bif Nat.ble n 9223372036854775807 then some ([],.int .i64 n) else none
 | _,_=>none
theorem mC {n:Nat} (h:n≤9223372036854775807):IntKind.i64.wrap (n:Int)=n:=by
 apply iI;simp only [IntKind.bits,IntKind.signed];simp;omega
theorem VZ {P:Program} {t:TypeId} {x:Operand} {ρ:Operand→Value} {o:Oper} {w:World} {I:Nat→Prop} {T:Tbl} {X:AV} {hn:xN} {r:List Prop×AV}
  (ho:o.op=.call { callee:=.builtin .len,args:=#[x],argTypes:=#[t] }) (hx:Rep w I T (ρ x) X) (h:MF P t X hn=some r) (hv:∀ p∈r.1,p):jE P ρ o w I T r.2:=by
 unfold MF at h
 generalize hX:ρ x=vx at hx
 have hrun:∀ (v:Value),(Builtin.len_ #[t] o.type #[vx]).run P w=.ok v w→(execOp ρ o).run P w=.ok (.value v) w:=fun v hv=>by
  simp [execOp,ho,resolve,hX,invoke,builtin,hv]
 split at h
 ·rename_i l hu
  injection h with h;subst h
  cases hx with
  | str hr hl =>
  exact .same (hrun (.int .i64 l.length) (by simp [Builtin.len_,run_underlying hu,goInt,fK])) (.int (mC (by rw [qC] at hl;exact hl)))
 ·rename_i e full sz l hu
  injection h with h;subst h
  have hl:l.length=hn.n:=hv _ (by simp)
  cases hx with
  | sl0 hc hf =>
   simp at hl
   exact .same (hrun (.int .i64 0) (by simp [Builtin.len_,run_underlying hu,goInt])) (by rw [← hl];exact .int (by decide))
  | sl g e1 e2 e3 e4 e5 e6 e7 e8 e9 e10 =>
   rename_i b off cap n
   exact .same (hrun (.int .i64 n) (by simp [Builtin.len_,run_underlying hu,goInt])) (by rw [← hl,← e1];exact .int (mC (by rw [qC] at e3;omega)))
 ·rename_i e id n hu
  injection h with h;subst h
  cases hx with
  | ownNil=>exact .same (hrun (.int .i64 0) (by simp [Builtin.len_,run_underlying hu,goInt])) (.int (by decide))
  | own hT h1 h2=>exact .same (hrun (.int .i64 n) (by simp [Builtin.len_,run_underlying hu,goInt])) (.int (mC (by rw [qC] at h2;omega)))
 ·rename_i e id sz lo hi hu
  injection h with h;subst h
  have hl:hi - lo=hn.n:=hv _ (by simp)
  cases hx with
  | part0 =>
   exact .same (hrun (.int .i64 0) (by simp [Builtin.len_,run_underlying hu,goInt])) (by rw [← hl];simp;exact .int (by decide))
  | part hT p1 p2 p3 p4 p5 p6 =>
   rename_i o' n c b cap
   exact .same (hrun (.int .i64 n) (by simp [Builtin.len_,run_underlying hu,goInt])) (by rw [← hl,← p2];exact .int (mC (by rw [qC] at p5;omega)))
 ·rename_i n e hu
  cases hb:Nat.ble n 9223372036854775807
  ·rw [hb] at h;cases h
  rw [hb] at h
  injection h with h;subst h
  exact .same (hrun (.int .i64 n) (by simp [Builtin.len_,run_underlying hu,goInt])) (.int (mC (zle hb)))
 ·cases h
/-! The least and the greatest of two integers. -/
def mU (x y:Int):Int:=if y>x then y else x
def fL (x y:Int):Int:=if y<x then y else x
def JA (b:Builtin) (x y:AV):Option (List Prop×AV) :=
 match x,y with
 | .int k a,.int k' c =>
  bif mY k k' then
   match b with
   | .max=>some ([],.int k (mU a c))
   | .min=>some ([],.int k (fL a c))
   | _=>none
  else none
 | _,_=>none
theorem QL {P:Program} {b:Builtin} {ts:Array TypeId} {x y:Operand} {ρ:Operand→Value} {o:Oper} {w:World} {I:Nat→Prop} {T:Tbl} {X Y:AV} {r:List Prop×AV}
  (ho:o.op=.call { callee:=.builtin b,args:=#[x,y],argTypes:=ts }) (hx:Rep w I T (ρ x) X) (hy:Rep w I T (ρ y) Y) (h:JA b X Y=some r):jE P ρ o w I T r.2:=by
 unfold JA at h
 generalize hX:ρ x=vx at hx
 generalize hY:ρ y=vy at hy
 split at h
 ·rename_i k a k' c
  cases hk:mY k k'
  ·rw [hk] at h;cases h
  rw [hk] at h
  have:=R3 hk
  subst this
  simp only [cond_true] at h
  cases hx with
  | int wa =>
  cases hy with
  | int wb =>
  split at h<;>first | (injection h with h;subst h) | cases h
  ·refine .same (v:=.int k (mU a c)) (by simp [execOp,ho,resolve,hX,hY,invoke,builtin,Builtin.max_,Builtin.max2,mU]) (.int ?_)
   unfold mU;split<;>assumption
  ·refine .same (v:=.int k (fL a c)) (by simp [execOp,ho,resolve,hX,hY,invoke,builtin,Builtin.min_,Builtin.min2,fL]) (.int ?_)
   unfold fL;split<;>assumption
 ·cases h
end Go.Ab
