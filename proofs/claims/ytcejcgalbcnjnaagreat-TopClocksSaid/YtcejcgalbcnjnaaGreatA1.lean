/- Lemmas. No conditions but those that they name. -/
import Derived.ProofKit
import Derived.Orders
import Derived.Deep.Draws
import Derived.Laws.AppendOwn
import Derived.Laws.OwnMore
import Derived.KernelRfl
import Derived.Maps.Keyed
import Derived.Laws.BytesString
import Derived.Laws.Small
import Derived.WideShapes
import Derived.Lib.SliceRun
namespace Go.Ab
abbrev yN:=@List.mem_of_getElem?
abbrev yI:=@Nat.le_refl
abbrev w7:=@List.getElem?_eq_getElem
abbrev wB:=@Int.toNat_natCast
abbrev vQ:=@List.getD_eq_getElem?_getD
abbrev vO:=@List.getElem?_eq_some_iff
abbrev vH:=@List.getElem?_eq_none
abbrev wL:=@List.mem_append
abbrev uH:=@List.getElem?_append_left
abbrev vD:=@List.getElem?_map
abbrev u4:=@List.getElem?_append_right
abbrev uG:=@List.mem_iff_getElem?
abbrev wI:=@Nat.zero_le
abbrev vL:=@List.length_map
abbrev v6:=@Result.andThen_ok
abbrev vB:=@List.mem_map
abbrev uO:=@List.mem_singleton
abbrev uU:=@Option.some.injEq
abbrev vV:=@Sem.run_bind
abbrev uA:=@List.mem_cons
abbrev tK:=@List.mem_cons_self
abbrev tC:=@List.all_eq_true
abbrev jY:=@List.getElem?_cons_zero
abbrev qW:=@Nat.mul_le_mul_right
abbrev qX:=@List.mem_cons_of_mem
abbrev uM:=@List.map_cons
abbrev tY:=@Function.comp_def
abbrev kC:=@List.take_of_length_le
abbrev pJ:=@List.getElem?_cons_succ
abbrev k9:=@Array.getElem?_toList
abbrev k8:=@List.length_replicate
abbrev bG:=@Array.getD_eq_getD_getElem?
abbrev cK:=@List.eq_nil_of_length_eq_zero
abbrev jE:=@Option.getD_some
abbrev kZ:=@Nat.lt_of_lt_of_le
abbrev aK:=@List.mem_of_mem_take
abbrev pH:=@Bool.not_eq_true'
abbrev kH:=@Option.map_some
abbrev t6:=@Nat.add_mul
abbrev bT:=@List.mem_append_right
abbrev kW:=@List.length_set
abbrev nM:=@List.take_add_one
abbrev dN:=@List.length_eq_zero_iff
abbrev bS:=@List.mem_of_mem_drop
abbrev jV:=@Sem.run_pure
abbrev aY:=@List.getElem?_take
abbrev nL:=@List.length_take
abbrev bC:=@List.flatMap_cons
abbrev aB:=@List.mem_flatMap
abbrev fJ:=@Array.getElem?_eq_none
abbrev kU:=@Prod.mk.injEq
abbrev nH:=@List.map_append
abbrev iE:=@List.getElem?_replicate
abbrev aF:=@List.foldl_cons
abbrev aE:=@List.append_nil
abbrev kX:=@Nat.le_trans
abbrev mY:=@List.mem_or_eq_of_mem_set
abbrev lQ:=@MapKept.run_getObj_map
abbrev BQ:=@Int.mul_le_mul_of_nonneg_left
abbrev cP:=@Option.map_none
abbrev gH:=@List.getElem?_drop
abbrev BI:=@List.pairwise_iff_getElem
abbrev aH:=@Int.le_refl
abbrev dD:=@List.mem_range
abbrev cO:=@Bool.not_true
abbrev fC:=@List.length_nil
abbrev g8:=@List.getElem_mem
abbrev oN:=@Array.length_toList
abbrev cQ:=@Nat.zero_add
abbrev rM:=@List.mem_append_left
abbrev GN:=@Classical.byContradiction
abbrev oT:=@List.append_assoc
abbrev BJ:=@Array.getElem?_modify
abbrev mG:=@List.mem_filter
abbrev LF:=@Array.getElem?_append_left
abbrev rQ:=@List.length_range
abbrev DJ:=@List.getElem?_range
abbrev H7:=@Option.isSome_iff_exists
abbrev DD:=@Nat.eq_zero_or_pos
abbrev LW:=@List.getElem?_take_of_lt
abbrev lM:=@Nat.add_assoc
abbrev lS:=@List.sum_cons
abbrev QN:=@Array.getElem?_setIfInBounds
abbrev JS:=@Option.bind_eq_some_iff
abbrev DH:=@Nat.lt_trichotomy
abbrev rJ:=@Bool.or_eq_true
abbrev GA:=@List.length_zipWith
abbrev CU:=@List.take_length
abbrev B9:=@List.cons_append
abbrev KM:=@List.getElem?_toArray
abbrev EG:=@List.zip_cons_cons
abbrev OF:=@Option.isNone_iff_eq_none
abbrev M8:=@Bool.eq_false_or_eq_true
abbrev N6:=@List.eq_of_mem_replicate
abbrev CD:=@List.nodup_cons
abbrev GG:=@List.getElem?_set
abbrev DU:=@List.length_drop
abbrev CL:=@Int.mul_nonneg
abbrev Q8:=@List.getElem?_set_self
abbrev NA:=@Option.map_eq_some_iff
abbrev HE:=@Nat.lt_of_le_of_lt
abbrev A2:=@Nat.add_zero
abbrev J1:=@List.pairwise_cons
abbrev DQ:=@Nat.min_eq_left
abbrev EO:=@List.nil_append
abbrev GO:=@Option.some.inj
abbrev L8:=@Bool.or_eq_false_iff
abbrev SL:=@Array.getElem?_eq_getElem
abbrev Q1:=@Int.toNat_of_nonneg
abbrev zAw:=@ChangeMaps.heap_setBlock_other
abbrev MU:=@List.set_cons_succ
abbrev Q9:=@List.set_cons_zero
abbrev O0:=@Nat.eq_or_lt_of_le
abbrev XL:=@MapKept.run_setObj_map
abbrev W3:=@List.zipWith_cons_cons
abbrev VQ:=@List.take_append_drop
abbrev GS:=@Nat.sub_self
abbrev zBU:=@List.mem_zipIdx_iff_getElem?
abbrev GD:=@Code.wp_mono
abbrev TG:=@List.getElem?_zipWith
abbrev WI:=@List.perm_append_comm
abbrev D6:=@Bool.or_self
abbrev L6:=@List.filter_cons
abbrev zBk:=@List.length_eraseIdx_of_lt
abbrev T6:=@Array.getElem?_push
abbrev YG:=@List.zipWith_append
abbrev MJ:=@List.count_cons
abbrev zA9:=@List.count_replicate_self
abbrev XR:=@UInt8.toNat_ofNat'
abbrev SW:=@Bool.false_eq_true
abbrev UM:=@Nat.lt_of_lt_of_eq
abbrev U8:=@Option.isSome_some
abbrev ZX:=@Nat.le_mul_of_pos_right
abbrev zBb:=@Int.eq_ofNat_of_zero_le
abbrev zAX:=@List.eraseIdx_cons_succ
abbrev zA5:=@List.pairwise_singleton
abbrev SA:=@List.ext_getElem?
abbrev zBz:=@List.drop_eq_nil_of_le
abbrev O4:=@List.map_take
abbrev UI:=@Nat.mod_eq_of_lt
abbrev T3:=@List.zipIdx_cons
abbrev SD:=@List.not_mem_nil
abbrev zAK:=@List.set_append_right
abbrev YK:=@Bool.and_eq_false_iff
abbrev QL:=@List.map_map
abbrev MD:=@Int.lt_or_le
abbrev WD:=@Bool.eq_iff_iff
abbrev MB:=@List.map_nil
abbrev zBl:=@List.getElem?_set_ne
abbrev YX:=@List.set_append_left
abbrev zAa:=@List.count_le_length
abbrev zAJ:=@List.pairwise_append
abbrev Y8:=@Nat.add_le_add_left
abbrev zBq:=@List.filter_eq_self
abbrev zBD:=@List.replicate_succ
abbrev YW:=@List.map_eq_nil_iff
abbrev zAy:=@List.mem_map_of_mem
abbrev WX:=@List.take_zero
abbrev SX:=@List.Perm.refl
theorem zle {n m:Nat} (h:Nat.ble n m=true):n<=m:=Nat.le_of_ble_eq_true h
theorem zbs {α β:Type} (a:α) (f:α->Option β):(some a).bind f=f a:=rfl
theorem zla {α:Type _} {a b:List α}:(a++b).length=a.length+b.length:=List.length_append
theorem zlc {α:Type _} {a:α} {b:List α}:(a::b).length=b.length+1:=rfl
theorem zls {α:Type _} {a:α}:[a].length=1:=rfl
theorem zdz {α:Type _} {a:List α}:a.drop 0=a:=rfl
theorem zba (a b:Bool):((a&&b)=true)=(a=true/\b=true):=Bool.and_eq_true a b
theorem zlg (a b:Nat):a<b\/a>=b:=Nat.lt_or_ge a b
theorem zft:false=!true:=rfl
theorem zk {α:Type} {a b:α} (h:a=b:=by kernel_rfl):a=b:=h
inductive zY where
 | nil
 | at (b cap:Nat)
inductive AV where
 | junk
 | int (k:IntKind) (n:Int)
 | bool (b:Bool)
 | str (l:List Int)
 | agg (cs:List AV)
 | tuple (vs:List AV)
 | sl (full:Bool) (sz:Nat) (l:List AV)
 | ref (av:AV)
 | ptr (id sz i off:Nat)
 | own (id n:Nat)
 | part (id sz lo hi:Nat)
 | fn (f:FuncId) (caps:List AV)
 | nilp
 | nilsl
 | nb (l:List AV)
 | mp (id:Nat)
 | raw (b:Nat)
 | fm (n:Bool) (l:List (AV×AV))
 | rawm (b:Nat)
 | rawp (p:zY) (n:Nat)
 deriving Inhabited
def AV.cells:AV->List AV
 | .agg cs=>cs
 | v=>[v]
def AV.one:AV->Bool
 | .junk=>false
 | .agg _=>false
 | .tuple _=>false
 | _=>true
mutual
def AV.pure:AV->Bool
 | .junk=>true
 | .int ..=>true
 | .bool _=>true
 | .str _=>true
 | .agg cs=>AV.pures cs
 | .tuple cs=>AV.pures cs
 | .sl ..=>true
 | .ref _=>true
 | .ptr ..=>false
 | .own ..=>false
 | .part ..=>false
 | .fn _ cs=>AV.pures cs
 | .nilp=>true
 | .nilsl=>true
 | .nb _=>true
 | .mp _=>false
 | .raw _=>true
 | .fm ..=>true
 | .rawm _=>true
 | .rawp ..=>true
def AV.pures:List AV->Bool
 | []=>true
 | a::r=>a.pure&&AV.pures r
end
def kE (l:List Int):ByteArray:=⟨(l.map fun x=>UInt8.ofNat x.toNat).toArray⟩
def v7 (K:Nat):Nat:=K % 18446744073709551616
def xR (K:Nat):Nat:=K / 18446744073709551616
theorem J6 {K:Nat} (h:K<=maxLen):v7 K=K:=UI (HE h (by decide))
theorem XB {K:Nat} (h:K<=maxLen):xR K=0:=Nat.div_eq_of_lt (HE h (by decide))
theorem lC {o c:Nat} (h:c<=maxLen):v7 (o * 18446744073709551616+c)=c:=by
 have:c<18446744073709551616:=HE h (by decide)
 unfold v7;omega
theorem R5 {o c:Nat} (h:c<=maxLen):xR (o * 18446744073709551616+c)=o:=by
 have:c<18446744073709551616:=HE h (by decide)
 unfold xR;omega
theorem ZQ:xR 0=0:=rfl
abbrev Tbl:=Nat->Option zY
def Tbl.empty:Tbl:=fun _=>Option.none
def Tbl.le (T T':Tbl):Prop:=∀ i p,T i=some p->T' i=some p
inductive Rep (w:World) (I:Nat->Prop):Tbl->Value->AV->Prop
 | junk {T v}:Rep w I T v .junk
 | int {T k n}:k.wrap n=n->Rep w I T (.int k n) (.int k n)
 | bool {T b}:Rep w I T (.bool b) (.bool b)
 | str {T l}:(∀ x∈l,0<=x/\x<256)->l.length<=maxLen->Rep w I T (.string (kE l)) (.str l)
 | agg {T vs cs}:vs.size=cs.length->(∀ c∈cs,c.one=true)->(∀ j c,cs[j]?=some c->Rep w I T (vs.getD j undef) c)->Rep w I T (.agg vs) (.agg cs)
 | tuple {T vs cs}:vs.size=cs.length->(∀ j c,cs[j]?=some c->Rep w I T (vs.getD j undef) c)->Rep w I T (.tuple vs) (.tuple cs)
 | sl0 {T full sz a cap}:cap<=maxLen->(full=true->cap=0)->Rep w I T (.slice a 0 cap) (.sl full sz [])
 | sl {T full sz l b off cap n} (g:Nat->Nat->Value):n=l.length->n<=cap->cap<=maxLen->(full=true->cap=n) ->
   (∀ av∈l,av.cells.length=sz)->(∀ av∈l,∀ c∈av.cells,c.one=true)->I b->b<w.heap.size ->
   (∀ i av j c,l[i]?=some av->av.cells[j]?=some c->w.cell? ⟨b,off+i * sz+j,none⟩=some (g i j)) ->
   (∀ i av j c,l[i]?=some av->av.cells[j]?=some c->Rep w I Tbl.empty (g i j) c) ->
   Rep w I T (.slice (some ⟨b,off,none⟩) n cap) (.sl full sz l)
 | ref {T av b off} (g:Nat->Value):I b->b<w.heap.size->(∀ c∈av.cells,c.one=true) ->
   (∀ j c,av.cells[j]?=some c->w.cell? ⟨b,off+j,none⟩=some (g j)) ->
   (∀ j c,av.cells[j]?=some c->Rep w I Tbl.empty (g j) c) ->
   Rep w I T (.pointer (some ⟨b,off,none⟩)) (.ref av)
 | ptr {T:Tbl} {id sz i off o b cap}:T id=some (.at b cap)->o=xR cap+(i * sz+off)->Rep w I T (.pointer (some ⟨b,o,none⟩)) (.ptr id sz i off)
 | ownNil {T:Tbl} {id a}:T id=some .nil->Rep w I T (.slice a 0 0) (.own id 0)
 | own {T:Tbl} {id n b cap}:T id=some (.at b cap)->n<=v7 cap->v7 cap<=maxLen->Rep w I T (.slice (some ⟨b,xR cap,none⟩) n (v7 cap)) (.own id n)
 | part0 {T:Tbl} {id sz lo a c}:c<=maxLen->Rep w I T (.slice a 0 c) (.part id sz lo lo)
 | part {T:Tbl} {id sz lo hi o n c b cap}:T id=some (.at b cap)->lo<=hi->n=hi - lo->n<=c->lo+c<=v7 cap->v7 cap<=maxLen->o=xR cap+lo * sz ->
   Rep w I T (.slice (some ⟨b,o,none⟩) n c) (.part id sz lo hi)
 | fn {T f cs vs}:vs.size=cs.length->(∀ j c,cs[j]?=some c->Rep w I T (vs.getD j undef) c)->Rep w I T (.func (.func f) #[] vs) (.fn f cs)
 | nilp {T}:Rep w I T (.pointer none) .nilp
 | nilsl {T}:Rep w I T (.slice none 0 0) .nilsl
 | nb {T b l}:(b=true->l=[])->Rep w I T (.bool b) (.nb l)
 | mp {T:Tbl} {id b}:T id=some (.at b 0)->Rep w I T (.map (some b)) (.mp id)
 | raw {T b}:Rep w I T (.pointer (some ⟨b,0,none⟩)) (.raw b)
 | fm0 {T}:Rep w I T (.map none) (.fm true [])
 | fm {T l b E clock} (gk gv:Nat->Value):E.size=l.length->l.length<=maxLen->MapKept.Stamped E clock->I b->b<w.heap.size->w.heap[b]?=some (.map E clock) ->
   (∀ (i:Nat) (x:AV×AV),l[i]?=some x->∃ s,E[i]?=some (MapEntry.mk (gk i) (gv i) s)) ->
   (∀ (i:Nat) (x:AV×AV),l[i]?=some x->Rep w I Tbl.empty (gk i) x.1)->(∀ (i:Nat) (x:AV×AV),l[i]?=some x->Rep w I Tbl.empty (gv i) x.2) ->
   Rep w I T (.map (some b)) (.fm false l)
 | rawm {T b}:Rep w I T (.map (some b)) (.rawm b)
 | rawp0 {T a}:Rep w I T (.slice a 0 0) (.rawp .nil 0)
 | rawp {T b cap n}:n<=v7 cap->v7 cap<=maxLen->Rep w I T (.slice (some ⟨b,xR cap,none⟩) n (v7 cap)) (.rawp (.at b cap) n)
theorem VG {w w':World} {b:Nat} (h:w'.heap[b]?=w.heap[b]?) (o:Nat) (s:Option Nat):w'.cell? ⟨b,o,s⟩=w.cell? ⟨b,o,s⟩:=by
 simp [World.cell?,h]
theorem Rep.mono {w w':World} {I I':Nat->Prop} {T T':Tbl} {v:Value} {av:AV} (h:Rep w I T v av)
  (hs:w.heap.size<=w'.heap.size) (hc:∀ b,I b->b<w.heap.size->w'.heap[b]?=w.heap[b]?) (hI:∀ b,I b->b<w.heap.size->I' b)
  (hT:T.le T'):Rep w' I' T' v av:=by
 induction h generalizing T' with
 | junk=>exact .junk
 | int h=>exact .int h
 | bool=>exact .bool
 | str h h'=>exact .str h h'
 | agg h h1 _ ih=>exact .agg h h1 fun j c hj=>ih j c hj hT
 | tuple h _ ih=>exact .tuple h fun j c hj=>ih j c hj hT
 | sl0 h h'=>exact .sl0 h h'
 | sl g h1 h2 h3 h4 h5 h6 h7 h8 h9 _ ih =>
  exact .sl g h1 h2 h3 h4 h5 h6 (hI _ h7 h8) (kZ h8 hs) (fun i av j c hi hj=>(VG (hc _ h7 h8) _ _).trans (h9 i av j c hi hj))
   fun i av j c hi hj=>ih i av j c hi hj fun _ _ h=>h
 | ref g h1 h2 h3 h4 _ ih =>
  exact .ref g (hI _ h1 h2) (kZ h2 hs) h3 (fun j c hj=>(VG (hc _ h1 h2) _ _).trans (h4 j c hj)) fun j c hj=>ih j c hj fun _ _ h=>h
 | ptr h h'=>exact .ptr (hT _ _ h) h'
 | ownNil h=>exact .ownNil (hT _ _ h)
 | own h h1 h2=>exact .own (hT _ _ h) h1 h2
 | part0 h=>exact .part0 h
 | part h h1 h2 h3 h4 h5 h6=>exact .part (hT _ _ h) h1 h2 h3 h4 h5 h6
 | fn h _ ih=>exact .fn h fun j c hj=>ih j c hj hT
 | nilp=>exact .nilp
 | nilsl=>exact .nilsl
 | nb h=>exact .nb h
 | mp h=>exact .mp (hT _ _ h)
 | raw=>exact .raw
 | fm0=>exact .fm0
 | fm gk gv h1 h2 h3 h4 h5 h6 h7 _ _ ihk ihv =>
  exact .fm gk gv h1 h2 h3 (hI _ h4 h5) (kZ h5 hs) ((hc _ h4 h5).trans h6) h7 (fun i x hx=>ihk i x hx fun _ _ h=>h) (fun i x hx=>ihv i x hx fun _ _ h=>h)
 | rawm=>exact .rawm
 | rawp0=>exact .rawp0
 | rawp h1 h2=>exact .rawp h1 h2
theorem AV.pures_get {cs:List AV} (h:AV.pures cs=true) {j:Nat} {c:AV} (hj:cs[j]?=some c):c.pure=true:=by
 induction cs generalizing j with
 | nil=>simp at hj
 | cons a r ih =>
  simp only [AV.pures,zba] at h;cases j with
  | zero=>simp at hj;exact hj ▸ h.1
  | succ j=>exact ih h.2 (by simpa using hj)
theorem Rep.bare {w:World} {I:Nat->Prop} {T T':Tbl} {v:Value} {av:AV} (h:Rep w I T v av) (hp:av.pure=true):Rep w I T' v av:=by
 induction h generalizing T' with
 | junk=>exact .junk
 | int h=>exact .int h
 | bool=>exact .bool
 | str h h'=>exact .str h h'
 | agg h h1 _ ih=>exact .agg h h1 fun j c hj=>ih j c hj (AV.pures_get hp hj)
 | tuple h _ ih=>exact .tuple h fun j c hj=>ih j c hj (AV.pures_get hp hj)
 | sl0 h h'=>exact .sl0 h h'
 | sl g h1 h2 h3 h4 h5 h6 h7 h8 h9 h10 ih=>exact .sl g h1 h2 h3 h4 h5 h6 h7 h8 h9 h10
 | ref g h1 h2 h3 h4 h5 ih=>exact .ref g h1 h2 h3 h4 h5
 | fn h _ ih=>exact .fn h fun j c hj=>ih j c hj (AV.pures_get hp hj)
 | nilp=>exact .nilp
 | nilsl=>exact .nilsl
 | nb h=>exact .nb h
 | raw=>exact .raw
 | fm0=>exact .fm0
 | fm gk gv h1 h2 h3 h4 h5 h6 h7 h8 h9=>exact .fm gk gv h1 h2 h3 h4 h5 h6 h7 h8 h9
 | rawm=>exact .rawm
 | rawp0=>exact .rawp0
 | rawp h1 h2=>exact .rawp h1 h2
 | _=>simp [AV.pure] at hp
theorem Rep.oneCell {w:World} {I:Nat->Prop} {T:Tbl} {v:Value} {av:AV} (h:Rep w I T v av) (hp:av.one=true):v.oneCell'=true:=by
 cases h<;>first | rfl | simp [AV.one] at hp
inductive KSh where
 | int (k:IntKind)
 | bool
 | str
def kc:KSh->AV->Bool
 | .int k,.int k' _=>decide (k=k')
 | .bool,.bool _=>true
 | .str,.str _=>true
 | _,_=>false
def kcs:List KSh->List AV->Bool
 | [],[]=>true
 | k::r,a::s=>kc k a&&kcs r s
 | _,_=>false
def uI (ag:Bool) (ks:List KSh):AV->Bool
 | .agg cs=>ag&&kcs ks cs
 | a=>!ag&&kcs ks [a]
inductive FSh where
 | pm (t:TypeId)
 | nm (e:TypeId) (sz:Nat) (ev:TypeId) (esz:Nat)
inductive qD where
 | row (e:TypeId) (sz:Nat) (l:List AV)
 | map (ag:Bool) (ks:List KSh) (l:List (AV×AV))
 | iter (left:List (AV×AV)) (cur:Option (AV×AV))
abbrev wH:=zY×qD
inductive Fam where
 | cl (b:Nat) (ag:Bool) (ks:List KSh) (sh:FSh) (l:List (AV×AV))
 | op (b:Nat) (ag:Bool) (ks:List KSh) (sh:FSh) (l:List (AV×AV)) (key:AV)
 | opp (b:Nat) (ag:Bool) (ks:List KSh) (sh:FSh) (l:List (AV×AV)) (key:AV) (id:Nat)
 | hp (H:List (Option (wH))) (pins:List (Nat×zY))
 | hpx (Q:List (Option (wH))->Prop)
inductive Box where
 | var (t:TypeId) (cs:List AV)
 | row (e:TypeId) (sz:Nat) (l:List AV)
 | rowQ (e:TypeId) (sz:Nat) (l:List AV) (m:Bool) (x:List AV)
 | rowI (e:TypeId) (sz:Nat) (l:List AV) (m:Bool) (i:Nat) (x:List AV)
 | map (ag:Bool) (ks:List KSh) (l:List (AV×AV))
 | fam (f:Fam)
def qD.box:qD->Box
 | .row e sz l=>.row e sz l
 | .map ag ks l=>.map ag ks l
 | .iter _ _=>.map false [] []
def qD.it:qD->Bool
 | .iter _ _=>true
 | _=>false
def Box.nf:Box->Bool
 | .fam _=>false
 | _=>true
inductive zR where
 | unused
 | dead
 | live (b:Box)
def zR.nf:zR->Bool
 | .live b=>b.nf
 | _=>true
structure AS where
 slot:Nat->AV
 box:Nat->zR
def uJ (w:World) (I:Nat->Prop) (T:Tbl) (p:Option zY):Box->Prop
 | .var t cs=>∃ b C,p=some (.at b 0)/\w.heap[b]?=some (.cells C t (0,0))/\C.size=cs.length/\(∀ c∈cs,c.one=true) /\
   ∀ j c,cs[j]?=some c->Rep w I T (C.getD j undef) c
 | .row e sz l=>(p=some .nil/\l=[])\/∃ b cap C,p=some (.at b cap)/\w.heap[b]?=some (.cells C e (0,0))/\xR cap+v7 cap * sz<=C.size/\l.length<=v7 cap/\v7 cap<=maxLen /\
   (∀ av∈l,av.cells.length=sz)/\(∀ av∈l,∀ c∈av.cells,c.one=true) /\
   ∀ i av j c,l[i]?=some av->av.cells[j]?=some c->Rep w I Tbl.empty (C.getD (xR cap+(i * sz+j)) undef) c
 | .rowQ e sz l m x=>(p=some .nil/\l=[]/\m=false)\/∃ b cap C,p=some (.at b cap)/\w.heap[b]?=some (.cells C e (0,0))/\xR cap+v7 cap * sz<=C.size/\l.length+(bif m then 1 else 0)<=v7 cap/\v7 cap<=maxLen /\
   (∀ av∈l,av.cells.length=sz)/\(∀ av∈l,∀ c∈av.cells,c.one=true) /\
   (∀ i av j c,l[i]?=some av->av.cells[j]?=some c->Rep w I Tbl.empty (C.getD (xR cap+(i * sz+j)) undef) c) /\
   (m=true->x.length=sz/\(∀ c∈x,c.one=true)/\∀ j c,x[j]?=some c->Rep w I T (C.getD (xR cap+(l.length * sz+j)) undef) c)
 | .rowI e sz l m i x=>(p=some .nil/\l=[]/\m=false)\/∃ b cap C,p=some (.at b cap)/\w.heap[b]?=some (.cells C e (0,0))/\xR cap+v7 cap * sz<=C.size/\l.length<=v7 cap/\v7 cap<=maxLen /\
   (∀ av∈l,av.cells.length=sz)/\(∀ av∈l,∀ c∈av.cells,c.one=true) /\
   (∀ k av j c,(m=true->k≠i)->l[k]?=some av->av.cells[j]?=some c->Rep w I Tbl.empty (C.getD (xR cap+(k * sz+j)) undef) c) /\
   (m=true->i<l.length/\x.length=sz/\(∀ c∈x,c.one=true)/\∀ j c,x[j]?=some c->Rep w I T (C.getD (xR cap+(i * sz+j)) undef) c)
 | .map ag ks l=>∃ b E clock,p=some (.at b 0)/\w.heap[b]?=some (.map E clock)/\E.size=l.length/\l.length<=maxLen/\MapKept.Stamped E clock /\
   (∀ x∈l,uI ag ks x.1=true)/\∀ (i:Nat) (x:AV×AV),l[i]?=some x->∃ e:MapEntry,E[i]?=some e/\Rep w I Tbl.empty e.key x.1/\Rep w I Tbl.empty e.val x.2
 | .fam _=>p=some .nil
theorem zA2 {w:World} {I:Nat->Prop} {T:Tbl} {e:TypeId} {sz:Nat} {l:List AV} {b cap:Nat} {C:Array Value} (hh:w.heap[b]?=some (.cells C e (0,0))) (h1:C.size=cap * sz) (h2:l.length<=cap) (h3:cap<=maxLen)
  (h4:∀ av∈l,av.cells.length=sz) (h5:∀ av∈l,∀ c∈av.cells,c.one=true) (h6:∀ i av j c,l[i]?=some av->av.cells[j]?=some c->Rep w I Tbl.empty (C.getD (i * sz+j) undef) c):uJ w I T (some (.at b cap)) (.row e sz l):=by
 refine .inr ⟨b,cap,C,rfl,hh,?_,?_,?_,h4,h5,?_⟩
 ·rw [J6 h3,XB h3,cQ,h1];exact yI _
 ·rw [J6 h3];exact h2
 ·rw [J6 h3];exact h3
 ·rw [XB h3];intro i av j c hi hj;rw [cQ];exact h6 i av j c hi hj
theorem zDv {w:World} {I:Nat->Prop} {T:Tbl} {id sz i off o b cap:Nat} (h:T id=some (.at b cap)) (hc:cap<=maxLen) (ho:o=i * sz+off):Rep w I T (.pointer (some ⟨b,o,none⟩)) (.ptr id sz i off):=.ptr h (by rw [XB hc,cQ];exact ho)
theorem zAq {w:World} {I:Nat->Prop} {T:Tbl} {id n b cap:Nat} (h:T id=some (.at b cap)) (h1:n<=cap) (h2:cap<=maxLen):Rep w I T (.slice (some ⟨b,0,none⟩) n cap) (.own id n):=by
 have:=Rep.own (w:=w) (I:=I) h (by rw [J6 h2];exact h1) (by rw [J6 h2];exact h2)
 rw [J6 h2,XB h2] at this;exact this
structure wQ where
 w0:World
 I0:Nat->Prop
 foot:List zY
 n:Nat
 gift:Nat->Prop:=fun _=>False
 scr:Nat->Prop:=fun _=>False
 pin:Nat->Option zY:=fun _=>none
def wQ.has (G:wQ) (b:Nat):Prop:=∃ cap,zY.at b cap∈G.foot
def wQ.mine (G:wQ) (b:Nat):Prop:=G.w0.heap.size<=b\/G.gift b
def imm (G:wQ) (st:AS) (T:Tbl) (b:Nat):Prop:=(G.I0 b\/G.mine b)/\∀ id bx cap,st.box id=.live bx->T id≠some (.at b cap)
structure CQ (G:wQ) (w:World):Prop where
 os:w.os=G.w0.os
 tape:w.tape=G.w0.tape
 output:w.output=G.w0.output
 size:G.w0.heap.size<=w.heap.size
 block:∀ b,b<G.w0.heap.size->¬ G.has b->¬ (G.gift b\/G.scr b)->w.heap[b]?=G.w0.heap[b]?
structure uF (G:wQ) (st:AS) (T:Tbl) (a:Act) (w:World):Prop where
 defers:a.defers=[]
 size:a.tmps.size=G.n
 slots:∀ t,Rep w (imm G st T) T (a.tmps.getD t undef) (st.slot t)
 boxes:∀ id bx,st.box id=.live bx->uJ w (imm G st T) T (T id) bx
 unused:∀ id,st.box id=.unused->T id=none
 apart:∀ id id' bx bx' b cap cap',st.box id=.live bx->st.box id'=.live bx'->T id=some (.at b cap)->T id'=some (.at b cap')->id=id'
 mine:∀ id bx b cap,st.box id=.live bx->T id=some (.at b cap)->G.foot.length<=id->G.mine b
 foot:∀ i p,G.foot[i]?=some p->T i=some p
 kept:CQ G w
 pin:∀ i p,G.pin i=some p->T i=some p
def Rel (G:wQ) (st:AS) (a:Act) (w:World):Prop:=∃ T,uF G st T a w
structure Eff where
 rs:List (Nat×AV):=[]
 rb:List (Nat×zR):=[]
 dst:Option (Nat×AV):=none
 wb:List (Nat×zR):=[]
 fz:List (Nat×AV):=[]
def yJ:List (Nat×zR)->Nat->zR->zR
 | [],_,d=>d
 | (k,b)::r,i,d=>bif Nat.beq i k then b else yJ r i d
def dA (f:Nat->AV):Option (Nat×AV)->Nat->AV
 | none,t=>f t
 | some (d,av),t=>bif Nat.beq t d then av else f t
def bW:List (Nat×AV)->Nat->AV->AV
 | [],_,d=>d
 | (k,v)::r,t,d=>bif Nat.beq t k then v else bW r t d
def AS.upd (st:AS) (E:Eff):AS:=⟨dA (fun t=>bW E.fz t (st.slot t)) E.dst,fun i=>yJ E.wb i (st.box i)⟩
def Eff.holds (E:Eff) (st:AS):Prop:=(∀ x∈E.rs,st.slot x.1=x.2)/\(∀ x∈E.rb,st.box x.1=x.2)
theorem wT {a b:Nat}:Nat.beq a b=true↔a=b:=⟨Nat.eq_of_beq_eq_true,fun h=>h ▸ Nat.beq_refl a⟩
theorem pX (a:Nat):Nat.beq a a=true:=Nat.beq_refl a
theorem wV {a b:Nat} (h:a≠b):Nat.beq a b=false:=by
 cases hb:Nat.beq a b
 ·rfl
 ·exact absurd (wT.1 hb) h
theorem lB (f:Nat->AV) (d:Nat) (av:AV):dA f (some (d,av)) d=av:=by simp [dA]
theorem l6 (f:Nat->AV) (d:Nat) (av:AV) {t:Nat} (h:t≠d):dA f (some (d,av)) t=f t:=by simp [dA,wV h]
theorem KP {a:Act} {d:Nat} {v:Value} (t:Nat) (hd:d<a.tmps.size) :
  (a.put (some d) v).tmps.getD t undef=if t=d then v else a.tmps.getD t undef:=by
 simp only [Act.put,bG,QN]
 by_cases h:d=t
 ·subst h;simp [hd]
 ·have:¬ t=d:=fun e=>h e.symm
  simp [h,this]
theorem zOK {G:wQ} {w w':World} {row:Option Nat} (hk:CQ G w) (hg:w.grownBy w' row) (hr:∀ g,row=some g->G.mine g\/G.has g):CQ G w' :=
 ⟨hg.os.trans hk.os,hg.tape.trans hk.tape,hg.output.trans hk.output,kX hk.size hg.size,fun b hb hn hn2 =>
  (hg.block b (kZ hb hk.size) (fun e=>by rcases hr b e.symm with (h | h) | h;omega;exact hn2 (.inl h);exact hn h)).trans (hk.block b hb hn hn2)⟩
theorem uJ.mono {w w':World} {I I':Nat->Prop} {T T':Tbl} {p:Option zY} {bx:Box} (h:uJ w I T p bx)
  (hs:w.heap.size<=w'.heap.size) (hc:∀ b,I b->b<w.heap.size->w'.heap[b]?=w.heap[b]?) (hI:∀ b,I b->b<w.heap.size->I' b)
  (hT:T.le T') (hb:∀ b cap,p=some (.at b cap)->b<w.heap.size->w'.heap[b]?=w.heap[b]?):uJ w' I' T' p bx:=by
 cases bx with
 | var t cs =>
  obtain ⟨b,C,hp,hh,h1,h2,h3⟩:=h;have hlt:b<w.heap.size:=by
   rcases zlg b w.heap.size with h' | h'
   ·exact h'
   ·rw [fJ h'] at hh;cases hh
  exact ⟨b,C,hp,(hb b 0 hp hlt).trans hh,h1,h2,fun j c hj=>(h3 j c hj).mono hs hc hI hT⟩
 | row e sz l =>
  rcases h with h | ⟨b,cap,C,hp,hh,h1,h2,h3,h4,h5,h6⟩
  ·exact .inl h
  ·have hlt:b<w.heap.size:=by
    rcases zlg b w.heap.size with h' | h'
    ·exact h'
    ·rw [fJ h'] at hh;cases hh
   exact .inr ⟨b,cap,C,hp,(hb b cap hp hlt).trans hh,h1,h2,h3,h4,h5,fun i av j c hi hj=>(h6 i av j c hi hj).mono hs hc hI (fun _ _ h=>h)⟩
 | rowI e sz l m i x =>
  rcases h with h | ⟨b,cap,C,hp,hh,h1,h2,h3,h4,h5,h6,h7⟩
  ·exact .inl h
  ·have hlt:b<w.heap.size:=by
    rcases zlg b w.heap.size with h' | h'
    ·exact h'
    ·rw [fJ h'] at hh;cases hh
   exact .inr ⟨b,cap,C,hp,(hb b cap hp hlt).trans hh,h1,h2,h3,h4,h5,fun k av j c hk hi hj=>(h6 k av j c hk hi hj).mono hs hc hI (fun _ _ h=>h),
    fun hm=>⟨(h7 hm).1,(h7 hm).2.1,(h7 hm).2.2.1,fun j c hj=>((h7 hm).2.2.2 j c hj).mono hs hc hI hT⟩⟩
 | rowQ e sz l m x =>
  rcases h with h | ⟨b,cap,C,hp,hh,h1,h2,h3,h4,h5,h6,h7⟩
  ·exact .inl h
  ·have hlt:b<w.heap.size:=by
    rcases zlg b w.heap.size with h' | h'
    ·exact h'
    ·rw [fJ h'] at hh;cases hh
   exact .inr ⟨b,cap,C,hp,(hb b cap hp hlt).trans hh,h1,h2,h3,h4,h5,fun i av j c hi hj=>(h6 i av j c hi hj).mono hs hc hI (fun _ _ h=>h),
    fun hm=>⟨(h7 hm).1,(h7 hm).2.1,fun j c hj=>((h7 hm).2.2 j c hj).mono hs hc hI hT⟩⟩
 | map ag ks l =>
  obtain ⟨b,E,clock,hp,hh,h1,h2,h3,h4,h5⟩:=h;have hlt:b<w.heap.size:=by
   rcases zlg b w.heap.size with h' | h'
   ·exact h'
   ·rw [fJ h'] at hh;cases hh
  refine ⟨b,E,clock,hp,(hb b 0 hp hlt).trans hh,h1,h2,h3,h4,fun i x hx=>?_⟩;obtain ⟨e,k1,k2,k3⟩:=h5 i x hx;exact ⟨e,k1,k2.mono hs hc hI (fun _ _ h=>h),k3.mono hs hc hI (fun _ _ h=>h)⟩
 | fam f=>exact h
theorem uJ.no {w:World} {I:Nat->Prop} {T:Tbl} {bx:Box} (h:uJ w I T none bx):False:=by
 cases bx with
 | var t cs=>obtain ⟨b,C,hp,_⟩:=h;cases hp
 | row e sz l=>rcases h with ⟨hp,_⟩ | ⟨b,cap,C,hp,_⟩<;>cases hp
 | rowQ e sz l m x=>rcases h with ⟨hp,_⟩ | ⟨b,cap,C,hp,_⟩<;>cases hp
 | rowI e sz l m i x=>rcases h with ⟨hp,_⟩ | ⟨b,cap,C,hp,_⟩<;>cases hp
 | fam f=>cases h
 | map ag ks l=>obtain ⟨b,E,c,hp,_⟩:=h;cases hp
theorem uJ.lt {w:World} {I:Nat->Prop} {T:Tbl} {bx:Box} {b cap:Nat} (h:uJ w I T (some (.at b cap)) bx):b<w.heap.size:=by
 have lt_of:∀ {o:Obj},w.heap[b]?=some o->b<w.heap.size:=by
  intro o hh;rcases zlg b w.heap.size with h' | h'
  ·exact h'
  ·rw [fJ h'] at hh;cases hh
 cases bx with
 | var t cs =>
  obtain ⟨b',C,hp',hh,_⟩:=h;injection hp' with hp';injection hp' with hp';subst hp';exact lt_of hh
 | row e sz l =>
  rcases h with ⟨hp',_⟩ | ⟨b',cap,C,hp',hh,_⟩
  ·cases hp'
  ·injection hp' with hp';injection hp' with hp';subst hp';exact lt_of hh
 | fam f=>cases h
 | rowI e sz l m i x =>
  rcases h with ⟨hp',_⟩ | ⟨b',cap,C,hp',hh,_⟩
  ·cases hp'
  ·injection hp' with hp';injection hp' with hp';subst hp';exact lt_of hh
 | rowQ e sz l m x =>
  rcases h with ⟨hp',_⟩ | ⟨b',cap,C,hp',hh,_⟩
  ·cases hp'
  ·injection hp' with hp';injection hp' with hp';subst hp';exact lt_of hh
 | map ag ks l =>
  obtain ⟨b',E,c,hp',hh,_⟩:=h;injection hp' with hp';injection hp' with hp';subst hp';exact lt_of hh
theorem uF.step {G:wQ} {st:AS} {T:Tbl} {a:Act} {w:World} (h:uF G st T a w) {E:Eff} {T':Tbl} {w':World} {row:Option Nat} {dst:Option Tmp} {v:Value}
  (hg:w.grownBy w' row) (hT:T.le T')
  (hrow:∀ g,row=some g->∃ id bx cap,st.box id=.live bx/\T id=some (.at g cap))
  (himm:∀ b,imm G st T b->b<w.heap.size->imm G (st.upd E) T' b)
  (hdst:dst=E.dst.map (·.1))
  (hd:∀ d av,E.dst=some (d,av)->d<G.n/\Rep w' (imm G (st.upd E) T') T' v av)
  (hbox:∀ id bx,(st.upd E).box id=.live bx->(st.box id=.live bx/\∀ g cap,row=some g->T id≠some (.at g cap)) \/
   (uJ w' (imm G (st.upd E) T') T' (T' id) bx/\(∀ b cap,T' id=some (.at b cap)->G.foot.length<=id->G.mine b)))
  (hun:∀ id,(st.upd E).box id=.unused->T' id=none)
  (hap:∀ id id' bx bx' b cap cap',(st.upd E).box id=.live bx->(st.upd E).box id'=.live bx'->T' id=some (.at b cap)->T' id'=some (.at b cap')->id=id') (hfz:E.fz=[]:=by rfl) :
  Rel G (st.upd E) (a.put dst v) w':=by
 have hcI:∀ b,imm G st T b->b<w.heap.size->w'.heap[b]?=w.heap[b]?:=fun b hb hlt=>hg.block b hlt (fun e=>by
  obtain ⟨id,bx,cap,h1,h2⟩:=hrow b e.symm;exact hb.2 id bx cap h1 h2)
 refine ⟨T',?_,?_,?_,?_,hun,hap,?_,fun i p hp=>hT _ _ (h.foot i p hp),?_,fun i p hp=>hT _ _ (h.pin i p hp)⟩
 ·cases dst<;>exact h.defers
 ·cases dst<;>simp [Act.put,h.size]
 ·intro t;subst hdst;cases hE:E.dst with
  | none =>
   simp only [AS.upd,hE,hfz,bW,dA,cP,Act.put];exact (h.slots t).mono hg.size hcI himm hT
  | some x =>
   obtain ⟨d,av⟩:=x;obtain ⟨hlt,hv⟩:=hd d av hE;simp only [AS.upd,hE,hfz,bW,kH];rw [KP t (by rw [h.size];exact hlt)]
   by_cases ht:t=d
   ·subst ht;rw [if_pos rfl,lB];exact hv
   ·rw [if_neg ht,l6 _ _ _ ht];exact (h.slots t).mono hg.size hcI himm hT
 ·intro id bx hb;rcases hbox id bx hb with ⟨hold,hne⟩ | hnew
  ·have hok:=h.boxes id bx hold;have hTid:T' id=T id:=by
    cases hTi:T id with
    | some p=>exact hT _ _ hTi
    | none =>
     rw [hTi] at hok;exact hok.no.elim
   rw [hTid];exact hok.mono hg.size hcI himm hT fun b cap hp hlt=>hg.block b hlt fun e=>hne b cap e.symm hp
  ·exact hnew.1
 ·intro id bx b cap hb hTb hge0;rcases hbox id bx hb with ⟨hold,_⟩ | ⟨_,hnew⟩
  ·have hok:=h.boxes id bx hold;have hTi:T id=some (.at b cap):=by
    cases hTi:T id with
    | some p=>rw [hT _ _ hTi] at hTb;exact hTb
    | none =>
     rw [hTi] at hok;exact hok.no.elim
   exact h.mine id bx b cap hold hTi hge0
  ·exact hnew b cap hTb hge0
 ·exact zOK h.kept hg fun g hg'=>by
   obtain ⟨id,bx,cap,h1,h2⟩:=hrow g hg';rcases zlg id G.foot.length with hlt | hge
   ·have:=h.foot id _ (w7 hlt)
    rw [h2] at this;injection this with this;exact .inr ⟨cap,by rw [this];exact g8 hlt⟩
   ·exact .inl (h.mine id bx g cap h1 h2 hge)
theorem EV (st:AS) (E:Eff):(st.upd E).box=fun i=>yJ E.wb i (st.box i):=rfl
theorem uF.quiet {G:wQ} {st:AS} {T:Tbl} {a:Act} {w:World} (h:uF G st T a w) {E:Eff} {w':World} {dst:Option Tmp} {v:Value}
  (hg:w.grownBy w' none) (hb:(st.upd E).box=st.box) (hdst:dst=E.dst.map (·.1))
  (hd:∀ d av,E.dst=some (d,av)->d<G.n/\Rep w' (imm G st T) T v av) (hfz:E.fz=[]:=by rfl) :
  Rel G (st.upd E) (a.put dst v) w':=by
 have hi:imm G (st.upd E) T=imm G st T:=by funext b;simp only [imm,hb]
 refine h.step (hfz:=hfz) hg (fun _ _ h=>h) (fun g hg=>by cases hg) (fun b hb _=>by rw [hi];exact hb) hdst ?_ ?_ ?_ ?_
 ·intro d av hE;rw [hi];exact hd d av hE
 ·intro id bx hbx;rw [hb] at hbx;exact .inl ⟨hbx,fun g cap hg=>by cases hg⟩
 ·intro id hu;rw [hb] at hu;exact h.unused id hu
 ·intro id id' bx bx' b cap cap' h1 h2;rw [hb] at h1 h2;exact h.apart id id' bx bx' b cap cap' h1 h2
def Tbl.put (T:Tbl) (id:Nat) (p:zY):Tbl:=fun i=>if i=id then some p else T i
theorem Tbl.put_same (T:Tbl) (id:Nat) (p:zY):T.put id p id=some p:=by simp [Tbl.put]
theorem Tbl.put_ne (T:Tbl) {id i:Nat} (p:zY) (h:i≠id):T.put id p i=T i:=by simp [Tbl.put,h]
theorem Tbl.le_put {T:Tbl} {id:Nat} {p:zY} (h:T id=none):T.le (T.put id p):=fun i q hq=>by
 by_cases e:i=id
 ·subst e;rw [h] at hq;cases hq
 ·rw [Tbl.put_ne _ _ e];exact hq
theorem AC (id:Nat) (b d:zR) (i:Nat):yJ [(id,b)] i d=if i=id then b else d:=by
 by_cases h:i=id
 ·subst h;simp [yJ]
 ·simp [yJ,wV h,h]
theorem uF.new {G:wQ} {st:AS} {T:Tbl} {a:Act} {w:World} (h:uF G st T a w) {E:Eff} {w':World} {dst:Option Tmp} {v:Value} {id:Nat} {bx:Box} {p:zY}
  (hg:w.grownBy w' none) (hw:E.wb=[(id,.live bx)]) (hu:st.box id=.unused) (hdst:dst=E.dst.map (·.1))
  (hp:∀ b cap,p=.at b cap->w.heap.size<=b)
  (hok:uJ w' (imm G (st.upd E) (T.put id p)) (T.put id p) (some p) bx)
  (hd:∀ d av,E.dst=some (d,av)->d<G.n/\Rep w' (imm G (st.upd E) (T.put id p)) (T.put id p) v av) (hfz:E.fz=[]:=by rfl) :
  Rel G (st.upd E) (a.put dst v) w':=by
 have hb:∀ i,(st.upd E).box i=if i=id then .live bx else st.box i:=fun i=>by rw [EV,hw];exact AC _ _ _ _
 have hTn:=h.unused id hu;refine h.step (hfz:=hfz) hg (T':=T.put id p) (Tbl.le_put hTn) (fun g hg=>by cases hg) ?_ hdst hd ?_ ?_ ?_
 ·intro b hI hlt;refine ⟨hI.1,fun id' bx' cap hl hT'=>?_⟩;rw [hb] at hl
  by_cases e:id'=id
  ·subst e;rw [Tbl.put_same] at hT';injection hT' with hT'
   have:=hp b cap hT'
   omega
  ·rw [if_neg e] at hl;rw [Tbl.put_ne _ _ e] at hT';exact hI.2 id' bx' cap hl hT'
 ·intro id' bx' hl;rw [hb] at hl
  by_cases e:id'=id
  ·subst e;rw [if_pos rfl] at hl;injection hl with hl;subst hl;rw [Tbl.put_same];exact .inr ⟨hok,fun b cap hT _=>by injection hT with hT;exact .inl (kX h.kept.size (hp b cap hT))⟩
  ·rw [if_neg e] at hl;exact .inl ⟨hl,fun g cap hg=>by cases hg⟩
 ·intro id' hl;rw [hb] at hl
  by_cases e:id'=id
  ·subst e;simp at hl
  ·rw [if_neg e] at hl;rw [Tbl.put_ne _ _ e];exact h.unused id' hl
 ·intro id1 id2 bx1 bx2 b c1 c2 h1 h2 t1 t2;rw [hb] at h1 h2;have old:∀ i bxi c,i≠id->st.box i=.live bxi->T i=some (.at b c)->b<w.heap.size:=by
   intro i bxi c _ hl hT;have hok:=h.boxes i bxi hl;rw [hT] at hok;exact hok.lt
  by_cases e1:id1=id<;>by_cases e2:id2=id
  ·rw [e1,e2]
  ·subst e1;rw [if_neg e2] at h2;rw [Tbl.put_same] at t1;rw [Tbl.put_ne _ _ e2] at t2;injection t1 with t1
   have:=hp b c1 t1
   have:=old id2 bx2 c2 e2 h2 t2
   omega
  ·subst e2;rw [if_neg e1] at h1;rw [Tbl.put_same] at t2;rw [Tbl.put_ne _ _ e1] at t1;injection t2 with t2
   have:=hp b c2 t2
   have:=old id1 bx1 c1 e1 h1 t1
   omega
  ·rw [if_neg e1] at h1;rw [if_neg e2] at h2;rw [Tbl.put_ne _ _ e1] at t1;rw [Tbl.put_ne _ _ e2] at t2;exact h.apart id1 id2 bx1 bx2 b c1 c2 h1 h2 t1 t2
theorem uF.write {G:wQ} {st:AS} {T:Tbl} {a:Act} {w:World} (h:uF G st T a w) {E:Eff} {w':World} {dst:Option Tmp} {v:Value} {id:Nat} {bx bx':Box} {b cap:Nat}
  (hl:st.box id=.live bx) (hTid:T id=some (.at b cap))
  (hg:w.grownBy w' (some b)) (hw:E.wb=[(id,.live bx')]) (hdst:dst=E.dst.map (·.1))
  (hok:uJ w' (imm G st T) T (T id) bx')
  (hd:∀ d av,E.dst=some (d,av)->d<G.n/\Rep w' (imm G st T) T v av) (hfz:E.fz=[]:=by rfl) :
  Rel G (st.upd E) (a.put dst v) w':=by
 have hb:∀ i,(st.upd E).box i=if i=id then .live bx' else st.box i:=fun i=>by rw [EV,hw];exact AC _ _ _ _
 have hi:imm G (st.upd E) T=imm G st T:=by
  funext c
  apply propext
  constructor
  ·intro hI;refine ⟨hI.1,fun i bxi cp hli hTi=>?_⟩
   by_cases e:i=id
   ·subst e;exact hI.2 i bx' cp (by rw [hb,if_pos rfl]) hTi
   ·exact hI.2 i bxi cp (by rw [hb,if_neg e];exact hli) hTi
  ·intro hI;refine ⟨hI.1,fun i bxi cp hli hTi=>?_⟩;rw [hb] at hli
   by_cases e:i=id
   ·subst e;exact hI.2 i bx cp hl hTi
   ·rw [if_neg e] at hli;exact hI.2 i bxi cp hli hTi
 refine h.step (hfz:=hfz) hg (fun _ _ h=>h) (fun g hg=>by injection hg with hg;subst hg;exact ⟨id,bx,cap,hl,hTid⟩) (fun c hc _=>by rw [hi];exact hc) hdst ?_ ?_ ?_ ?_
 ·intro d av hE;rw [hi];exact hd d av hE
 ·intro i bxi hli;rw [hb] at hli
  by_cases e:i=id
  ·subst e;rw [if_pos rfl] at hli;injection hli with hli;subst hli;rw [hi];exact .inr ⟨hok,fun b' cap' hT' hge=>h.mine i bx b' cap' hl hT' hge⟩
  ·rw [if_neg e] at hli;refine .inl ⟨hli,fun g cp hg hT'=>?_⟩;injection hg with hg;subst hg;exact e (h.apart i id bxi bx b cp cap hli hl hT' hTid)
 ·intro i hu;rw [hb] at hu
  by_cases e:i=id
  ·subst e;simp at hu
  ·rw [if_neg e] at hu;exact h.unused i hu
 ·intro i1 i2 b1 b2 c d1 d2 h1 h2 t1 t2;rw [hb] at h1 h2;have l1:∃ x,st.box i1=.live x:=by
   by_cases e:i1=id
   ·subst e;exact ⟨_,hl⟩
   ·rw [if_neg e] at h1;exact ⟨_,h1⟩
  have l2:∃ x,st.box i2=.live x:=by
   by_cases e:i2=id
   ·subst e;exact ⟨_,hl⟩
   ·rw [if_neg e] at h2;exact ⟨_,h2⟩
  obtain ⟨x1,l1⟩:=l1;obtain ⟨x2,l2⟩:=l2;exact h.apart i1 i2 x1 x2 c d1 d2 l1 l2 t1 t2
theorem uF.move {G:wQ} {st:AS} {T:Tbl} {a:Act} {w:World} (h:uF G st T a w) {E:Eff} {w':World} {dst:Option Tmp} {v:Value} {id id':Nat} {bx bx':Box} {p:zY} {row:Option Nat}
  (hl:st.box id=.live bx) (hu:st.box id'=.unused) (hnp:G.foot.length<=id)
  (hrow:∀ g,row=some g->∃ cap,T id=some (.at g cap))
  (hg:w.grownBy w' row) (hw:E.wb=[(id',.live bx'),(id,.dead)]) (hdst:dst=E.dst.map (·.1))
  (hp:∀ b cap,p=.at b cap->w.heap.size<=b\/(∃ cap',T id=some (.at b cap')))
  (hok:∀ I T':_,(∀ b,imm G st T b->b<w.heap.size->I b)->T.le T'->uJ w' I T' (some p) bx')
  (hd:∀ d av,E.dst=some (d,av)->d<G.n/\∀ I T',T' id'=some p->Rep w' I T' v av) (hfz:E.fz=[]:=by rfl) :
  Rel G (st.upd E) (a.put dst v) w':=by
 have hne:id'≠id:=fun e=>by rw [e,hl] at hu;cases hu
 have hb:∀ i,(st.upd E).box i=if i=id' then .live bx' else if i=id then .dead else st.box i:=fun i=>by
  rw [EV,hw]
  by_cases e:i=id'
  ·subst e;simp [yJ]
  ·by_cases e2:i=id
   ·subst e2;simp [yJ,wV e,e]
   ·simp [yJ,wV e,wV e2,e,e2]
 have hTn:=h.unused id' hu;have cS:∀ i bxi b c,st.box i=.live bxi->T i=some (.at b c)->b<w.heap.size:=by
  intro i bxi b c hl hT;have hok:=h.boxes i bxi hl;rw [hT] at hok;exact hok.lt
 have himm:∀ b,imm G st T b->b<w.heap.size->imm G (st.upd E) (T.put id' p) b:=by
  intro b hI hlt;refine ⟨hI.1,fun i bxi cap hli hTi=>?_⟩;rw [hb] at hli
  by_cases e:i=id'
  ·subst e;rw [Tbl.put_same] at hTi;injection hTi with hTi;rcases hp b cap hTi with h' | ⟨cap',h'⟩
   ·omega
   ·exact hI.2 id bx cap' hl h'
  ·rw [if_neg e] at hli;rw [Tbl.put_ne _ _ e] at hTi
   by_cases e2:i=id
   ·rw [if_pos e2] at hli;cases hli
   ·rw [if_neg e2] at hli;exact hI.2 i bxi cap hli hTi
 refine h.step (hfz:=hfz) hg (T':=T.put id' p) (Tbl.le_put hTn) (fun g hg=>?_) himm hdst ?_ ?_ ?_ ?_
 ·obtain ⟨cap,hT⟩:=hrow g hg;exact ⟨id,bx,cap,hl,hT⟩
 ·intro d av hE;exact ⟨(hd d av hE).1,(hd d av hE).2 _ _ (Tbl.put_same _ _ _)⟩
 ·intro i bxi hli;rw [hb] at hli
  by_cases e:i=id'
  ·subst e;rw [if_pos rfl] at hli;injection hli with hli;subst hli;rw [Tbl.put_same];exact .inr ⟨hok _ _ himm (Tbl.le_put hTn),fun b cap hT _=>by
    injection hT with hT;rcases hp b cap hT with h' | ⟨cap',h'⟩
    ·exact .inl (kX h.kept.size h')
    ·exact h.mine id bx b cap' hl h' hnp⟩
  ·rw [if_neg e] at hli
   by_cases e2:i=id
   ·rw [if_pos e2] at hli;cases hli
   ·rw [if_neg e2] at hli;refine .inl ⟨hli,fun g cap hg hT=>?_⟩;obtain ⟨cap',hT'⟩:=hrow g hg;exact e2 (h.apart i id bxi bx g cap cap' hli hl hT hT')
 ·intro i hli;rw [hb] at hli
  by_cases e:i=id'
  ·subst e;simp at hli
  ·rw [if_neg e] at hli;rw [Tbl.put_ne _ _ e]
   by_cases e2:i=id
   ·rw [if_pos e2] at hli;cases hli
   ·rw [if_neg e2] at hli;exact h.unused i hli
 ·intro i1 i2 b1 b2 b c1 c2 h1 h2 t1 t2;rw [hb] at h1 h2;have key:∀ i bxi c c',i≠id'->(if i=id then zR.dead else st.box i)=.live bxi->T i=some (.at b c)->p=.at b c'->False:=by
   intro i bxi c c' e hli hTi hpp
   by_cases e2:i=id
   ·rw [if_pos e2] at hli;cases hli
   ·rw [if_neg e2] at hli;have hlt:=cS i bxi b c hli hTi;rcases hp b c' hpp with h' | ⟨cap',h'⟩
    ·omega
    ·exact e2 (h.apart i id bxi bx b c cap' hli hl hTi h')
  by_cases e1:i1=id'<;>by_cases e2:i2=id'
  ·rw [e1,e2]
  ·subst e1;rw [if_neg e2] at h2;rw [Tbl.put_same] at t1;rw [Tbl.put_ne _ _ e2] at t2;injection t1 with t1;exact (key i2 b2 c2 c1 e2 h2 t2 t1).elim
  ·subst e2;rw [if_neg e1] at h1;rw [Tbl.put_same] at t2;rw [Tbl.put_ne _ _ e1] at t1;injection t2 with t2;exact (key i1 b1 c1 c2 e1 h1 t1 t2).elim
  ·rw [if_neg e1] at h1;rw [if_neg e2] at h2;rw [Tbl.put_ne _ _ e1] at t1;rw [Tbl.put_ne _ _ e2] at t2
   by_cases f1:i1=id
   ·rw [if_pos f1] at h1;cases h1
   ·by_cases f2:i2=id
    ·rw [if_pos f2] at h2;cases h2
    ·rw [if_neg f1] at h1;rw [if_neg f2] at h2;exact h.apart i1 i2 b1 b2 b c1 c2 h1 h2 t1 t2
structure wA where
 id:Nat:=0
 n:Nat:=0
 z:Int:=0
 m:Nat:=0
 b:Bool:=false
 av:AV:=.junk
 l:List AV:=[]
 s:List Int:=[]
 ids:List Nat:=[]
 pre:List Box:=[]
 post:List Box:=[]
 lend:List Nat:=[]
 frz:List Nat:=[]
 lo:List (Nat×List Nat):=[]
 g:Bool:=true
 dep:Bool:=false
 vc:List Prop:=[]
 mag:Bool:=false
 mks:List KSh:=[]
 es:List (AV×AV):=[]
 giv:List Box:=[]
 gids:List Nat:=[]
 x:Bool:=false
 k:Bool:=true
 kp:List Nat:=[]
 pk:Option (Nat×Nat):=none
 hq:List (Option (wH))->Prop:=fun _=>False
 deriving Inhabited
def bytesOf (s:ByteArray):List Int:=s.data.toList.map fun c=>(c.toNat:Int)
def K2:Value->AV
 | .int k n=>.int k n
 | .bool b=>.bool b
 | .string s=>.str (bytesOf s)
 | .slice none 0 0=>.nilsl
 | .pointer none=>.nilp
 | .map none=>.fm true []
 | _=>.junk
def H5:Value->AV
 | .agg vs=>.agg (vs.toList.map K2)
 | v=>K2 v
def oM:Value->Bool
 | .int k n=>decide (k.wrap n=n)
 | .bool _=>true
 | .string s=>Nat.ble s.data.size 9223372036854775807
 | .slice none 0 0=>true
 | .pointer none=>true
 | .map none=>true
 | _=>false
def GT:Value->Bool
 | .agg vs=>vs.toList.all oM
 | v=>oM v
theorem nY:maxLen=9223372036854775807:=by decide
theorem zDg (s:ByteArray):kE (bytesOf s)=s:=by
 obtain ⟨d⟩:=s;simp only [kE,bytesOf,QL]
 congr 1
 have:((fun x:Int=>UInt8.ofNat x.toNat) ∘ fun c:UInt8=>(c.toNat:Int))=id:=by
  funext c;simp
 rw [this,List.map_id]
theorem zB3 (s:ByteArray):∀ x∈bytesOf s,0<=x/\x<256:=by
 intro x hx;simp only [bytesOf,vB] at hx;obtain ⟨c,_,rfl⟩:=hx
 have:=c.toNat_lt
 omega
theorem zDD {w:World} {I:Nat->Prop} {T:Tbl} {v:Value} (h:oM v=true):Rep w I T v (K2 v):=by
 cases v with
 | int k n=>exact .int (of_decide_eq_true h)
 | bool b=>exact .bool
 | string s =>
  have hs:s.data.size<=9223372036854775807:=zle h
  have:=Rep.str (w:=w) (I:=I) (T:=T) (l:=bytesOf s) (zB3 s) (by rw [nY];simpa [bytesOf] using hs)
  rw [zDg] at this;exact this
 | slice a l c =>
  unfold oM at h
  split at h<;>simp_all
  rename_i heq
  obtain ⟨rfl,rfl,rfl⟩:=heq;exact .nilsl
 | pointer a =>
  cases a with
  | none=>exact .nilp
  | some a=>simp [oM] at h
 | map a =>
  cases a with
  | none=>exact .fm0
  | some a=>simp [oM] at h
 | _=>simp [oM] at h
theorem zCa {v:Value} (h:oM v=true):(K2 v).one=true:=by
 unfold oM at h
 split at h<;>simp_all [K2,AV.one]
theorem YN {w:World} {I:Nat->Prop} {T:Tbl} {v:Value} (h:GT v=true):Rep w I T v (H5 v):=by
 cases v with
 | agg vs =>
  simp only [GT,tC] at h;refine .agg (by simp) ?_ ?_
  ·intro c hc;simp only [vB] at hc;obtain ⟨v,hv,rfl⟩:=hc;exact zCa (h v hv)
  ·intro j c hj;rw [vD] at hj;cases hvj:vs.toList[j]? with
   | none=>rw [hvj] at hj;cases hj
   | some v =>
    rw [hvj] at hj;injection hj with hj;subst hj;have hv:v∈vs.toList:=yN hvj
    have:vs.getD j undef=v:=by
     simp only [bG];rw [k9] at hvj;rw [hvj];rfl
    rw [this];exact zDD (h v hv)
 | _=>exact zDD h
def xK:Operand->Bool
 | .const v=>GT v
 | _=>true
def aA (st:AS):List Operand->List (Nat×AV)
 | []=>[]
 | .tmp t::r=>(t,st.slot t)::aA st r
 | _::r=>aA st r
/-! Integers. -/
def HZ:IntKind->IntKind->Bool
 | .i8,.i8 | .i16,.i16 | .i32,.i32 | .i64,.i64 | .u8,.u8 | .u16,.u16 | .u32,.u32 | .u64,.u64=>true
 | _,_=>false
theorem zEy {a b:IntKind} (h:HZ a b=true):a=b:=by cases a<;>cases b<;>simp_all [HZ]
def tS (k:IntKind) (x y:Int):Int:=k.wrap (BitVec.ofInt k.bits x &&& BitVec.ofInt k.bits y).toNat
def ior (k:IntKind) (x y:Int):Int:=k.wrap (BitVec.ofInt k.bits x ||| BitVec.ofInt k.bits y).toNat
def uD (k:IntKind) (x y:Int):Int:=k.wrap (x * 2 ^ (min y.toNat k.bits))
def xX (k:IntKind) (x y:Int):Int:=x.fdiv (2 ^ (min y.toNat k.bits))
def pV (k:IntKind) (x y:Int):Int:=k.wrap (x.tdiv y)
def dZ (x y:Int):Int:=x.tmod y
theorem rG (k:IntKind) (n:Int):k.wrap (k.wrap n)=k.wrap n:=by
 cases k<;>simp only [IntKind.wrap,IntKind.bits,IntKind.signed]<;>simp<;>omega
theorem YM (k:IntKind) (n:Int) (h:k.wrap n=n):(if k.signed then -(2 ^ (k.bits - 1):Int) else 0)<=n/\n<(if k.signed then 2 ^ (k.bits - 1) else 2 ^ k.bits):=by
 cases k<;>simp only [IntKind.wrap,IntKind.bits,IntKind.signed] at h ⊢<;>simp at h ⊢<;>omega
theorem GI (k:IntKind) (n:Int) (h:(if k.signed then -(2 ^ (k.bits - 1):Int) else 0)<=n/\n<(if k.signed then 2 ^ (k.bits - 1) else 2 ^ k.bits)):k.wrap n=n:=by
 cases k<;>simp only [IntKind.wrap,IntKind.bits,IntKind.signed] at h ⊢<;>simp at h ⊢<;>omega
theorem zLm (k:IntKind) (n m:Int) (h:k.wrap n=n) (h1:0<=n->0<=m/\m<=n) (h2:n<0->n<=m/\m<0):k.wrap m=m:=by
 have hr:=YM k n h;refine GI k m ?_;rcases MD n 0 with h' | h'
 ·have:=h2 h'
  cases k<;>simp only [IntKind.bits,IntKind.signed] at hr ⊢<;>simp at hr ⊢<;>omega
 ·have:=h1 h'
  cases k<;>simp only [IntKind.bits,IntKind.signed] at hr ⊢<;>simp at hr ⊢<;>omega
theorem zJ5 (k:IntKind) (x y:Int) (h:k.wrap x=x):k.wrap (xX k x y)=xX k x y:=by
 have hp:(0:Int)<2 ^ (min y.toNat k.bits):=Int.pow_pos (by omega);have he:xX k x y=x / 2 ^ (min y.toNat k.bits):=by
  unfold xX;rw [Int.fdiv_eq_ediv_of_nonneg];omega
 rw [he];refine zLm k x _ h ?_ ?_
 ·intro hx;exact ⟨Int.ediv_nonneg hx (by omega),Int.ediv_le_self _ hx⟩
 ·intro hx;refine ⟨?_,Int.ediv_neg_of_neg_of_pos hx hp⟩;have h1:(1:Int)<=2 ^ (min y.toNat k.bits):=by omega
  rw [Int.le_ediv_iff_mul_le hp]
  have:x * 2 ^ (min y.toNat k.bits)<=x * 1:=Int.mul_le_mul_of_nonpos_left (by omega) h1
  omega
theorem zCv {x:Int} (y:Int) (hx:0<=x):x.tmod y<=x:=by
 have h1:=Int.natAbs_tmod x y;have h2:=Nat.mod_le x.natAbs y.natAbs;have h3:=Int.tmod_nonneg y hx;omega
theorem zLk (k:IntKind) (x y:Int) (h:k.wrap x=x):k.wrap (dZ x y)=dZ x y:=by
 unfold dZ;have hr:=YM k x h;refine GI k _ ?_;have h1:0<=x->0<=x.tmod y/\x.tmod y<=x:=fun hx=>⟨Int.tmod_nonneg _ hx,zCv _ hx⟩
 have h2:x<0->x<=x.tmod y/\x.tmod y<=0:=fun hx=>by
  have e:x.tmod y = -((-x).tmod y):=by rw [Int.neg_tmod];omega
  have a1:=Int.tmod_nonneg y (a := -x) (by omega);have a2:(-x).tmod y <= -x:=zCv y (by omega);omega
 rcases MD x 0 with h' | h'
 ·have:=h2 h'
  cases k<;>simp only [IntKind.bits,IntKind.signed] at hr ⊢<;>simp at hr ⊢<;>omega
 ·have:=h1 h'
  cases k<;>simp only [IntKind.bits,IntKind.signed] at hr ⊢<;>simp at hr ⊢<;>omega
def cM (P:Program) (ρ:Operand->Value) (o:Oper) (w:World) (I:Nat->Prop) (T:Tbl) (av:AV):Prop :=
 ∃ v w',(execOp ρ o).run P w=.ok (.value v) w'/\w.grownBy w' none /\
  ∀ I' T',(∀ b,I b->b<w.heap.size->I' b)->(∀ b,w.heap.size<=b->b<w'.heap.size->I' b)->T.le T'->Rep w' I' T' v av
theorem nC (w:World):w.grownBy w none:=⟨rfl,rfl,rfl,yI _,fun _ _ _=>rfl⟩
theorem cM.same {P:Program} {ρ:Operand->Value} {o:Oper} {w:World} {I:Nat->Prop} {T:Tbl} {av:AV} {v:Value}
  (h:(execOp ρ o).run P w=.ok (.value v) w) (hr:Rep w I T v av):cM P ρ o w I T av :=
 ⟨v,w,h,nC w,fun _ _ hI _ hT=>hr.mono (yI _) (fun _ _ _=>rfl) hI hT⟩
/-! Operators on integers, truth values and strings. -/
def ZR (op:BinOp) (k:IntKind) (a:Int) (b:Int):Option (List Prop×AV) :=
 match op with
 | .add=>some ([],.int k (k.wrap (a+b)))
 | .sub=>some ([],.int k (k.wrap (a - b)))
 | .mul=>some ([],.int k (k.wrap (a * b)))
 | .quo=>some ([b≠0],.int k (pV k a b))
 | .rem=>some ([b≠0],.int k (dZ a b))
 | .and=>some ([],.int k (tS k a b))
 | .or=>some ([],.int k (ior k a b))
 | .eql=>some ([],.bool (a==b))
 | .neq=>some ([],.bool (a != b))
 | .lss=>some ([],.bool (decide (a<b)))
 | .leq=>some ([],.bool (decide (a<=b)))
 | .gtr=>some ([],.bool (decide (a>b)))
 | .geq=>some ([],.bool (decide (a>=b)))
 | _=>none
def WK (P:Program) (t:TypeId):Bool:=match P.underlying t with | some .bool=>true | _=>false
theorem zJl {P:Program} {t:TypeId} (h:WK P t=true):P.underlying t=some .bool:=by
 unfold WK at h;split at h<;>simp_all
def TH (P:Program) (t:TypeId):Bool:=match P.underlying t with | some (.slice _)=>true | _=>false
theorem zKa {P:Program} {t:TypeId} (h:TH P t=true):∃ e,P.underlying t=some (.slice e):=by
 unfold TH at h;split at h
 ·rename_i e he;exact ⟨e,he⟩
 ·cases h
def zAv (P:Program) (op:BinOp) (xT:TypeId) (x y:AV):Option (List Prop×AV) :=
 match x,y with
 | .int k a,.int k' b =>
  match op with
  | .shl=>some ([0<=b],.int k (uD k a b))
  | .shr=>some ([0<=b],.int k (xX k a b))
  | op=>bif HZ k k' then ZR op k a b else none
 | .bool a,.bool b =>
  bif WK P xT then
   match op with
   | .eql=>some ([],.bool (a==b))
   | .neq=>some ([],.bool (!(a==b)))
   | _=>none
  else none
 | .str a,.str b =>
  match op with
  | .eql=>some ([],.bool (a==b))
  | .neq=>some ([],.bool (!(a==b)))
  | _=>none
 | .sl _ _ l,.nilsl =>
  match op with
  | .eql=>bif TH P xT then some ([],.nb l) else none
  | _=>none
 | _,_=>none
theorem zCP (l:List Int):(kE l).toList=l.map fun x=>UInt8.ofNat x.toNat:=by
 rw [ByteArray.toList_eq];simp [kE]
theorem zDz (l:List Int):(kE l).size=l.length:=by simp [kE,ByteArray.size]
theorem zKV {a b:Int} (ha:0<=a/\a<256) (hb:0<=b/\b<256):UInt8.ofNat a.toNat=UInt8.ofNat b.toNat↔a=b:=by
 constructor
 ·intro h;have h1:(UInt8.ofNat a.toNat).toNat=(UInt8.ofNat b.toNat).toNat:=by rw [h]
  simp only [XR] at h1;omega
 ·intro h;rw [h]
theorem zNR {a b:List Int} (ha:∀ x∈a,0<=x/\x<256) (hb:∀ x∈b,0<=x/\x<256) :
  ((kE a).toList==(kE b).toList)=(a==b):=by
 rw [zCP,zCP]
 induction a generalizing b with
 | nil=>cases b<;>simp
 | cons x r ih =>
  cases b with
  | nil=>simp
  | cons y s =>
   have h1:=ih (b:=s) (fun z hz=>ha z (by simp [hz])) (fun z hz=>hb z (by simp [hz]));simp only [uM,List.cons_beq_cons,h1]
   congr 1
   rw [WD];simp only [beq_iff_eq];exact zKV (ha x (by simp)) (hb y (by simp))
theorem oU {P:Program} {op:BinOp} {xT yT:TypeId} {x y:Operand} {ρ:Operand->Value} {o:Oper} {w:World} {X Y v:Value}
  (ho:o.op=.binOp op xT x y yT) (hX:ρ x=X) (hY:ρ y=Y) (hg:(eqGuard op xT x y X Y).run P w=.ok () w) (hb:(binOp op xT X Y).run P w=.ok v w) :
  (execOp ρ o).run P w=.ok (.value v) w:=by
 simp only [execOp,ho,hX,hY,vV,hg,v6,hb];rfl
theorem DG {P:Program} {op:BinOp} {xT:TypeId} {x y:Operand} {w:World} {X Y:Value} (hX:match X with | .nilIface | .agg _=>False | _=>True) :
  (eqGuard op xT x y X Y).run P w=.ok () w:=by
 unfold eqGuard;cases X<;>first | exact hX.elim | (cases op<;>cases Y<;>simp)
theorem zO5 {P:Program} {op:BinOp} {k:IntKind} {a b:Int} {xT:TypeId} {w:World} {I:Nat->Prop} {T:Tbl} {r:List Prop×AV}
  (h:ZR op k a b=some r) (hv:∀ p∈r.1,p) (wa:k.wrap a=a):∃ v,(binOp op xT (.int k a) (.int k b)).run P w=.ok v w/\Rep w I T v r.2:=by
 cases op<;>simp only [ZR,uU,reduceCtorEq] at h<;>subst h
 case add=>exact ⟨_,by simp [binOp,Op.intArith],.int (rG _ _)⟩
 case sub=>exact ⟨_,by simp [binOp,Op.intArith],.int (rG _ _)⟩
 case mul=>exact ⟨_,by simp [binOp,Op.intArith],.int (rG _ _)⟩
 case and=>exact ⟨.int k (tS k a b),by simp [binOp,Op.intBits,tS],.int (rG _ _)⟩
 case or=>exact ⟨.int k (ior k a b),by simp [binOp,Op.intBits,ior],.int (rG _ _)⟩
 case quo =>
  have h0:b≠0:=hv _ (by simp);exact ⟨.int k (pV k a b),by simp [binOp,Op.intDiv,pV,h0],.int (rG _ _)⟩
 case rem =>
  have h0:b≠0:=hv _ (by simp);exact ⟨.int k (dZ a b),by simp [binOp,Op.intDiv,dZ,h0],.int (zLk _ _ _ wa)⟩
 all_goals exact ⟨_,by simp [binOp,Op.intCmp],.bool⟩
theorem zJr {P:Program} {op:BinOp} {xT yT:TypeId} {x y:Operand} {ρ:Operand->Value} {o:Oper} {w:World} {I:Nat->Prop} {T:Tbl} {X Y:AV} {r:List Prop×AV}
  (ho:o.op=.binOp op xT x y yT) (hx:Rep w I T (ρ x) X) (hy:Rep w I T (ρ y) Y) (h:zAv P op xT X Y=some r) (hv:∀ p∈r.1,p):cM P ρ o w I T r.2:=by
 unfold zAv at h
 split at h
 ·rename_i k a k' b
  generalize hX:ρ x=vx at hx;generalize hY:ρ y=vy at hy;cases hx with
  | int wa =>
  cases hy with
  | int wb =>
  split at h
  ·injection h with h;subst h;have h0:0<=b:=hv _ (by simp);exact .same (oU ho hX hY (DG trivial) (by simp [binOp,Op.shift,uD,Int.not_lt.2 h0])) (.int (rG _ _))
  ·injection h with h;subst h;have h0:0<=b:=hv _ (by simp);exact .same (oU ho hX hY (DG trivial) (by simp [binOp,Op.shift,xX,Int.not_lt.2 h0])) (.int (zJ5 _ _ _ wa))
  ·rename_i hns hnr
   cases hk:HZ k k'
   ·rw [hk] at h;cases h
   ·rw [hk] at h
    have:=zEy hk
    subst this;simp only [cond_true] at h;obtain ⟨v,h1,h2⟩:=zO5 (P:=P) (xT:=xT) (w:=w) (I:=I) (T:=T) h hv wa;exact .same (oU ho hX hY (DG trivial) h1) h2
 ·rename_i a b
  generalize hX:ρ x=vx at hx;generalize hY:ρ y=vy at hy;cases hx with
  | bool =>
  cases hy with
  | bool =>
  cases hb:WK P xT
  ·rw [hb] at h;cases h
  ·rw [hb] at h;simp only [cond_true] at h;have ht:=zJl hb
   split at h<;>first | (injection h with h;subst h) | cases h
   ·exact .same (oU ho hX hY (DG trivial) (run_eql_bool w xT a b ht)) .bool
   ·exact .same (oU ho hX hY (DG trivial) (run_neq_bool w xT a b ht)) .bool
 ·rename_i a b
  generalize hX:ρ x=vx at hx;generalize hY:ρ y=vy at hy;cases hx with
  | str ra la =>
  cases hy with
  | str rb lb =>
  have e1:=zNR ra rb
  split at h<;>first | (injection h with h;subst h) | cases h
  all_goals exact .same (oU ho hX hY (DG trivial) (by simp only [binOp,Op.stringOp,e1];rfl)) .bool
 ·rename_i f sz l
  split at h
  case h_2=>cases h
  cases hs:TH P xT
  ·rw [hs] at h;cases h
  rw [hs] at h;injection h with h;subst h;obtain ⟨e,he⟩:=zKa hs;generalize hX:ρ x=vx at hx;generalize hY:ρ y=vy at hy;have hy':vy=.slice none 0 0:=by
   generalize hn:AV.nilsl=n at hy;cases hy<;>first | rfl | cases hn
  subst hy';cases hx with
  | sl0 h1 h2=>exact .same (oU ho hX hY (DG trivial) (Lib.run_eql_slice_nil w xT e _ _ _ _ _ he)) (.nb fun _=>rfl)
  | sl g h1=>exact .same (oU ho hX hY (DG trivial) (Lib.run_eql_slice_nil w xT e _ _ _ _ _ he)) (.nb fun h=>by cases h)
 ·cases h
def vun (op:UnOp) (x:AV):Option (List Prop×AV) :=
 match op,x with
 | .neg,.int k n=>some ([],.int k (k.wrap (0 - n)))
 | .not,.bool b=>some ([],.bool !b)
 | _,_=>none
theorem zHD {P:Program} {op:UnOp} {xT:TypeId} {x:Operand} {ρ:Operand->Value} {o:Oper} {w:World} {I:Nat->Prop} {T:Tbl} {X:AV} {r:List Prop×AV}
  (ho:o.op=.unOp op xT x) (hx:Rep w I T (ρ x) X) (h:vun op X=some r):cM P ρ o w I T r.2:=by
 unfold vun at h;generalize hX:ρ x=vx at hx
 split at h<;>first | (injection h with h;subst h) | cases h
 ·cases hx with
  | int wa=>exact .same (by simp [execOp,ho,hX,Op.unary,Op.intArith]) (.int (rG _ _))
 ·cases hx with
  | bool=>exact .same (by simp [execOp,ho,hX,Op.unary]) .bool
def uQ (P:Program) (t:TypeId):Bool:=match P.underlying t with | some (.struct _)=>true | some (.array _ _)=>true | _=>false
def u5 (P:Program) (t:TypeId):Bool:=(P.underlying t).isSome&&(P.info? t).isSome
def szT (P:Program) (t:TypeId):Nat:=match P.info? t with | some i=>i.size | none=>0
theorem zDk {P:Program} {t:TypeId} (h:u5 P t=true) (w:World):(isAgg t).run P w=.ok (uQ P t) w:=by
 simp only [u5,zba,H7] at h;obtain ⟨⟨d,hd⟩,_⟩:=h;simp only [isAgg,vV,run_underlying hd,v6,uQ,hd];cases d<;>rfl
theorem dO {P:Program} {t:TypeId} (h:u5 P t=true) (w:World):(sizeOf t).run P w=.ok (szT P t) w:=by
 simp only [u5,zba,H7] at h;obtain ⟨_,⟨i,hi⟩⟩:=h;simp [sizeOf,typeInfo,hi,szT]
def B1 (P:Program) (t:TypeId) (cs:List AV) (off:Nat):Option AV :=
 bif uQ P t then
  bif Nat.ble (off+szT P t) cs.length then some (.agg ((cs.drop off).take (szT P t))) else none
 else cs[off]?
theorem HS {P:Program} {t:TypeId} {cs:List AV} {off:Nat} {av:AV} (h:B1 P t cs off=some av) (h1:∀ c∈cs,c.one=true) :
  (uQ P t=true->av=.agg av.cells/\av.cells.length=szT P t)/\(uQ P t=false->av.cells=[av])/\(∀ j c,av.cells[j]?=some c->cs[off+j]?=some c)/\(∀ c∈av.cells,c.one=true):=by
 unfold B1 at h;cases ha:uQ P t
 ·rw [ha] at h;simp only [cond_false] at h;have hm:=yN h;have h1':=h1 _ hm;have hc:av.cells=[av]:=by cases av<;>simp_all [AV.one,AV.cells]
  refine ⟨by simp,fun _=>hc,?_,?_⟩
  ·intro j c hj;rw [hc] at hj;cases j with
   | zero=>simp at hj;subst hj;simpa using h
   | succ j=>simp at hj
  ·rw [hc];simpa using h1'
 ·rw [ha] at h;simp only [cond_true] at h;cases hb:Nat.ble (off+szT P t) cs.length
  ·rw [hb] at h;cases h
  ·rw [hb] at h;injection h with h;subst h;have hle:=zle hb;refine ⟨fun _=>⟨rfl,by simp [AV.cells];omega⟩,by simp,?_,?_⟩
   ·intro j c hj;simp only [AV.cells,aY,gH] at hj
    split at hj
    ·exact hj
    ·cases hj
   ·intro c hc;exact h1 c (bS (aK hc))
theorem QP {P:Program} {t:TypeId} {w:World} {b off:Nat} {av:AV} {g:Nat->Value} (hk:u5 P t=true)
  (ha:uQ P t=true->av=.agg av.cells/\av.cells.length=szT P t) (hn:uQ P t=false->av.cells=[av])
  (hc:∀ j c,av.cells[j]?=some c->w.cell? ⟨b,off+j,none⟩=some (g j)) {I:Nat->Prop} {T:Tbl}
  (h1:∀ c∈av.cells,c.one=true)
  (hr:∀ j c,av.cells[j]?=some c->Rep w I T (g j) c):∃ v,(loadVar t ⟨b,off,none⟩).run P w=.ok v w/\Rep w I T v av:=by
 have hadd:∀ j,(⟨b,off,none⟩:Addr).add j=⟨b,off+j,none⟩:=fun j=>by unfold Addr.add;split<;>simp_all
 cases hA:uQ P t
 ·have hcs:=hn hA;have h0:=hc 0 av (by rw [hcs];rfl);refine ⟨g 0,?_,hr 0 av (by rw [hcs];rfl)⟩;have h0':w.cell? ⟨b,off,none⟩=some (g 0):=by simpa using h0
  simp only [loadVar,vV,zDk hk,v6,hA];simp [run_load,h0']
 ·obtain ⟨hav,hl⟩:=ha hA;have hload:=run_loadCells (P:=P) w ⟨b,off,none⟩ (szT P t) g (fun j hj=>by
   rw [hadd]
   have:j<av.cells.length:=by omega
   exact hc j av.cells[j] (w7 this))
  refine ⟨.agg ((List.range (szT P t)).map g).toArray,?_,?_⟩
  ·simp only [loadVar,vV,zDk hk,dO hk,v6,hA,if_true,hload];rfl
  ·rw [hav];refine .agg (by simp [hl]) (by simpa [AV.cells] using h1) ?_;intro j c hj;have hlt:j<szT P t:=by
    rcases zlg j (szT P t) with h | h
    ·exact h
    ·rw [vH (by rw [hl];exact h)] at hj;cases hj
   have:(((List.range (szT P t)).map g).toArray).getD j undef=g j:=by
    simp [hlt]
   rw [this];exact hr j c hj
def Y0 (P:Program) (s:TypeId) (f:Nat):Option Field :=
 match P.underlying s with
 | some (.struct fs)=>fs[f]?
 | _=>none
def zBt (P:Program) (s:TypeId) (x:AV) (f:Nat):Option (List Prop×AV) :=
 match Y0 P s f with
 | none=>none
 | some fd =>
  bif u5 P fd.type&&!(Nat.beq (szT P fd.type) 0) then
   match x with
   | .ref (.agg cs)=>match B1 P fd.type cs fd.offset with
    | some av=>some ([],.ref av)
    | none=>none
   | .ptr id sz i off=>some ([],.ptr id sz i (off+fd.offset))
   | _=>none
  else none
theorem zCu {P:Program} {s:TypeId} {f:Nat} {fd:Field} {b off:Nat} {w:World} (hf:Y0 P s f=some fd) (hk:u5 P fd.type=true) (hz:szT P fd.type≠0) :
  (Instr.fieldAt s (.pointer (some ⟨b,off,none⟩)) f).run P w=.ok (.pointer (some ⟨b,off+fd.offset,none⟩)) w:=by
 unfold Y0 at hf
 split at hf
 ·rename_i fs hu
  have hadd:(⟨b,off,none⟩:Addr).add fd.offset=⟨b,off+fd.offset,none⟩:=by unfold Addr.add;split<;>simp_all
  simp only [Instr.fieldAt,vV,run_underlying hu,v6,hf,Instr.sureAddr,jV,fieldPlace,dO hk,if_neg hz,hadd]
 ·cases hf
theorem zG2 {P:Program} {s:TypeId} {x:Operand} {f:Nat} {ρ:Operand->Value} {o:Oper} {w:World} {I:Nat->Prop} {T:Tbl} {X:AV} {r:List Prop×AV}
  (ho:o.op=.fieldAddr s x f) (hx:Rep w I T (ρ x) X) (h:zBt P s X f=some r):cM P ρ o w I T r.2:=by
 unfold zBt at h
 split at h
 ·cases h
 rename_i fd hf
 cases hc:(u5 P fd.type&&!(Nat.beq (szT P fd.type) 0))
 ·rw [hc] at h;cases h
 rw [hc] at h;simp only [zba,pH] at hc;have hz:szT P fd.type≠0:=fun e=>by rw [e] at hc;simp at hc
 simp only [cond_true] at h;generalize hX:ρ x=vx at hx
 split at h
 ·rename_i cs
  cases hx with
  | ref g hI hb h1 h2 h3 =>
  rename_i b off
  split at h
  ·rename_i av hav
   injection h with h;subst h;obtain ⟨_,_,hsub,hone⟩:=HS hav h1;refine .same (v:=.pointer (some ⟨b,off+fd.offset,none⟩)) ?_ (.ref (fun j=>g (fd.offset+j)) hI hb hone ?_ ?_)
   ·simp only [execOp,ho,hX,vV,zCu hf hc.1 hz,v6];rfl
   ·intro j c hj;rw [lM];exact h2 _ _ (hsub j c hj)
   ·intro j c hj;exact h3 _ _ (hsub j c hj)
  ·cases h
 ·injection h with h;subst h;cases hx with
  | ptr hT ho' =>
  rename_i o' b' c'
  refine .same (v:=.pointer (some ⟨b',o'+fd.offset,none⟩)) ?_ (.ptr hT (by omega));simp only [execOp,ho,hX,vV,zCu hf hc.1 hz,v6];rfl
 ·cases h
def Y1 (P:Program) (t:TypeId) (x:AV):Option (List Prop×AV) :=
 match x with
 | .ref av =>
  bif u5 P t then
   bif uQ P t then
    match av with
    | .agg cs=>bif Nat.beq cs.length (szT P t) then some ([],.agg cs) else none
    | _=>none
   else
    match av with
    | .agg _=>none
    | av=>some ([],av)
  else none
 | _=>none
theorem zMJ {P:Program} {t:TypeId} {x:Operand} {ρ:Operand->Value} {o:Oper} {w:World} {I:Nat->Prop} {T:Tbl} {X:AV} {r:List Prop×AV}
  (ho:o.op=.load t x) (hx:Rep w I T (ρ x) X) (h:Y1 P t X=some r):cM P ρ o w I T r.2:=by
 unfold Y1 at h;generalize hX:ρ x=vx at hx
 split at h
 ·rename_i av
  cases hk:u5 P t
  ·rw [hk] at h;cases h
  rw [hk] at h;simp only [cond_true] at h;cases hx with
  | ref g hI hb h1 h2 h3 =>
  rename_i b off
  have key:∀ {av':AV},av'=av->(uQ P t=true->av=.agg av.cells/\av.cells.length=szT P t)->(uQ P t=false->av.cells=[av])->cM P ρ o w I T av':=by
   intro av' e ha hn;subst e;obtain ⟨v,hrun,hrep⟩:=QP hk ha hn h2 h1 (fun j c hj=>(h3 j c hj).mono (yI _) (fun _ _ _=>rfl) (fun _ h _=>h) (T':=T) (fun i p hp=>by simp [Tbl.empty] at hp));refine .same (v:=v) ?_ hrep;simp only [execOp,ho,hX,Instr.loadAt,Instr.sureAddr,vV,jV,v6,hrun]
  cases hA:uQ P t
  ·rw [hA] at h;simp only [cond_false] at h
   split at h
   ·cases h
   ·rename_i hna
    injection h with h;subst h;refine key rfl (by rw [hA];simp) (fun _=>?_);cases av<;>first | rfl | exact (hna _ rfl).elim
  ·rw [hA] at h;simp only [cond_true] at h
   split at h
   ·rename_i cs
    cases hb:Nat.beq cs.length (szT P t)
    ·rw [hb] at h;cases h
    ·rw [hb] at h;injection h with h;subst h;exact key rfl (fun _=>⟨rfl,wT.1 hb⟩) (by rw [hA];simp)
   ·cases h
 ·cases h
def E1 (l:List AV) (i:Int):Option AV:=if 0<=i then l[i.toNat]? else none
def TN (l:List Int) (i:Int):Option Int:=if 0<=i then l[i.toNat]? else none
theorem zLj {l:List AV} {i:Int} {av:AV} (h:E1 l i=some av):0<=i/\i<l.length/\l[i.toNat]?=some av:=by
 unfold E1 at h
 split at h
 ·rename_i h0
  have:i.toNat<l.length:=by
   rcases zlg i.toNat l.length with h' | h'
   ·exact h'
   ·rw [vH h'] at h;cases h
  exact ⟨h0,by omega,h⟩
 ·cases h
theorem zO8 {l:List Int} {i:Int} {c:Int} (h:TN l i=some c):0<=i/\i<l.length/\l[i.toNat]?=some c:=by
 unfold TN at h
 split at h
 ·rename_i h0
  have:i.toNat<l.length:=by
   rcases zlg i.toNat l.length with h' | h'
   ·exact h'
   ·rw [vH h'] at h;cases h
  exact ⟨h0,by omega,h⟩
 ·cases h
theorem mC (b off j:Nat):(⟨b,off,none⟩:Addr).add j=⟨b,off+j,none⟩:=by unfold Addr.add;split<;>simp_all
def zBa (P:Program) (t:TypeId) (x ix:AV) (h:wA):Option (List Prop×AV) :=
 match ix with
 | .int _ i =>
  match P.underlying t with
  | some (.slice e) =>
   bif u5 P e then
    match x with
    | .sl _ sz l=>bif Nat.beq sz (szT P e) then some ([E1 l i=some h.av],.ref h.av) else none
    | .own id n=>some ([0<=i,i<n],.ptr id (szT P e) i.toNat 0)
    | .part id sz lo hi=>bif Nat.beq sz (szT P e) then some ([0<=i,i<(hi:Int) - lo],.ptr id sz (lo+i.toNat) 0) else none
    | _=>none
   else none
  | some (.array n e) =>
   bif u5 P e then
    match x with
    | .ptr id sz j off=>some ([0<=i,i<n],.ptr id sz j (off+i.toNat * szT P e))
    | _=>none
   else none
  | _=>none
 | _=>none
theorem zBw {P:Program} {t e:TypeId} {k:IntKind} {i:Int} {b off n cap:Nat} {w:World} (hu:P.underlying t=some (.slice e)) (hk:u5 P e=true)
  (h0:0<=i) (h1:i<n):(Instr.indexAt t (.slice (some ⟨b,off,none⟩) n cap) (.int k i)).run P w=.ok (.pointer (some ⟨b,off+i.toNat * szT P e,none⟩)) w:=by
 simp [Instr.indexAt,asIntOf,run_underlying hu,h0,h1,dO hk,mC]
theorem zJF {P:Program} {t e:TypeId} {k:IntKind} {i:Int} {b off n:Nat} {w:World} (hu:P.underlying t=some (.array n e)) (hk:u5 P e=true)
  (h0:0<=i) (h1:i<n):(Instr.indexAt t (.pointer (some ⟨b,off,none⟩)) (.int k i)).run P w=.ok (.pointer (some ⟨b,off+i.toNat * szT P e,none⟩)) w:=by
 simp [Instr.indexAt,asIntOf,run_underlying hu,h0,h1,dO hk,mC,Instr.sureAddr]
theorem zNZ {P:Program} {t:TypeId} {x ix:Operand} {ρ:Operand->Value} {o:Oper} {w:World} {I:Nat->Prop} {T:Tbl} {X IX:AV} {hn:wA} {r:List Prop×AV}
  (ho:o.op=.indexAddr t x ix) (hx:Rep w I T (ρ x) X) (hix:Rep w I T (ρ ix) IX) (h:zBa P t X IX hn=some r) (hv:∀ p∈r.1,p):cM P ρ o w I T r.2:=by
 unfold zBa at h;generalize hX:ρ x=vx at hx;generalize hIX:ρ ix=vi at hix
 split at h
 ·rename_i k i
  cases hix with
  | int wi =>
  split at h
  ·rename_i e hu
   cases hk:u5 P e
   ·rw [hk] at h;cases h
   rw [hk] at h;simp only [cond_true] at h
   split at h
   ·rename_i full sz l
    cases hb:Nat.beq sz (szT P e)
    ·rw [hb] at h;cases h
    rw [hb] at h;injection h with h;subst h;have hsz:=wT.1 hb;have hidx:E1 l i=some hn.av:=hv _ (by simp);obtain ⟨h0,h1,hget⟩:=zLj hidx;cases hx with
    | sl0=>simp at h1;omega
    | sl g e1 e2 e3 e4 e5 e6 e7 e8 e9 e10 =>
    rename_i b off cap n
    refine .same (v:=.pointer (some ⟨b,off+i.toNat * szT P e,none⟩)) ?_ (.ref (g i.toNat) e7 e8 ?_ ?_ ?_)
    ·simp only [execOp,ho,hX,hIX,vV,zBw (n:=n) hu hk h0 (by omega),v6];rfl
    ·exact e6 _ (yN hget)
    ·intro j c hj;rw [<- hsz];exact e9 _ _ _ _ hget hj
    ·intro j c hj;exact e10 _ _ _ _ hget hj
   ·rename_i id n
    injection h with h;subst h;have h0:0<=i:=hv _ (by simp);have h1:i<n:=hv _ (by simp);cases hx with
    | ownNil=>simp at h1;omega
    | own hT hn1 hn2 =>
    rename_i b cap
    refine .same (v:=.pointer (some ⟨b,xR cap+i.toNat * szT P e,none⟩)) ?_ (.ptr hT (by omega));simp only [execOp,ho,hX,hIX,vV,zBw hu hk h0 h1,v6];rfl
   ·rename_i id sz lo hi
    cases hb:Nat.beq sz (szT P e)
    ·rw [hb] at h;cases h
    rw [hb] at h;injection h with h;subst h;have hsz:=wT.1 hb;have h0:0<=i:=hv _ (by simp);have h1:i<(hi:Int) - lo:=hv _ (by simp);cases hx with
    | part0=>omega
    | part hT p1 p2 p3 p4 p5 p6 =>
    rename_i o n c b cap
    refine .same (v:=.pointer (some ⟨b,o+i.toNat * szT P e,none⟩)) ?_ (.ptr hT (by rw [<- hsz,p6,A2,t6,lM]));simp only [execOp,ho,hX,hIX,vV,zBw (n:=n) hu hk h0 (by omega),v6];rfl
   ·cases h
  ·rename_i n e hu
   cases hk:u5 P e
   ·rw [hk] at h;cases h
   rw [hk] at h;simp only [cond_true] at h
   split at h
   ·rename_i id sz j off
    cases hx with
    | ptr hT ho' =>
    rename_i o b cap
    injection h with h;subst h;have h0:0<=i:=hv _ (by simp);have h1:i<n:=hv _ (by simp);refine .same (v:=.pointer (some ⟨b,o+i.toNat * szT P e,none⟩)) ?_ (.ptr hT (by omega));simp only [execOp,ho,hX,hIX,vV,zJF hu hk h0 h1,v6];rfl
   ·cases h
  ·cases h
 ·cases h
def zAx (P:Program) (t:TypeId) (x ix:AV) (h:wA):Option (List Prop×AV) :=
 match ix with
 | .int _ i =>
  match P.underlying t,x with
  | some .string,.str l=>some ([TN l i=some h.z],.int .u8 h.z)
  | _,_=>none
 | _=>none
theorem zMc {x:Int} (h:0<=x/\x<256):IntKind.u8.wrap x=x:=by
 apply GI;simp only [IntKind.bits,IntKind.signed];simp;omega
theorem zJE {l:List Int} {i:Nat} {c:Int} (h:l[i]?=some c) (hr:0<=c/\c<256):∃ b:UInt8,(kE l)[i]?=some b/\(b.toNat:Int)=c:=by
 refine ⟨UInt8.ofNat c.toNat,?_,?_⟩
 ·have hlt:i<l.length:=by
   rcases zlg i l.length with h' | h'
   ·exact h'
   ·rw [vH h'] at h;cases h
  have hs:i<(kE l).size:=by rw [zDz];exact hlt
  have e:(kE l)[i]?=(kE l).data[i]?:=rfl;rw [e];simp [kE,h]
 ·simp only [XR];omega
theorem zJd {P:Program} {t:TypeId} {x ix:Operand} {ρ:Operand->Value} {o:Oper} {w:World} {I:Nat->Prop} {T:Tbl} {X IX:AV} {hn:wA} {r:List Prop×AV}
  (ho:o.op=.index t x ix) (hx:Rep w I T (ρ x) X) (hix:Rep w I T (ρ ix) IX) (h:zAx P t X IX hn=some r) (hv:∀ p∈r.1,p):cM P ρ o w I T r.2:=by
 unfold zAx at h;generalize hX:ρ x=vx at hx;generalize hIX:ρ ix=vi at hix
 split at h
 ·rename_i k i
  cases hix with
  | int wi =>
  split at h
  ·rename_i l hu
   injection h with h;subst h;have hidx:TN l i=some hn.z:=hv _ (by simp);obtain ⟨h0,h1,hget⟩:=zO8 hidx;cases hx with
   | str hr hl =>
   have hc:=hr _ (yN hget);obtain ⟨b,hb1,hb2⟩:=zJE hget hc;refine .same (v:=.int .u8 hn.z) ?_ (.int (zMc hc));simp [execOp,ho,hX,hIX,Instr.index,asIntOf,run_underlying hu,h0,hb1,hb2]
  ·cases h
 ·cases h
/-! Lengths. -/
def ZA (P:Program) (t:TypeId) (x:AV) (h:wA):Option (List Prop×AV) :=
 match P.underlying t,x with
 | some .string,.str l=>some ([],.int .i64 l.length)
 | some (.slice _),.sl _ _ l=>some ([l.length=h.n],.int .i64 h.n)
 | some (.slice _),.own _ n=>some ([],.int .i64 n)
 | some (.slice _),.rawp _ n=>some ([],.int .i64 n)
 | some (.slice _),.part _ _ lo hi=>some ([hi - lo=h.n],.int .i64 h.n)
 | _,_=>none
theorem JO {n:Nat} (h:n<=9223372036854775807):IntKind.i64.wrap (n:Int)=n:=by
 apply GI;simp only [IntKind.bits,IntKind.signed];simp;omega
theorem zMF {P:Program} {t:TypeId} {x:Operand} {ρ:Operand->Value} {o:Oper} {w:World} {I:Nat->Prop} {T:Tbl} {X:AV} {hn:wA} {r:List Prop×AV}
  (ho:o.op=.call { callee:=.builtin .len,args:=#[x],argTypes:=#[t] }) (hx:Rep w I T (ρ x) X) (h:ZA P t X hn=some r) (hv:∀ p∈r.1,p):cM P ρ o w I T r.2:=by
 unfold ZA at h;generalize hX:ρ x=vx at hx;have hrun:∀ (v:Value),(Builtin.len_ #[t] o.type #[vx]).run P w=.ok v w->(execOp ρ o).run P w=.ok (.value v) w:=fun v hv=>by
  simp [execOp,ho,resolve,hX,invoke,builtin,hv]
 split at h
 ·rename_i l hu
  injection h with h;subst h;cases hx with
  | str hr hl =>
  exact .same (hrun (.int .i64 l.length) (by simp [Builtin.len_,run_underlying hu,goInt,zDz])) (.int (JO (by rw [nY] at hl;exact hl)))
 ·rename_i e full sz l hu
  injection h with h;subst h;have hl:l.length=hn.n:=hv _ (by simp);cases hx with
  | sl0 hc hf =>
   simp at hl;exact .same (hrun (.int .i64 0) (by simp [Builtin.len_,run_underlying hu,goInt])) (by rw [<- hl];exact .int (by decide))
  | sl g e1 e2 e3 e4 e5 e6 e7 e8 e9 e10 =>
   rename_i b off cap n
   exact .same (hrun (.int .i64 n) (by simp [Builtin.len_,run_underlying hu,goInt])) (by rw [<- hl,<- e1];exact .int (JO (by rw [nY] at e3;omega)))
 ·rename_i e id n hu
  injection h with h;subst h;cases hx with
  | ownNil=>exact .same (hrun (.int .i64 0) (by simp [Builtin.len_,run_underlying hu,goInt])) (.int (by decide))
  | own hT h1 h2=>exact .same (hrun (.int .i64 n) (by simp [Builtin.len_,run_underlying hu,goInt])) (.int (JO (by rw [nY] at h2;omega)))
 ·rename_i e p n hu
  injection h with h;subst h;cases hx with
  | rawp0=>exact .same (hrun (.int .i64 0) (by simp [Builtin.len_,run_underlying hu,goInt])) (.int (by decide))
  | rawp h1 h2=>exact .same (hrun (.int .i64 n) (by simp [Builtin.len_,run_underlying hu,goInt])) (.int (JO (by rw [nY] at h2;omega)))
 ·rename_i e id sz lo hi hu
  injection h with h;subst h;have hl:hi - lo=hn.n:=hv _ (by simp);cases hx with
  | part0 =>
   exact .same (hrun (.int .i64 0) (by simp [Builtin.len_,run_underlying hu,goInt])) (by rw [<- hl];simp;exact .int (by decide))
  | part hT p1 p2 p3 p4 p5 p6 =>
   rename_i o' n c b cap
   exact .same (hrun (.int .i64 n) (by simp [Builtin.len_,run_underlying hu,goInt])) (by rw [<- hl,<- p2];exact .int (JO (by rw [nY] at p5;omega)))
 ·cases h
/-! The least and the greatest of two integers. -/
def bP (x y:Int):Int:=if y>x then y else x
def qY (x y:Int):Int:=if y<x then y else x
def S9 (b:Builtin) (x y:AV):Option (List Prop×AV) :=
 match x,y with
 | .int k a,.int k' c =>
  bif HZ k k' then
   match b with
   | .max=>some ([],.int k (bP a c))
   | .min=>some ([],.int k (qY a c))
   | _=>none
  else none
 | _,_=>none
theorem zF3 {P:Program} {b:Builtin} {ts:Array TypeId} {x y:Operand} {ρ:Operand->Value} {o:Oper} {w:World} {I:Nat->Prop} {T:Tbl} {X Y:AV} {r:List Prop×AV}
  (ho:o.op=.call { callee:=.builtin b,args:=#[x,y],argTypes:=ts }) (hx:Rep w I T (ρ x) X) (hy:Rep w I T (ρ y) Y) (h:S9 b X Y=some r):cM P ρ o w I T r.2:=by
 unfold S9 at h;generalize hX:ρ x=vx at hx;generalize hY:ρ y=vy at hy
 split at h
 ·rename_i k a k' c
  cases hk:HZ k k'
  ·rw [hk] at h;cases h
  rw [hk] at h
  have:=zEy hk
  subst this;simp only [cond_true] at h;cases hx with
  | int wa =>
  cases hy with
  | int wb =>
  split at h<;>first | (injection h with h;subst h) | cases h
  ·refine .same (v:=.int k (bP a c)) (by simp [execOp,ho,resolve,hX,hY,invoke,builtin,Builtin.max_,Builtin.max2,bP]) (.int ?_);unfold bP;split<;>assumption
  ·refine .same (v:=.int k (qY a c)) (by simp [execOp,ho,resolve,hX,hY,invoke,builtin,Builtin.min_,Builtin.min2,qY]) (.int ?_);unfold qY;split<;>assumption
 ·cases h
def ZE:AV->Option Int
 | .int _ i=>some i
 | _=>none
def AU (A:Operand->AV) (x:Option Operand) (d:Int):Option Int :=
 match x with
 | none=>some d
 | some y=>ZE (A y)
def YZ (P:Program) (t:TypeId) (A:Operand->AV) (x:Operand) (lo hi:Option Operand) (h:wA):Option (List Prop×AV) :=
 match P.underlying t,A x with
 | some (.slice e),.sl _ sz l =>
  bif u5 P e&&Nat.beq sz (szT P e) then
   match AU A lo 0,AU A hi l.length with
   | some a,some b=>some ([0<=a,a<=b,b<=l.length,h.l=(l.take b.toNat).drop a.toNat],.sl false sz h.l)
   | _,_=>none
  else none
 | some (.slice e),.own id n =>
  bif u5 P e then
   match AU A lo 0,AU A hi n with
   | some a,some b=>some ([0<=a,a<=b,b<=n],.part id (szT P e) a.toNat b.toNat)
   | _,_=>none
  else none
 | _,_=>none
theorem KO {P:Program} {w:World} {v:Value} {k:IntKind} {i:Int} {y:Nat} {c:BoundsCode} (hv:v=.int k i) (h0:0<=i) (h1:i<=y) :
  (Instr.sliceBound v y c).run P w=.ok i.toNat w:=by
 subst hv;simp [Instr.sliceBound,asIntOf,h0,h1]
theorem L1 {P:Program} {w:World} {I:Nat->Prop} {T:Tbl} {ρ:Operand->Value} {A:Operand->AV} {lo hi:Option Operand} {len cap:Nat} {isS:Bool} {a b:Int}
  (hr:∀ y,some y=lo\/some y=hi->Rep w I T (ρ y) (A y))
  (ha:AU A lo 0=some a) (hb:AU A hi len=some b)
  (h0:0<=a) (h1:a<=b) (h2:b<=cap) :
  (Instr.sliceBounds isS len cap (lo.map ρ) (hi.map ρ) none).run P w=.ok (a.toNat,b.toNat,cap) w:=by
 have int_of:∀ y i,Rep w I T (ρ y) (A y)->ZE (A y)=some i->∃ k,ρ y=.int k i:=by
  intro y i hy hi;generalize ρ y=v at hy;generalize A y=av at hy hi;cases av<;>simp [ZE] at hi
  subst hi;cases hy;exact ⟨_,rfl⟩
 cases hi with
 | none =>
  simp [AU] at hb;have hbl:b.toNat=len:=by omega
  cases lo with
  | none=>simp [AU] at ha;subst ha;simp [Instr.sliceBounds,hbl]
  | some y =>
   obtain ⟨k,hk⟩:=int_of y a (hr y (.inl rfl)) ha;simp only [Instr.sliceBounds,cP,kH,vV,jV,v6,KO (y:=len) hk h0 (by omega),hbl]
 | some z =>
  obtain ⟨k',hk'⟩:=int_of z b (hr z (.inr rfl)) hb;cases lo with
  | none =>
   simp [AU] at ha;subst ha;simp only [Instr.sliceBounds,cP,kH,vV,jV,v6,KO (y:=cap) hk' (by omega) h2];rfl
  | some y =>
   obtain ⟨k,hk⟩:=int_of y a (hr y (.inl rfl)) ha;simp only [Instr.sliceBounds,cP,kH,vV,jV,v6,KO (y:=cap) hk' (by omega) h2,
    KO (y:=b.toNat) hk h0 (by omega)]
theorem mO {P:Program} {t:TypeId} {x:Operand} {lo hi mx:Option Operand} {ρ:Operand->Value} {o:Oper} {w:World} {v:Value}
  (ho:o.op=.slice t x lo hi mx) (hn:∀ n e,P.underlying t≠some (.array n e)) (hs:P.underlying t≠none) (h:(Instr.slice t (ρ x) (lo.map ρ) (hi.map ρ) (mx.map ρ)).run P w=.ok v w) :
  (execOp ρ o).run P w=.ok (.value v) w:=by
 cases hu:P.underlying t with
 | none=>exact absurd hu hs
 | some d =>
  simp only [execOp,ho,Instr.sliceAt,vV,run_underlying hu,v6];cases d<;>first | exact absurd hu (hn _ _) | (simp only [h,v6];rfl)
theorem zHG {P:Program} {t:TypeId} {x:Operand} {lo hi:Option Operand} {ρ:Operand->Value} {A:Operand->AV} {o:Oper} {w:World} {I:Nat->Prop} {T:Tbl} {hn:wA} {r:List Prop×AV}
  (ho:o.op=.slice t x lo hi none) (hx:Rep w I T (ρ x) (A x)) (hr:∀ y,some y=lo\/some y=hi->Rep w I T (ρ y) (A y))
  (h:YZ P t A x lo hi hn=some r) (hv:∀ p∈r.1,p):cM P ρ o w I T r.2:=by
 unfold YZ at h;generalize hX:ρ x=vx at hx;generalize A x=X at hx h
 split at h
 ·rename_i e full sz l hu
  cases hk:(u5 P e&&Nat.beq sz (szT P e))
  ·rw [hk] at h;cases h
  rw [hk] at h;simp only [cond_true,zba] at h hk;have hsz:=wT.1 hk.2
  split at h
  case h_2=>cases h
  rename_i a b ha hb
  injection h with h;subst h;have h0:0<=a:=hv _ (by simp);have h1:a<=b:=hv _ (by simp);have h2:b<=l.length:=hv _ (by simp);have hl:hn.l=(l.take b.toNat).drop a.toNat:=hv _ (by simp);have hlen:hn.l.length=b.toNat - a.toNat:=by rw [hl];simp;omega
  simp only;cases hx with
  | sl0 hc hf =>
   rename_i ad cap
   have hb0:b=0:=by simp at h2;omega
   have ha0:a=0:=by omega
   subst hb0;subst ha0;have hB:=L1 (P:=P) (w:=w) (isS:=true) (len:=0) (cap:=cap) hr ha hb h0 h1 (by omega);have hnil:hn.l=[]:=cK (by rw [hlen];rfl);rw [hnil];refine .same (mO (v:=.slice (if cap=0 then ad else ad.map (·.add (0 * szT P e))) 0 cap) ho (by rw [hu];simp) (by rw [hu];simp) ?_) (.sl0 hc (fun h=>by cases h));simp only [hX,Instr.slice,vV,run_underlying hu,v6,cP,hB,dO hk.1,jV];rfl
  | sl g e1 e2 e3 e4 e5 e6 e7 e8 e9 e10 =>
   rename_i b0 off cap n
   have hB:=L1 (P:=P) (w:=w) (isS:=true) (len:=n) (cap:=cap) hr ha (by rw [e1];exact hb) h0 h1 (by omega)
   by_cases hab:a.toNat=b.toNat
   ·have hnil:hn.l=[]:=cK (by rw [hlen];omega);rw [hnil];refine .same (mO (v:=.slice (if cap=a.toNat then some ⟨b0,off,none⟩ else (some ⟨b0,off,none⟩:Option Addr).map (·.add (a.toNat * szT P e))) 0
      (cap - a.toNat)) ho (by rw [hu];simp) (by rw [hu];simp) ?_) (.sl0 (by omega) (fun h=>by cases h))
    simp only [hX,Instr.slice,vV,run_underlying hu,v6,cP,hB,dO hk.1,jV];rw [show b.toNat - a.toNat=0 by omega]
   ·have hne:¬ (cap=a.toNat):=by omega
    have hi2:∀ {i:Nat} {av:AV},hn.l[i]?=some av->l[a.toNat+i]?=some av:=by
     intro i av hi';rw [hl,gH,aY] at hi'
     split at hi'
     ·exact hi'
     ·cases hi'
    refine .same (mO (v:=.slice (some ⟨b0,off+a.toNat * sz,none⟩) (b.toNat - a.toNat) (cap - a.toNat)) ho (by rw [hu];simp) (by rw [hu];simp) ?_)
     (.sl (fun i j=>g (a.toNat+i) j) hlen.symm (by omega) (by omega) (fun h=>by cases h) ?_ ?_ e7 e8 ?_ ?_)
    ·simp only [hX,Instr.slice,vV,run_underlying hu,v6,cP,hB,dO hk.1,jV,if_neg hne,kH,mC,hsz]
    ·intro av hav;rw [hl] at hav;exact e5 av (aK (bS hav))
    ·intro av hav;rw [hl] at hav;exact e6 av (aK (bS hav))
    ·intro i av j c hi' hj
     have:=e9 (a.toNat+i) av j c (hi2 hi') hj
     rw [show off+a.toNat * sz+i * sz+j=off+(a.toNat+i) * sz+j by rw [t6];omega];exact this
    ·intro i av j c hi' hj;exact e10 (a.toNat+i) av j c (hi2 hi') hj
 ·rename_i e id n hu
  cases hk:u5 P e
  ·rw [hk] at h;cases h
  rw [hk] at h;simp only [cond_true] at h
  split at h
  case h_2=>cases h
  rename_i a b ha hb
  injection h with h;subst h;have h0:0<=a:=hv _ (by simp);have h1:a<=b:=hv _ (by simp);have h2:b<=n:=hv _ (by simp);simp only
  by_cases hab:a.toNat=b.toNat
  ·cases hx with
   | ownNil hT =>
    rename_i a0
    have hB:=L1 (P:=P) (w:=w) (isS:=true) (len:=0) (cap:=0) hr ha hb h0 h1 (by omega);rw [<- hab];refine .same (mO (v:=.slice (if 0=a.toNat then a0 else (a0:Option Addr).map (·.add (a.toNat * szT P e))) 0 (0 - a.toNat)) ho (by rw [hu];simp) (by rw [hu];simp) ?_) (.part0 ?_)
    ·simp only [hX,Instr.slice,vV,run_underlying hu,v6,cP,hB,dO hk,jV];rw [show b.toNat - a.toNat=0 by omega]
    ·have:maxLen=9223372036854775807:=nY
     omega
   | own hT hc1 hc2 =>
    rename_i b0 cap
    have hB:=L1 (P:=P) (w:=w) (isS:=true) (len:=n) (cap:=v7 cap) hr ha hb h0 h1 (by omega);rw [<- hab];refine .same (mO (v:=.slice (if v7 cap=a.toNat then some ⟨b0,xR cap,none⟩ else (some ⟨b0,xR cap,none⟩:Option Addr).map (·.add (a.toNat * szT P e))) 0 (v7 cap - a.toNat)) ho (by rw [hu];simp) (by rw [hu];simp) ?_) (.part0 (by omega));simp only [hX,Instr.slice,vV,run_underlying hu,v6,cP,hB,dO hk,jV];rw [show b.toNat - a.toNat=0 by omega]
  ·cases hx with
   | ownNil hT=>simp at h2;omega
   | own hT hc1 hc2 =>
    rename_i b0 cap
    have hB:=L1 (P:=P) (w:=w) (isS:=true) (len:=n) (cap:=v7 cap) hr ha hb h0 h1 (by omega);have hne:¬ (v7 cap=a.toNat):=by omega
    refine .same (mO (v:=.slice (some ⟨b0,xR cap+a.toNat * szT P e,none⟩) (b.toNat - a.toNat) (v7 cap - a.toNat)) ho (by rw [hu];simp) (by rw [hu];simp) ?_)
     (.part hT (by omega) rfl (by omega) (by omega) hc2 (by omega))
    simp only [hX,Instr.slice,vV,run_underlying hu,v6,cP,hB,dO hk,jV,if_neg hne,kH,mC]
 ·cases h
def uT (L:List AV):List AV:=L.flatMap AV.cells
theorem mD {sz:Nat} {L:List AV} (h:∀ av∈L,av.cells.length=sz):(uT L).length=L.length * sz:=by
 induction L with
 | nil=>simp [uT]
 | cons a r ih =>
  have h1:=ih fun av hav=>h av (by simp [hav])
  have h2:=h a (by simp);simp only [uT,bC,zla,zlc] at *;rw [h1,h2,t6];omega
theorem JZ {sz:Nat} {L:List AV} (h:∀ av∈L,av.cells.length=sz) {i j:Nat} {av c:AV} (hi:L[i]?=some av) (hj:av.cells[j]?=some c) :
  (uT L)[i * sz+j]?=some c:=by
 induction L generalizing i with
 | nil=>simp at hi
 | cons a r ih =>
  have h2:=h a (by simp);have hjl:j<av.cells.length:=by
   rcases zlg j av.cells.length with h' | h'
   ·exact h'
   ·rw [vH h'] at hj;cases hj
  cases i with
  | zero =>
   simp at hi;subst hi;simp only [uT,bC,Nat.zero_mul,cQ];rw [uH hjl];exact hj
  | succ i =>
   simp only [pJ] at hi;have h1:=ih (fun av hav=>h av (by simp [hav])) hi;simp only [uT,bC];rw [u4 (by rw [h2,t6];omega),h2];rw [show (i+1) * sz+j - sz=i * sz+j by rw [t6];omega];exact h1
theorem Z2 {sz:Nat} {L:List AV} (h:∀ av∈L,av.cells.length=sz) {k:Nat} {c:AV} (hk:(uT L)[k]?=some c) :
  ∃ i j av,k=i * sz+j/\L[i]?=some av/\av.cells[j]?=some c:=by
 induction L generalizing k with
 | nil=>simp [uT] at hk
 | cons a r ih =>
  have h2:=h a (by simp);simp only [uT,bC] at hk;rcases zlg k a.cells.length with hlt | hge
  ·rw [uH hlt] at hk;exact ⟨0,k,a,by omega,rfl,hk⟩
  ·rw [u4 hge] at hk;obtain ⟨i,j,av,e,h3,h4⟩:=ih (fun av hav=>h av (by simp [hav])) hk;refine ⟨i+1,j,av,?_,by simpa using h3,h4⟩;rw [t6];omega
theorem zOM (L M:List AV):uT (L++M)=uT L++uT M:=by simp [uT]
theorem YY {L:List AV} (h:∀ av∈L,∀ c∈av.cells,c.one=true):∀ c∈uT L,c.one=true:=by
 intro c hc;simp only [uT,aB] at hc;obtain ⟨a,ha,hc⟩:=hc;exact h a ha c hc
def zHS (w:World) (I:Nat->Prop) (C:List Value) (L:List AV):Prop:=∀ k c,(uT L)[k]?=some c->Rep w I Tbl.empty (C.getD k undef) c
structure Src (P:Program) (w:World) (I:Nat->Prop) (sz:Nat) (x:Value) (L:List AV) (news:List Value):Prop where
 len:news.length=L.length * sz
 wid:∀ av∈L,av.cells.length=sz
 one:∀ av∈L,∀ c∈av.cells,c.one=true
 rep:zHS w I news L
 lenOf:∀ w2,(Builtin.lenOf x).run P w2=.ok L.length w2
 max:L.length<=maxLen
 cells:∀ n w2,n<=L.length->(∀ b,b<w.heap.size->w2.heap[b]?=w.heap[b]?)->(Builtin.firstCells sz n x).run P w2=.ok (news.take (n * sz)).toArray w2
theorem zAS {f:Nat->Value} {n k:Nat} (h:k<n):((List.range n).map f).getD k undef=f k:=by
 simp [List.getD,h]
theorem zJc {P:Program} {w:World} {I:Nat->Prop} {T:Tbl} {x:Value} {full:Bool} {sz:Nat} {l:List AV} (h:Rep w I T x (.sl full sz l)) :
  ∃ news,Src P w I sz x l news:=by
 cases h with
 | sl0 hc hf =>
  rename_i a cap
  refine ⟨[],by simp,by simp,by simp,fun k c hk=>by simp [uT] at hk,fun w2=>by simp [Builtin.lenOf],by simp,fun n w2 hn _=>?_⟩
  have:n=0:=by simpa using hn
  subst this;cases a with
  | none=>simp [Builtin.firstCells]
  | some a=>simp [Builtin.firstCells,loadCells,loadCellsFrom]
 | sl g e1 e2 e3 e4 e5 e6 e7 e8 e9 e10 =>
  rename_i b off cap n
  let cellAt:Nat->Value:=fun k=>((w.cell? ⟨b,off+k,none⟩).getD undef)
  have hcell:∀ k c,(uT l)[k]?=some c->w.cell? ⟨b,off+k,none⟩=some (cellAt k)/\Rep w I Tbl.empty (cellAt k) c:=by
   intro k c hk;obtain ⟨i,j,av,he,h1,h2⟩:=Z2 e5 hk;have h3:=e9 i av j c h1 h2;have h4:=e10 i av j c h1 h2;subst he;rw [<- lM];simp only [cellAt];rw [<- lM,h3];exact ⟨rfl,h4⟩
  refine ⟨(List.range (l.length * sz)).map cellAt,by simp,e5,e6,?_,?_,by omega,?_⟩
  ·intro k c hk;have hlt:k<l.length * sz:=by
    rw [<- mD e5];rcases zlg k (uT l).length with h' | h'
    ·exact h'
    ·rw [vH h'] at hk;cases hk
   rw [zAS hlt];exact (hcell k c hk).2
  ·intro w2;simp [Builtin.lenOf,e1]
  ·intro m w2 hm hw;simp only [Builtin.firstCells];have hle:m * sz<=l.length * sz:=qW _ hm;rw [run_loadCells (P:=P) w2 ⟨b,off,none⟩ (m * sz) cellAt]
   ·congr 2
    rw [<- O4,List.take_range,DQ hle]
   ·intro j hj;rw [mC];have hlt:j<(uT l).length:=by rw [mD e5];omega
    have:=(hcell j _ (w7 hlt)).1
    rw [<- this];exact VG (hw b e8) _ _
/-! Append. -/
def KQ (P:Program) (t:TypeId):Bool:=match P.underlying t with | some (.int _)=>false | some _=>true | none=>false
def ZB (P:Program) (t:TypeId):Option TypeId:=match P.underlying t with | some (.slice e)=>some e | _=>none
def rH (P:Program) (e:TypeId):Option Value:=match P.info? e with | some i=>i.zero | none=>none
def lE (P:Program) (e:TypeId):Nat:=match P.info? e with | some i=>i.bytes | none=>0
def KY (P:Program) (t:TypeId):Option TypeId :=
 match ZB P t with
 | some e=>bif (u5 P e&&!(Nat.beq (szT P e) 0))&&!(Nat.beq (lE P e) 0) then
   match rH P e with
   | some z=>bif Nat.beq z.cells.size (szT P e) then some e else none
   | none=>none
  else none
 | none=>none
structure J3 (P:Program) (t e:TypeId) (i:TypeInfo) (z:Value):Prop where
 und:P.underlying t=some (.slice e)
 info:P.info? e=some i
 zero:i.zero=some z
 size:i.size=szT P e
 bytes:i.bytes=lE P e
 zsize:z.cells.size=szT P e
 pos:0<szT P e
 known:u5 P e=true
 bpos:0<lE P e
theorem UF {P:Program} {t e:TypeId} (h:KY P t=some e):∃ i z,J3 P t e i z:=by
 unfold KY at h
 split at h
 ·rename_i e' he
  cases hk:((u5 P e'&&!(Nat.beq (szT P e') 0))&&!(Nat.beq (lE P e') 0))
  ·rw [hk] at h;cases h
  rw [hk] at h;simp only [cond_true,zba,pH] at h hk
  split at h
  ·rename_i z hz
   cases hb:Nat.beq z.cells.size (szT P e')
   ·rw [hb] at h;cases h
   rw [hb] at h;injection h with h;subst h;unfold ZB at he
   split at he
   ·rename_i e'' hu
    injection he with he;subst he;unfold rH at hz
    split at hz
    ·rename_i i hi
     refine ⟨i,z,hu,hi,hz,by simp [szT,hi],by simp [lE,hi],wT.1 hb,?_,hk.1.1,?_⟩
     ·rcases DD (szT P e'') with h0 | h0
      ·have:=hk.1.2;rw [h0] at this;simp at this
      ·exact h0
     ·rcases DD (lE P e'') with h0 | h0
      ·have:=hk.2;rw [h0] at this;simp at this
      ·exact h0
    ·cases hz
   ·cases he
  ·cases h
 ·cases h
theorem zB1 {P:Program} {t2:TypeId} (h2:KQ P t2=true):∃ d,P.underlying t2=some d/\(∀ k,d≠.int k):=by
 unfold KQ at h2
 split at h2
 ·cases h2
 ·rename_i d hn hd
  exact ⟨d,hd,fun k e=>hn k e⟩
 ·cases h2
theorem zHa {P:Program} {t t2 e:TypeId} {i:TypeInfo} {z:Value} {w:World} {ty:TypeId} (ht:J3 P t e i z) (h2:KQ P t2=true)
  {base:Option Addr} {sLen sCap n:Nat} {x:Value} {olds news:List Value}
  (hlen:(Builtin.lenOf x).run P w=.ok n w)
  (hfx:∀ w2:World,w2.heap=w.heap->(Builtin.firstCells (szT P e) n x).run P w2=.ok news.toArray w2)
  (hfo:∀ w2:World,w2.heap=w.heap->(Builtin.firstCells (szT P e) sLen (.slice base sLen sCap)).run P w2=.ok olds.toArray w2)
  (hgt:sCap<sLen+n) (hmax:sLen+n<=maxLen) (hb:(sLen+n) * lE P e<=140737488355328) :
  (Builtin.append_ #[t,t2] ty #[.slice base sLen sCap,x]).run P w =
   .ok (.slice (some ⟨w.heap.size,0,none⟩) (sLen+n) (grownCap w (sLen+n) sCap e))
    (w.drew.alloc (.cells (olds.toArray++news.toArray++Builtin.zeroCells z.cells (grownCap w (sLen+n) sCap e - (sLen+n))) e)):=by
 obtain ⟨d,hd,hnd⟩:=zB1 h2;have hn:¬ (sLen+n<=sCap):=by omega
 have h63':¬ ((9223372036854775807:Int)<((sLen:Int)+(n:Int))):=by rw [nY] at hmax;omega
 have hg:=growslice_fits hgt hb;rw [<- ht.bytes] at hg;have h48':¬ (281474976710656<Builtin.nextslicecap (sLen+n) sCap * i.bytes):=by omega
 have hfx':=hfx w.drew rfl;have hfo':=hfo w.drew rfl;rw [<- ht.size] at hfx' hfo';simp only [Builtin.append_,KM,jY,pJ,vV,run_underlying ht.und,run_underlying hd,v6,sizeOf,typeInfo,run_program,
  ht.info,jV]
 simp [hlen,hn,h63',h48',Question.forced,hfx',hfo',newRow,grownCap,zeroValue,typeInfo,ht.info,ht.zero];rw [<- List.append_toArray,Array.append_assoc]
theorem OY (w:World) (o:Obj):w.grownBy (w.alloc o) none:=⟨rfl,rfl,rfl,by simp,fun k hk _=>heap_alloc_old w o k hk⟩
theorem zJy {A B:List Value} {Z:Array Value} {k:Nat} (h:k<(A++B).length):(A.toArray++B.toArray++Z).getD k undef=(A++B).getD k undef:=by
 simp only [List.append_toArray,bG,List.getD];rw [LF (by simpa using h)];simp
theorem zJh {P:Program} {w:World} {I:Nat->Prop} {T:Tbl} {x:Value} {full:Bool} {sz:Nat} (sz':Nat) (h:Rep w I T x (.sl full sz [])):Src P w I sz' x [] []:=by
 have hf:∃ a cap,x=.slice a 0 cap:=by
  generalize hl:([]:List AV)=l at h;cases h with
  | sl0=>exact ⟨_,_,rfl⟩
  | sl g e1=>subst hl;simp at e1;exact ⟨_,_,by rw [e1]⟩
 obtain ⟨a,cap,rfl⟩:=hf;refine ⟨by simp,by simp,by simp,fun k c hk=>by simp [uT] at hk,fun w2=>by simp [Builtin.lenOf],by simp,fun n w2 hn _=>?_⟩
 have:n=0:=by simpa using hn
 subst this;cases a with
 | none=>simp [Builtin.firstCells]
 | some a=>simp [Builtin.firstCells,loadCells,loadCellsFrom]
theorem zGJ {w:World} {I:Nat->Prop} {T:Tbl} {x:Value} {full:Bool} {sz:Nat} {l:List AV} (h:Rep w I T x (.sl full sz l)):Rep w I T x (.sl false sz l):=by
 cases h with
 | sl0 hc hf=>exact .sl0 hc (by simp)
 | sl g e1 e2 e3 e4 e5 e6 e7 e8 e9 e10=>exact .sl g e1 e2 e3 (by simp) e5 e6 e7 e8 e9 e10
theorem zGV {P:Program} {t t2 e:TypeId} {i:TypeInfo} {z:Value} {w:World} {ty:TypeId} (ht:J3 P t e i z) (h2:KQ P t2=true)
  {base:Option Addr} {sLen sCap:Nat} {x:Value} (hlen:(Builtin.lenOf x).run P w=.ok 0 w)
  (hfx:(Builtin.firstCells (szT P e) 0 x).run P w=.ok #[] w) (hle:sLen<=sCap) :
  (Builtin.append_ #[t,t2] ty #[.slice base sLen sCap,x]).run P w=.ok (.slice base sLen sCap) w:=by
 obtain ⟨d,hd,hnd⟩:=zB1 h2;rw [<- ht.size] at hfx;simp only [Builtin.append_,KM,jY,pJ,vV,run_underlying ht.und,run_underlying hd,v6,sizeOf,typeInfo,run_program,
  ht.info,jV]
 cases base<;>simp [hlen,hle,hfx,storeCells]
def ZH (_P:Program) (sz:Nat) (y:AV):Option (List AV) :=
 match y with
 | .sl _ sz2 m=>bif Nat.beq sz2 sz||m.isEmpty then some m else none
 | _=>none
theorem zO6 {P:Program} {w:World} {I:Nat->Prop} {T:Tbl} {v:Value} {sz:Nat} {y:AV} {m:List AV} (hy:Rep w I T v y) (h:ZH P sz y=some m):∃ news,Src P w I sz v m news:=by
 unfold ZH at h
 split at h
 ·rename_i f sz2 m'
  cases hc:(Nat.beq sz2 sz||m'.isEmpty)
  ·rw [hc] at h;cases h
  rw [hc] at h;injection h with h;subst h;simp only [rJ] at hc;rcases hc with h1 | h1
  ·rw [<- wT.1 h1];exact zJc hy
  ·have:m'=[]:=by simpa using h1
   subst this;exact ⟨[],zJh sz hy⟩
 ·cases h
end Go.Ab
