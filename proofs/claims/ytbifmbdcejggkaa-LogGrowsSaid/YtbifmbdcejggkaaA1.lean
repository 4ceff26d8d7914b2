/- The abstract values, what they say of memory, and the relation between an abstract state and a frame with its world. -/
import Derived.ProofKit
import Derived.Orders
import Derived.Deep.Draws
import Derived.Laws.AppendOwn
import Derived.Laws.OwnMore
import Derived.KernelRfl
import Derived.Maps.Keyed
namespace Go.Ab

inductive AV where
  | junk
  | int (k:IntKind) (n:Int)
  | bool (b:Bool)
  | str (l:List Int)
  | agg (cs:List AV)
  | tuple (vs:List AV)
  | sl (full:Bool) (sz:Nat) (l:List AV)
  | ref (av:AV)
  | ptr (id sz i off:Nat)
  | own (id n:Nat)
  | part (id sz lo hi:Nat)
  | fn (f:FuncId) (caps:List AV)
  | nilp
  | nilsl
  | nb (l:List AV)
  | mp (id:Nat)
  | raw (b:Nat)
  | rawm (b:Nat)
  deriving Inhabited

def AV.cells:AV→List AV
  | .agg cs=>cs
  | v=>[v]

/-- A value of one cell. -/
def AV.one:AV→Bool
  | .junk=>false
  | .agg _=>false
  | .tuple _=>false
  | _=>true

mutual
/-- It names no block of the call's own. -/
def AV.pure:AV→Bool
  | .junk=>true
  | .int ..=>true
  | .bool _=>true
  | .str _=>true
  | .agg cs=>AV.pures cs
  | .tuple cs=>AV.pures cs
  | .sl ..=>true
  | .ref _=>true
  | .ptr ..=>false
  | .own ..=>false
  | .part ..=>false
  | .fn _ cs=>AV.pures cs
  | .nilp=>true
  | .nilsl=>true
  | .nb _=>true
  | .mp _=>false
  | .raw _=>true
  | .rawm _=>true
def AV.pures:List AV→Bool
  | []=>true
  | a::r=>a.pure&&AV.pures r
end

def vK (l:List Int):ByteArray:=⟨(l.map fun x=>UInt8.ofNat x.toNat).toArray⟩

/-- Where a block of the call's own lies: nowhere (a nil slice), or a block's number and the room in it. -/
inductive yY where
  | nil
  | at (b cap:Nat)

abbrev Tbl:=Nat→Option yY
def Tbl.empty:Tbl:=fun _=>Option.none
def Tbl.le (T T':Tbl):Prop:=∀ i p,T i=some p→T' i=some p

inductive Rep (w:World) (I:Nat→Prop):Tbl→Value→AV→Prop
  | junk {T v}:Rep w I T v .junk
  | int {T k n}:k.wrap n=n→Rep w I T (.int k n) (.int k n)
  | bool {T b}:Rep w I T (.bool b) (.bool b)
  | str {T l}:(∀ x∈l,0≤x∧x<256)→l.length≤maxLen→Rep w I T (.string (vK l)) (.str l)
  | agg {T vs cs}:vs.size=cs.length→(∀ c∈cs,c.one=true)→(∀ j c,cs[j]?=some c→Rep w I T (vs.getD j undef) c)→Rep w I T (.agg vs) (.agg cs)
  | tuple {T vs cs}:vs.size=cs.length→(∀ j c,cs[j]?=some c→Rep w I T (vs.getD j undef) c)→Rep w I T (.tuple vs) (.tuple cs)
  | sl0 {T full sz a cap}:cap≤maxLen→(full=true→cap=0)→Rep w I T (.slice a 0 cap) (.sl full sz [])
  | sl {T full sz l b off cap n} (g:Nat→Nat→Value):n=l.length→n≤cap→cap≤maxLen→(full=true→cap=n) →
      (∀ av∈l,av.cells.length=sz)→(∀ av∈l,∀ c∈av.cells,c.one=true)→I b→b<w.heap.size →
      (∀ i av j c,l[i]?=some av→av.cells[j]?=some c→w.cell? ⟨b,off+i * sz+j,none⟩=some (g i j)) →
      (∀ i av j c,l[i]?=some av→av.cells[j]?=some c→Rep w I Tbl.empty (g i j) c) →
      Rep w I T (.slice (some ⟨b,off,none⟩) n cap) (.sl full sz l)
  | ref {T av b off} (g:Nat→Value):I b→b<w.heap.size→(∀ c∈av.cells,c.one=true) →
      (∀ j c,av.cells[j]?=some c→w.cell? ⟨b,off+j,none⟩=some (g j)) →
      (∀ j c,av.cells[j]?=some c→Rep w I Tbl.empty (g j) c) →
      Rep w I T (.pointer (some ⟨b,off,none⟩)) (.ref av)
  | ptr {T:Tbl} {id sz i off o b cap}:T id=some (.at b cap)→o=i * sz+off→Rep w I T (.pointer (some ⟨b,o,none⟩)) (.ptr id sz i off)
  | ownNil {T:Tbl} {id a}:T id=some .nil→Rep w I T (.slice a 0 0) (.own id 0)
  | own {T:Tbl} {id n b cap}:T id=some (.at b cap)→n≤cap→cap≤maxLen→Rep w I T (.slice (some ⟨b,0,none⟩) n cap) (.own id n)
  | part0 {T:Tbl} {id sz lo a c}:c≤maxLen→Rep w I T (.slice a 0 c) (.part id sz lo lo)
  | part {T:Tbl} {id sz lo hi o n c b cap}:T id=some (.at b cap)→lo≤hi→n=hi - lo→n≤c→lo+c≤cap→cap≤maxLen→o=lo * sz →
      Rep w I T (.slice (some ⟨b,o,none⟩) n c) (.part id sz lo hi)
  | fn {T f cs vs}:vs.size=cs.length→(∀ j c,cs[j]?=some c→Rep w I T (vs.getD j undef) c)→Rep w I T (.func (.func f) #[] vs) (.fn f cs)
  | nilp {T}:Rep w I T (.pointer none) .nilp
  | nilsl {T}:Rep w I T (.slice none 0 0) .nilsl
  | nb {T b l}:(b=true→l=[])→Rep w I T (.bool b) (.nb l)
  | mp {T:Tbl} {id b}:T id=some (.at b 0)→Rep w I T (.map (some b)) (.mp id)
  | raw {T b}:Rep w I T (.pointer (some ⟨b,0,none⟩)) (.raw b)
  | rawm {T b}:Rep w I T (.map (some b)) (.rawm b)

theorem zB1 {w w':World} {b:Nat} (h:w'.heap[b]?=w.heap[b]?) (o:Nat) (s:Option Nat):w'.cell? ⟨b,o,s⟩=w.cell? ⟨b,o,s⟩:=by
  simp [World.cell?,h]

theorem Rep.mono {w w':World} {I I':Nat→Prop} {T T':Tbl} {v:Value} {av:AV} (h:Rep w I T v av)
    (hs:w.heap.size≤w'.heap.size) (hc:∀ b,I b→b<w.heap.size→w'.heap[b]?=w.heap[b]?) (hI:∀ b,I b→b<w.heap.size→I' b)
    (hT:T.le T'):Rep w' I' T' v av:=by
  induction h generalizing T' with
  | junk=>exact .junk
  | int h=>exact .int h
  | bool=>exact .bool
  | str h h'=>exact .str h h'
  | agg h h1 _ ih=>exact .agg h h1 fun j c hj=>ih j c hj hT
  | tuple h _ ih=>exact .tuple h fun j c hj=>ih j c hj hT
  | sl0 h h'=>exact .sl0 h h'
  | sl g h1 h2 h3 h4 h5 h6 h7 h8 h9 _ ih =>
    exact .sl g h1 h2 h3 h4 h5 h6 (hI _ h7 h8) (Nat.lt_of_lt_of_le h8 hs) (fun i av j c hi hj=>(zB1 (hc _ h7 h8) _ _).trans (h9 i av j c hi hj))
      fun i av j c hi hj=>ih i av j c hi hj fun _ _ h=>h
  | ref g h1 h2 h3 h4 _ ih =>
    exact .ref g (hI _ h1 h2) (Nat.lt_of_lt_of_le h2 hs) h3 (fun j c hj=>(zB1 (hc _ h1 h2) _ _).trans (h4 j c hj)) fun j c hj=>ih j c hj fun _ _ h=>h
  | ptr h h'=>exact .ptr (hT _ _ h) h'
  | ownNil h=>exact .ownNil (hT _ _ h)
  | own h h1 h2=>exact .own (hT _ _ h) h1 h2
  | part0 h=>exact .part0 h
  | part h h1 h2 h3 h4 h5 h6=>exact .part (hT _ _ h) h1 h2 h3 h4 h5 h6
  | fn h _ ih=>exact .fn h fun j c hj=>ih j c hj hT
  | nilp=>exact .nilp
  | nilsl=>exact .nilsl
  | nb h=>exact .nb h
  | mp h=>exact .mp (hT _ _ h)
  | raw=>exact .raw
  | rawm=>exact .rawm

theorem AV.pures_get {cs:List AV} (h:AV.pures cs=true) {j:Nat} {c:AV} (hj:cs[j]?=some c):c.pure=true:=by
  induction cs generalizing j with
  | nil=>simp at hj
  | cons a r ih =>
    simp only [AV.pures,Bool.and_eq_true] at h
    cases j with
    | zero=>simp at hj;exact hj ▸ h.1
    | succ j=>exact ih h.2 (by simpa using hj)

theorem Rep.bare {w:World} {I:Nat→Prop} {T T':Tbl} {v:Value} {av:AV} (h:Rep w I T v av) (hp:av.pure=true):Rep w I T' v av:=by
  induction h generalizing T' with
  | junk=>exact .junk
  | int h=>exact .int h
  | bool=>exact .bool
  | str h h'=>exact .str h h'
  | agg h h1 _ ih=>exact .agg h h1 fun j c hj=>ih j c hj (AV.pures_get hp hj)
  | tuple h _ ih=>exact .tuple h fun j c hj=>ih j c hj (AV.pures_get hp hj)
  | sl0 h h'=>exact .sl0 h h'
  | sl g h1 h2 h3 h4 h5 h6 h7 h8 h9 h10 ih=>exact .sl g h1 h2 h3 h4 h5 h6 h7 h8 h9 h10
  | ref g h1 h2 h3 h4 h5 ih=>exact .ref g h1 h2 h3 h4 h5
  | fn h _ ih=>exact .fn h fun j c hj=>ih j c hj (AV.pures_get hp hj)
  | nilp=>exact .nilp
  | nilsl=>exact .nilsl
  | nb h=>exact .nb h
  | raw=>exact .raw
  | rawm=>exact .rawm
  | _=>simp [AV.pure] at hp

theorem Rep.oneCell {w:World} {I:Nat→Prop} {T:Tbl} {v:Value} {av:AV} (h:Rep w I T v av) (hp:av.one=true):v.oneCell'=true:=by
  cases h<;>first | rfl | simp [AV.one] at hp

/-- The kinds of the cells of a map's key. -/
inductive KSh where
  | int (k:IntKind)
  | bool
  | str
def kc:KSh→AV→Bool
  | .int k,.int k' _=>decide (k=k')
  | .bool,.bool _=>true
  | .str,.str _=>true
  | _,_=>false
def kcs:List KSh→List AV→Bool
  | [],[]=>true
  | k::r,a::s=>kc k a&&kcs r s
  | _,_=>false
/-- A key of these kinds. -/
def uZ (ag:Bool) (ks:List KSh):AV→Bool
  | .agg cs=>ag&&kcs ks cs
  | a=>!ag&&kcs ks [a]

/-- What the values of a hidden map are: a pointer to a variable; a row with its last element's row. -/
inductive FSh where
  | pm (t:TypeId)
  | nm (e:TypeId) (sz:Nat) (ev:TypeId) (esz:Nat)
/-- A map of the call's own that holds blocks of the call's own: closed; its entry at a key taken out; a pointer taken out. -/
inductive Fam where
  | cl (b:Nat) (ag:Bool) (ks:List KSh) (sh:FSh) (l:List (AV×AV))
  | op (b:Nat) (ag:Bool) (ks:List KSh) (sh:FSh) (l:List (AV×AV)) (key:AV)
  | opp (b:Nat) (ag:Bool) (ks:List KSh) (sh:FSh) (l:List (AV×AV)) (key:AV) (id:Nat)

/-- The blocks of the call's own. -/
inductive Box where
  | var (t:TypeId) (cs:List AV)
  | row (e:TypeId) (sz:Nat) (l:List AV)
  | rowQ (e:TypeId) (sz:Nat) (l:List AV) (m:Bool) (x:List AV)
  | map (ag:Bool) (ks:List KSh) (l:List (AV×AV))
  | fam (f:Fam)
def Box.nf:Box→Bool
  | .fam _=>false
  | _=>true

inductive zO where
  | unused
  | dead
  | live (b:Box)
def zO.nf:zO→Bool
  | .live b=>b.nf
  | _=>true

structure AS where
  slot:Nat→AV
  box:Nat→zO

def uH (w:World) (I:Nat→Prop) (T:Tbl) (p:Option yY):Box→Prop
  | .var t cs=>∃ b C,p=some (.at b 0)∧w.heap[b]?=some (.cells C t (0,0))∧C.size=cs.length∧(∀ c∈cs,c.one=true) ∧
      ∀ j c,cs[j]?=some c→Rep w I T (C.getD j undef) c
  | .row e sz l=>(p=some .nil∧l=[])∨∃ b cap C,p=some (.at b cap)∧w.heap[b]?=some (.cells C e (0,0))∧C.size=cap * sz∧l.length≤cap∧cap≤maxLen ∧
      (∀ av∈l,av.cells.length=sz)∧(∀ av∈l,∀ c∈av.cells,c.one=true) ∧
      ∀ i av j c,l[i]?=some av→av.cells[j]?=some c→Rep w I Tbl.empty (C.getD (i * sz+j) undef) c
  | .rowQ e sz l m x=>(p=some .nil∧l=[]∧m=false)∨∃ b cap C,p=some (.at b cap)∧w.heap[b]?=some (.cells C e (0,0))∧C.size=cap * sz∧l.length+(bif m then 1 else 0)≤cap∧cap≤maxLen ∧
      (∀ av∈l,av.cells.length=sz)∧(∀ av∈l,∀ c∈av.cells,c.one=true) ∧
      (∀ i av j c,l[i]?=some av→av.cells[j]?=some c→Rep w I Tbl.empty (C.getD (i * sz+j) undef) c) ∧
      (m=true→x.length=sz∧(∀ c∈x,c.one=true)∧∀ j c,x[j]?=some c→Rep w I T (C.getD (l.length * sz+j) undef) c)
  | .map ag ks l=>∃ b E clock,p=some (.at b 0)∧w.heap[b]?=some (.map E clock)∧E.size=l.length∧l.length≤maxLen∧MapKept.Stamped E clock ∧
      (∀ x∈l,uZ ag ks x.1=true)∧∀ (i:Nat) (x:AV×AV),l[i]?=some x→∃ e:MapEntry,E[i]?=some e∧Rep w I Tbl.empty e.key x.1∧Rep w I Tbl.empty e.val x.2
  | .fam _=>p=some .nil

/-- What a call began with: the world, and the caller's blocks that it may write, by their places in the table. -/
structure xE where
  w0:World
  I0:Nat→Prop
  foot:List yY
  n:Nat
  gift:Nat→Prop:=fun _=>False
  scr:Nat→Prop:=fun _=>False
  pin:Nat→Option yY:=fun _=>none

def xE.has (G:xE) (b:Nat):Prop:=∃ cap,yY.at b cap∈G.foot
/-- A block that the call made, or that was given to it for good. -/
def xE.mine (G:xE) (b:Nat):Prop:=G.w0.heap.size≤b∨G.gift b

/-- Memory that does not turn: what the call was given to read, and what it made and gave away. -/
def imm (G:xE) (st:AS) (T:Tbl) (b:Nat):Prop:=(G.I0 b∨G.mine b)∧∀ id bx cap,st.box id=.live bx→T id≠some (.at b cap)

structure zDR (G:xE) (w:World):Prop where
  os:w.os=G.w0.os
  tape:w.tape=G.w0.tape
  output:w.output=G.w0.output
  size:G.w0.heap.size≤w.heap.size
  block:∀ b,b<G.w0.heap.size→¬ G.has b→¬ (G.gift b∨G.scr b)→w.heap[b]?=G.w0.heap[b]?

structure vS (G:xE) (st:AS) (T:Tbl) (a:Act) (w:World):Prop where
  defers:a.defers=[]
  size:a.tmps.size=G.n
  slots:∀ t,Rep w (imm G st T) T (a.tmps.getD t undef) (st.slot t)
  boxes:∀ id bx,st.box id=.live bx→uH w (imm G st T) T (T id) bx
  unused:∀ id,st.box id=.unused→T id=none
  apart:∀ id id' bx bx' b cap cap',st.box id=.live bx→st.box id'=.live bx'→T id=some (.at b cap)→T id'=some (.at b cap')→id=id'
  mine:∀ id bx b cap,st.box id=.live bx→T id=some (.at b cap)→G.foot.length≤id→G.mine b
  foot:∀ i p,G.foot[i]?=some p→T i=some p
  kept:zDR G w
  pin:∀ i p,G.pin i=some p→T i=some p

def Rel (G:xE) (st:AS) (a:Act) (w:World):Prop:=∃ T,vS G st T a w

end Go.Ab
