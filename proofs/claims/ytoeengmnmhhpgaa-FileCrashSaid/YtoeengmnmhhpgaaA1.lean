/- A layer over the model: abstract values and states, and the rules by which the printed proofs go. No conditions. -/
import Derived.ProofKit
import Derived.Orders
import Derived.Deep.Draws
import Derived.Laws.AppendOwn
import Derived.Laws.OwnMore
import Derived.KernelRfl
import Derived.Maps.Keyed
import Derived.Laws.BytesString
import Derived.Laws.Small
import Derived.WideShapes
import Derived.Lib.SliceRun
/- The abstract values, what they say of memory, and the relation between an abstract state and a frame with its world. -/
namespace Go.Ab
theorem zle {n m:Nat} (h:Nat.ble n m=true):n≤m:=Nat.le_of_ble_eq_true h
theorem zbs {α β:Type} (a:α) (f:α→Option β):(some a).bind f=f a:=rfl
theorem zla {α:Type _} {a b:List α}:(a++b).length=a.length+b.length:=List.length_append
theorem zlc {α:Type _} {a:α} {b:List α}:(a::b).length=b.length+1:=rfl
theorem zls {α:Type _} {a:α}:[a].length=1:=rfl
theorem zdz {α:Type _} {a:List α}:a.drop 0=a:=rfl
theorem zba (a b:Bool):((a&&b)=true)=(a=true∧b=true):=Bool.and_eq_true a b
theorem zlg (a b:Nat):a<b∨a≥b:=Nat.lt_or_ge a b
theorem zft:false=!true:=rfl
theorem zk {α:Type} {a b:α} (h:a=b:=by kernel_rfl):a=b:=h
inductive AV where
 | junk
 | int (k:IntKind) (n:Int)
 | bool (b:Bool)
 | str (l:List Int)
 | agg (cs:List AV)
 | tuple (vs:List AV)
 | sl (full:Bool) (sz:Nat) (l:List AV)
 | ref (av:AV)
 | ptr (id sz i off:Nat)
 | own (id n:Nat)
 | part (id sz lo hi:Nat)
 | fn (f:FuncId) (caps:List AV)
 | nilp
 | nilsl
 | nb (l:List AV)
 | mp (id:Nat)
 | raw (b:Nat)
 | fm (n:Bool) (l:List (AV×AV))
 deriving Inhabited
def AV.cells:AV→List AV
 | .agg cs=>cs
 | v=>[v]
def AV.one:AV→Bool
 | .junk=>false
 | .agg _=>false
 | .tuple _=>false
 | _=>true
mutual
def AV.pure:AV→Bool
 | .junk=>true
 | .int ..=>true
 | .bool _=>true
 | .str _=>true
 | .agg cs=>AV.pures cs
 | .tuple cs=>AV.pures cs
 | .sl ..=>true
 | .ref _=>true
 | .ptr ..=>false
 | .own ..=>false
 | .part ..=>false
 | .fn _ cs=>AV.pures cs
 | .nilp=>true
 | .nilsl=>true
 | .nb _=>true
 | .mp _=>false
 | .raw _=>true
 | .fm ..=>true
def AV.pures:List AV→Bool
 | []=>true
 | a::r=>a.pure&&AV.pures r
end
def w9 (l:List Int):ByteArray:=⟨(l.map fun x=>UInt8.ofNat x.toNat).toArray⟩
inductive wW where
 | nil
 | at (b cap:Nat)
abbrev Tbl:=Nat→Option wW
def Tbl.empty:Tbl:=fun _=>Option.none
def Tbl.le (T T':Tbl):Prop:=∀ i p,T i=some p→T' i=some p
inductive Rep (w:World) (I:Nat→Prop):Tbl→Value→AV→Prop
 | junk {T v}:Rep w I T v .junk
 | int {T k n}:k.wrap n=n→Rep w I T (.int k n) (.int k n)
 | bool {T b}:Rep w I T (.bool b) (.bool b)
 | str {T l}:(∀ x∈l,0≤x∧x<256)→l.length≤maxLen→Rep w I T (.string (w9 l)) (.str l)
 | agg {T vs cs}:vs.size=cs.length→(∀ c∈cs,c.one=true)→(∀ j c,cs[j]?=some c→Rep w I T (vs.getD j undef) c)→Rep w I T (.agg vs) (.agg cs)
 | tuple {T vs cs}:vs.size=cs.length→(∀ j c,cs[j]?=some c→Rep w I T (vs.getD j undef) c)→Rep w I T (.tuple vs) (.tuple cs)
 | sl0 {T full sz a cap}:cap≤maxLen→(full=true→cap=0)→Rep w I T (.slice a 0 cap) (.sl full sz [])
 | sl {T full sz l b off cap n} (g:Nat→Nat→Value):n=l.length→n≤cap→cap≤maxLen→(full=true→cap=n) →
   (∀ av∈l,av.cells.length=sz)→(∀ av∈l,∀ c∈av.cells,c.one=true)→I b→b<w.heap.size →
   (∀ i av j c,l[i]?=some av→av.cells[j]?=some c→w.cell? ⟨b,off+i * sz+j,none⟩=some (g i j)) →
   (∀ i av j c,l[i]?=some av→av.cells[j]?=some c→Rep w I Tbl.empty (g i j) c) →
   Rep w I T (.slice (some ⟨b,off,none⟩) n cap) (.sl full sz l)
 | ref {T av b off} (g:Nat→Value):I b→b<w.heap.size→(∀ c∈av.cells,c.one=true) →
   (∀ j c,av.cells[j]?=some c→w.cell? ⟨b,off+j,none⟩=some (g j)) →
   (∀ j c,av.cells[j]?=some c→Rep w I Tbl.empty (g j) c) →
   Rep w I T (.pointer (some ⟨b,off,none⟩)) (.ref av)
 | ptr {T:Tbl} {id sz i off o b cap}:T id=some (.at b cap)→o=i * sz+off→Rep w I T (.pointer (some ⟨b,o,none⟩)) (.ptr id sz i off)
 | ownNil {T:Tbl} {id a}:T id=some .nil→Rep w I T (.slice a 0 0) (.own id 0)
 | own {T:Tbl} {id n b cap}:T id=some (.at b cap)→n≤cap→cap≤maxLen→Rep w I T (.slice (some ⟨b,0,none⟩) n cap) (.own id n)
 | part0 {T:Tbl} {id sz lo a c}:c≤maxLen→Rep w I T (.slice a 0 c) (.part id sz lo lo)
 | part {T:Tbl} {id sz lo hi o n c b cap}:T id=some (.at b cap)→lo≤hi→n=hi - lo→n≤c→lo+c≤cap→cap≤maxLen→o=lo * sz →
   Rep w I T (.slice (some ⟨b,o,none⟩) n c) (.part id sz lo hi)
 | fn {T f cs vs}:vs.size=cs.length→(∀ j c,cs[j]?=some c→Rep w I T (vs.getD j undef) c)→Rep w I T (.func (.func f) #[] vs) (.fn f cs)
 | nilp {T}:Rep w I T (.pointer none) .nilp
 | nilsl {T}:Rep w I T (.slice none 0 0) .nilsl
 | nb {T b l}:(b=true→l=[])→Rep w I T (.bool b) (.nb l)
 | mp {T:Tbl} {id b}:T id=some (.at b 0)→Rep w I T (.map (some b)) (.mp id)
 | raw {T b}:Rep w I T (.pointer (some ⟨b,0,none⟩)) (.raw b)
 | fm0 {T}:Rep w I T (.map none) (.fm true [])
 | fm {T l b E clock} (gk gv:Nat→Value):E.size=l.length→l.length≤maxLen→MapKept.Stamped E clock→I b→b<w.heap.size→w.heap[b]?=some (.map E clock) →
   (∀ (i:Nat) (x:AV×AV),l[i]?=some x→∃ s,E[i]?=some (MapEntry.mk (gk i) (gv i) s)) →
   (∀ (i:Nat) (x:AV×AV),l[i]?=some x→Rep w I Tbl.empty (gk i) x.1)→(∀ (i:Nat) (x:AV×AV),l[i]?=some x→Rep w I Tbl.empty (gv i) x.2) →
   Rep w I T (.map (some b)) (.fm false l)
theorem JG {w w':World} {b:Nat} (h:w'.heap[b]?=w.heap[b]?) (o:Nat) (s:Option Nat):w'.cell? ⟨b,o,s⟩=w.cell? ⟨b,o,s⟩:=by
 simp [World.cell?,h]
theorem Rep.mono {w w':World} {I I':Nat→Prop} {T T':Tbl} {v:Value} {av:AV} (h:Rep w I T v av)
  (hs:w.heap.size≤w'.heap.size) (hc:∀ b,I b→b<w.heap.size→w'.heap[b]?=w.heap[b]?) (hI:∀ b,I b→b<w.heap.size→I' b)
  (hT:T.le T'):Rep w' I' T' v av:=by
 induction h generalizing T' with
 | junk=>exact .junk
 | int h=>exact .int h
 | bool=>exact .bool
 | str h h'=>exact .str h h'
 | agg h h1 _ ih=>exact .agg h h1 fun j c hj=>ih j c hj hT
 | tuple h _ ih=>exact .tuple h fun j c hj=>ih j c hj hT
 | sl0 h h'=>exact .sl0 h h'
 | sl g h1 h2 h3 h4 h5 h6 h7 h8 h9 _ ih =>
  exact .sl g h1 h2 h3 h4 h5 h6 (hI _ h7 h8) (Nat.lt_of_lt_of_le h8 hs) (fun i av j c hi hj=>(JG (hc _ h7 h8) _ _).trans (h9 i av j c hi hj))
   fun i av j c hi hj=>ih i av j c hi hj fun _ _ h=>h
 | ref g h1 h2 h3 h4 _ ih =>
  exact .ref g (hI _ h1 h2) (Nat.lt_of_lt_of_le h2 hs) h3 (fun j c hj=>(JG (hc _ h1 h2) _ _).trans (h4 j c hj)) fun j c hj=>ih j c hj fun _ _ h=>h
 | ptr h h'=>exact .ptr (hT _ _ h) h'
 | ownNil h=>exact .ownNil (hT _ _ h)
 | own h h1 h2=>exact .own (hT _ _ h) h1 h2
 | part0 h=>exact .part0 h
 | part h h1 h2 h3 h4 h5 h6=>exact .part (hT _ _ h) h1 h2 h3 h4 h5 h6
 | fn h _ ih=>exact .fn h fun j c hj=>ih j c hj hT
 | nilp=>exact .nilp
 | nilsl=>exact .nilsl
 | nb h=>exact .nb h
 | mp h=>exact .mp (hT _ _ h)
 | raw=>exact .raw
 | fm0=>exact .fm0
 | fm gk gv h1 h2 h3 h4 h5 h6 h7 _ _ ihk ihv =>
  exact .fm gk gv h1 h2 h3 (hI _ h4 h5) (Nat.lt_of_lt_of_le h5 hs) ((hc _ h4 h5).trans h6) h7 (fun i x hx=>ihk i x hx fun _ _ h=>h) (fun i x hx=>ihv i x hx fun _ _ h=>h)
theorem AV.pures_get {cs:List AV} (h:AV.pures cs=true) {j:Nat} {c:AV} (hj:cs[j]?=some c):c.pure=true:=by
 induction cs generalizing j with
 | nil=>simp at hj
 | cons a r ih =>
  simp only [AV.pures,zba] at h
  cases j with
  | zero=>simp at hj;exact hj ▸ h.1
  | succ j=>exact ih h.2 (by simpa using hj)
theorem Rep.bare {w:World} {I:Nat→Prop} {T T':Tbl} {v:Value} {av:AV} (h:Rep w I T v av) (hp:av.pure=true):Rep w I T' v av:=by
 induction h generalizing T' with
 | junk=>exact .junk
 | int h=>exact .int h
 | bool=>exact .bool
 | str h h'=>exact .str h h'
 | agg h h1 _ ih=>exact .agg h h1 fun j c hj=>ih j c hj (AV.pures_get hp hj)
 | tuple h _ ih=>exact .tuple h fun j c hj=>ih j c hj (AV.pures_get hp hj)
 | sl0 h h'=>exact .sl0 h h'
 | sl g h1 h2 h3 h4 h5 h6 h7 h8 h9 h10 ih=>exact .sl g h1 h2 h3 h4 h5 h6 h7 h8 h9 h10
 | ref g h1 h2 h3 h4 h5 ih=>exact .ref g h1 h2 h3 h4 h5
 | fn h _ ih=>exact .fn h fun j c hj=>ih j c hj (AV.pures_get hp hj)
 | nilp=>exact .nilp
 | nilsl=>exact .nilsl
 | nb h=>exact .nb h
 | raw=>exact .raw
 | fm0=>exact .fm0
 | fm gk gv h1 h2 h3 h4 h5 h6 h7 h8 h9=>exact .fm gk gv h1 h2 h3 h4 h5 h6 h7 h8 h9
 | _=>simp [AV.pure] at hp
theorem Rep.oneCell {w:World} {I:Nat→Prop} {T:Tbl} {v:Value} {av:AV} (h:Rep w I T v av) (hp:av.one=true):v.oneCell'=true:=by
 cases h<;>first | rfl | simp [AV.one] at hp
inductive KSh where
 | int (k:IntKind)
 | bool
 | str
def kc:KSh→AV→Bool
 | .int k,.int k' _=>decide (k=k')
 | .bool,.bool _=>true
 | .str,.str _=>true
 | _,_=>false
def kcs:List KSh→List AV→Bool
 | [],[]=>true
 | k::r,a::s=>kc k a&&kcs r s
 | _,_=>false
def uP (ag:Bool) (ks:List KSh):AV→Bool
 | .agg cs=>ag&&kcs ks cs
 | a=>!ag&&kcs ks [a]
inductive Box where
 | var (t:TypeId) (cs:List AV)
 | row (e:TypeId) (sz:Nat) (l:List AV)
 | map (ag:Bool) (ks:List KSh) (l:List (AV×AV))
inductive yA where
 | unused
 | dead
 | live (b:Box)
structure AS where
 slot:Nat→AV
 box:Nat→yA
def qK (w:World) (I:Nat→Prop) (T:Tbl) (p:Option wW):Box→Prop
 | .var t cs=>∃ b C,p=some (.at b 0)∧w.heap[b]?=some (.cells C t (0,0))∧C.size=cs.length∧(∀ c∈cs,c.one=true) ∧
   ∀ j c,cs[j]?=some c→Rep w I T (C.getD j undef) c
 | .row e sz l=>(p=some .nil∧l=[])∨∃ b cap C,p=some (.at b cap)∧w.heap[b]?=some (.cells C e (0,0))∧C.size=cap * sz∧l.length≤cap∧cap≤maxLen ∧
   (∀ av∈l,av.cells.length=sz)∧(∀ av∈l,∀ c∈av.cells,c.one=true) ∧
   ∀ i av j c,l[i]?=some av→av.cells[j]?=some c→Rep w I Tbl.empty (C.getD (i * sz+j) undef) c
 | .map ag ks l=>∃ b E clock,p=some (.at b 0)∧w.heap[b]?=some (.map E clock)∧E.size=l.length∧l.length≤maxLen∧MapKept.Stamped E clock ∧
   (∀ x∈l,uP ag ks x.1=true)∧∀ (i:Nat) (x:AV×AV),l[i]?=some x→∃ e:MapEntry,E[i]?=some e∧Rep w I Tbl.empty e.key x.1∧Rep w I Tbl.empty e.val x.2
structure uA where
 w0:World
 I0:Nat→Prop
 foot:List wW
 n:Nat
 gift:Nat→Prop:=fun _=>False
 scr:Nat→Prop:=fun _=>False
def uA.has (G:uA) (b:Nat):Prop:=∃ cap,wW.at b cap∈G.foot
def uA.mine (G:uA) (b:Nat):Prop:=G.w0.heap.size≤b∨G.gift b
def imm (G:uA) (st:AS) (T:Tbl) (b:Nat):Prop:=(G.I0 b∨G.mine b)∧∀ id bx cap,st.box id=.live bx→T id≠some (.at b cap)
structure MM (G:uA) (w:World):Prop where
 os:w.os=G.w0.os
 tape:w.tape=G.w0.tape
 output:w.output=G.w0.output
 size:G.w0.heap.size≤w.heap.size
 block:∀ b,b<G.w0.heap.size→¬ G.has b→¬ (G.gift b∨G.scr b)→w.heap[b]?=G.w0.heap[b]?
structure tJ (G:uA) (st:AS) (T:Tbl) (a:Act) (w:World):Prop where
 defers:a.defers=[]
 size:a.tmps.size=G.n
 slots:∀ t,Rep w (imm G st T) T (a.tmps.getD t undef) (st.slot t)
 boxes:∀ id bx,st.box id=.live bx→qK w (imm G st T) T (T id) bx
 unused:∀ id,st.box id=.unused→T id=none
 apart:∀ id id' bx bx' b cap cap',st.box id=.live bx→st.box id'=.live bx'→T id=some (.at b cap)→T id'=some (.at b cap')→id=id'
 mine:∀ id bx b cap,st.box id=.live bx→T id=some (.at b cap)→G.foot.length≤id→G.mine b
 foot:∀ i p,G.foot[i]?=some p→T i=some p
 kept:MM G w
def Rel (G:uA) (st:AS) (a:Act) (w:World):Prop:=∃ T,tJ G st T a w
end Go.Ab

/- Steps of the relation: a quiet step, a new block, a block of the call's own written, a row appended to. -/
namespace Go.Ab
open Go
structure Eff where
 rs:List (Nat×AV):=[]
 rb:List (Nat×yA):=[]
 dst:Option (Nat×AV):=none
 wb:List (Nat×yA):=[]
 fz:List (Nat×AV):=[]
def vG:List (Nat×yA)→Nat→yA→yA
 | [],_,d=>d
 | (k,b)::r,i,d=>bif Nat.beq i k then b else vG r i d
def bB (f:Nat→AV):Option (Nat×AV)→Nat→AV
 | none,t=>f t
 | some (d,av),t=>bif Nat.beq t d then av else f t
def kV:List (Nat×AV)→Nat→AV→AV
 | [],_,d=>d
 | (k,v)::r,t,d=>bif Nat.beq t k then v else kV r t d
def AS.upd (st:AS) (E:Eff):AS:=⟨bB (fun t=>kV E.fz t (st.slot t)) E.dst,fun i=>vG E.wb i (st.box i)⟩
def Eff.holds (E:Eff) (st:AS):Prop:=(∀ x∈E.rs,st.slot x.1=x.2)∧(∀ x∈E.rb,st.box x.1=x.2)
theorem x5 {a b:Nat}:Nat.beq a b=true↔a=b:=⟨Nat.eq_of_beq_eq_true,fun h=>h ▸ Nat.beq_refl a⟩
theorem HO (a:Nat):Nat.beq a a=true:=Nat.beq_refl a
theorem q8 {a b:Nat} (h:a≠b):Nat.beq a b=false:=by
 cases hb:Nat.beq a b
 ·rfl
 ·exact absurd (x5.1 hb) h
theorem i5 (f:Nat→AV) (d:Nat) (av:AV):bB f (some (d,av)) d=av:=by simp [bB]
theorem gV (f:Nat→AV) (d:Nat) (av:AV) {t:Nat} (h:t≠d):bB f (some (d,av)) t=f t:=by simp [bB,q8 h]
theorem QN {a:Act} {d:Nat} {v:Value} (t:Nat) (hd:d<a.tmps.size) :
  (a.put (some d) v).tmps.getD t undef=if t=d then v else a.tmps.getD t undef:=by
 simp only [Act.put,Array.getD_eq_getD_getElem?,Array.getElem?_setIfInBounds]
 by_cases h:d=t
 ·subst h;simp [hd]
 ·have:¬ t=d:=fun e=>h e.symm
  simp [h,this]
theorem zEu {G:uA} {w w':World} {row:Option Nat} (hk:MM G w) (hg:w.grownBy w' row) (hr:∀ g,row=some g→G.mine g∨G.has g):MM G w' :=
 ⟨hg.os.trans hk.os,hg.tape.trans hk.tape,hg.output.trans hk.output,Nat.le_trans hk.size hg.size,fun b hb hn hn2 =>
  (hg.block b (Nat.lt_of_lt_of_le hb hk.size) (fun e=>by rcases hr b e.symm with (h | h) | h;omega;exact hn2 (.inl h);exact hn h)).trans (hk.block b hb hn hn2)⟩
theorem qK.mono {w w':World} {I I':Nat→Prop} {T T':Tbl} {p:Option wW} {bx:Box} (h:qK w I T p bx)
  (hs:w.heap.size≤w'.heap.size) (hc:∀ b,I b→b<w.heap.size→w'.heap[b]?=w.heap[b]?) (hI:∀ b,I b→b<w.heap.size→I' b)
  (hT:T.le T') (hb:∀ b cap,p=some (.at b cap)→b<w.heap.size→w'.heap[b]?=w.heap[b]?):qK w' I' T' p bx:=by
 cases bx with
 | var t cs =>
  obtain ⟨b,C,hp,hh,h1,h2,h3⟩:=h
  have hlt:b<w.heap.size:=by
   rcases zlg b w.heap.size with h' | h'
   ·exact h'
   ·rw [Array.getElem?_eq_none h'] at hh;cases hh
  exact ⟨b,C,hp,(hb b 0 hp hlt).trans hh,h1,h2,fun j c hj=>(h3 j c hj).mono hs hc hI hT⟩
 | row e sz l =>
  rcases h with h | ⟨b,cap,C,hp,hh,h1,h2,h3,h4,h5,h6⟩
  ·exact .inl h
  ·have hlt:b<w.heap.size:=by
    rcases zlg b w.heap.size with h' | h'
    ·exact h'
    ·rw [Array.getElem?_eq_none h'] at hh;cases hh
   exact .inr ⟨b,cap,C,hp,(hb b cap hp hlt).trans hh,h1,h2,h3,h4,h5,fun i av j c hi hj=>(h6 i av j c hi hj).mono hs hc hI (fun _ _ h=>h)⟩
 | map ag ks l =>
  obtain ⟨b,E,clock,hp,hh,h1,h2,h3,h4,h5⟩:=h
  have hlt:b<w.heap.size:=by
   rcases zlg b w.heap.size with h' | h'
   ·exact h'
   ·rw [Array.getElem?_eq_none h'] at hh;cases hh
  refine ⟨b,E,clock,hp,(hb b 0 hp hlt).trans hh,h1,h2,h3,h4,fun i x hx=>?_⟩
  obtain ⟨e,k1,k2,k3⟩:=h5 i x hx
  exact ⟨e,k1,k2.mono hs hc hI (fun _ _ h=>h),k3.mono hs hc hI (fun _ _ h=>h)⟩
theorem qK.no {w:World} {I:Nat→Prop} {T:Tbl} {bx:Box} (h:qK w I T none bx):False:=by
 cases bx with
 | var t cs=>obtain ⟨b,C,hp,_⟩:=h;cases hp
 | row e sz l=>rcases h with ⟨hp,_⟩ | ⟨b,cap,C,hp,_⟩<;>cases hp
 | map ag ks l=>obtain ⟨b,E,c,hp,_⟩:=h;cases hp
theorem qK.lt {w:World} {I:Nat→Prop} {T:Tbl} {bx:Box} {b cap:Nat} (h:qK w I T (some (.at b cap)) bx):b<w.heap.size:=by
 have lt_of:∀ {o:Obj},w.heap[b]?=some o→b<w.heap.size:=by
  intro o hh
  rcases zlg b w.heap.size with h' | h'
  ·exact h'
  ·rw [Array.getElem?_eq_none h'] at hh;cases hh
 cases bx with
 | var t cs =>
  obtain ⟨b',C,hp',hh,_⟩:=h
  injection hp' with hp';injection hp' with hp';subst hp'
  exact lt_of hh
 | row e sz l =>
  rcases h with ⟨hp',_⟩ | ⟨b',cap,C,hp',hh,_⟩
  ·cases hp'
  ·injection hp' with hp';injection hp' with hp';subst hp'
   exact lt_of hh
 | map ag ks l =>
  obtain ⟨b',E,c,hp',hh,_⟩:=h
  injection hp' with hp';injection hp' with hp';subst hp'
  exact lt_of hh
theorem tJ.step {G:uA} {st:AS} {T:Tbl} {a:Act} {w:World} (h:tJ G st T a w) {E:Eff} {T':Tbl} {w':World} {row:Option Nat} {dst:Option Tmp} {v:Value}
  (hg:w.grownBy w' row) (hT:T.le T')
  (hrow:∀ g,row=some g→∃ id bx cap,st.box id=.live bx∧T id=some (.at g cap))
  (himm:∀ b,imm G st T b→b<w.heap.size→imm G (st.upd E) T' b)
  (hdst:dst=E.dst.map (·.1))
  (hd:∀ d av,E.dst=some (d,av)→d<G.n∧Rep w' (imm G (st.upd E) T') T' v av)
  (hbox:∀ id bx,(st.upd E).box id=.live bx→(st.box id=.live bx∧∀ g cap,row=some g→T id≠some (.at g cap)) ∨
   (qK w' (imm G (st.upd E) T') T' (T' id) bx∧(∀ b cap,T' id=some (.at b cap)→G.foot.length≤id→G.mine b)))
  (hun:∀ id,(st.upd E).box id=.unused→T' id=none)
  (hap:∀ id id' bx bx' b cap cap',(st.upd E).box id=.live bx→(st.upd E).box id'=.live bx'→T' id=some (.at b cap)→T' id'=some (.at b cap')→id=id') (hfz:E.fz=[]:=by rfl) :
  Rel G (st.upd E) (a.put dst v) w':=by
 have hcI:∀ b,imm G st T b→b<w.heap.size→w'.heap[b]?=w.heap[b]?:=fun b hb hlt=>hg.block b hlt (fun e=>by
  obtain ⟨id,bx,cap,h1,h2⟩:=hrow b e.symm
  exact hb.2 id bx cap h1 h2)
 refine ⟨T',?_,?_,?_,?_,hun,hap,?_,fun i p hp=>hT _ _ (h.foot i p hp),?_⟩
 ·cases dst<;>exact h.defers
 ·cases dst<;>simp [Act.put,h.size]
 ·intro t
  subst hdst
  cases hE:E.dst with
  | none =>
   simp only [AS.upd,hE,hfz,kV,bB,Option.map_none,Act.put]
   exact (h.slots t).mono hg.size hcI himm hT
  | some x =>
   obtain ⟨d,av⟩:=x
   obtain ⟨hlt,hv⟩:=hd d av hE
   simp only [AS.upd,hE,hfz,kV,Option.map_some]
   rw [QN t (by rw [h.size];exact hlt)]
   by_cases ht:t=d
   ·subst ht;rw [if_pos rfl,i5];exact hv
   ·rw [if_neg ht,gV _ _ _ ht];exact (h.slots t).mono hg.size hcI himm hT
 ·intro id bx hb
  rcases hbox id bx hb with ⟨hold,hne⟩ | hnew
  ·have hok:=h.boxes id bx hold
   have hTid:T' id=T id:=by
    cases hTi:T id with
    | some p=>exact hT _ _ hTi
    | none =>
     rw [hTi] at hok
     exact hok.no.elim
   rw [hTid]
   exact hok.mono hg.size hcI himm hT fun b cap hp hlt=>hg.block b hlt fun e=>hne b cap e.symm hp
  ·exact hnew.1
 ·intro id bx b cap hb hTb hge0
  rcases hbox id bx hb with ⟨hold,_⟩ | ⟨_,hnew⟩
  ·have hok:=h.boxes id bx hold
   have hTi:T id=some (.at b cap):=by
    cases hTi:T id with
    | some p=>rw [hT _ _ hTi] at hTb;exact hTb
    | none =>
     rw [hTi] at hok
     exact hok.no.elim
   exact h.mine id bx b cap hold hTi hge0
  ·exact hnew b cap hTb hge0
 ·exact zEu h.kept hg fun g hg'=>by
   obtain ⟨id,bx,cap,h1,h2⟩:=hrow g hg'
   rcases zlg id G.foot.length with hlt | hge
   ·have:=h.foot id _ (List.getElem?_eq_getElem hlt)
    rw [h2] at this
    injection this with this
    exact .inr ⟨cap,by rw [this];exact List.getElem_mem hlt⟩
   ·exact .inl (h.mine id bx g cap h1 h2 hge)
theorem cR (st:AS) (E:Eff):(st.upd E).box=fun i=>vG E.wb i (st.box i):=rfl
theorem tJ.quiet {G:uA} {st:AS} {T:Tbl} {a:Act} {w:World} (h:tJ G st T a w) {E:Eff} {w':World} {dst:Option Tmp} {v:Value}
  (hg:w.grownBy w' none) (hb:(st.upd E).box=st.box) (hdst:dst=E.dst.map (·.1))
  (hd:∀ d av,E.dst=some (d,av)→d<G.n∧Rep w' (imm G st T) T v av) (hfz:E.fz=[]:=by rfl) :
  Rel G (st.upd E) (a.put dst v) w':=by
 have hi:imm G (st.upd E) T=imm G st T:=by funext b;simp only [imm,hb]
 refine h.step (hfz:=hfz) hg (fun _ _ h=>h) (fun g hg=>by cases hg) (fun b hb _=>by rw [hi];exact hb) hdst ?_ ?_ ?_ ?_
 ·intro d av hE;rw [hi];exact hd d av hE
 ·intro id bx hbx;rw [hb] at hbx;exact .inl ⟨hbx,fun g cap hg=>by cases hg⟩
 ·intro id hu;rw [hb] at hu;exact h.unused id hu
 ·intro id id' bx bx' b cap cap' h1 h2;rw [hb] at h1 h2;exact h.apart id id' bx bx' b cap cap' h1 h2
def Tbl.put (T:Tbl) (id:Nat) (p:wW):Tbl:=fun i=>if i=id then some p else T i
theorem Tbl.put_same (T:Tbl) (id:Nat) (p:wW):T.put id p id=some p:=by simp [Tbl.put]
theorem Tbl.put_ne (T:Tbl) {id i:Nat} (p:wW) (h:i≠id):T.put id p i=T i:=by simp [Tbl.put,h]
theorem Tbl.le_put {T:Tbl} {id:Nat} {p:wW} (h:T id=none):T.le (T.put id p):=fun i q hq=>by
 by_cases e:i=id
 ·subst e;rw [h] at hq;cases hq
 ·rw [Tbl.put_ne _ _ e];exact hq
theorem dZ (id:Nat) (b d:yA) (i:Nat):vG [(id,b)] i d=if i=id then b else d:=by
 by_cases h:i=id
 ·subst h;simp [vG]
 ·simp [vG,q8 h,h]
theorem tJ.new {G:uA} {st:AS} {T:Tbl} {a:Act} {w:World} (h:tJ G st T a w) {E:Eff} {w':World} {dst:Option Tmp} {v:Value} {id:Nat} {bx:Box} {p:wW}
  (hg:w.grownBy w' none) (hw:E.wb=[(id,.live bx)]) (hu:st.box id=.unused) (hdst:dst=E.dst.map (·.1))
  (hp:∀ b cap,p=.at b cap→w.heap.size≤b)
  (hok:qK w' (imm G (st.upd E) (T.put id p)) (T.put id p) (some p) bx)
  (hd:∀ d av,E.dst=some (d,av)→d<G.n∧Rep w' (imm G (st.upd E) (T.put id p)) (T.put id p) v av) (hfz:E.fz=[]:=by rfl) :
  Rel G (st.upd E) (a.put dst v) w':=by
 have hb:∀ i,(st.upd E).box i=if i=id then .live bx else st.box i:=fun i=>by rw [cR,hw];exact dZ _ _ _ _
 have hTn:=h.unused id hu
 refine h.step (hfz:=hfz) hg (T':=T.put id p) (Tbl.le_put hTn) (fun g hg=>by cases hg) ?_ hdst hd ?_ ?_ ?_
 ·intro b hI hlt
  refine ⟨hI.1,fun id' bx' cap hl hT'=>?_⟩
  rw [hb] at hl
  by_cases e:id'=id
  ·subst e
   rw [Tbl.put_same] at hT'
   injection hT' with hT'
   have:=hp b cap hT'
   omega
  ·rw [if_neg e] at hl;rw [Tbl.put_ne _ _ e] at hT'
   exact hI.2 id' bx' cap hl hT'
 ·intro id' bx' hl
  rw [hb] at hl
  by_cases e:id'=id
  ·subst e
   rw [if_pos rfl] at hl;injection hl with hl;subst hl
   rw [Tbl.put_same]
   exact .inr ⟨hok,fun b cap hT _=>by injection hT with hT;exact .inl (Nat.le_trans h.kept.size (hp b cap hT))⟩
  ·rw [if_neg e] at hl
   exact .inl ⟨hl,fun g cap hg=>by cases hg⟩
 ·intro id' hl
  rw [hb] at hl
  by_cases e:id'=id
  ·subst e;simp at hl
  ·rw [if_neg e] at hl;rw [Tbl.put_ne _ _ e];exact h.unused id' hl
 ·intro id1 id2 bx1 bx2 b c1 c2 h1 h2 t1 t2
  rw [hb] at h1 h2
  have old:∀ i bxi c,i≠id→st.box i=.live bxi→T i=some (.at b c)→b<w.heap.size:=by
   intro i bxi c _ hl hT
   have hok:=h.boxes i bxi hl
   rw [hT] at hok
   exact hok.lt
  by_cases e1:id1=id<;>by_cases e2:id2=id
  ·rw [e1,e2]
  ·subst e1
   rw [if_neg e2] at h2;rw [Tbl.put_same] at t1;rw [Tbl.put_ne _ _ e2] at t2
   injection t1 with t1
   have:=hp b c1 t1
   have:=old id2 bx2 c2 e2 h2 t2
   omega
  ·subst e2
   rw [if_neg e1] at h1;rw [Tbl.put_same] at t2;rw [Tbl.put_ne _ _ e1] at t1
   injection t2 with t2
   have:=hp b c2 t2
   have:=old id1 bx1 c1 e1 h1 t1
   omega
  ·rw [if_neg e1] at h1;rw [if_neg e2] at h2;rw [Tbl.put_ne _ _ e1] at t1;rw [Tbl.put_ne _ _ e2] at t2
   exact h.apart id1 id2 bx1 bx2 b c1 c2 h1 h2 t1 t2
theorem tJ.write {G:uA} {st:AS} {T:Tbl} {a:Act} {w:World} (h:tJ G st T a w) {E:Eff} {w':World} {dst:Option Tmp} {v:Value} {id:Nat} {bx bx':Box} {b cap:Nat}
  (hl:st.box id=.live bx) (hTid:T id=some (.at b cap))
  (hg:w.grownBy w' (some b)) (hw:E.wb=[(id,.live bx')]) (hdst:dst=E.dst.map (·.1))
  (hok:qK w' (imm G st T) T (T id) bx')
  (hd:∀ d av,E.dst=some (d,av)→d<G.n∧Rep w' (imm G st T) T v av) (hfz:E.fz=[]:=by rfl) :
  Rel G (st.upd E) (a.put dst v) w':=by
 have hb:∀ i,(st.upd E).box i=if i=id then .live bx' else st.box i:=fun i=>by rw [cR,hw];exact dZ _ _ _ _
 have hi:imm G (st.upd E) T=imm G st T:=by
  funext c
  apply propext
  constructor
  ·intro hI
   refine ⟨hI.1,fun i bxi cp hli hTi=>?_⟩
   by_cases e:i=id
   ·subst e;exact hI.2 i bx' cp (by rw [hb,if_pos rfl]) hTi
   ·exact hI.2 i bxi cp (by rw [hb,if_neg e];exact hli) hTi
  ·intro hI
   refine ⟨hI.1,fun i bxi cp hli hTi=>?_⟩
   rw [hb] at hli
   by_cases e:i=id
   ·subst e;exact hI.2 i bx cp hl hTi
   ·rw [if_neg e] at hli;exact hI.2 i bxi cp hli hTi
 refine h.step (hfz:=hfz) hg (fun _ _ h=>h) (fun g hg=>by injection hg with hg;subst hg;exact ⟨id,bx,cap,hl,hTid⟩) (fun c hc _=>by rw [hi];exact hc) hdst ?_ ?_ ?_ ?_
 ·intro d av hE;rw [hi];exact hd d av hE
 ·intro i bxi hli
  rw [hb] at hli
  by_cases e:i=id
  ·subst e
   rw [if_pos rfl] at hli;injection hli with hli;subst hli
   rw [hi]
   exact .inr ⟨hok,fun b' cap' hT' hge=>h.mine i bx b' cap' hl hT' hge⟩
  ·rw [if_neg e] at hli
   refine .inl ⟨hli,fun g cp hg hT'=>?_⟩
   injection hg with hg;subst hg
   exact e (h.apart i id bxi bx b cp cap hli hl hT' hTid)
 ·intro i hu
  rw [hb] at hu
  by_cases e:i=id
  ·subst e;simp at hu
  ·rw [if_neg e] at hu;exact h.unused i hu
 ·intro i1 i2 b1 b2 c d1 d2 h1 h2 t1 t2
  rw [hb] at h1 h2
  have l1:∃ x,st.box i1=.live x:=by
   by_cases e:i1=id
   ·subst e;exact ⟨_,hl⟩
   ·rw [if_neg e] at h1;exact ⟨_,h1⟩
  have l2:∃ x,st.box i2=.live x:=by
   by_cases e:i2=id
   ·subst e;exact ⟨_,hl⟩
   ·rw [if_neg e] at h2;exact ⟨_,h2⟩
  obtain ⟨x1,l1⟩:=l1
  obtain ⟨x2,l2⟩:=l2
  exact h.apart i1 i2 x1 x2 c d1 d2 l1 l2 t1 t2
theorem tJ.move {G:uA} {st:AS} {T:Tbl} {a:Act} {w:World} (h:tJ G st T a w) {E:Eff} {w':World} {dst:Option Tmp} {v:Value} {id id':Nat} {bx bx':Box} {p:wW} {row:Option Nat}
  (hl:st.box id=.live bx) (hu:st.box id'=.unused) (hnp:G.foot.length≤id)
  (hrow:∀ g,row=some g→∃ cap,T id=some (.at g cap))
  (hg:w.grownBy w' row) (hw:E.wb=[(id',.live bx'),(id,.dead)]) (hdst:dst=E.dst.map (·.1))
  (hp:∀ b cap,p=.at b cap→w.heap.size≤b∨(∃ cap',T id=some (.at b cap')))
  (hok:∀ I T':_,(∀ b,imm G st T b→b<w.heap.size→I b)→T.le T'→qK w' I T' (some p) bx')
  (hd:∀ d av,E.dst=some (d,av)→d<G.n∧∀ I T',T' id'=some p→Rep w' I T' v av) (hfz:E.fz=[]:=by rfl) :
  Rel G (st.upd E) (a.put dst v) w':=by
 have hne:id'≠id:=fun e=>by rw [e,hl] at hu;cases hu
 have hb:∀ i,(st.upd E).box i=if i=id' then .live bx' else if i=id then .dead else st.box i:=fun i=>by
  rw [cR,hw]
  by_cases e:i=id'
  ·subst e;simp [vG]
  ·by_cases e2:i=id
   ·subst e2;simp [vG,q8 e,e]
   ·simp [vG,q8 e,q8 e2,e,e2]
 have hTn:=h.unused id' hu
 have fW:∀ i bxi b c,st.box i=.live bxi→T i=some (.at b c)→b<w.heap.size:=by
  intro i bxi b c hl hT
  have hok:=h.boxes i bxi hl
  rw [hT] at hok
  exact hok.lt
 have himm:∀ b,imm G st T b→b<w.heap.size→imm G (st.upd E) (T.put id' p) b:=by
  intro b hI hlt
  refine ⟨hI.1,fun i bxi cap hli hTi=>?_⟩
  rw [hb] at hli
  by_cases e:i=id'
  ·subst e
   rw [Tbl.put_same] at hTi;injection hTi with hTi
   rcases hp b cap hTi with h' | ⟨cap',h'⟩
   ·omega
   ·exact hI.2 id bx cap' hl h'
  ·rw [if_neg e] at hli;rw [Tbl.put_ne _ _ e] at hTi
   by_cases e2:i=id
   ·rw [if_pos e2] at hli;cases hli
   ·rw [if_neg e2] at hli;exact hI.2 i bxi cap hli hTi
 refine h.step (hfz:=hfz) hg (T':=T.put id' p) (Tbl.le_put hTn) (fun g hg=>?_) himm hdst ?_ ?_ ?_ ?_
 ·obtain ⟨cap,hT⟩:=hrow g hg
  exact ⟨id,bx,cap,hl,hT⟩
 ·intro d av hE
  exact ⟨(hd d av hE).1,(hd d av hE).2 _ _ (Tbl.put_same _ _ _)⟩
 ·intro i bxi hli
  rw [hb] at hli
  by_cases e:i=id'
  ·subst e
   rw [if_pos rfl] at hli;injection hli with hli;subst hli
   rw [Tbl.put_same]
   exact .inr ⟨hok _ _ himm (Tbl.le_put hTn),fun b cap hT _=>by
    injection hT with hT
    rcases hp b cap hT with h' | ⟨cap',h'⟩
    ·exact .inl (Nat.le_trans h.kept.size h')
    ·exact h.mine id bx b cap' hl h' hnp⟩
  ·rw [if_neg e] at hli
   by_cases e2:i=id
   ·rw [if_pos e2] at hli;cases hli
   ·rw [if_neg e2] at hli
    refine .inl ⟨hli,fun g cap hg hT=>?_⟩
    obtain ⟨cap',hT'⟩:=hrow g hg
    exact e2 (h.apart i id bxi bx g cap cap' hli hl hT hT')
 ·intro i hli
  rw [hb] at hli
  by_cases e:i=id'
  ·subst e;simp at hli
  ·rw [if_neg e] at hli;rw [Tbl.put_ne _ _ e]
   by_cases e2:i=id
   ·rw [if_pos e2] at hli;cases hli
   ·rw [if_neg e2] at hli;exact h.unused i hli
 ·intro i1 i2 b1 b2 b c1 c2 h1 h2 t1 t2
  rw [hb] at h1 h2
  have key:∀ i bxi c c',i≠id'→(if i=id then yA.dead else st.box i)=.live bxi→T i=some (.at b c)→p=.at b c'→False:=by
   intro i bxi c c' e hli hTi hpp
   by_cases e2:i=id
   ·rw [if_pos e2] at hli;cases hli
   ·rw [if_neg e2] at hli
    have hlt:=fW i bxi b c hli hTi
    rcases hp b c' hpp with h' | ⟨cap',h'⟩
    ·omega
    ·exact e2 (h.apart i id bxi bx b c cap' hli hl hTi h')
  by_cases e1:i1=id'<;>by_cases e2:i2=id'
  ·rw [e1,e2]
  ·subst e1
   rw [if_neg e2] at h2;rw [Tbl.put_same] at t1;rw [Tbl.put_ne _ _ e2] at t2
   injection t1 with t1
   exact (key i2 b2 c2 c1 e2 h2 t2 t1).elim
  ·subst e2
   rw [if_neg e1] at h1;rw [Tbl.put_same] at t2;rw [Tbl.put_ne _ _ e1] at t1
   injection t2 with t2
   exact (key i1 b1 c1 c2 e1 h1 t1 t2).elim
  ·rw [if_neg e1] at h1;rw [if_neg e2] at h2;rw [Tbl.put_ne _ _ e1] at t1;rw [Tbl.put_ne _ _ e2] at t2
   by_cases f1:i1=id
   ·rw [if_pos f1] at h1;cases h1
   ·by_cases f2:i2=id
    ·rw [if_pos f2] at h2;cases h2
    ·rw [if_neg f1] at h1;rw [if_neg f2] at h2
     exact h.apart i1 i2 b1 b2 b c1 c2 h1 h2 t1 t2
end Go.Ab

/- What the operations that only compute give: integers, truth values, strings, conversions, parts of values, places. -/
namespace Go.Ab
open Go
structure xN where
 id:Nat:=0
 n:Nat:=0
 z:Int:=0
 m:Nat:=0
 b:Bool:=false
 av:AV:=.junk
 l:List AV:=[]
 s:List Int:=[]
 ids:List Nat:=[]
 pre:List Box:=[]
 post:List Box:=[]
 lend:List Nat:=[]
 frz:List Nat:=[]
 lo:List (Nat×List Nat):=[]
 g:Bool:=true
 dep:Bool:=false
 vc:List Prop:=[]
 mag:Bool:=false
 mks:List KSh:=[]
 es:List (AV×AV):=[]
 giv:List Box:=[]
 gids:List Nat:=[]
 x:Bool:=false
 deriving Inhabited
def bytesOf (s:ByteArray):List Int:=s.data.toList.map fun c=>(c.toNat:Int)
def mX:Value→AV
 | .int k n=>.int k n
 | .bool b=>.bool b
 | .string s=>.str (bytesOf s)
 | .slice none 0 0=>.nilsl
 | .pointer none=>.nilp
 | .map none=>.fm true []
 | _=>.junk
def oK:Value→AV
 | .agg vs=>.agg (vs.toList.map mX)
 | v=>mX v
def bQ:Value→Bool
 | .int k n=>decide (k.wrap n=n)
 | .bool _=>true
 | .string s=>Nat.ble s.data.size 9223372036854775807
 | .slice none 0 0=>true
 | .pointer none=>true
 | .map none=>true
 | _=>false
def mA:Value→Bool
 | .agg vs=>vs.toList.all bQ
 | v=>bQ v
theorem qC:maxLen=9223372036854775807:=by decide
theorem VL (s:ByteArray):w9 (bytesOf s)=s:=by
 obtain ⟨d⟩:=s
 simp only [w9,bytesOf,List.map_map]
 congr 1
 have:((fun x:Int=>UInt8.ofNat x.toNat) ∘ fun c:UInt8=>(c.toNat:Int))=id:=by
  funext c;simp
 rw [this,List.map_id]
theorem MO (s:ByteArray):∀ x∈bytesOf s,0≤x∧x<256:=by
 intro x hx
 simp only [bytesOf,List.mem_map] at hx
 obtain ⟨c,_,rfl⟩:=hx
 have:=c.toNat_lt
 omega
theorem TI {w:World} {I:Nat→Prop} {T:Tbl} {v:Value} (h:bQ v=true):Rep w I T v (mX v):=by
 cases v with
 | int k n=>exact .int (of_decide_eq_true h)
 | bool b=>exact .bool
 | string s =>
  have hs:s.data.size≤9223372036854775807:=zle h
  have:=Rep.str (w:=w) (I:=I) (T:=T) (l:=bytesOf s) (MO s) (by rw [qC];simpa [bytesOf] using hs)
  rw [VL] at this
  exact this
 | slice a l c =>
  unfold bQ at h
  split at h<;>simp_all
  rename_i heq
  obtain ⟨rfl,rfl,rfl⟩:=heq
  exact .nilsl
 | pointer a =>
  cases a with
  | none=>exact .nilp
  | some a=>simp [bQ] at h
 | map a =>
  cases a with
  | none=>exact .fm0
  | some a=>simp [bQ] at h
 | _=>simp [bQ] at h
theorem UM {v:Value} (h:bQ v=true):(mX v).one=true:=by
 unfold bQ at h
 split at h<;>simp_all [mX,AV.one]
theorem NP {w:World} {I:Nat→Prop} {T:Tbl} {v:Value} (h:mA v=true):Rep w I T v (oK v):=by
 cases v with
 | agg vs =>
  simp only [mA,List.all_eq_true] at h
  refine .agg (by simp) ?_ ?_
  ·intro c hc
   simp only [List.mem_map] at hc
   obtain ⟨v,hv,rfl⟩:=hc
   exact UM (h v hv)
  ·intro j c hj
   rw [List.getElem?_map] at hj
   cases hvj:vs.toList[j]? with
   | none=>rw [hvj] at hj;cases hj
   | some v =>
    rw [hvj] at hj
    injection hj with hj
    subst hj
    have hv:v∈vs.toList:=List.mem_of_getElem? hvj
    have:vs.getD j undef=v:=by
     simp only [Array.getD_eq_getD_getElem?]
     rw [Array.getElem?_toList] at hvj
     rw [hvj];rfl
    rw [this]
    exact TI (h v hv)
 | _=>exact TI h
def xB:Operand→Bool
 | .const v=>mA v
 | _=>true
def j4 (st:AS):List Operand→List (Nat×AV)
 | []=>[]
 | .tmp t::r=>(t,st.slot t)::j4 st r
 | _::r=>j4 st r
/-! Integers. -/
def mK:IntKind→IntKind→Bool
 | .i8,.i8 | .i16,.i16 | .i32,.i32 | .i64,.i64 | .u8,.u8 | .u16,.u16 | .u32,.u32 | .u64,.u64=>true
 | _,_=>false
theorem U0 {a b:IntKind} (h:mK a b=true):a=b:=by cases a<;>cases b<;>simp_all [mK]
def uF (k:IntKind) (x y:Int):Int:=k.wrap (BitVec.ofInt k.bits x &&& BitVec.ofInt k.bits y).toNat
def ior (k:IntKind) (x y:Int):Int:=k.wrap (BitVec.ofInt k.bits x ||| BitVec.ofInt k.bits y).toNat
def tX (k:IntKind) (x y:Int):Int:=k.wrap (BitVec.ofInt k.bits x ^^^ BitVec.ofInt k.bits y).toNat
def NX (k:IntKind) (x y:Int):Int:=k.wrap (BitVec.ofInt k.bits x &&& ~~~BitVec.ofInt k.bits y).toNat
def pL (k:IntKind) (x y:Int):Int:=k.wrap (x * 2 ^ (min y.toNat k.bits))
def qD (k:IntKind) (x y:Int):Int:=x.fdiv (2 ^ (min y.toNat k.bits))
def MQ (k:IntKind) (x y:Int):Int:=k.wrap (x.tdiv y)
def oW (x y:Int):Int:=x.tmod y
theorem aN (k:IntKind) (n:Int):k.wrap (k.wrap n)=k.wrap n:=by
 cases k<;>simp only [IntKind.wrap,IntKind.bits,IntKind.signed]<;>simp<;>omega
theorem M0 (k:IntKind) (n:Int) (h:k.wrap n=n):(if k.signed then -(2 ^ (k.bits - 1):Int) else 0)≤n∧n<(if k.signed then 2 ^ (k.bits - 1) else 2 ^ k.bits):=by
 cases k<;>simp only [IntKind.wrap,IntKind.bits,IntKind.signed] at h ⊢<;>simp at h ⊢<;>omega
theorem iD (k:IntKind) (n:Int) (h:(if k.signed then -(2 ^ (k.bits - 1):Int) else 0)≤n∧n<(if k.signed then 2 ^ (k.bits - 1) else 2 ^ k.bits)):k.wrap n=n:=by
 cases k<;>simp only [IntKind.wrap,IntKind.bits,IntKind.signed] at h ⊢<;>simp at h ⊢<;>omega
theorem W6 (k:IntKind) (n m:Int) (h:k.wrap n=n) (h1:0≤n→0≤m∧m≤n) (h2:n<0→n≤m∧m<0):k.wrap m=m:=by
 have hr:=M0 k n h
 refine iD k m ?_
 rcases Int.lt_or_le n 0 with h' | h'
 ·have:=h2 h'
  cases k<;>simp only [IntKind.bits,IntKind.signed] at hr ⊢<;>simp at hr ⊢<;>omega
 ·have:=h1 h'
  cases k<;>simp only [IntKind.bits,IntKind.signed] at hr ⊢<;>simp at hr ⊢<;>omega
theorem zD5 (k:IntKind) (x y:Int) (h:k.wrap x=x):k.wrap (qD k x y)=qD k x y:=by
 have hp:(0:Int)<2 ^ (min y.toNat k.bits):=Int.pow_pos (by omega)
 have he:qD k x y=x / 2 ^ (min y.toNat k.bits):=by
  unfold qD
  rw [Int.fdiv_eq_ediv_of_nonneg]
  omega
 rw [he]
 refine W6 k x _ h ?_ ?_
 ·intro hx
  exact ⟨Int.ediv_nonneg hx (by omega),Int.ediv_le_self _ hx⟩
 ·intro hx
  refine ⟨?_,Int.ediv_neg_of_neg_of_pos hx hp⟩
  have h1:(1:Int)≤2 ^ (min y.toNat k.bits):=by omega
  rw [Int.le_ediv_iff_mul_le hp]
  have:x * 2 ^ (min y.toNat k.bits)≤x * 1:=Int.mul_le_mul_of_nonpos_left (by omega) h1
  omega
theorem UW {x:Int} (y:Int) (hx:0≤x):x.tmod y≤x:=by
 have h1:=Int.natAbs_tmod x y
 have h2:=Nat.mod_le x.natAbs y.natAbs
 have h3:=Int.tmod_nonneg y hx
 omega
theorem zAq (k:IntKind) (x y:Int) (h:k.wrap x=x):k.wrap (oW x y)=oW x y:=by
 unfold oW
 have hr:=M0 k x h
 refine iD k _ ?_
 have h1:0≤x→0≤x.tmod y∧x.tmod y≤x:=fun hx=>⟨Int.tmod_nonneg _ hx,UW _ hx⟩
 have h2:x<0→x≤x.tmod y∧x.tmod y≤0:=fun hx=>by
  have e:x.tmod y = -((-x).tmod y):=by rw [Int.neg_tmod];omega
  have a1:=Int.tmod_nonneg y (a := -x) (by omega)
  have a2:(-x).tmod y ≤ -x:=UW y (by omega)
  omega
 rcases Int.lt_or_le x 0 with h' | h'
 ·have:=h2 h'
  cases k<;>simp only [IntKind.bits,IntKind.signed] at hr ⊢<;>simp at hr ⊢<;>omega
 ·have:=h1 h'
  cases k<;>simp only [IntKind.bits,IntKind.signed] at hr ⊢<;>simp at hr ⊢<;>omega
end Go.Ab

/- The operations that only compute, one by one. -/
namespace Go.Ab
open Go
def jE (P:Program) (ρ:Operand→Value) (o:Oper) (w:World) (I:Nat→Prop) (T:Tbl) (av:AV):Prop :=
 ∃ v w',(execOp ρ o).run P w=.ok (.value v) w'∧w.grownBy w' none ∧
  ∀ I' T',(∀ b,I b→b<w.heap.size→I' b)→(∀ b,w.heap.size≤b→b<w'.heap.size→I' b)→T.le T'→Rep w' I' T' v av
theorem jN (w:World):w.grownBy w none:=⟨rfl,rfl,rfl,Nat.le_refl _,fun _ _ _=>rfl⟩
theorem jE.same {P:Program} {ρ:Operand→Value} {o:Oper} {w:World} {I:Nat→Prop} {T:Tbl} {av:AV} {v:Value}
  (h:(execOp ρ o).run P w=.ok (.value v) w) (hr:Rep w I T v av):jE P ρ o w I T av :=
 ⟨v,w,h,jN w,fun _ _ hI _ hT=>hr.mono (Nat.le_refl _) (fun _ _ _=>rfl) hI hT⟩
/-! Operators on integers, truth values and strings. -/
def JX (op:BinOp) (k:IntKind) (a:Int) (b:Int):Option (List Prop×AV) :=
 match op with
 | .add=>some ([],.int k (k.wrap (a+b)))
 | .sub=>some ([],.int k (k.wrap (a - b)))
 | .mul=>some ([],.int k (k.wrap (a * b)))
 | .quo=>some ([b≠0],.int k (MQ k a b))
 | .rem=>some ([b≠0],.int k (oW a b))
 | .and=>some ([],.int k (uF k a b))
 | .or=>some ([],.int k (ior k a b))
 | .xor=>some ([],.int k (tX k a b))
 | .andNot=>some ([],.int k (NX k a b))
 | .eql=>some ([],.bool (a==b))
 | .neq=>some ([],.bool (a != b))
 | .lss=>some ([],.bool (decide (a<b)))
 | .leq=>some ([],.bool (decide (a≤b)))
 | .gtr=>some ([],.bool (decide (a>b)))
 | .geq=>some ([],.bool (decide (a≥b)))
 | _=>none
def cY:List Int→List Int→Bool
 | _,[]=>false
 | [],_::_=>true
 | a::x,b::y=>decide (a<b)||(a==b&&cY x y)
def HF (P:Program) (t:TypeId):Bool:=match P.underlying t with | some .bool=>true | _=>false
theorem X3 {P:Program} {t:TypeId} (h:HF P t=true):P.underlying t=some .bool:=by
 unfold HF at h;split at h<;>simp_all
def rQ (P:Program) (t:TypeId):Bool:=match P.underlying t with | some (.slice _)=>true | _=>false
theorem SK {P:Program} {t:TypeId} (h:rQ P t=true):∃ e,P.underlying t=some (.slice e):=by
 unfold rQ at h;split at h
 ·rename_i e he;exact ⟨e,he⟩
 ·cases h
def E6 (P:Program) (t:TypeId):Bool:=match P.underlying t with | some (.map _ _)=>true | _=>false
theorem WA {P:Program} {t:TypeId} (h:E6 P t=true):∃ k e,P.underlying t=some (.map k e):=by
 unfold E6 at h;split at h
 ·rename_i k e he;exact ⟨k,e,he⟩
 ·cases h
theorem Z3 {P:Program} (w:World) (d:Nat) (t k e:TypeId) (p:Option Nat) (h:P.underlying t=some (.map k e)) :
  (Op.equalIn (d+1) t (.map p) (.map none)).run P w=.ok p.isNone w:=by
 cases p<;>simp [Op.equalIn,run_underlying h]
theorem RI {P:Program} (w:World) (t k e:TypeId) (p:Option Nat) (h:P.underlying t=some (.map k e)) :
  (binOp .eql t (.map p) (.map none)).run P w=.ok (.bool p.isNone) w:=by
 simp only [binOp]
 simp [show Op.equal t (.map p) (.map none)=Op.equalIn (9999+1) t (.map p) (.map none) from rfl,Z3 w 9999 t k e p h]
def JU (P:Program) (op:BinOp) (xT:TypeId) (x y:AV):Option (List Prop×AV) :=
 match x,y with
 | .int k a,.int k' b =>
  match op with
  | .shl=>some ([0≤b],.int k (pL k a b))
  | .shr=>some ([0≤b],.int k (qD k a b))
  | op=>bif mK k k' then JX op k a b else none
 | .bool a,.bool b =>
  bif HF P xT then
   match op with
   | .eql=>some ([],.bool (a==b))
   | .neq=>some ([],.bool (!(a==b)))
   | _=>none
  else none
 | .str a,.str b =>
  match op with
  | .eql=>some ([],.bool (a==b))
  | .neq=>some ([],.bool (!(a==b)))
  | .lss=>some ([],.bool (cY a b))
  | .leq=>some ([],.bool (cY a b||a==b))
  | .gtr=>some ([],.bool !(cY a b||a==b))
  | .geq=>some ([],.bool !(cY a b))
  | .add=>some ([a.length+b.length≤9223372036854775807],.str (a++b))
  | _=>none
 | .sl _ _ l,.nilsl =>
  match op with
  | .eql=>bif rQ P xT then some ([],.nb l) else none
  | _=>none
 | .fm n _,.fm true [] =>
  match op with
  | .eql=>bif E6 P xT then some ([],.bool n) else none
  | _=>none
 | _,_=>none
theorem E8 (l:List Int):(w9 l).toList=l.map fun x=>UInt8.ofNat x.toNat:=by
 rw [ByteArray.toList_eq];simp [w9]
theorem dY (l:List Int):(w9 l).size=l.length:=by simp [w9,ByteArray.size]
theorem QJ {a b:Int} (ha:0≤a∧a<256) (hb:0≤b∧b<256):UInt8.ofNat a.toNat=UInt8.ofNat b.toNat↔a=b:=by
 constructor
 ·intro h
  have h1:(UInt8.ofNat a.toNat).toNat=(UInt8.ofNat b.toNat).toNat:=by rw [h]
  simp only [UInt8.toNat_ofNat'] at h1
  omega
 ·intro h;rw [h]
theorem zEz {a b:Int} (ha:0≤a∧a<256) (hb:0≤b∧b<256):(UInt8.ofNat a.toNat<UInt8.ofNat b.toNat)↔a<b:=by
 rw [UInt8.lt_iff_toNat_lt]
 simp only [UInt8.toNat_ofNat']
 omega
theorem zBs {a b:List Int} (ha:∀ x∈a,0≤x∧x<256) (hb:∀ x∈b,0≤x∧x<256) :
  ((w9 a).toList==(w9 b).toList)=(a==b):=by
 rw [E8,E8]
 induction a generalizing b with
 | nil=>cases b<;>simp
 | cons x r ih =>
  cases b with
  | nil=>simp
  | cons y s =>
   have h1:=ih (b:=s) (fun z hz=>ha z (by simp [hz])) (fun z hz=>hb z (by simp [hz]))
   simp only [List.map_cons,List.cons_beq_cons,h1]
   congr 1
   rw [Bool.eq_iff_iff]
   simp only [beq_iff_eq]
   exact QJ (ha x (by simp)) (hb y (by simp))
theorem W7 {a b:List Int} (ha:∀ x∈a,0≤x∧x<256) (hb:∀ x∈b,0≤x∧x<256) :
  Op.bytesLess (w9 a).toList (w9 b).toList=cY a b:=by
 rw [E8,E8]
 induction a generalizing b with
 | nil=>cases b<;>simp [Op.bytesLess,cY]
 | cons x r ih =>
  cases b with
  | nil=>simp [Op.bytesLess,cY]
  | cons y s =>
   have h1:=ih (b:=s) (fun z hz=>ha z (by simp [hz])) (fun z hz=>hb z (by simp [hz]))
   simp only [List.map_cons,Op.bytesLess,cY,h1]
   have e1:=QJ (ha x (by simp)) (hb y (by simp))
   have e2:=zEz (ha x (by simp)) (hb y (by simp))
   congr 1
   ·rw [Bool.eq_iff_iff];simp only [decide_eq_true_eq];exact e2
   ·congr 1;rw [Bool.eq_iff_iff];simp only [beq_iff_eq];exact e1
theorem pK {P:Program} {op:BinOp} {xT yT:TypeId} {x y:Operand} {ρ:Operand→Value} {o:Oper} {w:World} {X Y v:Value}
  (ho:o.op=.binOp op xT x y yT) (hX:ρ x=X) (hY:ρ y=Y) (hg:(eqGuard op xT x y X Y).run P w=.ok () w) (hb:(binOp op xT X Y).run P w=.ok v w) :
  (execOp ρ o).run P w=.ok (.value v) w:=by
 simp only [execOp,ho,hX,hY,Sem.run_bind,hg,Result.andThen_ok,hb]
 rfl
theorem nU {P:Program} {op:BinOp} {xT:TypeId} {x y:Operand} {w:World} {X Y:Value} (hX:match X with | .nilIface | .agg _=>False | _=>True) :
  (eqGuard op xT x y X Y).run P w=.ok () w:=by
 unfold eqGuard
 cases X<;>first | exact hX.elim | (cases op<;>cases Y<;>simp)
theorem XI {P:Program} {op:BinOp} {k:IntKind} {a b:Int} {xT:TypeId} {w:World} {I:Nat→Prop} {T:Tbl} {r:List Prop×AV}
  (h:JX op k a b=some r) (hv:∀ p∈r.1,p) (wa:k.wrap a=a):∃ v,(binOp op xT (.int k a) (.int k b)).run P w=.ok v w∧Rep w I T v r.2:=by
 cases op<;>simp only [JX,Option.some.injEq,reduceCtorEq] at h<;>subst h
 case add=>exact ⟨_,by simp [binOp,Op.intArith],.int (aN _ _)⟩
 case sub=>exact ⟨_,by simp [binOp,Op.intArith],.int (aN _ _)⟩
 case mul=>exact ⟨_,by simp [binOp,Op.intArith],.int (aN _ _)⟩
 case and=>exact ⟨.int k (uF k a b),by simp [binOp,Op.intBits,uF],.int (aN _ _)⟩
 case or=>exact ⟨.int k (ior k a b),by simp [binOp,Op.intBits,ior],.int (aN _ _)⟩
 case xor=>exact ⟨.int k (tX k a b),by simp [binOp,Op.intBits,tX],.int (aN _ _)⟩
 case andNot=>exact ⟨.int k (NX k a b),by simp [binOp,Op.intBits,NX],.int (aN _ _)⟩
 case quo =>
  have h0:b≠0:=hv _ (by simp)
  exact ⟨.int k (MQ k a b),by simp [binOp,Op.intDiv,MQ,h0],.int (aN _ _)⟩
 case rem =>
  have h0:b≠0:=hv _ (by simp)
  exact ⟨.int k (oW a b),by simp [binOp,Op.intDiv,oW,h0],.int (zAq _ _ _ wa)⟩
 all_goals exact ⟨_,by simp [binOp,Op.intCmp],.bool⟩
theorem zAV {P:Program} {op:BinOp} {xT yT:TypeId} {x y:Operand} {ρ:Operand→Value} {o:Oper} {w:World} {I:Nat→Prop} {T:Tbl} {X Y:AV} {r:List Prop×AV}
  (ho:o.op=.binOp op xT x y yT) (hx:Rep w I T (ρ x) X) (hy:Rep w I T (ρ y) Y) (h:JU P op xT X Y=some r) (hv:∀ p∈r.1,p):jE P ρ o w I T r.2:=by
 unfold JU at h
 split at h
 ·rename_i k a k' b
  generalize hX:ρ x=vx at hx
  generalize hY:ρ y=vy at hy
  cases hx with
  | int wa =>
  cases hy with
  | int wb =>
  split at h
  ·injection h with h;subst h
   have h0:0≤b:=hv _ (by simp)
   exact .same (pK ho hX hY (nU trivial) (by simp [binOp,Op.shift,pL,Int.not_lt.2 h0])) (.int (aN _ _))
  ·injection h with h;subst h
   have h0:0≤b:=hv _ (by simp)
   exact .same (pK ho hX hY (nU trivial) (by simp [binOp,Op.shift,qD,Int.not_lt.2 h0])) (.int (zD5 _ _ _ wa))
  ·rename_i hns hnr
   cases hk:mK k k'
   ·rw [hk] at h;cases h
   ·rw [hk] at h
    have:=U0 hk
    subst this
    simp only [cond_true] at h
    obtain ⟨v,h1,h2⟩:=XI (P:=P) (xT:=xT) (w:=w) (I:=I) (T:=T) h hv wa
    exact .same (pK ho hX hY (nU trivial) h1) h2
 ·rename_i a b
  generalize hX:ρ x=vx at hx
  generalize hY:ρ y=vy at hy
  cases hx with
  | bool =>
  cases hy with
  | bool =>
  cases hb:HF P xT
  ·rw [hb] at h;cases h
  ·rw [hb] at h
   simp only [cond_true] at h
   have ht:=X3 hb
   split at h<;>first | (injection h with h;subst h) | cases h
   ·exact .same (pK ho hX hY (nU trivial) (run_eql_bool w xT a b ht)) .bool
   ·exact .same (pK ho hX hY (nU trivial) (run_neq_bool w xT a b ht)) .bool
 ·rename_i a b
  generalize hX:ρ x=vx at hx
  generalize hY:ρ y=vy at hy
  cases hx with
  | str ra la =>
  cases hy with
  | str rb lb =>
  have e1:=zBs ra rb
  have e2:=W7 ra rb
  split at h<;>first | (injection h with h;subst h) | cases h
  iterate 6 (exact .same (pK ho hX hY (nU trivial) (by simp only [binOp,Op.stringOp,e1,e2];rfl)) .bool)
  have h0:a.length+b.length≤9223372036854775807:=hv _ (by simp)
  refine .same (pK (v:=.string (w9 (a++b))) ho hX hY (nU trivial) ?_) (.str (fun z hz=>?_) (by rw [qC];simpa using h0))
  ·have:¬ ((((w9 a).size+(w9 b).size:Nat):Int)>IntKind.i64.max):=by
    rw [dY,dY]
    have:IntKind.i64.max=9223372036854775807:=by decide
    omega
   have hcat:w9 a++w9 b=w9 (a++b):=by
    simp only [w9,List.map_append]
    apply WideShapes.bytes_inj
    simp
   simp only [binOp,Op.stringOp,this,hcat]
   simp
  ·rcases List.mem_append.1 hz with h | h
   ·exact ra z h
   ·exact rb z h
 ·rename_i f sz l
  split at h
  case h_2=>cases h
  cases hs:rQ P xT
  ·rw [hs] at h;cases h
  rw [hs] at h;injection h with h;subst h
  obtain ⟨e,he⟩:=SK hs
  generalize hX:ρ x=vx at hx
  generalize hY:ρ y=vy at hy
  have hy':vy=.slice none 0 0:=by
   generalize hn:AV.nilsl=n at hy
   cases hy<;>first | rfl | cases hn
  subst hy'
  cases hx with
  | sl0 h1 h2=>exact .same (pK ho hX hY (nU trivial) (Lib.run_eql_slice_nil w xT e _ _ _ _ _ he)) (.nb fun _=>rfl)
  | sl g h1=>exact .same (pK ho hX hY (nU trivial) (Lib.run_eql_slice_nil w xT e _ _ _ _ _ he)) (.nb fun h=>by cases h)
 ·rename_i n l
  split at h
  case h_2=>cases h
  cases hs:E6 P xT
  ·rw [hs] at h;cases h
  rw [hs] at h;injection h with h;subst h
  obtain ⟨k,e,he⟩:=WA hs
  generalize hX:ρ x=vx at hx
  generalize hY:ρ y=vy at hy
  have hy':vy=.map none:=by
   cases hy;rfl
  subst hy'
  cases hx with
  | fm0=>exact .same (pK ho hX hY (nU trivial) (RI w xT k e _ he)) .bool
  | fm gk gv h1=>exact .same (pK ho hX hY (nU trivial) (RI w xT k e _ he)) .bool
 ·cases h
def vun (op:UnOp) (x:AV):Option (List Prop×AV) :=
 match op,x with
 | .neg,.int k n=>some ([],.int k (k.wrap (0 - n)))
 | .xor,.int k n=>some ([],.int k (tX k (if k.signed then -1 else k.max) n))
 | .not,.bool b=>some ([],.bool !b)
 | _,_=>none
theorem zEo {P:Program} {op:UnOp} {xT:TypeId} {x:Operand} {ρ:Operand→Value} {o:Oper} {w:World} {I:Nat→Prop} {T:Tbl} {X:AV} {r:List Prop×AV}
  (ho:o.op=.unOp op xT x) (hx:Rep w I T (ρ x) X) (h:vun op X=some r):jE P ρ o w I T r.2:=by
 unfold vun at h
 generalize hX:ρ x=vx at hx
 split at h<;>first | (injection h with h;subst h) | cases h
 ·cases hx with
  | int wa=>exact .same (by simp [execOp,ho,hX,Op.unary,Op.intArith]) (.int (aN _ _))
 ·cases hx with
  | int wa=>exact .same (by simp [execOp,ho,hX,Op.unary,Op.intBits,tX]) (.int (aN _ _))
 ·cases hx with
  | bool=>exact .same (by simp [execOp,ho,hX,Op.unary]) .bool
end Go.Ab

/- Operations that read memory or take values apart. -/
namespace Go.Ab
open Go
def vD (P:Program) (t:TypeId):Bool:=match P.underlying t with | some (.struct _)=>true | some (.array _ _)=>true | _=>false
def vR (P:Program) (t:TypeId):Bool:=(P.underlying t).isSome&&(P.info? t).isSome
def szT (P:Program) (t:TypeId):Nat:=match P.info? t with | some i=>i.size | none=>0
theorem HE {P:Program} {t:TypeId} (h:vR P t=true) (w:World):(isAgg t).run P w=.ok (vD P t) w:=by
 simp only [vR,zba,Option.isSome_iff_exists] at h
 obtain ⟨⟨d,hd⟩,_⟩:=h
 simp only [isAgg,Sem.run_bind,run_underlying hd,Result.andThen_ok,vD,hd]
 cases d<;>rfl
theorem jA {P:Program} {t:TypeId} (h:vR P t=true) (w:World):(sizeOf t).run P w=.ok (szT P t) w:=by
 simp only [vR,zba,Option.isSome_iff_exists] at h
 obtain ⟨_,⟨i,hi⟩⟩:=h
 simp [sizeOf,typeInfo,hi,szT]
def aX (P:Program) (t:TypeId) (cs:List AV) (off:Nat):Option AV :=
 bif vD P t then
  bif Nat.ble (off+szT P t) cs.length then some (.agg ((cs.drop off).take (szT P t))) else none
 else cs[off]?
theorem rL {P:Program} {t:TypeId} {cs:List AV} {off:Nat} {av:AV} (h:aX P t cs off=some av) (h1:∀ c∈cs,c.one=true) :
  (vD P t=true→av=.agg av.cells∧av.cells.length=szT P t)∧(vD P t=false→av.cells=[av])∧(∀ j c,av.cells[j]?=some c→cs[off+j]?=some c)∧(∀ c∈av.cells,c.one=true):=by
 unfold aX at h
 cases ha:vD P t
 ·rw [ha] at h
  simp only [cond_false] at h
  have hm:=List.mem_of_getElem? h
  have h1':=h1 _ hm
  have hc:av.cells=[av]:=by cases av<;>simp_all [AV.one,AV.cells]
  refine ⟨by simp,fun _=>hc,?_,?_⟩
  ·intro j c hj
   rw [hc] at hj
   cases j with
   | zero=>simp at hj;subst hj;simpa using h
   | succ j=>simp at hj
  ·rw [hc];simpa using h1'
 ·rw [ha] at h
  simp only [cond_true] at h
  cases hb:Nat.ble (off+szT P t) cs.length
  ·rw [hb] at h;cases h
  ·rw [hb] at h
   injection h with h
   subst h
   have hle:=zle hb
   refine ⟨fun _=>⟨rfl,by simp [AV.cells];omega⟩,by simp,?_,?_⟩
   ·intro j c hj
    simp only [AV.cells,List.getElem?_take,List.getElem?_drop] at hj
    split at hj
    ·exact hj
    ·cases hj
   ·intro c hc
    exact h1 c (List.mem_of_mem_drop (List.mem_of_mem_take hc))
theorem LH {P:Program} {t:TypeId} {w:World} {b off:Nat} {av:AV} {g:Nat→Value} (hk:vR P t=true)
  (ha:vD P t=true→av=.agg av.cells∧av.cells.length=szT P t) (hn:vD P t=false→av.cells=[av])
  (hc:∀ j c,av.cells[j]?=some c→w.cell? ⟨b,off+j,none⟩=some (g j)) {I:Nat→Prop} {T:Tbl}
  (h1:∀ c∈av.cells,c.one=true)
  (hr:∀ j c,av.cells[j]?=some c→Rep w I T (g j) c):∃ v,(loadVar t ⟨b,off,none⟩).run P w=.ok v w∧Rep w I T v av:=by
 have hadd:∀ j,(⟨b,off,none⟩:Addr).add j=⟨b,off+j,none⟩:=fun j=>by unfold Addr.add;split<;>simp_all
 cases hA:vD P t
 ·have hcs:=hn hA
  have h0:=hc 0 av (by rw [hcs];rfl)
  refine ⟨g 0,?_,hr 0 av (by rw [hcs];rfl)⟩
  have h0':w.cell? ⟨b,off,none⟩=some (g 0):=by simpa using h0
  simp only [loadVar,Sem.run_bind,HE hk,Result.andThen_ok,hA]
  simp [run_load,h0']
 ·obtain ⟨hav,hl⟩:=ha hA
  have hload:=run_loadCells (P:=P) w ⟨b,off,none⟩ (szT P t) g (fun j hj=>by
   rw [hadd]
   have:j<av.cells.length:=by omega
   exact hc j av.cells[j] (List.getElem?_eq_getElem this))
  refine ⟨.agg ((List.range (szT P t)).map g).toArray,?_,?_⟩
  ·simp only [loadVar,Sem.run_bind,HE hk,jA hk,Result.andThen_ok,hA,if_true,hload]
   rfl
  ·rw [hav]
   refine .agg (by simp [hl]) (by simpa [AV.cells] using h1) ?_
   intro j c hj
   have hlt:j<szT P t:=by
    rcases zlg j (szT P t) with h | h
    ·exact h
    ·rw [List.getElem?_eq_none (by rw [hl];exact h)] at hj;cases hj
   have:(((List.range (szT P t)).map g).toArray).getD j undef=g j:=by
    simp [Array.getD_eq_getD_getElem?,hlt]
   rw [this]
   exact hr j c hj
def DG (P:Program) (s:TypeId) (f:Nat):Option Field :=
 match P.underlying s with
 | some (.struct fs)=>fs[f]?
 | _=>none
def N2 (P:Program) (s:TypeId) (x:AV) (f:Nat):Option (List Prop×AV) :=
 match DG P s f with
 | none=>none
 | some fd =>
  bif vR P fd.type&&!(Nat.beq (szT P fd.type) 0) then
   match x with
   | .ref (.agg cs)=>match aX P fd.type cs fd.offset with
    | some av=>some ([],.ref av)
    | none=>none
   | .ptr id sz i off=>some ([],.ptr id sz i (off+fd.offset))
   | _=>none
  else none
theorem TG {P:Program} {s:TypeId} {f:Nat} {fd:Field} {b off:Nat} {w:World} (hf:DG P s f=some fd) (hk:vR P fd.type=true) (hz:szT P fd.type≠0) :
  (Instr.fieldAt s (.pointer (some ⟨b,off,none⟩)) f).run P w=.ok (.pointer (some ⟨b,off+fd.offset,none⟩)) w:=by
 unfold DG at hf
 split at hf
 ·rename_i fs hu
  have hadd:(⟨b,off,none⟩:Addr).add fd.offset=⟨b,off+fd.offset,none⟩:=by unfold Addr.add;split<;>simp_all
  simp only [Instr.fieldAt,Sem.run_bind,run_underlying hu,Result.andThen_ok,hf,Instr.sureAddr,Sem.run_pure,fieldPlace,jA hk,if_neg hz,hadd]
 ·cases hf
theorem WP {P:Program} {s:TypeId} {x:Operand} {f:Nat} {ρ:Operand→Value} {o:Oper} {w:World} {I:Nat→Prop} {T:Tbl} {X:AV} {r:List Prop×AV}
  (ho:o.op=.fieldAddr s x f) (hx:Rep w I T (ρ x) X) (h:N2 P s X f=some r):jE P ρ o w I T r.2:=by
 unfold N2 at h
 split at h
 ·cases h
 rename_i fd hf
 cases hc:(vR P fd.type&&!(Nat.beq (szT P fd.type) 0))
 ·rw [hc] at h;cases h
 rw [hc] at h
 simp only [zba,Bool.not_eq_true'] at hc
 have hz:szT P fd.type≠0:=fun e=>by rw [e] at hc;simp at hc
 simp only [cond_true] at h
 generalize hX:ρ x=vx at hx
 split at h
 ·rename_i cs
  cases hx with
  | ref g hI hb h1 h2 h3 =>
  rename_i b off
  split at h
  ·rename_i av hav
   injection h with h;subst h
   obtain ⟨_,_,hsub,hone⟩:=rL hav h1
   refine .same (v:=.pointer (some ⟨b,off+fd.offset,none⟩)) ?_ (.ref (fun j=>g (fd.offset+j)) hI hb hone ?_ ?_)
   ·simp only [execOp,ho,hX,Sem.run_bind,TG hf hc.1 hz,Result.andThen_ok];rfl
   ·intro j c hj
    rw [Nat.add_assoc]
    exact h2 _ _ (hsub j c hj)
   ·intro j c hj
    exact h3 _ _ (hsub j c hj)
  ·cases h
 ·injection h with h;subst h
  cases hx with
  | ptr hT ho' =>
  rename_i o' b' c'
  refine .same (v:=.pointer (some ⟨b',o'+fd.offset,none⟩)) ?_ (.ptr hT (by omega))
  simp only [execOp,ho,hX,Sem.run_bind,TG hf hc.1 hz,Result.andThen_ok];rfl
 ·cases h
theorem US {P:Program} {t:TypeId} {w:World} {cs:List AV} {vs:Array Value} {off:Nat} {av:AV} {I:Nat→Prop} {T:Tbl} (hk:vR P t=true)
  (h1:∀ c∈cs,c.one=true) (hs:vs.size=cs.length) (hr:∀ j c,cs[j]?=some c→Rep w I T (vs.getD j undef) c) (h:aX P t cs off=some av) :
  ∃ v,(part t vs off).run P w=.ok v w∧Rep w I T v av:=by
 obtain ⟨ha,hn,hsub,hone⟩:=rL h h1
 cases hA:vD P t
 ·have hcs:=hn hA
  have h0:=hsub 0 av (by rw [hcs];rfl)
  simp only [Nat.add_zero] at h0
  have hlt:off<vs.size:=by
   rcases zlg off vs.size with h' | h'
   ·exact h'
   ·rw [List.getElem?_eq_none (by omega)] at h0;cases h0
  refine ⟨vs[off],?_,?_⟩
  ·simp only [part,Sem.run_bind,HE hk,Result.andThen_ok,hA]
   simp [hlt]
  ·have:=hr _ _ h0
   simpa [Array.getD_eq_getD_getElem?,hlt] using this
 ·obtain ⟨hav,hl⟩:=ha hA
  have hle:off+szT P t≤vs.size:=by
   unfold aX at h
   rw [hA] at h
   simp only [cond_true] at h
   cases hb:Nat.ble (off+szT P t) cs.length
   ·rw [hb] at h;cases h
   ·have:=zle hb;omega
  refine ⟨.agg (vs.extract off (off+szT P t)),?_,?_⟩
  ·simp only [part,Sem.run_bind,HE hk,jA hk,Result.andThen_ok,hA,if_true]
   rfl
  ·rw [hav]
   refine .agg (by simp [hl];omega) (by simpa [AV.cells] using hone) ?_
   intro j c hj
   have hlt:j<szT P t:=by
    rcases zlg j (szT P t) with h | h
    ·exact h
    ·rw [List.getElem?_eq_none (by rw [hl];exact h)] at hj;cases hj
   have e:(vs.extract off (off+szT P t)).getD j undef=vs.getD (off+j) undef:=by
    simp only [Array.getD_eq_getD_getElem?,Array.getElem?_extract]
    rw [if_pos (by omega)]
   rw [e]
   exact hr _ _ (hsub j c hj)
def KY (P:Program) (s:TypeId) (x:AV) (f:Nat):Option (List Prop×AV) :=
 match DG P s f with
 | none=>none
 | some fd =>
  bif vR P fd.type then
   match x with
   | .agg cs=>match aX P fd.type cs fd.offset with
    | some av=>some ([],av)
    | none=>none
   | _=>none
  else none
theorem zDZ {P:Program} {s:TypeId} {x:Operand} {f:Nat} {ρ:Operand→Value} {o:Oper} {w:World} {I:Nat→Prop} {T:Tbl} {X:AV} {r:List Prop×AV}
  (ho:o.op=.field s x f) (hx:Rep w I T (ρ x) X) (h:KY P s X f=some r):jE P ρ o w I T r.2:=by
 unfold KY at h
 split at h
 ·cases h
 rename_i fd hf
 cases hc:vR P fd.type
 ·rw [hc] at h;cases h
 rw [hc] at h
 simp only [cond_true] at h
 generalize hX:ρ x=vx at hx
 split at h
 ·rename_i cs
  cases hx with
  | agg hs h1 h2 =>
  rename_i vs
  split at h
  ·rename_i av hav
   injection h with h;subst h
   obtain ⟨v,hrun,hrep⟩:=US hc h1 hs h2 hav
   refine .same (v:=v) ?_ hrep
   unfold DG at hf
   split at hf
   ·rename_i fs hu
    simp only [execOp,ho,hX,Instr.field,Sem.run_bind,run_underlying hu,Result.andThen_ok,hf,asAgg,Sem.run_pure,hrun]
   ·cases hf
  ·cases h
 ·cases h
def MI (P:Program) (t:TypeId) (x:AV):Option (List Prop×AV) :=
 match x with
 | .ref av =>
  bif vR P t then
   bif vD P t then
    match av with
    | .agg cs=>bif Nat.beq cs.length (szT P t) then some ([],.agg cs) else none
    | _=>none
   else
    match av with
    | .agg _=>none
    | av=>some ([],av)
  else none
 | _=>none
theorem YO {P:Program} {t:TypeId} {x:Operand} {ρ:Operand→Value} {o:Oper} {w:World} {I:Nat→Prop} {T:Tbl} {X:AV} {r:List Prop×AV}
  (ho:o.op=.load t x) (hx:Rep w I T (ρ x) X) (h:MI P t X=some r):jE P ρ o w I T r.2:=by
 unfold MI at h
 generalize hX:ρ x=vx at hx
 split at h
 ·rename_i av
  cases hk:vR P t
  ·rw [hk] at h;cases h
  rw [hk] at h
  simp only [cond_true] at h
  cases hx with
  | ref g hI hb h1 h2 h3 =>
  rename_i b off
  have key:∀ {av':AV},av'=av→(vD P t=true→av=.agg av.cells∧av.cells.length=szT P t)→(vD P t=false→av.cells=[av])→jE P ρ o w I T av':=by
   intro av' e ha hn
   subst e
   obtain ⟨v,hrun,hrep⟩:=LH hk ha hn h2 h1 (fun j c hj=>(h3 j c hj).mono (Nat.le_refl _) (fun _ _ _=>rfl) (fun _ h _=>h) (T':=T) (fun i p hp=>by simp [Tbl.empty] at hp))
   refine .same (v:=v) ?_ hrep
   simp only [execOp,ho,hX,Instr.loadAt,Instr.sureAddr,Sem.run_bind,Sem.run_pure,Result.andThen_ok,hrun]
  cases hA:vD P t
  ·rw [hA] at h
   simp only [cond_false] at h
   split at h
   ·cases h
   ·rename_i hna
    injection h with h;subst h
    refine key rfl (by rw [hA];simp) (fun _=>?_)
    cases av<;>first | rfl | exact (hna _ rfl).elim
  ·rw [hA] at h
   simp only [cond_true] at h
   split at h
   ·rename_i cs
    cases hb:Nat.beq cs.length (szT P t)
    ·rw [hb] at h;cases h
    ·rw [hb] at h
     injection h with h;subst h
     exact key rfl (fun _=>⟨rfl,x5.1 hb⟩) (by rw [hA];simp)
   ·cases h
 ·cases h
end Go.Ab

/- Places in slices and arrays, parts of slices and strings, lengths. -/
namespace Go.Ab
open Go
def bM (l:List AV) (i:Int):Option AV:=if 0≤i then l[i.toNat]? else none
def EE (l:List Int) (i:Int):Option Int:=if 0≤i then l[i.toNat]? else none
theorem zDP {l:List AV} {i:Int} {av:AV} (h:bM l i=some av):0≤i∧i<l.length∧l[i.toNat]?=some av:=by
 unfold bM at h
 split at h
 ·rename_i h0
  have:i.toNat<l.length:=by
   rcases zlg i.toNat l.length with h' | h'
   ·exact h'
   ·rw [List.getElem?_eq_none h'] at h;cases h
  exact ⟨h0,by omega,h⟩
 ·cases h
theorem zDj {l:List Int} {i:Int} {c:Int} (h:EE l i=some c):0≤i∧i<l.length∧l[i.toNat]?=some c:=by
 unfold EE at h
 split at h
 ·rename_i h0
  have:i.toNat<l.length:=by
   rcases zlg i.toNat l.length with h' | h'
   ·exact h'
   ·rw [List.getElem?_eq_none h'] at h;cases h
  exact ⟨h0,by omega,h⟩
 ·cases h
theorem aE (b off j:Nat):(⟨b,off,none⟩:Addr).add j=⟨b,off+j,none⟩:=by unfold Addr.add;split<;>simp_all
def KO (P:Program) (t:TypeId) (x ix:AV) (h:xN):Option (List Prop×AV) :=
 match ix with
 | .int _ i =>
  match P.underlying t with
  | some (.slice e) =>
   bif vR P e then
    match x with
    | .sl _ sz l=>bif Nat.beq sz (szT P e) then some ([bM l i=some h.av],.ref h.av) else none
    | .own id n=>some ([0≤i,i<n],.ptr id (szT P e) i.toNat 0)
    | .part id sz lo hi=>bif Nat.beq sz (szT P e) then some ([0≤i,i<(hi:Int) - lo],.ptr id sz (lo+i.toNat) 0) else none
    | _=>none
   else none
  | some (.array n e) =>
   bif vR P e then
    match x with
    | .ref (.agg cs) =>
     match aX P e cs (i.toNat * szT P e) with
     | some av=>some ([0≤i,i<n],.ref av)
     | none=>none
    | .ptr id sz j off =>
     bif h.b then
      bif Nat.beq j 0&&Nat.beq off 0 then some ([0≤i,i<n],.ptr id (szT P e) i.toNat 0) else none
     else some ([0≤i,i<n],.ptr id sz j (off+i.toNat * szT P e))
    | _=>none
   else none
  | _=>none
 | _=>none
theorem KH {P:Program} {t e:TypeId} {k:IntKind} {i:Int} {b off n cap:Nat} {w:World} (hu:P.underlying t=some (.slice e)) (hk:vR P e=true)
  (h0:0≤i) (h1:i<n):(Instr.indexAt t (.slice (some ⟨b,off,none⟩) n cap) (.int k i)).run P w=.ok (.pointer (some ⟨b,off+i.toNat * szT P e,none⟩)) w:=by
 simp [Instr.indexAt,asIntOf,run_underlying hu,h0,h1,jA hk,aE]
theorem LQ {P:Program} {t e:TypeId} {k:IntKind} {i:Int} {b off n:Nat} {w:World} (hu:P.underlying t=some (.array n e)) (hk:vR P e=true)
  (h0:0≤i) (h1:i<n):(Instr.indexAt t (.pointer (some ⟨b,off,none⟩)) (.int k i)).run P w=.ok (.pointer (some ⟨b,off+i.toNat * szT P e,none⟩)) w:=by
 simp [Instr.indexAt,asIntOf,run_underlying hu,h0,h1,jA hk,aE,Instr.sureAddr]
theorem XD {P:Program} {t:TypeId} {x ix:Operand} {ρ:Operand→Value} {o:Oper} {w:World} {I:Nat→Prop} {T:Tbl} {X IX:AV} {hn:xN} {r:List Prop×AV}
  (ho:o.op=.indexAddr t x ix) (hx:Rep w I T (ρ x) X) (hix:Rep w I T (ρ ix) IX) (h:KO P t X IX hn=some r) (hv:∀ p∈r.1,p):jE P ρ o w I T r.2:=by
 unfold KO at h
 generalize hX:ρ x=vx at hx
 generalize hIX:ρ ix=vi at hix
 split at h
 ·rename_i k i
  cases hix with
  | int wi =>
  split at h
  ·rename_i e hu
   cases hk:vR P e
   ·rw [hk] at h;cases h
   rw [hk] at h
   simp only [cond_true] at h
   split at h
   ·rename_i full sz l
    cases hb:Nat.beq sz (szT P e)
    ·rw [hb] at h;cases h
    rw [hb] at h
    injection h with h;subst h
    have hsz:=x5.1 hb
    have hidx:bM l i=some hn.av:=hv _ (by simp)
    obtain ⟨h0,h1,hget⟩:=zDP hidx
    cases hx with
    | sl0=>simp at h1;omega
    | sl g e1 e2 e3 e4 e5 e6 e7 e8 e9 e10 =>
    rename_i b off cap n
    refine .same (v:=.pointer (some ⟨b,off+i.toNat * szT P e,none⟩)) ?_ (.ref (g i.toNat) e7 e8 ?_ ?_ ?_)
    ·simp only [execOp,ho,hX,hIX,Sem.run_bind,KH (n:=n) hu hk h0 (by omega),Result.andThen_ok];rfl
    ·exact e6 _ (List.mem_of_getElem? hget)
    ·intro j c hj
     rw [← hsz]
     exact e9 _ _ _ _ hget hj
    ·intro j c hj
     exact e10 _ _ _ _ hget hj
   ·rename_i id n
    injection h with h;subst h
    have h0:0≤i:=hv _ (by simp)
    have h1:i<n:=hv _ (by simp)
    cases hx with
    | ownNil=>simp at h1;omega
    | own hT hn1 hn2 =>
    rename_i b cap
    refine .same (v:=.pointer (some ⟨b,0+i.toNat * szT P e,none⟩)) ?_ (.ptr hT (by omega))
    simp only [execOp,ho,hX,hIX,Sem.run_bind,KH hu hk h0 h1,Result.andThen_ok];rfl
   ·rename_i id sz lo hi
    cases hb:Nat.beq sz (szT P e)
    ·rw [hb] at h;cases h
    rw [hb] at h
    injection h with h;subst h
    have hsz:=x5.1 hb
    have h0:0≤i:=hv _ (by simp)
    have h1:i<(hi:Int) - lo:=hv _ (by simp)
    cases hx with
    | part0=>omega
    | part hT p1 p2 p3 p4 p5 p6 =>
    rename_i o n c b cap
    refine .same (v:=.pointer (some ⟨b,o+i.toNat * szT P e,none⟩)) ?_ (.ptr hT (by rw [← hsz,p6,Nat.add_zero,Nat.add_mul]))
    simp only [execOp,ho,hX,hIX,Sem.run_bind,KH (n:=n) hu hk h0 (by omega),Result.andThen_ok];rfl
   ·cases h
  ·rename_i n e hu
   cases hk:vR P e
   ·rw [hk] at h;cases h
   rw [hk] at h
   simp only [cond_true] at h
   split at h
   ·rename_i cs
    split at h
    ·rename_i av hav
     injection h with h;subst h
     have h0:0≤i:=hv _ (by simp)
     have h1:i<n:=hv _ (by simp)
     cases hx with
     | ref g hI hb e1 e2 e3 =>
     rename_i b off
     obtain ⟨_,_,hsub,hone⟩:=rL hav e1
     refine .same (v:=.pointer (some ⟨b,off+i.toNat * szT P e,none⟩)) ?_ (.ref (fun j=>g (i.toNat * szT P e+j)) hI hb hone ?_ ?_)
     ·simp only [execOp,ho,hX,hIX,Sem.run_bind,LQ hu hk h0 h1,Result.andThen_ok];rfl
     ·intro j c hj
      rw [Nat.add_assoc]
      exact e2 _ _ (hsub j c hj)
     ·intro j c hj
      exact e3 _ _ (hsub j c hj)
    ·cases h
   ·rename_i id sz j off
    cases hx with
    | ptr hT ho' =>
    rename_i o b cap
    cases hb:hn.b
    ·rw [hb] at h
     injection h with h;subst h
     have h0:0≤i:=hv _ (by simp)
     have h1:i<n:=hv _ (by simp)
     refine .same (v:=.pointer (some ⟨b,o+i.toNat * szT P e,none⟩)) ?_ (.ptr hT (by omega))
     simp only [execOp,ho,hX,hIX,Sem.run_bind,LQ hu hk h0 h1,Result.andThen_ok];rfl
    ·rw [hb] at h
     simp only [cond_true] at h
     cases hz:(Nat.beq j 0&&Nat.beq off 0)
     ·rw [hz] at h;cases h
     rw [hz] at h
     simp only [zba] at hz
     have z1:=x5.1 hz.1
     have z2:=x5.1 hz.2
     injection h with h;subst h
     have h0:0≤i:=hv _ (by simp)
     have h1:i<n:=hv _ (by simp)
     refine .same (v:=.pointer (some ⟨b,o+i.toNat * szT P e,none⟩)) ?_ (.ptr hT (by rw [ho',z1,z2];omega))
     simp only [execOp,ho,hX,hIX,Sem.run_bind,LQ hu hk h0 h1,Result.andThen_ok];rfl
   ·cases h
  ·cases h
 ·cases h
def NG (P:Program) (t:TypeId) (x ix:AV) (h:xN):Option (List Prop×AV) :=
 match ix with
 | .int _ i =>
  match P.underlying t,x with
  | some .string,.str l=>some ([EE l i=some h.z],.int .u8 h.z)
  | some (.array n e),.agg cs =>
   bif vR P e then
    match aX P e cs (i.toNat * szT P e) with
    | some av=>some ([0≤i,i<n],av)
    | none=>none
   else none
  | _,_=>none
 | _=>none
theorem TF {x:Int} (h:0≤x∧x<256):IntKind.u8.wrap x=x:=by
 apply iD;simp only [IntKind.bits,IntKind.signed];simp;omega
theorem zD4 {l:List Int} {i:Nat} {c:Int} (h:l[i]?=some c) (hr:0≤c∧c<256):∃ b:UInt8,(w9 l)[i]?=some b∧(b.toNat:Int)=c:=by
 refine ⟨UInt8.ofNat c.toNat,?_,?_⟩
 ·have hlt:i<l.length:=by
   rcases zlg i l.length with h' | h'
   ·exact h'
   ·rw [List.getElem?_eq_none h'] at h;cases h
  have hs:i<(w9 l).size:=by rw [dY];exact hlt
  have e:(w9 l)[i]?=(w9 l).data[i]?:=rfl
  rw [e]
  simp [w9,h]
 ·simp only [UInt8.toNat_ofNat'];omega
theorem WF {P:Program} {t:TypeId} {x ix:Operand} {ρ:Operand→Value} {o:Oper} {w:World} {I:Nat→Prop} {T:Tbl} {X IX:AV} {hn:xN} {r:List Prop×AV}
  (ho:o.op=.index t x ix) (hx:Rep w I T (ρ x) X) (hix:Rep w I T (ρ ix) IX) (h:NG P t X IX hn=some r) (hv:∀ p∈r.1,p):jE P ρ o w I T r.2:=by
 unfold NG at h
 generalize hX:ρ x=vx at hx
 generalize hIX:ρ ix=vi at hix
 split at h
 ·rename_i k i
  cases hix with
  | int wi =>
  split at h
  ·rename_i l hu
   injection h with h;subst h
   have hidx:EE l i=some hn.z:=hv _ (by simp)
   obtain ⟨h0,h1,hget⟩:=zDj hidx
   cases hx with
   | str hr hl =>
   have hc:=hr _ (List.mem_of_getElem? hget)
   obtain ⟨b,hb1,hb2⟩:=zD4 hget hc
   refine .same (v:=.int .u8 hn.z) ?_ (.int (TF hc))
   simp [execOp,ho,hX,hIX,Instr.index,asIntOf,run_underlying hu,h0,hb1,hb2]
  ·rename_i n e cs hu
   cases hk:vR P e
   ·rw [hk] at h;cases h
   rw [hk] at h
   simp only [cond_true] at h
   split at h
   ·rename_i av hav
    injection h with h;subst h
    have h0:0≤i:=hv _ (by simp)
    have h1:i<n:=hv _ (by simp)
    cases hx with
    | agg hs e1 e2 =>
    obtain ⟨v,hrun,hrep⟩:=US (w:=w) hk e1 hs e2 hav
    refine .same (v:=v) ?_ hrep
    simp [execOp,ho,hX,hIX,Instr.index,asIntOf,run_underlying hu,h0,h1,jA hk,hrun]
   ·cases h
  ·cases h
 ·cases h
/-! Lengths. -/
def OB (P:Program) (t:TypeId) (x:AV) (h:xN):Option (List Prop×AV) :=
 match P.underlying t,x with
 | some .string,.str l=>some ([],.int .i64 l.length)
 | some (.slice _),.sl _ _ l=>some ([l.length=h.n],.int .i64 h.n)
 | some (.slice _),.own _ n=>some ([],.int .i64 n)
 | some (.slice _),.part _ _ lo hi=>some ([hi - lo=h.n],.int .i64 h.n)
 | some (.array n _),_=>bif Nat.ble n 9223372036854775807 then some ([],.int .i64 n) else none
 | _,_=>none
theorem oB {n:Nat} (h:n≤9223372036854775807):IntKind.i64.wrap (n:Int)=n:=by
 apply iD;simp only [IntKind.bits,IntKind.signed];simp;omega
theorem zC5 {P:Program} {t:TypeId} {x:Operand} {ρ:Operand→Value} {o:Oper} {w:World} {I:Nat→Prop} {T:Tbl} {X:AV} {hn:xN} {r:List Prop×AV}
  (ho:o.op=.call { callee:=.builtin .len,args:=#[x],argTypes:=#[t] }) (hx:Rep w I T (ρ x) X) (h:OB P t X hn=some r) (hv:∀ p∈r.1,p):jE P ρ o w I T r.2:=by
 unfold OB at h
 generalize hX:ρ x=vx at hx
 have hrun:∀ (v:Value),(Builtin.len_ #[t] o.type #[vx]).run P w=.ok v w→(execOp ρ o).run P w=.ok (.value v) w:=fun v hv=>by
  simp [execOp,ho,resolve,hX,invoke,builtin,hv]
 split at h
 ·rename_i l hu
  injection h with h;subst h
  cases hx with
  | str hr hl =>
  exact .same (hrun (.int .i64 l.length) (by simp [Builtin.len_,run_underlying hu,goInt,dY])) (.int (oB (by rw [qC] at hl;exact hl)))
 ·rename_i e full sz l hu
  injection h with h;subst h
  have hl:l.length=hn.n:=hv _ (by simp)
  cases hx with
  | sl0 hc hf =>
   simp at hl
   exact .same (hrun (.int .i64 0) (by simp [Builtin.len_,run_underlying hu,goInt])) (by rw [← hl];exact .int (by decide))
  | sl g e1 e2 e3 e4 e5 e6 e7 e8 e9 e10 =>
   rename_i b off cap n
   exact .same (hrun (.int .i64 n) (by simp [Builtin.len_,run_underlying hu,goInt])) (by rw [← hl,← e1];exact .int (oB (by rw [qC] at e3;omega)))
 ·rename_i e id n hu
  injection h with h;subst h
  cases hx with
  | ownNil=>exact .same (hrun (.int .i64 0) (by simp [Builtin.len_,run_underlying hu,goInt])) (.int (by decide))
  | own hT h1 h2=>exact .same (hrun (.int .i64 n) (by simp [Builtin.len_,run_underlying hu,goInt])) (.int (oB (by rw [qC] at h2;omega)))
 ·rename_i e id sz lo hi hu
  injection h with h;subst h
  have hl:hi - lo=hn.n:=hv _ (by simp)
  cases hx with
  | part0 =>
   exact .same (hrun (.int .i64 0) (by simp [Builtin.len_,run_underlying hu,goInt])) (by rw [← hl];simp;exact .int (by decide))
  | part hT p1 p2 p3 p4 p5 p6 =>
   rename_i o' n c b cap
   exact .same (hrun (.int .i64 n) (by simp [Builtin.len_,run_underlying hu,goInt])) (by rw [← hl,← p2];exact .int (oB (by rw [qC] at p5;omega)))
 ·rename_i n e hu
  cases hb:Nat.ble n 9223372036854775807
  ·rw [hb] at h;cases h
  rw [hb] at h
  injection h with h;subst h
  exact .same (hrun (.int .i64 n) (by simp [Builtin.len_,run_underlying hu,goInt])) (.int (oB (zle hb)))
 ·cases h
/-! The least and the greatest of two integers. -/
def nZ (x y:Int):Int:=if y>x then y else x
def aW (x y:Int):Int:=if y<x then y else x
def EQ (b:Builtin) (x y:AV):Option (List Prop×AV) :=
 match x,y with
 | .int k a,.int k' c =>
  bif mK k k' then
   match b with
   | .max=>some ([],.int k (nZ a c))
   | .min=>some ([],.int k (aW a c))
   | _=>none
  else none
 | _,_=>none
theorem TQ {P:Program} {b:Builtin} {ts:Array TypeId} {x y:Operand} {ρ:Operand→Value} {o:Oper} {w:World} {I:Nat→Prop} {T:Tbl} {X Y:AV} {r:List Prop×AV}
  (ho:o.op=.call { callee:=.builtin b,args:=#[x,y],argTypes:=ts }) (hx:Rep w I T (ρ x) X) (hy:Rep w I T (ρ y) Y) (h:EQ b X Y=some r):jE P ρ o w I T r.2:=by
 unfold EQ at h
 generalize hX:ρ x=vx at hx
 generalize hY:ρ y=vy at hy
 split at h
 ·rename_i k a k' c
  cases hk:mK k k'
  ·rw [hk] at h;cases h
  rw [hk] at h
  have:=U0 hk
  subst this
  simp only [cond_true] at h
  cases hx with
  | int wa =>
  cases hy with
  | int wb =>
  split at h<;>first | (injection h with h;subst h) | cases h
  ·refine .same (v:=.int k (nZ a c)) (by simp [execOp,ho,resolve,hX,hY,invoke,builtin,Builtin.max_,Builtin.max2,nZ]) (.int ?_)
   unfold nZ;split<;>assumption
  ·refine .same (v:=.int k (aW a c)) (by simp [execOp,ho,resolve,hX,hY,invoke,builtin,Builtin.min_,Builtin.min2,aW]) (.int ?_)
   unfold aW;split<;>assumption
 ·cases h
end Go.Ab
