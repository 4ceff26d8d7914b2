/- A layer over the model: abstract values and states, and the rules by which the printed proofs go. No conditions. -/
import Derived.ProofKit
import Derived.Orders
import Derived.Deep.Draws
import Derived.Laws.AppendOwn
import Derived.Laws.OwnMore
import Derived.KernelRfl
import Derived.Maps.Keyed
/- The abstract values, what they say of memory, and the relation between an abstract state and a frame with its world. -/
namespace Go.Ab
theorem zle {n m:Nat} (h:Nat.ble n m=true):n≤m:=Nat.le_of_ble_eq_true h
theorem zbs {α β:Type} (a:α) (f:α→Option β):(some a).bind f=f a:=rfl
theorem zla {α:Type _} {a b:List α}:(a++b).length=a.length+b.length:=List.length_append
theorem zlc {α:Type _} {a:α} {b:List α}:(a::b).length=b.length+1:=rfl
theorem zls {α:Type _} {a:α}:[a].length=1:=rfl
theorem zdz {α:Type _} {a:List α}:a.drop 0=a:=rfl
theorem zba (a b:Bool):((a&&b)=true)=(a=true∧b=true):=Bool.and_eq_true a b
theorem zlg (a b:Nat):a<b∨a≥b:=Nat.lt_or_ge a b
theorem zft:false=!true:=rfl
theorem zk {α:Type} {a b:α} (h:a=b:=by kernel_rfl):a=b:=h
inductive AV where
 | junk
 | int (k:IntKind) (n:Int)
 | bool (b:Bool)
 | str (l:List Int)
 | agg (cs:List AV)
 | tuple (vs:List AV)
 | sl (full:Bool) (sz:Nat) (l:List AV)
 | ref (av:AV)
 | ptr (id sz i off:Nat)
 | own (id n:Nat)
 | part (id sz lo hi:Nat)
 | fn (f:FuncId) (caps:List AV)
 | nilp
 | nilsl
 | nb (l:List AV)
 | mp (id:Nat)
 | raw (b:Nat)
 | fm (n:Bool) (l:List (AV×AV))
 deriving Inhabited
def AV.cells:AV→List AV
 | .agg cs=>cs
 | v=>[v]
def AV.one:AV→Bool
 | .junk=>false
 | .agg _=>false
 | .tuple _=>false
 | _=>true
mutual
def AV.pure:AV→Bool
 | .junk=>true
 | .int ..=>true
 | .bool _=>true
 | .str _=>true
 | .agg cs=>AV.pures cs
 | .tuple cs=>AV.pures cs
 | .sl ..=>true
 | .ref _=>true
 | .ptr ..=>false
 | .own ..=>false
 | .part ..=>false
 | .fn _ cs=>AV.pures cs
 | .nilp=>true
 | .nilsl=>true
 | .nb _=>true
 | .mp _=>false
 | .raw _=>true
 | .fm ..=>true
def AV.pures:List AV→Bool
 | []=>true
 | a::r=>a.pure&&AV.pures r
end
def w8 (l:List Int):ByteArray:=⟨(l.map fun x=>UInt8.ofNat x.toNat).toArray⟩
inductive wV where
 | nil
 | at (b cap:Nat)
abbrev Tbl:=Nat→Option wV
def Tbl.empty:Tbl:=fun _=>Option.none
def Tbl.le (T T':Tbl):Prop:=∀ i p,T i=some p→T' i=some p
inductive Rep (w:World) (I:Nat→Prop):Tbl→Value→AV→Prop
 | junk {T v}:Rep w I T v .junk
 | int {T k n}:k.wrap n=n→Rep w I T (.int k n) (.int k n)
 | bool {T b}:Rep w I T (.bool b) (.bool b)
 | str {T l}:(∀ x∈l,0≤x∧x<256)→l.length≤maxLen→Rep w I T (.string (w8 l)) (.str l)
 | agg {T vs cs}:vs.size=cs.length→(∀ c∈cs,c.one=true)→(∀ j c,cs[j]?=some c→Rep w I T (vs.getD j undef) c)→Rep w I T (.agg vs) (.agg cs)
 | tuple {T vs cs}:vs.size=cs.length→(∀ j c,cs[j]?=some c→Rep w I T (vs.getD j undef) c)→Rep w I T (.tuple vs) (.tuple cs)
 | sl0 {T full sz a cap}:cap≤maxLen→(full=true→cap=0)→Rep w I T (.slice a 0 cap) (.sl full sz [])
 | sl {T full sz l b off cap n} (g:Nat→Nat→Value):n=l.length→n≤cap→cap≤maxLen→(full=true→cap=n) →
   (∀ av∈l,av.cells.length=sz)→(∀ av∈l,∀ c∈av.cells,c.one=true)→I b→b<w.heap.size →
   (∀ i av j c,l[i]?=some av→av.cells[j]?=some c→w.cell? ⟨b,off+i * sz+j,none⟩=some (g i j)) →
   (∀ i av j c,l[i]?=some av→av.cells[j]?=some c→Rep w I Tbl.empty (g i j) c) →
   Rep w I T (.slice (some ⟨b,off,none⟩) n cap) (.sl full sz l)
 | ref {T av b off} (g:Nat→Value):I b→b<w.heap.size→(∀ c∈av.cells,c.one=true) →
   (∀ j c,av.cells[j]?=some c→w.cell? ⟨b,off+j,none⟩=some (g j)) →
   (∀ j c,av.cells[j]?=some c→Rep w I Tbl.empty (g j) c) →
   Rep w I T (.pointer (some ⟨b,off,none⟩)) (.ref av)
 | ptr {T:Tbl} {id sz i off o b cap}:T id=some (.at b cap)→o=i * sz+off→Rep w I T (.pointer (some ⟨b,o,none⟩)) (.ptr id sz i off)
 | ownNil {T:Tbl} {id a}:T id=some .nil→Rep w I T (.slice a 0 0) (.own id 0)
 | own {T:Tbl} {id n b cap}:T id=some (.at b cap)→n≤cap→cap≤maxLen→Rep w I T (.slice (some ⟨b,0,none⟩) n cap) (.own id n)
 | part0 {T:Tbl} {id sz lo a c}:c≤maxLen→Rep w I T (.slice a 0 c) (.part id sz lo lo)
 | part {T:Tbl} {id sz lo hi o n c b cap}:T id=some (.at b cap)→lo≤hi→n=hi - lo→n≤c→lo+c≤cap→cap≤maxLen→o=lo * sz →
   Rep w I T (.slice (some ⟨b,o,none⟩) n c) (.part id sz lo hi)
 | fn {T f cs vs}:vs.size=cs.length→(∀ j c,cs[j]?=some c→Rep w I T (vs.getD j undef) c)→Rep w I T (.func (.func f) #[] vs) (.fn f cs)
 | nilp {T}:Rep w I T (.pointer none) .nilp
 | nilsl {T}:Rep w I T (.slice none 0 0) .nilsl
 | nb {T b l}:(b=true→l=[])→Rep w I T (.bool b) (.nb l)
 | mp {T:Tbl} {id b}:T id=some (.at b 0)→Rep w I T (.map (some b)) (.mp id)
 | raw {T b}:Rep w I T (.pointer (some ⟨b,0,none⟩)) (.raw b)
 | fm0 {T}:Rep w I T (.map none) (.fm true [])
 | fm {T l b E clock} (gk gv:Nat→Value):E.size=l.length→l.length≤maxLen→MapKept.Stamped E clock→I b→b<w.heap.size→w.heap[b]?=some (.map E clock) →
   (∀ (i:Nat) (x:AV×AV),l[i]?=some x→∃ s,E[i]?=some (MapEntry.mk (gk i) (gv i) s)) →
   (∀ (i:Nat) (x:AV×AV),l[i]?=some x→Rep w I Tbl.empty (gk i) x.1)→(∀ (i:Nat) (x:AV×AV),l[i]?=some x→Rep w I Tbl.empty (gv i) x.2) →
   Rep w I T (.map (some b)) (.fm false l)
theorem E8 {w w':World} {b:Nat} (h:w'.heap[b]?=w.heap[b]?) (o:Nat) (s:Option Nat):w'.cell? ⟨b,o,s⟩=w.cell? ⟨b,o,s⟩:=by
 simp [World.cell?,h]
theorem Rep.mono {w w':World} {I I':Nat→Prop} {T T':Tbl} {v:Value} {av:AV} (h:Rep w I T v av)
  (hs:w.heap.size≤w'.heap.size) (hc:∀ b,I b→b<w.heap.size→w'.heap[b]?=w.heap[b]?) (hI:∀ b,I b→b<w.heap.size→I' b)
  (hT:T.le T'):Rep w' I' T' v av:=by
 induction h generalizing T' with
 | junk=>exact .junk
 | int h=>exact .int h
 | bool=>exact .bool
 | str h h'=>exact .str h h'
 | agg h h1 _ ih=>exact .agg h h1 fun j c hj=>ih j c hj hT
 | tuple h _ ih=>exact .tuple h fun j c hj=>ih j c hj hT
 | sl0 h h'=>exact .sl0 h h'
 | sl g h1 h2 h3 h4 h5 h6 h7 h8 h9 _ ih =>
  exact .sl g h1 h2 h3 h4 h5 h6 (hI _ h7 h8) (Nat.lt_of_lt_of_le h8 hs) (fun i av j c hi hj=>(E8 (hc _ h7 h8) _ _).trans (h9 i av j c hi hj))
   fun i av j c hi hj=>ih i av j c hi hj fun _ _ h=>h
 | ref g h1 h2 h3 h4 _ ih =>
  exact .ref g (hI _ h1 h2) (Nat.lt_of_lt_of_le h2 hs) h3 (fun j c hj=>(E8 (hc _ h1 h2) _ _).trans (h4 j c hj)) fun j c hj=>ih j c hj fun _ _ h=>h
 | ptr h h'=>exact .ptr (hT _ _ h) h'
 | ownNil h=>exact .ownNil (hT _ _ h)
 | own h h1 h2=>exact .own (hT _ _ h) h1 h2
 | part0 h=>exact .part0 h
 | part h h1 h2 h3 h4 h5 h6=>exact .part (hT _ _ h) h1 h2 h3 h4 h5 h6
 | fn h _ ih=>exact .fn h fun j c hj=>ih j c hj hT
 | nilp=>exact .nilp
 | nilsl=>exact .nilsl
 | nb h=>exact .nb h
 | mp h=>exact .mp (hT _ _ h)
 | raw=>exact .raw
 | fm0=>exact .fm0
 | fm gk gv h1 h2 h3 h4 h5 h6 h7 _ _ ihk ihv =>
  exact .fm gk gv h1 h2 h3 (hI _ h4 h5) (Nat.lt_of_lt_of_le h5 hs) ((hc _ h4 h5).trans h6) h7 (fun i x hx=>ihk i x hx fun _ _ h=>h) (fun i x hx=>ihv i x hx fun _ _ h=>h)
theorem AV.pures_get {cs:List AV} (h:AV.pures cs=true) {j:Nat} {c:AV} (hj:cs[j]?=some c):c.pure=true:=by
 induction cs generalizing j with
 | nil=>simp at hj
 | cons a r ih =>
  simp only [AV.pures,zba] at h
  cases j with
  | zero=>simp at hj;exact hj ▸ h.1
  | succ j=>exact ih h.2 (by simpa using hj)
theorem Rep.bare {w:World} {I:Nat→Prop} {T T':Tbl} {v:Value} {av:AV} (h:Rep w I T v av) (hp:av.pure=true):Rep w I T' v av:=by
 induction h generalizing T' with
 | junk=>exact .junk
 | int h=>exact .int h
 | bool=>exact .bool
 | str h h'=>exact .str h h'
 | agg h h1 _ ih=>exact .agg h h1 fun j c hj=>ih j c hj (AV.pures_get hp hj)
 | tuple h _ ih=>exact .tuple h fun j c hj=>ih j c hj (AV.pures_get hp hj)
 | sl0 h h'=>exact .sl0 h h'
 | sl g h1 h2 h3 h4 h5 h6 h7 h8 h9 h10 ih=>exact .sl g h1 h2 h3 h4 h5 h6 h7 h8 h9 h10
 | ref g h1 h2 h3 h4 h5 ih=>exact .ref g h1 h2 h3 h4 h5
 | fn h _ ih=>exact .fn h fun j c hj=>ih j c hj (AV.pures_get hp hj)
 | nilp=>exact .nilp
 | nilsl=>exact .nilsl
 | nb h=>exact .nb h
 | raw=>exact .raw
 | fm0=>exact .fm0
 | fm gk gv h1 h2 h3 h4 h5 h6 h7 h8 h9=>exact .fm gk gv h1 h2 h3 h4 h5 h6 h7 h8 h9
 | _=>simp [AV.pure] at hp
theorem Rep.oneCell {w:World} {I:Nat→Prop} {T:Tbl} {v:Value} {av:AV} (h:Rep w I T v av) (hp:av.one=true):v.oneCell'=true:=by
 cases h<;>first | rfl | simp [AV.one] at hp
inductive KSh where
 | int (k:IntKind)
 | bool
 | str
def kc:KSh→AV→Bool
 | .int k,.int k' _=>decide (k=k')
 | .bool,.bool _=>true
 | .str,.str _=>true
 | _,_=>false
def kcs:List KSh→List AV→Bool
 | [],[]=>true
 | k::r,a::s=>kc k a&&kcs r s
 | _,_=>false
def uM (ag:Bool) (ks:List KSh):AV→Bool
 | .agg cs=>ag&&kcs ks cs
 | a=>!ag&&kcs ks [a]
inductive Box where
 | var (t:TypeId) (cs:List AV)
 | row (e:TypeId) (sz:Nat) (l:List AV)
 | map (ag:Bool) (ks:List KSh) (l:List (AV×AV))
inductive yB where
 | unused
 | dead
 | live (b:Box)
structure AS where
 slot:Nat→AV
 box:Nat→yB
def qR (w:World) (I:Nat→Prop) (T:Tbl) (p:Option wV):Box→Prop
 | .var t cs=>∃ b C,p=some (.at b 0)∧w.heap[b]?=some (.cells C t (0,0))∧C.size=cs.length∧(∀ c∈cs,c.one=true) ∧
   ∀ j c,cs[j]?=some c→Rep w I T (C.getD j undef) c
 | .row e sz l=>(p=some .nil∧l=[])∨∃ b cap C,p=some (.at b cap)∧w.heap[b]?=some (.cells C e (0,0))∧C.size=cap * sz∧l.length≤cap∧cap≤maxLen ∧
   (∀ av∈l,av.cells.length=sz)∧(∀ av∈l,∀ c∈av.cells,c.one=true) ∧
   ∀ i av j c,l[i]?=some av→av.cells[j]?=some c→Rep w I Tbl.empty (C.getD (i * sz+j) undef) c
 | .map ag ks l=>∃ b E clock,p=some (.at b 0)∧w.heap[b]?=some (.map E clock)∧E.size=l.length∧l.length≤maxLen∧MapKept.Stamped E clock ∧
   (∀ x∈l,uM ag ks x.1=true)∧∀ (i:Nat) (x:AV×AV),l[i]?=some x→∃ e:MapEntry,E[i]?=some e∧Rep w I Tbl.empty e.key x.1∧Rep w I Tbl.empty e.val x.2
structure uB where
 w0:World
 I0:Nat→Prop
 foot:List wV
 n:Nat
 gift:Nat→Prop:=fun _=>False
 scr:Nat→Prop:=fun _=>False
def uB.has (G:uB) (b:Nat):Prop:=∃ cap,wV.at b cap∈G.foot
def uB.mine (G:uB) (b:Nat):Prop:=G.w0.heap.size≤b∨G.gift b
def imm (G:uB) (st:AS) (T:Tbl) (b:Nat):Prop:=(G.I0 b∨G.mine b)∧∀ id bx cap,st.box id=.live bx→T id≠some (.at b cap)
structure MB (G:uB) (w:World):Prop where
 os:w.os=G.w0.os
 tape:w.tape=G.w0.tape
 output:w.output=G.w0.output
 size:G.w0.heap.size≤w.heap.size
 block:∀ b,b<G.w0.heap.size→¬ G.has b→¬ (G.gift b∨G.scr b)→w.heap[b]?=G.w0.heap[b]?
structure tD (G:uB) (st:AS) (T:Tbl) (a:Act) (w:World):Prop where
 defers:a.defers=[]
 size:a.tmps.size=G.n
 slots:∀ t,Rep w (imm G st T) T (a.tmps.getD t undef) (st.slot t)
 boxes:∀ id bx,st.box id=.live bx→qR w (imm G st T) T (T id) bx
 unused:∀ id,st.box id=.unused→T id=none
 apart:∀ id id' bx bx' b cap cap',st.box id=.live bx→st.box id'=.live bx'→T id=some (.at b cap)→T id'=some (.at b cap')→id=id'
 mine:∀ id bx b cap,st.box id=.live bx→T id=some (.at b cap)→G.foot.length≤id→G.mine b
 foot:∀ i p,G.foot[i]?=some p→T i=some p
 kept:MB G w
def Rel (G:uB) (st:AS) (a:Act) (w:World):Prop:=∃ T,tD G st T a w
end Go.Ab

/- Steps of the relation: a quiet step, a new block, a block of the call's own written, a row appended to. -/
namespace Go.Ab
open Go
structure Eff where
 rs:List (Nat×AV):=[]
 rb:List (Nat×yB):=[]
 dst:Option (Nat×AV):=none
 wb:List (Nat×yB):=[]
 fz:List (Nat×AV):=[]
def vI:List (Nat×yB)→Nat→yB→yB
 | [],_,d=>d
 | (k,b)::r,i,d=>bif Nat.beq i k then b else vI r i d
def aQ (f:Nat→AV):Option (Nat×AV)→Nat→AV
 | none,t=>f t
 | some (d,av),t=>bif Nat.beq t d then av else f t
def k9:List (Nat×AV)→Nat→AV→AV
 | [],_,d=>d
 | (k,v)::r,t,d=>bif Nat.beq t k then v else k9 r t d
def AS.upd (st:AS) (E:Eff):AS:=⟨aQ (fun t=>k9 E.fz t (st.slot t)) E.dst,fun i=>vI E.wb i (st.box i)⟩
def Eff.holds (E:Eff) (st:AS):Prop:=(∀ x∈E.rs,st.slot x.1=x.2)∧(∀ x∈E.rb,st.box x.1=x.2)
theorem x6 {a b:Nat}:Nat.beq a b=true↔a=b:=⟨Nat.eq_of_beq_eq_true,fun h=>h ▸ Nat.beq_refl a⟩
theorem JC (a:Nat):Nat.beq a a=true:=Nat.beq_refl a
theorem jC {a b:Nat} (h:a≠b):Nat.beq a b=false:=by
 cases hb:Nat.beq a b
 ·rfl
 ·exact absurd (x6.1 hb) h
theorem gJ (f:Nat→AV) (d:Nat) (av:AV):aQ f (some (d,av)) d=av:=by simp [aQ]
theorem i7 (f:Nat→AV) (d:Nat) (av:AV) {t:Nat} (h:t≠d):aQ f (some (d,av)) t=f t:=by simp [aQ,jC h]
theorem TA {a:Act} {d:Nat} {v:Value} (t:Nat) (hd:d<a.tmps.size) :
  (a.put (some d) v).tmps.getD t undef=if t=d then v else a.tmps.getD t undef:=by
 simp only [Act.put,Array.getD_eq_getD_getElem?,Array.getElem?_setIfInBounds]
 by_cases h:d=t
 ·subst h;simp [hd]
 ·have:¬ t=d:=fun e=>h e.symm
  simp [h,this]
theorem V4 {G:uB} {w w':World} {row:Option Nat} (hk:MB G w) (hg:w.grownBy w' row) (hr:∀ g,row=some g→G.mine g∨G.has g):MB G w' :=
 ⟨hg.os.trans hk.os,hg.tape.trans hk.tape,hg.output.trans hk.output,Nat.le_trans hk.size hg.size,fun b hb hn hn2 =>
  (hg.block b (Nat.lt_of_lt_of_le hb hk.size) (fun e=>by rcases hr b e.symm with (h | h) | h;omega;exact hn2 (.inl h);exact hn h)).trans (hk.block b hb hn hn2)⟩
theorem qR.mono {w w':World} {I I':Nat→Prop} {T T':Tbl} {p:Option wV} {bx:Box} (h:qR w I T p bx)
  (hs:w.heap.size≤w'.heap.size) (hc:∀ b,I b→b<w.heap.size→w'.heap[b]?=w.heap[b]?) (hI:∀ b,I b→b<w.heap.size→I' b)
  (hT:T.le T') (hb:∀ b cap,p=some (.at b cap)→b<w.heap.size→w'.heap[b]?=w.heap[b]?):qR w' I' T' p bx:=by
 cases bx with
 | var t cs =>
  obtain ⟨b,C,hp,hh,h1,h2,h3⟩:=h
  have hlt:b<w.heap.size:=by
   rcases zlg b w.heap.size with h' | h'
   ·exact h'
   ·rw [Array.getElem?_eq_none h'] at hh;cases hh
  exact ⟨b,C,hp,(hb b 0 hp hlt).trans hh,h1,h2,fun j c hj=>(h3 j c hj).mono hs hc hI hT⟩
 | row e sz l =>
  rcases h with h | ⟨b,cap,C,hp,hh,h1,h2,h3,h4,h5,h6⟩
  ·exact .inl h
  ·have hlt:b<w.heap.size:=by
    rcases zlg b w.heap.size with h' | h'
    ·exact h'
    ·rw [Array.getElem?_eq_none h'] at hh;cases hh
   exact .inr ⟨b,cap,C,hp,(hb b cap hp hlt).trans hh,h1,h2,h3,h4,h5,fun i av j c hi hj=>(h6 i av j c hi hj).mono hs hc hI (fun _ _ h=>h)⟩
 | map ag ks l =>
  obtain ⟨b,E,clock,hp,hh,h1,h2,h3,h4,h5⟩:=h
  have hlt:b<w.heap.size:=by
   rcases zlg b w.heap.size with h' | h'
   ·exact h'
   ·rw [Array.getElem?_eq_none h'] at hh;cases hh
  refine ⟨b,E,clock,hp,(hb b 0 hp hlt).trans hh,h1,h2,h3,h4,fun i x hx=>?_⟩
  obtain ⟨e,k1,k2,k3⟩:=h5 i x hx
  exact ⟨e,k1,k2.mono hs hc hI (fun _ _ h=>h),k3.mono hs hc hI (fun _ _ h=>h)⟩
theorem qR.no {w:World} {I:Nat→Prop} {T:Tbl} {bx:Box} (h:qR w I T none bx):False:=by
 cases bx with
 | var t cs=>obtain ⟨b,C,hp,_⟩:=h;cases hp
 | row e sz l=>rcases h with ⟨hp,_⟩ | ⟨b,cap,C,hp,_⟩<;>cases hp
 | map ag ks l=>obtain ⟨b,E,c,hp,_⟩:=h;cases hp
theorem qR.lt {w:World} {I:Nat→Prop} {T:Tbl} {bx:Box} {b cap:Nat} (h:qR w I T (some (.at b cap)) bx):b<w.heap.size:=by
 have lt_of:∀ {o:Obj},w.heap[b]?=some o→b<w.heap.size:=by
  intro o hh
  rcases zlg b w.heap.size with h' | h'
  ·exact h'
  ·rw [Array.getElem?_eq_none h'] at hh;cases hh
 cases bx with
 | var t cs =>
  obtain ⟨b',C,hp',hh,_⟩:=h
  injection hp' with hp';injection hp' with hp';subst hp'
  exact lt_of hh
 | row e sz l =>
  rcases h with ⟨hp',_⟩ | ⟨b',cap,C,hp',hh,_⟩
  ·cases hp'
  ·injection hp' with hp';injection hp' with hp';subst hp'
   exact lt_of hh
 | map ag ks l =>
  obtain ⟨b',E,c,hp',hh,_⟩:=h
  injection hp' with hp';injection hp' with hp';subst hp'
  exact lt_of hh
theorem tD.step {G:uB} {st:AS} {T:Tbl} {a:Act} {w:World} (h:tD G st T a w) {E:Eff} {T':Tbl} {w':World} {row:Option Nat} {dst:Option Tmp} {v:Value}
  (hg:w.grownBy w' row) (hT:T.le T')
  (hrow:∀ g,row=some g→∃ id bx cap,st.box id=.live bx∧T id=some (.at g cap))
  (himm:∀ b,imm G st T b→b<w.heap.size→imm G (st.upd E) T' b)
  (hdst:dst=E.dst.map (·.1))
  (hd:∀ d av,E.dst=some (d,av)→d<G.n∧Rep w' (imm G (st.upd E) T') T' v av)
  (hbox:∀ id bx,(st.upd E).box id=.live bx→(st.box id=.live bx∧∀ g cap,row=some g→T id≠some (.at g cap)) ∨
   (qR w' (imm G (st.upd E) T') T' (T' id) bx∧(∀ b cap,T' id=some (.at b cap)→G.foot.length≤id→G.mine b)))
  (hun:∀ id,(st.upd E).box id=.unused→T' id=none)
  (hap:∀ id id' bx bx' b cap cap',(st.upd E).box id=.live bx→(st.upd E).box id'=.live bx'→T' id=some (.at b cap)→T' id'=some (.at b cap')→id=id') (hfz:E.fz=[]:=by rfl) :
  Rel G (st.upd E) (a.put dst v) w':=by
 have hcI:∀ b,imm G st T b→b<w.heap.size→w'.heap[b]?=w.heap[b]?:=fun b hb hlt=>hg.block b hlt (fun e=>by
  obtain ⟨id,bx,cap,h1,h2⟩:=hrow b e.symm
  exact hb.2 id bx cap h1 h2)
 refine ⟨T',?_,?_,?_,?_,hun,hap,?_,fun i p hp=>hT _ _ (h.foot i p hp),?_⟩
 ·cases dst<;>exact h.defers
 ·cases dst<;>simp [Act.put,h.size]
 ·intro t
  subst hdst
  cases hE:E.dst with
  | none =>
   simp only [AS.upd,hE,hfz,k9,aQ,Option.map_none,Act.put]
   exact (h.slots t).mono hg.size hcI himm hT
  | some x =>
   obtain ⟨d,av⟩:=x
   obtain ⟨hlt,hv⟩:=hd d av hE
   simp only [AS.upd,hE,hfz,k9,Option.map_some]
   rw [TA t (by rw [h.size];exact hlt)]
   by_cases ht:t=d
   ·subst ht;rw [if_pos rfl,gJ];exact hv
   ·rw [if_neg ht,i7 _ _ _ ht];exact (h.slots t).mono hg.size hcI himm hT
 ·intro id bx hb
  rcases hbox id bx hb with ⟨hold,hne⟩ | hnew
  ·have hok:=h.boxes id bx hold
   have hTid:T' id=T id:=by
    cases hTi:T id with
    | some p=>exact hT _ _ hTi
    | none =>
     rw [hTi] at hok
     exact hok.no.elim
   rw [hTid]
   exact hok.mono hg.size hcI himm hT fun b cap hp hlt=>hg.block b hlt fun e=>hne b cap e.symm hp
  ·exact hnew.1
 ·intro id bx b cap hb hTb hge0
  rcases hbox id bx hb with ⟨hold,_⟩ | ⟨_,hnew⟩
  ·have hok:=h.boxes id bx hold
   have hTi:T id=some (.at b cap):=by
    cases hTi:T id with
    | some p=>rw [hT _ _ hTi] at hTb;exact hTb
    | none =>
     rw [hTi] at hok
     exact hok.no.elim
   exact h.mine id bx b cap hold hTi hge0
  ·exact hnew b cap hTb hge0
 ·exact V4 h.kept hg fun g hg'=>by
   obtain ⟨id,bx,cap,h1,h2⟩:=hrow g hg'
   rcases zlg id G.foot.length with hlt | hge
   ·have:=h.foot id _ (List.getElem?_eq_getElem hlt)
    rw [h2] at this
    injection this with this
    exact .inr ⟨cap,by rw [this];exact List.getElem_mem hlt⟩
   ·exact .inl (h.mine id bx g cap h1 h2 hge)
theorem cK (st:AS) (E:Eff):(st.upd E).box=fun i=>vI E.wb i (st.box i):=rfl
theorem tD.quiet {G:uB} {st:AS} {T:Tbl} {a:Act} {w:World} (h:tD G st T a w) {E:Eff} {w':World} {dst:Option Tmp} {v:Value}
  (hg:w.grownBy w' none) (hb:(st.upd E).box=st.box) (hdst:dst=E.dst.map (·.1))
  (hd:∀ d av,E.dst=some (d,av)→d<G.n∧Rep w' (imm G st T) T v av) (hfz:E.fz=[]:=by rfl) :
  Rel G (st.upd E) (a.put dst v) w':=by
 have hi:imm G (st.upd E) T=imm G st T:=by funext b;simp only [imm,hb]
 refine h.step (hfz:=hfz) hg (fun _ _ h=>h) (fun g hg=>by cases hg) (fun b hb _=>by rw [hi];exact hb) hdst ?_ ?_ ?_ ?_
 ·intro d av hE;rw [hi];exact hd d av hE
 ·intro id bx hbx;rw [hb] at hbx;exact .inl ⟨hbx,fun g cap hg=>by cases hg⟩
 ·intro id hu;rw [hb] at hu;exact h.unused id hu
 ·intro id id' bx bx' b cap cap' h1 h2;rw [hb] at h1 h2;exact h.apart id id' bx bx' b cap cap' h1 h2
def Tbl.put (T:Tbl) (id:Nat) (p:wV):Tbl:=fun i=>if i=id then some p else T i
theorem Tbl.put_same (T:Tbl) (id:Nat) (p:wV):T.put id p id=some p:=by simp [Tbl.put]
theorem Tbl.put_ne (T:Tbl) {id i:Nat} (p:wV) (h:i≠id):T.put id p i=T i:=by simp [Tbl.put,h]
theorem Tbl.le_put {T:Tbl} {id:Nat} {p:wV} (h:T id=none):T.le (T.put id p):=fun i q hq=>by
 by_cases e:i=id
 ·subst e;rw [h] at hq;cases hq
 ·rw [Tbl.put_ne _ _ e];exact hq
theorem dQ (id:Nat) (b d:yB) (i:Nat):vI [(id,b)] i d=if i=id then b else d:=by
 by_cases h:i=id
 ·subst h;simp [vI]
 ·simp [vI,jC h,h]
theorem tD.new {G:uB} {st:AS} {T:Tbl} {a:Act} {w:World} (h:tD G st T a w) {E:Eff} {w':World} {dst:Option Tmp} {v:Value} {id:Nat} {bx:Box} {p:wV}
  (hg:w.grownBy w' none) (hw:E.wb=[(id,.live bx)]) (hu:st.box id=.unused) (hdst:dst=E.dst.map (·.1))
  (hp:∀ b cap,p=.at b cap→w.heap.size≤b)
  (hok:qR w' (imm G (st.upd E) (T.put id p)) (T.put id p) (some p) bx)
  (hd:∀ d av,E.dst=some (d,av)→d<G.n∧Rep w' (imm G (st.upd E) (T.put id p)) (T.put id p) v av) (hfz:E.fz=[]:=by rfl) :
  Rel G (st.upd E) (a.put dst v) w':=by
 have hb:∀ i,(st.upd E).box i=if i=id then .live bx else st.box i:=fun i=>by rw [cK,hw];exact dQ _ _ _ _
 have hTn:=h.unused id hu
 refine h.step (hfz:=hfz) hg (T':=T.put id p) (Tbl.le_put hTn) (fun g hg=>by cases hg) ?_ hdst hd ?_ ?_ ?_
 ·intro b hI hlt
  refine ⟨hI.1,fun id' bx' cap hl hT'=>?_⟩
  rw [hb] at hl
  by_cases e:id'=id
  ·subst e
   rw [Tbl.put_same] at hT'
   injection hT' with hT'
   have:=hp b cap hT'
   omega
  ·rw [if_neg e] at hl;rw [Tbl.put_ne _ _ e] at hT'
   exact hI.2 id' bx' cap hl hT'
 ·intro id' bx' hl
  rw [hb] at hl
  by_cases e:id'=id
  ·subst e
   rw [if_pos rfl] at hl;injection hl with hl;subst hl
   rw [Tbl.put_same]
   exact .inr ⟨hok,fun b cap hT _=>by injection hT with hT;exact .inl (Nat.le_trans h.kept.size (hp b cap hT))⟩
  ·rw [if_neg e] at hl
   exact .inl ⟨hl,fun g cap hg=>by cases hg⟩
 ·intro id' hl
  rw [hb] at hl
  by_cases e:id'=id
  ·subst e;simp at hl
  ·rw [if_neg e] at hl;rw [Tbl.put_ne _ _ e];exact h.unused id' hl
 ·intro id1 id2 bx1 bx2 b c1 c2 h1 h2 t1 t2
  rw [hb] at h1 h2
  have old:∀ i bxi c,i≠id→st.box i=.live bxi→T i=some (.at b c)→b<w.heap.size:=by
   intro i bxi c _ hl hT
   have hok:=h.boxes i bxi hl
   rw [hT] at hok
   exact hok.lt
  by_cases e1:id1=id<;>by_cases e2:id2=id
  ·rw [e1,e2]
  ·subst e1
   rw [if_neg e2] at h2;rw [Tbl.put_same] at t1;rw [Tbl.put_ne _ _ e2] at t2
   injection t1 with t1
   have:=hp b c1 t1
   have:=old id2 bx2 c2 e2 h2 t2
   omega
  ·subst e2
   rw [if_neg e1] at h1;rw [Tbl.put_same] at t2;rw [Tbl.put_ne _ _ e1] at t1
   injection t2 with t2
   have:=hp b c2 t2
   have:=old id1 bx1 c1 e1 h1 t1
   omega
  ·rw [if_neg e1] at h1;rw [if_neg e2] at h2;rw [Tbl.put_ne _ _ e1] at t1;rw [Tbl.put_ne _ _ e2] at t2
   exact h.apart id1 id2 bx1 bx2 b c1 c2 h1 h2 t1 t2
theorem tD.write {G:uB} {st:AS} {T:Tbl} {a:Act} {w:World} (h:tD G st T a w) {E:Eff} {w':World} {dst:Option Tmp} {v:Value} {id:Nat} {bx bx':Box} {b cap:Nat}
  (hl:st.box id=.live bx) (hTid:T id=some (.at b cap))
  (hg:w.grownBy w' (some b)) (hw:E.wb=[(id,.live bx')]) (hdst:dst=E.dst.map (·.1))
  (hok:qR w' (imm G st T) T (T id) bx')
  (hd:∀ d av,E.dst=some (d,av)→d<G.n∧Rep w' (imm G st T) T v av) (hfz:E.fz=[]:=by rfl) :
  Rel G (st.upd E) (a.put dst v) w':=by
 have hb:∀ i,(st.upd E).box i=if i=id then .live bx' else st.box i:=fun i=>by rw [cK,hw];exact dQ _ _ _ _
 have hi:imm G (st.upd E) T=imm G st T:=by
  funext c
  apply propext
  constructor
  ·intro hI
   refine ⟨hI.1,fun i bxi cp hli hTi=>?_⟩
   by_cases e:i=id
   ·subst e;exact hI.2 i bx' cp (by rw [hb,if_pos rfl]) hTi
   ·exact hI.2 i bxi cp (by rw [hb,if_neg e];exact hli) hTi
  ·intro hI
   refine ⟨hI.1,fun i bxi cp hli hTi=>?_⟩
   rw [hb] at hli
   by_cases e:i=id
   ·subst e;exact hI.2 i bx cp hl hTi
   ·rw [if_neg e] at hli;exact hI.2 i bxi cp hli hTi
 refine h.step (hfz:=hfz) hg (fun _ _ h=>h) (fun g hg=>by injection hg with hg;subst hg;exact ⟨id,bx,cap,hl,hTid⟩) (fun c hc _=>by rw [hi];exact hc) hdst ?_ ?_ ?_ ?_
 ·intro d av hE;rw [hi];exact hd d av hE
 ·intro i bxi hli
  rw [hb] at hli
  by_cases e:i=id
  ·subst e
   rw [if_pos rfl] at hli;injection hli with hli;subst hli
   rw [hi]
   exact .inr ⟨hok,fun b' cap' hT' hge=>h.mine i bx b' cap' hl hT' hge⟩
  ·rw [if_neg e] at hli
   refine .inl ⟨hli,fun g cp hg hT'=>?_⟩
   injection hg with hg;subst hg
   exact e (h.apart i id bxi bx b cp cap hli hl hT' hTid)
 ·intro i hu
  rw [hb] at hu
  by_cases e:i=id
  ·subst e;simp at hu
  ·rw [if_neg e] at hu;exact h.unused i hu
 ·intro i1 i2 b1 b2 c d1 d2 h1 h2 t1 t2
  rw [hb] at h1 h2
  have l1:∃ x,st.box i1=.live x:=by
   by_cases e:i1=id
   ·subst e;exact ⟨_,hl⟩
   ·rw [if_neg e] at h1;exact ⟨_,h1⟩
  have l2:∃ x,st.box i2=.live x:=by
   by_cases e:i2=id
   ·subst e;exact ⟨_,hl⟩
   ·rw [if_neg e] at h2;exact ⟨_,h2⟩
  obtain ⟨x1,l1⟩:=l1
  obtain ⟨x2,l2⟩:=l2
  exact h.apart i1 i2 x1 x2 c d1 d2 l1 l2 t1 t2
theorem tD.move {G:uB} {st:AS} {T:Tbl} {a:Act} {w:World} (h:tD G st T a w) {E:Eff} {w':World} {dst:Option Tmp} {v:Value} {id id':Nat} {bx bx':Box} {p:wV} {row:Option Nat}
  (hl:st.box id=.live bx) (hu:st.box id'=.unused) (hnp:G.foot.length≤id)
  (hrow:∀ g,row=some g→∃ cap,T id=some (.at g cap))
  (hg:w.grownBy w' row) (hw:E.wb=[(id',.live bx'),(id,.dead)]) (hdst:dst=E.dst.map (·.1))
  (hp:∀ b cap,p=.at b cap→w.heap.size≤b∨(∃ cap',T id=some (.at b cap')))
  (hok:∀ I T':_,(∀ b,imm G st T b→b<w.heap.size→I b)→T.le T'→qR w' I T' (some p) bx')
  (hd:∀ d av,E.dst=some (d,av)→d<G.n∧∀ I T',T' id'=some p→Rep w' I T' v av) (hfz:E.fz=[]:=by rfl) :
  Rel G (st.upd E) (a.put dst v) w':=by
 have hne:id'≠id:=fun e=>by rw [e,hl] at hu;cases hu
 have hb:∀ i,(st.upd E).box i=if i=id' then .live bx' else if i=id then .dead else st.box i:=fun i=>by
  rw [cK,hw]
  by_cases e:i=id'
  ·subst e;simp [vI]
  ·by_cases e2:i=id
   ·subst e2;simp [vI,jC e,e]
   ·simp [vI,jC e,jC e2,e,e2]
 have hTn:=h.unused id' hu
 have dR:∀ i bxi b c,st.box i=.live bxi→T i=some (.at b c)→b<w.heap.size:=by
  intro i bxi b c hl hT
  have hok:=h.boxes i bxi hl
  rw [hT] at hok
  exact hok.lt
 have himm:∀ b,imm G st T b→b<w.heap.size→imm G (st.upd E) (T.put id' p) b:=by
  intro b hI hlt
  refine ⟨hI.1,fun i bxi cap hli hTi=>?_⟩
  rw [hb] at hli
  by_cases e:i=id'
  ·subst e
   rw [Tbl.put_same] at hTi;injection hTi with hTi
   rcases hp b cap hTi with h' | ⟨cap',h'⟩
   ·omega
   ·exact hI.2 id bx cap' hl h'
  ·rw [if_neg e] at hli;rw [Tbl.put_ne _ _ e] at hTi
   by_cases e2:i=id
   ·rw [if_pos e2] at hli;cases hli
   ·rw [if_neg e2] at hli;exact hI.2 i bxi cap hli hTi
 refine h.step (hfz:=hfz) hg (T':=T.put id' p) (Tbl.le_put hTn) (fun g hg=>?_) himm hdst ?_ ?_ ?_ ?_
 ·obtain ⟨cap,hT⟩:=hrow g hg
  exact ⟨id,bx,cap,hl,hT⟩
 ·intro d av hE
  exact ⟨(hd d av hE).1,(hd d av hE).2 _ _ (Tbl.put_same _ _ _)⟩
 ·intro i bxi hli
  rw [hb] at hli
  by_cases e:i=id'
  ·subst e
   rw [if_pos rfl] at hli;injection hli with hli;subst hli
   rw [Tbl.put_same]
   exact .inr ⟨hok _ _ himm (Tbl.le_put hTn),fun b cap hT _=>by
    injection hT with hT
    rcases hp b cap hT with h' | ⟨cap',h'⟩
    ·exact .inl (Nat.le_trans h.kept.size h')
    ·exact h.mine id bx b cap' hl h' hnp⟩
  ·rw [if_neg e] at hli
   by_cases e2:i=id
   ·rw [if_pos e2] at hli;cases hli
   ·rw [if_neg e2] at hli
    refine .inl ⟨hli,fun g cap hg hT=>?_⟩
    obtain ⟨cap',hT'⟩:=hrow g hg
    exact e2 (h.apart i id bxi bx g cap cap' hli hl hT hT')
 ·intro i hli
  rw [hb] at hli
  by_cases e:i=id'
  ·subst e;simp at hli
  ·rw [if_neg e] at hli;rw [Tbl.put_ne _ _ e]
   by_cases e2:i=id
   ·rw [if_pos e2] at hli;cases hli
   ·rw [if_neg e2] at hli;exact h.unused i hli
 ·intro i1 i2 b1 b2 b c1 c2 h1 h2 t1 t2
  rw [hb] at h1 h2
  have key:∀ i bxi c c',i≠id'→(if i=id then yB.dead else st.box i)=.live bxi→T i=some (.at b c)→p=.at b c'→False:=by
   intro i bxi c c' e hli hTi hpp
   by_cases e2:i=id
   ·rw [if_pos e2] at hli;cases hli
   ·rw [if_neg e2] at hli
    have hlt:=dR i bxi b c hli hTi
    rcases hp b c' hpp with h' | ⟨cap',h'⟩
    ·omega
    ·exact e2 (h.apart i id bxi bx b c cap' hli hl hTi h')
  by_cases e1:i1=id'<;>by_cases e2:i2=id'
  ·rw [e1,e2]
  ·subst e1
   rw [if_neg e2] at h2;rw [Tbl.put_same] at t1;rw [Tbl.put_ne _ _ e2] at t2
   injection t1 with t1
   exact (key i2 b2 c2 c1 e2 h2 t2 t1).elim
  ·subst e2
   rw [if_neg e1] at h1;rw [Tbl.put_same] at t2;rw [Tbl.put_ne _ _ e1] at t1
   injection t2 with t2
   exact (key i1 b1 c1 c2 e1 h1 t1 t2).elim
  ·rw [if_neg e1] at h1;rw [if_neg e2] at h2;rw [Tbl.put_ne _ _ e1] at t1;rw [Tbl.put_ne _ _ e2] at t2
   by_cases f1:i1=id
   ·rw [if_pos f1] at h1;cases h1
   ·by_cases f2:i2=id
    ·rw [if_pos f2] at h2;cases h2
    ·rw [if_neg f1] at h1;rw [if_neg f2] at h2
     exact h.apart i1 i2 b1 b2 b c1 c2 h1 h2 t1 t2
end Go.Ab
