/- The cells of a list of elements; an append's parts; conversions between strings and bytes. -/
import Derived.Test.YtbifmbdcejggkaaA7
namespace Go.Ab
open Go

def wP (L:List AV):List AV:=L.flatMap AV.cells

theorem uL {sz:Nat} {L:List AV} (h:∀ av∈L,av.cells.length=sz):(wP L).length=L.length * sz:=by
  induction L with
  | nil=>simp [wP]
  | cons a r ih =>
    have h1:=ih fun av hav=>h av (by simp [hav])
    have h2:=h a (by simp)
    simp only [wP,List.flatMap_cons,List.length_append,List.length_cons] at *
    rw [h1,h2,Nat.add_mul];omega

theorem qY {sz:Nat} {L:List AV} (h:∀ av∈L,av.cells.length=sz) {i j:Nat} {av c:AV} (hi:L[i]?=some av) (hj:av.cells[j]?=some c) :
    (wP L)[i * sz+j]?=some c:=by
  induction L generalizing i with
  | nil=>simp at hi
  | cons a r ih =>
    have h2:=h a (by simp)
    have hjl:j<av.cells.length:=by
      rcases Nat.lt_or_ge j av.cells.length with h' | h'
      · exact h'
      · rw [List.getElem?_eq_none h'] at hj;cases hj
    cases i with
    | zero =>
      simp at hi;subst hi
      simp only [wP,List.flatMap_cons,Nat.zero_mul,Nat.zero_add]
      rw [List.getElem?_append_left hjl]
      exact hj
    | succ i =>
      simp only [List.getElem?_cons_succ] at hi
      have h1:=ih (fun av hav=>h av (by simp [hav])) hi
      simp only [wP,List.flatMap_cons]
      rw [List.getElem?_append_right (by rw [h2,Nat.add_mul];omega),h2]
      rw [show (i+1) * sz+j - sz=i * sz+j by rw [Nat.add_mul];omega]
      exact h1

theorem zBR {sz:Nat} {L:List AV} (h:∀ av∈L,av.cells.length=sz) {k:Nat} {c:AV} (hk:(wP L)[k]?=some c) :
    ∃ i j av,k=i * sz+j∧L[i]?=some av∧av.cells[j]?=some c:=by
  induction L generalizing k with
  | nil=>simp [wP] at hk
  | cons a r ih =>
    have h2:=h a (by simp)
    simp only [wP,List.flatMap_cons] at hk
    rcases Nat.lt_or_ge k a.cells.length with hlt | hge
    · rw [List.getElem?_append_left hlt] at hk
      exact ⟨0,k,a,by omega,rfl,hk⟩
    · rw [List.getElem?_append_right hge] at hk
      obtain ⟨i,j,av,e,h3,h4⟩:=ih (fun av hav=>h av (by simp [hav])) hk
      refine ⟨i+1,j,av,?_,by simpa using h3,h4⟩
      rw [Nat.add_mul];omega

theorem zCv (L M:List AV):wP (L++M)=wP L++wP M:=by simp [wP]

theorem zDi {L:List AV} (h:∀ av∈L,∀ c∈av.cells,c.one=true):∀ c∈wP L,c.one=true:=by
  intro c hc
  simp only [wP,List.mem_flatMap] at hc
  obtain ⟨a,ha,hc⟩:=hc
  exact h a ha c hc

/-- The cells of a list of elements stand in an array from its head on. -/
def zOj (w:World) (I:Nat→Prop) (C:List Value) (L:List AV):Prop:=∀ k c,(wP L)[k]?=some c→Rep w I Tbl.empty (C.getD k undef) c

/-- What an append or a copy takes: the cells of its source. -/
structure Src (P:Program) (w:World) (I:Nat→Prop) (sz:Nat) (x:Value) (L:List AV) (news:List Value):Prop where
  len:news.length=L.length * sz
  wid:∀ av∈L,av.cells.length=sz
  one:∀ av∈L,∀ c∈av.cells,c.one=true
  rep:zOj w I news L
  lenOf:∀ w2,(Builtin.lenOf x).run P w2=.ok L.length w2
  max:L.length≤maxLen
  cells:∀ n w2,n≤L.length→(∀ b,b<w.heap.size→w2.heap[b]?=w.heap[b]?)→(Builtin.firstCells sz n x).run P w2=.ok (news.take (n * sz)).toArray w2

theorem zE3 {f:Nat→Value} {n k:Nat} (h:k<n):((List.range n).map f).getD k undef=f k:=by
  simp [List.getD,h]

theorem zFD {P:Program} {w:World} {I:Nat→Prop} {T:Tbl} {x:Value} {full:Bool} {sz:Nat} {l:List AV} (h:Rep w I T x (.sl full sz l)) :
    ∃ news,Src P w I sz x l news:=by
  cases h with
  | sl0 hc hf =>
    rename_i a cap
    refine ⟨[],by simp,by simp,by simp,fun k c hk=>by simp [wP] at hk,fun w2=>by simp [Builtin.lenOf],by simp,fun n w2 hn _=>?_⟩
    have:n=0:=by simpa using hn
    subst this
    cases a with
    | none=>simp [Builtin.firstCells]
    | some a=>simp [Builtin.firstCells,loadCells,loadCellsFrom]
  | sl g e1 e2 e3 e4 e5 e6 e7 e8 e9 e10 =>
    rename_i b off cap n
    let cellAt:Nat→Value:=fun k=>((w.cell? ⟨b,off+k,none⟩).getD undef)
    have hcell:∀ k c,(wP l)[k]?=some c→w.cell? ⟨b,off+k,none⟩=some (cellAt k)∧Rep w I Tbl.empty (cellAt k) c:=by
      intro k c hk
      obtain ⟨i,j,av,he,h1,h2⟩:=zBR e5 hk
      have h3:=e9 i av j c h1 h2
      have h4:=e10 i av j c h1 h2
      subst he
      rw [← Nat.add_assoc]
      simp only [cellAt]
      rw [← Nat.add_assoc,h3]
      exact ⟨rfl,h4⟩
    refine ⟨(List.range (l.length * sz)).map cellAt,by simp,e5,e6,?_,?_,by omega,?_⟩
    · intro k c hk
      have hlt:k<l.length * sz:=by
        rw [← uL e5]
        rcases Nat.lt_or_ge k (wP l).length with h' | h'
        · exact h'
        · rw [List.getElem?_eq_none h'] at hk;cases hk
      rw [zE3 hlt]
      exact (hcell k c hk).2
    · intro w2
      simp [Builtin.lenOf,e1]
    · intro m w2 hm hw
      simp only [Builtin.firstCells]
      have hle:m * sz≤l.length * sz:=Nat.mul_le_mul_right _ hm
      rw [run_loadCells (P:=P) w2 ⟨b,off,none⟩ (m * sz) cellAt]
      · congr 2
        rw [← List.map_take,List.take_range,Nat.min_eq_left hle]
      · intro j hj
        rw [kX]
        have hlt:j<(wP l).length:=by rw [uL e5];omega
        have:=(hcell j _ (List.getElem?_eq_getElem hlt)).1
        rw [← this]
        exact zCn (hw b e8) _ _

theorem zJP {P:Program} {w:World} {I:Nat→Prop} {T:Tbl} {x:Value} {l:List Int} (h:Rep w I T x (.str l)) :
    ∃ news,Src P w I 1 x (l.map (AV.int .u8)) news:=by
  cases h with
  | str hr hl =>
  refine ⟨l.map fun c=>Value.int .u8 c,by simp,?_,?_,?_,?_,by simpa using hl,?_⟩
  · intro av hav
    simp only [List.mem_map] at hav
    obtain ⟨c,_,rfl⟩:=hav
    rfl
  · intro av hav c hc
    simp only [List.mem_map] at hav
    obtain ⟨d,_,rfl⟩:=hav
    simp [AV.cells] at hc;subst hc;rfl
  · intro k c hk
    have e:wP (l.map (AV.int .u8))=l.map (AV.int .u8):=by
      simp only [wP,List.flatMap_map]
      have:(fun a=>(AV.int IntKind.u8 a).cells)=fun a=>[AV.int .u8 a]:=by funext a;rfl
      rw [this]
      exact List.map_eq_flatMap.symm
    rw [e,List.getElem?_map] at hk
    cases hlk:l[k]? with
    | none=>rw [hlk] at hk;cases hk
    | some d =>
      rw [hlk] at hk;injection hk with hk;subst hk
      have:(l.map fun c=>Value.int .u8 c).getD k undef=.int .u8 d:=by simp [List.getD,hlk]
      rw [this]
      exact .int (zJG (hr d (List.mem_of_getElem? hlk)))
  · intro w2;simp [Builtin.lenOf,kJ]
  · intro n w2 hn _
    simp only [Builtin.firstCells,zBW,List.drop_zero,Sem.run_pure,Nat.mul_one]
    congr 1
    apply Array.ext'
    simp only [vD,Array.toList_map,List.map_map,List.map_take]
    congr 1
    apply List.map_congr_left
    intro c hc
    have:=hr c hc
    simp only [Function.comp,UInt8.toNat_ofNat']
    congr 1
    omega

/-! Append. -/
def pH (P:Program) (t:TypeId):Bool:=match P.underlying t with | some (.int _)=>false | some _=>true | none=>false
def zJ4 (P:Program) (t:TypeId):Option TypeId:=match P.underlying t with | some (.slice e)=>some e | _=>none
def zBE (P:Program) (e:TypeId):Option Value:=match P.info? e with | some i=>i.zero | none=>none
def uZ (P:Program) (e:TypeId):Nat:=match P.info? e with | some i=>i.bytes | none=>0
/-- The type of a slice's elements, if all is known of it that an append wants. -/
def zB3 (P:Program) (t:TypeId):Option TypeId :=
  match zJ4 P t with
  | some e=>bif (wG P e&&!(Nat.beq (szT P e) 0))&&!(Nat.beq (uZ P e) 0) then
      match zBE P e with
      | some z=>bif Nat.beq z.cells.size (szT P e) then some e else none
      | none=>none
    else none
  | none=>none

structure zEf (P:Program) (t e:TypeId) (i:TypeInfo) (z:Value):Prop where
  und:P.underlying t=some (.slice e)
  info:P.info? e=some i
  zero:i.zero=some z
  size:i.size=szT P e
  bytes:i.bytes=uZ P e
  zsize:z.cells.size=szT P e
  pos:0<szT P e
  known:wG P e=true
  bpos:0<uZ P e

theorem kH {P:Program} {t e:TypeId} (h:zB3 P t=some e):∃ i z,zEf P t e i z:=by
  unfold zB3 at h
  split at h
  · rename_i e' he
    cases hk:((wG P e'&&!(Nat.beq (szT P e') 0))&&!(Nat.beq (uZ P e') 0))
    · rw [hk] at h;cases h
    rw [hk] at h
    simp only [cond_true,Bool.and_eq_true,Bool.not_eq_true'] at h hk
    split at h
    · rename_i z hz
      cases hb:Nat.beq z.cells.size (szT P e')
      · rw [hb] at h;cases h
      rw [hb] at h
      injection h with h;subst h
      unfold zJ4 at he
      split at he
      · rename_i e'' hu
        injection he with he;subst he
        unfold zBE at hz
        split at hz
        · rename_i i hi
          refine ⟨i,z,hu,hi,hz,by simp [szT,hi],by simp [uZ,hi],xM.1 hb,?_,hk.1.1,?_⟩
          · rcases Nat.eq_zero_or_pos (szT P e'') with h0 | h0
            · have:=hk.1.2;rw [h0] at this;simp at this
            · exact h0
          · rcases Nat.eq_zero_or_pos (uZ P e'') with h0 | h0
            · have:=hk.2;rw [h0] at this;simp at this
            · exact h0
        · cases hz
      · cases he
    · cases h
  · cases h

theorem zD6 {P:Program} {t2:TypeId} (h2:pH P t2=true):∃ d,P.underlying t2=some d∧(∀ k,d≠.int k):=by
  unfold pH at h2
  split at h2
  · cases h2
  · rename_i d hn hd
    exact ⟨d,hd,fun k e=>hn k e⟩
  · cases h2

/-- The append makes a new row. -/
theorem zAR {P:Program} {t t2 e:TypeId} {i:TypeInfo} {z:Value} {w:World} {ty:TypeId} (ht:zEf P t e i z) (h2:pH P t2=true)
    {base:Option Addr} {sLen sCap n:Nat} {x:Value} {olds news:List Value}
    (hlen:(Builtin.lenOf x).run P w=.ok n w)
    (hfx:∀ w2:World,w2.heap=w.heap→(Builtin.firstCells (szT P e) n x).run P w2=.ok news.toArray w2)
    (hfo:∀ w2:World,w2.heap=w.heap→(Builtin.firstCells (szT P e) sLen (.slice base sLen sCap)).run P w2=.ok olds.toArray w2)
    (hgt:sCap<sLen+n) (hmax:sLen+n≤maxLen) (hb:(sLen+n) * uZ P e≤140737488355328) :
    (Builtin.append_ #[t,t2] ty #[.slice base sLen sCap,x]).run P w =
      .ok (.slice (some ⟨w.heap.size,0,none⟩) (sLen+n) (grownCap w (sLen+n) sCap e))
        (w.drew.alloc (.cells (olds.toArray++news.toArray++Builtin.zeroCells z.cells (grownCap w (sLen+n) sCap e - (sLen+n))) e)):=by
  obtain ⟨d,hd,hnd⟩:=zD6 h2
  have hn:¬ (sLen+n≤sCap):=by omega
  have h63':¬ ((9223372036854775807:Int)<((sLen:Int)+(n:Int))):=by rw [wW] at hmax;omega
  have hg:=growslice_fits hgt hb
  rw [← ht.bytes] at hg
  have h48':¬ (281474976710656<Builtin.nextslicecap (sLen+n) sCap * i.bytes):=by omega
  have hfx':=hfx w.drew rfl
  have hfo':=hfo w.drew rfl
  rw [← ht.size] at hfx' hfo'
  simp only [Builtin.append_,List.getElem?_toArray,List.getElem?_cons_zero,List.getElem?_cons_succ,Sem.run_bind,run_underlying ht.und,run_underlying hd,Result.andThen_ok,sizeOf,typeInfo,run_program,
    ht.info,Sem.run_pure]
  simp [hlen,hn,h63',h48',Question.forced,hfx',hfo',newRow,grownCap,zeroValue,typeInfo,ht.info,ht.zero]
  rw [← List.append_toArray,Array.append_assoc]

theorem nU (w:World) (o:Obj):w.grownBy (w.alloc o) none:=⟨rfl,rfl,rfl,by simp,fun k hk _=>heap_alloc_old w o k hk⟩

/-- A new row that nobody writes: an immutable slice. -/
theorem zDo {w':World} {I:Nat→Prop} {T:Tbl} {b sz n cap:Nat} {L:List AV} {C:Array Value} {t:TypeId} {fr:Nat×Nat} (hh:w'.heap[b]?=some (.cells C t fr)) (hI:I b)
    (hn:n=L.length) (hc:n≤cap) (hm:cap≤maxLen) (hw:∀ av∈L,av.cells.length=sz) (h1:∀ av∈L,∀ c∈av.cells,c.one=true)
    (hl:L.length * sz≤C.size) (hr:∀ k c,(wP L)[k]?=some c→Rep w' I Tbl.empty (C.getD k undef) c) :
    Rep w' I T (.slice (some ⟨b,0,none⟩) n cap) (.sl false sz L):=by
  have hb:b<w'.heap.size:=by
    rcases Nat.lt_or_ge b w'.heap.size with h' | h'
    · exact h'
    · rw [Array.getElem?_eq_none h'] at hh;cases hh
  refine .sl (fun i j=>C.getD (i * sz+j) undef) hn hc hm (by simp) hw h1 hI hb ?_ ?_
  · intro i av j c hi hj
    have hf:=qY hw hi hj
    have hlt:i * sz+j<C.size:=by
      have:i * sz+j<(wP L).length:=by
        rcases Nat.lt_or_ge (i * sz+j) (wP L).length with h' | h'
        · exact h'
        · rw [List.getElem?_eq_none h'] at hf;cases hf
      rw [uL hw] at this
      omega
    simp [World.cell?,hh,hlt]
  · intro i av j c hi hj
    exact hr _ _ (qY hw hi hj)

theorem zE2 {A B:List Value} {Z:Array Value} {k:Nat} (h:k<(A++B).length):(A.toArray++B.toArray++Z).getD k undef=(A++B).getD k undef:=by
  simp only [List.append_toArray,Array.getD_eq_getD_getElem?,List.getD]
  rw [Array.getElem?_append_left (by simpa using h)]
  simp

theorem zNc {P:Program} {w:World} {I:Nat→Prop} {T:Tbl} {x:Value} {full:Bool} {sz:Nat} (sz':Nat) (h:Rep w I T x (.sl full sz [])):Src P w I sz' x [] []:=by
  have hf:∃ a cap,x=.slice a 0 cap:=by
    generalize hl:([]:List AV)=l at h
    cases h with
    | sl0=>exact ⟨_,_,rfl⟩
    | sl g e1=>subst hl;simp at e1;exact ⟨_,_,by rw [e1]⟩
  obtain ⟨a,cap,rfl⟩:=hf
  refine ⟨by simp,by simp,by simp,fun k c hk=>by simp [wP] at hk,fun w2=>by simp [Builtin.lenOf],by simp,fun n w2 hn _=>?_⟩
  have:n=0:=by simpa using hn
  subst this
  cases a with
  | none=>simp [Builtin.firstCells]
  | some a=>simp [Builtin.firstCells,loadCells,loadCellsFrom]

theorem zG4 {w:World} {I:Nat→Prop} {T:Tbl} {x:Value} {full:Bool} {sz:Nat} {l:List AV} (h:Rep w I T x (.sl full sz l)):Rep w I T x (.sl false sz l):=by
  cases h with
  | sl0 hc hf=>exact .sl0 hc (by simp)
  | sl g e1 e2 e3 e4 e5 e6 e7 e8 e9 e10=>exact .sl g e1 e2 e3 (by simp) e5 e6 e7 e8 e9 e10

theorem zA9 {w:World} {I:Nat→Prop} {T:Tbl} {x:Value} {full:Bool} {sz:Nat} {l:List AV} (h:Rep w I T x (.sl full sz l)) :
    ∃ base cap,x=.slice base l.length cap∧cap≤maxLen∧l.length≤cap∧(full=true→cap=l.length):=by
  cases h with
  | sl0 hc hf=>exact ⟨_,_,rfl,hc,by simp,by simpa using hf⟩
  | sl g e1 e2 e3 e4 e5 e6 e7 e8 e9 e10=>exact ⟨_,_,by rw [e1],e3,by omega,by rw [← e1];exact e4⟩

theorem zGD {w:World} {I:Nat→Prop} {T:Tbl} {x:Value} {full:Bool} {sz:Nat} (sz':Nat) (h:Rep w I T x (.sl full sz [])):Rep w I T x (.sl full sz' []):=by
  obtain ⟨base,cap,rfl,hc,_,hf⟩:=zA9 h
  exact .sl0 hc (by simpa using hf)

theorem zAj {P:Program} {t t2 e:TypeId} {i:TypeInfo} {z:Value} {w:World} {ty:TypeId} (ht:zEf P t e i z) (h2:pH P t2=true)
    {base:Option Addr} {sLen sCap:Nat} {x:Value} (hlen:(Builtin.lenOf x).run P w=.ok 0 w)
    (hfx:(Builtin.firstCells (szT P e) 0 x).run P w=.ok #[] w) (hle:sLen≤sCap) :
    (Builtin.append_ #[t,t2] ty #[.slice base sLen sCap,x]).run P w=.ok (.slice base sLen sCap) w:=by
  obtain ⟨d,hd,hnd⟩:=zD6 h2
  rw [← ht.size] at hfx
  simp only [Builtin.append_,List.getElem?_toArray,List.getElem?_cons_zero,List.getElem?_cons_succ,Sem.run_bind,run_underlying ht.und,run_underlying hd,Result.andThen_ok,sizeOf,typeInfo,run_program,
    ht.info,Sem.run_pure]
  cases base<;>simp [hlen,hle,hfx,storeCells]

theorem zDZ {P:Program} {t t2 e:TypeId} {i:TypeInfo} {z:Value} {x y:Operand} {ρ:Operand→Value} {o:Oper} {w:World} {I:Nat→Prop} {T:Tbl} {l m L:List AV}
    (ho:o.op=.call { callee:=.builtin .append,args:=#[x,y],argTypes:=#[t,t2] }) (ht:zEf P t e i z) (h2:pH P t2=true)
    (hx:Rep w I T (ρ x) (.sl true (szT P e) l)) {news:List Value} (hs:Src P w I (szT P e) (ρ y) m news) (hL:L=l++m) (hb:(l.length+m.length) * uZ P e≤140737488355328) :
    j4 P ρ o w I T (.sl false (szT P e) L):=by
  have hmax:l.length+m.length≤maxLen:=by
    have:=Nat.le_mul_of_pos_right (l.length+m.length) ht.bpos
    rw [wW];omega
  have hrun:∀ (v:Value) (w':World),(Builtin.append_ #[t,t2] o.type #[ρ x,ρ y]).run P w=.ok v w'→(execOp ρ o).run P w=.ok (.value v) w':=fun v w' hv=>by
    simp [execOp,ho,resolve,invoke,builtin,hv]
  obtain ⟨olds,hso⟩:=zFD (P:=P) hx
  have hxf:=zG4 hx
  obtain ⟨base,cap,hX,_,_,hfull⟩:=zA9 hx
  have hcap:=hfull rfl
  subst hcap
  rw [hX] at hso hxf
  by_cases hm:m.length=0
  · have hm0:m=[]:=List.eq_nil_of_length_eq_zero hm
    subst hm0
    have h0:=hs.cells 0 w (Nat.zero_le _) (fun _ _=>rfl)
    simp only [Nat.zero_mul,List.take_zero] at h0
    refine .same (hrun _ _ (by rw [hX];exact zAj ht h2 (hs.lenOf w) h0 (Nat.le_refl _))) ?_
    rw [hL,List.append_nil]
    exact hxf
  · have hnew:=zAR (P:=P) (w:=w) (ty:=o.type) ht h2 (base:=base) (sLen:=l.length) (sCap:=l.length) (n:=m.length) (x:=ρ y) (olds:=olds) (news:=news)
      (hs.lenOf w) (fun w2 hw=>by have:=hs.cells m.length w2 (Nat.le_refl _) (fun b _=>by rw [hw]);rwa [List.take_of_length_le (by rw [hs.len];exact Nat.le_refl _)] at this)
      (fun w2 hw=>by have:=hso.cells l.length w2 (Nat.le_refl _) (fun b _=>by rw [hw]);rwa [List.take_of_length_le (by rw [hso.len];exact Nat.le_refl _)] at this)
      (by omega) hmax hb
    have hge:=grownCap_ge w (l.length+m.length) l.length e
    have hcm:=grownCap_le_maxLen w (l.length+m.length) l.length e hmax
    have hex:=hrun _ _ (by rw [hX];exact hnew)
    refine ⟨_,_,hex,⟨rfl,rfl,rfl,by simp,fun k hk _=>heap_alloc_old w.drew _ k hk⟩,fun I' T' hI hI2 hT=>?_⟩
    have hw:∀ av∈L,av.cells.length=szT P e:=by
      intro av hav;rw [hL] at hav
      rcases List.mem_append.1 hav with h | h
      · exact hso.wid av h
      · exact hs.wid av h
    have h1:∀ av∈L,∀ c∈av.cells,c.one=true:=by
      intro av hav;rw [hL] at hav
      rcases List.mem_append.1 hav with h | h
      · exact hso.one av h
      · exact hs.one av h
    have hlo:=hso.len
    have hln:=hs.len
    refine zDo (heap_alloc_new w.drew _) (hI2 _ (Nat.le_refl _) (by simp)) (by rw [hL];simp) hge hcm hw h1 ?_ ?_
    · rw [hL]
      simp only [Array.size_append,List.size_toArray,List.length_append,hlo,hln,Nat.add_mul]
      omega
    · intro k c hk
      have hmono:∀ {v av},Rep w I Tbl.empty v av→Rep (w.drew.alloc (.cells (olds.toArray++news.toArray++Builtin.zeroCells z.cells (grownCap w (l.length+m.length) l.length e - (l.length+m.length))) e)) I' Tbl.empty v av :=
        fun h=>h.mono (by simp) (fun b _ hlt=>heap_alloc_old w.drew _ b hlt) hI (fun _ _ h=>h)
      have hkl:k<(wP L).length:=by
        rcases Nat.lt_or_ge k (wP L).length with h' | h'
        · exact h'
        · rw [List.getElem?_eq_none h'] at hk;cases hk
      have hfl:=uL hso.wid
      have hfm:=uL hs.wid
      rw [hL,zCv] at hk hkl
      rw [List.length_append,hfl,hfm] at hkl
      rw [zE2 (by simp only [List.length_append];omega)]
      rcases Nat.lt_or_ge k (wP l).length with hlt | hge'
      · rw [List.getElem?_append_left hlt] at hk
        have:=hso.rep k c hk
        rw [List.getD_eq_getElem?_getD,List.getElem?_append_left (by omega),← List.getD_eq_getElem?_getD]
        exact hmono this
      · rw [List.getElem?_append_right hge'] at hk
        have:=hs.rep _ c hk
        rw [List.getD_eq_getElem?_getD,List.getElem?_append_right (by omega),← List.getD_eq_getElem?_getD]
        rw [hfl,← hlo] at this
        exact hmono this

/-- The source of an append, out of what is known of it. -/
def zHH (_P:Program) (sz:Nat) (y:AV):Option (List AV) :=
  match y with
  | .sl _ sz2 m=>bif Nat.beq sz2 sz||m.isEmpty then some m else none
  | .str m=>bif Nat.beq sz 1 then some (m.map (AV.int .u8)) else none
  | _=>none

theorem zFF {P:Program} {w:World} {I:Nat→Prop} {T:Tbl} {v:Value} {sz:Nat} {y:AV} {m:List AV} (hy:Rep w I T v y) (h:zHH P sz y=some m):∃ news,Src P w I sz v m news:=by
  unfold zHH at h
  split at h
  · rename_i f sz2 m'
    cases hc:(Nat.beq sz2 sz||m'.isEmpty)
    · rw [hc] at h;cases h
    rw [hc] at h
    injection h with h;subst h
    simp only [Bool.or_eq_true] at hc
    rcases hc with h1 | h1
    · rw [← xM.1 h1];exact zFD hy
    · have:m'=[]:=by simpa using h1
      subst this
      exact ⟨[],zNc sz hy⟩
  · rename_i m'
    cases hc:Nat.beq sz 1
    · rw [hc] at h;cases h
    rw [hc] at h
    injection h with h;subst h
    rw [xM.1 hc]
    exact zJP hy
  · cases h

/-- 'append' to a slice without room: what comes out is not written again. -/
def zGe (P:Program) (t t2:TypeId) (x y:AV) (h:xI):Option (List Prop×AV) :=
  match zB3 P t,x with
  | some e,.sl true sz l =>
    bif (Nat.beq sz (szT P e)||l.isEmpty)&&pH P t2 then
      match zHH P (szT P e) y with
      | some m=>some ([h.l=l++m,(l.length+m.length) * uZ P e≤140737488355328],.sl false (szT P e) h.l)
      | none=>none
    else none
  | _,_=>none

theorem zHu {P:Program} {t t2:TypeId} {x y:Operand} {ρ:Operand→Value} {o:Oper} {w:World} {I:Nat→Prop} {T:Tbl} {X Y:AV} {hn:xI} {r:List Prop×AV}
    (ho:o.op=.call { callee:=.builtin .append,args:=#[x,y],argTypes:=#[t,t2] })
    (hx:Rep w I T (ρ x) X) (hy:Rep w I T (ρ y) Y) (h:zGe P t t2 X Y hn=some r) (hv:∀ p∈r.1,p):j4 P ρ o w I T r.2:=by
  unfold zGe at h
  split at h
  · rename_i e sz l hrow
    obtain ⟨i,z,ht⟩:=kH hrow
    cases hc:((Nat.beq sz (szT P e)||l.isEmpty)&&pH P t2)
    · rw [hc] at h;cases h
    rw [hc] at h
    simp only [cond_true,Bool.and_eq_true,Bool.or_eq_true] at h hc
    have hx':Rep w I T (ρ x) (.sl true (szT P e) l):=by
      rcases hc.1 with h1 | h1
      · rw [← xM.1 h1];exact hx
      · have:l=[]:=by simpa using h1
        subst this
        exact zGD _ hx
    split at h
    · rename_i m hm
      injection h with h;subst h
      obtain ⟨news,hs⟩:=zFF (P:=P) hy hm
      exact zDZ ho ht hc.2 hx' hs (hv _ (by simp)) (hv _ (by simp))
    · cases h
  · cases h
end Go.Ab
