/- Values built out of parts, conversions, and all that only computes, in one function. -/
import Derived.Test.YtbifmbdcejggkaaA8
import Derived.DataBytes
namespace Go.Ab
open Go

def tR (av:AV):Bool:=match av with | .agg _=>true | a=>a.one

theorem nV {w:World} {I:Nat→Prop} {T:Tbl} {v:Value} {av:AV} (h:Rep w I T v av) (ho:tR av=true) :
    v.cells.size=av.cells.length∧(∀ c∈av.cells,c.one=true)∧∀ j c,av.cells[j]?=some c→Rep w I T (v.cells.getD j undef) c:=by
  cases h with
  | junk=>simp [tR,AV.one] at ho
  | tuple=>simp [tR,AV.one] at ho
  | agg h1 h2 h3=>exact ⟨h1,h2,h3⟩
  | int h=>exact ⟨rfl,by simp [AV.cells,AV.one],fun j c hj=>by cases j<;>simp [AV.cells] at hj;subst hj;exact .int h⟩
  | bool=>exact ⟨rfl,by simp [AV.cells,AV.one],fun j c hj=>by cases j<;>simp [AV.cells] at hj;subst hj;exact .bool⟩
  | str h h'=>exact ⟨rfl,by simp [AV.cells,AV.one],fun j c hj=>by cases j<;>simp [AV.cells] at hj;subst hj;exact .str h h'⟩
  | sl0 h h'=>exact ⟨rfl,by simp [AV.cells,AV.one],fun j c hj=>by cases j<;>simp [AV.cells] at hj;subst hj;exact .sl0 h h'⟩
  | sl g h1 h2 h3 h4 h5 h6 h7 h8 h9 h10=>exact ⟨rfl,by simp [AV.cells,AV.one],fun j c hj=>by cases j<;>simp [AV.cells] at hj;subst hj;exact .sl g h1 h2 h3 h4 h5 h6 h7 h8 h9 h10⟩
  | ref g h1 h2 h3 h4 h5=>exact ⟨rfl,by simp [AV.cells,AV.one],fun j c hj=>by cases j<;>simp [AV.cells] at hj;subst hj;exact .ref g h1 h2 h3 h4 h5⟩
  | ptr h h'=>exact ⟨rfl,by simp [AV.cells,AV.one],fun j c hj=>by cases j<;>simp [AV.cells] at hj;subst hj;exact .ptr h h'⟩
  | ownNil h=>exact ⟨rfl,by simp [AV.cells,AV.one],fun j c hj=>by cases j<;>simp [AV.cells] at hj;subst hj;exact .ownNil h⟩
  | own h h1 h2=>exact ⟨rfl,by simp [AV.cells,AV.one],fun j c hj=>by cases j<;>simp [AV.cells] at hj;subst hj;exact .own h h1 h2⟩
  | part0 h=>exact ⟨rfl,by simp [AV.cells,AV.one],fun j c hj=>by cases j<;>simp [AV.cells] at hj;subst hj;exact .part0 h⟩
  | part h h1 h2 h3 h4 h5 h6=>exact ⟨rfl,by simp [AV.cells,AV.one],fun j c hj=>by cases j<;>simp [AV.cells] at hj;subst hj;exact .part h h1 h2 h3 h4 h5 h6⟩
  | fn h h'=>exact ⟨rfl,by simp [AV.cells,AV.one],fun j c hj=>by cases j<;>simp [AV.cells] at hj;subst hj;exact .fn h h'⟩
  | nilp=>exact ⟨rfl,by simp [AV.cells,AV.one],fun j c hj=>by cases j<;>simp [AV.cells] at hj;subst hj;exact .nilp⟩
  | nilsl=>exact ⟨rfl,by simp [AV.cells,AV.one],fun j c hj=>by cases j<;>simp [AV.cells] at hj;subst hj;exact .nilsl⟩
  | nb h=>exact ⟨rfl,by simp [AV.cells,AV.one],fun j c hj=>by cases j<;>simp [AV.cells] at hj;subst hj;exact .nb h⟩
  | mp h=>exact ⟨rfl,by simp [AV.cells,AV.one],fun j c hj=>by cases j<;>simp [AV.cells] at hj;subst hj;exact .mp h⟩
  | raw=>exact ⟨rfl,by simp [AV.cells,AV.one],fun j c hj=>by cases j<;>simp [AV.cells] at hj;subst hj;exact .raw⟩
  | rawm=>exact ⟨rfl,by simp [AV.cells,AV.one],fun j c hj=>by cases j<;>simp [AV.cells] at hj;subst hj;exact .rawm⟩

/-- An array of values stands for a list of cells. -/
structure nM (w:World) (I:Nat→Prop) (T:Tbl) (vs:Array Value) (cs:List AV):Prop where
  size:vs.size=cs.length
  one:∀ c∈cs,c.one=true
  rep:∀ j c,cs[j]?=some c→Rep w I T (vs.getD j undef) c

def qZ (cs:List AV) (off:Nat) (vs:List AV):List AV:=cs.take off++vs++cs.drop (off+vs.length)

theorem zBm {cs vs:List AV} {off:Nat} (h:off+vs.length≤cs.length) (k:Nat) :
    (qZ cs off vs)[k]?=if k<off then cs[k]? else if k<off+vs.length then vs[k - off]? else cs[k]?:=by
  unfold qZ
  have hl:(cs.take off).length=off:=by simp;omega
  split
  · rename_i hk
    rw [List.append_assoc,List.getElem?_append_left (by omega),List.getElem?_take,if_pos hk]
  · rename_i hk
    split
    · rename_i hk2
      rw [List.getElem?_append_left (by simp;omega),List.getElem?_append_right (by omega),hl]
    · rename_i hk2
      rw [List.getElem?_append_right (by simp;omega),List.getElem?_drop]
      congr 1
      simp;omega

theorem zAi {cs vs:List AV} {off:Nat} (h:off+vs.length≤cs.length):(qZ cs off vs).length=cs.length:=by
  unfold qZ;simp;omega

theorem zLM (off:Nat):∀ (l:List Value) (s:Nat) (cells:Array Value) (k:Nat),
    ((l.zipIdx s).foldl (fun cs (x:Value×Nat)=>cs.setIfInBounds (off+x.2) x.1) cells).getD k undef =
      if off+s≤k∧k<off+s+l.length∧k<cells.size then l.getD (k - off - s) undef else cells.getD k undef:=by
  intro l
  induction l with
  | nil=>intro s cells k;simp;omega
  | cons a r ih =>
    intro s cells k
    simp only [List.zipIdx_cons,List.foldl_cons]
    rw [ih]
    simp only [Array.size_setIfInBounds]
    by_cases h1:off+(s+1)≤k∧k<off+(s+1)+r.length∧k<cells.size
    · rw [if_pos h1,if_pos (by simp only [List.length_cons];omega)]
      obtain ⟨d,hd⟩:∃ d,k - off - s=d+1:=⟨k - off - s - 1,by omega⟩
      rw [hd,show k - off - (s+1)=d by omega]
      simp [List.getD]
    · rw [if_neg h1]
      by_cases h2:k=off+s
      · subst h2
        by_cases h3:off+s<cells.size
        · rw [if_pos (by simp only [List.length_cons];omega)]
          simp [Array.getD_eq_getD_getElem?,List.getD,h3]
        · rw [if_neg (by omega)]
          simp [Array.getD_eq_getD_getElem?,h3]
      · rw [if_neg (by simp only [List.length_cons];omega)]
        simp only [Array.getD_eq_getD_getElem?,Array.getElem?_setIfInBounds]
        rw [if_neg (by omega)]

theorem zK3 (off:Nat):∀ (l:List Value) (s:Nat) (cells:Array Value),
    ((l.zipIdx s).foldl (fun cs (x:Value×Nat)=>cs.setIfInBounds (off+x.2) x.1) cells).size=cells.size:=by
  intro l
  induction l with
  | nil=>intro s cells;rfl
  | cons a r ih=>intro s cells;simp only [List.zipIdx_cons,List.foldl_cons];rw [ih];simp

theorem zIg {w:World} {I:Nat→Prop} {T:Tbl} {vs:Array Value} {cs:List AV} {v:Value} {av:AV} {off:Nat} (h:nM w I T vs cs)
    (hv:Rep w I T v av) (ho:tR av=true) (hle:off+av.cells.length≤cs.length) :
    nM w I T (v.cells.zipIdx.foldl (fun cs (x:Value×Nat)=>cs.setIfInBounds (off+x.2) x.1) vs) (qZ cs off av.cells):=by
  obtain ⟨h1,h2,h3⟩:=nV hv ho
  have e:v.cells.zipIdx.foldl (fun cs (x:Value×Nat)=>cs.setIfInBounds (off+x.2) x.1) vs =
      (v.cells.toList.zipIdx 0).foldl (fun cs (x:Value×Nat)=>cs.setIfInBounds (off+x.2) x.1) vs:=by
    rw [← Array.foldl_toList];simp
  rw [e]
  refine ⟨by rw [zK3,zAi hle,h.size],?_,?_⟩
  · intro c hc
    unfold qZ at hc
    rcases List.mem_append.1 hc with hc | hc
    · rcases List.mem_append.1 hc with hc | hc
      · exact h.one c (List.mem_of_mem_take hc)
      · exact h2 c hc
    · exact h.one c (List.mem_of_mem_drop hc)
  · intro j c hj
    rw [zBm hle] at hj
    rw [zLM]
    simp only [Nat.add_zero,Array.length_toList,Nat.sub_zero]
    by_cases c1:j<off
    · rw [if_pos c1] at hj;rw [if_neg (by omega)];exact h.rep j c hj
    · rw [if_neg c1] at hj
      by_cases c2:j<off+av.cells.length
      · rw [if_pos c2] at hj
        rw [if_pos (by rw [h.size];omega)]
        have:=h3 _ c hj
        simpa [List.getD,Array.getD_eq_getD_getElem?] using this
      · rw [if_neg c2] at hj;rw [if_neg (by omega)];exact h.rep j c hj

def zBr (place:Nat→Option (Nat×Nat)):List AV→List (Nat×AV)→Option (List AV)
  | cs,[]=>some cs
  | cs,(i,v)::r =>
    match place i with
    | none=>none
    | some (off,size) =>
      bif (tR v&&Nat.beq v.cells.length size)&&Nat.ble (off+size) cs.length then zBr place (qZ cs off v.cells) r else none

theorem zEh {w:World} {I:Nat→Prop} {T:Tbl} {place:Nat→Option (Nat×Nat)} {ρ:Operand→Value} {A:Operand→AV} (parts:List (Nat×Operand)) :
    ∀ (vs:Array Value) (cs cs':List AV),nM w I T vs cs→(∀ p∈parts,Rep w I T (ρ p.2) (A p.2))→zBr place cs (parts.map fun p=>(p.1,A p.2))=some cs' →
      ∃ vs',Instr.fill place vs (parts.map fun p=>(p.1,ρ p.2))=some vs'∧nM w I T vs' cs':=by
  induction parts with
  | nil=>intro vs cs cs' h _ hf;simp [zBr] at hf;subst hf;exact ⟨vs,rfl,h⟩
  | cons p r ih =>
    intro vs cs cs' h hr hf
    simp only [List.map_cons,zBr] at hf
    split at hf
    · cases hf
    · rename_i off size hp
      cases hc:((tR (A p.2)&&Nat.beq (A p.2).cells.length size)&&Nat.ble (off+size) cs.length)
      · rw [hc] at hf;cases hf
      rw [hc] at hf
      simp only [cond_true] at hf
      simp only [Bool.and_eq_true] at hc
      have hok:=hc.1.1
      have hs:=xO.1 hc.1.2
      have hle:=Nat.le_of_ble_eq_true hc.2
      have hrep:=hr p (by simp)
      obtain ⟨h1,_,_⟩:=nV hrep hok
      have hnew:=zIg h hrep hok (off:=off) (by omega)
      obtain ⟨vs',hf',hc'⟩:=ih _ _ _ hnew (fun q hq=>hr q (by simp [hq])) hf
      refine ⟨vs',?_,hc'⟩
      simp only [List.map_cons,Instr.fill,hp]
      rw [if_neg (by rw [h.size];simp only [Bool.or_eq_true,decide_eq_true_eq];omega)]
      exact hf'

theorem zF6 {av:AV} (h:av.one=true):tR av=true:=by cases av<;>simp_all [tR,AV.one]

theorem zG6 {z:Value} (h:zAM z=true):tR (zBx z)=true:=by
  by_cases ha:∃ vs,z=.agg vs
  · obtain ⟨vs,rfl⟩:=ha;rfl
  · have h1:kC z=true:=by cases z<;>first | exact h | exact absurd ⟨_,rfl⟩ ha
    have h2:zBx z=zAC z:=by cases z<;>first | rfl | exact absurd ⟨_,rfl⟩ ha
    rw [h2];exact zF6 (zDN h1)

def zDZ (P:Program) (t:TypeId):Option (List AV) :=
  match zBq P t with
  | some z=>bif zAM z then some (zBx z).cells else none
  | none=>none

theorem jB {P:Program} {t:TypeId} {cs:List AV} {w:World} {I:Nat→Prop} {T:Tbl} (h:zDZ P t=some cs) :
    ∃ z,zBq P t=some z∧nM w I T z.cells cs∧(zeroValue t).run P w=.ok z w:=by
  unfold zDZ at h
  split at h
  · rename_i z hz
    cases hc:zAM z
    · rw [hc] at h;cases h
    rw [hc] at h
    injection h with h;subst h
    have hrep:=zDM (w:=w) (I:=I) (T:=T) hc
    have hok:=zG6 hc
    obtain ⟨h1,h2,h3⟩:=nV hrep hok
    refine ⟨z,hz,⟨h1,h2,h3⟩,?_⟩
    unfold zBq at hz
    split at hz
    · rename_i i hi
      simp [zeroValue,typeInfo,hi,hz]
    · cases hz
  · cases h

def zCw (P:Program) (t:TypeId) (i:Nat):Option (Nat×Nat) :=
  match P.underlying t with
  | some (.struct fs)=>match fs[i]? with
    | some f=>some (f.offset,szT P f.type)
    | none=>none
  | some (.array _ e)=>some (i * szT P e,szT P e)
  | _=>none

/-- All that 'build' looks up. -/
def zIv (P:Program) (t:TypeId):Bool :=
  match P.underlying t with
  | some (.struct fs)=>fs.toList.all fun f=>wL P f.type
  | some (.array _ e)=>wL P e
  | _=>false

def zIx (P:Program) (t:TypeId) (A:Operand→AV) (parts:List (Nat×Operand)):Option (List Prop×AV) :=
  bif zIv P t then
    match zDZ P t with
    | some cs=>match zBr (zCw P t) cs (parts.map fun p=>(p.1,A p.2)) with
      | some cs'=>some ([],.agg cs')
      | none=>none
    | none=>none
  else none

theorem zHT {P:Program} {t:TypeId} {parts:Array (Nat×Operand)} {ρ:Operand→Value} {A:Operand→AV} {o:Oper} {w:World} {I:Nat→Prop} {T:Tbl} {r:List Prop×AV}
    (ho:o.op=.build t parts) (hr:∀ p∈parts.toList,Rep w I T (ρ p.2) (A p.2)) (h:zIx P t A parts.toList=some r):jY P ρ o w I T r.2:=by
  unfold zIx at h
  cases hb:zIv P t
  · rw [hb] at h;cases h
  rw [hb] at h
  simp only [cond_true] at h
  split at h
  · rename_i cs hz
    obtain ⟨z,_,hc,hzr⟩:=jB (w:=w) (I:=I) (T:=T) hz
    split at h
    · rename_i cs' hf
      injection h with h;subst h
      obtain ⟨vs',hf',hc'⟩:=zEh parts.toList _ _ _ hc hr hf
      refine .same (v:=.agg vs') ?_ (.agg hc'.size hc'.one hc'.rep)
      unfold zIv at hb
      split at hb
      · rename_i fs hu
        simp only [List.all_eq_true] at hb
        have hp:fs.toList.mapM (fun f=>(P.info? f.type).map fun i=>(f.offset,i.size))=some (fs.toList.map fun f=>(f.offset,szT P f.type)):=by
          refine mapM_some_of_forall (g:=fun f=>(f.offset,szT P f.type)) fs.toList fun f hf=>?_
          have hk:=hb f hf
          simp only [wL,Bool.and_eq_true,Option.isSome_iff_exists] at hk
          obtain ⟨_,i,hi⟩:=hk
          simp [hi,szT]
        have hpl:(fun x=>(fs.toList.map fun f=>(f.offset,szT P f.type))[x]?)=zCw P t:=by
          funext i
          simp only [zCw,hu,List.getElem?_map,Array.getElem?_toList]
          cases fs[i]?<;>rfl
        rw [← hpl] at hf'
        simp only [List.getElem?_map,Array.getElem?_toList] at hf'
        simp only [execOp,ho,Sem.run_bind]
        have:(Instr.build t (parts.map fun p=>(p.1,ρ p.2))).run P w=.ok (.agg vs') w:=by
          simp [Instr.build,run_underlying hu,hzr,Array.mapM_eq_mapM_toList,run_places w _ _ hp,hf']
        rw [this];rfl
      · rename_i n e hu
        have hpl:(fun i=>some (i * szT P e,szT P e))=zCw P t:=by
          funext i;simp only [zCw,hu]
        rw [← hpl] at hf'
        simp only [execOp,ho,Sem.run_bind]
        have:(Instr.build t (parts.map fun p=>(p.1,ρ p.2))).run P w=.ok (.agg vs') w:=by
          simp [Instr.build,run_underlying hu,hzr,w8 hb,hf']
        rw [this];rfl
      · cases hb
    · cases h
  · cases h

/-! Conversions. -/
def zDz (P:Program) (t:TypeId):Bool:=match P.underlying t with | some (.int .u8)=>true | _=>false
theorem zDU {P:Program} {t:TypeId} (h:zDz P t=true):P.underlying t=some (.int .u8):=by
  unfold zDz at h;split at h<;>simp_all

def zJV (P:Program) (src dst:TypeId) (x:AV) (h:xK):Option (List Prop×AV) :=
  match P.underlying src,P.underlying dst,x with
  | some _,some (.int k),.int _ n=>some ([],.int k (k.wrap n))
  | some _,some .string,.str l=>some ([],.str l)
  | some .string,some (.slice e),.str l=>bif zDz P e then some ([],.sl false 1 (l.map (AV.int .u8))) else none
  | some (.slice e),some .string,.sl _ sz L=>bif zDz P e&&Nat.beq sz 1 then some ([L=h.s.map (AV.int .u8)],.str h.s) else none
  | _,_,_=>none

theorem zGA (l:List Int):wW (l.map (AV.int .u8))=l.map (AV.int .u8):=by
  simp only [wW,List.flatMap_map]
  have:(fun a=>(AV.int IntKind.u8 a).cells)=fun a=>[AV.int .u8 a]:=by funext a;rfl
  rw [this]
  exact List.map_eq_flatMap.symm

theorem zHK {x:Int} (h:IntKind.u8.wrap x=x):0≤x∧x<256:=by
  have:=zCW .u8 x h
  simp only [IntKind.bits,IntKind.signed] at this
  simp at this
  exact this

theorem zLl (l:List Int):l.foldl (fun r n=>r.push (UInt8.ofNat n.toNat)) ByteArray.empty=vK l:=by
  have key:∀ (l:List Int) (r:ByteArray),(l.foldl (fun r n=>r.push (UInt8.ofNat n.toNat)) r).data.toList=r.data.toList++l.map fun x=>UInt8.ofNat x.toNat:=by
    intro l
    induction l with
    | nil=>intro r;simp
    | cons a s ih=>intro r;simp [ih]
  apply WideShapes.bytes_inj
  rw [key]
  simp [vK]

/-- Bytes in memory become a string. -/
theorem zDd {P:Program} {w:World} {I:Nat→Prop} {x:Value} {s:List Int} {news:List Value} (h:Src P w I 1 x (s.map (AV.int .u8)) news) (hx:∃ a n c,x=.slice a n c) :
    (Conv.bytesToString x).run P w=.ok (.string (vK s)) w∧∀ c∈s,0≤c∧c<256:=by
  have hnews:news=s.map (Value.int .u8)∧∀ c∈s,0≤c∧c<256:=by
    have hr:=h.rep
    have hl:=h.len
    simp only [List.length_map,Nat.mul_one] at hl
    have each:∀ (k:Nat) (c:Int),s[k]?=some c→news[k]?=some (.int .u8 c)∧0≤c∧c<256:=by
      intro k c hk
      have h1:=hr k (.int .u8 c) (by rw [zGA,List.getElem?_map,hk];rfl)
      have hlt:k<news.length:=by
        rw [hl]
        rcases Nat.lt_or_ge k s.length with h' | h'
        · exact h'
        · rw [List.getElem?_eq_none h'] at hk;cases hk
      have e:news.getD k undef=news[k]:=by simp [List.getD,hlt]
      rw [e] at h1
      generalize hv:news[k]=v at h1
      cases h1 with
      | int hw=>exact ⟨by rw [List.getElem?_eq_getElem hlt,hv],zHK hw⟩
    refine ⟨?_,?_⟩
    · apply List.ext_getElem?
      intro k
      rw [List.getElem?_map]
      cases hk:s[k]? with
      | none =>
        rw [Option.map_none]
        apply List.getElem?_eq_none
        rw [hl]
        exact List.getElem?_eq_none_iff.1 hk
      | some c=>rw [(each k c hk).1];rfl
    · intro c hc
      obtain ⟨k,hk⟩:=List.mem_iff_getElem?.1 hc
      exact (each k c hk).2
  obtain ⟨hn,hrange⟩:=hnews
  refine ⟨?_,hrange⟩
  obtain ⟨a,n,c,rfl⟩:=hx
  have hlen:=h.lenOf w
  simp only [Builtin.lenOf,Sem.run_pure,Result.ok.injEq,List.length_map,and_true] at hlen
  subst hlen
  have hcells:=h.cells s.length w (by simp) (fun _ _=>rfl)
  rw [List.take_of_length_le (by rw [h.len];simp)] at hcells
  cases a with
  | none =>
    simp only [Builtin.firstCells,Sem.run_pure,Result.ok.injEq,and_true] at hcells
    have:s=[]:=by
      have h2:news=[]:=by
        have:=congrArg Array.toList hcells
        simpa using this.symm
      rw [hn] at h2
      simpa using h2
    subst this
    simp [Conv.bytesToString,vK]
    rfl
  | some a =>
    simp only [Builtin.firstCells,Nat.mul_one] at hcells
    rw [hn] at hcells
    rw [run_bytesToString w a s.length c s (by simpa using hcells),zLl]

theorem zIN {P:Program} {src dst:TypeId} {x:Operand} {ρ:Operand→Value} {o:Oper} {w:World} {I:Nat→Prop} {T:Tbl} {X:AV} {hn:xK} {r:List Prop×AV}
    (ho:o.op=.convert src dst x) (hx:Rep w I T (ρ x) X) (h:zJV P src dst X hn=some r) (hv:∀ p∈r.1,p):jY P ρ o w I T r.2:=by
  unfold zJV at h
  generalize hX:ρ x=vx at hx
  split at h
  · rename_i d k k' n hs hd
    injection h with h;subst h
    cases hx with
    | int wn =>
    exact .same (v:=.int k (k.wrap n)) (by simp [execOp,ho,hX,convert,run_underlying hs,run_underlying hd,Conv.intToInt]) (.int (tM _ _))
  · rename_i d l hs hd
    injection h with h;subst h
    cases hx with
    | str hr hl =>
    refine .same (v:=.string (vK l)) ?_ (.str hr hl)
    simp only [execOp,ho,hX,convert,Sem.run_bind,run_underlying hs,run_underlying hd,Result.andThen_ok]
    rfl
  · rename_i e l hs hd
    cases hu:zDz P e
    · rw [hu] at h;cases h
    rw [hu] at h
    injection h with h;subst h
    have he:=zDU hu
    obtain ⟨news,hsrc⟩:=zJj (P:=P) hx
    cases hx with
    | str hr hl =>
    have hfc:=hsrc.cells l.length w (by simp) (fun _ _=>rfl)
    rw [Nat.mul_one,List.take_of_length_le (by rw [hsrc.len];simp)] at hfc
    have harr:((vK l).data.map fun b=>Value.int .u8 b.toNat)=news.toArray:=by
      simp only [Builtin.firstCells,zBS,List.drop_zero,Sem.run_pure,Result.ok.injEq,and_true] at hfc
      rw [List.take_of_length_le (Nat.le_refl _)] at hfc
      exact hfc
    have hgc:=grownCap_ge w l.length 0 e
    have hgm:=grownCap_le_maxLen w l.length 0 e hl
    let C:Array Value:=news.toArray++Array.replicate (grownCap w l.length 0 e - l.length) (.int .u8 0)
    let w1:World:=w.drew.alloc (.cells C e)
    have hh1:w1.heap[w.heap.size]?=some (.cells C e (0,0)):=heap_alloc_new w.drew _
    let w2:World:=w1.freeze ⟨w.heap.size,C.size,none⟩ 1
    have hh2:w2.heap[w.heap.size]?=some (.cells C e (C.size,C.size+1)):=by
      simp only [w2,World.freeze,Nat.succ_ne_zero,if_false,Array.getElem?_modify,if_true,hh1,Option.map_some]
      rfl
    have hh3:∀ b,b≠w.heap.size→w2.heap[b]?=w1.heap[b]?:=by
      intro b hb
      simp only [w2,World.freeze,Nat.succ_ne_zero,if_false,Array.getElem?_modify]
      rw [if_neg (fun e=>hb e.symm)]
    have hg:w.grownBy w2 none:=by
      refine ⟨rfl,rfl,rfl,?_,fun k hk _=>?_⟩
      · simp [w2,w1,World.freeze]
      · rw [hh3 k (by omega)]
        exact heap_alloc_old w.drew _ k hk
    refine ⟨.slice (some ⟨w.heap.size,0,none⟩) l.length (grownCap w l.length 0 e),w2,?_,hg,fun I' T' hI hI2 hT=>?_⟩
    · have hb:(Conv.stringToBytes e (vK l)).run P w=.ok (.slice (some ⟨w.heap.size,0,none⟩) l.length (grownCap w l.length 0 e)) w2:=by
        simp only [Conv.stringToBytes,harr,j0]
        have hshape:w1.shape? w.heap.size=some (e,C.size):=by simp [World.shape?,hh1]
        have hsem:(markStringish ⟨w.heap.size,0,none⟩).run P w1=.ok () w2:=by
          simp only [markStringish,shape,Sem.run_bind,Sem.run,hshape,Result.andThen_ok,freeze]
          rfl
        simp [Question.forced,newRow]
        have hsem':=hsem
        simp only [w1,C,grownCap] at hsem'
        rw [hsem']
        rfl
      simp only [execOp,ho,hX,convert,Sem.run_bind,run_underlying hs,run_underlying hd,run_underlying he,Result.andThen_ok,hb]
      rfl
    · have hn:news.length=l.length:=by have:=hsrc.len;simpa using this
      refine zCJ hh2 (hI2 _ (Nat.le_refl _) (by simp [w2,w1,World.freeze])) (by simp) hgc hgm hsrc.wid hsrc.one (by simp [C,hn]) ?_
      intro k c hk
      have hkl:k<l.length:=by
        rcases Nat.lt_or_ge k l.length with h' | h'
        · exact h'
        · rw [zGA,List.getElem?_eq_none (by simpa using h')] at hk;cases hk
      have e1:C.getD k undef=news.getD k undef:=by
        simp only [C,Array.getD_eq_getD_getElem?,List.getD]
        rw [Array.getElem?_append_left (by simp;omega)]
        simp
      rw [e1]
      exact (hsrc.rep k c hk).mono hg.size (fun b _ hlt=>hg.block b hlt (by simp)) hI (fun _ _ h=>h)
  · rename_i e full sz L hs hd
    cases hu:(zDz P e&&Nat.beq sz 1)
    · rw [hu] at h;cases h
    rw [hu] at h
    simp only [cond_true,Bool.and_eq_true] at h hu
    injection h with h;subst h
    have he:=zDU hu.1
    have hsz:=xO.1 hu.2
    subst hsz
    have hL:L=hn.s.map (AV.int .u8):=hv _ (by simp)
    subst hL
    obtain ⟨news,hsrc⟩:=zFf (P:=P) hx
    obtain ⟨base,cap,hform,hc1,hc2,_⟩:=zAV hx
    obtain ⟨hrun,hrange⟩:=zDd hsrc ⟨_,_,_,hform⟩
    refine .same (v:=.string (vK hn.s)) ?_ (.str hrange (by simp at hc2;omega))
    rw [hform] at hrun
    simp only [execOp,ho,hX,hform,Sem.run_bind,run_convert_bytes_string w src dst e _ _ _ hs he hd,hrun,Result.andThen_ok]
    rfl
  · cases h
end Go.Ab
