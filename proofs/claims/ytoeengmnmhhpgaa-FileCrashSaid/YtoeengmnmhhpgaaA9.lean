/- A layer over the model: abstract values and states, and the rules by which the printed proofs go. No conditions. -/
import Derived.Test.YtoeengmnmhhpgaaA7
import Derived.DataBytes
import Derived.Lib.Bytealg
/- Values built out of parts, conversions, and all that only computes, in one function. -/
namespace Go.Ab
open Go
def pZ (av:AV):Bool:=match av with | .agg _=>true | a=>a.one
theorem BQ {w:World} {I:Nat→Prop} {T:Tbl} {v:Value} {av:AV} (h:Rep w I T v av) (ho:pZ av=true) :
  v.cells.size=av.cells.length∧(∀ c∈av.cells,c.one=true)∧∀ j c,av.cells[j]?=some c→Rep w I T (v.cells.getD j undef) c:=by
 cases h with
 | junk=>simp [pZ,AV.one] at ho
 | tuple=>simp [pZ,AV.one] at ho
 | agg h1 h2 h3=>exact ⟨h1,h2,h3⟩
 | int h=>exact ⟨rfl,by simp [AV.cells,AV.one],fun j c hj=>by cases j<;>simp [AV.cells] at hj;subst hj;exact .int h⟩
 | bool=>exact ⟨rfl,by simp [AV.cells,AV.one],fun j c hj=>by cases j<;>simp [AV.cells] at hj;subst hj;exact .bool⟩
 | str h h'=>exact ⟨rfl,by simp [AV.cells,AV.one],fun j c hj=>by cases j<;>simp [AV.cells] at hj;subst hj;exact .str h h'⟩
 | sl0 h h'=>exact ⟨rfl,by simp [AV.cells,AV.one],fun j c hj=>by cases j<;>simp [AV.cells] at hj;subst hj;exact .sl0 h h'⟩
 | sl g h1 h2 h3 h4 h5 h6 h7 h8 h9 h10=>exact ⟨rfl,by simp [AV.cells,AV.one],fun j c hj=>by cases j<;>simp [AV.cells] at hj;subst hj;exact .sl g h1 h2 h3 h4 h5 h6 h7 h8 h9 h10⟩
 | ref g h1 h2 h3 h4 h5=>exact ⟨rfl,by simp [AV.cells,AV.one],fun j c hj=>by cases j<;>simp [AV.cells] at hj;subst hj;exact .ref g h1 h2 h3 h4 h5⟩
 | ptr h h'=>exact ⟨rfl,by simp [AV.cells,AV.one],fun j c hj=>by cases j<;>simp [AV.cells] at hj;subst hj;exact .ptr h h'⟩
 | ownNil h=>exact ⟨rfl,by simp [AV.cells,AV.one],fun j c hj=>by cases j<;>simp [AV.cells] at hj;subst hj;exact .ownNil h⟩
 | own h h1 h2=>exact ⟨rfl,by simp [AV.cells,AV.one],fun j c hj=>by cases j<;>simp [AV.cells] at hj;subst hj;exact .own h h1 h2⟩
 | part0 h=>exact ⟨rfl,by simp [AV.cells,AV.one],fun j c hj=>by cases j<;>simp [AV.cells] at hj;subst hj;exact .part0 h⟩
 | part h h1 h2 h3 h4 h5 h6=>exact ⟨rfl,by simp [AV.cells,AV.one],fun j c hj=>by cases j<;>simp [AV.cells] at hj;subst hj;exact .part h h1 h2 h3 h4 h5 h6⟩
 | fn h h'=>exact ⟨rfl,by simp [AV.cells,AV.one],fun j c hj=>by cases j<;>simp [AV.cells] at hj;subst hj;exact .fn h h'⟩
 | nilp=>exact ⟨rfl,by simp [AV.cells,AV.one],fun j c hj=>by cases j<;>simp [AV.cells] at hj;subst hj;exact .nilp⟩
 | nilsl=>exact ⟨rfl,by simp [AV.cells,AV.one],fun j c hj=>by cases j<;>simp [AV.cells] at hj;subst hj;exact .nilsl⟩
 | nb h=>exact ⟨rfl,by simp [AV.cells,AV.one],fun j c hj=>by cases j<;>simp [AV.cells] at hj;subst hj;exact .nb h⟩
 | mp h=>exact ⟨rfl,by simp [AV.cells,AV.one],fun j c hj=>by cases j<;>simp [AV.cells] at hj;subst hj;exact .mp h⟩
 | raw=>exact ⟨rfl,by simp [AV.cells,AV.one],fun j c hj=>by cases j<;>simp [AV.cells] at hj;subst hj;exact .raw⟩
 | fm0=>exact ⟨rfl,by simp [AV.cells,AV.one],fun j c hj=>by cases j<;>simp [AV.cells] at hj;subst hj;exact .fm0⟩
 | fm gk gv h1 h2 h3 h4 h5 h6 h7 h8 h9=>exact ⟨rfl,by simp [AV.cells,AV.one],fun j c hj=>by cases j<;>simp [AV.cells] at hj;subst hj;exact .fm gk gv h1 h2 h3 h4 h5 h6 h7 h8 h9⟩
structure gY (w:World) (I:Nat→Prop) (T:Tbl) (vs:Array Value) (cs:List AV):Prop where
 size:vs.size=cs.length
 one:∀ c∈cs,c.one=true
 rep:∀ j c,cs[j]?=some c→Rep w I T (vs.getD j undef) c
def aI (cs:List AV) (off:Nat) (vs:List AV):List AV:=cs.take off++vs++cs.drop (off+vs.length)
theorem K0 {cs vs:List AV} {off:Nat} (h:off+vs.length≤cs.length) (k:Nat) :
  (aI cs off vs)[k]?=if k<off then cs[k]? else if k<off+vs.length then vs[k - off]? else cs[k]?:=by
 unfold aI
 have hl:(cs.take off).length=off:=by simp;omega
 split
 ·rename_i hk
  rw [List.append_assoc,List.getElem?_append_left (by omega),List.getElem?_take,if_pos hk]
 ·rename_i hk
  split
  ·rename_i hk2
   rw [List.getElem?_append_left (by simp;omega),List.getElem?_append_right (by omega),hl]
  ·rename_i hk2
   rw [List.getElem?_append_right (by simp;omega),List.getElem?_drop]
   congr 1
   simp;omega
theorem H8 {cs vs:List AV} {off:Nat} (h:off+vs.length≤cs.length):(aI cs off vs).length=cs.length:=by
 unfold aI;simp;omega
theorem zAm (off:Nat):∀ (l:List Value) (s:Nat) (cells:Array Value) (k:Nat),
  ((l.zipIdx s).foldl (fun cs (x:Value×Nat)=>cs.setIfInBounds (off+x.2) x.1) cells).getD k undef =
   if off+s≤k∧k<off+s+l.length∧k<cells.size then l.getD (k - off - s) undef else cells.getD k undef:=by
 intro l
 induction l with
 | nil=>intro s cells k;simp;omega
 | cons a r ih =>
  intro s cells k
  simp only [List.zipIdx_cons,List.foldl_cons]
  rw [ih]
  simp only [Array.size_setIfInBounds]
  by_cases h1:off+(s+1)≤k∧k<off+(s+1)+r.length∧k<cells.size
  ·rw [if_pos h1,if_pos (by simp only [zlc];omega)]
   obtain ⟨d,hd⟩:∃ d,k - off - s=d+1:=⟨k - off - s - 1,by omega⟩
   rw [hd,show k - off - (s+1)=d by omega]
   simp [List.getD]
  ·rw [if_neg h1]
   by_cases h2:k=off+s
   ·subst h2
    by_cases h3:off+s<cells.size
    ·rw [if_pos (by simp only [zlc];omega)]
     simp [Array.getD_eq_getD_getElem?,List.getD,h3]
    ·rw [if_neg (by omega)]
     simp [Array.getD_eq_getD_getElem?,h3]
   ·rw [if_neg (by simp only [zlc];omega)]
    simp only [Array.getD_eq_getD_getElem?,Array.getElem?_setIfInBounds]
    rw [if_neg (by omega)]
theorem zCi (off:Nat):∀ (l:List Value) (s:Nat) (cells:Array Value),
  ((l.zipIdx s).foldl (fun cs (x:Value×Nat)=>cs.setIfInBounds (off+x.2) x.1) cells).size=cells.size:=by
 intro l
 induction l with
 | nil=>intro s cells;rfl
 | cons a r ih=>intro s cells;simp only [List.zipIdx_cons,List.foldl_cons];rw [ih];simp
theorem zEI {w:World} {I:Nat→Prop} {T:Tbl} {vs:Array Value} {cs:List AV} {v:Value} {av:AV} {off:Nat} (h:gY w I T vs cs)
  (hv:Rep w I T v av) (ho:pZ av=true) (hle:off+av.cells.length≤cs.length) :
  gY w I T (v.cells.zipIdx.foldl (fun cs (x:Value×Nat)=>cs.setIfInBounds (off+x.2) x.1) vs) (aI cs off av.cells):=by
 obtain ⟨h1,h2,h3⟩:=BQ hv ho
 have e:v.cells.zipIdx.foldl (fun cs (x:Value×Nat)=>cs.setIfInBounds (off+x.2) x.1) vs =
   (v.cells.toList.zipIdx 0).foldl (fun cs (x:Value×Nat)=>cs.setIfInBounds (off+x.2) x.1) vs:=by
  rw [← Array.foldl_toList];simp
 rw [e]
 refine ⟨by rw [zCi,H8 hle,h.size],?_,?_⟩
 ·intro c hc
  unfold aI at hc
  rcases List.mem_append.1 hc with hc | hc
  ·rcases List.mem_append.1 hc with hc | hc
   ·exact h.one c (List.mem_of_mem_take hc)
   ·exact h2 c hc
  ·exact h.one c (List.mem_of_mem_drop hc)
 ·intro j c hj
  rw [K0 hle] at hj
  rw [zAm]
  simp only [Nat.add_zero,Array.length_toList,Nat.sub_zero]
  by_cases c1:j<off
  ·rw [if_pos c1] at hj;rw [if_neg (by omega)];exact h.rep j c hj
  ·rw [if_neg c1] at hj
   by_cases c2:j<off+av.cells.length
   ·rw [if_pos c2] at hj
    rw [if_pos (by rw [h.size];omega)]
    have:=h3 _ c hj
    simpa [List.getD,Array.getD_eq_getD_getElem?] using this
   ·rw [if_neg c2] at hj;rw [if_neg (by omega)];exact h.rep j c hj
def cM (place:Nat→Option (Nat×Nat)):List AV→List (Nat×AV)→Option (List AV)
 | cs,[]=>some cs
 | cs,(i,v)::r =>
  match place i with
  | none=>none
  | some (off,size) =>
   bif (pZ v&&Nat.beq v.cells.length size)&&Nat.ble (off+size) cs.length then cM place (aI cs off v.cells) r else none
theorem QO {w:World} {I:Nat→Prop} {T:Tbl} {place:Nat→Option (Nat×Nat)} {ρ:Operand→Value} {A:Operand→AV} (parts:List (Nat×Operand)) :
  ∀ (vs:Array Value) (cs cs':List AV),gY w I T vs cs→(∀ p∈parts,Rep w I T (ρ p.2) (A p.2))→cM place cs (parts.map fun p=>(p.1,A p.2))=some cs' →
   ∃ vs',Instr.fill place vs (parts.map fun p=>(p.1,ρ p.2))=some vs'∧gY w I T vs' cs':=by
 induction parts with
 | nil=>intro vs cs cs' h _ hf;simp [cM] at hf;subst hf;exact ⟨vs,rfl,h⟩
 | cons p r ih =>
  intro vs cs cs' h hr hf
  simp only [List.map_cons,cM] at hf
  split at hf
  ·cases hf
  ·rename_i off size hp
   cases hc:((pZ (A p.2)&&Nat.beq (A p.2).cells.length size)&&Nat.ble (off+size) cs.length)
   ·rw [hc] at hf;cases hf
   rw [hc] at hf
   simp only [cond_true] at hf
   simp only [zba] at hc
   have hok:=hc.1.1
   have hs:=x5.1 hc.1.2
   have hle:=zle hc.2
   have hrep:=hr p (by simp)
   obtain ⟨h1,_,_⟩:=BQ hrep hok
   have hnew:=zEI h hrep hok (off:=off) (by omega)
   obtain ⟨vs',hf',hc'⟩:=ih _ _ _ hnew (fun q hq=>hr q (by simp [hq])) hf
   refine ⟨vs',?_,hc'⟩
   simp only [List.map_cons,Instr.fill,hp]
   rw [if_neg (by rw [h.size];simp only [Bool.or_eq_true,decide_eq_true_eq];omega)]
   exact hf'
theorem zCa {av:AV} (h:av.one=true):pZ av=true:=by cases av<;>simp_all [pZ,AV.one]
theorem YY {z:Value} (h:mA z=true):pZ (oK z)=true:=by
 by_cases ha:∃ vs,z=.agg vs
 ·obtain ⟨vs,rfl⟩:=ha;rfl
 ·have h1:bQ z=true:=by cases z<;>first | exact h | exact absurd ⟨_,rfl⟩ ha
  have h2:oK z=mX z:=by cases z<;>first | rfl | exact absurd ⟨_,rfl⟩ ha
  rw [h2];exact zCa (UM h1)
def rI (P:Program) (t:TypeId):Option (List AV) :=
 match dJ P t with
 | some z=>bif mA z then some (oK z).cells else none
 | none=>none
theorem dX {P:Program} {t:TypeId} {cs:List AV} {w:World} {I:Nat→Prop} {T:Tbl} (h:rI P t=some cs) :
  ∃ z,dJ P t=some z∧gY w I T z.cells cs∧(zeroValue t).run P w=.ok z w:=by
 unfold rI at h
 split at h
 ·rename_i z hz
  cases hc:mA z
  ·rw [hc] at h;cases h
  rw [hc] at h
  injection h with h;subst h
  have hrep:=NP (w:=w) (I:=I) (T:=T) hc
  have hok:=YY hc
  obtain ⟨h1,h2,h3⟩:=BQ hrep hok
  refine ⟨z,hz,⟨h1,h2,h3⟩,?_⟩
  unfold dJ at hz
  split at hz
  ·rename_i i hi
   simp [zeroValue,typeInfo,hi,hz]
  ·cases hz
 ·cases h
def AE (P:Program) (t:TypeId) (i:Nat):Option (Nat×Nat) :=
 match P.underlying t with
 | some (.struct fs)=>match fs[i]? with
  | some f=>some (f.offset,szT P f.type)
  | none=>none
 | some (.array _ e)=>some (i * szT P e,szT P e)
 | _=>none
def MS (P:Program) (t:TypeId):Bool :=
 match P.underlying t with
 | some (.struct fs)=>fs.toList.all fun f=>vR P f.type
 | some (.array _ e)=>vR P e
 | _=>false
def J7 (P:Program) (t:TypeId) (A:Operand→AV) (parts:List (Nat×Operand)):Option (List Prop×AV) :=
 bif MS P t then
  match rI P t with
  | some cs=>match cM (AE P t) cs (parts.map fun p=>(p.1,A p.2)) with
   | some cs'=>some ([],.agg cs')
   | none=>none
  | none=>none
 else none
theorem zBa {P:Program} {t:TypeId} {parts:Array (Nat×Operand)} {ρ:Operand→Value} {A:Operand→AV} {o:Oper} {w:World} {I:Nat→Prop} {T:Tbl} {r:List Prop×AV}
  (ho:o.op=.build t parts) (hr:∀ p∈parts.toList,Rep w I T (ρ p.2) (A p.2)) (h:J7 P t A parts.toList=some r):jE P ρ o w I T r.2:=by
 unfold J7 at h
 cases hb:MS P t
 ·rw [hb] at h;cases h
 rw [hb] at h
 simp only [cond_true] at h
 split at h
 ·rename_i cs hz
  obtain ⟨z,_,hc,hzr⟩:=dX (w:=w) (I:=I) (T:=T) hz
  split at h
  ·rename_i cs' hf
   injection h with h;subst h
   obtain ⟨vs',hf',hc'⟩:=QO parts.toList _ _ _ hc hr hf
   refine .same (v:=.agg vs') ?_ (.agg hc'.size hc'.one hc'.rep)
   unfold MS at hb
   split at hb
   ·rename_i fs hu
    simp only [List.all_eq_true] at hb
    have hp:fs.toList.mapM (fun f=>(P.info? f.type).map fun i=>(f.offset,i.size))=some (fs.toList.map fun f=>(f.offset,szT P f.type)):=by
     refine mapM_some_of_forall (g:=fun f=>(f.offset,szT P f.type)) fs.toList fun f hf=>?_
     have hk:=hb f hf
     simp only [vR,zba,Option.isSome_iff_exists] at hk
     obtain ⟨_,i,hi⟩:=hk
     simp [hi,szT]
    have hpl:(fun x=>(fs.toList.map fun f=>(f.offset,szT P f.type))[x]?)=AE P t:=by
     funext i
     simp only [AE,hu,List.getElem?_map,Array.getElem?_toList]
     cases fs[i]?<;>rfl
    rw [← hpl] at hf'
    simp only [List.getElem?_map,Array.getElem?_toList] at hf'
    simp only [execOp,ho,Sem.run_bind]
    have:(Instr.build t (parts.map fun p=>(p.1,ρ p.2))).run P w=.ok (.agg vs') w:=by
     simp [Instr.build,run_underlying hu,hzr,Array.mapM_eq_mapM_toList,run_places w _ _ hp,hf']
    rw [this];rfl
   ·rename_i n e hu
    have hpl:(fun i=>some (i * szT P e,szT P e))=AE P t:=by
     funext i;simp only [AE,hu]
    rw [← hpl] at hf'
    simp only [execOp,ho,Sem.run_bind]
    have:(Instr.build t (parts.map fun p=>(p.1,ρ p.2))).run P w=.ok (.agg vs') w:=by
     simp [Instr.build,run_underlying hu,hzr,jA hb,hf']
    rw [this];rfl
   ·cases hb
  ·cases h
 ·cases h
/-! Conversions. -/
def dU (P:Program) (t:TypeId):Bool:=match P.underlying t with | some (.int .u8)=>true | _=>false
theorem E7 {P:Program} {t:TypeId} (h:dU P t=true):P.underlying t=some (.int .u8):=by
 unfold dU at h;split at h<;>simp_all
def KN (P:Program) (src dst:TypeId) (x:AV) (h:xN):Option (List Prop×AV) :=
 match P.underlying src,P.underlying dst,x with
 | some _,some (.int k),.int _ n=>some ([],.int k (k.wrap n))
 | some _,some .string,.str l=>some ([],.str l)
 | some .string,some (.slice e),.str l=>bif dU P e then some ([],.sl false 1 (l.map (AV.int .u8))) else none
 | some (.slice e),some .string,.sl _ sz L=>bif dU P e&&Nat.beq sz 1 then some ([L=h.s.map (AV.int .u8)],.str h.s) else none
 | _,_,_=>none
theorem VE (l:List Int):wM (l.map (AV.int .u8))=l.map (AV.int .u8):=by
 simp only [wM,List.flatMap_map]
 have:(fun a=>(AV.int IntKind.u8 a).cells)=fun a=>[AV.int .u8 a]:=by funext a;rfl
 rw [this]
 exact List.map_eq_flatMap.symm
theorem SO {x:Int} (h:IntKind.u8.wrap x=x):0≤x∧x<256:=by
 have:=M0 .u8 x h
 simp only [IntKind.bits,IntKind.signed] at this
 simp at this
 exact this
theorem zAN (l:List Int):l.foldl (fun r n=>r.push (UInt8.ofNat n.toNat)) ByteArray.empty=w9 l:=by
 have key:∀ (l:List Int) (r:ByteArray),(l.foldl (fun r n=>r.push (UInt8.ofNat n.toNat)) r).data.toList=r.data.toList++l.map fun x=>UInt8.ofNat x.toNat:=by
  intro l
  induction l with
  | nil=>intro r;simp
  | cons a s ih=>intro r;simp [ih]
 apply WideShapes.bytes_inj
 rw [key]
 simp [w9]
theorem S9 {P:Program} {w:World} {I:Nat→Prop} {x:Value} {s:List Int} {news:List Value} (h:Src P w I 1 x (s.map (AV.int .u8)) news) (hx:∃ a n c,x=.slice a n c) :
  (Conv.bytesToString x).run P w=.ok (.string (w9 s)) w∧∀ c∈s,0≤c∧c<256:=by
 have hnews:news=s.map (Value.int .u8)∧∀ c∈s,0≤c∧c<256:=by
  have hr:=h.rep
  have hl:=h.len
  simp only [List.length_map,Nat.mul_one] at hl
  have each:∀ (k:Nat) (c:Int),s[k]?=some c→news[k]?=some (.int .u8 c)∧0≤c∧c<256:=by
   intro k c hk
   have h1:=hr k (.int .u8 c) (by rw [VE,List.getElem?_map,hk];rfl)
   have hlt:k<news.length:=by
    rw [hl]
    rcases zlg k s.length with h' | h'
    ·exact h'
    ·rw [List.getElem?_eq_none h'] at hk;cases hk
   have e:news.getD k undef=news[k]:=by simp [List.getD,hlt]
   rw [e] at h1
   generalize hv:news[k]=v at h1
   cases h1 with
   | int hw=>exact ⟨by rw [List.getElem?_eq_getElem hlt,hv],SO hw⟩
  refine ⟨?_,?_⟩
  ·apply List.ext_getElem?
   intro k
   rw [List.getElem?_map]
   cases hk:s[k]? with
   | none =>
    rw [Option.map_none]
    apply List.getElem?_eq_none
    rw [hl]
    exact List.getElem?_eq_none_iff.1 hk
   | some c=>rw [(each k c hk).1];rfl
  ·intro c hc
   obtain ⟨k,hk⟩:=List.mem_iff_getElem?.1 hc
   exact (each k c hk).2
 obtain ⟨hn,hrange⟩:=hnews
 refine ⟨?_,hrange⟩
 obtain ⟨a,n,c,rfl⟩:=hx
 have hlen:=h.lenOf w
 simp only [Builtin.lenOf,Sem.run_pure,Result.ok.injEq,List.length_map,and_true] at hlen
 subst hlen
 have hcells:=h.cells s.length w (by simp) (fun _ _=>rfl)
 rw [List.take_of_length_le (by rw [h.len];simp)] at hcells
 cases a with
 | none =>
  simp only [Builtin.firstCells,Sem.run_pure,Result.ok.injEq,and_true] at hcells
  have:s=[]:=by
   have h2:news=[]:=by
    have:=congrArg Array.toList hcells
    simpa using this.symm
   rw [hn] at h2
   simpa using h2
  subst this
  simp [Conv.bytesToString,w9]
  rfl
 | some a =>
  simp only [Builtin.firstCells,Nat.mul_one] at hcells
  rw [hn] at hcells
  rw [run_bytesToString w a s.length c s (by simpa using hcells),zAN]
theorem ZF {P:Program} {src dst:TypeId} {x:Operand} {ρ:Operand→Value} {o:Oper} {w:World} {I:Nat→Prop} {T:Tbl} {X:AV} {hn:xN} {r:List Prop×AV}
  (ho:o.op=.convert src dst x) (hx:Rep w I T (ρ x) X) (h:KN P src dst X hn=some r) (hv:∀ p∈r.1,p):jE P ρ o w I T r.2:=by
 unfold KN at h
 generalize hX:ρ x=vx at hx
 split at h
 ·rename_i d k k' n hs hd
  injection h with h;subst h
  cases hx with
  | int wn =>
  exact .same (v:=.int k (k.wrap n)) (by simp [execOp,ho,hX,convert,run_underlying hs,run_underlying hd,Conv.intToInt]) (.int (aN _ _))
 ·rename_i d l hs hd
  injection h with h;subst h
  cases hx with
  | str hr hl =>
  refine .same (v:=.string (w9 l)) ?_ (.str hr hl)
  simp only [execOp,ho,hX,convert,Sem.run_bind,run_underlying hs,run_underlying hd,Result.andThen_ok]
  rfl
 ·rename_i e l hs hd
  cases hu:dU P e
  ·rw [hu] at h;cases h
  rw [hu] at h
  injection h with h;subst h
  have he:=E7 hu
  obtain ⟨news,hsrc⟩:=VO (P:=P) hx
  cases hx with
  | str hr hl =>
  have hfc:=hsrc.cells l.length w (by simp) (fun _ _=>rfl)
  rw [Nat.mul_one,List.take_of_length_le (by rw [hsrc.len];simp)] at hfc
  have harr:((w9 l).data.map fun b=>Value.int .u8 b.toNat)=news.toArray:=by
   simp only [Builtin.firstCells,MZ,zdz,Sem.run_pure,Result.ok.injEq,and_true] at hfc
   rw [List.take_of_length_le (Nat.le_refl _)] at hfc
   exact hfc
  have hgc:=grownCap_ge w l.length 0 e
  have hgm:=grownCap_le_maxLen w l.length 0 e hl
  let C:Array Value:=news.toArray++Array.replicate (grownCap w l.length 0 e - l.length) (.int .u8 0)
  let w1:World:=w.drew.alloc (.cells C e)
  have hh1:w1.heap[w.heap.size]?=some (.cells C e (0,0)):=heap_alloc_new w.drew _
  let w2:World:=w1.freeze ⟨w.heap.size,C.size,none⟩ 1
  have hh2:w2.heap[w.heap.size]?=some (.cells C e (C.size,C.size+1)):=by
   simp only [w2,World.freeze,Nat.succ_ne_zero,if_false,Array.getElem?_modify,if_true,hh1,Option.map_some]
   rfl
  have hh3:∀ b,b≠w.heap.size→w2.heap[b]?=w1.heap[b]?:=by
   intro b hb
   simp only [w2,World.freeze,Nat.succ_ne_zero,if_false,Array.getElem?_modify]
   rw [if_neg (fun e=>hb e.symm)]
  have hg:w.grownBy w2 none:=by
   refine ⟨rfl,rfl,rfl,?_,fun k hk _=>?_⟩
   ·simp [w2,w1,World.freeze]
   ·rw [hh3 k (by omega)]
    exact heap_alloc_old w.drew _ k hk
  refine ⟨.slice (some ⟨w.heap.size,0,none⟩) l.length (grownCap w l.length 0 e),w2,?_,hg,fun I' T' hI hI2 hT=>?_⟩
  ·have hb:(Conv.stringToBytes e (w9 l)).run P w=.ok (.slice (some ⟨w.heap.size,0,none⟩) l.length (grownCap w l.length 0 e)) w2:=by
    simp only [Conv.stringToBytes,harr,dY]
    have hshape:w1.shape? w.heap.size=some (e,C.size):=by simp [World.shape?,hh1]
    have hsem:(markStringish ⟨w.heap.size,0,none⟩).run P w1=.ok () w2:=by
     simp only [markStringish,shape,Sem.run_bind,Sem.run,hshape,Result.andThen_ok,freeze]
     rfl
    simp [Question.forced,newRow]
    have hsem':=hsem
    simp only [w1,C,grownCap] at hsem'
    rw [hsem']
    rfl
   simp only [execOp,ho,hX,convert,Sem.run_bind,run_underlying hs,run_underlying hd,run_underlying he,Result.andThen_ok,hb]
   rfl
  ·have hn:news.length=l.length:=by have:=hsrc.len;simpa using this
   refine K2 hh2 (hI2 _ (Nat.le_refl _) (by simp [w2,w1,World.freeze])) (by simp) hgc hgm hsrc.wid hsrc.one (by simp [C,hn]) ?_
   intro k c hk
   have hkl:k<l.length:=by
    rcases zlg k l.length with h' | h'
    ·exact h'
    ·rw [VE,List.getElem?_eq_none (by simpa using h')] at hk;cases hk
   have e1:C.getD k undef=news.getD k undef:=by
    simp only [C,Array.getD_eq_getD_getElem?,List.getD]
    rw [Array.getElem?_append_left (by simp;omega)]
    simp
   rw [e1]
   exact (hsrc.rep k c hk).mono hg.size (fun b _ hlt=>hg.block b hlt (by simp)) hI (fun _ _ h=>h)
 ·rename_i e full sz L hs hd
  cases hu:(dU P e&&Nat.beq sz 1)
  ·rw [hu] at h;cases h
  rw [hu] at h
  simp only [cond_true,zba] at h hu
  injection h with h;subst h
  have he:=E7 hu.1
  have hsz:=x5.1 hu.2
  subst hsz
  have hL:L=hn.s.map (AV.int .u8):=hv _ (by simp)
  subst hL
  obtain ⟨news,hsrc⟩:=JE (P:=P) hx
  obtain ⟨base,cap,hform,hc1,hc2,_⟩:=EK hx
  obtain ⟨hrun,hrange⟩:=S9 hsrc ⟨_,_,_,hform⟩
  refine .same (v:=.string (w9 hn.s)) ?_ (.str hrange (by simp at hc2;omega))
  rw [hform] at hrun
  simp only [execOp,ho,hX,hform,Sem.run_bind,run_convert_bytes_string w src dst e _ _ _ hs he hd,hrun,Result.andThen_ok]
  rfl
 ·cases h
end Go.Ab

/- All that only computes, in one function; its soundness as a step of the relation. -/
namespace Go.Ab
open Go
def kC:List (Nat×AV)→Nat→AV
 | [],_=>.junk
 | (k,v)::r,t=>bif Nat.beq t k then v else kC r t
def xA (rs:List (Nat×AV)):Operand→AV
 | .tmp t=>kC rs t
 | .const v=>oK v
 | .global _=>.junk
 | .func f=>.fn f []
theorem XS {st:AS} {rs:List (Nat×AV)} (h:∀ x∈rs,st.slot x.1=x.2) (t:Nat):kC rs t=.junk∨kC rs t=st.slot t:=by
 induction rs with
 | nil=>exact .inl rfl
 | cons a r ih =>
  simp only [kC]
  cases hb:Nat.beq t a.1
  ·exact ih fun x hx=>h x (by simp [hx])
  ·have:=x5.1 hb
   subst this
   exact .inr (h a (by simp)).symm
theorem vO {G:uA} {st:AS} {T:Tbl} {a:Act} {w:World} {rs:List (Nat×AV)} (h:tJ G st T a w) (hr:∀ x∈rs,st.slot x.1=x.2) {x:Operand} (hx:xB x=true) :
  Rep w (imm G st T) T (a.eval x) (xA rs x):=by
 cases x with
 | tmp t =>
  rcases XS hr t with h' | h'
  ·simp only [xA,h'];exact .junk
  ·simp only [xA,h'];exact h.slots t
 | const v=>exact NP hx
 | global g=>exact .junk
 | func f=>exact .fn rfl (fun j c hj=>by simp at hj)
def nz:AV→AV
 | .nilsl=>.sl true 0 []
 | v=>v
theorem pG {w:World} {I:Nat→Prop} {T:Tbl} {v:Value} {av:AV} (h:Rep w I T v av):Rep w I T v (nz av):=by
 cases av with
 | nilsl=>cases h;exact .sl0 (by simp [maxLen]) (fun _=>rfl)
 | _=>exact h
def lX:Option Operand→Bool
 | some x=>xB x
 | none=>true
def jL:List Int→Int→Int
 | [],_ => -1
 | b::l,c=>if b=c then 0 else if jL l c = -1 then -1 else jL l c+1
theorem zAE {l:List Int} (hl:∀ x∈l,0≤x∧x<256) {c:Int} (hc:0≤c∧c<256):Lib.indexByte (w9 l).data.toList c.toNat.toUInt8=jL l c:=by
 have e:(w9 l).data.toList=l.map fun x=>UInt8.ofNat x.toNat:=by simp [w9]
 rw [e]
 induction l with
 | nil=>rfl
 | cons b r ih =>
  have hb:=hl b (by simp)
  have ih:=ih (fun x hx=>hl x (by simp [hx])) (by simp [w9])
  simp only [List.map_cons,Lib.indexByte,jL]
  rw [ih]
  have e2:(UInt8.ofNat b.toNat==c.toNat.toUInt8)=decide (b=c):=by
   rw [Bool.eq_iff_iff,beq_iff_eq,decide_eq_true_eq]
   constructor
   ·intro h
    have h2:=congrArg UInt8.toNat h
    simp only [UInt8.toNat_ofNat',Nat.toUInt8_eq] at h2
    omega
   ·rintro rfl;rfl
  rw [e2]
  by_cases h:b=c
  ·simp [h]
  ·simp only [h,decide_false,Bool.false_eq_true,if_false,beq_iff_eq]
def GC (P : Program) (g : FuncId) : Prop := ∃ fn, P.funcs[g]? = some fn ∧ (fn.name == "runtime.NumGoroutine") = false ∧ fn.body.isNone = true ∧ Extern.findNext fn = none ∧ Extern.find fn = some Extern.BytealgIndexByte.indexByte
def WD (P:Program) (g:FuncId):Bool:=match P.funcs[g]? with | some fn=>fn.body.isNone | none=>false
def S7 (P:Program) (f:AV) (xs:List AV):Option (List Prop×AV) :=
 match f,xs with
 | .fn g [],[.str s,.int .u8 c]=>bif WD P g then some ([GC P g],.int .i64 (jL s c)) else none
 | _,_=>none
theorem zCN (l:List Int) (c:Int) : -1≤jL l c∧jL l c<l.length∨l=[]∧jL l c = -1:=by
 induction l with
 | nil=>right;exact ⟨rfl,rfl⟩
 | cons b r ih =>
  left
  simp only [jL,zlc]
  split
  ·omega
  ·split
   ·omega
   ·rcases ih with h | ⟨rfl,h⟩
    ·omega
    ·simp [jL] at *
def vop (P:Program) (o:Oper) (A:Operand→AV) (h:xN):Option (List Prop×AV) :=
 match o.op with
 | .move x=>bif xB x then some ([],A x) else none
 | .assign x=>bif xB x then some ([],A x) else none
 | .pick c a b=>bif xB c&&(xB a&&xB b) then
   match A c with
   | .bool t=>some ([t=h.b],bif h.b then A a else A b)
   | _=>none
  else none
 | .binOp op xT x y _=>bif xB x&&xB y then JU P op xT (A x) (A y) else none
 | .unOp op _ x=>bif xB x then vun op (A x) else none
 | .convert s d x=>bif xB x then KN P s d (nz (A x)) h else none
 | .field s x f=>bif xB x then KY P s (A x) f else none
 | .fieldAddr s x f=>bif xB x then N2 P s (A x) f else none
 | .indexAddr t x i=>bif xB x&&xB i then KO P t (nz (A x)) (A i) h else none
 | .index t x i=>bif xB x&&xB i then NG P t (A x) (A i) h else none
 | .load t x=>bif xB x then MI P t (A x) else none
 | .slice t x lo hi mx=>bif (xB x&&lX lo)&&(lX hi&&lX mx) then K9 P t (fun y=>nz (A y)) x lo hi mx h else none
 | .build t parts=>bif parts.toList.all (fun p=>xB p.2) then J7 P t A parts.toList else none
 | .extract x i=>bif xB x then
   match A x with
   | .tuple vs=>match vs[i]? with
    | some av=>some ([],av)
    | none=>none
   | _=>none
  else none
 | .nilCheck x=>bif xB x then
   match A x with
   | .ref av=>some ([],.ref av)
   | .ptr id sz i off=>some ([],.ptr id sz i off)
   | _=>none
  else none
 | .makeFunc (.func f) first captured=>bif first.isEmpty&&captured.toList.all xB then some ([],.fn f (captured.toList.map A)) else none
 | .call { callee:=.builtin b,args:=args,argTypes:=ts } =>
  match b,args.toList,ts.toList with
  | .len,[x],[t]=>bif xB x then OB P t (nz (A x)) h else none
  | .append,[x,y],[t,t2]=>bif xB x&&xB y then J8 P t t2 (nz (A x)) (nz (A y)) h else none
  | .max,[x,y],_=>bif xB x&&xB y then EQ .max (A x) (A y) else none
  | .min,[x,y],_=>bif xB x&&xB y then EQ .min (A x) (A y) else none
  | _,_,_=>none
 | .call { callee:=.value f,args:=args,argTypes:=_ }=>bif xB f&&args.toList.all xB then S7 P (A f) (args.toList.map A) else none
 | _=>none
theorem xJ {α:Type} {b:Bool} {x:Option α} {r:α} (h:(bif b then x else none)=some r):b=true∧x=some r:=by
 cases b
 ·cases h
 ·exact ⟨rfl,h⟩
theorem rK {α:Type} {a:Array α} {x:α} (h:a.toList=[x]):a=#[x]:=Array.ext' (by simpa using h)
theorem nN {α:Type} {a:Array α} {x y:α} (h:a.toList=[x,y]):a=#[x,y]:=Array.ext' (by simpa using h)
theorem zCH {P:Program} {o:Oper} {A:Operand→AV} {ρ:Operand→Value} {w:World} {I:Nat→Prop} {T:Tbl} {hn:xN} {r:List Prop×AV}
  (hA:∀ x,xB x=true→Rep w I T (ρ x) (A x)) (h:vop P o A hn=some r) (hv:∀ p∈r.1,p):jE P ρ o w I T r.2:=by
 unfold vop at h
 split at h
 ·rename_i x ho
  obtain ⟨hx,h⟩:=xJ h
  injection h with h;subst h
  exact .same (v:=ρ x) (by simp [execOp,ho]) (hA x hx)
 ·rename_i x ho
  obtain ⟨hx,h⟩:=xJ h
  injection h with h;subst h
  exact .same (v:=ρ x) (by simp [execOp,ho]) (hA x hx)
 ·rename_i c a b ho
  obtain ⟨hx,h⟩:=xJ h
  simp only [zba] at hx
  split at h
  ·rename_i t ht
   injection h with h;subst h
   have hc:=hA c hx.1
   rw [ht] at hc
   have htb:t=hn.b:=hv _ (by simp)
   generalize hC:ρ c=vc at hc
   cases hc with
   | bool =>
   subst htb
   cases hb:hn.b
   ·rw [hb] at hC
    exact .same (v:=ρ b) (by simp [execOp,ho,hC,asBool]) (hA b hx.2.2)
   ·rw [hb] at hC
    exact .same (v:=ρ a) (by simp [execOp,ho,hC,asBool]) (hA a hx.2.1)
  ·cases h
 ·rename_i op xT x y yT ho
  obtain ⟨hx,h⟩:=xJ h
  simp only [zba] at hx
  exact zAV ho (hA x hx.1) (hA y hx.2) h hv
 ·rename_i op xT x ho
  obtain ⟨hx,h⟩:=xJ h
  exact zEo ho (hA x hx) h
 ·rename_i s d x ho
  obtain ⟨hx,h⟩:=xJ h
  exact ZF ho (pG (hA x hx)) h hv
 ·rename_i s x f ho
  obtain ⟨hx,h⟩:=xJ h
  exact zDZ ho (hA x hx) h
 ·rename_i s x f ho
  obtain ⟨hx,h⟩:=xJ h
  exact WP ho (hA x hx) h
 ·rename_i t x i ho
  obtain ⟨hx,h⟩:=xJ h
  simp only [zba] at hx
  exact XD ho (pG (hA x hx.1)) (hA i hx.2) h hv
 ·rename_i t x i ho
  obtain ⟨hx,h⟩:=xJ h
  simp only [zba] at hx
  exact WF ho (hA x hx.1) (hA i hx.2) h hv
 ·rename_i t x ho
  obtain ⟨hx,h⟩:=xJ h
  exact YO ho (hA x hx) h
 ·rename_i t x lo hi mx ho
  obtain ⟨hx,h⟩:=xJ h
  simp only [zba] at hx
  refine WT ho (pG (hA x hx.1.1)) (fun y hy=>?_) h hv
  rcases hy with rfl | rfl | rfl
  ·exact pG (hA y hx.1.2)
  ·exact pG (hA y hx.2.1)
  ·exact pG (hA y hx.2.2)
 ·rename_i t parts ho
  obtain ⟨hx,h⟩:=xJ h
  simp only [List.all_eq_true] at hx
  exact zBa ho (fun p hp=>hA p.2 (hx p hp)) h
 ·rename_i x i ho
  obtain ⟨hx,h⟩:=xJ h
  split at h
  ·rename_i vs hvs
   split at h
   ·rename_i av hav
    injection h with h;subst h
    have hr:=hA x hx
    rw [hvs] at hr
    generalize hX:ρ x=vx at hr
    cases hr with
    | tuple h1 h2 =>
    rename_i us
    have hlt:i<us.size:=by
     rw [h1]
     rcases zlg i vs.length with h' | h'
     ·exact h'
     ·rw [List.getElem?_eq_none h'] at hav;cases hav
    have:=h2 i av hav
    refine .same (v:=us[i]) ?_ (by simpa [Array.getD_eq_getD_getElem?,hlt] using this)
    simp [execOp,ho,hX,Instr.extract,hlt]
   ·cases h
  ·cases h
 ·rename_i x ho
  obtain ⟨hx,h⟩:=xJ h
  have hr:=hA x hx
  split at h
  ·rename_i av hav
   injection h with h;subst h
   rw [hav] at hr
   generalize hX:ρ x=vx at hr
   have hr2:=hr
   cases hr with
   | ref g=>exact .same (by simp [execOp,ho,hX]) hr2
  ·rename_i id sz i off hav
   injection h with h;subst h
   rw [hav] at hr
   generalize hX:ρ x=vx at hr
   have hr2:=hr
   cases hr with
   | ptr g=>exact .same (by simp [execOp,ho,hX]) hr2
  ·cases h
 ·rename_i f first captured ho
  obtain ⟨hx,h⟩:=xJ h
  simp only [zba,List.all_eq_true] at hx
  injection h with h;subst h
  have he:first=#[]:=by simpa using hx.1
  subst he
  refine .same (v:=.func (.func f) #[] (captured.map ρ)) (by simp [execOp,ho,Instr.makeFunc]) (.fn (by simp) ?_)
  intro j c hj
  rw [List.getElem?_map] at hj
  cases hcj:captured.toList[j]? with
  | none=>rw [hcj] at hj;cases hj
  | some y =>
   rw [hcj] at hj;injection hj with hj;subst hj
   have hy:=hA y (hx.2 y (List.mem_of_getElem? hcj))
   rw [Array.getElem?_toList] at hcj
   have:(captured.map ρ).getD j undef=ρ y:=by simp [Array.getD_eq_getD_getElem?,hcj]
   rw [this]
   exact hy
 ·rename_i b args ts ho
  split at h
  ·rename_i x t ha ht
   obtain ⟨hx,h⟩:=xJ h
   rw [rK ha,rK ht] at ho
   exact zC5 ho (pG (hA x hx)) h hv
  ·rename_i x y t t2 ha ht
   obtain ⟨hx,h⟩:=xJ h
   simp only [zba] at hx
   rw [nN ha,nN ht] at ho
   exact zCd ho (pG (hA x hx.1)) (pG (hA y hx.2)) h hv
  ·rename_i x y ha
   obtain ⟨hx,h⟩:=xJ h
   simp only [zba] at hx
   rw [nN ha] at ho
   exact TQ ho (hA x hx.1) (hA y hx.2) h
  ·rename_i x y ha
   obtain ⟨hx,h⟩:=xJ h
   simp only [zba] at hx
   rw [nN ha] at ho
   exact TQ ho (hA x hx.1) (hA y hx.2) h
  ·cases h
 ·rename_i f args ts ho
  obtain ⟨hx,h⟩:=xJ h
  simp only [zba,List.all_eq_true] at hx
  obtain ⟨hf,hx⟩:=hx
  unfold S7 at h
  split at h
  case h_2=>cases h
  rename_i g s c hAf hAx
  obtain ⟨_,h⟩:=xJ h
  injection h with h;subst h
  obtain ⟨fn,k1,k2,k3,k4,k5⟩:GC P g:=hv _ (by simp)
  have hrf:=hA f hf
  rw [hAf] at hrf
  rcases hal:args.toList with _ | ⟨x,_ | ⟨y,_ | ⟨z,q⟩⟩⟩
  ·rw [hal] at hAx;simp at hAx
  ·rw [hal] at hAx;simp at hAx
  ·rw [hal] at hAx hx
   simp only [List.map_cons,List.map_nil,List.cons.injEq,and_true] at hAx
   have h1:=hA x (hx x (by simp))
   have h2:=hA y (hx y (by simp))
   rw [hAx.1] at h1
   rw [hAx.2] at h2
   generalize hvf:ρ f=vf at hrf
   generalize hvx:ρ x=vx at h1
   generalize hvy:ρ y=vy at h2
   cases hrf with
   | fn hs hc =>
   cases h1 with
   | str hb hl =>
   cases h2 with
   | int hw =>
   have hcr:=SO hw
   rename_i cv
   have hcv:cv=#[]:=Array.eq_empty_of_size_eq_zero (by simpa using hs)
   subst hcv
   rw [nN hal] at ho
   have hrun:=run_callFunc_extern k1 k2 k3 k4 k5 #[.string (w9 s),.int .u8 c] w
   rw [Lib.run_indexByteString,zAE hb hcr] at hrun
   refine .same (v:=.int .i64 (jL s c)) ?_ (.int ?_)
   ·simp only [execOp,ho]
    simp [resolve,Deferred.ofValue,invoke,hvf,hvx,hvy,hrun,Result.andThen]
   ·have:=zCN s c
    rw [qC] at hl
    refine iD _ _ ?_
    simp only [IntKind.signed,IntKind.bits]
    simp
    omega
  ·rw [hal] at hAx;simp at hAx
 ·cases h
def uO (P:Program) (N np:Nat) (o:Oper) (E:Eff):Prop :=
 ∀ G st a w,G.n=N→G.foot.length=np→E.holds st→Rel G st a w→o.wp P a w (fun a' w'=>Rel G (st.upd E) a' w') (fun _ _ _=>False)
theorem uR {P:Program} {o:Oper} {a:Act} {w w':World} {v:Value} {K:Act→World→Prop} {Q:Exit→Act→World→Prop} (h:(execOp a.eval o).run P w=.ok (.value v) w')
  (hk:K (a.put o.dst v) w'):o.wp P a w K Q:=by
 unfold Oper.wp
 rw [h]
 exact hk
theorem fW {G:uA} {st:AS} {T:Tbl} {a:Act} {w:World} (h:tJ G st T a w) {id:Nat} {bx:Box} {b cap:Nat} (hl:st.box id=.live bx) (hT:T id=some (.at b cap)):b<w.heap.size:=by
 have hok:=h.boxes id bx hl
 rw [hT] at hok
 exact hok.lt
theorem RO {G:uA} {st:AS} {T:Tbl} {a:Act} {w:World} (h:tJ G st T a w) {b:Nat} (hb:w.heap.size≤b):imm G st T b:=by
 refine ⟨.inr (.inl (Nat.le_trans h.kept.size hb)),fun id bx cap hl hT=>?_⟩
 have:=fW h hl hT
 omega
def uD (N:Nat):Option Tmp→Bool
 | some d=>Nat.blt d N
 | none=>true
theorem uH {N:Nat} {dst:Option Tmp} {d:Nat} {av av':AV} (h:uD N dst=true) (he:dst.map (fun x=>(x,av))=some (d,av')):d<N∧av'=av:=by
 cases dst with
 | none=>cases he
 | some x =>
  simp only [Option.map_some,Option.some.injEq,Prod.mk.injEq] at he
  obtain ⟨rfl,rfl⟩:=he
  exact ⟨by have:=h;simp [uD,Nat.blt] at this;omega,rfl⟩
theorem XF {P:Program} {N np:Nat} {o:Oper} {rs:List (Nat×AV)} {hn:xN} {r:List Prop×AV} (h:vop P o (xA rs) hn=some r) (hv:∀ p∈r.1,p) (hd:uD N o.dst=true) :
  uO P N np o { rs:=rs,dst:=o.dst.map fun d=>(d,r.2) }:=by
 intro G st a w hN hnp hE ⟨T,hT⟩
 obtain ⟨v,w',hrun,hg,hrep⟩:=zCH (P:=P) (ρ:=a.eval) (fun x hx=>vO hT hE.1 hx) h hv
 refine uR hrun ?_
 refine hT.quiet hg rfl (by simp [Option.map_map,Function.comp_def]) ?_
 intro d av he
 obtain ⟨hlt,rfl⟩:=uH hd he
 exact ⟨by omega,hrep _ _ (fun _ h _=>h) (fun b hb _=>RO hT hb) (fun _ _ h=>h)⟩
end Go.Ab

/- Operations on the call's own blocks: new kB, loads, stores. -/
namespace Go.Ab
open Go
def nO (agg:Bool) (sz:Nat):Nat→List AV→List AV
 | 0,_=>[]
 | n+1,cs=>(bif agg then AV.agg (cs.take sz) else cs.headD .junk)::nO agg sz n (cs.drop sz)
theorem OC {agg:Bool} {sz:Nat} (hs:agg=false→sz=1):∀ (n:Nat) (cs:List AV),cs.length=n * sz→(∀ c∈cs,c.one=true) →
  wM (nO agg sz n cs)=cs∧(∀ av∈nO agg sz n cs,av.cells.length=sz)∧(∀ av∈nO agg sz n cs,∀ c∈av.cells,c.one=true)∧(nO agg sz n cs).length=n:=by
 intro n
 induction n with
 | zero=>intro cs hl _;simp at hl;subst hl;simp [nO,wM]
 | succ n ih =>
  intro cs hl h1
  rw [Nat.add_mul,Nat.one_mul] at hl
  obtain ⟨e1,e2,e3,e4⟩:=ih (cs.drop sz) (by simp;omega) (fun c hc=>h1 c (List.mem_of_mem_drop hc))
  have hd:(bif agg then AV.agg (cs.take sz) else cs.headD .junk).cells=cs.take sz∧(bif agg then AV.agg (cs.take sz) else cs.headD .junk).cells.length=sz:=by
   cases agg
   ·have:=hs rfl
    subst this
    cases cs with
    | nil=>simp at hl
    | cons a r =>
     have ha:=h1 a (by simp)
     have:a.cells=[a]:=by cases a<;>simp_all [AV.one,AV.cells]
     simp [this]
   ·simp [AV.cells];omega
  refine ⟨?_,?_,?_,by simp [nO,e4]⟩
  ·simp only [nO,wM,List.flatMap_cons] at e1 ⊢
   rw [e1,hd.1,List.take_append_drop]
  ·intro av hav
   simp only [nO,List.mem_cons] at hav
   rcases hav with rfl | hav
   ·exact hd.2
   ·exact e2 av hav
  ·intro av hav c hc
   simp only [nO,List.mem_cons] at hav
   rcases hav with rfl | hav
   ·rw [hd.1] at hc;exact h1 c (List.mem_of_mem_take hc)
   ·exact e3 av hav c hc
def c9 (P:Program) (e:TypeId):Bool:=vD P e||Nat.beq (szT P e) 1
theorem JJ {P:Program} {e:TypeId} (h:c9 P e=true):vD P e=false→szT P e=1:=by
 intro h0
 simp only [c9,h0,Bool.false_or] at h
 exact x5.1 h
def D4 (P:Program) (t:TypeId):Option (Nat×TypeId):=match P.underlying t with | some (.array n e)=>some (n,e) | _=>none
def EU (P:Program) (t:TypeId) (h:xN):Option (Box×Nat) :=
 match rI P t with
 | none=>none
 | some cs =>
  bif h.b then
   match D4 P t with
   | some (n,e)=>bif ((vR P e&&c9 P e)&&(Nat.beq cs.length (n * szT P e)&&AV.pures cs))&&Nat.ble n 9223372036854775807 then some (.row t (szT P e) (nO (vD P e) (szT P e) n cs),n) else none
   | none=>none
  else some (.var t cs,0)
theorem OT {P:Program} {w:World} {t:TypeId} {v:Value}:(newVar t v).run P w=.ok ⟨w.heap.size,0,none⟩ (w.alloc (.cells v.cells t)):=by
 simp [newVar,newRow]
theorem zDB {P:Program} {t:TypeId} {hn:xN} {bx:Box} {cap:Nat} {w:World} (h:EU P t hn=some (bx,cap)) :
  ∃ z,(zeroValue t).run P w=.ok z w∧∀ I T w',w'.heap[w.heap.size]?=some (.cells z.cells t (0,0))→qK w' I T (some (.at w.heap.size cap)) bx:=by
 unfold EU at h
 split at h
 ·cases h
 rename_i cs hz
 obtain ⟨z,_,_,hzr⟩:=dX (w:=w) (I:=fun _=>True) (T:=Tbl.empty) hz
 refine ⟨z,hzr,fun I T w' hh=>?_⟩
 obtain ⟨z',hz1,hc,_⟩:=dX (w:=w') (I:=I) (T:=T) hz
 obtain ⟨z'',hz2,hc2,_⟩:=dX (w:=w') (I:=I) (T:=Tbl.empty) hz
 have e1:z'=z:=by
  obtain ⟨z3,hz3,_,hr3⟩:=dX (w:=w) (I:=fun _=>True) (T:=Tbl.empty) hz
  rw [hzr] at hr3;injection hr3 with hr3;rw [hz1] at hz3;injection hz3 with hz3;rw [hz3,hr3]
 have e2:z''=z:=by rw [hz1] at hz2;injection hz2 with hz2;rw [← hz2,e1]
 subst e1
 subst e2
 cases hb:hn.b
 ·rw [hb] at h
  simp only [cond_false,Option.some.injEq,Prod.mk.injEq] at h
  obtain ⟨rfl,rfl⟩:=h
  exact ⟨_,_,rfl,hh,hc.size,hc.one,hc.rep⟩
 ·rw [hb] at h
  simp only [cond_true] at h
  split at h
  ·rename_i n e ha
   replace h:=xJ h;obtain ⟨hc',h⟩:=h
   simp only [zba] at hc'
   obtain ⟨⟨⟨hk,hwid⟩,hlen,hp⟩,hmx⟩:=hc'
   simp only [Option.some.injEq,Prod.mk.injEq] at h
   obtain ⟨rfl,rfl⟩:=h
   obtain ⟨f1,f2,f3,f4⟩:=OC (JJ hwid) n cs (x5.1 hlen) hc.one
   refine .inr ⟨_,_,_,rfl,hh,by rw [hc.size];exact x5.1 hlen,by rw [f4];exact Nat.le_refl _,by rw [qC];exact zle hmx,f2,f3,?_⟩
   intro i av j c hi hj
   have:=bW f2 hi hj
   rw [f1] at this
   exact hc2.rep _ _ this
  ·cases h
theorem Z7 {P:Program} {N np:Nat} {o:Oper} {t:TypeId} {rs:List (Nat×AV)} {hn:xN} {bx:Box} {cap:Nat} (ho:o.op=.alloc t) (h:EU P t hn=some (bx,cap)) (hd:uD N o.dst=true) :
  uO P N np o { rs:=rs,rb:=[(hn.id,.unused)],dst:=o.dst.map fun d=>(d,.ptr hn.id 0 0 0),wb:=[(hn.id,.live bx)] }:=by
 intro G st a w hN hnp hE ⟨T,hT⟩
 obtain ⟨z,hzr,hbox⟩:=zDB (w:=w) h
 refine uR (v:=.pointer (some ⟨w.heap.size,0,none⟩)) (w':=w.alloc (.cells z.cells t)) ?_ ?_
 ·simp only [execOp,ho,Instr.alloc,Sem.run_bind,hzr,Result.andThen_ok,OT]
  rfl
 ·have hu:st.box hn.id=.unused:=hE.2 (hn.id,.unused) (by simp)
  refine hT.new (p:=.at w.heap.size cap) (DE _ _) rfl hu (by simp [Option.map_map,Function.comp_def]) (fun b c hp=>by injection hp with hp;omega) ?_ ?_
  ·exact hbox _ _ _ (heap_alloc_new w _)
  ·intro d av he
   obtain ⟨hlt,rfl⟩:=uH hd he
   exact ⟨by omega,.ptr (Tbl.put_same _ _ _) (by omega)⟩
def NB (P:Program) (t:TypeId) (cs:List AV) (h:xN):Option (Box×Nat) :=
 bif h.b then
  match D4 P t with
  | some (n,e)=>bif ((vR P e&&c9 P e)&&(Nat.beq cs.length (n * szT P e)&&AV.pures cs))&&Nat.ble n 9223372036854775807 then some (.row t (szT P e) (nO (vD P e) (szT P e) n cs),n) else none
  | none=>none
 else some (.var t cs,0)
theorem zBd {P:Program} {N np:Nat} {o:Oper} {t:TypeId} {x:Operand} {rs:List (Nat×AV)} {hn:xN} {bx:Box} {cap:Nat} (ho:o.op=.box t x) (hx:xB x=true) (hc:pZ (xA rs x)=true)
  (hb:NB P t (xA rs x).cells hn=some (bx,cap)) (hd:uD N o.dst=true) :
  uO P N np o { rs:=rs,rb:=[(hn.id,.unused)],dst:=o.dst.map fun d=>(d,.ptr hn.id 0 0 0),wb:=[(hn.id,.live bx)] }:=by
 intro G st a w hN hnp hE ⟨T,hT⟩
 have hrep:=vO hT hE.1 hx
 refine uR (v:=.pointer (some ⟨w.heap.size,0,none⟩)) (w':=w.alloc (.cells (a.eval x).cells t)) ?_ ?_
 ·simp only [execOp,ho,Instr.box,Sem.run_bind,Result.andThen_ok,OT]
  rfl
 ·have hu:st.box hn.id=.unused:=hE.2 (hn.id,.unused) (by simp)
  obtain ⟨h1,h2,h3⟩:=BQ hrep hc
  refine hT.new (p:=.at w.heap.size cap) (DE _ _) rfl hu (by simp [Option.map_map,Function.comp_def]) (fun b c hp=>by injection hp with hp;omega) ?_ ?_
  ·have hrep':∀ j c,(xA rs x).cells[j]?=some c→Rep (w.alloc (.cells (a.eval x).cells t)) (imm G (st.upd { rs:=rs,rb:=[(hn.id,.unused)],dst:=o.dst.map fun d=>(d,.ptr hn.id 0 0 0),wb:=[(hn.id,.live bx)] }) (T.put hn.id (.at w.heap.size cap))) (T.put hn.id (.at w.heap.size cap)) ((a.eval x).cells.getD j undef) c:=by
    intro j c hj
    refine (h3 j c hj).mono (by simp) (fun b _ hlt=>heap_alloc_old w _ b hlt) (fun b hI hlt=>?_) (Tbl.le_put (hT.unused _ hu))
    refine ⟨hI.1,fun id bx cap hl hTi=>?_⟩
    rw [cR] at hl
    simp only [dZ] at hl
    by_cases e:id=hn.id
    ·subst e;rw [Tbl.put_same] at hTi;injection hTi with hTi;injection hTi with hTi;omega
    ·rw [if_neg e] at hl;rw [Tbl.put_ne _ _ e] at hTi;exact hI.2 id bx cap hl hTi
   unfold NB at hb
   cases hbb:hn.b
   ·rw [hbb] at hb
    simp only [cond_false,Option.some.injEq,Prod.mk.injEq] at hb
    obtain ⟨rfl,rfl⟩:=hb
    exact ⟨_,_,rfl,heap_alloc_new w _,h1,h2,hrep'⟩
   ·rw [hbb] at hb
    simp only [cond_true] at hb
    split at hb
    ·rename_i n e ha
     replace hb:=xJ hb;obtain ⟨hc',hb⟩:=hb
     simp only [zba] at hc'
     obtain ⟨⟨⟨hk,hwid⟩,hlen,hp⟩,hmx⟩:=hc'
     simp only [Option.some.injEq,Prod.mk.injEq] at hb
     obtain ⟨rfl,rfl⟩:=hb
     obtain ⟨f1,f2,f3,f4⟩:=OC (JJ hwid) n _ (x5.1 hlen) h2
     refine .inr ⟨_,_,_,rfl,heap_alloc_new w _,by rw [h1];exact x5.1 hlen,by rw [f4];exact Nat.le_refl _,by rw [qC];exact zle hmx,f2,f3,?_⟩
     intro i av j c hi hj
     have hfg:=bW f2 hi hj
     rw [f1] at hfg
     exact (hrep' _ _ hfg).bare (AV.pures_get hp hfg)
    ·cases hb
  ·intro d av he
   obtain ⟨hlt,rfl⟩:=uH hd he
   exact ⟨by omega,.ptr (Tbl.put_same _ _ _) (by omega)⟩
/-! Loads. -/
def MG (P:Program) (t:TypeId) (x:AV) (B:Nat→yA) (h:xN):Option (List Prop×Nat×AV) :=
 match x with
 | .ptr id sz i off =>
  bif vR P t then
   match B id with
   | .live (.var _ cs) =>
    bif Nat.beq i 0&&c9 P t then
     match aX P t cs off with
     | some av=>some ([],id,av)
     | none=>none
    else none
   | .live (.row _ sz' l) =>
    bif c9 P t then
     bif h.b then
      bif (Nat.beq i 0&&Nat.beq off 0)&&vD P t then some ([wM l=h.l,h.l.length=szT P t],id,.agg h.l) else none
     else
      bif Nat.beq sz sz' then
       match aX P t h.av.cells off with
       | some av=>some ([l[i]?=some h.av],id,av)
       | none=>none
      else none
    else none
   | _=>none
  else none
 | _=>none
theorem YJ {P:Program} {N np:Nat} {o:Oper} {t:TypeId} {x:Operand} {rs:List (Nat×AV)} {hn:xN} {B:Nat→yA} {r:List Prop×Nat×AV} (ho:o.op=.load t x) (hx:xB x=true)
  (h:MG P t (xA rs x) B hn=some r) (hv:∀ p∈r.1,p) (hd:uD N o.dst=true) :
  uO P N np o { rs:=rs,rb:=[(r.2.1,B r.2.1)],dst:=o.dst.map fun d=>(d,r.2.2) }:=by
 intro G st a w hN hnp hE ⟨T,hT⟩
 have hrep:=vO hT hE.1 hx
 unfold MG at h
 split at h
 case h_2=>cases h
 rename_i id sz i off hX
 rw [hX] at hrep
 replace h:=xJ h;obtain ⟨hk,h⟩:=h
 -- the load itself
 have fin:∀ {b o':Nat} {av:AV} {g:Nat→Value},a.eval x=.pointer (some ⟨b,o',none⟩)→(vD P t=true→av=.agg av.cells∧av.cells.length=szT P t)→(vD P t=false→av.cells=[av]) →
   (∀ c∈av.cells,c.one=true)→(∀ j c,av.cells[j]?=some c→w.cell? ⟨b,o'+j,none⟩=some (g j))→(∀ j c,av.cells[j]?=some c→Rep w (imm G st T) T (g j) c) →
   o.wp P a w (fun a' w'=>Rel G (st.upd { rs:=rs,rb:=[(id,B id)],dst:=o.dst.map fun d=>(d,av) }) a' w') (fun _ _ _=>False):=by
  intro b o' av g he h1 h2 h3 h4 h5
  obtain ⟨v,hrun,hr⟩:=LH hk h1 h2 h4 h3 h5
  refine uR (v:=v) (w':=w) ?_ ?_
  ·simp only [execOp,ho,he,Instr.loadAt,Instr.sureAddr,Sem.run_bind,Sem.run_pure,Result.andThen_ok,hrun]
  ·refine hT.quiet (jN w) rfl (by simp [Option.map_map,Function.comp_def]) ?_
   intro d av' he'
   obtain ⟨hlt,rfl⟩:=uH hd he'
   exact ⟨by omega,hr⟩
 generalize he:a.eval x=vx at hrep
 cases hrep with
 | ptr hTi ho' =>
 rename_i o' b cap
 split at h
 ·rename_i tt cs hB
  replace h:=xJ h;obtain ⟨hi,h⟩:=h
  simp only [zba] at hi
  have hi0:=x5.1 hi.1
  split at h
  ·rename_i av hav
   injection h with h;subst h
   simp only at hE hv
   have hb:st.box id=.live (.var tt cs):=(hE.2 (id,B id) (by simp)).trans hB
   obtain ⟨b',C,hp,hh,h1,h2,h3⟩:=hT.boxes id _ hb
   rw [hTi] at hp;injection hp with hp;injection hp with hp1 hp2;subst hp1
   obtain ⟨ha,hnn,hsub,hone⟩:=rL hav h2
   refine fin (g:=fun j=>C.getD (off+j) undef) he ha hnn hone ?_ ?_
   ·intro j c hj
    have hs:=hsub j c hj
    have hlt:off+j<C.size:=by
     rw [h1]
     rcases zlg (off+j) cs.length with h' | h'
     ·exact h'
     ·rw [List.getElem?_eq_none h'] at hs;cases hs
    rw [ho',hi0]
    simp [World.cell?,hh,hlt]
   ·intro j c hj
    exact h3 _ _ (hsub j c hj)
  ·cases h
 ·rename_i e sz' l hB
  replace h:=xJ h;obtain ⟨hw,h⟩:=h
  cases hb2:hn.b
  ·rw [hb2] at h
   simp only [cond_false] at h
   replace h:=xJ h;obtain ⟨hs,h⟩:=h
   have hsz:=x5.1 hs
   subst hsz
   split at h
   ·rename_i av hav
    injection h with h;subst h
    simp only at hE hv
    have hget:l[i]?=some hn.av:=hv _ (by simp)
    have hb:st.box id=.live (.row e sz l):=(hE.2 (id,B id) (by simp)).trans hB
    rcases hT.boxes id _ hb with ⟨hp,_⟩ | ⟨b',cap',C,hp,hh,h1,h2,h3,h4,h5,h6⟩
    ·rw [hTi] at hp;cases hp
    rw [hTi] at hp;injection hp with hp;injection hp with hp1 hp2;subst hp1
    obtain ⟨ha,hnn,hsub,hone⟩:=rL hav (h5 _ (List.mem_of_getElem? hget))
    refine fin (g:=fun j=>C.getD (i * sz+(off+j)) undef) he ha hnn hone ?_ ?_
    ·intro j c hj
     have hs:=bW h4 hget (hsub j c hj)
     have hlt:i * sz+(off+j)<C.size:=by
      have:i * sz+(off+j)<(wM l).length:=by
       rcases zlg (i * sz+(off+j)) (wM l).length with h' | h'
       ·exact h'
       ·rw [List.getElem?_eq_none h'] at hs;cases hs
      rw [kL h4] at this
      have:=Nat.mul_le_mul_right sz h2
      omega
     rw [ho',Nat.add_assoc]
     simp [World.cell?,hh,hlt]
    ·intro j c hj
     exact (h6 i _ _ c hget (hsub j c hj)).mono (Nat.le_refl _) (fun _ _ _=>rfl) (fun _ h _=>h) (fun i p hp=>by simp [Tbl.empty] at hp)
   ·cases h
  ·rw [hb2] at h
   simp only [cond_true] at h
   replace h:=xJ h;obtain ⟨hs,h⟩:=h
   simp only [zba] at hs
   obtain ⟨⟨z1,z2⟩,hagg⟩:=hs
   have z1:=x5.1 z1
   have z2:=x5.1 z2
   injection h with h;subst h
   simp only at hE hv
   have hfl:wM l=hn.l:=hv _ (by simp)
   have hln:hn.l.length=szT P t:=hv _ (by simp)
   have hb:st.box id=.live (.row e sz' l):=(hE.2 (id,B id) (by simp)).trans hB
   rcases hT.boxes id _ hb with ⟨hp,_⟩ | ⟨b',cap',C,hp,hh,h1,h2,h3,h4,h5,h6⟩
   ·rw [hTi] at hp;cases hp
   rw [hTi] at hp;injection hp with hp;injection hp with hp1 hp2;subst hp1
   refine fin (g:=fun j=>C.getD j undef) he (fun _=>⟨rfl,hln⟩) (by rw [hagg];simp) ?_ ?_ ?_
   ·simp only [AV.cells];rw [← hfl];exact JB h5
   ·intro j c hj
    simp only [AV.cells] at hj
    rw [← hfl] at hj
    have hlt:j<C.size:=by
     have:j<(wM l).length:=by
      rcases zlg j (wM l).length with h' | h'
      ·exact h'
      ·rw [List.getElem?_eq_none h'] at hj;cases hj
     rw [kL h4] at this
     have:=Nat.mul_le_mul_right sz' h2
     omega
    rw [ho',z1,z2]
    simp [World.cell?,hh,hlt]
   ·intro j c hj
    simp only [AV.cells] at hj
    rw [← hfl] at hj
    obtain ⟨i',j',av,he',g1,g2⟩:=BK h4 hj
    have:=h6 i' av j' c g1 g2
    rw [he']
    exact this.mono (Nat.le_refl _) (fun _ _ _=>rfl) (fun _ h _=>h) (fun i p hp=>by simp [Tbl.empty] at hp)
 ·cases h
/-! Stores. -/
def bN (av:AV) (off:Nat) (vs:List AV):AV :=
 match av with
 | .agg cs=>.agg (aI cs off vs)
 | _=>vs.headD .junk
def KR (P:Program) (t:TypeId) (x v:AV) (B:Nat→yA) (h:xN):Option (List Prop×Nat×Box) :=
 match x with
 | .ptr id sz i off =>
  bif (vR P t&&pZ v)&&Nat.beq v.cells.length (szT P t) then
   match B id with
   | .live (.var tt cs)=>bif Nat.beq i 0&&Nat.ble (off+v.cells.length) cs.length then some ([],id,.var tt (aI cs off v.cells)) else none
   | .live (.row e sz' l) =>
    bif ((Nat.beq sz sz'&&v.pure)&&!(Nat.beq v.cells.length 0))&&(Nat.ble (off+v.cells.length) h.av.cells.length&&pZ h.av) then
     some ([l[i]?=some h.av,h.l=l.set i (bN h.av off v.cells)],id,.row e sz' h.l)
    else none
   | _=>none
  else none
 | _=>none
theorem YK {av:AV} {off:Nat} {vs:List AV} (h:pZ av=true) (hl:off+vs.length≤av.cells.length) (h1:∀ c∈vs,c.one=true) (hv:0<vs.length) :
  (bN av off vs).cells=aI av.cells off vs:=by
 cases av with
 | agg cs=>rfl
 | _ =>
  simp only [AV.cells,zls] at hl
  have e1:off=0:=by omega
  have e2:vs.length=1:=by omega
  subst e1
  match vs,e2 with
  | [a],_ =>
   have:=h1 a (by simp)
   have hc:a.cells=[a]:=by cases a<;>simp_all [AV.one,AV.cells]
   show a.cells=_
   rw [hc];rfl
theorem zDu {P:Program} {w:World} {t tt:TypeId} {b off:Nat} {v:Value} {C:Array Value} (hk:vR P t=true) (hs:v.cells.size=szT P t) (hh:w.heap[b]?=some (.cells C tt (0,0)))
  (h1:∀ u∈v.cells.toList,u.oneCell'=true) (hle:off+v.cells.size≤C.size) :
  (storeVar t ⟨b,off,none⟩ v).run P w=.ok () (w.setRow b (C.toList.take off++v.cells.toList++C.toList.drop (off+v.cells.size)).toArray):=by
 have:=run_storeCells_at P b off tt v.cells.toList 0 C w hh (by simpa using hle) h1
 simp only [storeVar,Sem.run_bind,jA hk,Result.andThen_ok,hs,ne_eq,not_true_eq_false,if_false]
 simpa [hs] using this
theorem H3 {w:World} {b:Nat} {C:Array Value}:w.grownBy (w.setRow b C) (some b) :=
 ⟨rfl,rfl,rfl,by simp,fun k _ hk=>setRow_other w b k _ (fun e=>hk (by rw [e]))⟩
theorem JP {C:Array Value} {vs:List Value} {off:Nat} (hle:off+vs.length≤C.size) (k:Nat) :
  ((C.toList.take off++vs++C.toList.drop (off+vs.length)).toArray).getD k undef=if off≤k∧k<off+vs.length then vs.getD (k - off) undef else C.getD k undef:=by
 simp only [Array.getD_eq_getD_getElem?,List.getElem?_toArray,List.getD]
 have hl:(C.toList.take off).length=off:=by simp;omega
 by_cases h1:k<off
 ·rw [if_neg (by omega),List.append_assoc,List.getElem?_append_left (by omega),List.getElem?_take,if_pos h1]
  simp
 ·by_cases h2:k<off+vs.length
  ·rw [if_pos ⟨by omega,h2⟩,List.getElem?_append_left (by simp only [zla];omega),List.getElem?_append_right (by omega),hl]
  ·rw [if_neg (by omega),List.getElem?_append_right (by simp only [zla];omega),List.getElem?_drop]
   simp only [zla,hl,Array.getElem?_toList]
   rw [show off+vs.length+(k - (off+vs.length))=k by omega]
theorem zDH {P:Program} {N np:Nat} {o:Oper} {t:TypeId} {x y:Operand} {rs:List (Nat×AV)} {hn:xN} {B:Nat→yA} {r:List Prop×Nat×Box} (ho:o.op=.store t x y) (hx:xB x=true) (hy:xB y=true)
  (h:KR P t (xA rs x) (xA rs y) B hn=some r) (hv:∀ p∈r.1,p) (hd:o.dst=none) :
  uO P N np o { rs:=rs,rb:=[(r.2.1,B r.2.1)],wb:=[(r.2.1,.live r.2.2)] }:=by
 intro G st a w hN hnp hE ⟨T,hT⟩
 have hrx:=vO hT hE.1 hx
 have hry:=vO hT hE.1 hy
 unfold KR at h
 split at h
 case h_2=>cases h
 rename_i id sz i off hX
 rw [hX] at hrx
 replace h:=xJ h;obtain ⟨hc,h⟩:=h
 simp only [zba] at hc
 obtain ⟨⟨hk,hok⟩,hln⟩:=hc
 have hln:=x5.1 hln
 obtain ⟨c1,c2,c3⟩:=BQ hry hok
 have hvs:(a.eval y).cells.size=szT P t:=by rw [c1,hln]
 have hone:∀ u∈(a.eval y).cells.toList,u.oneCell'=true:=by
  intro u hu
  obtain ⟨j,hj⟩:=List.mem_iff_getElem?.1 hu
  have hjl:j<(a.eval y).cells.size:=by
   rcases zlg j (a.eval y).cells.size with h' | h'
   ·exact h'
   ·rw [List.getElem?_eq_none (by simpa using h')] at hj;cases hj
  have hjc:j<(xA rs y).cells.length:=by omega
  have:=c3 j _ (List.getElem?_eq_getElem hjc)
  have e:(a.eval y).cells.getD j undef=u:=by
   rw [Array.getElem?_toList] at hj
   simp [Array.getD_eq_getD_getElem?,hj]
  rw [e] at this
  exact this.oneCell (c2 _ (List.getElem_mem hjc))
 generalize he:a.eval x=vx at hrx
 cases hrx with
 | ptr hTi ho' =>
 rename_i o' b cap
 -- the run
 have hexec:∀ {C:Array Value} {tt:TypeId},w.heap[b]?=some (.cells C tt (0,0))→o'+(a.eval y).cells.size≤C.size →
   (execOp a.eval o).run P w=.ok .skip (w.setRow b (C.toList.take o'++(a.eval y).cells.toList++C.toList.drop (o'+(a.eval y).cells.size)).toArray):=by
  intro C tt hh hle
  simp only [execOp,ho,he,Instr.storeAt,Instr.sureAddr,Sem.run_bind,Sem.run_pure,Result.andThen_ok,zDu hk hvs hh hone hle]
 split at h
 ·rename_i tt cs hB
  replace h:=xJ h;obtain ⟨hc',h⟩:=h
  simp only [zba] at hc'
  have hi0:=x5.1 hc'.1
  have hle:=zle hc'.2
  injection h with h;subst h
  simp only at hE hv
  have hb:st.box id=.live (.var tt cs):=(hE.2 (id,B id) (by simp)).trans hB
  have hokb:=hT.boxes id _ hb
  obtain ⟨b',C,hp,hh,h1,h2,h3⟩:=hokb
  have hp0:=hp
  rw [hTi] at hp;injection hp with hp;injection hp with hp1 hp2;subst hp1
  have ho2:o'=off:=by rw [ho',hi0];omega
  subst ho2
  have hle2:o'+(a.eval y).cells.size≤C.size:=by omega
  unfold Oper.wp
  rw [hexec hh hle2]
  show Rel G _ (a.put o.dst undef) _
  refine hT.write hb hTi H3 rfl (by rw [hd];rfl) ?_ (fun d av hE=>by cases hE)
  refine ⟨b,_,hp0,setRow_heap w b C _ tt _ hh,?_,?_,?_⟩
  ·rw [H8 hle];simp;omega
  ·intro c hc
   unfold aI at hc
   rcases List.mem_append.1 hc with hc | hc
   ·rcases List.mem_append.1 hc with hc | hc
    ·exact h2 c (List.mem_of_mem_take hc)
    ·exact c2 c hc
   ·exact h2 c (List.mem_of_mem_drop hc)
  ·intro j c hj
   have hmono:∀ {v av},Rep w (imm G st T) T v av→Rep (w.setRow b (C.toList.take o'++(a.eval y).cells.toList++C.toList.drop (o'+(a.eval y).cells.size)).toArray) (imm G st T) T v av:=fun h =>
    h.mono (by simp) (fun b2 hI _=>setRow_other w b b2 _ (fun e=>by subst e;exact hI.2 id _ cap hb hTi)) (fun _ h _=>h) (fun _ _ h=>h)
   rw [K0 hle] at hj
   have hsz:(a.eval y).cells.size=(a.eval y).cells.toList.length:=by simp
   rw [hsz,JP (by simpa using hle2)]
   simp only [Array.length_toList]
   by_cases k1:j<o'
   ·rw [if_pos k1] at hj;rw [if_neg (by omega)];exact hmono (h3 j c hj)
   ·rw [if_neg k1] at hj
    by_cases k2:j<o'+(xA rs y).cells.length
    ·rw [if_pos k2] at hj;rw [if_pos (by omega)]
     have:=c3 _ c hj
     refine hmono ?_
     simpa [List.getD,Array.getD_eq_getD_getElem?] using this
    ·rw [if_neg k2] at hj;rw [if_neg (by omega)];exact hmono (h3 j c hj)
 ·rename_i e sz' l hB
  replace h:=xJ h;obtain ⟨hc',h⟩:=h
  simp only [zba] at hc'
  obtain ⟨⟨⟨hs,hpure⟩,hnz⟩,hle,hoke⟩:=hc'
  have hs:=x5.1 hs
  have hle:=zle hle
  injection h with h;subst h
  simp only at hE hv
  have hget:l[i]?=some hn.av:=hv _ (by simp)
  have hset:hn.l=l.set i (bN hn.av off (xA rs y).cells):=hv _ (by simp)
  have hb:st.box id=.live (.row e sz' l):=(hE.2 (id,B id) (by simp)).trans hB
  have hp0:=hT.boxes id _ hb
  rcases hp0 with ⟨hp,_⟩ | ⟨b',cap',C,hp,hh,h1,h2,h3,h4,h5,h6⟩
  ·rw [hTi] at hp;cases hp
  have hp0:=hp
  rw [hTi] at hp;injection hp with hp;injection hp with hp1 hp2;subst hp1
  subst hs
  have hil:i<l.length:=by
   rcases zlg i l.length with h' | h'
   ·exact h'
   ·rw [List.getElem?_eq_none h'] at hget;cases hget
  have hwid:=h4 _ (List.mem_of_getElem? hget)
  have hle2:o'+(a.eval y).cells.size≤C.size:=by
   have:=Nat.mul_le_mul_right sz (show i+1≤cap' by omega)
   rw [Nat.add_mul] at this
   omega
  unfold Oper.wp
  rw [hexec hh hle2]
  show Rel G _ (a.put o.dst undef) _
  have hmono:∀ {v av},Rep w (imm G st T) Tbl.empty v av→Rep (w.setRow b (C.toList.take o'++(a.eval y).cells.toList++C.toList.drop (o'+(a.eval y).cells.size)).toArray) (imm G st T) Tbl.empty v av:=fun h =>
   h.mono (by simp) (fun b2 hI _=>setRow_other w b b2 _ (fun e=>by subst e;exact hI.2 id _ cap hb hTi)) (fun _ h _=>h) (fun _ _ h=>h)
  refine hT.write hb hTi H3 rfl (by rw [hd];rfl) ?_ (fun d av hE=>by cases hE)
  by_cases hz:(xA rs y).cells.length=0
  ·rw [hz] at hnz;simp at hnz
  have hcells:=YK hoke hle c2 (Nat.pos_of_ne_zero hz)
  have hmem:∀ av∈hn.l,av∈l∨av=bN hn.av off (xA rs y).cells:=by
   intro av hav
   rw [hset] at hav
   exact List.mem_or_eq_of_mem_set hav
  refine .inr ⟨b,cap',_,hp0,setRow_heap w b C _ e _ hh,?_,by rw [hset];simpa using h2,h3,?_,?_,?_⟩
  ·simp;omega
  ·intro av hav
   rcases hmem av hav with h' | h'
   ·exact h4 av h'
   ·rw [h',hcells,H8 hle];exact hwid
  ·intro av hav c hc
   rcases hmem av hav with h' | h'
   ·exact h5 av h' c hc
   ·rw [h',hcells] at hc
    unfold aI at hc
    rcases List.mem_append.1 hc with hc | hc
    ·rcases List.mem_append.1 hc with hc | hc
     ·exact h5 _ (List.mem_of_getElem? hget) c (List.mem_of_mem_take hc)
     ·exact c2 c hc
    ·exact h5 _ (List.mem_of_getElem? hget) c (List.mem_of_mem_drop hc)
  ·intro i' av j c hi' hj
   have hsz:(a.eval y).cells.size=(a.eval y).cells.toList.length:=by simp
   rw [hsz,JP (by simpa using hle2)]
   simp only [Array.length_toList]
   rw [hset,List.getElem?_set] at hi'
   by_cases hii:i=i'
   ·subst hii
    rw [if_pos rfl,if_pos hil] at hi'
    injection hi' with hi';subst hi'
    rw [hcells,K0 hle] at hj
    by_cases k1:j<off
    ·rw [if_pos k1] at hj;rw [if_neg (by omega)];exact hmono (h6 i _ j c hget hj)
    ·rw [if_neg k1] at hj
     by_cases k2:j<off+(xA rs y).cells.length
     ·rw [if_pos k2] at hj;rw [if_pos (by omega)]
      have:=c3 _ c hj
      have hpc:c.pure=true:=by
       cases hY:xA rs y with
       | agg cs=>rw [hY] at hj hpure;exact AV.pures_get hpure hj
       | _=>rw [hY] at hj hpure;simp only [AV.cells] at hj;cases hjo:(j - off) with
        | zero=>rw [hjo] at hj;simp at hj;subst hj;exact hpure
        | succ n=>rw [hjo] at hj;simp at hj
      have:=hmono (this.bare hpc)
      rw [show i * sz+j - o'=j - off by omega]
      simpa [List.getD,Array.getD_eq_getD_getElem?] using this
     ·rw [if_neg k2] at hj;rw [if_neg (by omega)];exact hmono (h6 i _ j c hget hj)
   ·rw [if_neg hii] at hi'
    have hjl:j<sz:=by
     rw [← h4 _ (List.mem_of_getElem? hi')]
     rcases zlg j av.cells.length with h' | h'
     ·exact h'
     ·rw [List.getElem?_eq_none h'] at hj;cases hj
    have hne:¬ (o'≤i' * sz+j∧i' * sz+j<o'+(a.eval y).cells.size):=by
     rw [ho']
     rcases Nat.lt_or_gt_of_ne hii with hlt | hgt
     ·have:=Nat.mul_le_mul_right sz (show i+1≤i' by omega)
      rw [Nat.add_mul] at this
      omega
     ·have:=Nat.mul_le_mul_right sz (show i'+1≤i by omega)
      rw [Nat.add_mul] at this
      omega
    rw [if_neg hne]
    exact hmono (h6 i' av j c hi' hj)
 ·cases h
end Go.Ab
