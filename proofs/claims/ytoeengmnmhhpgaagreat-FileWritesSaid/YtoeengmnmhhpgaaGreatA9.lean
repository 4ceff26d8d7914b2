/- A layer over the model: abstract values and states, and the rules by which the printed proofs go. No conditions. -/
import Derived.Test.YtoeengmnmhhpgaaGreatA7
import Derived.DataBytes
import Derived.Lib.Bytealg
/- Values built out of parts, conversions, and all that only computes, in one function. -/
namespace Go.Ab
open Go
def aC (av:AV):Bool:=match av with | .agg _=>true | a=>a.one
theorem ES {w:World} {I:Nat->Prop} {T:Tbl} {v:Value} {av:AV} (h:Rep w I T v av) (ho:aC av=true) :
  v.cells.size=av.cells.length/\(∀ c∈av.cells,c.one=true)/\∀ j c,av.cells[j]?=some c->Rep w I T (v.cells.getD j undef) c:=by
 cases h with
 | junk=>simp [aC,AV.one] at ho
 | tuple=>simp [aC,AV.one] at ho
 | agg h1 h2 h3=>exact ⟨h1,h2,h3⟩
 | int h=>exact ⟨rfl,by simp [AV.cells,AV.one],fun j c hj=>by cases j<;>simp [AV.cells] at hj;subst hj;exact .int h⟩
 | bool=>exact ⟨rfl,by simp [AV.cells,AV.one],fun j c hj=>by cases j<;>simp [AV.cells] at hj;subst hj;exact .bool⟩
 | str h h'=>exact ⟨rfl,by simp [AV.cells,AV.one],fun j c hj=>by cases j<;>simp [AV.cells] at hj;subst hj;exact .str h h'⟩
 | sl0 h h'=>exact ⟨rfl,by simp [AV.cells,AV.one],fun j c hj=>by cases j<;>simp [AV.cells] at hj;subst hj;exact .sl0 h h'⟩
 | sl g h1 h2 h3 h4 h5 h6 h7 h8 h9 h10=>exact ⟨rfl,by simp [AV.cells,AV.one],fun j c hj=>by cases j<;>simp [AV.cells] at hj;subst hj;exact .sl g h1 h2 h3 h4 h5 h6 h7 h8 h9 h10⟩
 | ref g h1 h2 h3 h4 h5=>exact ⟨rfl,by simp [AV.cells,AV.one],fun j c hj=>by cases j<;>simp [AV.cells] at hj;subst hj;exact .ref g h1 h2 h3 h4 h5⟩
 | ptr h h'=>exact ⟨rfl,by simp [AV.cells,AV.one],fun j c hj=>by cases j<;>simp [AV.cells] at hj;subst hj;exact .ptr h h'⟩
 | ownNil h=>exact ⟨rfl,by simp [AV.cells,AV.one],fun j c hj=>by cases j<;>simp [AV.cells] at hj;subst hj;exact .ownNil h⟩
 | own h h1 h2=>exact ⟨rfl,by simp [AV.cells,AV.one],fun j c hj=>by cases j<;>simp [AV.cells] at hj;subst hj;exact .own h h1 h2⟩
 | part0 h=>exact ⟨rfl,by simp [AV.cells,AV.one],fun j c hj=>by cases j<;>simp [AV.cells] at hj;subst hj;exact .part0 h⟩
 | part h h1 h2 h3 h4 h5 h6=>exact ⟨rfl,by simp [AV.cells,AV.one],fun j c hj=>by cases j<;>simp [AV.cells] at hj;subst hj;exact .part h h1 h2 h3 h4 h5 h6⟩
 | fn h h'=>exact ⟨rfl,by simp [AV.cells,AV.one],fun j c hj=>by cases j<;>simp [AV.cells] at hj;subst hj;exact .fn h h'⟩
 | nilp=>exact ⟨rfl,by simp [AV.cells,AV.one],fun j c hj=>by cases j<;>simp [AV.cells] at hj;subst hj;exact .nilp⟩
 | nilsl=>exact ⟨rfl,by simp [AV.cells,AV.one],fun j c hj=>by cases j<;>simp [AV.cells] at hj;subst hj;exact .nilsl⟩
 | nb h=>exact ⟨rfl,by simp [AV.cells,AV.one],fun j c hj=>by cases j<;>simp [AV.cells] at hj;subst hj;exact .nb h⟩
 | mp h=>exact ⟨rfl,by simp [AV.cells,AV.one],fun j c hj=>by cases j<;>simp [AV.cells] at hj;subst hj;exact .mp h⟩
 | raw=>exact ⟨rfl,by simp [AV.cells,AV.one],fun j c hj=>by cases j<;>simp [AV.cells] at hj;subst hj;exact .raw⟩
 | fm0=>exact ⟨rfl,by simp [AV.cells,AV.one],fun j c hj=>by cases j<;>simp [AV.cells] at hj;subst hj;exact .fm0⟩
 | fm gk gv h1 h2 h3 h4 h5 h6 h7 h8 h9=>exact ⟨rfl,by simp [AV.cells,AV.one],fun j c hj=>by cases j<;>simp [AV.cells] at hj;subst hj;exact .fm gk gv h1 h2 h3 h4 h5 h6 h7 h8 h9⟩
structure oY (w:World) (I:Nat->Prop) (T:Tbl) (vs:Array Value) (cs:List AV):Prop where
 size:vs.size=cs.length
 one:∀ c∈cs,c.one=true
 rep:∀ j c,cs[j]?=some c->Rep w I T (vs.getD j undef) c
def bK (cs:List AV) (off:Nat) (vs:List AV):List AV:=cs.take off++vs++cs.drop (off+vs.length)
theorem RB {cs vs:List AV} {off:Nat} (h:off+vs.length<=cs.length) (k:Nat) :
  (bK cs off vs)[k]?=if k<off then cs[k]? else if k<off+vs.length then vs[k - off]? else cs[k]?:=by
 unfold bK;have hl:(cs.take off).length=off:=by simp;omega
 split
 ·rename_i hk
  rw [List.append_assoc,List.getElem?_append_left (by omega),List.getElem?_take,if_pos hk]
 ·rename_i hk
  split
  ·rename_i hk2
   rw [List.getElem?_append_left (by simp;omega),List.getElem?_append_right (by omega),hl]
  ·rename_i hk2
   rw [List.getElem?_append_right (by simp;omega),List.getElem?_drop]
   congr 1
   simp;omega
theorem ND {cs vs:List AV} {off:Nat} (h:off+vs.length<=cs.length):(bK cs off vs).length=cs.length:=by
 unfold bK;simp;omega
theorem zGx (off:Nat):∀ (l:List Value) (s:Nat) (cells:Array Value) (k:Nat),
  ((l.zipIdx s).foldl (fun cs (x:Value×Nat)=>cs.setIfInBounds (off+x.2) x.1) cells).getD k undef =
   if off+s<=k/\k<off+s+l.length/\k<cells.size then l.getD (k - off - s) undef else cells.getD k undef:=by
 intro l
 induction l with
 | nil=>intro s cells k;simp;omega
 | cons a r ih =>
  intro s cells k;simp only [List.zipIdx_cons,List.foldl_cons];rw [ih];simp only [Array.size_setIfInBounds]
  by_cases h1:off+(s+1)<=k/\k<off+(s+1)+r.length/\k<cells.size
  ·rw [if_pos h1,if_pos (by simp only [zlc];omega)];obtain ⟨d,hd⟩:∃ d,k - off - s=d+1:=⟨k - off - s - 1,by omega⟩;rw [hd,show k - off - (s+1)=d by omega];simp [List.getD]
  ·rw [if_neg h1]
   by_cases h2:k=off+s
   ·subst h2
    by_cases h3:off+s<cells.size
    ·rw [if_pos (by simp only [zlc];omega)];simp [Array.getD_eq_getD_getElem?,List.getD,h3]
    ·rw [if_neg (by omega)];simp [Array.getD_eq_getD_getElem?,h3]
   ·rw [if_neg (by simp only [zlc];omega)];simp only [Array.getD_eq_getD_getElem?,Array.getElem?_setIfInBounds];rw [if_neg (by omega)]
theorem zIF (off:Nat):∀ (l:List Value) (s:Nat) (cells:Array Value),
  ((l.zipIdx s).foldl (fun cs (x:Value×Nat)=>cs.setIfInBounds (off+x.2) x.1) cells).size=cells.size:=by
 intro l
 induction l with
 | nil=>intro s cells;rfl
 | cons a r ih=>intro s cells;simp only [List.zipIdx_cons,List.foldl_cons];rw [ih];simp
theorem zE2 {w:World} {I:Nat->Prop} {T:Tbl} {vs:Array Value} {cs:List AV} {v:Value} {av:AV} {off:Nat} (h:oY w I T vs cs)
  (hv:Rep w I T v av) (ho:aC av=true) (hle:off+av.cells.length<=cs.length) :
  oY w I T (v.cells.zipIdx.foldl (fun cs (x:Value×Nat)=>cs.setIfInBounds (off+x.2) x.1) vs) (bK cs off av.cells):=by
 obtain ⟨h1,h2,h3⟩:=ES hv ho;have e:v.cells.zipIdx.foldl (fun cs (x:Value×Nat)=>cs.setIfInBounds (off+x.2) x.1) vs =
   (v.cells.toList.zipIdx 0).foldl (fun cs (x:Value×Nat)=>cs.setIfInBounds (off+x.2) x.1) vs:=by
  rw [<- Array.foldl_toList];simp
 rw [e];refine ⟨by rw [zIF,ND hle,h.size],?_,?_⟩
 ·intro c hc;unfold bK at hc;rcases List.mem_append.1 hc with hc | hc
  ·rcases List.mem_append.1 hc with hc | hc
   ·exact h.one c (List.mem_of_mem_take hc)
   ·exact h2 c hc
  ·exact h.one c (List.mem_of_mem_drop hc)
 ·intro j c hj;rw [RB hle] at hj;rw [zGx];simp only [Nat.add_zero,Array.length_toList,Nat.sub_zero]
  by_cases c1:j<off
  ·rw [if_pos c1] at hj;rw [if_neg (by omega)];exact h.rep j c hj
  ·rw [if_neg c1] at hj
   by_cases c2:j<off+av.cells.length
   ·rw [if_pos c2] at hj;rw [if_pos (by rw [h.size];omega)]
    have:=h3 _ c hj
    simpa [List.getD,Array.getD_eq_getD_getElem?] using this
   ·rw [if_neg c2] at hj;rw [if_neg (by omega)];exact h.rep j c hj
def fO (place:Nat->Option (Nat×Nat)):List AV->List (Nat×AV)->Option (List AV)
 | cs,[]=>some cs
 | cs,(i,v)::r =>
  match place i with
  | none=>none
  | some (off,size) =>
   bif (aC v&&Nat.beq v.cells.length size)&&Nat.ble (off+size) cs.length then fO place (bK cs off v.cells) r else none
theorem WV {w:World} {I:Nat->Prop} {T:Tbl} {place:Nat->Option (Nat×Nat)} {ρ:Operand->Value} {A:Operand->AV} (parts:List (Nat×Operand)) :
  ∀ (vs:Array Value) (cs cs':List AV),oY w I T vs cs->(∀ p∈parts,Rep w I T (ρ p.2) (A p.2))->fO place cs (parts.map fun p=>(p.1,A p.2))=some cs' ->
   ∃ vs',Instr.fill place vs (parts.map fun p=>(p.1,ρ p.2))=some vs'/\oY w I T vs' cs':=by
 induction parts with
 | nil=>intro vs cs cs' h _ hf;simp [fO] at hf;subst hf;exact ⟨vs,rfl,h⟩
 | cons p r ih =>
  intro vs cs cs' h hr hf;simp only [List.map_cons,fO] at hf
  split at hf
  ·cases hf
  ·rename_i off size hp
   cases hc:((aC (A p.2)&&Nat.beq (A p.2).cells.length size)&&Nat.ble (off+size) cs.length)
   ·rw [hc] at hf;cases hf
   rw [hc] at hf;simp only [cond_true] at hf;simp only [zba] at hc;have hok:=hc.1.1;have hs:=w7.1 hc.1.2;have hle:=zle hc.2;have hrep:=hr p (by simp);obtain ⟨h1,_,_⟩:=ES hrep hok;have hnew:=zE2 h hrep hok (off:=off) (by omega);obtain ⟨vs',hf',hc'⟩:=ih _ _ _ hnew (fun q hq=>hr q (by simp [hq])) hf;refine ⟨vs',?_,hc'⟩;simp only [List.map_cons,Instr.fill,hp];rw [if_neg (by rw [h.size];simp only [Bool.or_eq_true,decide_eq_true_eq];omega)];exact hf'
theorem zBV {av:AV} (h:av.one=true):aC av=true:=by cases av<;>simp_all [aC,AV.one]
theorem zDv {z:Value} (h:o7 z=true):aC (AX z)=true:=by
 by_cases ha:∃ vs,z=.agg vs
 ·obtain ⟨vs,rfl⟩:=ha;rfl
 ·have h1:cT z=true:=by cases z<;>first | exact h | exact absurd ⟨_,rfl⟩ ha
  have h2:AX z=DN z:=by cases z<;>first | rfl | exact absurd ⟨_,rfl⟩ ha
  rw [h2];exact zBV (YS h1)
def DC (P:Program) (t:TypeId):Option (List AV) :=
 match fN P t with
 | some z=>bif o7 z then some (AX z).cells else none
 | none=>none
theorem gP {P:Program} {t:TypeId} {cs:List AV} {w:World} {I:Nat->Prop} {T:Tbl} (h:DC P t=some cs) :
  ∃ z,fN P t=some z/\oY w I T z.cells cs/\(zeroValue t).run P w=.ok z w:=by
 unfold DC at h
 split at h
 ·rename_i z hz
  cases hc:o7 z
  ·rw [hc] at h;cases h
  rw [hc] at h;injection h with h;subst h;have hrep:=QQ (w:=w) (I:=I) (T:=T) hc;have hok:=zDv hc;obtain ⟨h1,h2,h3⟩:=ES hrep hok;refine ⟨z,hz,⟨h1,h2,h3⟩,?_⟩;unfold fN at hz
  split at hz
  ·rename_i i hi
   simp [zeroValue,typeInfo,hi,hz]
  ·cases hz
 ·cases h
def KU (P:Program) (t:TypeId) (i:Nat):Option (Nat×Nat) :=
 match P.underlying t with
 | some (.struct fs)=>match fs[i]? with
  | some f=>some (f.offset,szT P f.type)
  | none=>none
 | some (.array _ e)=>some (i * szT P e,szT P e)
 | _=>none
def T4 (P:Program) (t:TypeId):Bool :=
 match P.underlying t with
 | some (.struct fs)=>fs.toList.all fun f=>uT P f.type
 | some (.array _ e)=>uT P e
 | _=>false
def O4 (P:Program) (t:TypeId) (A:Operand->AV) (parts:List (Nat×Operand)):Option (List Prop×AV) :=
 bif T4 P t then
  match DC P t with
  | some cs=>match fO (KU P t) cs (parts.map fun p=>(p.1,A p.2)) with
   | some cs'=>some ([],.agg cs')
   | none=>none
  | none=>none
 else none
theorem zHm {P:Program} {t:TypeId} {parts:Array (Nat×Operand)} {ρ:Operand->Value} {A:Operand->AV} {o:Oper} {w:World} {I:Nat->Prop} {T:Tbl} {r:List Prop×AV}
  (ho:o.op=.build t parts) (hr:∀ p∈parts.toList,Rep w I T (ρ p.2) (A p.2)) (h:O4 P t A parts.toList=some r):kR P ρ o w I T r.2:=by
 unfold O4 at h;cases hb:T4 P t
 ·rw [hb] at h;cases h
 rw [hb] at h;simp only [cond_true] at h
 split at h
 ·rename_i cs hz
  obtain ⟨z,_,hc,hzr⟩:=gP (w:=w) (I:=I) (T:=T) hz
  split at h
  ·rename_i cs' hf
   injection h with h;subst h;obtain ⟨vs',hf',hc'⟩:=WV parts.toList _ _ _ hc hr hf;refine .same (v:=.agg vs') ?_ (.agg hc'.size hc'.one hc'.rep);unfold T4 at hb
   split at hb
   ·rename_i fs hu
    simp only [List.all_eq_true] at hb;have hp:fs.toList.mapM (fun f=>(P.info? f.type).map fun i=>(f.offset,i.size))=some (fs.toList.map fun f=>(f.offset,szT P f.type)):=by
     refine mapM_some_of_forall (g:=fun f=>(f.offset,szT P f.type)) fs.toList fun f hf=>?_
     have hk:=hb f hf;simp only [uT,zba,Option.isSome_iff_exists] at hk;obtain ⟨_,i,hi⟩:=hk;simp [hi,szT]
    have hpl:(fun x=>(fs.toList.map fun f=>(f.offset,szT P f.type))[x]?)=KU P t:=by
     funext i
     simp only [KU,hu,List.getElem?_map,Array.getElem?_toList];cases fs[i]?<;>rfl
    rw [<- hpl] at hf';simp only [List.getElem?_map,Array.getElem?_toList] at hf';simp only [execOp,ho,Sem.run_bind]
    have:(Instr.build t (parts.map fun p=>(p.1,ρ p.2))).run P w=.ok (.agg vs') w:=by
     simp [Instr.build,run_underlying hu,hzr,Array.mapM_eq_mapM_toList,run_places w _ _ hp,hf']
    rw [this];rfl
   ·rename_i n e hu
    have hpl:(fun i=>some (i * szT P e,szT P e))=KU P t:=by
     funext i;simp only [KU,hu]
    rw [<- hpl] at hf';simp only [execOp,ho,Sem.run_bind]
    have:(Instr.build t (parts.map fun p=>(p.1,ρ p.2))).run P w=.ok (.agg vs') w:=by
     simp [Instr.build,run_underlying hu,hzr,kW hb,hf']
    rw [this];rfl
   ·cases hb
  ·cases h
 ·cases h
/-! Conversions. -/
def gS (P:Program) (t:TypeId):Bool:=match P.underlying t with | some (.int .u8)=>true | _=>false
theorem OS {P:Program} {t:TypeId} (h:gS P t=true):P.underlying t=some (.int .u8):=by
 unfold gS at h;split at h<;>simp_all
def QA (P:Program) (src dst:TypeId) (x:AV) (h:wF):Option (List Prop×AV) :=
 match P.underlying src,P.underlying dst,x with
 | some _,some (.int k),.int _ n=>some ([],.int k (k.wrap n))
 | some _,some .string,.str l=>some ([],.str l)
 | some .string,some (.slice e),.str l=>bif gS P e then some ([],.sl false 1 (l.map (AV.int .u8))) else none
 | some (.slice e),some .string,.sl _ sz L=>bif gS P e&&Nat.beq sz 1 then some ([L=h.s.map (AV.int .u8)],.str h.s) else none
 | _,_,_=>none
theorem zAT (l:List Int):vO (l.map (AV.int .u8))=l.map (AV.int .u8):=by
 simp only [vO,List.flatMap_map]
 have:(fun a=>(AV.int IntKind.u8 a).cells)=fun a=>[AV.int .u8 a]:=by funext a;rfl
 rw [this];exact List.map_eq_flatMap.symm
theorem zBd {x:Int} (h:IntKind.u8.wrap x=x):0<=x/\x<256:=by
 have:=SR .u8 x h
 simp only [IntKind.bits,IntKind.signed] at this;simp at this;exact this
theorem zHz (l:List Int):l.foldl (fun r n=>r.push (UInt8.ofNat n.toNat)) ByteArray.empty=v8 l:=by
 have key:∀ (l:List Int) (r:ByteArray),(l.foldl (fun r n=>r.push (UInt8.ofNat n.toNat)) r).data.toList=r.data.toList++l.map fun x=>UInt8.ofNat x.toNat:=by
  intro l
  induction l with
  | nil=>intro r;simp
  | cons a s ih=>intro r;simp [ih]
 apply WideShapes.bytes_inj;rw [key];simp [v8]
theorem XM {P:Program} {w:World} {I:Nat->Prop} {x:Value} {s:List Int} {news:List Value} (h:Src P w I 1 x (s.map (AV.int .u8)) news) (hx:∃ a n c,x=.slice a n c) :
  (Conv.bytesToString x).run P w=.ok (.string (v8 s)) w/\∀ c∈s,0<=c/\c<256:=by
 have hnews:news=s.map (Value.int .u8)/\∀ c∈s,0<=c/\c<256:=by
  have hr:=h.rep;have hl:=h.len;simp only [List.length_map,Nat.mul_one] at hl;have each:∀ (k:Nat) (c:Int),s[k]?=some c->news[k]?=some (.int .u8 c)/\0<=c/\c<256:=by
   intro k c hk;have h1:=hr k (.int .u8 c) (by rw [zAT,List.getElem?_map,hk];rfl);have hlt:k<news.length:=by
    rw [hl];rcases zlg k s.length with h' | h'
    ·exact h'
    ·rw [List.getElem?_eq_none h'] at hk;cases hk
   have e:news.getD k undef=news[k]:=by simp [List.getD,hlt]
   rw [e] at h1;generalize hv:news[k]=v at h1;cases h1 with
   | int hw=>exact ⟨by rw [List.getElem?_eq_getElem hlt,hv],zBd hw⟩
  refine ⟨?_,?_⟩
  ·apply List.ext_getElem?;intro k;rw [List.getElem?_map];cases hk:s[k]? with
   | none =>
    rw [Option.map_none];apply List.getElem?_eq_none;rw [hl];exact List.getElem?_eq_none_iff.1 hk
   | some c=>rw [(each k c hk).1];rfl
  ·intro c hc;obtain ⟨k,hk⟩:=List.mem_iff_getElem?.1 hc;exact (each k c hk).2
 obtain ⟨hn,hrange⟩:=hnews;refine ⟨?_,hrange⟩;obtain ⟨a,n,c,rfl⟩:=hx;have hlen:=h.lenOf w;simp only [Builtin.lenOf,Sem.run_pure,Result.ok.injEq,List.length_map,and_true] at hlen;subst hlen;have hcells:=h.cells s.length w (by simp) (fun _ _=>rfl);rw [List.take_of_length_le (by rw [h.len];simp)] at hcells;cases a with
 | none =>
  simp only [Builtin.firstCells,Sem.run_pure,Result.ok.injEq,and_true] at hcells
  have:s=[]:=by
   have h2:news=[]:=by
    have:=congrArg Array.toList hcells
    simpa using this.symm
   rw [hn] at h2;simpa using h2
  subst this;simp [Conv.bytesToString,v8];rfl
 | some a =>
  simp only [Builtin.firstCells,Nat.mul_one] at hcells;rw [hn] at hcells;rw [run_bytesToString w a s.length c s (by simpa using hcells),zHz]
theorem zEU {P:Program} {src dst:TypeId} {x:Operand} {ρ:Operand->Value} {o:Oper} {w:World} {I:Nat->Prop} {T:Tbl} {X:AV} {hn:wF} {r:List Prop×AV}
  (ho:o.op=.convert src dst x) (hx:Rep w I T (ρ x) X) (h:QA P src dst X hn=some r) (hv:∀ p∈r.1,p):kR P ρ o w I T r.2:=by
 unfold QA at h;generalize hX:ρ x=vx at hx
 split at h
 ·rename_i d k k' n hs hd
  injection h with h;subst h;cases hx with
  | int wn =>
  exact .same (v:=.int k (k.wrap n)) (by simp [execOp,ho,hX,convert,run_underlying hs,run_underlying hd,Conv.intToInt]) (.int (bA _ _))
 ·rename_i d l hs hd
  injection h with h;subst h;cases hx with
  | str hr hl =>
  refine .same (v:=.string (v8 l)) ?_ (.str hr hl);simp only [execOp,ho,hX,convert,Sem.run_bind,run_underlying hs,run_underlying hd,Result.andThen_ok];rfl
 ·rename_i e l hs hd
  cases hu:gS P e
  ·rw [hu] at h;cases h
  rw [hu] at h;injection h with h;subst h;have he:=OS hu;obtain ⟨news,hsrc⟩:=zAn (P:=P) hx;cases hx with
  | str hr hl =>
  have hfc:=hsrc.cells l.length w (by simp) (fun _ _=>rfl);rw [Nat.mul_one,List.take_of_length_le (by rw [hsrc.len];simp)] at hfc;have harr:((v8 l).data.map fun b=>Value.int .u8 b.toNat)=news.toArray:=by
   simp only [Builtin.firstCells,Q0,zdz,Sem.run_pure,Result.ok.injEq,and_true] at hfc;rw [List.take_of_length_le (Nat.le_refl _)] at hfc;exact hfc
  have hgc:=grownCap_ge w l.length 0 e;have hgm:=grownCap_le_maxLen w l.length 0 e hl
  let C:Array Value:=news.toArray++Array.replicate (grownCap w l.length 0 e - l.length) (.int .u8 0)
  let w1:World:=w.drew.alloc (.cells C e)
  have hh1:w1.heap[w.heap.size]?=some (.cells C e (0,0)):=heap_alloc_new w.drew _
  let w2:World:=w1.freeze ⟨w.heap.size,C.size,none⟩ 1
  have hh2:w2.heap[w.heap.size]?=some (.cells C e (C.size,C.size+1)):=by
   simp only [w2,World.freeze,Nat.succ_ne_zero,if_false,Array.getElem?_modify,if_true,hh1,Option.map_some];rfl
  have hh3:∀ b,b≠w.heap.size->w2.heap[b]?=w1.heap[b]?:=by
   intro b hb;simp only [w2,World.freeze,Nat.succ_ne_zero,if_false,Array.getElem?_modify];rw [if_neg (fun e=>hb e.symm)]
  have hg:w.grownBy w2 none:=by
   refine ⟨rfl,rfl,rfl,?_,fun k hk _=>?_⟩
   ·simp [w2,w1,World.freeze]
   ·rw [hh3 k (by omega)];exact heap_alloc_old w.drew _ k hk
  refine ⟨.slice (some ⟨w.heap.size,0,none⟩) l.length (grownCap w l.length 0 e),w2,?_,hg,fun I' T' hI hI2 hT=>?_⟩
  ·have hb:(Conv.stringToBytes e (v8 l)).run P w=.ok (.slice (some ⟨w.heap.size,0,none⟩) l.length (grownCap w l.length 0 e)) w2:=by
    simp only [Conv.stringToBytes,harr,gB];have hshape:w1.shape? w.heap.size=some (e,C.size):=by simp [World.shape?,hh1]
    have hsem:(markStringish ⟨w.heap.size,0,none⟩).run P w1=.ok () w2:=by
     simp only [markStringish,shape,Sem.run_bind,Sem.run,hshape,Result.andThen_ok,freeze];rfl
    simp [Question.forced,newRow];have hsem':=hsem;simp only [w1,C,grownCap] at hsem';rw [hsem'];rfl
   simp only [execOp,ho,hX,convert,Sem.run_bind,run_underlying hs,run_underlying hd,run_underlying he,Result.andThen_ok,hb];rfl
  ·have hn:news.length=l.length:=by have:=hsrc.len;simpa using this
   refine RJ hh2 (hI2 _ (Nat.le_refl _) (by simp [w2,w1,World.freeze])) (by simp) hgc hgm hsrc.wid hsrc.one (by simp [C,hn]) ?_;intro k c hk;have hkl:k<l.length:=by
    rcases zlg k l.length with h' | h'
    ·exact h'
    ·rw [zAT,List.getElem?_eq_none (by simpa using h')] at hk;cases hk
   have e1:C.getD k undef=news.getD k undef:=by
    simp only [C,Array.getD_eq_getD_getElem?,List.getD];rw [Array.getElem?_append_left (by simp;omega)];simp
   rw [e1];exact (hsrc.rep k c hk).mono hg.size (fun b _ hlt=>hg.block b hlt (by simp)) hI (fun _ _ h=>h)
 ·rename_i e full sz L hs hd
  cases hu:(gS P e&&Nat.beq sz 1)
  ·rw [hu] at h;cases h
  rw [hu] at h;simp only [cond_true,zba] at h hu;injection h with h;subst h;have he:=OS hu.1;have hsz:=w7.1 hu.2;subst hsz;have hL:L=hn.s.map (AV.int .u8):=hv _ (by simp);subst hL;obtain ⟨news,hsrc⟩:=L7 (P:=P) hx;obtain ⟨base,cap,hform,hc1,hc2,_⟩:=NF hx;obtain ⟨hrun,hrange⟩:=XM hsrc ⟨_,_,_,hform⟩;refine .same (v:=.string (v8 hn.s)) ?_ (.str hrange (by simp at hc2;omega));rw [hform] at hrun;simp only [execOp,ho,hX,hform,Sem.run_bind,run_convert_bytes_string w src dst e _ _ _ hs he hd,hrun,Result.andThen_ok];rfl
 ·cases h
end Go.Ab

/- All that only computes, in one function; its soundness as a step of the relation. -/
namespace Go.Ab
open Go
def pT:List (Nat×AV)->Nat->AV
 | [],_=>.junk
 | (k,v)::r,t=>bif Nat.beq t k then v else pT r t
def xZ (rs:List (Nat×AV)):Operand->AV
 | .tmp t=>pT rs t
 | .const v=>AX v
 | .global _=>.junk
 | .func f=>.fn f []
theorem zHW {st:AS} {rs:List (Nat×AV)} (h:∀ x∈rs,st.slot x.1=x.2) (t:Nat):pT rs t=.junk\/pT rs t=st.slot t:=by
 induction rs with
 | nil=>exact .inl rfl
 | cons a r ih =>
  simp only [pT];cases hb:Nat.beq t a.1
  ·exact ih fun x hx=>h x (by simp [hx])
  ·have:=w7.1 hb
   subst this;exact .inr (h a (by simp)).symm
theorem uQ {G:tK} {st:AS} {T:Tbl} {a:Act} {w:World} {rs:List (Nat×AV)} (h:jB G st T a w) (hr:∀ x∈rs,st.slot x.1=x.2) {x:Operand} (hx:x5 x=true) :
  Rep w (imm G st T) T (a.eval x) (xZ rs x):=by
 cases x with
 | tmp t =>
  rcases zHW hr t with h' | h'
  ·simp only [xZ,h'];exact .junk
  ·simp only [xZ,h'];exact h.slots t
 | const v=>exact QQ hx
 | global g=>exact .junk
 | func f=>exact .fn rfl (fun j c hj=>by simp at hj)
def nz:AV->AV
 | .nilsl=>.sl true 0 []
 | v=>v
theorem nN {w:World} {I:Nat->Prop} {T:Tbl} {v:Value} {av:AV} (h:Rep w I T v av):Rep w I T v (nz av):=by
 cases av with
 | nilsl=>cases h;exact .sl0 (by simp [maxLen]) (fun _=>rfl)
 | _=>exact h
def lQ:Option Operand->Bool
 | some x=>x5 x
 | none=>true
def pD:List Int->Int->Int
 | [],_ => -1
 | b::l,c=>if b=c then 0 else if pD l c = -1 then -1 else pD l c+1
theorem zH5 {l:List Int} (hl:∀ x∈l,0<=x/\x<256) {c:Int} (hc:0<=c/\c<256):Lib.indexByte (v8 l).data.toList c.toNat.toUInt8=pD l c:=by
 have e:(v8 l).data.toList=l.map fun x=>UInt8.ofNat x.toNat:=by simp [v8]
 rw [e]
 induction l with
 | nil=>rfl
 | cons b r ih =>
  have hb:=hl b (by simp);have ih:=ih (fun x hx=>hl x (by simp [hx])) (by simp [v8]);simp only [List.map_cons,Lib.indexByte,pD];rw [ih];have e2:(UInt8.ofNat b.toNat==c.toNat.toUInt8)=decide (b=c):=by
   rw [Bool.eq_iff_iff,beq_iff_eq,decide_eq_true_eq]
   constructor
   ·intro h;have h2:=congrArg UInt8.toNat h;simp only [UInt8.toNat_ofNat',Nat.toUInt8_eq] at h2;omega
   ·rintro rfl;rfl
  rw [e2]
  by_cases h:b=c
  ·simp [h]
  ·simp only [h,decide_false,Bool.false_eq_true,if_false,beq_iff_eq]
def N5 (P : Program) (g : FuncId) : Prop := ∃ fn, P.funcs[g]? = some fn ∧ (fn.name == "runtime.NumGoroutine") = false ∧ fn.body.isNone = true ∧ Extern.findNext fn = none ∧ Extern.find fn = some Extern.BytealgIndexByte.indexByte
def zFO (P:Program) (g:FuncId):Bool:=match P.funcs[g]? with | some fn=>fn.body.isNone | none=>false
def XL (P:Program) (f:AV) (xs:List AV):Option (List Prop×AV) :=
 match f,xs with
 | .fn g [],[.str s,.int .u8 c]=>bif zFO P g then some ([N5 P g],.int .i64 (pD s c)) else none
 | _,_=>none
theorem zEu (l:List Int) (c:Int) : -1<=pD l c/\pD l c<l.length\/l=[]/\pD l c = -1:=by
 induction l with
 | nil=>right;exact ⟨rfl,rfl⟩
 | cons b r ih =>
  left
  simp only [pD,zlc]
  split
  ·omega
  ·split
   ·omega
   ·rcases ih with h | ⟨rfl,h⟩
    ·omega
    ·simp [pD] at *
def vop (P:Program) (o:Oper) (A:Operand->AV) (h:wF):Option (List Prop×AV) :=
 match o.op with
 | .move x=>bif x5 x then some ([],A x) else none
 | .assign x=>bif x5 x then some ([],A x) else none
 | .pick c a b=>bif x5 c&&(x5 a&&x5 b) then
   match A c with
   | .bool t=>some ([t=h.b],bif h.b then A a else A b)
   | _=>none
  else none
 | .binOp op xT x y _=>bif x5 x&&x5 y then QU P op xT (A x) (A y) else none
 | .unOp op _ x=>bif x5 x then vun op (A x) else none
 | .convert s d x=>bif x5 x then QA P s d (nz (A x)) h else none
 | .field s x f=>bif x5 x then RP P s (A x) f else none
 | .fieldAddr s x f=>bif x5 x then RY P s (A x) f else none
 | .indexAddr t x i=>bif x5 x&&x5 i then O7 P t (nz (A x)) (A i) h else none
 | .index t x i=>bif x5 x&&x5 i then TO P t (A x) (A i) h else none
 | .load t x=>bif x5 x then US P t (A x) else none
 | .slice t x lo hi mx=>bif (x5 x&&lQ lo)&&(lQ hi&&lQ mx) then TN P t (fun y=>nz (A y)) x lo hi mx h else none
 | .build t parts=>bif parts.toList.all (fun p=>x5 p.2) then O4 P t A parts.toList else none
 | .extract x i=>bif x5 x then
   match A x with
   | .tuple vs=>match vs[i]? with
    | some av=>some ([],av)
    | none=>none
   | _=>none
  else none
 | .nilCheck x=>bif x5 x then
   match A x with
   | .ref av=>some ([],.ref av)
   | .ptr id sz i off=>some ([],.ptr id sz i off)
   | _=>none
  else none
 | .makeFunc (.func f) first captured=>bif first.isEmpty&&captured.toList.all x5 then some ([],.fn f (captured.toList.map A)) else none
 | .call { callee:=.builtin b,args:=args,argTypes:=ts } =>
  match b,args.toList,ts.toList with
  | .len,[x],[t]=>bif x5 x then TQ P t (nz (A x)) h else none
  | .append,[x,y],[t,t2]=>bif x5 x&&x5 y then UA P t t2 (nz (A x)) (nz (A y)) h else none
  | .max,[x,y],_=>bif x5 x&&x5 y then OW .max (A x) (A y) else none
  | .min,[x,y],_=>bif x5 x&&x5 y then OW .min (A x) (A y) else none
  | _,_,_=>none
 | .call { callee:=.value f,args:=args,argTypes:=_ }=>bif x5 f&&args.toList.all x5 then XL P (A f) (args.toList.map A) else none
 | _=>none
theorem x8 {α:Type} {b:Bool} {x:Option α} {r:α} (h:(bif b then x else none)=some r):b=true/\x=some r:=by
 cases b
 ·cases h
 ·exact ⟨rfl,h⟩
theorem DG {α:Type} {a:Array α} {x:α} (h:a.toList=[x]):a=#[x]:=Array.ext' (by simpa using h)
theorem aO {α:Type} {a:Array α} {x y:α} (h:a.toList=[x,y]):a=#[x,y]:=Array.ext' (by simpa using h)
theorem zC7 {P:Program} {o:Oper} {A:Operand->AV} {ρ:Operand->Value} {w:World} {I:Nat->Prop} {T:Tbl} {hn:wF} {r:List Prop×AV}
  (hA:∀ x,x5 x=true->Rep w I T (ρ x) (A x)) (h:vop P o A hn=some r) (hv:∀ p∈r.1,p):kR P ρ o w I T r.2:=by
 unfold vop at h
 split at h
 ·rename_i x ho
  obtain ⟨hx,h⟩:=x8 h;injection h with h;subst h;exact .same (v:=ρ x) (by simp [execOp,ho]) (hA x hx)
 ·rename_i x ho
  obtain ⟨hx,h⟩:=x8 h;injection h with h;subst h;exact .same (v:=ρ x) (by simp [execOp,ho]) (hA x hx)
 ·rename_i c a b ho
  obtain ⟨hx,h⟩:=x8 h;simp only [zba] at hx
  split at h
  ·rename_i t ht
   injection h with h;subst h;have hc:=hA c hx.1;rw [ht] at hc;have htb:t=hn.b:=hv _ (by simp);generalize hC:ρ c=vc at hc;cases hc with
   | bool =>
   subst htb;cases hb:hn.b
   ·rw [hb] at hC;exact .same (v:=ρ b) (by simp [execOp,ho,hC,asBool]) (hA b hx.2.2)
   ·rw [hb] at hC;exact .same (v:=ρ a) (by simp [execOp,ho,hC,asBool]) (hA a hx.2.1)
  ·cases h
 ·rename_i op xT x y yT ho
  obtain ⟨hx,h⟩:=x8 h;simp only [zba] at hx;exact zB8 ho (hA x hx.1) (hA y hx.2) h hv
 ·rename_i op xT x ho
  obtain ⟨hx,h⟩:=x8 h;exact zGW ho (hA x hx) h
 ·rename_i s d x ho
  obtain ⟨hx,h⟩:=x8 h;exact zEU ho (nN (hA x hx)) h hv
 ·rename_i s x f ho
  obtain ⟨hx,h⟩:=x8 h;exact zGV ho (hA x hx) h
 ·rename_i s x f ho
  obtain ⟨hx,h⟩:=x8 h;exact zGQ ho (hA x hx) h
 ·rename_i t x i ho
  obtain ⟨hx,h⟩:=x8 h;simp only [zba] at hx;exact zCL ho (nN (hA x hx.1)) (hA i hx.2) h hv
 ·rename_i t x i ho
  obtain ⟨hx,h⟩:=x8 h;simp only [zba] at hx;exact zDb ho (hA x hx.1) (hA i hx.2) h hv
 ·rename_i t x ho
  obtain ⟨hx,h⟩:=x8 h;exact zEA ho (hA x hx) h
 ·rename_i t x lo hi mx ho
  obtain ⟨hx,h⟩:=x8 h;simp only [zba] at hx;refine zGE ho (nN (hA x hx.1.1)) (fun y hy=>?_) h hv;rcases hy with rfl | rfl | rfl
  ·exact nN (hA y hx.1.2)
  ·exact nN (hA y hx.2.1)
  ·exact nN (hA y hx.2.2)
 ·rename_i t parts ho
  obtain ⟨hx,h⟩:=x8 h;simp only [List.all_eq_true] at hx;exact zHm ho (fun p hp=>hA p.2 (hx p hp)) h
 ·rename_i x i ho
  obtain ⟨hx,h⟩:=x8 h
  split at h
  ·rename_i vs hvs
   split at h
   ·rename_i av hav
    injection h with h;subst h;have hr:=hA x hx;rw [hvs] at hr;generalize hX:ρ x=vx at hr;cases hr with
    | tuple h1 h2 =>
    rename_i us
    have hlt:i<us.size:=by
     rw [h1];rcases zlg i vs.length with h' | h'
     ·exact h'
     ·rw [List.getElem?_eq_none h'] at hav;cases hav
    have:=h2 i av hav
    refine .same (v:=us[i]) ?_ (by simpa [Array.getD_eq_getD_getElem?,hlt] using this);simp [execOp,ho,hX,Instr.extract,hlt]
   ·cases h
  ·cases h
 ·rename_i x ho
  obtain ⟨hx,h⟩:=x8 h;have hr:=hA x hx
  split at h
  ·rename_i av hav
   injection h with h;subst h;rw [hav] at hr;generalize hX:ρ x=vx at hr;have hr2:=hr;cases hr with
   | ref g=>exact .same (by simp [execOp,ho,hX]) hr2
  ·rename_i id sz i off hav
   injection h with h;subst h;rw [hav] at hr;generalize hX:ρ x=vx at hr;have hr2:=hr;cases hr with
   | ptr g=>exact .same (by simp [execOp,ho,hX]) hr2
  ·cases h
 ·rename_i f first captured ho
  obtain ⟨hx,h⟩:=x8 h;simp only [zba,List.all_eq_true] at hx;injection h with h;subst h;have he:first=#[]:=by simpa using hx.1
  subst he;refine .same (v:=.func (.func f) #[] (captured.map ρ)) (by simp [execOp,ho,Instr.makeFunc]) (.fn (by simp) ?_);intro j c hj;rw [List.getElem?_map] at hj;cases hcj:captured.toList[j]? with
  | none=>rw [hcj] at hj;cases hj
  | some y =>
   rw [hcj] at hj;injection hj with hj;subst hj;have hy:=hA y (hx.2 y (List.mem_of_getElem? hcj));rw [Array.getElem?_toList] at hcj
   have:(captured.map ρ).getD j undef=ρ y:=by simp [Array.getD_eq_getD_getElem?,hcj]
   rw [this];exact hy
 ·rename_i b args ts ho
  split at h
  ·rename_i x t ha ht
   obtain ⟨hx,h⟩:=x8 h;rw [DG ha,DG ht] at ho;exact zF8 ho (nN (hA x hx)) h hv
  ·rename_i x y t t2 ha ht
   obtain ⟨hx,h⟩:=x8 h;simp only [zba] at hx;rw [aO ha,aO ht] at ho;exact zIn ho (nN (hA x hx.1)) (nN (hA y hx.2)) h hv
  ·rename_i x y ha
   obtain ⟨hx,h⟩:=x8 h;simp only [zba] at hx;rw [aO ha] at ho;exact WH ho (hA x hx.1) (hA y hx.2) h
  ·rename_i x y ha
   obtain ⟨hx,h⟩:=x8 h;simp only [zba] at hx;rw [aO ha] at ho;exact WH ho (hA x hx.1) (hA y hx.2) h
  ·cases h
 ·rename_i f args ts ho
  obtain ⟨hx,h⟩:=x8 h;simp only [zba,List.all_eq_true] at hx;obtain ⟨hf,hx⟩:=hx;unfold XL at h
  split at h
  case h_2=>cases h
  rename_i g s c hAf hAx
  obtain ⟨_,h⟩:=x8 h;injection h with h;subst h;obtain ⟨fn,k1,k2,k3,k4,k5⟩:N5 P g:=hv _ (by simp);have hrf:=hA f hf;rw [hAf] at hrf;rcases hal:args.toList with _ | ⟨x,_ | ⟨y,_ | ⟨z,q⟩⟩⟩
  ·rw [hal] at hAx;simp at hAx
  ·rw [hal] at hAx;simp at hAx
  ·rw [hal] at hAx hx;simp only [List.map_cons,List.map_nil,List.cons.injEq,and_true] at hAx;have h1:=hA x (hx x (by simp));have h2:=hA y (hx y (by simp));rw [hAx.1] at h1;rw [hAx.2] at h2;generalize hvf:ρ f=vf at hrf;generalize hvx:ρ x=vx at h1;generalize hvy:ρ y=vy at h2;cases hrf with
   | fn hs hc =>
   cases h1 with
   | str hb hl =>
   cases h2 with
   | int hw =>
   have hcr:=zBd hw
   rename_i cv
   have hcv:cv=#[]:=Array.eq_empty_of_size_eq_zero (by simpa using hs);subst hcv;rw [aO hal] at ho;have hrun:=run_callFunc_extern k1 k2 k3 k4 k5 #[.string (v8 s),.int .u8 c] w;rw [Lib.run_indexByteString,zH5 hb hcr] at hrun;refine .same (v:=.int .i64 (pD s c)) ?_ (.int ?_)
   ·simp only [execOp,ho];simp [resolve,Deferred.ofValue,invoke,hvf,hvx,hvy,hrun,Result.andThen]
   ·have:=zEu s c
    rw [jT] at hl;refine oG _ _ ?_;simp only [IntKind.signed,IntKind.bits];simp;omega
  ·rw [hal] at hAx;simp at hAx
 ·cases h
def qD (P:Program) (N np:Nat) (o:Oper) (E:Eff):Prop :=
 ∀ G st a w,G.n=N->G.foot.length=np->E.holds st->Rel G st a w->o.wp P a w (fun a' w'=>Rel G (st.upd E) a' w') (fun _ _ _=>False)
theorem qG {P:Program} {o:Oper} {a:Act} {w w':World} {v:Value} {K:Act->World->Prop} {Q:Exit->Act->World->Prop} (h:(execOp a.eval o).run P w=.ok (.value v) w')
  (hk:K (a.put o.dst v) w'):o.wp P a w K Q:=by
 unfold Oper.wp;rw [h];exact hk
theorem gW {G:tK} {st:AS} {T:Tbl} {a:Act} {w:World} (h:jB G st T a w) {id:Nat} {bx:Box} {b cap:Nat} (hl:st.box id=.live bx) (hT:T id=some (.at b cap)):b<w.heap.size:=by
 have hok:=h.boxes id bx hl;rw [hT] at hok;exact hok.lt
theorem YA {G:tK} {st:AS} {T:Tbl} {a:Act} {w:World} (h:jB G st T a w) {b:Nat} (hb:w.heap.size<=b):imm G st T b:=by
 refine ⟨.inr (.inl (Nat.le_trans h.kept.size hb)),fun id bx cap hl hT=>?_⟩
 have:=gW h hl hT
 omega
def tY (N:Nat):Option Tmp->Bool
 | some d=>Nat.blt d N
 | none=>true
theorem tS {N:Nat} {dst:Option Tmp} {d:Nat} {av av':AV} (h:tY N dst=true) (he:dst.map (fun x=>(x,av))=some (d,av')):d<N/\av'=av:=by
 cases dst with
 | none=>cases he
 | some x =>
  simp only [Option.map_some,Option.some.injEq,Prod.mk.injEq] at he;obtain ⟨rfl,rfl⟩:=he;exact ⟨by have:=h;simp [tY,Nat.blt] at this;omega,rfl⟩
theorem zGC {P:Program} {N np:Nat} {o:Oper} {rs:List (Nat×AV)} {hn:wF} {r:List Prop×AV} (h:vop P o (xZ rs) hn=some r) (hv:∀ p∈r.1,p) (hd:tY N o.dst=true) :
  qD P N np o { rs:=rs,dst:=o.dst.map fun d=>(d,r.2) }:=by
 intro G st a w hN hnp hE ⟨T,hT⟩;obtain ⟨v,w',hrun,hg,hrep⟩:=zC7 (P:=P) (ρ:=a.eval) (fun x hx=>uQ hT hE.1 hx) h hv;refine qG hrun ?_;refine hT.quiet hg rfl (by simp [Option.map_map,Function.comp_def]) ?_;intro d av he;obtain ⟨hlt,rfl⟩:=tS hd he;exact ⟨by omega,hrep _ _ (fun _ h _=>h) (fun b hb _=>YA hT hb) (fun _ _ h=>h)⟩
end Go.Ab
