/- Lemmas. No conditions but those that they name. -/
import Derived.Test.YtcejcgalbcnjnaaGreatA1
import Derived.DataBytes
import Derived.Lib.Bytealg
import Derived.Laws.MakeOwn
namespace Go.Ab
open Go
def bN (av:AV):Bool:=match av with | .agg _=>true | a=>a.one
theorem GC {w:World} {I:Nat->Prop} {T:Tbl} {v:Value} {av:AV} (h:Rep w I T v av) (ho:bN av=true) :
  v.cells.size=av.cells.length/\(∀ c∈av.cells,c.one=true)/\∀ j c,av.cells[j]?=some c->Rep w I T (v.cells.getD j undef) c:=by
 cases h with
 | junk=>simp [bN,AV.one] at ho
 | tuple=>simp [bN,AV.one] at ho
 | agg h1 h2 h3=>exact ⟨h1,h2,h3⟩
 | int h=>exact ⟨rfl,by simp [AV.cells,AV.one],fun j c hj=>by cases j<;>simp [AV.cells] at hj;subst hj;exact .int h⟩
 | bool=>exact ⟨rfl,by simp [AV.cells,AV.one],fun j c hj=>by cases j<;>simp [AV.cells] at hj;subst hj;exact .bool⟩
 | str h h'=>exact ⟨rfl,by simp [AV.cells,AV.one],fun j c hj=>by cases j<;>simp [AV.cells] at hj;subst hj;exact .str h h'⟩
 | sl0 h h'=>exact ⟨rfl,by simp [AV.cells,AV.one],fun j c hj=>by cases j<;>simp [AV.cells] at hj;subst hj;exact .sl0 h h'⟩
 | sl g h1 h2 h3 h4 h5 h6 h7 h8 h9 h10=>exact ⟨rfl,by simp [AV.cells,AV.one],fun j c hj=>by cases j<;>simp [AV.cells] at hj;subst hj;exact .sl g h1 h2 h3 h4 h5 h6 h7 h8 h9 h10⟩
 | ref g h1 h2 h3 h4 h5=>exact ⟨rfl,by simp [AV.cells,AV.one],fun j c hj=>by cases j<;>simp [AV.cells] at hj;subst hj;exact .ref g h1 h2 h3 h4 h5⟩
 | ptr h h'=>exact ⟨rfl,by simp [AV.cells,AV.one],fun j c hj=>by cases j<;>simp [AV.cells] at hj;subst hj;exact .ptr h h'⟩
 | ownNil h=>exact ⟨rfl,by simp [AV.cells,AV.one],fun j c hj=>by cases j<;>simp [AV.cells] at hj;subst hj;exact .ownNil h⟩
 | own h h1 h2=>exact ⟨rfl,by simp [AV.cells,AV.one],fun j c hj=>by cases j<;>simp [AV.cells] at hj;subst hj;exact .own h h1 h2⟩
 | part0 h=>exact ⟨rfl,by simp [AV.cells,AV.one],fun j c hj=>by cases j<;>simp [AV.cells] at hj;subst hj;exact .part0 h⟩
 | part h h1 h2 h3 h4 h5 h6=>exact ⟨rfl,by simp [AV.cells,AV.one],fun j c hj=>by cases j<;>simp [AV.cells] at hj;subst hj;exact .part h h1 h2 h3 h4 h5 h6⟩
 | fn h h'=>exact ⟨rfl,by simp [AV.cells,AV.one],fun j c hj=>by cases j<;>simp [AV.cells] at hj;subst hj;exact .fn h h'⟩
 | nilp=>exact ⟨rfl,by simp [AV.cells,AV.one],fun j c hj=>by cases j<;>simp [AV.cells] at hj;subst hj;exact .nilp⟩
 | nilsl=>exact ⟨rfl,by simp [AV.cells,AV.one],fun j c hj=>by cases j<;>simp [AV.cells] at hj;subst hj;exact .nilsl⟩
 | nb h=>exact ⟨rfl,by simp [AV.cells,AV.one],fun j c hj=>by cases j<;>simp [AV.cells] at hj;subst hj;exact .nb h⟩
 | mp h=>exact ⟨rfl,by simp [AV.cells,AV.one],fun j c hj=>by cases j<;>simp [AV.cells] at hj;subst hj;exact .mp h⟩
 | raw=>exact ⟨rfl,by simp [AV.cells,AV.one],fun j c hj=>by cases j<;>simp [AV.cells] at hj;subst hj;exact .raw⟩
 | fm0=>exact ⟨rfl,by simp [AV.cells,AV.one],fun j c hj=>by cases j<;>simp [AV.cells] at hj;subst hj;exact .fm0⟩
 | fm gk gv h1 h2 h3 h4 h5 h6 h7 h8 h9=>exact ⟨rfl,by simp [AV.cells,AV.one],fun j c hj=>by cases j<;>simp [AV.cells] at hj;subst hj;exact .fm gk gv h1 h2 h3 h4 h5 h6 h7 h8 h9⟩
 | rawm=>exact ⟨rfl,by simp [AV.cells,AV.one],fun j c hj=>by cases j<;>simp [AV.cells] at hj;subst hj;exact .rawm⟩
 | rawp0=>exact ⟨rfl,by simp [AV.cells,AV.one],fun j c hj=>by cases j<;>simp [AV.cells] at hj;subst hj;exact .rawp0⟩
 | rawp h1 h2=>exact ⟨rfl,by simp [AV.cells,AV.one],fun j c hj=>by cases j<;>simp [AV.cells] at hj;subst hj;exact .rawp h1 h2⟩
structure E5 (w:World) (I:Nat->Prop) (T:Tbl) (vs:Array Value) (cs:List AV):Prop where
 size:vs.size=cs.length
 one:∀ c∈cs,c.one=true
 rep:∀ j c,cs[j]?=some c->Rep w I T (vs.getD j undef) c
def b9 (cs:List AV) (off:Nat) (vs:List AV):List AV:=cs.take off++vs++cs.drop (off+vs.length)
theorem Q0 {cs vs:List AV} {off:Nat} (h:off+vs.length<=cs.length) (k:Nat) :
  (b9 cs off vs)[k]?=if k<off then cs[k]? else if k<off+vs.length then vs[k - off]? else cs[k]?:=by
 unfold b9;have hl:(cs.take off).length=off:=by simp;omega
 split
 ·rename_i hk
  rw [oT,uH (by omega),aY,if_pos hk]
 ·rename_i hk
  split
  ·rename_i hk2
   rw [uH (by simp;omega),u4 (by omega),hl]
  ·rename_i hk2
   rw [u4 (by simp;omega),gH]
   congr 1
   simp;omega
theorem HV {cs vs:List AV} {off:Nat} (h:off+vs.length<=cs.length):(b9 cs off vs).length=cs.length:=by
 unfold b9;simp;omega
theorem zOe (off:Nat):∀ (l:List Value) (s:Nat) (cells:Array Value) (k:Nat),
  ((l.zipIdx s).foldl (fun cs (x:Value×Nat)=>cs.setIfInBounds (off+x.2) x.1) cells).getD k undef =
   if off+s<=k/\k<off+s+l.length/\k<cells.size then l.getD (k - off - s) undef else cells.getD k undef:=by
 intro l
 induction l with
 | nil=>intro s cells k;simp;omega
 | cons a r ih =>
  intro s cells k;simp only [T3,aF];rw [ih];simp only [Array.size_setIfInBounds]
  by_cases h1:off+(s+1)<=k/\k<off+(s+1)+r.length/\k<cells.size
  ·rw [if_pos h1,if_pos (by simp only [zlc];omega)];obtain ⟨d,hd⟩:∃ d,k - off - s=d+1:=⟨k - off - s - 1,by omega⟩;rw [hd,show k - off - (s+1)=d by omega];simp [List.getD]
  ·rw [if_neg h1]
   by_cases h2:k=off+s
   ·subst h2
    by_cases h3:off+s<cells.size
    ·rw [if_pos (by simp only [zlc];omega)];simp [List.getD,h3]
    ·rw [if_neg (by omega)];simp [h3]
   ·rw [if_neg (by simp only [zlc];omega)];simp only [bG,QN];rw [if_neg (by omega)]
theorem zL2 (off:Nat):∀ (l:List Value) (s:Nat) (cells:Array Value),
  ((l.zipIdx s).foldl (fun cs (x:Value×Nat)=>cs.setIfInBounds (off+x.2) x.1) cells).size=cells.size:=by
 intro l
 induction l with
 | nil=>intro s cells;rfl
 | cons a r ih=>intro s cells;simp only [T3,aF];rw [ih];simp
theorem zH0 {w:World} {I:Nat->Prop} {T:Tbl} {vs:Array Value} {cs:List AV} {v:Value} {av:AV} {off:Nat} (h:E5 w I T vs cs)
  (hv:Rep w I T v av) (ho:bN av=true) (hle:off+av.cells.length<=cs.length) :
  E5 w I T (v.cells.zipIdx.foldl (fun cs (x:Value×Nat)=>cs.setIfInBounds (off+x.2) x.1) vs) (b9 cs off av.cells):=by
 obtain ⟨h1,h2,h3⟩:=GC hv ho;have e:v.cells.zipIdx.foldl (fun cs (x:Value×Nat)=>cs.setIfInBounds (off+x.2) x.1) vs =
   (v.cells.toList.zipIdx 0).foldl (fun cs (x:Value×Nat)=>cs.setIfInBounds (off+x.2) x.1) vs:=by
  rw [<- Array.foldl_toList];simp
 rw [e];refine ⟨by rw [zL2,HV hle,h.size],?_,?_⟩
 ·intro c hc;unfold b9 at hc;rcases wL.1 hc with hc | hc
  ·rcases wL.1 hc with hc | hc
   ·exact h.one c (aK hc)
   ·exact h2 c hc
  ·exact h.one c (bS hc)
 ·intro j c hj;rw [Q0 hle] at hj;rw [zOe];simp only [A2,oN,Nat.sub_zero]
  by_cases c1:j<off
  ·rw [if_pos c1] at hj;rw [if_neg (by omega)];exact h.rep j c hj
  ·rw [if_neg c1] at hj
   by_cases c2:j<off+av.cells.length
   ·rw [if_pos c2] at hj;rw [if_pos (by rw [h.size];omega)]
    have:=h3 _ c hj
    simpa [List.getD] using this
   ·rw [if_neg c2] at hj;rw [if_neg (by omega)];exact h.rep j c hj
def A0 (place:Nat->Option (Nat×Nat)):List AV->List (Nat×AV)->Option (List AV)
 | cs,[]=>some cs
 | cs,(i,v)::r =>
  match place i with
  | none=>none
  | some (off,size) =>
   bif (bN v&&Nat.beq v.cells.length size)&&Nat.ble (off+size) cs.length then A0 place (b9 cs off v.cells) r else none
theorem zDG {w:World} {I:Nat->Prop} {T:Tbl} {place:Nat->Option (Nat×Nat)} {ρ:Operand->Value} {A:Operand->AV} (parts:List (Nat×Operand)) :
  ∀ (vs:Array Value) (cs cs':List AV),E5 w I T vs cs->(∀ p∈parts,Rep w I T (ρ p.2) (A p.2))->A0 place cs (parts.map fun p=>(p.1,A p.2))=some cs' ->
   ∃ vs',Instr.fill place vs (parts.map fun p=>(p.1,ρ p.2))=some vs'/\E5 w I T vs' cs':=by
 induction parts with
 | nil=>intro vs cs cs' h _ hf;simp [A0] at hf;subst hf;exact ⟨vs,rfl,h⟩
 | cons p r ih =>
  intro vs cs cs' h hr hf;simp only [uM,A0] at hf
  split at hf
  ·cases hf
  ·rename_i off size hp
   cases hc:((bN (A p.2)&&Nat.beq (A p.2).cells.length size)&&Nat.ble (off+size) cs.length)
   ·rw [hc] at hf;cases hf
   rw [hc] at hf;simp only [cond_true] at hf;simp only [zba] at hc;have hok:=hc.1.1;have hs:=wT.1 hc.1.2;have hle:=zle hc.2;have hrep:=hr p (by simp);obtain ⟨h1,_,_⟩:=GC hrep hok;have hnew:=zH0 h hrep hok (off:=off) (by omega);obtain ⟨vs',hf',hc'⟩:=ih _ _ _ hnew (fun q hq=>hr q (by simp [hq])) hf;refine ⟨vs',?_,hc'⟩;simp only [uM,Instr.fill,hp];rw [if_neg (by rw [h.size];simp only [rJ,decide_eq_true_eq];omega)];exact hf'
theorem zLK {av:AV} (h:av.one=true):bN av=true:=by cases av<;>simp_all [bN,AV.one]
theorem zNY {z:Value} (h:GT z=true):bN (H5 z)=true:=by
 by_cases ha:∃ vs,z=.agg vs
 ·obtain ⟨vs,rfl⟩:=ha;rfl
 ·have h1:oM z=true:=by cases z<;>first | exact h | exact absurd ⟨_,rfl⟩ ha
  have h2:H5 z=K2 z:=by cases z<;>first | rfl | exact absurd ⟨_,rfl⟩ ha
  rw [h2];exact zLK (zCa h1)
def GR (P:Program) (t:TypeId):Option (List AV) :=
 match rH P t with
 | some z=>bif GT z then some (H5 z).cells else none
 | none=>none
theorem EM {P:Program} {t:TypeId} {cs:List AV} {w:World} {I:Nat->Prop} {T:Tbl} (h:GR P t=some cs) :
  ∃ z,rH P t=some z/\E5 w I T z.cells cs/\(zeroValue t).run P w=.ok z w:=by
 unfold GR at h
 split at h
 ·rename_i z hz
  cases hc:GT z
  ·rw [hc] at h;cases h
  rw [hc] at h;injection h with h;subst h;have hrep:=YN (w:=w) (I:=I) (T:=T) hc;have hok:=zNY hc;obtain ⟨h1,h2,h3⟩:=GC hrep hok;refine ⟨z,hz,⟨h1,h2,h3⟩,?_⟩;unfold rH at hz
  split at hz
  ·rename_i i hi
   simp [zeroValue,typeInfo,hi,hz]
  ·cases hz
 ·cases h
def QR (P:Program) (t:TypeId) (i:Nat):Option (Nat×Nat) :=
 match P.underlying t with
 | some (.struct fs)=>match fs[i]? with
  | some f=>some (f.offset,szT P f.type)
  | none=>none
 | some (.array _ e)=>some (i * szT P e,szT P e)
 | _=>none
def zAV (P:Program) (t:TypeId):Bool :=
 match P.underlying t with
 | some (.struct fs)=>fs.toList.all fun f=>u5 P f.type
 | some (.array _ e)=>u5 P e
 | _=>false
def Z4 (P:Program) (t:TypeId) (A:Operand->AV) (parts:List (Nat×Operand)):Option (List Prop×AV) :=
 bif zAV P t then
  match GR P t with
  | some cs=>match A0 (QR P t) cs (parts.map fun p=>(p.1,A p.2)) with
   | some cs'=>some ([],.agg cs')
   | none=>none
  | none=>none
 else none
theorem zKd {P:Program} {t:TypeId} {parts:Array (Nat×Operand)} {ρ:Operand->Value} {A:Operand->AV} {o:Oper} {w:World} {I:Nat->Prop} {T:Tbl} {r:List Prop×AV}
  (ho:o.op=.build t parts) (hr:∀ p∈parts.toList,Rep w I T (ρ p.2) (A p.2)) (h:Z4 P t A parts.toList=some r):cM P ρ o w I T r.2:=by
 unfold Z4 at h;cases hb:zAV P t
 ·rw [hb] at h;cases h
 rw [hb] at h;simp only [cond_true] at h
 split at h
 ·rename_i cs hz
  obtain ⟨z,_,hc,hzr⟩:=EM (w:=w) (I:=I) (T:=T) hz
  split at h
  ·rename_i cs' hf
   injection h with h;subst h;obtain ⟨vs',hf',hc'⟩:=zDG parts.toList _ _ _ hc hr hf;refine .same (v:=.agg vs') ?_ (.agg hc'.size hc'.one hc'.rep);unfold zAV at hb
   split at hb
   ·rename_i fs hu
    simp only [tC] at hb;have hp:fs.toList.mapM (fun f=>(P.info? f.type).map fun i=>(f.offset,i.size))=some (fs.toList.map fun f=>(f.offset,szT P f.type)):=by
     refine mapM_some_of_forall (g:=fun f=>(f.offset,szT P f.type)) fs.toList fun f hf=>?_
     have hk:=hb f hf;simp only [u5,zba,H7] at hk;obtain ⟨_,i,hi⟩:=hk;simp [hi,szT]
    have hpl:(fun x=>(fs.toList.map fun f=>(f.offset,szT P f.type))[x]?)=QR P t:=by
     funext i
     simp only [QR,hu,vD,k9];cases fs[i]?<;>rfl
    rw [<- hpl] at hf';simp only [vD,k9] at hf';simp only [execOp,ho,vV]
    have:(Instr.build t (parts.map fun p=>(p.1,ρ p.2))).run P w=.ok (.agg vs') w:=by
     simp [Instr.build,run_underlying hu,hzr,Array.mapM_eq_mapM_toList,run_places w _ _ hp,hf']
    rw [this];rfl
   ·rename_i n e hu
    have hpl:(fun i=>some (i * szT P e,szT P e))=QR P t:=by
     funext i;simp only [QR,hu]
    rw [<- hpl] at hf';simp only [execOp,ho,vV]
    have:(Instr.build t (parts.map fun p=>(p.1,ρ p.2))).run P w=.ok (.agg vs') w:=by
     simp [Instr.build,run_underlying hu,hzr,dO hb,hf']
    rw [this];rfl
   ·cases hb
  ·cases h
 ·cases h
/-! Conversions. -/
def zAe (P:Program) (src dst:TypeId) (x:AV) (h:wA):Option (List Prop×AV) :=
 match P.underlying src,P.underlying dst,x with
 | some _,some (.int k),.int _ n=>some ([],.int k (k.wrap n))
 | _,_,_=>none
theorem zHT {x:Int} (h:IntKind.u8.wrap x=x):0<=x/\x<256:=by
 have:=YM .u8 x h
 simp only [IntKind.bits,IntKind.signed] at this;simp at this;exact this
theorem zLO {P:Program} {src dst:TypeId} {x:Operand} {ρ:Operand->Value} {o:Oper} {w:World} {I:Nat->Prop} {T:Tbl} {X:AV} {hn:wA} {r:List Prop×AV}
  (ho:o.op=.convert src dst x) (hx:Rep w I T (ρ x) X) (h:zAe P src dst X hn=some r) (hv:∀ p∈r.1,p):cM P ρ o w I T r.2:=by
 unfold zAe at h;generalize hX:ρ x=vx at hx
 split at h
 ·rename_i d k k' n hs hd
  injection h with h;subst h;cases hx with
  | int wn =>
  exact .same (v:=.int k (k.wrap n)) (by simp [execOp,ho,hX,convert,run_underlying hs,run_underlying hd,Conv.intToInt]) (.int (rG _ _))
 ·cases h
def kF:List (Nat×AV)->Nat->AV
 | [],_=>.junk
 | (k,v)::r,t=>bif Nat.beq t k then v else kF r t
def y7 (rs:List (Nat×AV)):Operand->AV
 | .tmp t=>kF rs t
 | .const v=>H5 v
 | .global _=>.junk
 | .func f=>.fn f []
theorem zKi {st:AS} {rs:List (Nat×AV)} (h:∀ x∈rs,st.slot x.1=x.2) (t:Nat):kF rs t=.junk\/kF rs t=st.slot t:=by
 induction rs with
 | nil=>exact .inl rfl
 | cons a r ih =>
  simp only [kF];cases hb:Nat.beq t a.1
  ·exact ih fun x hx=>h x (by simp [hx])
  ·have:=wT.1 hb
   subst this;exact .inr (h a (by simp)).symm
theorem uS {G:wQ} {st:AS} {T:Tbl} {a:Act} {w:World} {rs:List (Nat×AV)} (h:uF G st T a w) (hr:∀ x∈rs,st.slot x.1=x.2) {x:Operand} (hx:xK x=true) :
  Rep w (imm G st T) T (a.eval x) (y7 rs x):=by
 cases x with
 | tmp t =>
  rcases zKi hr t with h' | h'
  ·simp only [y7,h'];exact .junk
  ·simp only [y7,h'];exact h.slots t
 | const v=>exact YN hx
 | global g=>exact .junk
 | func f=>exact .fn rfl (fun j c hj=>by simp at hj)
def nz:AV->AV
 | .nilsl=>.sl true 0 []
 | v=>v
theorem BK {w:World} {I:Nat->Prop} {T:Tbl} {v:Value} {av:AV} (h:Rep w I T v av):Rep w I T v (nz av):=by
 cases av with
 | nilsl=>cases h;exact .sl0 (by simp [maxLen]) (fun _=>rfl)
 | _=>exact h
def zEc:Option Operand->Bool
 | some x=>xK x
 | none=>true
def nI:List Int->Int->Int
 | [],_ => -1
 | b::l,c=>if b=c then 0 else if nI l c = -1 then -1 else nI l c+1
theorem zOH {l:List Int} (hl:∀ x∈l,0<=x/\x<256) {c:Int} (hc:0<=c/\c<256):Lib.indexByte (kE l).data.toList c.toNat.toUInt8=nI l c:=by
 have e:(kE l).data.toList=l.map fun x=>UInt8.ofNat x.toNat:=by simp [kE]
 rw [e]
 induction l with
 | nil=>rfl
 | cons b r ih =>
  have hb:=hl b (by simp);have ih:=ih (fun x hx=>hl x (by simp [hx])) (by simp [kE]);simp only [uM,Lib.indexByte,nI];rw [ih];have e2:(UInt8.ofNat b.toNat==c.toNat.toUInt8)=decide (b=c):=by
   rw [WD,beq_iff_eq,decide_eq_true_eq]
   constructor
   ·intro h;have h2:=congrArg UInt8.toNat h;simp only [XR,Nat.toUInt8_eq] at h2;omega
   ·rintro rfl;rfl
  rw [e2]
  by_cases h:b=c
  ·simp [h]
  ·simp only [h,decide_false,SW,if_false,beq_iff_eq]
def XH (P : Program) (g : FuncId) : Prop := ∃ fn, P.funcs[g]? = some fn ∧ (fn.name == "runtime.NumGoroutine") = false ∧ fn.body.isNone = true ∧ Extern.findNext fn = none ∧ Extern.find fn = some Extern.BytealgIndexByte.indexByte
def zHo (P:Program) (g:FuncId):Bool:=match P.funcs[g]? with | some fn=>fn.body.isNone | none=>false
def zCn (P:Program) (f:AV) (xs:List AV):Option (List Prop×AV) :=
 match f,xs with
 | .fn g [],[.str s,.int .u8 c]=>bif zHo P g then some ([XH P g],.int .i64 (nI s c)) else none
 | _,_=>none
theorem zMp (l:List Int) (c:Int) : -1<=nI l c/\nI l c<l.length\/l=[]/\nI l c = -1:=by
 induction l with
 | nil=>right;exact ⟨rfl,rfl⟩
 | cons b r ih =>
  left
  simp only [nI,zlc]
  split
  ·omega
  ·split
   ·omega
   ·rcases ih with h | ⟨rfl,h⟩
    ·omega
    ·simp [nI] at *
def vop (P:Program) (o:Oper) (A:Operand->AV) (h:wA):Option (List Prop×AV) :=
 match o.op with
 | .move x=>bif xK x then some ([],A x) else none
 | .assign x=>bif xK x then some ([],A x) else none
 | .pick c a b=>bif xK c&&(xK a&&xK b) then
   match A c with
   | .bool t=>some ([t=h.b],bif h.b then A a else A b)
   | _=>none
  else none
 | .binOp op xT x y _=>bif xK x&&xK y then zAv P op xT (A x) (A y) else none
 | .unOp op _ x=>bif xK x then vun op (A x) else none
 | .convert s d x=>bif xK x then zAe P s d (nz (A x)) h else none
 | .fieldAddr s x f=>bif xK x then zBt P s (A x) f else none
 | .indexAddr t x i=>bif xK x&&xK i then zBa P t (nz (A x)) (A i) h else none
 | .index t x i=>bif xK x&&xK i then zAx P t (A x) (A i) h else none
 | .load t x=>bif xK x then Y1 P t (A x) else none
 | .slice t x lo hi none=>bif (xK x&&zEc lo)&&zEc hi then YZ P t (fun y=>nz (A y)) x lo hi h else none
 | .build t parts=>bif parts.toList.all (fun p=>xK p.2) then Z4 P t A parts.toList else none
 | .extract x i=>bif xK x then
   match A x with
   | .tuple vs=>match vs[i]? with
    | some av=>some ([],av)
    | none=>none
   | _=>none
  else none
 | .nilCheck x=>bif xK x then
   match A x with
   | .ref av=>some ([],.ref av)
   | .ptr id sz i off=>some ([],.ptr id sz i off)
   | _=>none
  else none
 | .makeFunc (.func f) first captured=>bif first.isEmpty&&captured.toList.all xK then some ([],.fn f (captured.toList.map A)) else none
 | .call { callee:=.builtin b,args:=args,argTypes:=ts } =>
  match b,args.toList,ts.toList with
  | .len,[x],[t]=>bif xK x then ZA P t (nz (A x)) h else none
  | .max,[x,y],_=>bif xK x&&xK y then S9 .max (A x) (A y) else none
  | .min,[x,y],_=>bif xK x&&xK y then S9 .min (A x) (A y) else none
  | _,_,_=>none
 | .call { callee:=.value f,args:=args,argTypes:=_ }=>bif xK f&&args.toList.all xK then zCn P (A f) (args.toList.map A) else none
 | _=>none
theorem xM {α:Type} {b:Bool} {x:Option α} {r:α} (h:(bif b then x else none)=some r):b=true/\x=some r:=by
 cases b
 ·cases h
 ·exact ⟨rfl,h⟩
theorem SY {α:Type} {a:Array α} {x:α} (h:a.toList=[x]):a=#[x]:=Array.ext' (by simpa using h)
theorem GQ {α:Type} {a:Array α} {x y:α} (h:a.toList=[x,y]):a=#[x,y]:=Array.ext' (by simpa using h)
theorem zJM {P:Program} {o:Oper} {A:Operand->AV} {ρ:Operand->Value} {w:World} {I:Nat->Prop} {T:Tbl} {hn:wA} {r:List Prop×AV}
  (hA:∀ x,xK x=true->Rep w I T (ρ x) (A x)) (h:vop P o A hn=some r) (hv:∀ p∈r.1,p):cM P ρ o w I T r.2:=by
 unfold vop at h
 split at h
 ·rename_i x ho
  obtain ⟨hx,h⟩:=xM h;injection h with h;subst h;exact .same (v:=ρ x) (by simp [execOp,ho]) (hA x hx)
 ·rename_i x ho
  obtain ⟨hx,h⟩:=xM h;injection h with h;subst h;exact .same (v:=ρ x) (by simp [execOp,ho]) (hA x hx)
 ·rename_i c a b ho
  obtain ⟨hx,h⟩:=xM h;simp only [zba] at hx
  split at h
  ·rename_i t ht
   injection h with h;subst h;have hc:=hA c hx.1;rw [ht] at hc;have htb:t=hn.b:=hv _ (by simp);generalize hC:ρ c=vc at hc;cases hc with
   | bool =>
   subst htb;cases hb:hn.b
   ·rw [hb] at hC;exact .same (v:=ρ b) (by simp [execOp,ho,hC,asBool]) (hA b hx.2.2)
   ·rw [hb] at hC;exact .same (v:=ρ a) (by simp [execOp,ho,hC,asBool]) (hA a hx.2.1)
  ·cases h
 ·rename_i op xT x y yT ho
  obtain ⟨hx,h⟩:=xM h;simp only [zba] at hx;exact zJr ho (hA x hx.1) (hA y hx.2) h hv
 ·rename_i op xT x ho
  obtain ⟨hx,h⟩:=xM h;exact zHD ho (hA x hx) h
 ·rename_i s d x ho
  obtain ⟨hx,h⟩:=xM h;exact zLO ho (BK (hA x hx)) h hv
 ·rename_i s x f ho
  obtain ⟨hx,h⟩:=xM h;exact zG2 ho (hA x hx) h
 ·rename_i t x i ho
  obtain ⟨hx,h⟩:=xM h;simp only [zba] at hx;exact zNZ ho (BK (hA x hx.1)) (hA i hx.2) h hv
 ·rename_i t x i ho
  obtain ⟨hx,h⟩:=xM h;simp only [zba] at hx;exact zJd ho (hA x hx.1) (hA i hx.2) h hv
 ·rename_i t x ho
  obtain ⟨hx,h⟩:=xM h;exact zMJ ho (hA x hx) h
 ·rename_i t x lo hi ho
  obtain ⟨hx,h⟩:=xM h;simp only [zba] at hx;refine zHG ho (BK (hA x hx.1.1)) (fun y hy=>?_) h hv;rcases hy with rfl | rfl
  ·exact BK (hA y hx.1.2)
  ·exact BK (hA y hx.2)
 ·rename_i t parts ho
  obtain ⟨hx,h⟩:=xM h;simp only [tC] at hx;exact zKd ho (fun p hp=>hA p.2 (hx p hp)) h
 ·rename_i x i ho
  obtain ⟨hx,h⟩:=xM h
  split at h
  ·rename_i vs hvs
   split at h
   ·rename_i av hav
    injection h with h;subst h;have hr:=hA x hx;rw [hvs] at hr;generalize hX:ρ x=vx at hr;cases hr with
    | tuple h1 h2 =>
    rename_i us
    have hlt:i<us.size:=by
     rw [h1];rcases zlg i vs.length with h' | h'
     ·exact h'
     ·rw [vH h'] at hav;cases hav
    have:=h2 i av hav
    refine .same (v:=us[i]) ?_ (by simpa [hlt] using this);simp [execOp,ho,hX,Instr.extract,hlt]
   ·cases h
  ·cases h
 ·rename_i x ho
  obtain ⟨hx,h⟩:=xM h;have hr:=hA x hx
  split at h
  ·rename_i av hav
   injection h with h;subst h;rw [hav] at hr;generalize hX:ρ x=vx at hr;have hr2:=hr;cases hr with
   | ref g=>exact .same (by simp [execOp,ho,hX]) hr2
  ·rename_i id sz i off hav
   injection h with h;subst h;rw [hav] at hr;generalize hX:ρ x=vx at hr;have hr2:=hr;cases hr with
   | ptr g=>exact .same (by simp [execOp,ho,hX]) hr2
  ·cases h
 ·rename_i f first captured ho
  obtain ⟨hx,h⟩:=xM h;simp only [zba,tC] at hx;injection h with h;subst h;have he:first=#[]:=by simpa using hx.1
  subst he;refine .same (v:=.func (.func f) #[] (captured.map ρ)) (by simp [execOp,ho,Instr.makeFunc]) (.fn (by simp) ?_);intro j c hj;rw [vD] at hj;cases hcj:captured.toList[j]? with
  | none=>rw [hcj] at hj;cases hj
  | some y =>
   rw [hcj] at hj;injection hj with hj;subst hj;have hy:=hA y (hx.2 y (yN hcj));rw [k9] at hcj
   have:(captured.map ρ).getD j undef=ρ y:=by simp [hcj]
   rw [this];exact hy
 ·rename_i b args ts ho
  split at h
  ·rename_i x t ha ht
   obtain ⟨hx,h⟩:=xM h;rw [SY ha,SY ht] at ho;exact zMF ho (BK (hA x hx)) h hv
  ·rename_i x y ha
   obtain ⟨hx,h⟩:=xM h;simp only [zba] at hx;rw [GQ ha] at ho;exact zF3 ho (hA x hx.1) (hA y hx.2) h
  ·rename_i x y ha
   obtain ⟨hx,h⟩:=xM h;simp only [zba] at hx;rw [GQ ha] at ho;exact zF3 ho (hA x hx.1) (hA y hx.2) h
  ·cases h
 ·rename_i f args ts ho
  obtain ⟨hx,h⟩:=xM h;simp only [zba,tC] at hx;obtain ⟨hf,hx⟩:=hx;unfold zCn at h
  split at h
  case h_2=>cases h
  rename_i g s c hAf hAx
  obtain ⟨_,h⟩:=xM h;injection h with h;subst h;obtain ⟨fn,k1,k2,k3,k4,k5⟩:XH P g:=hv _ (by simp);have hrf:=hA f hf;rw [hAf] at hrf;rcases hal:args.toList with _ | ⟨x,_ | ⟨y,_ | ⟨z,q⟩⟩⟩
  ·rw [hal] at hAx;simp at hAx
  ·rw [hal] at hAx;simp at hAx
  ·rw [hal] at hAx hx;simp only [uM,MB,List.cons.injEq,and_true] at hAx;have h1:=hA x (hx x (by simp));have h2:=hA y (hx y (by simp));rw [hAx.1] at h1;rw [hAx.2] at h2;generalize hvf:ρ f=vf at hrf;generalize hvx:ρ x=vx at h1;generalize hvy:ρ y=vy at h2;cases hrf with
   | fn hs hc =>
   cases h1 with
   | str hb hl =>
   cases h2 with
   | int hw =>
   have hcr:=zHT hw
   rename_i cv
   have hcv:cv=#[]:=Array.eq_empty_of_size_eq_zero (by simpa using hs);subst hcv;rw [GQ hal] at ho;have hrun:=run_callFunc_extern k1 k2 k3 k4 k5 #[.string (kE s),.int .u8 c] w;rw [Lib.run_indexByteString,zOH hb hcr] at hrun;refine .same (v:=.int .i64 (nI s c)) ?_ (.int ?_)
   ·simp only [execOp,ho];simp [resolve,Deferred.ofValue,invoke,hvf,hvx,hvy,hrun,Result.andThen]
   ·have:=zMp s c
    rw [nY] at hl;refine GI _ _ ?_;simp only [IntKind.signed,IntKind.bits];simp;omega
  ·rw [hal] at hAx;simp at hAx
 ·cases h
def qH (P:Program) (N np:Nat) (o:Oper) (E:Eff):Prop :=
 ∀ G st a w,G.n=N->G.foot.length=np->E.holds st->Rel G st a w->o.wp P a w (fun a' w'=>Rel G (st.upd E) a' w') (fun _ _ _=>False)
theorem jN {P:Program} {o:Oper} {a:Act} {w w':World} {v:Value} {K:Act->World->Prop} {Q:Exit->Act->World->Prop} (h:(execOp a.eval o).run P w=.ok (.value v) w')
  (hk:K (a.put o.dst v) w'):o.wp P a w K Q:=by
 unfold Oper.wp;rw [h];exact hk
theorem cS {G:wQ} {st:AS} {T:Tbl} {a:Act} {w:World} (h:uF G st T a w) {id:Nat} {bx:Box} {b cap:Nat} (hl:st.box id=.live bx) (hT:T id=some (.at b cap)):b<w.heap.size:=by
 have hok:=h.boxes id bx hl;rw [hT] at hok;exact hok.lt
theorem zKZ {G:wQ} {st:AS} {T:Tbl} {a:Act} {w:World} (h:uF G st T a w) {b:Nat} (hb:w.heap.size<=b):imm G st T b:=by
 refine ⟨.inr (.inl (kX h.kept.size hb)),fun id bx cap hl hT=>?_⟩
 have:=cS h hl hT
 omega
def qF (N:Nat):Option Tmp->Bool
 | some d=>Nat.blt d N
 | none=>true
theorem tW {N:Nat} {dst:Option Tmp} {d:Nat} {av av':AV} (h:qF N dst=true) (he:dst.map (fun x=>(x,av))=some (d,av')):d<N/\av'=av:=by
 cases dst with
 | none=>cases he
 | some x =>
  simp only [kH,uU,kU] at he;obtain ⟨rfl,rfl⟩:=he;exact ⟨by have:=h;simp [qF,Nat.blt] at this;omega,rfl⟩
theorem zHi {P:Program} {N np:Nat} {o:Oper} {rs:List (Nat×AV)} {hn:wA} {r:List Prop×AV} (h:vop P o (y7 rs) hn=some r) (hv:∀ p∈r.1,p) (hd:qF N o.dst=true) :
  qH P N np o { rs:=rs,dst:=o.dst.map fun d=>(d,r.2) }:=by
 intro G st a w hN hnp hE ⟨T,hT⟩;obtain ⟨v,w',hrun,hg,hrep⟩:=zJM (P:=P) (ρ:=a.eval) (fun x hx=>uS hT hE.1 hx) h hv;refine jN hrun ?_;refine hT.quiet hg rfl (by simp [tY]) ?_;intro d av he;obtain ⟨hlt,rfl⟩:=tW hd he;exact ⟨by omega,hrep _ _ (fun _ h _=>h) (fun b hb _=>zKZ hT hb) (fun _ _ h=>h)⟩
def lR (agg:Bool) (sz:Nat):Nat->List AV->List AV
 | 0,_=>[]
 | n+1,cs=>(bif agg then AV.agg (cs.take sz) else cs.headD .junk)::lR agg sz n (cs.drop sz)
theorem zKq {agg:Bool} {sz:Nat} (hs:agg=false->sz=1):∀ (n:Nat) (cs:List AV),cs.length=n * sz->(∀ c∈cs,c.one=true) ->
  uT (lR agg sz n cs)=cs/\(∀ av∈lR agg sz n cs,av.cells.length=sz)/\(∀ av∈lR agg sz n cs,∀ c∈av.cells,c.one=true)/\(lR agg sz n cs).length=n:=by
 intro n
 induction n with
 | zero=>intro cs hl _;simp at hl;subst hl;simp [lR,uT]
 | succ n ih =>
  intro cs hl h1;rw [t6,Nat.one_mul] at hl;obtain ⟨e1,e2,e3,e4⟩:=ih (cs.drop sz) (by simp;omega) (fun c hc=>h1 c (bS hc));have hd:(bif agg then AV.agg (cs.take sz) else cs.headD .junk).cells=cs.take sz/\(bif agg then AV.agg (cs.take sz) else cs.headD .junk).cells.length=sz:=by
   cases agg
   ·have:=hs rfl
    subst this;cases cs with
    | nil=>simp at hl
    | cons a r =>
     have ha:=h1 a (by simp)
     have:a.cells=[a]:=by cases a<;>simp_all [AV.one,AV.cells]
     simp [this]
   ·simp [AV.cells];omega
  refine ⟨?_,?_,?_,by simp [lR,e4]⟩
  ·simp only [lR,uT,bC] at e1 ⊢;rw [e1,hd.1,VQ]
  ·intro av hav;simp only [lR,uA] at hav;rcases hav with rfl | hav
   ·exact hd.2
   ·exact e2 av hav
  ·intro av hav c hc;simp only [lR,uA] at hav;rcases hav with rfl | hav
   ·rw [hd.1] at hc;exact h1 c (aK hc)
   ·exact e3 av hav c hc
def GL (P:Program) (e:TypeId):Bool:=uQ P e||Nat.beq (szT P e) 1
theorem zDC {P:Program} {e:TypeId} (h:GL P e=true):uQ P e=false->szT P e=1:=by
 intro h0;simp only [GL,h0,Bool.false_or] at h;exact wT.1 h
theorem zEA {P:Program} {w:World} {t:TypeId} {v:Value}:(newVar t v).run P w=.ok ⟨w.heap.size,0,none⟩ (w.alloc (.cells v.cells t)):=by
 simp [newVar,newRow]
theorem zND {P:Program} {N np:Nat} {o:Oper} {t:TypeId} {rs:List (Nat×AV)} {hn:wA} {cs:List AV} (ho:o.op=.alloc t) (hz:GR P t=some cs) (hd:qF N o.dst=true) :
  qH P N np o { rs:=rs,rb:=[(hn.id,.unused)],dst:=o.dst.map fun d=>(d,.ptr hn.id 0 0 0),wb:=[(hn.id,.live (.var t cs))] }:=by
 intro G st a w hN hnp hE ⟨T,hT⟩;obtain ⟨z,_,_,hzr⟩:=EM (w:=w) (I:=fun _=>True) (T:=Tbl.empty) hz;refine jN (v:=.pointer (some ⟨w.heap.size,0,none⟩)) (w':=w.alloc (.cells z.cells t)) ?_ ?_
 ·simp only [execOp,ho,Instr.alloc,vV,hzr,v6,zEA];rfl
 ·have hu:st.box hn.id=.unused:=hE.2 (hn.id,.unused) (by simp);refine hT.new (p:=.at w.heap.size 0) (OY _ _) rfl hu (by simp [tY]) (fun b c hp=>by injection hp with hp;omega) ?_ ?_
  ·obtain ⟨z',hz1,hc,_⟩:=EM (w:=w.alloc (.cells z.cells t)) (I:=imm G (st.upd { rs:=rs,rb:=[(hn.id,.unused)],dst:=o.dst.map fun d=>(d,.ptr hn.id 0 0 0),wb:=[(hn.id,.live (.var t cs))] }) (T.put hn.id (.at w.heap.size 0))) (T:=T.put hn.id (.at w.heap.size 0)) hz;have e1:z'=z:=by
    obtain ⟨z3,hz3,_,hr3⟩:=EM (w:=w) (I:=fun _=>True) (T:=Tbl.empty) hz;rw [hzr] at hr3;injection hr3 with hr3;rw [hz1] at hz3;injection hz3 with hz3;rw [hz3,hr3]
   subst e1;exact ⟨_,_,rfl,heap_alloc_new w _,hc.size,hc.one,hc.rep⟩
  ·intro d av he;obtain ⟨hlt,rfl⟩:=tW hd he;exact ⟨by omega,zDv (Tbl.put_same _ _ _) (wI _) (by omega)⟩
theorem zMh {P:Program} {N np:Nat} {o:Oper} {t:TypeId} {x:Operand} {rs:List (Nat×AV)} {hn:wA} (ho:o.op=.box t x) (hx:xK x=true) (hc:bN (y7 rs x)=true)
  (hd:qF N o.dst=true) :
  qH P N np o { rs:=rs,rb:=[(hn.id,.unused)],dst:=o.dst.map fun d=>(d,.ptr hn.id 0 0 0),wb:=[(hn.id,.live (.var t (y7 rs x).cells))] }:=by
 intro G st a w hN hnp hE ⟨T,hT⟩;have hrep:=uS hT hE.1 hx;refine jN (v:=.pointer (some ⟨w.heap.size,0,none⟩)) (w':=w.alloc (.cells (a.eval x).cells t)) ?_ ?_
 ·simp only [execOp,ho,Instr.box,vV,v6,zEA];rfl
 ·have hu:st.box hn.id=.unused:=hE.2 (hn.id,.unused) (by simp);obtain ⟨h1,h2,h3⟩:=GC hrep hc;refine hT.new (p:=.at w.heap.size 0) (OY _ _) rfl hu (by simp [tY]) (fun b c hp=>by injection hp with hp;omega) ?_ ?_
  ·have hrep':∀ j c,(y7 rs x).cells[j]?=some c->Rep (w.alloc (.cells (a.eval x).cells t)) (imm G (st.upd { rs:=rs,rb:=[(hn.id,.unused)],dst:=o.dst.map fun d=>(d,.ptr hn.id 0 0 0),wb:=[(hn.id,.live (.var t (y7 rs x).cells))] }) (T.put hn.id (.at w.heap.size 0))) (T.put hn.id (.at w.heap.size 0)) ((a.eval x).cells.getD j undef) c:=by
    intro j c hj;refine (h3 j c hj).mono (by simp) (fun b _ hlt=>heap_alloc_old w _ b hlt) (fun b hI hlt=>?_) (Tbl.le_put (hT.unused _ hu));refine ⟨hI.1,fun id bx cap hl hTi=>?_⟩;rw [EV] at hl;simp only [AC] at hl
    by_cases e:id=hn.id
    ·subst e;rw [Tbl.put_same] at hTi;injection hTi with hTi;injection hTi with hTi;omega
    ·rw [if_neg e] at hl;rw [Tbl.put_ne _ _ e] at hTi;exact hI.2 id bx cap hl hTi
   exact ⟨_,_,rfl,heap_alloc_new w _,h1,h2,hrep'⟩
  ·intro d av he;obtain ⟨hlt,rfl⟩:=tW hd he;exact ⟨by omega,zDv (Tbl.put_same _ _ _) (wI _) (by omega)⟩
/-! Loads. -/
def zAQ (P:Program) (t:TypeId) (x:AV) (B:Nat->zR) (h:wA):Option (List Prop×Nat×AV) :=
 match x with
 | .ptr id sz i off =>
  bif u5 P t then
   match B id with
   | .live (.var _ cs) =>
    bif Nat.beq i 0&&GL P t then
     match B1 P t cs off with
     | some av=>some ([],id,av)
     | none=>none
    else none
   | .live (.row _ sz' l) =>
    bif GL P t then
     bif Nat.beq sz sz' then
      match B1 P t h.av.cells off with
      | some av=>some ([l[i]?=some h.av],id,av)
      | none=>none
     else none
    else none
   | _=>none
  else none
 | _=>none
theorem zNQ {P:Program} {N np:Nat} {o:Oper} {t:TypeId} {x:Operand} {rs:List (Nat×AV)} {hn:wA} {B:Nat->zR} {r:List Prop×Nat×AV} (ho:o.op=.load t x) (hx:xK x=true)
  (h:zAQ P t (y7 rs x) B hn=some r) (hv:∀ p∈r.1,p) (hd:qF N o.dst=true) :
  qH P N np o { rs:=rs,rb:=[(r.2.1,B r.2.1)],dst:=o.dst.map fun d=>(d,r.2.2) }:=by
 intro G st a w hN hnp hE ⟨T,hT⟩;have hrep:=uS hT hE.1 hx;unfold zAQ at h
 split at h
 case h_2=>cases h
 rename_i id sz i off hX
 rw [hX] at hrep;replace h:=xM h;obtain ⟨hk,h⟩:=h
 -- the load itself
 have fin:∀ {b o':Nat} {av:AV} {g:Nat->Value},a.eval x=.pointer (some ⟨b,o',none⟩)->(uQ P t=true->av=.agg av.cells/\av.cells.length=szT P t)->(uQ P t=false->av.cells=[av]) ->
   (∀ c∈av.cells,c.one=true)->(∀ j c,av.cells[j]?=some c->w.cell? ⟨b,o'+j,none⟩=some (g j))->(∀ j c,av.cells[j]?=some c->Rep w (imm G st T) T (g j) c) ->
   o.wp P a w (fun a' w'=>Rel G (st.upd { rs:=rs,rb:=[(id,B id)],dst:=o.dst.map fun d=>(d,av) }) a' w') (fun _ _ _=>False):=by
  intro b o' av g he h1 h2 h3 h4 h5;obtain ⟨v,hrun,hr⟩:=QP hk h1 h2 h4 h3 h5;refine jN (v:=v) (w':=w) ?_ ?_
  ·simp only [execOp,ho,he,Instr.loadAt,Instr.sureAddr,vV,jV,v6,hrun]
  ·refine hT.quiet (nC w) rfl (by simp [tY]) ?_;intro d av' he';obtain ⟨hlt,rfl⟩:=tW hd he';exact ⟨by omega,hr⟩
 generalize he:a.eval x=vx at hrep;cases hrep with
 | ptr hTi ho' =>
 rename_i o' b cap
 split at h
 ·rename_i tt cs hB
  replace h:=xM h;obtain ⟨hi,h⟩:=h;simp only [zba] at hi;have hi0:=wT.1 hi.1
  split at h
  ·rename_i av hav
   injection h with h;subst h;simp only at hE hv;have hb:st.box id=.live (.var tt cs):=(hE.2 (id,B id) (by simp)).trans hB;obtain ⟨b',C,hp,hh,h1,h2,h3⟩:=hT.boxes id _ hb;rw [hTi] at hp;injection hp with hp;injection hp with hp1 hp2;subst hp1;obtain ⟨ha,hnn,hsub,hone⟩:=HS hav h2;refine fin (g:=fun j=>C.getD (off+j) undef) he ha hnn hone ?_ ?_
   ·intro j c hj;have hs:=hsub j c hj;have hlt:off+j<C.size:=by
     rw [h1];rcases zlg (off+j) cs.length with h' | h'
     ·exact h'
     ·rw [vH h'] at hs;cases hs
    rw [ho',hi0];simp [World.cell?,hh,hlt,hp2,ZQ]
   ·intro j c hj;exact h3 _ _ (hsub j c hj)
  ·cases h
 ·rename_i e sz' l hB
  replace h:=xM h;obtain ⟨hw,h⟩:=h;replace h:=xM h;obtain ⟨hs,h⟩:=h;have hsz:=wT.1 hs;subst hsz
  split at h
  ·rename_i av hav
   injection h with h;subst h;simp only at hE hv;have hget:l[i]?=some hn.av:=hv _ (by simp);have hb:st.box id=.live (.row e sz l):=(hE.2 (id,B id) (by simp)).trans hB;rcases hT.boxes id _ hb with ⟨hp,_⟩ | ⟨b',cap',C,hp,hh,h1,h2,h3,h4,h5,h6⟩
   ·rw [hTi] at hp;cases hp
   rw [hTi] at hp;injection hp with hp;injection hp with hp1 hp2;subst hp1;obtain ⟨ha,hnn,hsub,hone⟩:=HS hav (h5 _ (yN hget));refine fin (g:=fun j=>C.getD (xR cap'+(i * sz+(off+j))) undef) he ha hnn hone ?_ ?_
   ·intro j c hj;have hs:=JZ h4 hget (hsub j c hj);have hlt:xR cap'+(i * sz+(off+j))<C.size:=by
     have:i * sz+(off+j)<(uT l).length:=by
      rcases zlg (i * sz+(off+j)) (uT l).length with h' | h'
      ·exact h'
      ·rw [vH h'] at hs;cases hs
     rw [mD h4] at this
     have:=qW sz h2
     omega
    rw [ho',hp2,lM,lM];simp [World.cell?,hh,hlt]
   ·intro j c hj;exact (h6 i _ _ c hget (hsub j c hj)).mono (yI _) (fun _ _ _=>rfl) (fun _ h _=>h) (fun i p hp=>by simp [Tbl.empty] at hp)
  ·cases h
 ·cases h
/-! Stores. -/
def kV (av:AV) (off:Nat) (vs:List AV):AV :=
 match av with
 | .agg cs=>.agg (b9 cs off vs)
 | _=>vs.headD .junk
def zBj (P:Program) (t:TypeId) (x v:AV) (B:Nat->zR) (h:wA):Option (List Prop×Nat×Box) :=
 match x with
 | .ptr id sz i off =>
  bif (u5 P t&&bN v)&&Nat.beq v.cells.length (szT P t) then
   match B id with
   | .live (.var tt cs)=>bif Nat.beq i 0&&Nat.ble (off+v.cells.length) cs.length then some ([],id,.var tt (b9 cs off v.cells)) else none
   | .live (.row e sz' l) =>
    bif ((Nat.beq sz sz'&&v.pure)&&!(Nat.beq v.cells.length 0))&&(Nat.ble (off+v.cells.length) h.av.cells.length&&bN h.av) then
     some ([l[i]?=some h.av,h.l=l.set i (kV h.av off v.cells)],id,.row e sz' h.l)
    else none
   | _=>none
  else none
 | _=>none
theorem zIK {av:AV} {off:Nat} {vs:List AV} (h:bN av=true) (hl:off+vs.length<=av.cells.length) (h1:∀ c∈vs,c.one=true) (hv:0<vs.length) :
  (kV av off vs).cells=b9 av.cells off vs:=by
 cases av with
 | agg cs=>rfl
 | _ =>
  simp only [AV.cells,zls] at hl;have e1:off=0:=by omega
  have e2:vs.length=1:=by omega
  subst e1
  match vs,e2 with
  | [a],_ =>
   have:=h1 a (by simp)
   have hc:a.cells=[a]:=by cases a<;>simp_all [AV.one,AV.cells]
   show a.cells=_;rw [hc];rfl
theorem zBE {P:Program} {w:World} {t tt:TypeId} {b off:Nat} {v:Value} {C:Array Value} (hk:u5 P t=true) (hs:v.cells.size=szT P t) (hh:w.heap[b]?=some (.cells C tt (0,0)))
  (h1:∀ u∈v.cells.toList,u.oneCell'=true) (hle:off+v.cells.size<=C.size) :
  (storeVar t ⟨b,off,none⟩ v).run P w=.ok () (w.setRow b (C.toList.take off++v.cells.toList++C.toList.drop (off+v.cells.size)).toArray):=by
 have:=run_storeCells_at P b off tt v.cells.toList 0 C w hh (by simpa using hle) h1
 simp only [storeVar,vV,dO hk,v6,hs,ne_eq,not_true_eq_false,if_false];simpa [hs] using this
theorem J7 {w:World} {b:Nat} {C:Array Value}:w.grownBy (w.setRow b C) (some b) :=
 ⟨rfl,rfl,rfl,by simp,fun k _ hk=>setRow_other w b k _ (fun e=>hk (by rw [e]))⟩
theorem C6 {C:Array Value} {vs:List Value} {off:Nat} (hle:off+vs.length<=C.size) (k:Nat) :
  ((C.toList.take off++vs++C.toList.drop (off+vs.length)).toArray).getD k undef=if off<=k/\k<off+vs.length then vs.getD (k - off) undef else C.getD k undef:=by
 simp only [bG,KM,List.getD];have hl:(C.toList.take off).length=off:=by simp;omega
 by_cases h1:k<off
 ·rw [if_neg (by omega),oT,uH (by omega),aY,if_pos h1];simp
 ·by_cases h2:k<off+vs.length
  ·rw [if_pos ⟨by omega,h2⟩,uH (by simp only [zla];omega),u4 (by omega),hl]
  ·rw [if_neg (by omega),u4 (by simp only [zla];omega),gH];simp only [zla,hl,k9];rw [show off+vs.length+(k - (off+vs.length))=k by omega]
theorem zJt {P:Program} {N np:Nat} {o:Oper} {t:TypeId} {x y:Operand} {rs:List (Nat×AV)} {hn:wA} {B:Nat->zR} {r:List Prop×Nat×Box} (ho:o.op=.store t x y) (hx:xK x=true) (hy:xK y=true)
  (h:zBj P t (y7 rs x) (y7 rs y) B hn=some r) (hv:∀ p∈r.1,p) (hd:o.dst=none) :
  qH P N np o { rs:=rs,rb:=[(r.2.1,B r.2.1)],wb:=[(r.2.1,.live r.2.2)] }:=by
 intro G st a w hN hnp hE ⟨T,hT⟩;have hrx:=uS hT hE.1 hx;have hry:=uS hT hE.1 hy;unfold zBj at h
 split at h
 case h_2=>cases h
 rename_i id sz i off hX
 rw [hX] at hrx;replace h:=xM h;obtain ⟨hc,h⟩:=h;simp only [zba] at hc;obtain ⟨⟨hk,hok⟩,hln⟩:=hc;have hln:=wT.1 hln;obtain ⟨c1,c2,c3⟩:=GC hry hok;have hvs:(a.eval y).cells.size=szT P t:=by rw [c1,hln]
 have hone:∀ u∈(a.eval y).cells.toList,u.oneCell'=true:=by
  intro u hu;obtain ⟨j,hj⟩:=uG.1 hu;have hjl:j<(a.eval y).cells.size:=by
   rcases zlg j (a.eval y).cells.size with h' | h'
   ·exact h'
   ·rw [vH (by simpa using h')] at hj;cases hj
  have hjc:j<(y7 rs y).cells.length:=by omega
  have:=c3 j _ (w7 hjc)
  have e:(a.eval y).cells.getD j undef=u:=by
   rw [k9] at hj;simp [hj]
  rw [e] at this;exact this.oneCell (c2 _ (g8 hjc))
 generalize he:a.eval x=vx at hrx;cases hrx with
 | ptr hTi ho' =>
 rename_i o' b cap
 -- the run
 have hexec:∀ {C:Array Value} {tt:TypeId},w.heap[b]?=some (.cells C tt (0,0))->o'+(a.eval y).cells.size<=C.size ->
   (execOp a.eval o).run P w=.ok .skip (w.setRow b (C.toList.take o'++(a.eval y).cells.toList++C.toList.drop (o'+(a.eval y).cells.size)).toArray):=by
  intro C tt hh hle;simp only [execOp,ho,he,Instr.storeAt,Instr.sureAddr,vV,jV,v6,zBE hk hvs hh hone hle]
 split at h
 ·rename_i tt cs hB
  replace h:=xM h;obtain ⟨hc',h⟩:=h;simp only [zba] at hc';have hi0:=wT.1 hc'.1;have hle:=zle hc'.2;injection h with h;subst h;simp only at hE hv;have hb:st.box id=.live (.var tt cs):=(hE.2 (id,B id) (by simp)).trans hB;have hokb:=hT.boxes id _ hb;obtain ⟨b',C,hp,hh,h1,h2,h3⟩:=hokb;have hp0:=hp;rw [hTi] at hp;injection hp with hp;injection hp with hp1 hp2;subst hp1;have ho2:o'=off:=by rw [ho',hi0,hp2,ZQ];omega
  subst ho2;have hle2:o'+(a.eval y).cells.size<=C.size:=by omega
  unfold Oper.wp;rw [hexec hh hle2];show Rel G _ (a.put o.dst undef) _;refine hT.write hb hTi J7 rfl (by rw [hd];rfl) ?_ (fun d av hE=>by cases hE);refine ⟨b,_,hp0,setRow_heap w b C _ tt _ hh,?_,?_,?_⟩
  ·rw [HV hle];simp;omega
  ·intro c hc;unfold b9 at hc;rcases wL.1 hc with hc | hc
   ·rcases wL.1 hc with hc | hc
    ·exact h2 c (aK hc)
    ·exact c2 c hc
   ·exact h2 c (bS hc)
  ·intro j c hj;have hmono:∀ {v av},Rep w (imm G st T) T v av->Rep (w.setRow b (C.toList.take o'++(a.eval y).cells.toList++C.toList.drop (o'+(a.eval y).cells.size)).toArray) (imm G st T) T v av:=fun h =>
    h.mono (by simp) (fun b2 hI _=>setRow_other w b b2 _ (fun e=>by subst e;exact hI.2 id _ cap hb hTi)) (fun _ h _=>h) (fun _ _ h=>h)
   rw [Q0 hle] at hj;have hsz:(a.eval y).cells.size=(a.eval y).cells.toList.length:=by simp
   rw [hsz,C6 (by simpa using hle2)];simp only [oN]
   by_cases k1:j<o'
   ·rw [if_pos k1] at hj;rw [if_neg (by omega)];exact hmono (h3 j c hj)
   ·rw [if_neg k1] at hj
    by_cases k2:j<o'+(y7 rs y).cells.length
    ·rw [if_pos k2] at hj;rw [if_pos (by omega)]
     have:=c3 _ c hj
     refine hmono ?_;simpa [List.getD] using this
    ·rw [if_neg k2] at hj;rw [if_neg (by omega)];exact hmono (h3 j c hj)
 ·rename_i e sz' l hB
  replace h:=xM h;obtain ⟨hc',h⟩:=h;simp only [zba] at hc';obtain ⟨⟨⟨hs,hpure⟩,hnz⟩,hle,hoke⟩:=hc';have hs:=wT.1 hs;have hle:=zle hle;injection h with h;subst h;simp only at hE hv;have hget:l[i]?=some hn.av:=hv _ (by simp);have hset:hn.l=l.set i (kV hn.av off (y7 rs y).cells):=hv _ (by simp);have hb:st.box id=.live (.row e sz' l):=(hE.2 (id,B id) (by simp)).trans hB;have hp0:=hT.boxes id _ hb;rcases hp0 with ⟨hp,_⟩ | ⟨b',cap',C,hp,hh,h1,h2,h3,h4,h5,h6⟩
  ·rw [hTi] at hp;cases hp
  have hp0:=hp;rw [hTi] at hp;injection hp with hp;injection hp with hp1 hp2;subst hp1;subst hs;subst hp2;have hil:i<l.length:=by
   rcases zlg i l.length with h' | h'
   ·exact h'
   ·rw [vH h'] at hget;cases hget
  have hwid:=h4 _ (yN hget);have hle2:o'+(a.eval y).cells.size<=C.size:=by
   have:=qW sz (show i+1<=v7 cap by omega)
   rw [t6] at this;omega
  unfold Oper.wp;rw [hexec hh hle2];show Rel G _ (a.put o.dst undef) _;have hmono:∀ {v av},Rep w (imm G st T) Tbl.empty v av->Rep (w.setRow b (C.toList.take o'++(a.eval y).cells.toList++C.toList.drop (o'+(a.eval y).cells.size)).toArray) (imm G st T) Tbl.empty v av:=fun h =>
   h.mono (by simp) (fun b2 hI _=>setRow_other w b b2 _ (fun e=>by subst e;exact hI.2 id _ cap hb hTi)) (fun _ h _=>h) (fun _ _ h=>h)
  refine hT.write hb hTi J7 rfl (by rw [hd];rfl) ?_ (fun d av hE=>by cases hE)
  by_cases hz:(y7 rs y).cells.length=0
  ·rw [hz] at hnz;simp at hnz
  have hcells:=zIK hoke hle c2 (Nat.pos_of_ne_zero hz);have hmem:∀ av∈hn.l,av∈l\/av=kV hn.av off (y7 rs y).cells:=by
   intro av hav;rw [hset] at hav;exact mY hav
  refine .inr ⟨b,cap,_,hp0,setRow_heap w b C _ e _ hh,?_,by rw [hset];simpa using h2,h3,?_,?_,?_⟩
  ·simp;omega
  ·intro av hav;rcases hmem av hav with h' | h'
   ·exact h4 av h'
   ·rw [h',hcells,HV hle];exact hwid
  ·intro av hav c hc;rcases hmem av hav with h' | h'
   ·exact h5 av h' c hc
   ·rw [h',hcells] at hc;unfold b9 at hc;rcases wL.1 hc with hc | hc
    ·rcases wL.1 hc with hc | hc
     ·exact h5 _ (yN hget) c (aK hc)
     ·exact c2 c hc
    ·exact h5 _ (yN hget) c (bS hc)
  ·intro i' av j c hi' hj;have hsz:(a.eval y).cells.size=(a.eval y).cells.toList.length:=by simp
   rw [hsz,C6 (by simpa using hle2)];simp only [oN];rw [hset,GG] at hi'
   by_cases hii:i=i'
   ·subst hii;rw [if_pos rfl,if_pos hil] at hi';injection hi' with hi';subst hi';rw [hcells,Q0 hle] at hj
    by_cases k1:j<off
    ·rw [if_pos k1] at hj;rw [if_neg (by omega)];exact hmono (h6 i _ j c hget hj)
    ·rw [if_neg k1] at hj
     by_cases k2:j<off+(y7 rs y).cells.length
     ·rw [if_pos k2] at hj;rw [if_pos (by omega)]
      have:=c3 _ c hj
      have hpc:c.pure=true:=by
       cases hY:y7 rs y with
       | agg cs=>rw [hY] at hj hpure;exact AV.pures_get hpure hj
       | _=>rw [hY] at hj hpure;simp only [AV.cells] at hj;cases hjo:(j - off) with
        | zero=>rw [hjo] at hj;simp at hj;subst hj;exact hpure
        | succ n=>rw [hjo] at hj;simp at hj
      have:=hmono (this.bare hpc)
      rw [show xR cap+(i * sz+j) - o'=j - off by omega];simpa [List.getD] using this
     ·rw [if_neg k2] at hj;rw [if_neg (by omega)];exact hmono (h6 i _ j c hget hj)
   ·rw [if_neg hii] at hi';have hjl:j<sz:=by
     rw [<- h4 _ (yN hi')];rcases zlg j av.cells.length with h' | h'
     ·exact h'
     ·rw [vH h'] at hj;cases hj
    have hne:¬ (o'<=xR cap+(i' * sz+j)/\xR cap+(i' * sz+j)<o'+(a.eval y).cells.size):=by
     rw [ho'];rcases Nat.lt_or_gt_of_ne hii with hlt | hgt
     ·have:=qW sz (show i+1<=i' by omega)
      rw [t6] at this;omega
     ·have:=qW sz (show i'+1<=i by omega)
      rw [t6] at this;omega
    rw [if_neg hne];exact hmono (h6 i' av j c hi' hj)
 ·cases h
def SC (P:Program) (sz:Nat) (y:AV) (B:Nat->zR):Option (List Prop×List Nat×List AV) :=
 match y with
 | .own id _ =>
  match B id with
  | .live (.row _ sz' l)=>bif Nat.beq sz' sz then some ([],[id],l) else none
  | _=>none
 | .part id sz' lo hi =>
  match B id with
  | .live (.row _ sz'' l)=>bif Nat.beq sz' sz&&Nat.beq sz'' sz then some ([hi<=l.length],[id],(l.take hi).drop lo) else none
  | _=>none
 | y=>match ZH P sz y with
  | some m=>some ([],[],m)
  | none=>none
theorem zAR {P:Program} {w:World} {I:Nat->Prop} {b cap:Nat} {C:Array Value} {e:TypeId} {sz:Nat} {l m:List AV} {x:Value} {o0 lo n c:Nat}
  (hh:w.heap[b]?=some (.cells C e (0,0))) (hcs:o0+cap * sz<=C.size) (hl:l.length<=cap) (hcm:cap<=maxLen) (h4:∀ av∈l,av.cells.length=sz) (h5:∀ av∈l,∀ c∈av.cells,c.one=true)
  (h6:∀ i av j c,l[i]?=some av->av.cells[j]?=some c->Rep w I Tbl.empty (C.getD (o0+(i * sz+j)) undef) c)
  (hx:x=.slice (some ⟨b,o0+lo * sz,none⟩) n c) (hm:m=(l.take (lo+n)).drop lo) (hn:lo+n<=l.length):∃ news,Src P w I sz x m news:=by
 have hb:b<w.heap.size:=by
  rcases zlg b w.heap.size with h' | h'
  ·exact h'
  ·rw [fJ h'] at hh;cases hh
 have hml:m.length=n:=by rw [hm];simp;omega
 have hmem:∀ av∈m,av∈l:=fun av hav=>by rw [hm] at hav;exact aK (bS hav)
 have hget:∀ i av,m[i]?=some av->l[lo+i]?=some av:=by
  intro i av hi;rw [hm,gH,aY] at hi
  split at hi
  ·exact hi
  ·cases hi
 have hwid:∀ av∈m,av.cells.length=sz:=fun av hav=>h4 av (hmem av hav)
 refine ⟨(List.range (n * sz)).map fun k=>C.getD (o0+lo * sz+k) undef,by simp [hml],hwid,fun av hav=>h5 av (hmem av hav),?_,?_,by rw [hml];omega,?_⟩
 ·intro k c hk;obtain ⟨i,j,av,he,g1,g2⟩:=Z2 hwid hk;have hlt:k<n * sz:=by
   rw [<- hml,<- mD hwid];rcases zlg k (uT m).length with h' | h'
   ·exact h'
   ·rw [vH h'] at hk;cases hk
  rw [zAS hlt]
  have:=h6 (lo+i) av j c (hget i av g1) g2
  rw [he,lM,<- lM (lo * sz),<- t6];exact this
 ·intro w2;simp [hx,Builtin.lenOf,hml]
 ·intro q w2 hq hw;simp only [hx,Builtin.firstCells];have hle:q * sz<=n * sz:=qW _ (by omega);have hsz:o0+lo * sz+n * sz<=C.size:=by
   refine kX ?_ hcs;rw [lM,<- t6];exact Y8 (qW _ (by omega)) _
  rw [run_loadCells (P:=P) w2 ⟨b,o0+lo * sz,none⟩ (q * sz) (fun k=>C.getD (o0+lo * sz+k) undef)]
  ·congr 2
   rw [<- O4,List.take_range,DQ hle]
  ·intro j hj;rw [mC];have hlt:o0+lo * sz+j<C.size:=by omega
   rw [VG (hw b hb)];simp [World.cell?,hh,hlt]
theorem zCr {P:Program} {w:World} {I:Nat->Prop} {a:Option Addr} {c:Nat} (sz:Nat):Src P w I sz (.slice a 0 c) [] []:=by
 refine ⟨by simp,by simp,by simp,fun k c hk=>by simp [uT] at hk,fun w2=>by simp [Builtin.lenOf],by simp,fun n w2 hn _=>?_⟩
 have:n=0:=by simpa using hn
 subst this;cases a with
 | none=>simp [Builtin.firstCells]
 | some a=>simp [Builtin.firstCells,loadCells,loadCellsFrom]
def V3 (y:AV) (m:List AV):Prop:=match y with | .own _ n=>n=m.length | .part _ _ lo hi=>lo<=hi | _=>True
theorem zD3 {P:Program} {G:wQ} {st:AS} {T:Tbl} {a:Act} {w:World} {v:Value} {sz:Nat} {y:AV} {B:Nat->zR} {r:List Prop×List Nat×List AV}
  (hT:uF G st T a w) (hy:Rep w (imm G st T) T v y) (h:SC P sz y B=some r) (hB:∀ id∈r.2.1,st.box id=B id) (hv:∀ p∈r.1,p) (hlen:V3 y r.2.2) :
  ∃ news,Src P w (imm G st T) sz v r.2.2 news:=by
 unfold SC at h
 split at h
 ·rename_i id n
  split at h
  ·rename_i e sz' l hl
   replace h:=xM h;obtain ⟨hs,h⟩:=h;have hs:=wT.1 hs;subst hs;injection h with h;subst h;have hb:st.box id=.live (.row e sz' l):=(hB id (by simp)).trans hl;have hn:n=l.length:=hlen;rcases hT.boxes id _ hb with ⟨hp,hnil⟩ | ⟨b',cap',C,hp,hh,h1,h2,h3,h4,h5,h6⟩
   ·subst hnil;cases hy with
    | ownNil=>exact ⟨[],zCr _⟩
    | own hTi=>rw [hp] at hTi;cases hTi
   ·cases hy with
    | ownNil hTi=>rw [hp] at hTi;cases hTi
    | own hTi c1 c2 =>
     rename_i b cap
     rw [hp] at hTi;injection hTi with hTi;injection hTi with e1 e2;subst e1;subst e2;exact zAR (o0:=xR cap') (lo:=0) (n:=n) (c:=v7 cap') hh h1 h2 h3 h4 h5 h6 (by simp) (by simp [hn]) (by omega)
  ·cases h
 ·rename_i id sz' lo hi
  split at h
  ·rename_i e sz'' l hl
   replace h:=xM h;obtain ⟨hs,h⟩:=h;simp only [zba] at hs;have hs1:=wT.1 hs.1;have hs2:=wT.1 hs.2;subst hs1;subst hs2;injection h with h;subst h;have hb:st.box id=.live (.row e sz'' l):=(hB id (by simp)).trans hl;have hhi:hi<=l.length:=hv _ (by simp);have hlo:lo<=hi:=hlen;cases hy with
   | part0 hc=>simp only [List.drop_take_self];exact ⟨[],zCr _⟩
   | part hTi p1 p2 p3 p4 p5 p6 =>
    rename_i o n c b cap
    rcases hT.boxes id _ hb with ⟨hp,hnil⟩ | ⟨b',cap',C,hp,hh,h1,h2,h3,h4,h5,h6⟩
    ·rw [hp] at hTi;cases hTi
    ·rw [hp] at hTi;injection hTi with hTi;injection hTi with e1 e2;subst e1;subst e2;exact zAR (o0:=xR cap') (lo:=lo) (n:=n) hh h1 h2 h3 h4 h5 h6 (by rw [p6]) (by rw [p2];simp only [];rw [show lo+(hi - lo)=hi by omega]) (by omega)
  ·cases h
 ·rename_i y' hn1 hn2
  split at h
  ·rename_i m hm
   injection h with h;subst h;exact zO6 hy hm
  ·cases h
/-! Append to a row of the call's own. -/
theorem zNL {P:Program} {t t2 e tt:TypeId} {i:TypeInfo} {z:Value} {w:World} {ty:TypeId} (ht:J3 P t e i z) (h2:KQ P t2=true)
  {b o0 sLen sCap n:Nat} {C:Array Value} {x:Value} {news:List Value} (hlen:(Builtin.lenOf x).run P w=.ok n w)
  (hfx:(Builtin.firstCells (szT P e) n x).run P w=.ok news.toArray w) (hle:sLen+n<=sCap) (hh:w.heap[b]?=some (.cells C tt (0,0)))
  (hfit:o0+sLen * szT P e+news.length<=C.size) (h1:∀ u∈news,u.oneCell'=true) :
  (Builtin.append_ #[t,t2] ty #[.slice (some ⟨b,o0,none⟩) sLen sCap,x]).run P w =
   .ok (.slice (some ⟨b,o0,none⟩) (sLen+n) sCap) (w.setRow b (C.toList.take (o0+sLen * szT P e)++news++C.toList.drop (o0+sLen * szT P e+news.length)).toArray):=by
 obtain ⟨d,hd,hnd⟩:=zB1 h2;have hst:=run_storeCells_at P b (o0+sLen * szT P e) tt news 0 C w hh (by simpa using hfit) h1;simp only [A2] at hst;simp only [Builtin.append_,KM,jY,pJ,vV,run_underlying ht.und,run_underlying hd,v6,sizeOf,typeInfo,run_program,
  ht.info,jV]
 simp [hlen,hle,ht.size,hfx,mC,hst]
def ZY (P:Program) (t t2:TypeId) (x y:AV) (B:Nat->zR) (h:wA):Option (List Prop×List Nat×Nat×Box×AV) :=
 match x,KY P t with
 | .own id n,some e =>
  match B id with
  | .live (.row e' sz l) =>
   bif (Nat.beq e e'&&Nat.beq sz (szT P e))&&KQ P t2 then
    match SC P sz y B with
    | some (vc,ids,m) =>
     bif (ids.all fun i=>!(Nat.beq i id))&&!(Nat.beq h.id id) then
      some (vc++[n=l.length,V3 y m,h.l=l++m,h.n=h.l.length,(l.length+m.length) * lE P e<=140737488355328],ids,id,.row e sz h.l,.own h.id h.n)
     else none
    | none=>none
   else none
  | _=>none
 | _,_=>none
theorem zNK {P:Program} {N np:Nat} {o:Oper} {t t2:TypeId} {x y:Operand} {rs:List (Nat×AV)} {hn:wA} {B:Nat->zR} {r:List Prop×List Nat×Nat×Box×AV}
  (ho:o.op=.call { callee:=.builtin .append,args:=#[x,y],argTypes:=#[t,t2] }) (hx:xK x=true) (hy:xK y=true)
  (h:ZY P t t2 (y7 rs x) (nz (y7 rs y)) B hn=some r) (hv:∀ p∈r.1,p) (hd:qF N o.dst=true) (hid:np<=r.2.2.1) :
  qH P N np o { rs:=rs,rb:=(hn.id,.unused)::(r.2.2.1,B r.2.2.1)::r.2.1.map (fun i=>(i,B i)),dst:=o.dst.map fun d=>(d,r.2.2.2.2),wb:=[(hn.id,.live r.2.2.2.1),(r.2.2.1,.dead)] }:=by
 intro G st a w hN hnp hE ⟨T,hT⟩;have hrx:=uS hT hE.1 hx;have hry:=BK (uS hT hE.1 hy);unfold ZY at h
 split at h
 case h_2=>cases h
 rename_i id n e hX hrow
 rw [hX] at hrx;obtain ⟨i,z,ht⟩:=UF hrow
 split at h
 case h_2=>cases h
 rename_i e' sz l hB
 replace h:=xM h;obtain ⟨hc,h⟩:=h;simp only [zba] at hc;obtain ⟨⟨he,hsz⟩,h2⟩:=hc;have he:=wT.1 he;have hsz:=wT.1 hsz;subst he;subst hsz
 split at h
 case h_2=>cases h
 rename_i vc ids m hsrc
 replace h:=xM h;obtain ⟨hids,h⟩:=h;injection h with h;subst h;simp only at hE hv hid;have hnl:n=l.length:=hv _ (by simp);have hol:V3 (nz (y7 rs y)) m:=hv _ (by simp);have hL:hn.l=l++m:=hv _ (by simp);have hN':hn.n=hn.l.length:=hv _ (by simp);have hby:(l.length+m.length) * lE P e<=140737488355328:=hv _ (by simp);have hmax:l.length+m.length<=maxLen:=by
  have:=ZX (l.length+m.length) ht.bpos
  rw [nY];omega
 have hu:st.box hn.id=.unused:=hE.2 (hn.id,.unused) (by simp);have hb:st.box id=.live (.row e (szT P e) l):=(hE.2 (id,B id) (by simp)).trans hB;obtain ⟨news,hs⟩:=zD3 hT hry hsrc (fun i hi=>hE.2 (i,B i) (qX _ (qX _ (vB.2 ⟨i,hi,rfl⟩)))) (fun p hp=>hv p (by simp at hp ⊢;exact .inl hp)) hol;replace hs:Src P w (imm G st T) (szT P e) (a.eval y) m news:=hs;have hnewsone:∀ u∈news,u.oneCell'=true:=by
  intro u hu';obtain ⟨k,hk⟩:=uG.1 hu';have hkl:k<news.length:=by
   rcases zlg k news.length with h' | h'
   ·exact h'
   ·rw [vH h'] at hk;cases hk
  have hkf:k<(uT m).length:=by rw [mD hs.wid,<- hs.len];exact hkl
  have:=hs.rep k _ (w7 hkf)
  rw [vQ,hk] at this;exact this.oneCell (YY hs.one _ (g8 hkf))
 have hrun:∀ (v:Value) (w':World),(Builtin.append_ #[t,t2] o.type #[a.eval x,a.eval y]).run P w=.ok v w'->(execOp a.eval o).run P w=.ok (.value v) w':=fun v w' hv=>by
  simp [execOp,ho,resolve,invoke,builtin,hv]
 have hokl:=hT.boxes id _ hb;have wid_l:∀ av∈l,av.cells.length=szT P e:=by
  rcases hokl with ⟨_,hnil⟩ | ⟨b',cap',C,hp,hh,h1,h2',h3,h4,h5,h6⟩
  ·subst hnil;simp
  ·exact h4
 have one_l:∀ av∈l,∀ c∈av.cells,c.one=true:=by
  rcases hokl with ⟨_,hnil⟩ | ⟨b',cap',C,hp,hh,h1,h2',h3,h4,h5,h6⟩
  ·subst hnil;simp
  ·exact h5
 have hw:∀ av∈hn.l,av.cells.length=szT P e:=by
  intro av hav;rw [hL] at hav;rcases wL.1 hav with h | h
  ·exact wid_l av h
  ·exact hs.wid av h
 have h1w:∀ av∈hn.l,∀ c∈av.cells,c.one=true:=by
  intro av hav;rw [hL] at hav;rcases wL.1 hav with h | h
  ·exact one_l av h
  ·exact hs.one av h
 have hLlen:hn.l.length=l.length+m.length:=by rw [hL];simp
 have hfl:=mD wid_l;have hfm:=mD hs.wid
 -- what a new row says
 have rowAt:∀ {w':World} {I:Nat->Prop} {C:Array Value} {olds:List Value} {o0:Nat},w.heap.size<=w'.heap.size->(∀ b,imm G st T b->b<w.heap.size->w'.heap[b]?=w.heap[b]?) ->
   (∀ b,imm G st T b->b<w.heap.size->I b)->olds.length=l.length * szT P e->(∀ k c,(uT l)[k]?=some c->Rep w (imm G st T) Tbl.empty (olds.getD k undef) c) ->
   (∀ k,k<(olds++news).length->C.getD (o0+k) undef=(olds++news).getD k undef) ->
   ∀ i av j c,hn.l[i]?=some av->av.cells[j]?=some c->Rep w' I Tbl.empty (C.getD (o0+(i * szT P e+j)) undef) c:=by
  intro w' I C olds o0 hs' hc hI ho1 ho2 hC i av j c hi hj;have hk:=JZ hw hi hj;generalize i * szT P e+j=k at hk;have hln:=hs.len;have hkl:k<(uT hn.l).length:=by
   rcases zlg k (uT hn.l).length with h' | h'
   ·exact h'
   ·rw [vH h'] at hk;cases hk
  rw [hL,zOM] at hk hkl;rw [zla,hfl,hfm] at hkl;rw [hC k (by simp only [zla];omega)];have hmono:∀ {v av},Rep w (imm G st T) Tbl.empty v av->Rep w' I Tbl.empty v av:=fun h=>h.mono hs' hc hI (fun _ _ h=>h)
  rcases zlg k (uT l).length with hlt | hge'
  ·rw [uH hlt] at hk;rw [vQ,uH (by omega),<- vQ];exact hmono (ho2 k c hk)
  ·rw [u4 hge'] at hk
   have:=hs.rep _ c hk
   rw [vQ,u4 (by omega),<- vQ];rw [hfl,<- ho1] at this;exact hmono this
 -- a new block is made
 have grow:∀ {base:Option Addr} {cap:Nat} {olds:List Value} {row:Option Nat},a.eval x=.slice base l.length cap->cap<l.length+m.length->olds.length=l.length * szT P e ->
   (∀ k c,(uT l)[k]?=some c->Rep w (imm G st T) Tbl.empty (olds.getD k undef) c) ->
   (∀ w2:World,w2.heap=w.heap->(Builtin.firstCells (szT P e) l.length (.slice base l.length cap)).run P w2=.ok olds.toArray w2) ->
   row=none ->
   o.wp P a w (fun a' w'=>Rel G (st.upd { rs:=rs,rb:=(hn.id,.unused)::(id,B id)::ids.map (fun i=>(i,B i)),dst:=o.dst.map fun d=>(d,.own hn.id hn.n),wb:=[(hn.id,.live (.row e (szT P e) hn.l)),(id,.dead)] }) a' w') (fun _ _ _=>False):=by
  intro base cap olds row hX' hlt ho1 ho2 hfo _;have hnew:=zHa (P:=P) (w:=w) (ty:=o.type) ht h2 (base:=base) (sLen:=l.length) (sCap:=cap) (n:=m.length) (x:=a.eval y) (olds:=olds) (news:=news)
   (hs.lenOf w) (fun w2 hw=>by have:=hs.cells m.length w2 (yI _) (fun b _=>by rw [hw]);rwa [kC (by rw [hs.len];exact yI _)] at this) hfo hlt hmax hby
  have hge:=grownCap_ge w (l.length+m.length) cap e;have hcm:=grownCap_le_maxLen w (l.length+m.length) cap e hmax;have hex:=hrun _ _ (by rw [hX'];exact hnew);refine jN hex ?_;refine hT.move (p:=.at w.heap.size (grownCap w (l.length+m.length) cap e)) (row:=none) hb hu (by omega) (fun g hg=>by cases hg) ⟨rfl,rfl,rfl,by simp,fun k hk _=>heap_alloc_old w.drew _ k hk⟩ rfl
   (by simp [tY]) (fun b c hp=>by injection hp with hp;exact .inl (by omega)) ?_ ?_
  ·intro I T' hI _;have hz:(Builtin.zeroCells z.cells (grownCap w (l.length+m.length) cap e - (l.length+m.length))).size=(grownCap w (l.length+m.length) cap e - (l.length+m.length)) * szT P e:=by
    rw [size_zeroCells,ht.zsize]
   refine zA2 (heap_alloc_new w.drew _) ?_ (by omega) hcm hw h1w ?_
   ·simp only [Array.size_append,List.size_toArray,ho1,hs.len,hz,<- t6]
    congr 1
    omega
   ·have:=rowAt (olds:=olds) (o0:=0) (I:=I) (C:=olds.toArray++news.toArray++Builtin.zeroCells z.cells (grownCap w (l.length+m.length) cap e - (l.length+m.length))) (w':=w.drew.alloc (.cells (olds.toArray++news.toArray++Builtin.zeroCells z.cells (grownCap w (l.length+m.length) cap e - (l.length+m.length))) e)) (by simp) (fun b _ hlt=>heap_alloc_old w.drew _ b hlt) hI ho1 ho2 (by
     intro k hk;rw [cQ];exact zJy hk)
    simpa only [cQ] using this
  ·intro d av he;obtain ⟨hlt',rfl⟩:=tW hd he;refine ⟨by omega,fun I T' hT'=>?_⟩;rw [hN',hLlen];exact zAq hT' hge hcm
 rcases hokl with ⟨hp,hnil⟩ | ⟨b',cap',C,hp,hh,h1,h2',h3,h4,h5,h6⟩
 · -- nothing was there
  generalize hXv:a.eval x=vx at hrx;cases hrx with
  | own hTi=>rw [hp] at hTi;cases hTi
  | ownNil hTi =>
   rename_i a0
   by_cases hm:m.length=0
   ·have hm0:m=[]:=cK hm;have h0:=hs.cells 0 w (wI _) (fun _ _=>rfl);simp only [Nat.zero_mul,WX] at h0;have hlen0:=hs.lenOf w;rw [hm] at hlen0;refine jN (hrun _ _ (by rw [hXv];exact zGV ht h2 hlen0 h0 (yI _))) ?_;refine hT.move (p:=.nil) (row:=none) hb hu (by omega) (fun g hg=>by cases hg) (nC w) rfl (by simp [tY]) (fun b c hp=>by cases hp) ?_ ?_
    ·intro I T' _ _;exact .inl ⟨rfl,by rw [hL,hnil,hm0];rfl⟩
    ·intro d av he;obtain ⟨hlt',rfl⟩:=tW hd he;refine ⟨by omega,fun I T' hT'=>?_⟩
     have:hn.n=0:=by rw [hN',hLlen,hm,hnil];rfl
     rw [this];exact .ownNil hT'
   ·refine grow (base:=a0) (cap:=0) (olds:=[]) (row:=none) (by rw [hXv,hnil];rfl) (by omega) (by rw [hnil];simp) (fun k c hk=>by rw [hnil] at hk;simp [uT] at hk) (fun w2 _=>?_) rfl;rw [hnil];cases a0<;>simp [Builtin.firstCells,loadCells,loadCellsFrom]
 ·generalize hXv:a.eval x=vx at hrx;cases hrx with
  | ownNil hTi=>rw [hp] at hTi;cases hTi
  | own hTi c1 c2 =>
   rename_i b cap
   have hTi0:=hTi;rw [hp] at hTi;injection hTi with hTi;injection hTi with e1 e2;subst e1;subst e2;obtain ⟨olds,hso⟩:=zAR (P:=P) (o0:=xR cap') (lo:=0) (n:=n) (c:=v7 cap') (m:=l) (x:=.slice (some ⟨b',xR cap',none⟩) n (v7 cap')) hh h1 h2' h3 h4 h5 h6 (by simp) (by simp [hnl]) (by omega);have hfo:∀ w2:World,w2.heap=w.heap->(Builtin.firstCells (szT P e) l.length (.slice (some ⟨b',xR cap',none⟩) n (v7 cap'))).run P w2=.ok olds.toArray w2:=fun w2 hw=>by
    have:=hso.cells l.length w2 (yI _) (fun b _=>by rw [hw]);rwa [kC (by rw [hso.len];exact yI _)] at this
   by_cases hroom:l.length+m.length<=v7 cap'
   ·have hfx:=hs.cells m.length w (yI _) (fun _ _=>rfl);rw [kC (by rw [hs.len];exact yI _)] at hfx;have hfit:xR cap'+n * szT P e+news.length<=C.size:=by
     refine kX ?_ h1;rw [hs.len,hnl,lM,<- t6];exact Y8 (qW _ hroom) _
    have hr:=zNL (P:=P) (w:=w) (ty:=o.type) ht h2 (b:=b') (o0:=xR cap') (sLen:=n) (sCap:=v7 cap') (hs.lenOf w) hfx (by omega) hh hfit hnewsone;refine jN (hrun _ _ (by rw [hXv];exact hr)) ?_;refine hT.move (p:=.at b' cap') (row:=some b') hb hu (by omega) (fun g hg=>by injection hg with hg;subst hg;exact ⟨cap',hTi0⟩) J7 rfl
     (by simp [tY]) (fun b c hp=>by injection hp with hp1 hp2;subst hp1;exact .inr ⟨cap',hTi0⟩) ?_ ?_
    ·intro I T' hI _;have hne:∀ b,imm G st T b->b≠b':=fun b hb' e=>by subst e;exact hb'.2 id _ cap' hb hTi0
     refine .inr ⟨b',cap',_,rfl,setRow_heap w b' C _ e _ hh,by simp;omega,by omega,h3,hw,h1w,?_⟩;refine rowAt (olds:=olds) (o0:=xR cap') (by simp) (fun b hb' _=>setRow_other w b' b _ (hne b hb')) hI hso.len hso.rep ?_;intro k hk;simp only [zla] at hk;rw [C6 hfit];have hol:=hso.len
     by_cases k1:k<olds.length
     ·rw [if_neg (by rw [hnl];omega),vQ,uH k1,<- vQ]
      -- the old cells as the source read them
      have hk2:k<l.length * szT P e:=by omega
      have hcc:=hso.cells l.length w (yI _) (fun _ _=>rfl);rw [kC (by rw [hso.len];exact yI _)] at hcc;simp only [Builtin.firstCells] at hcc;rw [run_loadCells (P:=P) w ⟨b',xR cap',none⟩ (l.length * szT P e) (fun k=>C.getD (xR cap'+k) undef)] at hcc
      ·injection hcc with hcc;have hcc:=congrArg Array.toList hcc;simp only at hcc;rw [<- hcc,zAS hk2]
      ·intro j hj
       have:xR cap'+j<C.size:=by
        have:=qW (szT P e) h2'
        omega
       rw [mC];simp [World.cell?,hh,this]
     ·rw [if_pos (by rw [hnl];omega),vQ (l:=olds++news),u4 (by omega),<- vQ,hol,hnl,Nat.add_sub_add_left]
    ·intro d av he;obtain ⟨hlt',rfl⟩:=tW hd he;refine ⟨by omega,fun I T' hT'=>?_⟩;rw [hN',hLlen,hnl];exact .own hT' hroom h3
   ·refine grow (base:=some ⟨b',xR cap',none⟩) (cap:=v7 cap') (olds:=olds) (row:=none) (by rw [hXv,hnl]) (by omega) hso.len hso.rep (fun w2 hw=>?_) rfl;rw [<- hnl] at *;exact hfo w2 hw
/-! A nil slice as a row of the call's own. -/
def VJ:Operand->Bool
 | .const (.slice none 0 0)=>true
 | _=>false
theorem zDs {P:Program} {N np:Nat} {o:Oper} {x:Operand} {rs:List (Nat×AV)} {hn:wA} {e:TypeId} {sz:Nat}
  (ho:o.op=.assign x\/o.op=.move x) (hx:VJ x=true) (hd:qF N o.dst=true) :
  qH P N np o { rs:=rs,rb:=[(hn.id,.unused)],dst:=o.dst.map fun d=>(d,.own hn.id 0),wb:=[(hn.id,.live (.row e sz []))] }:=by
 intro G st a w hN hnp hE ⟨T,hT⟩;have hxv:a.eval x=.slice none 0 0:=by
  unfold VJ at hx
  split at hx
  ·rfl
  ·cases hx
 have hu:st.box hn.id=.unused:=hE.2 (hn.id,.unused) (by simp);refine jN (v:=.slice none 0 0) (w':=w) ?_ ?_
 ·rcases ho with ho | ho<;>simp [execOp,ho,hxv]
 ·refine hT.new (p:=.nil) (nC w) rfl hu (by simp [tY]) (fun b c hp=>by cases hp) (.inl ⟨rfl,rfl⟩) ?_;intro d av he;obtain ⟨hlt,rfl⟩:=tW hd he;exact ⟨by omega,.ownNil (Tbl.put_same _ _ _)⟩
/-! 'make' of a slice. -/
def KL (P:Program) (e:TypeId):Option AV :=
 match GR P e with
 | some cs=>bif (Nat.beq cs.length (szT P e)&&AV.pures cs)&&GL P e then some (bif uQ P e then .agg cs else cs.headD .junk) else none
 | none=>none
theorem zFm {P:Program} {e:TypeId} {av:AV} (h:KL P e=some av) :
  ∃ cs,GR P e=some cs/\av.cells=cs/\cs.length=szT P e/\AV.pures cs=true:=by
 unfold KL at h
 split at h
 ·rename_i cs hz
  replace h:=xM h;obtain ⟨hc,h⟩:=h;simp only [zba] at hc;have hl:=wT.1 hc.1.1;injection h with h;subst h;refine ⟨cs,hz,?_,hl,hc.1.2⟩;cases ha:uQ P e
  ·have h1:=zDC hc.2 ha;simp only [cond_false];rw [h1] at hl
   match cs,hl with
   | [c],_ =>
    obtain ⟨z,_,hcr,_⟩:=EM (w:=default) (I:=fun _=>True) (T:=Tbl.empty) hz
    have:=hcr.one c (by simp)
    cases c<;>simp_all [AV.one,AV.cells]
  ·rfl
 ·cases h
theorem zGf {P:Program} {e:TypeId} {z:Value} {cs:List AV} {av:AV} {w:World} {I:Nat->Prop} {n m:Nat} (hc:E5 w I Tbl.empty z.cells cs) (hcl:cs.length=szT P e) (hav:av.cells=cs) (hnm:n<=m) :
  (∀ x∈List.replicate n av,x.cells.length=szT P e)/\(∀ x∈List.replicate n av,∀ c∈x.cells,c.one=true) /\
  ∀ i x j c,(List.replicate n av)[i]?=some x->x.cells[j]?=some c->Rep w I Tbl.empty (((Array.range (m * szT P e)).map (fun i=>z.cells[i % z.cells.size]!)).getD (i * szT P e+j) undef) c:=by
 refine ⟨fun x hx=>?_,fun x hx c hcx=>?_,fun i x j c hi hj=>?_⟩
 ·rw [(List.mem_replicate.1 hx).2,hav,hcl]
 ·rw [(List.mem_replicate.1 hx).2,hav] at hcx;exact hc.one c hcx
 ·have hil:i<n:=by
   rcases zlg i n with h' | h'
   ·exact h'
   ·rw [vH (by simpa using h')] at hi;cases hi
  rw [iE,if_pos hil] at hi;injection hi with hi;subst hi;rw [hav] at hj;have hjl:j<szT P e:=by
   rw [<- hcl];rcases zlg j cs.length with h' | h'
   ·exact h'
   ·rw [vH h'] at hj;cases hj
  have hr:=hc.rep j c hj;have hlt:i * szT P e+j<m * szT P e:=by
   have:=qW (szT P e) (show i+1<=m by omega)
   rw [t6] at this;omega
  have hmod:(i * szT P e+j) % z.cells.size=j:=by
   rw [hc.size,hcl,Nat.mul_comm,Nat.mul_add_mod,UI hjl]
  have hjz:j<z.cells.size:=by rw [hc.size,hcl];exact hjl
  have:((Array.range (m * szT P e)).map (fun i=>z.cells[i % z.cells.size]!)).getD (i * szT P e+j) undef=z.cells.getD j undef:=by
   simp [hlt,hmod,hjz]
  rw [this];exact hr
def zAB (P:Program) (t:TypeId) (l c:AV) (h:wA):Option (List Prop×Box×AV) :=
 match KY P t,l,c with
 | some e,.int _ n,.int _ m =>
  match KL P e with
  | some av=>some ([n=h.n,m=h.m,h.n<=h.m,h.m * lE P e<=281474976710656,h.l=List.replicate h.n av],.row e (szT P e) h.l,.own h.id h.n)
  | none=>none
 | _,_,_=>none
theorem zKJ {P:Program} {N np:Nat} {o:Oper} {t:TypeId} {x y:Operand} {rs:List (Nat×AV)} {hn:wA} {r:List Prop×Box×AV}
  (ho:o.op=.makeSlice t x y) (hx:xK x=true) (hy:xK y=true)
  (h:zAB P t (y7 rs x) (y7 rs y) hn=some r) (hv:∀ p∈r.1,p) (hd:qF N o.dst=true) :
  qH P N np o { rs:=rs,rb:=[(hn.id,.unused)],dst:=o.dst.map fun d=>(d,r.2.2),wb:=[(hn.id,.live r.2.1)] }:=by
 intro G st a w hN hnp hE ⟨T,hT⟩;have hrx:=uS hT hE.1 hx;have hry:=uS hT hE.1 hy;unfold zAB at h
 split at h
 case h_2=>cases h
 rename_i e k n k' m hrow hX hY
 obtain ⟨i,z,ht⟩:=UF hrow
 split at h
 case h_2=>cases h
 rename_i av hz
 injection h with h;subst h;simp only at hE hv;have e1:n=hn.n:=hv _ (by simp);have e2:m=hn.m:=hv _ (by simp);have e3:hn.n<=hn.m:=hv _ (by simp);have e4:hn.m * lE P e<=281474976710656:=hv _ (by simp);have e5:hn.l=List.replicate hn.n av:=hv _ (by simp);rw [hX] at hrx;rw [hY] at hry;generalize hvx:a.eval x=vx at hrx;generalize hvy:a.eval y=vy at hry;cases hrx with
 | int wn =>
 cases hry with
 | int wm =>
 obtain ⟨cs,hz0,hcells,hcl,hpure⟩:=zFm hz;have hm1:=ZX hn.m ht.bpos;have hu:st.box hn.id=.unused:=hE.2 (hn.id,.unused) (by simp);have hbm:(i.bytes:Int) * m<=281474976710656:=by
  rw [e2,ht.bytes,Int.mul_comm];rw [<- Int.natCast_mul];omega
 have hrun:=run_make (P:=P) w t e i z ht.und ht.info ht.zero k k' n m (by omega) (by omega) hbm (by omega);have n1:n.toNat=hn.n:=by omega
 have n2:m.toNat=hn.m:=by omega
 rw [n1,n2,ht.size] at hrun;refine jN (v:=.slice (some ⟨w.heap.size,0,none⟩) hn.n hn.m) (w':=w.alloc (.cells (madeCells z.cells (hn.m * szT P e)) e)) ?_ ?_
 ·unfold execOp;rw [ho];simp only [];rw [hvx,hvy];rw [vV,hrun];rfl
 ·refine hT.new (p:=.at w.heap.size hn.m) (OY _ _) rfl hu (by simp [tY]) (fun b c hp=>by injection hp with hp;omega) ?_ ?_
  ·obtain ⟨z',hz1,hc',_⟩:=EM (w:=w.alloc (.cells (madeCells z.cells (hn.m * szT P e)) e)) (I:=imm G (st.upd { rs:=rs,rb:=[(hn.id,.unused)],dst:=o.dst.map fun d=>(d,.own hn.id hn.n),wb:=[(hn.id,.live (.row e (szT P e) hn.l))] }) (T.put hn.id (.at w.heap.size hn.m))) (T:=Tbl.empty) hz0;have hzz:z'=z:=by
    have h1:=hz1;simp only [rH,ht.info,ht.zero] at h1;injection h1 with h1;exact h1.symm
   subst hzz;obtain ⟨f1,f2,f3⟩:=zGf hc' hcl hcells e3;rw [<- e5] at f1 f2 f3;refine zA2 (cap:=hn.m) (heap_alloc_new w _) (by simp [madeCells]) (by rw [e5];simpa using e3) (by rw [nY];omega) f1 f2 ?_;intro i' x' j c hi hj;exact f3 i' x' j c hi hj
  ·intro d av he;obtain ⟨hlt,rfl⟩:=tW hd he;exact ⟨by omega,zAq (Tbl.put_same _ _ _) e3 (by rw [nY];omega)⟩
def zAH (P:Program) (t:TypeId) (len:Nat) (A:Operand->AV) (parts:List (Nat×Operand)) (h:wA):Option (Box×AV) :=
 match KY P t with
 | some e =>
  match KL P e with
  | some av =>
   bif Nat.ble (len * szT P e) 16777216&&Nat.ble len 9223372036854775807 then
    match A0 (fun i=>some (i * szT P e,szT P e)) (uT (List.replicate len av)) (parts.map fun p=>(p.1,A p.2)) with
    | some cs=>bif AV.pures cs then some (.row e (szT P e) (lR (uQ P e) (szT P e) len cs),.own h.id len) else none
    | none=>none
   else none
  | none=>none
 | none=>none
theorem zKn {place:Nat->Option (Nat×Nat)} (parts:List (Nat×AV)):∀ cs cs',A0 place cs parts=some cs'->cs'.length=cs.length:=by
 induction parts with
 | nil=>intro cs cs' h;simp [A0] at h;rw [h]
 | cons p r ih =>
  intro cs cs' h;obtain ⟨i,v⟩:=p;simp only [A0] at h
  split at h
  ·cases h
  ·rename_i off size hp
   replace h:=xM h;obtain ⟨hc,h⟩:=h;simp only [zba] at hc;have hs:=wT.1 hc.1.2;have hle:=zle hc.2;rw [ih _ _ h,HV (by omega)]
theorem zLo {P:Program} {e:TypeId} {av:AV} (h:KL P e=some av):GL P e=true:=by
 unfold KL at h
 split at h
 ·replace h:=xM h;obtain ⟨hc,h⟩:=h;simp only [zba] at hc;exact hc.2
 ·cases h
theorem zKw {P:Program} {N np:Nat} {o:Oper} {t:TypeId} {len:Nat} {parts:Array (Nat×Operand)} {rs:List (Nat×AV)} {hn:wA} {r:Box×AV}
  (ho:o.op=.buildSlice t len parts) (hx:∀ p∈parts.toList,xK p.2=true)
  (h:zAH P t len (y7 rs) parts.toList hn=some r) (hd:qF N o.dst=true) :
  qH P N np o { rs:=rs,rb:=[(hn.id,.unused)],dst:=o.dst.map fun d=>(d,r.2),wb:=[(hn.id,.live r.1)] }:=by
 intro G st a w hN hnp hE ⟨T,hT⟩;unfold zAH at h
 split at h
 case h_2=>cases h
 rename_i e hrow
 obtain ⟨i,z,ht⟩:=UF hrow
 split at h
 case h_2=>cases h
 rename_i av hz
 replace h:=xM h;obtain ⟨hbig,h⟩:=h;simp only [zba] at hbig;have hbig1:=zle hbig.1;have hbig2:=zle hbig.2
 split at h
 case h_2=>cases h
 rename_i cs hf
 replace h:=xM h;obtain ⟨hpure,h⟩:=h;injection h with h;subst h;simp only at hE;have hu:st.box hn.id=.unused:=hE.2 (hn.id,.unused) (by simp);obtain ⟨zc,hz0,hcells,hcl,hzp⟩:=zFm hz;obtain ⟨z',hz1,hc',hzr⟩:=EM (w:=w) (I:=imm G st T) (T:=Tbl.empty) hz0;have hzz:z'=z:=by
  have h1:=hz1;simp only [rH,ht.info,ht.zero] at h1;injection h1 with h1;exact h1.symm
 subst hzz;obtain ⟨f1,f2,f3⟩:=zGf (n:=len) (m:=len) hc' hcl hcells (yI _);have hfl:=mD f1;rw [k8] at hfl;have hbase:E5 w (imm G st T) T (madeCells z'.cells (len * szT P e)) (uT (List.replicate len av)):=by
  refine ⟨by simp [madeCells,hfl],YY f2,?_⟩;intro k c hk;obtain ⟨i',j,x,he,g1,g2⟩:=Z2 f1 hk;rw [he];exact (f3 i' x j c g1 g2).mono (yI _) (fun _ _ _=>rfl) (fun _ h _=>h) (fun i p hp=>by simp [Tbl.empty] at hp)
 obtain ⟨vs',hfill,hcr⟩:=zDG (place:=fun i=>some (i * szT P e,szT P e)) parts.toList _ _ _ hbase (fun p hp=>uS hT hE.1 (hx p hp)) hf;have hcsl:cs.length=len * szT P e:=by rw [zKn _ _ _ hf,hfl]
 have hwid:=zDC (zLo hz);obtain ⟨k1,k2,k3,k4⟩:=zKq hwid len cs hcsl hcr.one;have hparts:(parts.map fun (p:Nat×Operand)=>(p.1,a.eval p.2)).toList=parts.toList.map fun p=>(p.1,a.eval p.2):=by simp
 have hrun:(Instr.buildSlice t len (parts.map fun (i,x)=>(i,a.eval x))).run P w=.ok (.slice (some ⟨w.heap.size,0,none⟩) len len) (w.alloc (.cells vs' e)):=by
  have n1:¬ (2 ^ 24<len * i.size):=by rw [ht.size];omega
  simp only [madeCells] at hfill
  by_cases h0:len * i.size=0
  ·rw [ht.size] at h0;simp [Instr.buildSlice,run_underlying ht.und,sizeOf,typeInfo,ht.info,ht.size,h0,newRow]
   have:(Array.range (len * szT P e)).map (fun i=>z'.cells[i % z'.cells.size]!)=#[]:=by rw [h0];simp
   rw [this] at hfill;have h00:(Array.range 0).map (fun _=>(default:Value))=#[]:=by simp
   rw [h00,hfill];simp
  ·rw [ht.size] at h0 n1;simp [Instr.buildSlice,run_underlying ht.und,sizeOf,typeInfo,ht.info,ht.size,h0,newRow,n1,hzr,hfill]
 refine jN (v:=.slice (some ⟨w.heap.size,0,none⟩) len len) (w':=w.alloc (.cells vs' e)) ?_ ?_
 ·unfold execOp;rw [ho];simp only [];rw [vV,hrun];rfl
 ·refine hT.new (p:=.at w.heap.size len) (OY _ _) rfl hu (by simp [tY]) (fun b c hp=>by injection hp with hp;omega) ?_ ?_
  ·refine zA2 (heap_alloc_new w _) (by rw [hcr.size,hcsl]) (by rw [k4];exact yI _) (by rw [nY];omega) k2 k3 ?_;intro i' x j c hi hj;have hfg:=JZ k2 hi hj;rw [k1] at hfg;have hr:=(hcr.rep _ _ hfg).bare (T':=Tbl.empty) (AV.pures_get hpure hfg);refine hr.mono (by simp) (fun b _ hlt=>heap_alloc_old w _ b hlt) (fun b hI hlt=>?_) (fun _ _ h=>h);refine ⟨hI.1,fun id bx cap hl hTi=>?_⟩;rw [EV] at hl;simp only [AC] at hl
   by_cases e':id=hn.id
   ·subst e';rw [Tbl.put_same] at hTi;injection hTi with hTi;injection hTi with hTi;omega
   ·rw [if_neg e'] at hl;rw [Tbl.put_ne _ _ e'] at hTi;exact hI.2 id bx cap hl hTi
  ·intro d av' he;obtain ⟨hlt,rfl⟩:=tW hd he;exact ⟨by omega,zAq (Tbl.put_same _ _ _) (yI _) (by rw [nY];omega)⟩
/-! Copy. -/
def zGc:AV->Option (Nat×Nat×Nat)
 | .own id n=>some (id,0,n)
 | .part id _ lo hi=>some (id,lo,hi)
 | _=>none
def zKm (x:AV) (sz:Nat):Bool:=match x with | .part _ s _ _=>Nat.beq s sz | _=>true
def ZG (P:Program) (t:TypeId) (x y:AV) (B:Nat->zR) (h:wA):Option (List Prop×List Nat×Nat×Box×AV) :=
 match KY P t,zGc x with
 | some e,some (id,lo,hi) =>
  match B id with
  | .live (.row e' sz l) =>
   bif Nat.beq sz (szT P e)&&zKm x sz then
    match SC P sz y B with
    | some (vc,ids,m) =>
     some (vc++[V3 y m,lo<=hi,hi<=l.length,h.n=min m.length (hi - lo),h.l=l.take lo++m.take h.n++l.drop (lo+h.n)],ids,id,.row e' sz h.l,.int .i64 h.n)
    | none=>none
   else none
  | _=>none
 | _,_=>none
theorem zIR {P:Program} {t t2 e tt:TypeId} {i:TypeInfo} {z:Value} {w:World} {ty:TypeId} (ht:J3 P t e i z) {b o dLen dCap n:Nat} {C:Array Value} {x:Value} {news:List Value} {m:Nat}
  (hlen:(Builtin.lenOf x).run P w=.ok m w) (hn:n=min m dLen) (hfx:(Builtin.firstCells (szT P e) n x).run P w=.ok news.toArray w)
  (hh:w.heap[b]?=some (.cells C tt (0,0))) (hfit:o+news.length<=C.size) (h1:∀ u∈news,u.oneCell'=true) :
  (Builtin.copy_ #[t,t2] ty #[.slice (some ⟨b,o,none⟩) dLen dCap,x]).run P w=.ok (goInt n) (w.setRow b (C.toList.take o++news++C.toList.drop (o+news.length)).toArray):=by
 have hst:=run_storeCells_at P b o tt news 0 C w hh (by simpa using hfit) h1;simp only [A2] at hst;rw [hn] at hfx;simp only [Builtin.copy_,KM,jY,pJ,vV,run_underlying ht.und,v6,sizeOf,typeInfo,run_program,ht.info,jV,ht.size,hlen]
 have:Nat.min m dLen=min m dLen:=rfl
 rw [this,hfx];simp [hst,hn]
theorem zGq {P:Program} {t t2 e:TypeId} {i:TypeInfo} {z:Value} {w:World} {ty:TypeId} (ht:J3 P t e i z) {base:Option Addr} {dCap:Nat} {x:Value} {m:Nat}
  (hlen:(Builtin.lenOf x).run P w=.ok m w) (hfx:(Builtin.firstCells (szT P e) 0 x).run P w=.ok #[] w) :
  (Builtin.copy_ #[t,t2] ty #[.slice base 0 dCap,x]).run P w=.ok (goInt 0) w:=by
 simp only [Builtin.copy_,KM,jY,pJ,vV,run_underlying ht.und,v6,sizeOf,typeInfo,run_program,ht.info,jV,ht.size,hlen]
 have:Nat.min m 0=0:=Nat.min_zero m
 rw [this,hfx];cases base<;>simp [storeCells]
theorem zJq {P:Program} {N np:Nat} {o:Oper} {t t2:TypeId} {x y:Operand} {rs:List (Nat×AV)} {hn:wA} {B:Nat->zR} {r:List Prop×List Nat×Nat×Box×AV}
  (ho:o.op=.call { callee:=.builtin .copy,args:=#[x,y],argTypes:=#[t,t2] }) (hx:xK x=true) (hy:xK y=true)
  (h:ZG P t (y7 rs x) (nz (y7 rs y)) B hn=some r) (hv:∀ p∈r.1,p) (hd:qF N o.dst=true) :
  qH P N np o { rs:=rs,rb:=(r.2.2.1,B r.2.2.1)::r.2.1.map (fun i=>(i,B i)),dst:=o.dst.map fun d=>(d,r.2.2.2.2),wb:=[(r.2.2.1,.live r.2.2.2.1)] }:=by
 intro G st a w hN hnp hE ⟨T,hT⟩;have hrx:=uS hT hE.1 hx;have hry:=BK (uS hT hE.1 hy);unfold ZG at h
 split at h
 case h_2=>cases h
 rename_i e id lo hi hrow hX
 obtain ⟨i,z,ht⟩:=UF hrow
 split at h
 case h_2=>cases h
 rename_i e' sz l hB
 replace h:=xM h;obtain ⟨hc,h⟩:=h;simp only [zba] at hc;have hsz:=wT.1 hc.1;have hps:=hc.2
 split at h
 case h_2=>cases h
 rename_i vc ids m hsrc
 injection h with h;subst h;simp only at hE hv;have hlohi:lo<=hi:=hv _ (by simp);have hhil:hi<=l.length:=hv _ (by simp);have hn':hn.n=min m.length (hi - lo):=hv _ (by simp);have hL:hn.l=l.take lo++m.take hn.n++l.drop (lo+hn.n):=hv _ (by simp);obtain ⟨news,hs⟩:=zD3 hT hry hsrc (fun i hi=>hE.2 (i,B i) (qX _ (vB.2 ⟨i,hi,rfl⟩))) (fun p hp=>hv p (by simp at hp ⊢;exact .inl hp)) (hv _ (by simp));replace hs:Src P w (imm G st T) sz (a.eval y) m news:=hs;have hb:st.box id=.live (.row e' sz l):=(hE.2 (id,B id) (by simp)).trans hB;have hrun:∀ (v:Value) (w':World),(Builtin.copy_ #[t,t2] o.type #[a.eval x,a.eval y]).run P w=.ok v w'->(execOp a.eval o).run P w=.ok (.value v) w':=fun v w' hv=>by
  simp [execOp,ho,resolve,invoke,builtin,hv]
 have hmm:=hs.max
 -- nothing to copy
 have nothing:∀ {base:Option Addr} {c:Nat},a.eval x=.slice base 0 c->hi - lo=0 ->
   o.wp P a w (fun a' w'=>Rel G (st.upd { rs:=rs,rb:=(id,B id)::ids.map (fun i=>(i,B i)),dst:=o.dst.map fun d=>(d,.int .i64 hn.n),wb:=[(id,.live (.row e' sz hn.l))] }) a' w') (fun _ _ _=>False):=by
  intro base c hxv h0;have hn0:hn.n=0:=by omega
  have hLl:hn.l=l:=by rw [hL,hn0];simp
  have h0c:=hs.cells 0 w (wI _) (fun _ _=>rfl);simp only [Nat.zero_mul,WX] at h0c;rw [hsz] at h0c;refine jN (hrun _ _ (by rw [hxv];exact zGq ht (hs.lenOf w) h0c)) ?_;refine hT.quiet (nC w) ?_ (by simp [tY]) ?_
  ·funext j
   rw [EV];simp only [AC]
   by_cases e1:j=id
   ·subst e1;rw [if_pos rfl,hLl,hb]
   ·rw [if_neg e1]
  ·intro d av he;obtain ⟨hlt,rfl⟩:=tW hd he;rw [hn0];exact ⟨by omega,.int (by decide)⟩
 -- the copy
 have something:∀ {b o' dl c cap:Nat},a.eval x=.slice (some ⟨b,o',none⟩) dl c->T id=some (.at b cap)->o'=xR cap+lo * sz->dl=hi - lo ->
   o.wp P a w (fun a' w'=>Rel G (st.upd { rs:=rs,rb:=(id,B id)::ids.map (fun i=>(i,B i)),dst:=o.dst.map fun d=>(d,.int .i64 hn.n),wb:=[(id,.live (.row e' sz hn.l))] }) a' w') (fun _ _ _=>False):=by
  intro b o' dl c cap hxv hTi ho' hdl;have hokl:=hT.boxes id _ hb;rcases hokl with ⟨hp,_⟩ | ⟨b',cap',C,hp,hh,h1,h2',h3,h4,h5,h6⟩
  ·rw [hp] at hTi;cases hTi
  have hp0:=hp;rw [hp] at hTi;injection hTi with hTi;injection hTi with e1 e2;subst e1;subst e2;have hnm:hn.n<=m.length:=by omega
  have hfx:=hs.cells hn.n w hnm (fun _ _=>rfl);have hnl:(news.take (hn.n * sz)).length=hn.n * sz:=by
   rw [nL,hs.len];exact DQ (qW _ hnm)
  have hfit:o'+(news.take (hn.n * sz)).length<=C.size:=by
   refine kX ?_ h1;rw [hnl,ho',lM,<- t6];exact Y8 (qW _ (by omega)) _
  have hone:∀ u∈news.take (hn.n * sz),u.oneCell'=true:=by
   intro u hu';have hu'':=aK hu';obtain ⟨k,hk⟩:=uG.1 hu'';have hkl:k<news.length:=by
    rcases zlg k news.length with h' | h'
    ·exact h'
    ·rw [vH h'] at hk;cases hk
   have hkf:k<(uT m).length:=by rw [mD hs.wid,<- hs.len];exact hkl
   have:=hs.rep k _ (w7 hkf)
   rw [vQ,hk] at this;exact this.oneCell (YY hs.one _ (g8 hkf))
  have hr:=zIR (P:=P) (t2:=t2) (w:=w) (ty:=o.type) ht (dLen:=dl) (dCap:=c) (n:=hn.n) (hs.lenOf w) (by rw [hdl];exact hn') (by rw [<- hsz];exact hfx) hh hfit hone;refine jN (hrun _ _ (by rw [hxv];exact hr)) ?_;have hmem:∀ av∈hn.l,av∈l\/av∈m:=by
   intro av hav;rw [hL] at hav;rcases wL.1 hav with hav | hav
   ·rcases wL.1 hav with hav | hav
    ·exact .inl (aK hav)
    ·exact .inr (aK hav)
   ·exact .inl (bS hav)
  have hLlen:hn.l.length=l.length:=by
   rw [hL];simp;omega
  refine hT.write hb hp0 J7 rfl (by simp [tY]) ?_ ?_
  ·have hmono:∀ {v av},Rep w (imm G st T) Tbl.empty v av->Rep (w.setRow b' (C.toList.take o'++news.take (hn.n * sz)++C.toList.drop (o'+(news.take (hn.n * sz)).length)).toArray) (imm G st T) Tbl.empty v av:=fun h =>
    h.mono (by simp) (fun b2 hI _=>setRow_other w b' b2 _ (fun e=>by subst e;exact hI.2 id _ cap' hb hp0)) (fun _ h _=>h) (fun _ _ h=>h)
   refine .inr ⟨b',cap',_,hp0,setRow_heap w b' C _ e' _ hh,by simp [hnl];rw [hnl] at hfit;omega,by rw [hLlen];exact h2',h3,?_,?_,?_⟩
   ·intro av hav;rcases hmem av hav with h' | h'
    ·exact h4 av h'
    ·exact hs.wid av h'
   ·intro av hav;rcases hmem av hav with h' | h'
    ·exact h5 av h'
    ·exact hs.one av h'
   ·intro i' av j c' hi' hj;have hav:=yN hi';have hjl:j<sz:=by
     have:av.cells.length=sz:=by
      rcases hmem av hav with h' | h'
      ·exact h4 av h'
      ·exact hs.wid av h'
     rw [<- this];rcases zlg j av.cells.length with h' | h'
     ·exact h'
     ·rw [vH h'] at hj;cases hj
    rw [C6 hfit];rw [hL] at hi';have hlt0:(l.take lo).length=lo:=by simp;omega
    have hmt:(m.take hn.n).length=hn.n:=by simp;omega
    rcases zlg i' lo with c1 | c1
    ·have hneg:¬ (o'<=xR cap'+(i' * sz+j)/\xR cap'+(i' * sz+j)<o'+(news.take (hn.n * sz)).length):=by
      rw [hnl,ho']
      have:=qW sz (show i'+1<=lo by omega)
      rw [t6] at this;omega
     rw [if_neg hneg];rw [oT,uH (by omega),aY,if_pos c1] at hi';exact hmono (h6 i' av j c' hi' hj)
    ·rcases zlg i' (lo+hn.n) with c2 | c2
     ·have hpos:o'<=xR cap'+(i' * sz+j)/\xR cap'+(i' * sz+j)<o'+(news.take (hn.n * sz)).length:=by
       rw [hnl,ho'];have a1:=qW sz c1;have a2:=qW sz (show i'+1<=lo+hn.n by omega);rw [t6,t6] at a2;omega
      rw [if_pos hpos];rw [uH (by simp only [zla];omega),u4 (by omega),hlt0,aY,if_pos (by omega)] at hi';have hfg:=JZ hs.wid hi' hj;have hr:=hs.rep _ _ hfg;have e3:xR cap'+(i' * sz+j) - o'=(i' - lo) * sz+j:=by
       rw [Nat.sub_mul,ho'];have a1:=qW sz c1;omega
      rw [e3];have e4:(news.take (hn.n * sz)).getD ((i' - lo) * sz+j) undef=news.getD ((i' - lo) * sz+j) undef:=by
       rw [vQ,aY,if_pos,<- vQ];have a2:=qW sz (show i' - lo+1<=hn.n by omega);rw [t6] at a2;omega
      rw [e4];exact hmono hr
     ·have hneg:¬ (o'<=xR cap'+(i' * sz+j)/\xR cap'+(i' * sz+j)<o'+(news.take (hn.n * sz)).length):=by
       rw [hnl,ho']
       have:=qW sz c2
       rw [t6] at this;omega
      rw [if_neg hneg];rw [u4 (by simp only [zla];omega),gH] at hi';simp only [zla,hlt0,hmt] at hi';rw [show lo+hn.n+(i' - (lo+hn.n))=i' by omega] at hi';exact hmono (h6 i' av j c' hi' hj)
  ·intro d av he;obtain ⟨hlt,rfl⟩:=tW hd he;rw [nY] at hmm;exact ⟨by omega,.int (JO (by omega))⟩
 generalize hXX:y7 rs x=X at hrx hX hps;cases X<;>simp only [zGc,uU,kU,reduceCtorEq] at hX
 ·rename_i id' n
  obtain ⟨rfl,rfl,rfl⟩:=hX;generalize hxv:a.eval x=vx at hrx;cases hrx with
  | ownNil hTi=>exact nothing hxv rfl
  | own hTi c1 c2=>exact something hxv hTi (by omega) (by omega)
 ·rename_i id' sz' lo' hi'
  obtain ⟨rfl,rfl,rfl⟩:=hX;generalize hxv:a.eval x=vx at hrx;cases hrx with
  | part0 hc=>exact nothing hxv (by omega)
  | part hTi p1 p2 p3 p4 p5 p6 =>
   have:sz'=sz:=wT.1 hps
   exact something hxv hTi (by rw [p6,this]) p2
/-! A row of the call's own, seen as a slice that is not written again. -/
def gU (B:Nat->zR) (ids:List Nat):AV->AV
 | .own id n=>bif ids.any (Nat.beq id) then
   match B id with
   | .live (.row _ sz l)=>.sl false sz l
   | _=>.junk
  else .own id n
 | .part id sz lo hi=>bif ids.any (Nat.beq id) then
   match B id with
   | .live (.row _ sz' l)=>bif Nat.beq sz sz' then .sl false sz ((l.take hi).drop lo) else .junk
   | _=>.junk
  else .part id sz lo hi
 | v=>v
def lW (B:Nat->zR) (ids:List Nat):AV->AV
 | .agg cs=>.agg (cs.map (gU B ids))
 | v=>gU B ids v
def frz (B:Nat->zR) (ids:List Nat):AV->AV
 | .tuple vs=>.tuple (vs.map (lW B ids))
 | v=>lW B ids v
def oG (B:Nat->zR) (ids:List Nat):AV->List Prop
 | .own id n=>bif ids.any (Nat.beq id) then
   match B id with
   | .live (.row _ _ l)=>[n=l.length]
   | _=>[]
  else []
 | .part id _ lo hi=>bif ids.any (Nat.beq id) then
   match B id with
   | .live (.row _ _ l)=>[lo<=hi,hi<=l.length]
   | _=>[]
  else []
 | _=>[]
def D4 (B:Nat->zR) (ids:List Nat):AV->List Prop
 | .agg cs=>cs.flatMap (oG B ids)
 | v=>oG B ids v
def oE (B:Nat->zR) (ids:List Nat):AV->List Prop
 | .tuple vs=>vs.flatMap (D4 B ids)
 | v=>D4 B ids v
def zMi (G:wQ) (st:AS) (T:Tbl) (ids:List Nat) (b:Nat):Prop :=
 imm G st T b\/∃ id cap,id∈ids/\T id=some (.at b cap)
theorem zBZ {ids:List Nat} {id:Nat} (h:ids.any (Nat.beq id)=true):id∈ids:=by
 simp only [List.any_eq_true] at h;obtain ⟨x,hx,he⟩:=h;rw [wT.1 he];exact hx
theorem W1 {ids:List Nat} {id:Nat} (h:id∈ids):ids.any (Nat.beq id)=true:=by
 simp only [List.any_eq_true];exact ⟨id,h,pX id⟩
theorem zCO {G:wQ} {st:AS} {T:Tbl} {a:Act} {w:World} {I:Nat->Prop} (hT:uF G st T a w) {id:Nat} {e:TypeId} {sz:Nat} {l:List AV} (hb:st.box id=.live (.row e sz l))
  (hI:∀ b,imm G st T b->I b) (hid:∀ b cap,T id=some (.at b cap)->I b) {v:Value} {lo n c:Nat} {b cap:Nat} (hTi:T id=some (.at b cap)) (hv:v=.slice (some ⟨b,xR cap+lo * sz,none⟩) n c) (hn:lo+n<=l.length) (hnc:n<=c) (hc:c<=maxLen) (T':Tbl) :
  Rep w I T' v (.sl false sz ((l.take (lo+n)).drop lo)):=by
 rcases hT.boxes id _ hb with ⟨hp,_⟩ | ⟨b',cap',C,hp,hh,h1,h2,h3,h4,h5,h6⟩
 ·rw [hp] at hTi;cases hTi
 have hp0:=hp;rw [hTi] at hp;injection hp with hp;injection hp with e1 e2;subst e1;subst e2;have hlt:b<w.heap.size:=cS hT hb hTi;subst hv;have hget:∀ i av,((l.take (lo+n)).drop lo)[i]?=some av->l[lo+i]?=some av:=by
  intro i av hi;rw [gH,aY] at hi
  split at hi
  ·exact hi
  ·cases hi
 have hmem:∀ av∈(l.take (lo+n)).drop lo,av∈l:=fun av hav=>aK (bS hav)
 refine .sl (fun i j=>C.getD (xR cap+((lo+i) * sz+j)) undef) (by simp;omega) hnc hc (by simp) (fun av hav=>h4 av (hmem av hav)) (fun av hav=>h5 av (hmem av hav)) (hid b cap hTi) hlt ?_ ?_
 ·intro i av j c' hi hj;have hg:=JZ h4 (hget i av hi) hj;have hlt':xR cap+((lo+i) * sz+j)<C.size:=by
   have:(lo+i) * sz+j<(uT l).length:=by
    rcases zlg ((lo+i) * sz+j) (uT l).length with h' | h'
    ·exact h'
    ·rw [vH h'] at hg;cases hg
   rw [mD h4] at this
   have:=qW sz h2
   omega
  rw [show xR cap+lo * sz+i * sz+j=xR cap+((lo+i) * sz+j) by rw [t6];omega];simp [World.cell?,hh,hlt']
 ·intro i av j c' hi hj;exact (h6 _ av j c' (hget i av hi) hj).mono (yI _) (fun _ _ _=>rfl) (fun b hb' _=>hI b hb') (fun _ _ h=>h)
theorem zDK {w:World} {I:Nat->Prop} {T:Tbl} {a:Option Addr} {c sz:Nat} (hc:c<=maxLen):Rep w I T (.slice a 0 c) (.sl false sz []):=.sl0 hc (by simp)
theorem zBm {G:wQ} {st:AS} {T:Tbl} {a:Act} {w:World} {I:Nat->Prop} {B:Nat->zR} {ids:List Nat} (hT:uF G st T a w) (hB:∀ id∈ids,st.box id=B id)
  (hI:∀ b,imm G st T b->I b) (hid:∀ id b cap,id∈ids->T id=some (.at b cap)->I b) {v:Value} {av:AV} (h:Rep w (imm G st T) T v av) (hv:∀ p∈oG B ids av,p) :
  Rep w I T v (gU B ids av):=by
 have same:∀ {av},Rep w (imm G st T) T v av->Rep w I T v av:=fun h=>h.mono (yI _) (fun _ _ _=>rfl) (fun b hb _=>hI b hb) (fun _ _ h=>h)
 cases av with
 | own id n =>
  simp only [gU,oG] at hv ⊢;cases hm:ids.any (Nat.beq id)
  ·exact same h
  rw [hm] at hv;simp only [cond_true] at hv ⊢;have hmem:=zBZ hm
  split
  ·rename_i e sz l hBl
   rw [hBl] at hv;have hn:n=l.length:=hv _ (by simp);have hb:=(hB id hmem).trans hBl;cases h with
   | ownNil hTi =>
    have hl:l=[]:=cK hn.symm;subst hl;exact zDK (by simp [maxLen])
   | own hTi c1 c2 =>
    rename_i b0 cap0
    have:=zCO hT hb hI (fun b cap hT'=>hid id b cap hmem hT') (v:=.slice (some ⟨b0,xR cap0,none⟩) n (v7 cap0)) (lo:=0) (n:=n) (c:=v7 cap0) hTi (by simp) (by omega) c1 c2 T
    rw [cQ,zdz,hn,CU] at this;rw [hn];exact this
  ·exact .junk
 | part id sz lo hi =>
  simp only [gU,oG] at hv ⊢;cases hm:ids.any (Nat.beq id)
  ·exact same h
  rw [hm] at hv;simp only [cond_true] at hv ⊢;have hmem:=zBZ hm
  split
  ·rename_i e sz' l hBl
   rw [hBl] at hv;have hlo:lo<=hi:=hv _ (by simp);have hhi:hi<=l.length:=hv _ (by simp);have hb:=(hB id hmem).trans hBl;cases hs:Nat.beq sz sz'
   ·exact .junk
   have hs:=wT.1 hs;subst hs;simp only [cond_true];cases h with
   | part0 hc=>rw [List.drop_take_self];exact zDK hc
   | part hTi p1 p2 p3 p4 p5 p6 =>
    rename_i o0 n0 c0 b0 cap0
    have:=zCO hT hb hI (fun b cap hT'=>hid id b cap hmem hT') (v:=.slice (some ⟨b0,o0,none⟩) (hi - lo) c0) (lo:=lo) (n:=hi - lo) hTi (by rw [p6]) (by omega) (by rw [<- p2];exact p3) (by omega) T
    rw [show lo+(hi - lo)=hi by omega] at this;rw [p2];exact this
  ·exact .junk
 | _=>exact same h
def t7:List AV->Bool
 | []=>true
 | c::r=>c.one&&t7 r
theorem QO {cs:List AV} (h:t7 cs=true):∀ c∈cs,c.one=true:=by
 induction cs with
 | nil=>simp
 | cons a r ih =>
  simp only [t7,zba] at h;intro c hc;cases hc with
  | head=>exact h.1
  | tail _ hc=>exact ih h.2 c hc
def MG:AV->Bool
 | .agg cs=>t7 cs
 | _=>true
def rS:AV->Bool
 | .tuple vs=>vs.all MG
 | v=>MG v
theorem zCy {G:wQ} {st:AS} {T:Tbl} {a:Act} {w:World} {I:Nat->Prop} {B:Nat->zR} {ids:List Nat} (hT:uF G st T a w) (hB:∀ id∈ids,st.box id=B id)
  (hI:∀ b,imm G st T b->I b) (hid:∀ id b cap,id∈ids->T id=some (.at b cap)->I b) {v:Value} {av:AV} (h:Rep w (imm G st T) T v av) (hv:∀ p∈D4 B ids av,p) (hw:MG (lW B ids av)=true) :
  Rep w I T v (lW B ids av):=by
 by_cases ha:∃ cs,av=.agg cs
 ·obtain ⟨cs,rfl⟩:=ha;simp only [lW,D4,MG] at *;cases h with
  | agg h1 h2 h3 =>
  refine .agg (by simp [h1]) (QO hw) ?_;intro j c hj;rw [vD] at hj;cases hcj:cs[j]? with
  | none=>rw [hcj] at hj;cases hj
  | some c0 =>
   rw [hcj] at hj;injection hj with hj;subst hj;exact zBm hT hB hI hid (h3 j c0 hcj) (fun p hp=>hv p (aB.2 ⟨c0,yN hcj,hp⟩))
 ·have e1:lW B ids av=gU B ids av:=by cases av<;>first | rfl | exact absurd ⟨_,rfl⟩ ha
  have e2:D4 B ids av=oG B ids av:=by cases av<;>first | rfl | exact absurd ⟨_,rfl⟩ ha
  rw [e1];rw [e2] at hv;exact zBm hT hB hI hid h hv
theorem ZT {G:wQ} {st:AS} {T:Tbl} {a:Act} {w:World} {I:Nat->Prop} {B:Nat->zR} {ids:List Nat} (hT:uF G st T a w) (hB:∀ id∈ids,st.box id=B id)
  (hI:∀ b,imm G st T b->I b) (hid:∀ id b cap,id∈ids->T id=some (.at b cap)->I b) {v:Value} {av:AV} (h:Rep w (imm G st T) T v av) (hv:∀ p∈oE B ids av,p) (hw:rS (frz B ids av)=true) :
  Rep w I T v (frz B ids av):=by
 by_cases ha:∃ cs,av=.tuple cs
 ·obtain ⟨cs,rfl⟩:=ha;simp only [frz,oE,rS] at *;simp only [tC] at hw;cases h with
  | tuple h1 h2 =>
  refine .tuple (by simp [h1]) ?_;intro j c hj;have hjm:=yN hj;rw [vD] at hj;cases hcj:cs[j]? with
  | none=>rw [hcj] at hj;cases hj
  | some c0 =>
   rw [hcj] at hj;injection hj with hj;subst hj;exact zCy hT hB hI hid (h2 j c0 hcj) (fun p hp=>hv p (aB.2 ⟨c0,yN hcj,hp⟩)) (hw _ hjm)
 ·have e1:frz B ids av=lW B ids av:=by cases av<;>first | rfl | exact absurd ⟨_,rfl⟩ ha
  have e2:oE B ids av=D4 B ids av:=by cases av<;>first | rfl | exact absurd ⟨_,rfl⟩ ha
  have e3:rS (frz B ids av)=MG (frz B ids av):=by
   rw [e1];cases av with
   | tuple vs=>exact absurd ⟨_,rfl⟩ ha
   | agg cs=>rfl
   | own id n=>simp only [lW,gU];cases ids.any (Nat.beq id)<;>simp only [cond_true,cond_false]<;>(try split)<;>rfl
   | part id sz lo hi =>
    simp only [lW,gU];cases ids.any (Nat.beq id)<;>simp only [cond_true,cond_false]
    ·rfl
    ·split
     ·rename_i sz' l hh
      cases Nat.beq sz sz'<;>rfl
     ·rfl
   | _=>rfl
  rw [e3] at hw;rw [e1] at hw ⊢;rw [e2] at hv;exact zCy hT hB hI hid h hv hw
theorem uF.stepN {G:wQ} {st:AS} {T T':Tbl} {a:Act} {w:World} (h:uF G st T a w) {E:Eff} {w':World} {S:Nat->Prop} {dst:Option Tmp} {v:Value}
  (hos:w'.os=w.os) (htape:w'.tape=w.tape) (hout:w'.output=w.output) (hsize:w.heap.size<=w'.heap.size) (hblk:∀ b,b<w.heap.size->¬ S b->w'.heap[b]?=w.heap[b]?)
  (hS:∀ g,S g->∃ id bx cap,st.box id=.live bx/\T id=some (.at g cap)) (hle:T.le T')
  (hlt:∀ id bx b cap,st.box id=.live bx->T id=some (.at b cap)->b<w.heap.size)
  (hb2:∀ id bx,(st.upd E).box id=.live bx->(∃ bx',st.box id=.live bx'/\T' id=T id)\/(st.box id=.unused/\∀ b cap,T' id=some (.at b cap)->w.heap.size<=b \/
   ∃ gid gbx gcap,st.box gid=.live gbx/\T gid=some (.at b gcap)/\G.foot.length<=gid/\∀ bx',(st.upd E).box gid≠.live bx'))
  (hun:∀ id,(st.upd E).box id=.unused->T' id=none)
  (hap:∀ id id' b c c',st.box id=.unused->st.box id'=.unused->T' id=some (.at b c)->T' id'=some (.at b c')->id=id')
  (hdst:dst=E.dst.map (·.1))
  (hd:∀ d av,E.dst=some (d,av)->d<G.n/\Rep w' (imm G (st.upd E) T') T' v av)
  (hbox:∀ id bx,(st.upd E).box id=.live bx->(st.box id=.live bx/\T' id=T id/\∀ g cap,S g->T id≠some (.at g cap))\/uJ w' (imm G (st.upd E) T') T' (T' id) bx)
  (hfz:E.fz=[]:=by rfl):Rel G (st.upd E) (a.put dst v) w':=by
 have hi:∀ b,imm G st T b->b<w.heap.size->imm G (st.upd E) T' b:=by
  intro b hI hbl;refine ⟨hI.1,fun i bxi cp hli hTi=>?_⟩;rcases hb2 i bxi hli with ⟨bx',hl',hTe⟩ | ⟨_,hnew⟩
  ·exact hI.2 i bx' cp hl' (by rw [<- hTe];exact hTi)
  ·rcases hnew b cp hTi with h' | ⟨gid,gbx,gcap,g1,g2,_,_⟩
   ·omega
   ·exact hI.2 gid gbx gcap g1 g2
 have hcI:∀ b,imm G st T b->b<w.heap.size->w'.heap[b]?=w.heap[b]?:=fun b hb hlt=>hblk b hlt (fun e=>by
  obtain ⟨id,bx,cap,h1,h2⟩:=hS b e;exact hb.2 id bx cap h1 h2)
 refine ⟨T',?_,?_,?_,?_,hun,?_,?_,fun i p hp=>hle i p (h.foot i p hp),?_,fun i p hp=>hle i p (h.pin i p hp)⟩
 ·cases dst<;>exact h.defers
 ·cases dst<;>simp [Act.put,h.size]
 ·intro t;subst hdst;cases hE:E.dst with
  | none =>
   simp only [AS.upd,hE,hfz,bW,dA,cP,Act.put];exact (h.slots t).mono hsize hcI hi hle
  | some x =>
   obtain ⟨d,av⟩:=x;obtain ⟨hlt,hv⟩:=hd d av hE;simp only [AS.upd,hE,hfz,bW,kH];rw [KP t (by rw [h.size];exact hlt)]
   by_cases ht:t=d
   ·subst ht;rw [if_pos rfl,lB];exact hv
   ·rw [if_neg ht,l6 _ _ _ ht];exact (h.slots t).mono hsize hcI hi hle
 ·intro id bx hb;rcases hbox id bx hb with ⟨hold,hTe,hne⟩ | hnew
  ·rw [hTe];exact (h.boxes id bx hold).mono hsize hcI hi hle fun b cap hp hlt=>hblk b hlt fun e=>hne b cap e hp
  ·exact hnew
 ·intro i1 i2 b1 b2 b c1 c2 h1 h2 t1 t2;rcases hb2 i1 b1 h1 with ⟨x1,l1,e1⟩ | ⟨l1,e1⟩<;>rcases hb2 i2 b2 h2 with ⟨x2,l2,e2⟩ | ⟨l2,e2⟩
  ·exact h.apart i1 i2 x1 x2 b c1 c2 l1 l2 (by rw [<- e1];exact t1) (by rw [<- e2];exact t2)
  ·have:=hlt i1 x1 b c1 l1 (by rw [<- e1];exact t1)
   rcases e2 b c2 t2 with h' | ⟨gid,gbx,gcap,g1,g2,_,g3⟩
   ·omega
   ·have:=h.apart i1 gid x1 gbx b c1 gcap l1 g1 (by rw [<- e1];exact t1) g2
    subst this;exact absurd h1 (g3 b1)
  ·have:=hlt i2 x2 b c2 l2 (by rw [<- e2];exact t2)
   rcases e1 b c1 t1 with h' | ⟨gid,gbx,gcap,g1,g2,_,g3⟩
   ·omega
   ·have:=h.apart i2 gid x2 gbx b c2 gcap l2 g1 (by rw [<- e2];exact t2) g2
    subst this;exact absurd h2 (g3 b2)
  ·exact hap i1 i2 b c1 c2 l1 l2 t1 t2
 ·intro id bx b cap hb hTb hge;rcases hb2 id bx hb with ⟨x1,l1,e1⟩ | ⟨l1,e1⟩
  ·exact h.mine id x1 b cap l1 (by rw [<- e1];exact hTb) hge
  ·rcases e1 b cap hTb with h' | ⟨gid,gbx,gcap,g1,g2,g3,_⟩
   ·exact .inl (kX h.kept.size h')
   ·exact h.mine gid gbx b gcap g1 g2 g3
 ·refine ⟨hos.trans h.kept.os,htape.trans h.kept.tape,hout.trans h.kept.output,kX h.kept.size hsize,fun b hb hn hn2=>(hblk b (kZ hb h.kept.size) fun e=>?_).trans (h.kept.block b hb hn hn2)⟩;obtain ⟨id,bx,cap,h1,h2⟩:=hS b e;rcases zlg id G.foot.length with hlt | hge
  ·have:=h.foot id _ (w7 hlt)
   rw [h2] at this;injection this with this;exact hn ⟨cap,by rw [this];exact g8 hlt⟩
  ·rcases h.mine id bx b cap h1 h2 hge with h' | h'
   ·omega
   ·exact hn2 (.inl h')
/-! Names of the callee and of the caller. -/
mutual
def un (foot:List Nat):AV->AV
 | .junk=>.junk
 | .int k n=>.int k n
 | .bool b=>.bool b
 | .str l=>.str l
 | .agg cs=>.agg (uns foot cs)
 | .tuple cs=>.tuple (uns foot cs)
 | .sl f s l=>.sl f s l
 | .ref a=>.ref a
 | .ptr id sz i off=>.ptr (foot.getD id 0) sz i off
 | .own id n=>.own (foot.getD id 0) n
 | .part id sz lo hi=>.part (foot.getD id 0) sz lo hi
 | .fn f cs=>.fn f (uns foot cs)
 | .nilp=>.nilp
 | .nilsl=>.nilsl
 | .nb l=>.nb l
 | .mp id=>.mp (foot.getD id 0)
 | .raw b=>.raw b
 | .fm n l=>.fm n l
 | .rawm b=>.rawm b
 | .rawp p n=>.rawp p n
def uns (foot:List Nat):List AV->List AV
 | []=>[]
 | a::r=>un foot a::uns foot r
end
mutual
def qQ (n:Nat):AV->Bool
 | .junk=>true
 | .int ..=>true
 | .bool _=>true
 | .str _=>true
 | .agg cs=>aU n cs
 | .tuple cs=>aU n cs
 | .sl ..=>true
 | .ref _=>true
 | .ptr id ..=>Nat.blt id n
 | .own id _=>Nat.blt id n
 | .part id ..=>Nat.blt id n
 | .fn _ cs=>aU n cs
 | .nilp=>true
 | .nilsl=>true
 | .nb _=>true
 | .mp id=>Nat.blt id n
 | .raw _=>true
 | .fm ..=>true
 | .rawm _=>true
 | .rawp ..=>true
def aU (n:Nat):List AV->Bool
 | []=>true
 | a::r=>qQ n a&&aU n r
end
theorem lV {foot:List Nat} {cs:List AV} {j:Nat}:(uns foot cs)[j]?=(cs[j]?).map (un foot):=by
 induction cs generalizing j with
 | nil=>simp [uns]
 | cons a r ih =>
  cases j with
  | zero=>simp [uns]
  | succ j=>simp [uns,ih]
theorem d7 {foot:List Nat} {cs:List AV}:(uns foot cs).length=cs.length:=by
 induction cs with
 | nil=>rfl
 | cons a r ih=>simp [uns,ih]
theorem mR {n:Nat} {cs:List AV} (h:aU n cs=true) {j:Nat} {c:AV} (hj:cs[j]?=some c):qQ n c=true:=by
 induction cs generalizing j with
 | nil=>simp at hj
 | cons a r ih =>
  simp only [aU,zba] at h;cases j with
  | zero=>simp at hj;exact hj ▸ h.1
  | succ j=>exact ih h.2 (by simpa using hj)
theorem zCf {foot:List Nat} {c:AV}:(un foot c).one=c.one:=by cases c<;>rfl
theorem l7 {foot:List Nat} {cs:List AV}:(∀ c∈uns foot cs,c.one=true)↔∀ c∈cs,c.one=true:=by
 induction cs with
 | nil=>simp [uns]
 | cons a r ih=>simp [uns,zCf,ih]
def Tc (foot:List Nat) (T:Tbl):Tbl:=fun i=>match foot[i]? with | some id=>T id | none=>none
theorem oO {foot:List Nat} {T:Tbl} {id:Nat} (h:Nat.blt id foot.length=true):Tc foot T id=T (foot.getD id 0):=by
 have hlt:id<foot.length:=by have:=h;simp [Nat.blt] at this;omega
 simp [Tc,List.getD,hlt]
theorem O3 {w:World} {I:Nat->Prop} {T:Tbl} {foot:List Nat} {v:Value} {av:AV} (h:Rep w I (Tc foot T) v av):qQ foot.length av=true->Rep w I T v (un foot av):=by
 generalize hTT:Tc foot T=TT at h
 induction h with
 | junk=>intro _;exact .junk
 | int h=>intro _;exact .int h
 | bool=>intro _;exact .bool
 | str h h'=>intro _;exact .str h h'
 | agg h h1 _ ih =>
  intro hb;refine .agg (by rw [d7];exact h) (l7.2 h1) ?_;intro j c hj;rw [lV] at hj
  rename_i cs _
  cases hc:cs[j]? with
  | none=>rw [hc] at hj;cases hj
  | some c0 =>
   rw [hc] at hj;injection hj with hj;subst hj;exact ih j c0 hc hTT (mR hb hc)
 | tuple h _ ih =>
  intro hb;refine .tuple (by rw [d7];exact h) ?_;intro j c hj;rw [lV] at hj
  rename_i cs _
  cases hc:cs[j]? with
  | none=>rw [hc] at hj;cases hj
  | some c0 =>
   rw [hc] at hj;injection hj with hj;subst hj;exact ih j c0 hc hTT (mR hb hc)
 | sl0 h h'=>intro _;exact .sl0 h h'
 | sl g h1 h2 h3 h4 h5 h6 h7 h8 h9 h10 ih=>intro _;exact .sl g h1 h2 h3 h4 h5 h6 h7 h8 h9 h10
 | ref g h1 h2 h3 h4 h5 ih=>intro _;exact .ref g h1 h2 h3 h4 h5
 | ptr h h'=>intro hb;subst hTT;rw [oO hb] at h;exact .ptr h h'
 | ownNil h=>intro hb;subst hTT;rw [oO hb] at h;exact .ownNil h
 | own h h1 h2=>intro hb;subst hTT;rw [oO hb] at h;exact .own h h1 h2
 | part0 h=>intro _;exact .part0 h
 | part h h1 h2 h3 h4 h5 h6=>intro hb;subst hTT;rw [oO hb] at h;exact .part h h1 h2 h3 h4 h5 h6
 | fn h _ ih =>
  intro hb;refine .fn (by rw [d7];exact h) ?_;intro j c hj;rw [lV] at hj
  rename_i cs _ _
  cases hc:cs[j]? with
  | none=>rw [hc] at hj;cases hj
  | some c0 =>
   rw [hc] at hj;injection hj with hj;subst hj;exact ih j c0 hc hTT (mR hb hc)
 | nilp=>intro _;exact .nilp
 | nilsl=>intro _;exact .nilsl
 | nb h=>intro _;exact .nb h
 | mp h=>intro hb;subst hTT;rw [oO hb] at h;exact .mp h
 | raw=>intro _;exact .raw
 | fm0=>intro _;exact .fm0
 | fm gk gv h1 h2 h3 h4 h5 h6 h7 h8 h9=>intro _;exact .fm gk gv h1 h2 h3 h4 h5 h6 h7 h8 h9
 | rawm=>intro _;exact .rawm
 | rawp0=>intro _;exact .rawp0
 | rawp h1 h2=>intro _;exact .rawp h1 h2
theorem D0 {w:World} {I:Nat->Prop} {T:Tbl} {foot:List Nat} {v:Value} {av':AV} (h:Rep w I T v av'):∀ av,un foot av=av'->qQ foot.length av=true->Rep w I (Tc foot T) v av:=by
 have nested:∀ {cs cs':List AV} {vs:Array Value} {T:Tbl},uns foot cs=cs'->aU foot.length cs=true ->
   (∀ j c,cs'[j]?=some c->∀ av,un foot av=c->qQ foot.length av=true->Rep w I (Tc foot T) (vs.getD j undef) av) ->
   ∀ j c,cs[j]?=some c->Rep w I (Tc foot T) (vs.getD j undef) c:=by
  intro cs cs' vs T he hb ih j c hj;exact ih j (un foot c) (by rw [<- he,lV,hj];rfl) c rfl (mR hb hj)
 induction h with
 | junk=>intro av he hb;cases av<;>simp [un] at he;exact .junk
 | int h=>intro av he hb;cases av<;>simp [un] at he;obtain ⟨rfl,rfl⟩:=he;exact .int h
 | bool=>intro av he hb;cases av<;>simp [un] at he;subst he;exact .bool
 | str h h'=>intro av he hb;cases av<;>simp [un] at he;subst he;exact .str h h'
 | agg h h1 _ ih =>
  intro av he hb;cases av<;>simp [un] at he
  refine .agg (by rw [h,<- he,d7]) (l7.1 (by rw [he];exact h1)) (nested he hb ih)
 | tuple h _ ih =>
  intro av he hb;cases av<;>simp [un] at he
  refine .tuple (by rw [h,<- he,d7]) (nested he hb ih)
 | sl0 h h'=>intro av he hb;cases av<;>simp [un] at he;obtain ⟨rfl,rfl,rfl⟩:=he;exact .sl0 h h'
 | sl g h1 h2 h3 h4 h5 h6 h7 h8 h9 h10 ih=>intro av he hb;cases av<;>simp [un] at he;obtain ⟨rfl,rfl,rfl⟩:=he;exact .sl g h1 h2 h3 h4 h5 h6 h7 h8 h9 h10
 | ref g h1 h2 h3 h4 h5 ih=>intro av he hb;cases av<;>simp [un] at he;subst he;exact .ref g h1 h2 h3 h4 h5
 | ptr h h'=>intro av he hb;cases av<;>simp only [un,AV.ptr.injEq,reduceCtorEq] at he;obtain ⟨rfl,rfl,rfl,rfl⟩:=he;exact .ptr (by rw [oO hb];exact h) h'
 | ownNil h=>intro av he hb;cases av<;>simp only [un,AV.own.injEq,reduceCtorEq] at he;obtain ⟨rfl,rfl⟩:=he;exact .ownNil (by rw [oO hb];exact h)
 | own h h1 h2=>intro av he hb;cases av<;>simp only [un,AV.own.injEq,reduceCtorEq] at he;obtain ⟨rfl,rfl⟩:=he;exact .own (by rw [oO hb];exact h) h1 h2
 | part0 h=>intro av he hb;cases av<;>simp only [un,AV.part.injEq,reduceCtorEq] at he;obtain ⟨rfl,rfl,rfl,rfl⟩:=he;exact .part0 h
 | part h h1 h2 h3 h4 h5 h6=>intro av he hb;cases av<;>simp only [un,AV.part.injEq,reduceCtorEq] at he;obtain ⟨rfl,rfl,rfl,rfl⟩:=he;exact .part (by rw [oO hb];exact h) h1 h2 h3 h4 h5 h6
 | fn h _ ih =>
  intro av he hb;cases av<;>simp [un] at he
  obtain ⟨rfl,he⟩:=he;refine .fn (by rw [h,<- he,d7]) (nested he hb ih)
 | nilp=>intro av he hb;cases av<;>simp [un] at he;exact .nilp
 | nilsl=>intro av he hb;cases av<;>simp [un] at he;exact .nilsl
 | nb h=>intro av he hb;cases av<;>simp [un] at he;subst he;exact .nb h
 | mp h=>intro av he hb;cases av<;>simp only [un,AV.mp.injEq,reduceCtorEq] at he;subst he;exact .mp (by rw [oO hb];exact h)
 | raw=>intro av he hb;cases av<;>simp [un] at he;subst he;exact .raw
 | fm0=>intro av he hb;cases av<;>simp [un] at he;obtain ⟨rfl,rfl⟩:=he;exact .fm0
 | fm gk gv h1 h2 h3 h4 h5 h6 h7 h8 h9=>intro av he hb;cases av<;>simp [un] at he;obtain ⟨rfl,rfl⟩:=he;exact .fm gk gv h1 h2 h3 h4 h5 h6 h7 h8 h9
 | rawm=>intro av he hb;cases av<;>simp [un] at he;subst he;exact .rawm
 | rawp0=>intro av he hb;cases av<;>simp [un] at he;obtain ⟨rfl,rfl⟩:=he;exact .rawp0
 | rawp h1 h2=>intro av he hb;cases av<;>simp [un] at he;obtain ⟨rfl,rfl⟩:=he;exact .rawp h1 h2
def TJ:Fam->Bool
 | .opp ..=>false
 | .hp _ pins=>pins.isEmpty
 | _=>true
def unB (foot:List Nat):Box->Box
 | .fam f=>.fam f
 | .var t cs=>.var t (uns foot cs)
 | .row e sz l=>.row e sz l
 | .rowQ e sz l m x=>.rowQ e sz l m (uns foot x)
 | .rowI e sz l m i x=>.rowI e sz l m i (uns foot x)
 | .map ag ks l=>.map ag ks l
def gY (n:Nat):Box->Bool
 | .fam f=>TJ f
 | .var _ cs=>aU n cs
 | .row ..=>true
 | .rowQ _ _ _ _ x=>aU n x
 | .rowI _ _ _ _ _ x=>aU n x
 | .map ..=>true
theorem zFE {w:World} {I:Nat->Prop} {T:Tbl} {foot:List Nat} {p:Option zY} {bx:Box} (h:uJ w I (Tc foot T) p bx) (hb:gY foot.length bx=true):uJ w I T p (unB foot bx):=by
 cases bx with
 | var t cs =>
  obtain ⟨b,C,h1,h2,h3,h4,h5⟩:=h;refine ⟨b,C,h1,h2,by rw [d7];exact h3,l7.2 h4,?_⟩;intro j c hj;rw [lV] at hj;cases hc:cs[j]? with
  | none=>rw [hc] at hj;cases hj
  | some c0 =>
   rw [hc] at hj;injection hj with hj;subst hj;exact O3 (h5 j c0 hc) (mR hb hc)
 | fam f=>exact h
 | row e sz l=>exact h
 | rowQ e sz l m x =>
  rcases h with h | ⟨b,cap,C,h1,h2,h3,h4,h5,h6,h7,h8,h9⟩
  ·exact .inl h
  ·refine .inr ⟨b,cap,C,h1,h2,h3,h4,h5,h6,h7,h8,fun hm=>⟨by rw [d7];exact (h9 hm).1,l7.2 (h9 hm).2.1,?_⟩⟩;intro j c hj;rw [lV] at hj;cases hc:x[j]? with
   | none=>rw [hc] at hj;cases hj
   | some c0 =>
    rw [hc] at hj;injection hj with hj;subst hj;exact O3 ((h9 hm).2.2 j c0 hc) (mR hb hc)
 | rowI e sz l m i x =>
  rcases h with h | ⟨b,cap,C,h1,h2,h3,h4,h5,h6,h7,h8,h9⟩
  ·exact .inl h
  ·refine .inr ⟨b,cap,C,h1,h2,h3,h4,h5,h6,h7,h8,fun hm=>⟨(h9 hm).1,by rw [d7];exact (h9 hm).2.1,l7.2 (h9 hm).2.2.1,?_⟩⟩;intro j c hj;rw [lV] at hj;cases hc:x[j]? with
   | none=>rw [hc] at hj;cases hj
   | some c0 =>
    rw [hc] at hj;injection hj with hj;subst hj;exact O3 ((h9 hm).2.2.2 j c0 hc) (mR hb hc)
 | map ag ks l=>exact h
theorem UE {w:World} {I:Nat->Prop} {T:Tbl} {foot:List Nat} {p:Option zY} {bx:Box} (h:uJ w I T p (unB foot bx)) (hb:gY foot.length bx=true):uJ w I (Tc foot T) p bx:=by
 cases bx with
 | var t cs =>
  obtain ⟨b,C,h1,h2,h3,h4,h5⟩:=h;refine ⟨b,C,h1,h2,by rw [h3,d7],l7.1 h4,?_⟩;intro j c hj;exact D0 (h5 j (un foot c) (by rw [lV,hj];rfl)) c rfl (mR hb hj)
 | fam f=>exact h
 | row e sz l=>exact h
 | rowQ e sz l m x =>
  rcases h with h | ⟨b,cap,C,h1,h2,h3,h4,h5,h6,h7,h8,h9⟩
  ·exact .inl h
  ·refine .inr ⟨b,cap,C,h1,h2,h3,h4,h5,h6,h7,h8,fun hm=>⟨by have:=(h9 hm).1;rw [d7] at this;exact this,l7.1 (h9 hm).2.1,?_⟩⟩;intro j c hj;exact D0 ((h9 hm).2.2 j (un foot c) (by rw [lV,hj];rfl)) c rfl (mR hb hj)
 | rowI e sz l m i x =>
  rcases h with h | ⟨b,cap,C,h1,h2,h3,h4,h5,h6,h7,h8,h9⟩
  ·exact .inl h
  ·refine .inr ⟨b,cap,C,h1,h2,h3,h4,h5,h6,h7,h8,fun hm=>⟨(h9 hm).1,by have:=(h9 hm).2.1;rw [d7] at this;exact this,l7.1 (h9 hm).2.2.1,?_⟩⟩;intro j c hj;exact D0 ((h9 hm).2.2.2 j (un foot c) (by rw [lV,hj];rfl)) c rfl (mR hb hj)
 | map ag ks l=>exact h
def kept (I:Nat->Prop) (w:World) (gp new:List zY) (b:Nat):Prop:=(I b/\b<w.heap.size)\/((w.heap.size<=b\/∃ cap,zY.at b cap∈gp)/\∀ cap,zY.at b cap∉new)
def y9 (P:Program) (f:FuncId) (pre giv:List Box) (args:List AV) (post:List Box) (res:AV):Prop :=
 ∀ (w:World) (I:Nat->Prop) (foot gp:List zY) (vals:Array Value),
  foot.length=pre.length->gp.length=giv.length->(∀ b,I b->∀ cap,zY.at b cap∉foot++gp)->(∀ (i j b c c':Nat),(foot++gp)[i]?=some (zY.at b c)->(foot++gp)[j]?=some (zY.at b c')->i=j) ->
  (∀ b cap,zY.at b cap∈foot++gp->b<w.heap.size) ->
  (∀ (i:Nat) (bx:Box),(pre++giv)[i]?=some bx->uJ w I (fun i=>(foot++gp)[i]?) ((foot++gp)[i]?) bx) ->
  vals.size=args.length->(∀ (j:Nat) (av:AV),args[j]?=some av->Rep w I (fun i=>(foot++gp)[i]?) (vals.getD j undef) av) ->
  Calls P f vals w fun e w'=>∃ (v:Value) (new:List zY),e=.returned v/\w'.os=w.os/\w'.tape=w.tape/\w'.output=w.output/\w.heap.size<=w'.heap.size /\
   (∀ b,b<w.heap.size->(∀ cap,zY.at b cap∉foot++gp)->w'.heap[b]?=w.heap[b]?) /\
   pre.length+new.length=post.length/\(∀ b cap,zY.at b cap∈new->w.heap.size<=b\/∃ cap',zY.at b cap'∈gp)/\(∀ (i j b c c':Nat),new[i]?=some (zY.at b c)->new[j]?=some (zY.at b c')->i=j) /\
   Rep w' (kept I w gp new) (fun i=>(foot++new)[i]?) v res /\
   ∀ (i:Nat) (bx:Box),post[i]?=some bx->uJ w' (kept I w gp new) (fun i=>(foot++new)[i]?) ((foot++new)[i]?) bx
abbrev E8 (P:Program) (f:FuncId) (pre:List Box) (args:List AV) (post:List Box) (res:AV):Prop:=y9 P f pre [] args post res
end Go.Ab
