/- A layer over the model: abstract values and states, and the rules by which the printed proofs go. No conditions. -/
import Derived.Test.YtoeengmnmhhpgaaGreatA27
import Derived.DeepKeys4
import Derived.Test.YtoeengmnmhhpgaaGreatA23
import Derived.Maps.RangeRun
/- Loops over lists, as the printed functions have them. -/
namespace Go.Ab
open Go
theorem zFE {α σ R:Type} {l:List α} (L:Nat->Int->σ->Option R) (G:Nat->List α->σ->R) (Inv:Nat->σ->Prop)
  (he:∀ n i s,l.length<=i->Inv i s->L (n+1) (i:Nat) s=some (G i [] s))
  (hs:∀ n i s x r,l.drop i=x::r->i<l.length->Inv i s->(∀ s',Inv (i+1) s'->L n ((i+1:Nat):Int) s'=some (G (i+1) r s'))->L (n+1) (i:Nat) s=some (G i (x::r) s)) :
  ∀ n i s,Inv i s->(l.drop i).length<n->L n (i:Nat) s=some (G i (l.drop i) s):=by
 intro n
 induction n with
 | zero=>intro i s _ h;omega
 | succ n ih =>
  intro i s hI hn;rcases hd:l.drop i with _ | ⟨x,r⟩
  ·exact he n i s (qC hd) hI
  ·refine hs n i s x r hd (tZ hd) hI fun s' hI'=>?_
   have:=ih (i+1) s' hI' (by rw [w6 hd];rw [hd] at hn;simp only [zlc] at hn;omega)
   rwa [w6 hd] at this
theorem ER {α σ R:Type} {l:List α} (L:Nat->Int->σ->Option R) (G:Nat->List α->σ->R) (Inv:Nat->σ->Prop)
  (he:∀ n i s,l.length<=i->Inv i s->L (n+1) (i:Nat) s=some (G i [] s))
  (hs:∀ n i s x r,l.drop i=x::r->i<l.length->Inv i s->(∀ s',Inv (i+1) s'->L n ((i+1:Nat):Int) s'=some (G (i+1) r s'))->L (n+1) (i:Nat) s=some (G i (x::r) s))
  {n:Nat} {s:σ} (hI:Inv 0 s) (hn:l.length<n):L n 0 s=some (G 0 l s):=by
 have:=zFE L G Inv he hs n 0 s hI (by simpa using hn)
 simpa using this
theorem wX {i:Nat} (h:i<9223372036854775807):zI ((i:Int)+1)=((i+1:Nat):Int):=by
 rw [w64 (by omega) (by omega)];omega
theorem nQ {α:Type} {l:List α} {i:Nat} {x:α} {r:List α} (h:l.drop i=x::r):x∈l:=List.mem_of_mem_drop (h ▸ List.mem_cons_self)
theorem SD {α:Type} {l:List α} {i:Nat} (h0:0<i) (h:i<9223372036854775807):yX l (zI ((i:Int) - 1))=l[i - 1]?:=by
 rw [w64 (by omega) (by omega),show (i:Int) - 1=((i - 1:Nat):Int) by omega,nG]
theorem zCh {α:Type} {l:List α} (h0:l.length<9223372036854775807) (h:l≠[]):yX l (zI ((l.length:Int) - 1))=l.getLast?:=by
 have:0<l.length:=List.length_pos_iff.2 h
 rw [SD this h0,List.getLast?_eq_getElem?]
def uR {α:Type} {β:Type} (f:Nat->α->Option β):Nat->List α->Unit⊕β
 | _,[]=>.inl ()
 | i,x::r=>match f i x with
  | none=>uR f (i+1) r
  | some b=>.inr b
theorem W4 {α β:Type} {f:Nat->α->Option β} {i:Nat} {l:List α} (h:uR f i l=.inl ()):∀ j x,l[j]?=some x->f (i+j) x=none:=by
 induction l generalizing i with
 | nil=>intro j x hj;simp at hj
 | cons a r ih =>
  intro j x hj;simp only [uR] at h
  split at h
  ·rename_i hf
   cases j with
   | zero=>simp at hj;subst hj;exact hf
   | succ j =>
    have:=ih h j x (by simpa using hj)
    rwa [show i+1+j=i+(j+1) by omega] at this
  ·cases h
theorem zAp {α β:Type} {f:Nat->α->Option β} {i:Nat} {l:List α} (h:∀ j x,l[j]?=some x->f (i+j) x=none):uR f i l=.inl ():=by
 induction l generalizing i with
 | nil=>rfl
 | cons a r ih =>
  simp only [uR];rw [show f i a=none from h 0 a rfl];exact ih fun j x hj=>by
   have:=h (j+1) x (by simpa using hj)
   rwa [show i+(j+1)=i+1+j by omega] at this
end Go.Ab

/- Maps of the call's own: typed tables, and what the layer asks of them. -/
namespace Go.Ab
open Go
def mpE {α β:Type} (f:α->AV) (g:β->AV) (p:α×β):AV×AV:=(f p.1,g p.2)
def uY {α β:Type} [DecidableEq α]:List (α×β)->α->Option β
 | [],_=>none
 | p::l,k=>if p.1=k then some p.2 else uY l k
def w8 {α β:Type} [DecidableEq α]:List (α×β)->α->β->List (α×β)
 | [],k,v=>[(k,v)]
 | p::l,k,v=>if p.1=k then (k,v)::l else p::w8 l k v
section
variable {α β:Type} [DecidableEq α] {f:α->AV} {g:β->AV}
theorem Q2 {l:List (α×β)} {k:α} (h:uY l k=none):∀ p∈l,p.1≠k:=by
 induction l with
 | nil=>intro p hp;cases hp
 | cons q l ih =>
  unfold uY at h
  split at h
  ·cases h
  ·rename_i hq
   intro p hp;rcases List.mem_cons.1 hp with rfl | hp
   ·exact hq
   ·exact ih h p hp
theorem WT {l:List (α×β)} {k:α} {v:β} (h:uY l k=some v):∃ (i:Nat) (p:α×β),l[i]?=some p/\p.1=k/\p.2=v/\∀ w,w8 l k w=l.set i (k,w):=by
 induction l with
 | nil=>cases h
 | cons q l ih =>
  unfold uY at h
  split at h
  ·rename_i hq
   injection h with h;exact ⟨0,q,rfl,hq,h,fun w=>by simp [w8,hq]⟩
  ·rename_i hq
   obtain ⟨i,p,h1,h2,h3,h4⟩:=ih h;exact ⟨i+1,p,by simpa using h1,h2,h3,fun w=>by simp [w8,hq,h4]⟩
theorem zIo {l:List (α×β)} {k:α} (h:∀ p∈l,p.1≠k) (v:β):w8 l k v=l++[(k,v)]:=by
 induction l with
 | nil=>rfl
 | cons q l ih =>
  unfold w8;rw [if_neg (h q (List.mem_cons_self ..)),ih fun p hp=>h p (List.mem_cons_of_mem _ hp)];rfl
theorem OA (hf:∀ a b,f a=f b->a=b) (l:List (α×β)) (k:α) (z:β):fR (l.map (mpE f g)) (f k) (g z) (g ((uY l k).getD z)) (uY l k).isSome:=by
 cases h:uY l k with
 | none =>
  refine .inr ⟨fun x hx=>?_,rfl,rfl⟩;obtain ⟨p,hp,rfl⟩:=List.mem_map.1 hx;exact fun e=>Q2 h p hp (hf _ _ e)
 | some v =>
  obtain ⟨i,p,h1,h2,h3,_⟩:=WT h;exact .inl ⟨i,mpE f g p,by rw [List.getElem?_map,h1];rfl,by simp [mpE,h2],by simp [mpE,h3],rfl⟩
theorem NU (hf:∀ a b,f a=f b->a=b) (l:List (α×β)) (k:α) (v:β):m6 (l.map (mpE f g)) (f k) (g v) ((w8 l k v).map (mpE f g)):=by
 cases h:uY l k with
 | none =>
  refine .inr ⟨fun x hx=>?_,?_⟩
  ·obtain ⟨p,hp,rfl⟩:=List.mem_map.1 hx;exact fun e=>Q2 h p hp (hf _ _ e)
  ·rw [zIo (Q2 h)];simp [mpE]
 | some v0 =>
  obtain ⟨i,p,h1,h2,h3,h4⟩:=WT h;exact .inl ⟨i,mpE f g p,by rw [List.getElem?_map,h1];rfl,by simp [mpE,h2],by rw [h4,List.map_set];rfl⟩
omit [DecidableEq α] in
theorem MC {l:List (α×β)} (h:l.length<140737488355328):(l.map (mpE f g)).length<maxLen:=by
 rw [List.length_map,jT];omega
end
theorem CP {α:Type} [DecidableEq α] {f:α->AV} (hf:∀ a b,f a=f b->a=b) (a b:α):decide (a=b)=true↔f a=f b:=by
 rw [decide_eq_true_iff];exact ⟨fun h=>by rw [h],hf a b⟩
theorem OF {k:IntKind}:∀ a b:Int,AV.int k a=AV.int k b->a=b:=fun _ _ h=>(AV.int.inj h).2
theorem ZQ:∀ a b:List Int,AV.str a=AV.str b->a=b:=fun _ _ h=>AV.str.inj h
theorem Y0 {k:IntKind} {n:Int} (h:k.wrap n=n):(Lit.int k n).wf=true:=by
 have:=SM h
 simp only [Lit.wf,zba,decide_eq_true_eq];exact this
theorem zEk {P:Program} {k:TypeId} {q:IntKind} (h:P.underlying k=some (.int q)):qY P k false [.int q]:=by
 refine ⟨Maps.int_keyed h,fun w I T v a hr hm=>?_⟩;cases a<;>simp [t9,kcs,kc] at hm
 subst hm;cases hr with
 | int hw=>exact ⟨_,Maps.keyOf_int_mk h (Y0 hw)⟩
theorem zBF {P:Program} {k:TypeId} (h:P.underlying k=some .string):qY P k false [.str]:=by
 refine ⟨Maps.string_keyed h,fun w I T v a hr hm=>?_⟩;cases a<;>simp [t9,kcs,kc] at hm
 cases hr with
 | str h1 h2=>exact ⟨_,by simp [keyOf,h,mapKey,v8,ByteArray.size,h2];rfl⟩
end Go.Ab

/- Keys that are arrays or structs. -/
namespace Go.Ab
open Go
def NW (g:TypeId->Option (List KSh)) (cell:TypeId->Nat):Nat->List Field->Option (List KSh)
 | _,[]=>some []
 | o,f::r =>
  match g f.type,NW g cell (o+cell f.type) r with
  | some a, some b => bif Nat.beq f.offset o && (Nat.beq (cell f.type) a.length && (f.name != "_")) then some (a ++ b) else none
  | _,_=>none
def GX (P:Program):Nat->TypeId->Option (List KSh)
 | 0,_=>none
 | d+1,t =>
  match P.underlying t with
  | some .bool=>some [.bool]
  | some (.int q)=>some [.int q]
  | some .string=>some [.str]
  | some (.array n e) =>
   match GX P d e with
   | some ks=>bif Nat.beq (P.cellsOf e) ks.length&&Nat.beq (P.cellsOf t) (n * ks.length) then some (List.replicate n ks).flatten else none
   | none=>none
  | some (.struct fs) =>
   match NW (GX P d) P.cellsOf 0 fs.toList with
   | some ks=>bif Nat.beq (P.cellsOf t) ks.length then some ks else none
   | none=>none
  | _=>none
def vk:KSh->Value->Prop
 | .int q,.int q' n=>q'=q/\(Lit.int q n).wf=true
 | .bool,.bool _=>True
 | .str,.string s=>s.size<=maxLen
 | _,_=>False
inductive VM:List KSh->List Value->Prop
 | nil:VM [] []
 | cons {k v ks vs}:vk k v->VM ks vs->VM (k::ks) (v::vs)
theorem VM.len {ks:List KSh} {cs:List Value} (h:VM ks cs):ks.length=cs.length:=by
 induction h with
 | nil=>rfl
 | cons _ _ ih=>simp [ih]
theorem VM.app {a b:List KSh} {cs:List Value} (h:VM (a++b) cs):VM a (cs.take a.length)/\VM b (cs.drop a.length):=by
 induction a generalizing cs with
 | nil=>exact ⟨by simpa using VM.nil,by simpa using h⟩
 | cons x a ih =>
  cases h with
  | cons h1 h2 =>
   obtain ⟨i1,i2⟩:=ih h2;exact ⟨by simpa using VM.cons h1 i1,by simpa using i2⟩
theorem VM.part {ks:List KSh}:∀ {n:Nat} {cs:List Value} {i:Nat},VM (List.replicate n ks).flatten cs->i<n->VM ks ((cs.drop (i * ks.length)).take ks.length):=by
 intro n
 induction n with
 | zero=>intro cs i _ h;omega
 | succ n ih =>
  intro cs i h hi;rw [List.replicate_succ,List.flatten_cons] at h;obtain ⟨h1,h2⟩:=h.app;cases i with
  | zero=>simpa using h1
  | succ i =>
   have:=ih (i:=i) h2 (by omega)
   rw [List.drop_drop] at this;rw [Nat.add_mul,Nat.one_mul,Nat.add_comm];exact this
theorem zBa {α β:Type} {f:α->Option β}:∀ (l:List α),(∀ x∈l,∃ b,f x=some b)->∃ bs,l.mapM f=some bs:=by
 intro l
 induction l with
 | nil=>intro _;exact ⟨[],rfl⟩
 | cons x l ih =>
  intro h;obtain ⟨b,hb⟩:=h x (List.mem_cons_self ..);obtain ⟨bs,hbs⟩:=ih fun y hy=>h y (List.mem_cons_of_mem _ hy)
  exact ⟨b::bs,by simp [List.mapM_cons,hb,hbs]⟩
theorem zGr {g:TypeId->Option (List KSh)} {cell:TypeId->Nat}:∀ (fs:List Field) (o:Nat) (ks:List KSh) (cs:List Value),NW g cell o fs=some ks->o<=cs.length->VM ks (cs.drop o) ->
  ∀ f ∈ fs, (f.name != "_") = true ∧ ∃ a, g f.type = some a ∧ VM a ((cs.drop f.offset).take (cell f.type)) := by
 intro fs
 induction fs with
 | nil=>intro o ks cs _ _ _ f hf;cases hf
 | cons x r ih =>
  intro o ks cs h ho hv f hf;unfold NW at h
  split at h
  case h_2=>cases h
  rename_i a b ha hb
  replace h:=x8 h;obtain ⟨hc,h⟩:=h;simp only [zba] at hc;have e1:=w7.1 hc.1;have e2:=w7.1 hc.2.1;injection h with h;subst h;obtain ⟨v1,v2⟩:=hv.app;rcases List.mem_cons.1 hf with rfl | hf
  ·exact ⟨hc.2.2,a,ha,by rw [e1,e2];exact v1⟩
  ·have hl:=hv.len;rw [zla,List.length_drop] at hl;refine ih (o+cell x.type) b cs hb (by omega) ?_ f hf;rw [List.drop_drop] at v2;rw [e2];exact v2
theorem zFN {P:Program}:∀ (d:Nat) (t:TypeId) (ks:List KSh) (cs:List Value),GX P d t=some ks->VM ks cs->∃ ls,P.keyLits d t cs=some ls:=by
 intro d
 induction d with
 | zero=>intro t ks cs h;cases h
 | succ d ih =>
  intro t ks cs h hv;unfold GX at h;unfold Program.keyLits
  split at h
  ·rename_i hu
   injection h with h;subst h;cases hv with
   | cons h1 h2=>cases h2;rename_i v;cases v<;>simp [vk] at h1;rw [hu];exact ⟨_,rfl⟩
  ·rename_i q hu
   injection h with h;subst h;cases hv with
   | cons h1 h2=>cases h2;rename_i v;cases v<;>simp [vk] at h1;rw [hu];simp [h1]
  ·rename_i hu
   injection h with h;subst h;cases hv with
   | cons h1 h2=>cases h2;rename_i v;cases v<;>simp [vk] at h1;rw [hu];simp [h1]
  ·rename_i n e hu
   split at h
   case h_2=>cases h
   rename_i ks' hk
   replace h:=x8 h;obtain ⟨hc,h⟩:=h;simp only [zba] at hc;have e1:=w7.1 hc.1;have e2:=w7.1 hc.2;injection h with h;subst h;have hl:=hv.len;have hl2:(List.replicate n ks').flatten.length=n * ks'.length:=by simp
   rw [hu];simp only;rw [if_pos (by omega)];obtain ⟨bs,hbs⟩:=zBa (f:=fun i=>P.keyLits d e ((cs.drop (i * P.cellsOf e)).take (P.cellsOf e))) (List.range n) (fun i hi=>by
    rw [e1];exact ih e ks' _ hk (hv.part (List.mem_range.1 hi)))
   rw [hbs];exact ⟨_,rfl⟩
  ·rename_i fs hu
   split at h
   case h_2=>cases h
   rename_i ks' hk
   replace h:=x8 h;obtain ⟨hc,h⟩:=h;have e1:=w7.1 hc;injection h with h;subst h;have hl:=hv.len;have hspec:=zGr fs.toList 0 ks' cs hk (by omega) (by simpa using hv);rw [hu];simp only;rw [if_pos ⟨by omega,by rw [<- Array.all_toList];exact List.all_eq_true.2 fun f hf=>(hspec f hf).1⟩];obtain ⟨bs,hbs⟩:=zBa (f:=fun f:Field=>P.keyLits d f.type ((cs.drop f.offset).take (P.cellsOf f.type))) fs.toList (fun f hf=>by
    obtain ⟨_,a,ha,hva⟩:=hspec f hf;exact ih f.type a _ ha hva)
   rw [hbs];exact ⟨_,rfl⟩
  ·cases h
theorem zDs {w:World} {I:Nat->Prop} {T:Tbl} {v:Value} {a:AV} {k:KSh} (h:Rep w I T v a) (hk:kc k a=true):vk k v:=by
 cases k<;>cases a<;>simp [kc] at hk
 ·subst hk;cases h with
  | int hw=>exact ⟨rfl,Y0 hw⟩
 ·cases h;trivial
 ·cases h with
  | str h1 h2=>simpa [vk,v8,ByteArray.size] using h2
theorem zD9 {w:World} {I:Nat->Prop} {T:Tbl}:∀ (ks:List KSh) (cs:List AV) (vs:List Value),kcs ks cs=true->vs.length=cs.length->(∀ (j:Nat) (c:AV) (v:Value),cs[j]?=some c->vs[j]?=some v->Rep w I T v c)->VM ks vs:=by
 intro ks
 induction ks with
 | nil=>intro cs vs h hl _;cases cs<;>simp [kcs] at h;simp at hl;subst hl;exact .nil
 | cons k r ih =>
  intro cs vs h hl hr;cases cs with
  | nil=>simp [kcs] at h
  | cons c s =>
   cases vs with
   | nil=>simp at hl
   | cons v u =>
    simp only [kcs,zba] at h;exact .cons (zDs (hr 0 c v rfl rfl) h.1) (ih s u h.2 (by simpa using hl) fun j c' v' hc hv=>hr (j+1) c' v' (by simpa using hc) (by simpa using hv))
def O9 (P:Program) (k:TypeId):Bool:=match P.underlying k with | some (.array _ _) | some (.struct _)=>true | _=>false
theorem LV {P:Program} {k:TypeId} {ks:List KSh} (hl:laidOutB P=true) (hw:O9 P k=true) (hk:(decide (k<P.types.size)&&(P.keyTypeAt 100 k&&(P.keyType k&&Nat.beq (P.cellsOf k) ks.length)))=true) (hs:GX P (P.types.size+1) k=some ks):qY P k true ks:=by
 simp only [zba,decide_eq_true_eq] at hk;obtain ⟨k1,k2,k3,k4⟩:=hk;have k4:=w7.1 k4;refine ⟨Maps.Keyed.of_law (deep_law_laid hl (m:=100) (by omega) k1 k2 hw),fun w I T v a hr hm=>?_⟩
 by_cases ha:∃ cs,a=.agg cs
 ·obtain ⟨cs,rfl⟩:=ha;simp only [t9,zba] at hm;obtain ⟨l1,_⟩:=TA hm.2;cases hr with
  | agg s1 o1 r1 =>
   rename_i vs
   have hvm:VM ks vs.toList:=zD9 ks cs vs.toList hm.2 (by simpa using s1) fun j c v hc hv=>by
    have:=r1 j c hc
    rw [Array.getElem?_toList] at hv
    rwa [Array.getD_eq_getD_getElem?,hv] at this
   obtain ⟨ls,hls⟩:=zFN _ _ _ _ hs hvm;have hf:(Value.agg vs).formed P k=true:=by
    unfold O9 at hw;unfold Value.formed
    split at hw
    ·rename_i hu;rw [hu];simp;omega
    ·rename_i hu;rw [hu];simp;omega
    ·cases hw
   refine ⟨.string (keyBytes ls),?_⟩;unfold keyOf;unfold O9 at hw
   split at hw
   ·rename_i hu;rw [hu];simp only [k3,hf,Bool.and_self,if_true];simp only [Value.cells];rw [hls];rfl
   ·rename_i hu;rw [hu];simp only [k3,hf,Bool.and_self,if_true];simp only [Value.cells];rw [hls];rfl
   ·cases hw
 ·have:(!true&&kcs ks [a])=true:=by
   cases a<;>first | exact hm | exact absurd ⟨_,rfl⟩ ha
  simp at this
end Go.Ab

/- Typed tables for maps: what a pT-up gives behind a store; lists that are read in part. -/
namespace Go.Ab
open Go
theorem XX {α β:Type} [DecidableEq α]:∀ (l:List (α×β)) (k k':α) (v:β),uY (w8 l k v) k'=if k=k' then some v else uY l k':=by
 intro l
 induction l with
 | nil=>intro k k' v;rfl
 | cons p l ih =>
  intro k k' v;unfold w8
  by_cases hp:p.1=k
  ·rw [if_pos hp];simp only [uY]
   by_cases hk:k=k'
   ·rw [if_pos hk,if_pos hk]
   ·rw [if_neg hk,if_neg hk,if_neg (by rw [hp];exact hk)]
  ·rw [if_neg hp];simp only [uY];rw [ih]
   by_cases hk:k=k'
   ·rw [if_pos hk,if_pos hk,if_neg (by rw [<- hk];exact hp)]
   ·rw [if_neg hk,if_neg hk]
theorem VZ {α β:Type} [DecidableEq α]:∀ (l:List (α×β)) (k:α) (v:β),(w8 l k v).length<=l.length+1:=by
 intro l
 induction l with
 | nil=>intro k v;simp [w8]
 | cons p l ih =>
  intro k v;unfold w8
  split
  ·simp
  ·have:=ih k v;simp only [zlc];omega
def BZ {α:Type} [DecidableEq α] (t:List (α×Bool)) (l:List α):Prop:=t.length<=l.length/\∀ x,(uY t x).getD false=decide (x∈l)
theorem RR {α:Type} [DecidableEq α]:BZ ([]:List (α×Bool)) []:=⟨Nat.le_refl _,fun x=>by simp [uY]⟩
theorem O6 {α:Type} [DecidableEq α] {t:List (α×Bool)} {l:List α} (h:BZ t l) (x:α):BZ (w8 t x true) (l++[x]):=by
 refine ⟨by have:=VZ t x true;have:=h.1;simp only [zla,zls];omega,fun y=>?_⟩;rw [XX]
 by_cases hy:x=y
 ·rw [if_pos hy];simp [hy]
 ·rw [if_neg hy,h.2];simp [Ne.symm hy]
theorem SV {α:Type} (l:List α) (i:Nat):sub l 0 (i:Int)=l.take i:=by simp [sub]
theorem bO {α:Type} {l:List α} {i:Nat} {x:α} {r:List α} (h:l.drop i=x::r):l.take (i+1)=l.take i++[x]:=by
 rw [List.take_add_one]
 have:=congrArg (·[0]?) h
 simp at this;rw [this];rfl
theorem S5 {α:Type} {l:List α} {i:Nat} {x:α} {r:List α} (h:l.drop i=x::r):(l.take i).length=i:=by
 have:=tZ h
 rw [List.length_take];omega
theorem GF {α:Type} {l:List α} {i:Nat} {x:α} {r:List α} (h:l.drop i=x::r):l[i]?=some x:=by
 have:=congrArg (·[0]?) h
 simpa using this
theorem HS {α:Type} {c:Bool} {x y z:α} (hc:c=true) (h:x=z):(bif c then x else y)=z:=by rw [hc];exact h
theorem LY {α:Type} {c:Bool} {x y z:α} (hc:c=false) (h:y=z):(bif c then x else y)=z:=by rw [hc];exact h
theorem EV {p q:Prop} [Decidable p] [Decidable q] (h:p\/q):(decide p||decide q)=true:=by simpa using h
theorem MM {p q:Prop} [Decidable p] [Decidable q] (h:¬(p\/q)):(decide p||decide q)=false:=by simpa using h
theorem OE {α:Type} [BEq α] [LawfulBEq α] {a b:α} (h:a=b):(a==b)=true:=by rw [h];exact BEq.rfl
theorem NY {α:Type} [BEq α] [LawfulBEq α] {a b:α} (h:a≠b):(a==b)=false:=by simpa using h
end Go.Ab

/- A nil slice is seen as an empty row of the call's own. -/
namespace Go.Ab
open Go
def LP (cs:List AV) (j:Nat):Bool:=match cs[j]? with | some .nilsl=>true | _=>false
theorem Y8 {cs:List AV} {j:Nat} (h:LP cs j=true):cs[j]?=some .nilsl:=by
 unfold LP at h
 split at h
 ·assumption
 ·cases h
theorem VI {w:World} {I I':Nat->Prop} {T:Tbl} {id:Nat} {C:Array Value} {cs:List AV} {j:Nat} (hI:∀ b,I b->I' b) (hn:T id=none) (h:∀ (k:Nat) (c:AV),cs[k]?=some c->Rep w I T (C.getD k undef) c) (hj:cs[j]?=some .nilsl) :
  ∀ (k:Nat) (c:AV),(cs.set j (.own id 0))[k]?=some c->Rep w I' (T.put id .nil) (C.getD k undef) c:=by
 intro k c hk
 by_cases e:j=k
 ·subst e;have hlt:=(List.getElem?_eq_some_iff.1 hj).1;rw [List.getElem?_set_self hlt] at hk;injection hk with hk;subst hk;have hr:=h j _ hj;generalize C.getD j undef=v at hr;cases hr with
  | nilsl=>exact .ownNil (Tbl.put_same _ _ _)
 ·rw [List.getElem?_set_ne e] at hk;exact (h k c hk).mono (Nat.le_refl _) (fun _ _ _=>rfl) (fun b hb _=>hI b hb) (Tbl.le_put hn)
theorem zAu {cs:List AV} {j id:Nat} (h:∀ c∈cs,c.one=true):∀ c∈cs.set j (.own id 0),c.one=true:=by
 intro c hc;rcases List.mem_or_eq_of_mem_set hc with hc | rfl
 ·exact h c hc
 ·rfl
def RU (st:AS) (i j id e sz:Nat):AS :=
 ⟨st.slot,fun k=>bif Nat.beq k id then .live (.row e sz []) else bif Nat.beq k i then (match st.box i with | .live (.var t cs)=>.live (.var t (cs.set j (.own id 0))) | b=>b) else st.box k⟩
def X3 (st:AS) (i j id:Nat):Bool:=nU (st.box id)&&(match st.box i with | .live (.var _ cs)=>LP cs j | _=>false)
def OR (st:AS) (t:Nat) (j:Option Nat) (id e sz:Nat):AS :=
 ⟨fun k=>bif Nat.beq k t then (match j,st.slot t with | none,_=>.own id 0 | some j,.agg cs=>.agg (cs.set j (.own id 0)) | _,v=>v) else st.slot k,fun k=>bif Nat.beq k id then .live (.row e sz []) else st.box k⟩
def Z2 (st:AS) (t:Nat) (j:Option Nat) (id:Nat):Bool :=
 nU (st.box id)&&(match j,st.slot t with | none,.nilsl=>true | some j,.agg cs=>LP cs j | _,_=>false)
theorem zAC {G:tK} {st st2:AS} {T:Tbl} {a:Act} {w:World} {id e sz:Nat} (hT:jB G st T a w) (hu:st.box id=.unused)
  (hslot:∀ t,(∀ I',(∀ b,imm G st T b->I' b)->Rep w I' (T.put id .nil) (a.tmps.getD t undef) (st2.slot t)))
  (hbox:∀ k bx,st2.box k=.live bx->(k=id/\bx=.row e sz [])\/(k≠id/\∃ bx0,st.box k=.live bx0/\∀ I',(∀ b,imm G st T b->I' b)->kC w I' (T.put id .nil) (T k) bx))
  (hun:∀ k,st2.box k=.unused->k≠id/\st.box k=.unused):Rel G st2 a w:=by
 have hn:=hT.unused id hu;have himm:∀ b,imm G st T b->imm G st2 (T.put id .nil) b:=by
  intro b hb;refine ⟨hb.1,fun k bx cap hl hTk=>?_⟩;rcases hbox k bx hl with ⟨rfl,_⟩ | ⟨hne,bx0,h0,_⟩
  ·rw [Tbl.put_same] at hTk;cases hTk
  ·rw [Tbl.put_ne _ _ hne] at hTk;exact hb.2 k bx0 cap h0 hTk
 refine ⟨T.put id .nil,hT.defers,hT.size,fun t=>hslot t _ himm,?_,?_,?_,?_,fun i p hp=>Tbl.le_put hn _ _ (hT.foot i p hp),hT.kept⟩
 ·intro k bx hl;rcases hbox k bx hl with ⟨rfl,rfl⟩ | ⟨hne,bx0,h0,h1⟩
  ·rw [Tbl.put_same];exact .inl ⟨rfl,rfl⟩
  ·rw [Tbl.put_ne _ _ hne];exact h1 _ himm
 ·intro k hk;obtain ⟨hne,h0⟩:=hun k hk;rw [Tbl.put_ne _ _ hne];exact hT.unused k h0
 ·intro i1 i2 b1 b2 b c1 c2 h1 h2 t1 t2;rcases hbox i1 b1 h1 with ⟨rfl,_⟩ | ⟨n1,x1,l1,_⟩
  ·rw [Tbl.put_same] at t1;cases t1
  rcases hbox i2 b2 h2 with ⟨rfl,_⟩ | ⟨n2,x2,l2,_⟩
  ·rw [Tbl.put_same] at t2;cases t2
  rw [Tbl.put_ne _ _ n1] at t1;rw [Tbl.put_ne _ _ n2] at t2;exact hT.apart i1 i2 x1 x2 b c1 c2 l1 l2 t1 t2
 ·intro k bx b cap hl hTk hge;rcases hbox k bx hl with ⟨rfl,_⟩ | ⟨hne,bx0,h0,_⟩
  ·rw [Tbl.put_same] at hTk;cases hTk
  ·rw [Tbl.put_ne _ _ hne] at hTk;exact hT.mine k bx0 b cap h0 hTk hge
theorem jH {np:Nat} {st:AS} (i j id e sz:Nat) (h:X3 st i j id=true):Sub np st (RU st i j id e sz):=by
 rintro G a w hnp ⟨T,hT⟩;unfold X3 at h;simp only [zba] at h;obtain ⟨h1,h2⟩:=h;have hu:=aU h1
 split at h2
 case h_2=>cases h2
 rename_i t cs hb
 have hj:=Y8 h2;have hn:=hT.unused id hu;have hne:i≠id:=fun e=>by rw [e,hu] at hb;cases hb
 have hbx:∀ k,(RU st i j id e sz).box k=if k=id then .live (.row e sz []) else if k=i then .live (.var t (cs.set j (.own id 0))) else st.box k:=by
  intro k;simp only [RU,hb]
  by_cases e1:k=id
  ·subst e1;simp
  ·rw [kJ e1,if_neg e1]
   by_cases e2:k=i
   ·subst e2;simp
   ·rw [kJ e2,if_neg e2];rfl
 refine zAC hT hu (id:=id) (e:=e) (sz:=sz) ?_ ?_ ?_
 ·intro t' I' hI;exact (hT.slots t').mono (Nat.le_refl _) (fun _ _ _=>rfl) (fun b hb _=>hI b hb) (Tbl.le_put hn)
 ·intro k bx hl;rw [hbx] at hl
  by_cases e1:k=id
  ·rw [if_pos e1] at hl;injection hl with hl;exact .inl ⟨e1,hl.symm⟩
  rw [if_neg e1] at hl
  by_cases e2:k=i
  ·rw [if_pos e2] at hl;injection hl with hl;subst hl;subst e2;refine .inr ⟨e1,_,hb,fun I' hI=>?_⟩;obtain ⟨b,C,p1,p2,p3,p4,p5⟩:=hT.boxes k _ hb;exact ⟨b,C,p1,p2,by rw [p3];simp,zAu p4,VI hI hn p5 hj⟩
  ·rw [if_neg e2] at hl;exact .inr ⟨e1,bx,hl,fun I' hI=>(hT.boxes k bx hl).mono (Nat.le_refl _) (fun _ _ _=>rfl) (fun b hb _=>hI b hb) (Tbl.le_put hn) (fun _ _ _ _=>rfl)⟩
 ·intro k hk;rw [hbx] at hk
  by_cases e1:k=id
  ·rw [if_pos e1] at hk;cases hk
  rw [if_neg e1] at hk
  by_cases e2:k=i
  ·rw [if_pos e2] at hk;cases hk
  ·rw [if_neg e2] at hk;exact ⟨e1,hk⟩
theorem zFq {np:Nat} {st:AS} (t:Nat) (j:Option Nat) (id e sz:Nat) (h:Z2 st t j id=true):Sub np st (OR st t j id e sz):=by
 rintro G a w hnp ⟨T,hT⟩;unfold Z2 at h;simp only [zba] at h;obtain ⟨h1,h2⟩:=h;have hu:=aU h1;have hn:=hT.unused id hu;have hbx:∀ k,(OR st t j id e sz).box k=if k=id then .live (.row e sz []) else st.box k:=by
  intro k;simp only [OR]
  by_cases e1:k=id
  ·subst e1;simp
  ·rw [kJ e1,if_neg e1];rfl
 refine zAC hT hu (id:=id) (e:=e) (sz:=sz) ?_ ?_ ?_
 ·intro k I' hI;simp only [OR]
  by_cases e1:k=t
  ·subst e1;rw [O0];simp only [cond_true]
   split at h2
   ·rename_i hs
    rw [hs];have hr:=hT.slots k;rw [hs] at hr;simp only;generalize a.tmps.getD k undef=v at hr ⊢;cases hr with
    | nilsl=>exact .ownNil (Tbl.put_same _ _ _)
   ·rename_i j' cs hs
    rw [hs];have hr:=hT.slots k;rw [hs] at hr;simp only;generalize a.tmps.getD k undef=v at hr ⊢;cases hr with
    | agg k1 k2 k3=>exact .agg (by rw [k1];simp) (zAu k2) (VI hI hn k3 (Y8 h2))
   ·cases h2
  ·rw [kJ e1];exact (hT.slots k).mono (Nat.le_refl _) (fun _ _ _=>rfl) (fun b hb _=>hI b hb) (Tbl.le_put hn)
 ·intro k bx hl;rw [hbx] at hl
  by_cases e1:k=id
  ·rw [if_pos e1] at hl;injection hl with hl;exact .inl ⟨e1,hl.symm⟩
  rw [if_neg e1] at hl;exact .inr ⟨e1,bx,hl,fun I' hI=>(hT.boxes k bx hl).mono (Nat.le_refl _) (fun _ _ _=>rfl) (fun b hb _=>hI b hb) (Tbl.le_put hn) (fun _ _ _ _=>rfl)⟩
 ·intro k hk;rw [hbx] at hk
  by_cases e1:k=id
  ·rw [if_pos e1] at hk;cases hk
  rw [if_neg e1] at hk;exact ⟨e1,hk⟩
theorem Sub.trans {np:Nat} {a b c:AS} (h1:Sub np a b) (h2:Sub np b c):Sub np a c:=fun G x w hn hR=>h2 G x w hn (h1 G x w hn hR)
end Go.Ab

/- A range over a map of the call's own: the rounds come in an order that nobody knows. -/
namespace Go.Ab
open Go
open Go.ChangeMaps (setBlock)
structure RS where
 tm:Nat
 t0:Nat
 ti:Nat
 tR:Nat
 tn:Nat
 tok:Nat
 te:Nat
 tx:Nat
 ty:Nat
 tk:Nat
 tv:Nat
 blk:Nat
 b3:Nat
end Go.Ab

/- A state seen otherwise, most of it as it was. -/
namespace Go.Ab
open Go
def rK:List Nat->Nat->Nat
 | [],_=>0
 | x::r,i=>bif Nat.beq x i then 0 else rK r i+1
def inN (l:List Nat) (i:Nat):Bool:=l.any (Nat.beq i)
theorem L9 {l:List Nat} {i:Nat} (h:inN l i=true):l.getD (rK l i) 0=i:=by
 induction l with
 | nil=>simp [inN] at h
 | cons x r ih =>
  simp only [rK];cases hx:Nat.beq x i
  ·simp only [cond_false]
   have:inN r i=true:=by
    simp only [inN,List.any_cons,Bool.or_eq_true] at h ⊢;rcases h with h | h
    ·rw [w7.1 h] at hx;simp at hx
    ·exact h
   have:=ih this
   simpa [List.getD] using this
  ·have:=w7.1 hx
   simp [List.getD,this]
mutual
def rn (ρ:List Nat):AV->AV
 | .agg cs=>.agg (rns ρ cs)
 | .tuple cs=>.tuple (rns ρ cs)
 | .ptr id sz i off=>.ptr (rK ρ id) sz i off
 | .own id n=>.own (rK ρ id) n
 | .part id sz lo hi=>.part (rK ρ id) sz lo hi
 | .fn f cs=>.fn f (rns ρ cs)
 | .mp id=>.mp (rK ρ id)
 | .junk=>.junk
 | .int k n=>.int k n
 | .bool b=>.bool b
 | .str l=>.str l
 | .sl f s l=>.sl f s l
 | .ref a=>.ref a
 | .nilp=>.nilp
 | .nilsl=>.nilsl
 | .nb l=>.nb l
 | .raw b=>.raw b
 | .fm n l=>.fm n l
def rns (ρ:List Nat):List AV->List AV
 | []=>[]
 | a::r=>rn ρ a::rns ρ r
end
mutual
def ins (ρ:List Nat):AV->Bool
 | .agg cs=>mC ρ cs
 | .tuple cs=>mC ρ cs
 | .ptr id ..=>inN ρ id
 | .own id _=>inN ρ id
 | .part id ..=>inN ρ id
 | .fn _ cs=>mC ρ cs
 | .mp id=>inN ρ id
 | .junk=>true
 | .int ..=>true
 | .bool _=>true
 | .str _=>true
 | .sl ..=>true
 | .ref _=>true
 | .nilp=>true
 | .nilsl=>true
 | .nb _=>true
 | .raw _=>true
 | .fm ..=>true
def mC (ρ:List Nat):List AV->Bool
 | []=>true
 | a::r=>ins ρ a&&mC ρ r
end
mutual
theorem Z4 {ρ:List Nat}:∀ {a:AV},ins ρ a=true->un ρ (rn ρ a)=a
 | .agg cs,h=>by simp only [rn,un];rw [HJ (cs:=cs) (by simpa [ins] using h)]
 | .tuple cs,h=>by simp only [rn,un];rw [HJ (cs:=cs) (by simpa [ins] using h)]
 | .ptr id ..,h=>by simp only [rn,un];rw [L9 (by simpa [ins] using h)]
 | .own id _,h=>by simp only [rn,un];rw [L9 (by simpa [ins] using h)]
 | .part id ..,h=>by simp only [rn,un];rw [L9 (by simpa [ins] using h)]
 | .fn _ cs,h=>by simp only [rn,un];rw [HJ (cs:=cs) (by simpa [ins] using h)]
 | .mp id,h=>by simp only [rn,un];rw [L9 (by simpa [ins] using h)]
 | .junk,_=>rfl
 | .int ..,_=>rfl
 | .bool _,_=>rfl
 | .str _,_=>rfl
 | .sl ..,_=>rfl
 | .ref _,_=>rfl
 | .nilp,_=>rfl
 | .nilsl,_=>rfl
 | .nb _,_=>rfl
 | .raw _,_=>rfl
 | .fm ..,_=>rfl
theorem HJ {ρ:List Nat}:∀ {cs:List AV},mC ρ cs=true->uns ρ (rns ρ cs)=cs
 | [],_=>rfl
 | a::r,h=>by
  simp only [mC,zba] at h;simp only [rns,uns];rw [Z4 h.1,HJ h.2]
end
theorem VN (x:AV):∀ p∈lo1 x x,p:=by
 intro p hp;cases x with
 | sl f s l =>
  have hp:p=(s=s)\/p=(l=l)\/p=((!f||f)=true):=by simpa only [lo1,List.mem_cons,List.not_mem_nil,or_false] using (show p∈[s=s,l=l,(!f||f)=true] from hp)
  rcases hp with h | h | h
  ·rw [h]
  ·rw [h]
  ·rw [h];cases f<;>rfl
 | junk=>cases hp
 | _=>simp [lo1] at hp;exact hp
theorem YO:∀ (xs:List AV),∀ p∈los xs xs,p:=by
 intro xs
 induction xs with
 | nil=>intro p hp;cases hp
 | cons x r ih =>
  intro p hp;simp only [los,List.mem_append] at hp;rcases hp with hp | hp
  ·exact VN x p hp
  ·exact ih p hp
theorem zAF (x:AV):∀ p∈loA x x,p:=by
 intro p hp;cases x with
 | agg cs=>exact YO cs p hp
 | _=>simp only [loA] at hp;exact VN _ p hp
theorem zED:∀ (xs:List AV),∀ p∈cP xs xs,p:=by
 intro xs
 induction xs with
 | nil=>intro p hp;cases hp
 | cons x r ih =>
  intro p hp;simp only [cP,List.mem_append] at hp;rcases hp with hp | hp
  ·exact zAF x p hp
  ·exact ih p hp
theorem zF9 (x:AV):∀ p∈loT x x,p:=by
 intro p hp;cases x with
 | tuple cs=>exact zED cs p hp
 | _=>simp only [loT] at hp;exact zAF _ p hp
def A4 (ids:List Nat):AV->Bool
 | .own id _=>!(ids.any (Nat.beq id))
 | .part id ..=>!(ids.any (Nat.beq id))
 | _=>true
def HD (ids:List Nat):AV->Bool
 | .agg cs=>cs.all (A4 ids)
 | v=>A4 ids v
def OT (ids:List Nat):AV->Bool
 | .tuple vs=>vs.all (HD ids)
 | v=>HD ids v
theorem HT {B:Nat->y7} {ids:List Nat} {x:AV} (h:A4 ids x=true):bG B ids x=x/\cI B ids x=[]:=by
 cases x with
 | own id n=>simp only [A4,Bool.not_eq_true'] at h;simp [bG,cI,h]
 | part id sz lo hi=>simp only [A4,Bool.not_eq_true'] at h;simp [bG,cI,h]
 | _=>exact ⟨rfl,rfl⟩
theorem T1 {α:Type} {f:α->α} {l:List α} (h:∀ x∈l,f x=x):l.map f=l:=by
 induction l with
 | nil=>rfl
 | cons a r ih=>rw [List.map_cons,h a (by simp),ih fun x hx=>h x (by simp [hx])]
theorem SL {α β:Type} {f:α->List β} {l:List α} (h:∀ x∈l,f x=[]):l.flatMap f=[]:=by
 induction l with
 | nil=>rfl
 | cons a r ih=>rw [List.flatMap_cons,h a (by simp),ih fun x hx=>h x (by simp [hx])];rfl
theorem RK {B:Nat->y7} {ids:List Nat} {x:AV} (h:HD ids x=true):b9 B ids x=x/\oB B ids x=[]:=by
 cases x with
 | agg cs =>
  simp only [HD,List.all_eq_true] at h;exact ⟨by simp only [b9];rw [T1 fun c hc=>(HT (h c hc)).1],SL fun c hc=>(HT (h c hc)).2⟩
 | _=>simp only [HD] at h;exact HT (B:=B) h
theorem zF0 {B:Nat->y7} {ids:List Nat} {x:AV} (h:OT ids x=true):frz B ids x=x/\cE B ids x=[]:=by
 cases x with
 | tuple vs =>
  simp only [OT,List.all_eq_true] at h;exact ⟨by simp only [frz];rw [T1 fun c hc=>(RK (h c hc)).1],SL fun c hc=>(RK (h c hc)).2⟩
 | _=>simp only [OT] at h;exact RK (B:=B) h
inductive Sp where
 | s (t:Nat)
 | a (t:Nat) (v:AV)
inductive Bp where
 | s (i:Nat)
 | a (i:Nat) (b:y7)
def UD (st:AS) (ρ:List Nat):Sp->Nat×AV
 | .s t=>(t,rn ρ (st.slot t))
 | .a t v=>(t,v)
def YC (st:AS) (ρ ids:List Nat):Sp->Bool
 | .s t=>ins ρ (st.slot t)&&OT ids (st.slot t)
 | .a _ _=>true
def zEa (st:AS) (ρ ids:List Nat):Sp->List Prop
 | .s _=>[]
 | .a t v=>cE st.box ids (st.slot t)++loT (frz st.box ids (st.slot t)) (un ρ v)
def rnB (ρ:List Nat):y7->y7
 | .live (.var t cs)=>.live (.var t (rns ρ cs))
 | b=>b
def okB (ρ ids:List Nat):y7->Bool
 | .live (.var _ cs)=>k8 cs&&(mC ρ cs&&cs.all (A4 ids))
 | .live _=>true
 | _=>false
def U0 (st:AS) (ρ:List Nat):Bp->Nat×y7
 | .s i=>(i,rnB ρ (st.box (ρ.getD i 0)))
 | .a i b=>(i,b)
def U7 (st:AS) (ρ ids:List Nat):Bp->Bool
 | .s i=>okB ρ ids (st.box (ρ.getD i 0))
 | .a _ _=>true
def zET (st:AS) (ρ ids:List Nat):Bp->List Prop
 | .s _=>[]
 | .a i b=>jJ st.box ids ρ (st.box (ρ.getD i 0)) b
def W9 (np:Nat) (st:AS) (ρ ids:List Nat) (sl2:List (Nat×AV)) (bx2:List (Nat×y7)):Bool :=
 ((kQ ρ&&mW (ρ.take np) (List.range np))&&(ids.all fun i=>oD (st.box i)&&Nat.ble np i)) &&
   ((sl2.all fun x=>(uS ρ.length x.2&&gH x.2)&&lL (frz st.box ids (st.slot x.1))) &&
    (bx2.all fun x=>(Nat.blt x.1 ρ.length&&QZ ρ.length x.2)&&(match x.2 with | .live (.row ..)=>!(ids.any (Nat.beq (ρ.getD x.1 0))) | .unused=>false | _=>true)))
def wkm (np:Nat) (st:AS) (ρ ids:List Nat) (sps:List Sp) (bps:List Bp):Option (List Prop×List (Nat×AV)×List (Nat×y7)) :=
 bif W9 np st ρ ids (sps.map (UD st ρ)) (bps.map (U0 st ρ))&&(sps.all (YC st ρ ids)&&bps.all (U7 st ρ ids)) then
  some (sps.flatMap (zEa st ρ ids)++bps.flatMap (zET st ρ ids),sps.map (UD st ρ),bps.map (U0 st ρ))
 else none
theorem Y3 {ρ:List Nat}:∀ {cs:List AV},k8 cs=true->k8 (rns ρ cs)=true
 | [],_=>rfl
 | a::r,h=>by
  simp only [k8,zba] at h;simp only [rns,k8,zba];refine ⟨?_,Y3 h.2⟩;have h1:=h.1;cases a<;>first | exact h1 | rfl
theorem zIA (np:Nat) (st:AS) (ρ ids:List Nat) (sl2:List (Nat×AV)) (bx2:List (Nat×y7)) :
  K8 np st ρ ids sl2 bx2=bif W9 np st ρ ids sl2 bx2 then some (sl2.flatMap (fun x=>cE st.box ids (st.slot x.1)++loT (frz st.box ids (st.slot x.1)) (un ρ x.2)) ++
   bx2.flatMap (fun x=>jJ st.box ids ρ (st.box (ρ.getD x.1 0)) x.2)) else none:=rfl
theorem zDD {np:Nat} {st:AS} {ρ ids:List Nat} {sps:List Sp} {bps:List Bp} {vcs:List Prop} {sl2:List (Nat×AV)} {bx2:List (Nat×y7)} (h:wkm np st ρ ids sps bps=some (vcs,sl2,bx2)) (hv:jC vcs) :
  ∃ vcs',K8 np st ρ ids sl2 bx2=some vcs'/\jC vcs':=by
 unfold wkm at h;replace h:=x8 h;obtain ⟨hc,h⟩:=h;simp only [zba,List.all_eq_true] at hc;obtain ⟨hok,hsp,hbp⟩:=hc;simp only [Option.some.injEq,Prod.mk.injEq] at h;obtain ⟨rfl,rfl,rfl⟩:=h;have hv:=N2 hv;have toAll:∀ {l:List Prop},(∀ p∈l,p)->jC l:=by
  intro l
  induction l with
  | nil=>intro _;trivial
  | cons a r ih=>intro h;exact ⟨h a (by simp),ih fun p hp=>h p (by simp [hp])⟩
 refine ⟨_,(zIA ..).trans (by rw [hok];rfl),toAll ?_⟩;intro p hp;rcases List.mem_append.1 hp with hp | hp
 ·obtain ⟨x,hx,hp⟩:=List.mem_flatMap.1 hp;obtain ⟨sp,hs,rfl⟩:=List.mem_map.1 hx;cases sp with
  | s t =>
   have h1:=hsp _ hs;simp only [YC,zba] at h1;have h2:=zF0 (B:=st.box) h1.2;simp only [UD,h2.1,h2.2,List.nil_append,Z4 h1.1] at hp;exact zF9 _ p hp
  | a t v=>exact hv p (List.mem_append_left _ (List.mem_flatMap.2 ⟨_,hs,hp⟩))
 ·obtain ⟨x,hx,hp⟩:=List.mem_flatMap.1 hp;obtain ⟨bp,hb,rfl⟩:=List.mem_map.1 hx;cases bp with
  | s i =>
   have h1:=hbp _ hb;simp only [U7] at h1;simp only [U0] at hp;generalize st.box (ρ.getD i 0)=b at h1 hp;cases b with
   | unused=>cases h1
   | dead=>cases h1
   | live b =>
    cases b with
    | row e s l=>simp [rnB,jJ] at hp;exact hp
    | map a k l=>simp [rnB,jJ] at hp;exact hp
    | var t cs =>
     simp only [okB,zba,List.all_eq_true] at h1;obtain ⟨h2,h3,h4⟩:=h1;simp only [rnB,jJ,List.mem_append,List.mem_cons,List.not_mem_nil,or_false] at hp;rcases hp with (h | h) | hp | hp
     ·rw [h];trivial
     ·rw [h];exact Y3 h2
     ·rw [SL fun c hc=>(HT (h4 c hc)).2] at hp;cases hp
     ·rw [T1 fun c hc=>(HT (h4 c hc)).1,HJ h3] at hp;exact YO _ p hp
  | a i b=>exact hv p (List.mem_append_right _ (List.mem_flatMap.2 ⟨_,hb,hp⟩))
theorem cX {np:Nat} {st:AS} (ρ ids:List Nat) (sps:List Sp) (bps:List Bp) {vcs:List Prop} {sl2:List (Nat×AV)} {bx2:List (Nat×y7)} (h:wkm np st ρ ids sps bps=some (vcs,sl2,bx2)) (hv:jC vcs) :
  Sub np st (mk sl2 bx2 ρ.length):=by
 obtain ⟨vcs',h1,h2⟩:=zDD h hv;exact zCc ρ ids sl2 bx2 h1 h2
theorem an:jC []:=trivial
theorem ac {p:Prop} {r:List Prop} (h:p) (t:jC r):jC (p::r):=⟨h,t⟩
end Go.Ab
