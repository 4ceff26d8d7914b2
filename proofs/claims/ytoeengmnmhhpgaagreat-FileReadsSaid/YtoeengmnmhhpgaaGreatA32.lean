/- A layer over the model: abstract values and states, and the rules by which the printed proofs go. No conditions. -/
import Derived.Test.YtoeengmnmhhpgaaGreatA27
import Derived.DeepKeys4
import Derived.Test.YtoeengmnmhhpgaaGreatA23
import Derived.Maps.RangeRun
/- Loops over lists, as the printed functions have them. -/
namespace Go.Ab
open Go
theorem zB1 {α σ R:Type} {l:List α} (L:Nat→Int→σ→Option R) (G:Nat→List α→σ→R) (Inv:Nat→σ→Prop)
  (he:∀ n i s,l.length≤i→Inv i s→L (n+1) (i:Nat) s=some (G i [] s))
  (hs:∀ n i s x r,l.drop i=x::r→i<l.length→Inv i s→(∀ s',Inv (i+1) s'→L n ((i+1:Nat):Int) s'=some (G (i+1) r s'))→L (n+1) (i:Nat) s=some (G i (x::r) s)) :
  ∀ n i s,Inv i s→(l.drop i).length<n→L n (i:Nat) s=some (G i (l.drop i) s):=by
 intro n
 induction n with
 | zero=>intro i s _ h;omega
 | succ n ih =>
  intro i s hI hn
  rcases hd:l.drop i with _ | ⟨x,r⟩
  ·exact he n i s (tZ hd) hI
  ·refine hs n i s x r hd (tQ hd) hI fun s' hI'=>?_
   have:=ih (i+1) s' hI' (by rw [wZ hd];rw [hd] at hn;simp only [List.length_cons] at hn;omega)
   rwa [wZ hd] at this
theorem HE {α σ R:Type} {l:List α} (L:Nat→Int→σ→Option R) (G:Nat→List α→σ→R) (Inv:Nat→σ→Prop)
  (he:∀ n i s,l.length≤i→Inv i s→L (n+1) (i:Nat) s=some (G i [] s))
  (hs:∀ n i s x r,l.drop i=x::r→i<l.length→Inv i s→(∀ s',Inv (i+1) s'→L n ((i+1:Nat):Int) s'=some (G (i+1) r s'))→L (n+1) (i:Nat) s=some (G i (x::r) s))
  {n:Nat} {s:σ} (hI:Inv 0 s) (hn:l.length<n):L n 0 s=some (G 0 l s):=by
 have:=zB1 L G Inv he hs n 0 s hI (by simpa using hn)
 simpa using this
theorem wW {i:Nat} (h:i<9223372036854775807):zG ((i:Int)+1)=((i+1:Nat):Int):=by
 rw [w64 (by omega) (by omega)];omega
theorem nI {α:Type} {l:List α} {i:Nat} {x:α} {r:List α} (h:l.drop i=x::r):x∈l:=List.mem_of_mem_drop (h ▸ List.mem_cons_self)
theorem QQ {α:Type} {l:List α} {i:Nat} (h0:0<i) (h:i<9223372036854775807):yZ l (zG ((i:Int) - 1))=l[i - 1]?:=by
 rw [w64 (by omega) (by omega),show (i:Int) - 1=((i - 1:Nat):Int) by omega,pR]
theorem zC1 {α:Type} {l:List α} (h0:l.length<9223372036854775807) (h:l≠[]):yZ l (zG ((l.length:Int) - 1))=l.getLast?:=by
 have:0<l.length:=List.length_pos_iff.2 h
 rw [QQ this h0,List.getLast?_eq_getElem?]
def uS {α:Type} {β:Type} (f:Nat→α→Option β):Nat→List α→Unit⊕β
 | _,[]=>.inl ()
 | i,x::r=>match f i x with
  | none=>uS f (i+1) r
  | some b=>.inr b
theorem Y4 {α β:Type} {f:Nat→α→Option β} {i:Nat} {l:List α} (h:uS f i l=.inl ()):∀ j x,l[j]?=some x→f (i+j) x=none:=by
 induction l generalizing i with
 | nil=>intro j x hj;simp at hj
 | cons a r ih =>
  intro j x hj
  simp only [uS] at h
  split at h
  ·rename_i hf
   cases j with
   | zero=>simp at hj;subst hj;exact hf
   | succ j =>
    have:=ih h j x (by simpa using hj)
    rwa [show i+1+j=i+(j+1) by omega] at this
  ·cases h
theorem UF {α β:Type} {f:Nat→α→Option β} {i:Nat} {l:List α} (h:∀ j x,l[j]?=some x→f (i+j) x=none):uS f i l=.inl ():=by
 induction l generalizing i with
 | nil=>rfl
 | cons a r ih =>
  simp only [uS]
  rw [show f i a=none from h 0 a rfl]
  exact ih fun j x hj=>by
   have:=h (j+1) x (by simpa using hj)
   rwa [show i+(j+1)=i+1+j by omega] at this
end Go.Ab

/- Maps of the call's own: typed tables, and what the layer asks of them. -/
namespace Go.Ab
open Go
def mpE {α β:Type} (f:α→AV) (g:β→AV) (p:α×β):AV×AV:=(f p.1,g p.2)
def uN {α β:Type} [DecidableEq α]:List (α×β)→α→Option β
 | [],_=>none
 | p::l,k=>if p.1=k then some p.2 else uN l k
def wS {α β:Type} [DecidableEq α]:List (α×β)→α→β→List (α×β)
 | [],k,v=>[(k,v)]
 | p::l,k,v=>if p.1=k then (k,v)::l else p::wS l k v
section
variable {α β:Type} [DecidableEq α] {f:α→AV} {g:β→AV}
theorem NA {l:List (α×β)} {k:α} (h:uN l k=none):∀ p∈l,p.1≠k:=by
 induction l with
 | nil=>intro p hp;cases hp
 | cons q l ih =>
  unfold uN at h
  split at h
  ·cases h
  ·rename_i hq
   intro p hp
   rcases List.mem_cons.1 hp with rfl | hp
   ·exact hq
   ·exact ih h p hp
theorem TA {l:List (α×β)} {k:α} {v:β} (h:uN l k=some v):∃ (i:Nat) (p:α×β),l[i]?=some p∧p.1=k∧p.2=v∧∀ w,wS l k w=l.set i (k,w):=by
 induction l with
 | nil=>cases h
 | cons q l ih =>
  unfold uN at h
  split at h
  ·rename_i hq
   injection h with h
   exact ⟨0,q,rfl,hq,h,fun w=>by simp [wS,hq]⟩
  ·rename_i hq
   obtain ⟨i,p,h1,h2,h3,h4⟩:=ih h
   exact ⟨i+1,p,by simpa using h1,h2,h3,fun w=>by simp [wS,hq,h4]⟩
theorem zAq {l:List (α×β)} {k:α} (h:∀ p∈l,p.1≠k) (v:β):wS l k v=l++[(k,v)]:=by
 induction l with
 | nil=>rfl
 | cons q l ih =>
  unfold wS
  rw [if_neg (h q (List.mem_cons_self ..)),ih fun p hp=>h p (List.mem_cons_of_mem _ hp)];rfl
theorem LJ (hf:∀ a b,f a=f b→a=b) (l:List (α×β)) (k:α) (z:β):dB (l.map (mpE f g)) (f k) (g z) (g ((uN l k).getD z)) (uN l k).isSome:=by
 cases h:uN l k with
 | none =>
  refine .inr ⟨fun x hx=>?_,rfl,rfl⟩
  obtain ⟨p,hp,rfl⟩:=List.mem_map.1 hx
  exact fun e=>NA h p hp (hf _ _ e)
 | some v =>
  obtain ⟨i,p,h1,h2,h3,_⟩:=TA h
  exact .inl ⟨i,mpE f g p,by rw [List.getElem?_map,h1];rfl,by simp [mpE,h2],by simp [mpE,h3],rfl⟩
theorem KD (hf:∀ a b,f a=f b→a=b) (l:List (α×β)) (k:α) (v:β):m4 (l.map (mpE f g)) (f k) (g v) ((wS l k v).map (mpE f g)):=by
 cases h:uN l k with
 | none =>
  refine .inr ⟨fun x hx=>?_,?_⟩
  ·obtain ⟨p,hp,rfl⟩:=List.mem_map.1 hx
   exact fun e=>NA h p hp (hf _ _ e)
  ·rw [zAq (NA h)];simp [mpE]
 | some v0 =>
  obtain ⟨i,p,h1,h2,h3,h4⟩:=TA h
  exact .inl ⟨i,mpE f g p,by rw [List.getElem?_map,h1];rfl,by simp [mpE,h2],by rw [h4,List.map_set];rfl⟩
omit [DecidableEq α] in
theorem LC {l:List (α×β)} (h:l.length<140737488355328):(l.map (mpE f g)).length<maxLen:=by
 rw [List.length_map,jD];omega
end
theorem o4 {α:Type} [DecidableEq α] {f:α→AV} (hf:∀ a b,f a=f b→a=b) (a b:α):decide (a=b)=true↔f a=f b:=by
 rw [decide_eq_true_iff];exact ⟨fun h=>by rw [h],hf a b⟩
theorem L0 {k:IntKind}:∀ a b:Int,AV.int k a=AV.int k b→a=b:=fun _ _ h=>(AV.int.inj h).2
theorem U2:∀ a b:List Int,AV.str a=AV.str b→a=b:=fun _ _ h=>AV.str.inj h
theorem VI {k:IntKind} {n:Int} (h:k.wrap n=n):(Lit.int k n).wf=true:=by
 have:=NH h
 simp only [Lit.wf,Bool.and_eq_true,decide_eq_true_eq];exact this
theorem zD0 {P:Program} {k:TypeId} {q:IntKind} (h:P.underlying k=some (.int q)):qM P k false [.int q]:=by
 refine ⟨Maps.int_keyed h,fun w I T v a hr hm=>?_⟩
 cases a<;>simp [tU,kcs,kc] at hm
 subst hm
 cases hr with
 | int hw=>exact ⟨_,Maps.keyOf_int_mk h (VI hw)⟩
theorem zEc {P:Program} {k:TypeId} (h:P.underlying k=some .string):qM P k false [.str]:=by
 refine ⟨Maps.string_keyed h,fun w I T v a hr hm=>?_⟩
 cases a<;>simp [tU,kcs,kc] at hm
 cases hr with
 | str h1 h2=>exact ⟨_,by simp [keyOf,h,mapKey,vW,ByteArray.size,h2];rfl⟩
end Go.Ab

/- Keys that are arrays or structs. -/
namespace Go.Ab
open Go
def MD (g:TypeId→Option (List KSh)) (cell:TypeId→Nat):Nat→List Field→Option (List KSh)
 | _,[]=>some []
 | o,f::r =>
  match g f.type,MD g cell (o+cell f.type) r with
  | some a, some b => bif Nat.beq f.offset o && (Nat.beq (cell f.type) a.length && (f.name != "_")) then some (a ++ b) else none
  | _,_=>none
def HS (P:Program):Nat→TypeId→Option (List KSh)
 | 0,_=>none
 | d+1,t =>
  match P.underlying t with
  | some .bool=>some [.bool]
  | some (.int q)=>some [.int q]
  | some .string=>some [.str]
  | some (.array n e) =>
   match HS P d e with
   | some ks=>bif Nat.beq (P.cellsOf e) ks.length&&Nat.beq (P.cellsOf t) (n * ks.length) then some (List.replicate n ks).flatten else none
   | none=>none
  | some (.struct fs) =>
   match MD (HS P d) P.cellsOf 0 fs.toList with
   | some ks=>bif Nat.beq (P.cellsOf t) ks.length then some ks else none
   | none=>none
  | _=>none
def vk:KSh→Value→Prop
 | .int q,.int q' n=>q'=q∧(Lit.int q n).wf=true
 | .bool,.bool _=>True
 | .str,.string s=>s.size≤maxLen
 | _,_=>False
inductive VM:List KSh→List Value→Prop
 | nil:VM [] []
 | cons {k v ks vs}:vk k v→VM ks vs→VM (k::ks) (v::vs)
theorem VM.len {ks:List KSh} {cs:List Value} (h:VM ks cs):ks.length=cs.length:=by
 induction h with
 | nil=>rfl
 | cons _ _ ih=>simp [ih]
theorem VM.app {a b:List KSh} {cs:List Value} (h:VM (a++b) cs):VM a (cs.take a.length)∧VM b (cs.drop a.length):=by
 induction a generalizing cs with
 | nil=>exact ⟨by simpa using VM.nil,by simpa using h⟩
 | cons x a ih =>
  cases h with
  | cons h1 h2 =>
   obtain ⟨i1,i2⟩:=ih h2
   exact ⟨by simpa using VM.cons h1 i1,by simpa using i2⟩
theorem VM.part {ks:List KSh}:∀ {n:Nat} {cs:List Value} {i:Nat},VM (List.replicate n ks).flatten cs→i<n→VM ks ((cs.drop (i * ks.length)).take ks.length):=by
 intro n
 induction n with
 | zero=>intro cs i _ h;omega
 | succ n ih =>
  intro cs i h hi
  rw [List.replicate_succ,List.flatten_cons] at h
  obtain ⟨h1,h2⟩:=h.app
  cases i with
  | zero=>simpa using h1
  | succ i =>
   have:=ih (i:=i) h2 (by omega)
   rw [List.drop_drop] at this
   rw [Nat.add_mul,Nat.one_mul,Nat.add_comm]
   exact this
theorem X8 {α β:Type} {f:α→Option β}:∀ (l:List α),(∀ x∈l,∃ b,f x=some b)→∃ bs,l.mapM f=some bs:=by
 intro l
 induction l with
 | nil=>intro _;exact ⟨[],rfl⟩
 | cons x l ih =>
  intro h
  obtain ⟨b,hb⟩:=h x (List.mem_cons_self ..)
  obtain ⟨bs,hbs⟩:=ih fun y hy=>h y (List.mem_cons_of_mem _ hy)
  exact ⟨b::bs,by simp [List.mapM_cons,hb,hbs]⟩
theorem zCH {g:TypeId→Option (List KSh)} {cell:TypeId→Nat}:∀ (fs:List Field) (o:Nat) (ks:List KSh) (cs:List Value),MD g cell o fs=some ks→o≤cs.length→VM ks (cs.drop o) →
  ∀ f ∈ fs, (f.name != "_") = true ∧ ∃ a, g f.type = some a ∧ VM a ((cs.drop f.offset).take (cell f.type)) := by
 intro fs
 induction fs with
 | nil=>intro o ks cs _ _ _ f hf;cases hf
 | cons x r ih =>
  intro o ks cs h ho hv f hf
  unfold MD at h
  split at h
  case h_2=>cases h
  rename_i a b ha hb
  replace h:=xW h;obtain ⟨hc,h⟩:=h
  simp only [Bool.and_eq_true] at hc
  have e1:=wR.1 hc.1
  have e2:=wR.1 hc.2.1
  injection h with h;subst h
  obtain ⟨v1,v2⟩:=hv.app
  rcases List.mem_cons.1 hf with rfl | hf
  ·exact ⟨hc.2.2,a,ha,by rw [e1,e2];exact v1⟩
  ·have hl:=hv.len
   rw [List.length_append,List.length_drop] at hl
   refine ih (o+cell x.type) b cs hb (by omega) ?_ f hf
   rw [List.drop_drop] at v2
   rw [e2];exact v2
theorem zCT {P:Program}:∀ (d:Nat) (t:TypeId) (ks:List KSh) (cs:List Value),HS P d t=some ks→VM ks cs→∃ ls,P.keyLits d t cs=some ls:=by
 intro d
 induction d with
 | zero=>intro t ks cs h;cases h
 | succ d ih =>
  intro t ks cs h hv
  unfold HS at h
  unfold Program.keyLits
  split at h
  ·rename_i hu
   injection h with h;subst h
   cases hv with
   | cons h1 h2=>cases h2;rename_i v;cases v<;>simp [vk] at h1;rw [hu];exact ⟨_,rfl⟩
  ·rename_i q hu
   injection h with h;subst h
   cases hv with
   | cons h1 h2=>cases h2;rename_i v;cases v<;>simp [vk] at h1;rw [hu];simp [h1]
  ·rename_i hu
   injection h with h;subst h
   cases hv with
   | cons h1 h2=>cases h2;rename_i v;cases v<;>simp [vk] at h1;rw [hu];simp [h1]
  ·rename_i n e hu
   split at h
   case h_2=>cases h
   rename_i ks' hk
   replace h:=xW h;obtain ⟨hc,h⟩:=h
   simp only [Bool.and_eq_true] at hc
   have e1:=wR.1 hc.1
   have e2:=wR.1 hc.2
   injection h with h;subst h
   have hl:=hv.len
   have hl2:(List.replicate n ks').flatten.length=n * ks'.length:=by simp
   rw [hu]
   simp only
   rw [if_pos (by omega)]
   obtain ⟨bs,hbs⟩:=X8 (f:=fun i=>P.keyLits d e ((cs.drop (i * P.cellsOf e)).take (P.cellsOf e))) (List.range n) (fun i hi=>by
    rw [e1]
    exact ih e ks' _ hk (hv.part (List.mem_range.1 hi)))
   rw [hbs];exact ⟨_,rfl⟩
  ·rename_i fs hu
   split at h
   case h_2=>cases h
   rename_i ks' hk
   replace h:=xW h;obtain ⟨hc,h⟩:=h
   have e1:=wR.1 hc
   injection h with h;subst h
   have hl:=hv.len
   have hspec:=zCH fs.toList 0 ks' cs hk (by omega) (by simpa using hv)
   rw [hu]
   simp only
   rw [if_pos ⟨by omega,by rw [← Array.all_toList];exact List.all_eq_true.2 fun f hf=>(hspec f hf).1⟩]
   obtain ⟨bs,hbs⟩:=X8 (f:=fun f:Field=>P.keyLits d f.type ((cs.drop f.offset).take (P.cellsOf f.type))) fs.toList (fun f hf=>by
    obtain ⟨_,a,ha,hva⟩:=hspec f hf
    exact ih f.type a _ ha hva)
   rw [hbs];exact ⟨_,rfl⟩
  ·cases h
theorem Y8 {w:World} {I:Nat→Prop} {T:Tbl} {v:Value} {a:AV} {k:KSh} (h:Rep w I T v a) (hk:kc k a=true):vk k v:=by
 cases k<;>cases a<;>simp [kc] at hk
 ·subst hk
  cases h with
  | int hw=>exact ⟨rfl,VI hw⟩
 ·cases h;trivial
 ·cases h with
  | str h1 h2=>simpa [vk,vW,ByteArray.size] using h2
theorem ZL {w:World} {I:Nat→Prop} {T:Tbl}:∀ (ks:List KSh) (cs:List AV) (vs:List Value),kcs ks cs=true→vs.length=cs.length→(∀ (j:Nat) (c:AV) (v:Value),cs[j]?=some c→vs[j]?=some v→Rep w I T v c)→VM ks vs:=by
 intro ks
 induction ks with
 | nil=>intro cs vs h hl _;cases cs<;>simp [kcs] at h;simp at hl;subst hl;exact .nil
 | cons k r ih =>
  intro cs vs h hl hr
  cases cs with
  | nil=>simp [kcs] at h
  | cons c s =>
   cases vs with
   | nil=>simp at hl
   | cons v u =>
    simp only [kcs,Bool.and_eq_true] at h
    exact .cons (Y8 (hr 0 c v rfl rfl) h.1) (ih s u h.2 (by simpa using hl) fun j c' v' hc hv=>hr (j+1) c' v' (by simpa using hc) (by simpa using hv))
def RR (P:Program) (k:TypeId):Bool:=match P.underlying k with | some (.array _ _) | some (.struct _)=>true | _=>false
theorem LR {P:Program} {k:TypeId} {ks:List KSh} (hl:laidOutB P=true) (hw:RR P k=true) (hk:(decide (k<P.types.size)&&(P.keyTypeAt 100 k&&(P.keyType k&&Nat.beq (P.cellsOf k) ks.length)))=true) (hs:HS P (P.types.size+1) k=some ks):qM P k true ks:=by
 simp only [Bool.and_eq_true,decide_eq_true_eq] at hk
 obtain ⟨k1,k2,k3,k4⟩:=hk
 have k4:=wR.1 k4
 refine ⟨Maps.Keyed.of_law (deep_law_laid hl (m:=100) (by omega) k1 k2 hw),fun w I T v a hr hm=>?_⟩
 by_cases ha:∃ cs,a=.agg cs
 ·obtain ⟨cs,rfl⟩:=ha
  simp only [tU,Bool.and_eq_true] at hm
  obtain ⟨l1,_⟩:=QC hm.2
  cases hr with
  | agg s1 o1 r1 =>
   rename_i vs
   have hvm:VM ks vs.toList:=ZL ks cs vs.toList hm.2 (by simpa using s1) fun j c v hc hv=>by
    have:=r1 j c hc
    rw [Array.getElem?_toList] at hv
    rwa [Array.getD_eq_getD_getElem?,hv] at this
   obtain ⟨ls,hls⟩:=zCT _ _ _ _ hs hvm
   have hf:(Value.agg vs).formed P k=true:=by
    unfold RR at hw
    unfold Value.formed
    split at hw
    ·rename_i hu;rw [hu];simp;omega
    ·rename_i hu;rw [hu];simp;omega
    ·cases hw
   refine ⟨.string (keyBytes ls),?_⟩
   unfold keyOf
   unfold RR at hw
   split at hw
   ·rename_i hu;rw [hu];simp only [k3,hf,Bool.and_self,if_true];simp only [Value.cells];rw [hls];rfl
   ·rename_i hu;rw [hu];simp only [k3,hf,Bool.and_self,if_true];simp only [Value.cells];rw [hls];rfl
   ·cases hw
 ·have:(!true&&kcs ks [a])=true:=by
   cases a<;>first | exact hm | exact absurd ⟨_,rfl⟩ ha
  simp at this
end Go.Ab

/- Typed tables for maps: what a k8-up gives behind a store; lists that are read in part. -/
namespace Go.Ab
open Go
theorem XG {α β:Type} [DecidableEq α]:∀ (l:List (α×β)) (k k':α) (v:β),uN (wS l k v) k'=if k=k' then some v else uN l k':=by
 intro l
 induction l with
 | nil=>intro k k' v;rfl
 | cons p l ih =>
  intro k k' v
  unfold wS
  by_cases hp:p.1=k
  ·rw [if_pos hp]
   simp only [uN]
   by_cases hk:k=k'
   ·rw [if_pos hk,if_pos hk]
   ·rw [if_neg hk,if_neg hk,if_neg (by rw [hp];exact hk)]
  ·rw [if_neg hp]
   simp only [uN]
   rw [ih]
   by_cases hk:k=k'
   ·rw [if_pos hk,if_pos hk,if_neg (by rw [← hk];exact hp)]
   ·rw [if_neg hk,if_neg hk]
theorem UO {α β:Type} [DecidableEq α]:∀ (l:List (α×β)) (k:α) (v:β),(wS l k v).length≤l.length+1:=by
 intro l
 induction l with
 | nil=>intro k v;simp [wS]
 | cons p l ih =>
  intro k v
  unfold wS
  split
  ·simp
  ·have:=ih k v;simp only [List.length_cons];omega
def o8 {α:Type} [DecidableEq α] (t:List (α×Bool)) (l:List α):Prop:=t.length≤l.length∧∀ x,(uN t x).getD false=decide (x∈l)
theorem NL {α:Type} [DecidableEq α]:o8 ([]:List (α×Bool)) []:=⟨Nat.le_refl _,fun x=>by simp [uN]⟩
theorem QE {α:Type} [DecidableEq α] {t:List (α×Bool)} {l:List α} (h:o8 t l) (x:α):o8 (wS t x true) (l++[x]):=by
 refine ⟨by have:=UO t x true;have:=h.1;simp only [List.length_append,List.length_singleton];omega,fun y=>?_⟩
 rw [XG]
 by_cases hy:x=y
 ·rw [if_pos hy];simp [hy]
 ·rw [if_neg hy,h.2];simp [Ne.symm hy]
theorem MZ {α:Type} (l:List α) (i:Nat):sub l 0 (i:Int)=l.take i:=by simp [sub]
theorem bC {α:Type} {l:List α} {i:Nat} {x:α} {r:List α} (h:l.drop i=x::r):l.take (i+1)=l.take i++[x]:=by
 rw [List.take_add_one]
 have:=congrArg (·[0]?) h
 simp at this
 rw [this];rfl
theorem RV {α:Type} {l:List α} {i:Nat} {x:α} {r:List α} (h:l.drop i=x::r):(l.take i).length=i:=by
 have:=tQ h
 rw [List.length_take];omega
theorem GI {α:Type} {l:List α} {i:Nat} {x:α} {r:List α} (h:l.drop i=x::r):l[i]?=some x:=by
 have:=congrArg (·[0]?) h
 simpa using this
theorem GL {α:Type} {c:Bool} {x y z:α} (hc:c=true) (h:x=z):(bif c then x else y)=z:=by rw [hc];exact h
theorem L1 {α:Type} {c:Bool} {x y z:α} (hc:c=false) (h:y=z):(bif c then x else y)=z:=by rw [hc];exact h
theorem G7 {p q:Prop} [Decidable p] [Decidable q] (h:p∨q):(decide p||decide q)=true:=by simpa using h
theorem LF {p q:Prop} [Decidable p] [Decidable q] (h:¬(p∨q)):(decide p||decide q)=false:=by simpa using h
theorem gH {α:Type} [BEq α] [LawfulBEq α] {a b:α} (h:a=b):(a==b)=true:=by rw [h];exact BEq.rfl
theorem B7 {α:Type} [BEq α] [LawfulBEq α] {a b:α} (h:a≠b):(a==b)=false:=by simpa using h
end Go.Ab

/- A nil slice is seen as an empty row of the call's own. -/
namespace Go.Ab
open Go
def MI (cs:List AV) (j:Nat):Bool:=match cs[j]? with | some .nilsl=>true | _=>false
theorem VU {cs:List AV} {j:Nat} (h:MI cs j=true):cs[j]?=some .nilsl:=by
 unfold MI at h
 split at h
 ·assumption
 ·cases h
theorem W0 {w:World} {I I':Nat→Prop} {T:Tbl} {id:Nat} {C:Array Value} {cs:List AV} {j:Nat} (hI:∀ b,I b→I' b) (hn:T id=none) (h:∀ (k:Nat) (c:AV),cs[k]?=some c→Rep w I T (C.getD k undef) c) (hj:cs[j]?=some .nilsl) :
  ∀ (k:Nat) (c:AV),(cs.set j (.own id 0))[k]?=some c→Rep w I' (T.put id .nil) (C.getD k undef) c:=by
 intro k c hk
 by_cases e:j=k
 ·subst e
  have hlt:=(List.getElem?_eq_some_iff.1 hj).1
  rw [List.getElem?_set_self hlt] at hk
  injection hk with hk;subst hk
  have hr:=h j _ hj
  generalize C.getD j undef=v at hr
  cases hr with
  | nilsl=>exact .ownNil (Tbl.put_same _ _ _)
 ·rw [List.getElem?_set_ne e] at hk
  exact (h k c hk).mono (Nat.le_refl _) (fun _ _ _=>rfl) (fun b hb _=>hI b hb) (Tbl.le_put hn)
theorem UW {cs:List AV} {j id:Nat} (h:∀ c∈cs,c.one=true):∀ c∈cs.set j (.own id 0),c.one=true:=by
 intro c hc
 rcases List.mem_or_eq_of_mem_set hc with hc | rfl
 ·exact h c hc
 ·rfl
def R5 (st:AS) (i j id e sz:Nat):AS :=
 ⟨st.slot,fun k=>bif Nat.beq k id then .live (.row e sz []) else bif Nat.beq k i then (match st.box i with | .live (.var t cs)=>.live (.var t (cs.set j (.own id 0))) | b=>b) else st.box k⟩
def YK (st:AS) (i j id:Nat):Bool:=pY (st.box id)&&(match st.box i with | .live (.var _ cs)=>MI cs j | _=>false)
def LP (st:AS) (t:Nat) (j:Option Nat) (id e sz:Nat):AS :=
 ⟨fun k=>bif Nat.beq k t then (match j,st.slot t with | none,_=>.own id 0 | some j,.agg cs=>.agg (cs.set j (.own id 0)) | _,v=>v) else st.slot k,fun k=>bif Nat.beq k id then .live (.row e sz []) else st.box k⟩
def SX (st:AS) (t:Nat) (j:Option Nat) (id:Nat):Bool :=
 pY (st.box id)&&(match j,st.slot t with | none,.nilsl=>true | some j,.agg cs=>MI cs j | _,_=>false)
theorem XO {G:u9} {st st2:AS} {T:Tbl} {a:Act} {w:World} {id e sz:Nat} (hT:t8 G st T a w) (hu:st.box id=.unused)
  (hslot:∀ t,(∀ I',(∀ b,imm G st T b→I' b)→Rep w I' (T.put id .nil) (a.tmps.getD t undef) (st2.slot t)))
  (hbox:∀ k bx,st2.box k=.live bx→(k=id∧bx=.row e sz [])∨(k≠id∧∃ bx0,st.box k=.live bx0∧∀ I',(∀ b,imm G st T b→I' b)→jP w I' (T.put id .nil) (T k) bx))
  (hun:∀ k,st2.box k=.unused→k≠id∧st.box k=.unused):Rel G st2 a w:=by
 have hn:=hT.unused id hu
 have himm:∀ b,imm G st T b→imm G st2 (T.put id .nil) b:=by
  intro b hb
  refine ⟨hb.1,fun k bx cap hl hTk=>?_⟩
  rcases hbox k bx hl with ⟨rfl,_⟩ | ⟨hne,bx0,h0,_⟩
  ·rw [Tbl.put_same] at hTk;cases hTk
  ·rw [Tbl.put_ne _ _ hne] at hTk;exact hb.2 k bx0 cap h0 hTk
 refine ⟨T.put id .nil,hT.defers,hT.size,fun t=>hslot t _ himm,?_,?_,?_,?_,fun i p hp=>Tbl.le_put hn _ _ (hT.foot i p hp),hT.kept⟩
 ·intro k bx hl
  rcases hbox k bx hl with ⟨rfl,rfl⟩ | ⟨hne,bx0,h0,h1⟩
  ·rw [Tbl.put_same];exact .inl ⟨rfl,rfl⟩
  ·rw [Tbl.put_ne _ _ hne];exact h1 _ himm
 ·intro k hk
  obtain ⟨hne,h0⟩:=hun k hk
  rw [Tbl.put_ne _ _ hne];exact hT.unused k h0
 ·intro i1 i2 b1 b2 b c1 c2 h1 h2 t1 t2
  rcases hbox i1 b1 h1 with ⟨rfl,_⟩ | ⟨n1,x1,l1,_⟩
  ·rw [Tbl.put_same] at t1;cases t1
  rcases hbox i2 b2 h2 with ⟨rfl,_⟩ | ⟨n2,x2,l2,_⟩
  ·rw [Tbl.put_same] at t2;cases t2
  rw [Tbl.put_ne _ _ n1] at t1;rw [Tbl.put_ne _ _ n2] at t2
  exact hT.apart i1 i2 x1 x2 b c1 c2 l1 l2 t1 t2
 ·intro k bx b cap hl hTk hge
  rcases hbox k bx hl with ⟨rfl,_⟩ | ⟨hne,bx0,h0,_⟩
  ·rw [Tbl.put_same] at hTk;cases hTk
  ·rw [Tbl.put_ne _ _ hne] at hTk;exact hT.mine k bx0 b cap h0 hTk hge
theorem qV {np:Nat} {st:AS} (i j id e sz:Nat) (h:YK st i j id=true):Sub np st (R5 st i j id e sz):=by
 rintro G a w hnp ⟨T,hT⟩
 unfold YK at h
 simp only [Bool.and_eq_true] at h
 obtain ⟨h1,h2⟩:=h
 have hu:=nY h1
 split at h2
 case h_2=>cases h2
 rename_i t cs hb
 have hj:=VU h2
 have hn:=hT.unused id hu
 have hne:i≠id:=fun e=>by rw [e,hu] at hb;cases hb
 have hbx:∀ k,(R5 st i j id e sz).box k=if k=id then .live (.row e sz []) else if k=i then .live (.var t (cs.set j (.own id 0))) else st.box k:=by
  intro k
  simp only [R5,hb]
  by_cases e1:k=id
  ·subst e1;simp
  ·rw [jV e1,if_neg e1]
   by_cases e2:k=i
   ·subst e2;simp
   ·rw [jV e2,if_neg e2];rfl
 refine XO hT hu (id:=id) (e:=e) (sz:=sz) ?_ ?_ ?_
 ·intro t' I' hI
  exact (hT.slots t').mono (Nat.le_refl _) (fun _ _ _=>rfl) (fun b hb _=>hI b hb) (Tbl.le_put hn)
 ·intro k bx hl
  rw [hbx] at hl
  by_cases e1:k=id
  ·rw [if_pos e1] at hl;injection hl with hl;exact .inl ⟨e1,hl.symm⟩
  rw [if_neg e1] at hl
  by_cases e2:k=i
  ·rw [if_pos e2] at hl;injection hl with hl;subst hl;subst e2
   refine .inr ⟨e1,_,hb,fun I' hI=>?_⟩
   obtain ⟨b,C,p1,p2,p3,p4,p5⟩:=hT.boxes k _ hb
   exact ⟨b,C,p1,p2,by rw [p3];simp,UW p4,W0 hI hn p5 hj⟩
  ·rw [if_neg e2] at hl
   exact .inr ⟨e1,bx,hl,fun I' hI=>(hT.boxes k bx hl).mono (Nat.le_refl _) (fun _ _ _=>rfl) (fun b hb _=>hI b hb) (Tbl.le_put hn) (fun _ _ _ _=>rfl)⟩
 ·intro k hk
  rw [hbx] at hk
  by_cases e1:k=id
  ·rw [if_pos e1] at hk;cases hk
  rw [if_neg e1] at hk
  by_cases e2:k=i
  ·rw [if_pos e2] at hk;cases hk
  ·rw [if_neg e2] at hk;exact ⟨e1,hk⟩
theorem zGr {np:Nat} {st:AS} (t:Nat) (j:Option Nat) (id e sz:Nat) (h:SX st t j id=true):Sub np st (LP st t j id e sz):=by
 rintro G a w hnp ⟨T,hT⟩
 unfold SX at h
 simp only [Bool.and_eq_true] at h
 obtain ⟨h1,h2⟩:=h
 have hu:=nY h1
 have hn:=hT.unused id hu
 have hbx:∀ k,(LP st t j id e sz).box k=if k=id then .live (.row e sz []) else st.box k:=by
  intro k
  simp only [LP]
  by_cases e1:k=id
  ·subst e1;simp
  ·rw [jV e1,if_neg e1];rfl
 refine XO hT hu (id:=id) (e:=e) (sz:=sz) ?_ ?_ ?_
 ·intro k I' hI
  simp only [LP]
  by_cases e1:k=t
  ·subst e1
   rw [EF]
   simp only [cond_true]
   split at h2
   ·rename_i hs
    rw [hs]
    have hr:=hT.slots k
    rw [hs] at hr
    simp only
    generalize a.tmps.getD k undef=v at hr ⊢
    cases hr with
    | nilsl=>exact .ownNil (Tbl.put_same _ _ _)
   ·rename_i j' cs hs
    rw [hs]
    have hr:=hT.slots k
    rw [hs] at hr
    simp only
    generalize a.tmps.getD k undef=v at hr ⊢
    cases hr with
    | agg k1 k2 k3=>exact .agg (by rw [k1];simp) (UW k2) (W0 hI hn k3 (VU h2))
   ·cases h2
  ·rw [jV e1]
   exact (hT.slots k).mono (Nat.le_refl _) (fun _ _ _=>rfl) (fun b hb _=>hI b hb) (Tbl.le_put hn)
 ·intro k bx hl
  rw [hbx] at hl
  by_cases e1:k=id
  ·rw [if_pos e1] at hl;injection hl with hl;exact .inl ⟨e1,hl.symm⟩
  rw [if_neg e1] at hl
  exact .inr ⟨e1,bx,hl,fun I' hI=>(hT.boxes k bx hl).mono (Nat.le_refl _) (fun _ _ _=>rfl) (fun b hb _=>hI b hb) (Tbl.le_put hn) (fun _ _ _ _=>rfl)⟩
 ·intro k hk
  rw [hbx] at hk
  by_cases e1:k=id
  ·rw [if_pos e1] at hk;cases hk
  rw [if_neg e1] at hk;exact ⟨e1,hk⟩
theorem Sub.trans {np:Nat} {a b c:AS} (h1:Sub np a b) (h2:Sub np b c):Sub np a c:=fun G x w hn hR=>h2 G x w hn (h1 G x w hn hR)
end Go.Ab

/- A range over a map of the call's own: the rounds come in an order that nobody knows. -/
namespace Go.Ab
open Go
open Go.ChangeMaps (setBlock)
def AS.put (st:AS) (d:Nat) (av:AV):AS:=⟨fun k=>bif Nat.beq k d then av else st.slot k,st.box⟩
theorem t8.put {G:u9} {st:AS} {T:Tbl} {a:Act} {w:World} (h:t8 G st T a w) {d:Nat} {v:Value} {av:AV} (hd:d<G.n) (hr:Rep w (imm G st T) T v av) :
  t8 G (st.put d av) T (a.put (some d) v) w:=by
 refine ⟨h.defers,by simp [Act.put,h.size],fun t=>?_,h.boxes,h.unused,h.apart,h.mine,h.foot,h.kept⟩
 rw [OP t (by rw [h.size];exact hd)]
 simp only [AS.put]
 by_cases e:t=d
 ·subst e;rw [if_pos rfl,EF];exact hr
 ·rw [if_neg e,jV e];exact h.slots t
structure RS where
 tm:Nat
 t0:Nat
 ti:Nat
 tR:Nat
 tn:Nat
 tok:Nat
 te:Nat
 tx:Nat
 ty:Nat
 tk:Nat
 tv:Nat
 blk:Nat
 b3:Nat
end Go.Ab

/- A state seen otherwise, most of it as it was. -/
namespace Go.Ab
open Go
def m8:List Nat→Nat→Nat
 | [],_=>0
 | x::r,i=>bif Nat.beq x i then 0 else m8 r i+1
def inN (l:List Nat) (i:Nat):Bool:=l.any (Nat.beq i)
theorem LT {l:List Nat} {i:Nat} (h:inN l i=true):l.getD (m8 l i) 0=i:=by
 induction l with
 | nil=>simp [inN] at h
 | cons x r ih =>
  simp only [m8]
  cases hx:Nat.beq x i
  ·simp only [cond_false]
   have:inN r i=true:=by
    simp only [inN,List.any_cons,Bool.or_eq_true] at h ⊢
    rcases h with h | h
    ·rw [wR.1 h] at hx;simp at hx
    ·exact h
   have:=ih this
   simpa [List.getD] using this
  ·have:=wR.1 hx
   simp [List.getD,this]
mutual
def rn (ρ:List Nat):AV→AV
 | .agg cs=>.agg (rns ρ cs)
 | .tuple cs=>.tuple (rns ρ cs)
 | .ptr id sz i off=>.ptr (m8 ρ id) sz i off
 | .own id n=>.own (m8 ρ id) n
 | .part id sz lo hi=>.part (m8 ρ id) sz lo hi
 | .fn f cs=>.fn f (rns ρ cs)
 | .mp id=>.mp (m8 ρ id)
 | .junk=>.junk
 | .int k n=>.int k n
 | .bool b=>.bool b
 | .str l=>.str l
 | .sl f s l=>.sl f s l
 | .ref a=>.ref a
 | .nilp=>.nilp
 | .nilsl=>.nilsl
 | .nb l=>.nb l
 | .raw b=>.raw b
 | .fm n l=>.fm n l
def rns (ρ:List Nat):List AV→List AV
 | []=>[]
 | a::r=>rn ρ a::rns ρ r
end
mutual
def ins (ρ:List Nat):AV→Bool
 | .agg cs=>lY ρ cs
 | .tuple cs=>lY ρ cs
 | .ptr id ..=>inN ρ id
 | .own id _=>inN ρ id
 | .part id ..=>inN ρ id
 | .fn _ cs=>lY ρ cs
 | .mp id=>inN ρ id
 | .junk=>true
 | .int ..=>true
 | .bool _=>true
 | .str _=>true
 | .sl ..=>true
 | .ref _=>true
 | .nilp=>true
 | .nilsl=>true
 | .nb _=>true
 | .raw _=>true
 | .fm ..=>true
def lY (ρ:List Nat):List AV→Bool
 | []=>true
 | a::r=>ins ρ a&&lY ρ r
end
mutual
theorem VY {ρ:List Nat}:∀ {a:AV},ins ρ a=true→un ρ (rn ρ a)=a
 | .agg cs,h=>by simp only [rn,un];rw [HC (cs:=cs) (by simpa [ins] using h)]
 | .tuple cs,h=>by simp only [rn,un];rw [HC (cs:=cs) (by simpa [ins] using h)]
 | .ptr id ..,h=>by simp only [rn,un];rw [LT (by simpa [ins] using h)]
 | .own id _,h=>by simp only [rn,un];rw [LT (by simpa [ins] using h)]
 | .part id ..,h=>by simp only [rn,un];rw [LT (by simpa [ins] using h)]
 | .fn _ cs,h=>by simp only [rn,un];rw [HC (cs:=cs) (by simpa [ins] using h)]
 | .mp id,h=>by simp only [rn,un];rw [LT (by simpa [ins] using h)]
 | .junk,_=>rfl
 | .int ..,_=>rfl
 | .bool _,_=>rfl
 | .str _,_=>rfl
 | .sl ..,_=>rfl
 | .ref _,_=>rfl
 | .nilp,_=>rfl
 | .nilsl,_=>rfl
 | .nb _,_=>rfl
 | .raw _,_=>rfl
 | .fm ..,_=>rfl
theorem HC {ρ:List Nat}:∀ {cs:List AV},lY ρ cs=true→uns ρ (rns ρ cs)=cs
 | [],_=>rfl
 | a::r,h=>by
  simp only [lY,Bool.and_eq_true] at h
  simp only [rns,uns]
  rw [VY h.1,HC h.2]
end
theorem U0 (x:AV):∀ p∈lo1 x x,p:=by
 intro p hp
 cases x with
 | sl f s l =>
  have hp:p=(s=s)∨p=(l=l)∨p=((!f||f)=true):=by simpa only [lo1,List.mem_cons,List.not_mem_nil,or_false] using (show p∈[s=s,l=l,(!f||f)=true] from hp)
  rcases hp with h | h | h
  ·rw [h]
  ·rw [h]
  ·rw [h];cases f<;>rfl
 | junk=>cases hp
 | _=>simp [lo1] at hp;exact hp
theorem UH:∀ (xs:List AV),∀ p∈los xs xs,p:=by
 intro xs
 induction xs with
 | nil=>intro p hp;cases hp
 | cons x r ih =>
  intro p hp
  simp only [los,List.mem_append] at hp
  rcases hp with hp | hp
  ·exact U0 x p hp
  ·exact ih p hp
theorem TU (x:AV):∀ p∈loA x x,p:=by
 intro p hp
 cases x with
 | agg cs=>exact UH cs p hp
 | _=>simp only [loA] at hp;exact U0 _ p hp
theorem ZI:∀ (xs:List AV),∀ p∈bX xs xs,p:=by
 intro xs
 induction xs with
 | nil=>intro p hp;cases hp
 | cons x r ih =>
  intro p hp
  simp only [bX,List.mem_append] at hp
  rcases hp with hp | hp
  ·exact TU x p hp
  ·exact ih p hp
theorem zA5 (x:AV):∀ p∈loT x x,p:=by
 intro p hp
 cases x with
 | tuple cs=>exact ZI cs p hp
 | _=>simp only [loT] at hp;exact TU _ p hp
def rM (ids:List Nat):AV→Bool
 | .own id _=>!(ids.any (Nat.beq id))
 | .part id ..=>!(ids.any (Nat.beq id))
 | _=>true
def H5 (ids:List Nat):AV→Bool
 | .agg cs=>cs.all (rM ids)
 | v=>rM ids v
def LV (ids:List Nat):AV→Bool
 | .tuple vs=>vs.all (H5 ids)
 | v=>H5 ids v
theorem EO {B:Nat→y0} {ids:List Nat} {x:AV} (h:rM ids x=true):aN B ids x=x∧bL B ids x=[]:=by
 cases x with
 | own id n=>simp only [rM,Bool.not_eq_true'] at h;simp [aN,bL,h]
 | part id sz lo hi=>simp only [rM,Bool.not_eq_true'] at h;simp [aN,bL,h]
 | _=>exact ⟨rfl,rfl⟩
theorem N1 {α:Type} {f:α→α} {l:List α} (h:∀ x∈l,f x=x):l.map f=l:=by
 induction l with
 | nil=>rfl
 | cons a r ih=>rw [List.map_cons,h a (by simp),ih fun x hx=>h x (by simp [hx])]
theorem M6 {α β:Type} {f:α→List β} {l:List α} (h:∀ x∈l,f x=[]):l.flatMap f=[]:=by
 induction l with
 | nil=>rfl
 | cons a r ih=>rw [List.flatMap_cons,h a (by simp),ih fun x hx=>h x (by simp [hx])];rfl
theorem SL {B:Nat→y0} {ids:List Nat} {x:AV} (h:H5 ids x=true):a8 B ids x=x∧oP B ids x=[]:=by
 cases x with
 | agg cs =>
  simp only [H5,List.all_eq_true] at h
  exact ⟨by simp only [a8];rw [N1 fun c hc=>(EO (h c hc)).1],M6 fun c hc=>(EO (h c hc)).2⟩
 | _=>simp only [H5] at h;exact EO (B:=B) h
theorem zEY {B:Nat→y0} {ids:List Nat} {x:AV} (h:LV ids x=true):frz B ids x=x∧cG B ids x=[]:=by
 cases x with
 | tuple vs =>
  simp only [LV,List.all_eq_true] at h
  exact ⟨by simp only [frz];rw [N1 fun c hc=>(SL (h c hc)).1],M6 fun c hc=>(SL (h c hc)).2⟩
 | _=>simp only [LV] at h;exact SL (B:=B) h
inductive Sp where
 | s (t:Nat)
 | a (t:Nat) (v:AV)
inductive Bp where
 | s (i:Nat)
 | a (i:Nat) (b:y0)
def QT (st:AS) (ρ:List Nat):Sp→Nat×AV
 | .s t=>(t,rn ρ (st.slot t))
 | .a t v=>(t,v)
def YP (st:AS) (ρ ids:List Nat):Sp→Bool
 | .s t=>ins ρ (st.slot t)&&LV ids (st.slot t)
 | .a _ _=>true
def zAT (st:AS) (ρ ids:List Nat):Sp→List Prop
 | .s _=>[]
 | .a t v=>cG st.box ids (st.slot t)++loT (frz st.box ids (st.slot t)) (un ρ v)
def rnB (ρ:List Nat):y0→y0
 | .live (.var t cs)=>.live (.var t (rns ρ cs))
 | b=>b
def okB (ρ ids:List Nat):y0→Bool
 | .live (.var _ cs)=>kK cs&&(lY ρ cs&&cs.all (rM ids))
 | .live _=>true
 | _=>false
def R1 (st:AS) (ρ:List Nat):Bp→Nat×y0
 | .s i=>(i,rnB ρ (st.box (ρ.getD i 0)))
 | .a i b=>(i,b)
def XJ (st:AS) (ρ ids:List Nat):Bp→Bool
 | .s i=>okB ρ ids (st.box (ρ.getD i 0))
 | .a _ _=>true
def zCg (st:AS) (ρ ids:List Nat):Bp→List Prop
 | .s _=>[]
 | .a i b=>qX st.box ids ρ (st.box (ρ.getD i 0)) b
def TZ (np:Nat) (st:AS) (ρ ids:List Nat) (sl2:List (Nat×AV)) (bx2:List (Nat×y0)):Bool :=
 ((j9 ρ&&iP (ρ.take np) (List.range np))&&(ids.all fun i=>lG (st.box i)&&Nat.ble np i)) &&
   ((sl2.all fun x=>(uV ρ.length x.2&&fW x.2)&&mM (frz st.box ids (st.slot x.1))) &&
    (bx2.all fun x=>(Nat.blt x.1 ρ.length&&RF ρ.length x.2)&&(match x.2 with | .live (.row ..)=>!(ids.any (Nat.beq (ρ.getD x.1 0))) | .unused=>false | _=>true)))
def wkm (np:Nat) (st:AS) (ρ ids:List Nat) (sps:List Sp) (bps:List Bp):Option (List Prop×List (Nat×AV)×List (Nat×y0)) :=
 bif TZ np st ρ ids (sps.map (QT st ρ)) (bps.map (R1 st ρ))&&(sps.all (YP st ρ ids)&&bps.all (XJ st ρ ids)) then
  some (sps.flatMap (zAT st ρ ids)++bps.flatMap (zCg st ρ ids),sps.map (QT st ρ),bps.map (R1 st ρ))
 else none
theorem TN {ρ:List Nat}:∀ {cs:List AV},kK cs=true→kK (rns ρ cs)=true
 | [],_=>rfl
 | a::r,h=>by
  simp only [kK,Bool.and_eq_true] at h
  simp only [rns,kK,Bool.and_eq_true]
  refine ⟨?_,TN h.2⟩
  have h1:=h.1
  cases a<;>first | exact h1 | rfl
theorem zCC (np:Nat) (st:AS) (ρ ids:List Nat) (sl2:List (Nat×AV)) (bx2:List (Nat×y0)) :
  CU np st ρ ids sl2 bx2=bif TZ np st ρ ids sl2 bx2 then some (sl2.flatMap (fun x=>cG st.box ids (st.slot x.1)++loT (frz st.box ids (st.slot x.1)) (un ρ x.2)) ++
   bx2.flatMap (fun x=>qX st.box ids ρ (st.box (ρ.getD x.1 0)) x.2)) else none:=rfl
theorem ZC {np:Nat} {st:AS} {ρ ids:List Nat} {sps:List Sp} {bps:List Bp} {vcs:List Prop} {sl2:List (Nat×AV)} {bx2:List (Nat×y0)} (h:wkm np st ρ ids sps bps=some (vcs,sl2,bx2)) (hv:qQ vcs) :
  ∃ vcs',CU np st ρ ids sl2 bx2=some vcs'∧qQ vcs':=by
 unfold wkm at h
 replace h:=xW h;obtain ⟨hc,h⟩:=h
 simp only [Bool.and_eq_true,List.all_eq_true] at hc
 obtain ⟨hok,hsp,hbp⟩:=hc
 simp only [Option.some.injEq,Prod.mk.injEq] at h
 obtain ⟨rfl,rfl,rfl⟩:=h
 have hv:=LH hv
 have toAll:∀ {l:List Prop},(∀ p∈l,p)→qQ l:=by
  intro l
  induction l with
  | nil=>intro _;trivial
  | cons a r ih=>intro h;exact ⟨h a (by simp),ih fun p hp=>h p (by simp [hp])⟩
 refine ⟨_,(zCC ..).trans (by rw [hok];rfl),toAll ?_⟩
 intro p hp
 rcases List.mem_append.1 hp with hp | hp
 ·obtain ⟨x,hx,hp⟩:=List.mem_flatMap.1 hp
  obtain ⟨sp,hs,rfl⟩:=List.mem_map.1 hx
  cases sp with
  | s t =>
   have h1:=hsp _ hs
   simp only [YP,Bool.and_eq_true] at h1
   have h2:=zEY (B:=st.box) h1.2
   simp only [QT,h2.1,h2.2,List.nil_append,VY h1.1] at hp
   exact zA5 _ p hp
  | a t v=>exact hv p (List.mem_append_left _ (List.mem_flatMap.2 ⟨_,hs,hp⟩))
 ·obtain ⟨x,hx,hp⟩:=List.mem_flatMap.1 hp
  obtain ⟨bp,hb,rfl⟩:=List.mem_map.1 hx
  cases bp with
  | s i =>
   have h1:=hbp _ hb
   simp only [XJ] at h1
   simp only [R1] at hp
   generalize st.box (ρ.getD i 0)=b at h1 hp
   cases b with
   | unused=>cases h1
   | dead=>cases h1
   | live b =>
    cases b with
    | row e s l=>simp [rnB,qX] at hp;exact hp
    | map a k l=>simp [rnB,qX] at hp;exact hp
    | var t cs =>
     simp only [okB,Bool.and_eq_true,List.all_eq_true] at h1
     obtain ⟨h2,h3,h4⟩:=h1
     simp only [rnB,qX,List.mem_append,List.mem_cons,List.not_mem_nil,or_false] at hp
     rcases hp with (h | h) | hp | hp
     ·rw [h];trivial
     ·rw [h];exact TN h2
     ·rw [M6 fun c hc=>(EO (h4 c hc)).2] at hp;cases hp
     ·rw [N1 fun c hc=>(EO (h4 c hc)).1,HC h3] at hp
      exact UH _ p hp
  | a i b=>exact hv p (List.mem_append_right _ (List.mem_flatMap.2 ⟨_,hb,hp⟩))
theorem f0 {np:Nat} {st:AS} (ρ ids:List Nat) (sps:List Sp) (bps:List Bp) {vcs:List Prop} {sl2:List (Nat×AV)} {bx2:List (Nat×y0)} (h:wkm np st ρ ids sps bps=some (vcs,sl2,bx2)) (hv:qQ vcs) :
  Sub np st (mk sl2 bx2 ρ.length):=by
 obtain ⟨vcs',h1,h2⟩:=ZC h hv
 exact zE5 ρ ids sl2 bx2 h1 h2
theorem an:qQ []:=trivial
theorem ac {p:Prop} {r:List Prop} (h:p) (t:qQ r):qQ (p::r):=⟨h,t⟩
end Go.Ab
