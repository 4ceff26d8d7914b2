/- A layer over the model: abstract values and states, and the rules by which the printed proofs go. No conditions. -/
import Derived.Test.YtoeengmnmhhpgaaA23
import Derived.DeepKeys4
import Derived.Maps.RangeRun
import Derived.Shelf.SlMaps.Clone
/- Loops over lists, as the printed functions have them. -/
namespace Go.Ab
open Go
theorem zAY {α σ R:Type} {l:List α} (L:Nat→Int→σ→Option R) (G:Nat→List α→σ→R) (Inv:Nat→σ→Prop)
  (he:∀ n i s,l.length≤i→Inv i s→L (n+1) (i:Nat) s=some (G i [] s))
  (hs:∀ n i s x r,l.drop i=x::r→i<l.length→Inv i s→(∀ s',Inv (i+1) s'→L n ((i+1:Nat):Int) s'=some (G (i+1) r s'))→L (n+1) (i:Nat) s=some (G i (x::r) s)) :
  ∀ n i s,Inv i s→(l.drop i).length<n→L n (i:Nat) s=some (G i (l.drop i) s):=by
 intro n
 induction n with
 | zero=>intro i s _ h;omega
 | succ n ih =>
  intro i s hI hn
  rcases hd:l.drop i with _ | ⟨x,r⟩
  ·exact he n i s (jO hd) hI
  ·refine hs n i s x r hd (q9 hd) hI fun s' hI'=>?_
   have:=ih (i+1) s' hI' (by rw [vN hd];rw [hd] at hn;simp only [zlc] at hn;omega)
   rwa [vN hd] at this
theorem KC {α σ R:Type} {l:List α} (L:Nat→Int→σ→Option R) (G:Nat→List α→σ→R) (Inv:Nat→σ→Prop)
  (he:∀ n i s,l.length≤i→Inv i s→L (n+1) (i:Nat) s=some (G i [] s))
  (hs:∀ n i s x r,l.drop i=x::r→i<l.length→Inv i s→(∀ s',Inv (i+1) s'→L n ((i+1:Nat):Int) s'=some (G (i+1) r s'))→L (n+1) (i:Nat) s=some (G i (x::r) s))
  {n:Nat} {s:σ} (hI:Inv 0 s) (hn:l.length<n):L n 0 s=some (G 0 l s):=by
 have:=zAY L G Inv he hs n 0 s hI (by simpa using hn)
 simpa using this
theorem vK {i:Nat} (h:i<9223372036854775807):zI ((i:Int)+1)=((i+1:Nat):Int):=by
 rw [w64 (by omega) (by omega)];omega
theorem dC {α:Type} {l:List α} {i:Nat} {x:α} {r:List α} (h:l.drop i=x::r):x∈l:=List.mem_of_mem_drop (h ▸ List.mem_cons_self)
theorem SV {α:Type} {l:List α} {i:Nat} (h0:0<i) (h:i<9223372036854775807):xI l (zI ((i:Int) - 1))=l[i - 1]?:=by
 rw [w64 (by omega) (by omega),show (i:Int) - 1=((i - 1:Nat):Int) by omega,bJ]
theorem ZP {α:Type} {l:List α} (h0:l.length<9223372036854775807) (h:l≠[]):xI l (zI ((l.length:Int) - 1))=l.getLast?:=by
 have:0<l.length:=List.length_pos_iff.2 h
 rw [SV this h0,List.getLast?_eq_getElem?]
def uB {α:Type} {β:Type} (f:Nat→α→Option β):Nat→List α→Unit⊕β
 | _,[]=>.inl ()
 | i,x::r=>match f i x with
  | none=>uB f (i+1) r
  | some b=>.inr b
theorem RR {α β:Type} {f:Nat→α→Option β} {i:Nat} {l:List α} (h:uB f i l=.inl ()):∀ j x,l[j]?=some x→f (i+j) x=none:=by
 induction l generalizing i with
 | nil=>intro j x hj;simp at hj
 | cons a r ih =>
  intro j x hj
  simp only [uB] at h
  split at h
  ·rename_i hf
   cases j with
   | zero=>simp at hj;subst hj;exact hf
   | succ j =>
    have:=ih h j x (by simpa using hj)
    rwa [show i+1+j=i+(j+1) by omega] at this
  ·cases h
end Go.Ab

/- Maps of the call's own: typed tables, and what the layer asks of them. -/
namespace Go.Ab
open Go
def mpE {α β:Type} (f:α→AV) (g:β→AV) (p:α×β):AV×AV:=(f p.1,g p.2)
def vV {α β:Type} [DecidableEq α]:List (α×β)→α→Option β
 | [],_=>none
 | p::l,k=>if p.1=k then some p.2 else vV l k
def x6 {α β:Type} [DecidableEq α]:List (α×β)→α→β→List (α×β)
 | [],k,v=>[(k,v)]
 | p::l,k,v=>if p.1=k then (k,v)::l else p::x6 l k v
section
variable {α β:Type} [DecidableEq α] {f:α→AV} {g:β→AV}
theorem KZ {l:List (α×β)} {k:α} (h:vV l k=none):∀ p∈l,p.1≠k:=by
 induction l with
 | nil=>intro p hp;cases hp
 | cons q l ih =>
  unfold vV at h
  split at h
  ·cases h
  ·rename_i hq
   intro p hp
   rcases List.mem_cons.1 hp with rfl | hp
   ·exact hq
   ·exact ih h p hp
theorem T1 {l:List (α×β)} {k:α} {v:β} (h:vV l k=some v):∃ (i:Nat) (p:α×β),l[i]?=some p∧p.1=k∧p.2=v∧∀ w,x6 l k w=l.set i (k,w):=by
 induction l with
 | nil=>cases h
 | cons q l ih =>
  unfold vV at h
  split at h
  ·rename_i hq
   injection h with h
   exact ⟨0,q,rfl,hq,h,fun w=>by simp [x6,hq]⟩
  ·rename_i hq
   obtain ⟨i,p,h1,h2,h3,h4⟩:=ih h
   exact ⟨i+1,p,by simpa using h1,h2,h3,fun w=>by simp [x6,hq,h4]⟩
theorem zEm {l:List (α×β)} {k:α} (h:∀ p∈l,p.1≠k) (v:β):x6 l k v=l++[(k,v)]:=by
 induction l with
 | nil=>rfl
 | cons q l ih =>
  unfold x6
  rw [if_neg (h q (List.mem_cons_self ..)),ih fun p hp=>h p (List.mem_cons_of_mem _ hp)];rfl
theorem HU (hf:∀ a b,f a=f b→a=b) (l:List (α×β)) (k:α) (z:β):dG (l.map (mpE f g)) (f k) (g z) (g ((vV l k).getD z)) (vV l k).isSome:=by
 cases h:vV l k with
 | none =>
  refine .inr ⟨fun x hx=>?_,rfl,rfl⟩
  obtain ⟨p,hp,rfl⟩:=List.mem_map.1 hx
  exact fun e=>KZ h p hp (hf _ _ e)
 | some v =>
  obtain ⟨i,p,h1,h2,h3,_⟩:=T1 h
  exact .inl ⟨i,mpE f g p,by rw [List.getElem?_map,h1];rfl,by simp [mpE,h2],by simp [mpE,h3],rfl⟩
theorem EB (hf:∀ a b,f a=f b→a=b) (l:List (α×β)) (k:α) (v:β):iU (l.map (mpE f g)) (f k) (g v) ((x6 l k v).map (mpE f g)):=by
 cases h:vV l k with
 | none =>
  refine .inr ⟨fun x hx=>?_,?_⟩
  ·obtain ⟨p,hp,rfl⟩:=List.mem_map.1 hx
   exact fun e=>KZ h p hp (hf _ _ e)
  ·rw [zEm (KZ h)];simp [mpE]
 | some v0 =>
  obtain ⟨i,p,h1,h2,h3,h4⟩:=T1 h
  exact .inl ⟨i,mpE f g p,by rw [List.getElem?_map,h1];rfl,by simp [mpE,h2],by rw [h4,List.map_set];rfl⟩
omit [DecidableEq α] in
theorem JD {l:List (α×β)} (h:l.length<140737488355328):(l.map (mpE f g)).length<maxLen:=by
 rw [List.length_map,qC];omega
end
theorem CW {α:Type} [DecidableEq α] {f:α→AV} (hf:∀ a b,f a=f b→a=b) (a b:α):decide (a=b)=true↔f a=f b:=by
 rw [decide_eq_true_iff];exact ⟨fun h=>by rw [h],hf a b⟩
theorem GY {k:IntKind}:∀ a b:Int,AV.int k a=AV.int k b→a=b:=fun _ _ h=>(AV.int.inj h).2
theorem TK:∀ a b:List Int,AV.str a=AV.str b→a=b:=fun _ _ h=>AV.str.inj h
theorem VR {k:IntKind} {n:Int} (h:k.wrap n=n):(Lit.int k n).wf=true:=by
 have:=TO h
 simp only [Lit.wf,zba,decide_eq_true_eq];exact this
theorem XC {P:Program} {k:TypeId} {q:IntKind} (h:P.underlying k=some (.int q)):u9 P k false [.int q]:=by
 refine ⟨Maps.int_keyed h,fun w I T v a hr hm=>?_⟩
 cases a<;>simp [uP,kcs,kc] at hm
 subst hm
 cases hr with
 | int hw=>exact ⟨_,Maps.keyOf_int_mk h (VR hw)⟩
theorem zAo {P:Program} {k:TypeId} (h:P.underlying k=some .string):u9 P k false [.str]:=by
 refine ⟨Maps.string_keyed h,fun w I T v a hr hm=>?_⟩
 cases a<;>simp [uP,kcs,kc] at hm
 cases hr with
 | str h1 h2=>exact ⟨_,by simp [keyOf,h,mapKey,w9,ByteArray.size,h2];rfl⟩
end Go.Ab

/- Keys that are arrays or structs. -/
namespace Go.Ab
open Go
def JH (g:TypeId→Option (List KSh)) (cell:TypeId→Nat):Nat→List Field→Option (List KSh)
 | _,[]=>some []
 | o,f::r =>
  match g f.type,JH g cell (o+cell f.type) r with
  | some a, some b => bif Nat.beq f.offset o && (Nat.beq (cell f.type) a.length && (f.name != "_")) then some (a ++ b) else none
  | _,_=>none
def CJ (P:Program):Nat→TypeId→Option (List KSh)
 | 0,_=>none
 | d+1,t =>
  match P.underlying t with
  | some .bool=>some [.bool]
  | some (.int q)=>some [.int q]
  | some .string=>some [.str]
  | some (.array n e) =>
   match CJ P d e with
   | some ks=>bif Nat.beq (P.cellsOf e) ks.length&&Nat.beq (P.cellsOf t) (n * ks.length) then some (List.replicate n ks).flatten else none
   | none=>none
  | some (.struct fs) =>
   match JH (CJ P d) P.cellsOf 0 fs.toList with
   | some ks=>bif Nat.beq (P.cellsOf t) ks.length then some ks else none
   | none=>none
  | _=>none
def vk:KSh→Value→Prop
 | .int q,.int q' n=>q'=q∧(Lit.int q n).wf=true
 | .bool,.bool _=>True
 | .str,.string s=>s.size≤maxLen
 | _,_=>False
inductive VM:List KSh→List Value→Prop
 | nil:VM [] []
 | cons {k v ks vs}:vk k v→VM ks vs→VM (k::ks) (v::vs)
theorem VM.len {ks:List KSh} {cs:List Value} (h:VM ks cs):ks.length=cs.length:=by
 induction h with
 | nil=>rfl
 | cons _ _ ih=>simp [ih]
theorem VM.app {a b:List KSh} {cs:List Value} (h:VM (a++b) cs):VM a (cs.take a.length)∧VM b (cs.drop a.length):=by
 induction a generalizing cs with
 | nil=>exact ⟨by simpa using VM.nil,by simpa using h⟩
 | cons x a ih =>
  cases h with
  | cons h1 h2 =>
   obtain ⟨i1,i2⟩:=ih h2
   exact ⟨by simpa using VM.cons h1 i1,by simpa using i2⟩
theorem VM.part {ks:List KSh}:∀ {n:Nat} {cs:List Value} {i:Nat},VM (List.replicate n ks).flatten cs→i<n→VM ks ((cs.drop (i * ks.length)).take ks.length):=by
 intro n
 induction n with
 | zero=>intro cs i _ h;omega
 | succ n ih =>
  intro cs i h hi
  rw [List.replicate_succ,List.flatten_cons] at h
  obtain ⟨h1,h2⟩:=h.app
  cases i with
  | zero=>simpa using h1
  | succ i =>
   have:=ih (i:=i) h2 (by omega)
   rw [List.drop_drop] at this
   rw [Nat.add_mul,Nat.one_mul,Nat.add_comm]
   exact this
theorem Q6 {α β:Type} {f:α→Option β}:∀ (l:List α),(∀ x∈l,∃ b,f x=some b)→∃ bs,l.mapM f=some bs:=by
 intro l
 induction l with
 | nil=>intro _;exact ⟨[],rfl⟩
 | cons x l ih =>
  intro h
  obtain ⟨b,hb⟩:=h x (List.mem_cons_self ..)
  obtain ⟨bs,hbs⟩:=ih fun y hy=>h y (List.mem_cons_of_mem _ hy)
  exact ⟨b::bs,by simp [List.mapM_cons,hb,hbs]⟩
theorem zAt {g:TypeId→Option (List KSh)} {cell:TypeId→Nat}:∀ (fs:List Field) (o:Nat) (ks:List KSh) (cs:List Value),JH g cell o fs=some ks→o≤cs.length→VM ks (cs.drop o) →
  ∀ f ∈ fs, (f.name != "_") = true ∧ ∃ a, g f.type = some a ∧ VM a ((cs.drop f.offset).take (cell f.type)) := by
 intro fs
 induction fs with
 | nil=>intro o ks cs _ _ _ f hf;cases hf
 | cons x r ih =>
  intro o ks cs h ho hv f hf
  unfold JH at h
  split at h
  case h_2=>cases h
  rename_i a b ha hb
  replace h:=xJ h;obtain ⟨hc,h⟩:=h
  simp only [zba] at hc
  have e1:=x5.1 hc.1
  have e2:=x5.1 hc.2.1
  injection h with h;subst h
  obtain ⟨v1,v2⟩:=hv.app
  rcases List.mem_cons.1 hf with rfl | hf
  ·exact ⟨hc.2.2,a,ha,by rw [e1,e2];exact v1⟩
  ·have hl:=hv.len
   rw [zla,List.length_drop] at hl
   refine ih (o+cell x.type) b cs hb (by omega) ?_ f hf
   rw [List.drop_drop] at v2
   rw [e2];exact v2
theorem zAe {P:Program}:∀ (d:Nat) (t:TypeId) (ks:List KSh) (cs:List Value),CJ P d t=some ks→VM ks cs→∃ ls,P.keyLits d t cs=some ls:=by
 intro d
 induction d with
 | zero=>intro t ks cs h;cases h
 | succ d ih =>
  intro t ks cs h hv
  unfold CJ at h
  unfold Program.keyLits
  split at h
  ·rename_i hu
   injection h with h;subst h
   cases hv with
   | cons h1 h2=>cases h2;rename_i v;cases v<;>simp [vk] at h1;rw [hu];exact ⟨_,rfl⟩
  ·rename_i q hu
   injection h with h;subst h
   cases hv with
   | cons h1 h2=>cases h2;rename_i v;cases v<;>simp [vk] at h1;rw [hu];simp [h1]
  ·rename_i hu
   injection h with h;subst h
   cases hv with
   | cons h1 h2=>cases h2;rename_i v;cases v<;>simp [vk] at h1;rw [hu];simp [h1]
  ·rename_i n e hu
   split at h
   case h_2=>cases h
   rename_i ks' hk
   replace h:=xJ h;obtain ⟨hc,h⟩:=h
   simp only [zba] at hc
   have e1:=x5.1 hc.1
   have e2:=x5.1 hc.2
   injection h with h;subst h
   have hl:=hv.len
   have hl2:(List.replicate n ks').flatten.length=n * ks'.length:=by simp
   rw [hu]
   simp only
   rw [if_pos (by omega)]
   obtain ⟨bs,hbs⟩:=Q6 (f:=fun i=>P.keyLits d e ((cs.drop (i * P.cellsOf e)).take (P.cellsOf e))) (List.range n) (fun i hi=>by
    rw [e1]
    exact ih e ks' _ hk (hv.part (List.mem_range.1 hi)))
   rw [hbs];exact ⟨_,rfl⟩
  ·rename_i fs hu
   split at h
   case h_2=>cases h
   rename_i ks' hk
   replace h:=xJ h;obtain ⟨hc,h⟩:=h
   have e1:=x5.1 hc
   injection h with h;subst h
   have hl:=hv.len
   have hspec:=zAt fs.toList 0 ks' cs hk (by omega) (by simpa using hv)
   rw [hu]
   simp only
   rw [if_pos ⟨by omega,by rw [← Array.all_toList];exact List.all_eq_true.2 fun f hf=>(hspec f hf).1⟩]
   obtain ⟨bs,hbs⟩:=Q6 (f:=fun f:Field=>P.keyLits d f.type ((cs.drop f.offset).take (P.cellsOf f.type))) fs.toList (fun f hf=>by
    obtain ⟨_,a,ha,hva⟩:=hspec f hf
    exact ih f.type a _ ha hva)
   rw [hbs];exact ⟨_,rfl⟩
  ·cases h
theorem zEh {w:World} {I:Nat→Prop} {T:Tbl} {v:Value} {a:AV} {k:KSh} (h:Rep w I T v a) (hk:kc k a=true):vk k v:=by
 cases k<;>cases a<;>simp [kc] at hk
 ·subst hk
  cases h with
  | int hw=>exact ⟨rfl,VR hw⟩
 ·cases h;trivial
 ·cases h with
  | str h1 h2=>simpa [vk,w9,ByteArray.size] using h2
theorem zCO {w:World} {I:Nat→Prop} {T:Tbl}:∀ (ks:List KSh) (cs:List AV) (vs:List Value),kcs ks cs=true→vs.length=cs.length→(∀ (j:Nat) (c:AV) (v:Value),cs[j]?=some c→vs[j]?=some v→Rep w I T v c)→VM ks vs:=by
 intro ks
 induction ks with
 | nil=>intro cs vs h hl _;cases cs<;>simp [kcs] at h;simp at hl;subst hl;exact .nil
 | cons k r ih =>
  intro cs vs h hl hr
  cases cs with
  | nil=>simp [kcs] at h
  | cons c s =>
   cases vs with
   | nil=>simp at hl
   | cons v u =>
    simp only [kcs,zba] at h
    exact .cons (zEh (hr 0 c v rfl rfl) h.1) (ih s u h.2 (by simpa using hl) fun j c' v' hc hv=>hr (j+1) c' v' (by simpa using hc) (by simpa using hv))
def NS (P:Program) (k:TypeId):Bool:=match P.underlying k with | some (.array _ _) | some (.struct _)=>true | _=>false
theorem EO {P:Program} {k:TypeId} {ks:List KSh} (hl:laidOutB P=true) (hw:NS P k=true) (hk:(decide (k<P.types.size)&&(P.keyTypeAt 100 k&&(P.keyType k&&Nat.beq (P.cellsOf k) ks.length)))=true) (hs:CJ P (P.types.size+1) k=some ks):u9 P k true ks:=by
 simp only [zba,decide_eq_true_eq] at hk
 obtain ⟨k1,k2,k3,k4⟩:=hk
 have k4:=x5.1 k4
 refine ⟨Maps.Keyed.of_law (deep_law_laid hl (m:=100) (by omega) k1 k2 hw),fun w I T v a hr hm=>?_⟩
 by_cases ha:∃ cs,a=.agg cs
 ·obtain ⟨cs,rfl⟩:=ha
  simp only [uP,zba] at hm
  obtain ⟨l1,_⟩:=OA hm.2
  cases hr with
  | agg s1 o1 r1 =>
   rename_i vs
   have hvm:VM ks vs.toList:=zCO ks cs vs.toList hm.2 (by simpa using s1) fun j c v hc hv=>by
    have:=r1 j c hc
    rw [Array.getElem?_toList] at hv
    rwa [Array.getD_eq_getD_getElem?,hv] at this
   obtain ⟨ls,hls⟩:=zAe _ _ _ _ hs hvm
   have hf:(Value.agg vs).formed P k=true:=by
    unfold NS at hw
    unfold Value.formed
    split at hw
    ·rename_i hu;rw [hu];simp;omega
    ·rename_i hu;rw [hu];simp;omega
    ·cases hw
   refine ⟨.string (keyBytes ls),?_⟩
   unfold keyOf
   unfold NS at hw
   split at hw
   ·rename_i hu;rw [hu];simp only [k3,hf,Bool.and_self,if_true];simp only [Value.cells];rw [hls];rfl
   ·rename_i hu;rw [hu];simp only [k3,hf,Bool.and_self,if_true];simp only [Value.cells];rw [hls];rfl
   ·cases hw
 ·have:(!true&&kcs ks [a])=true:=by
   cases a<;>first | exact hm | exact absurd ⟨_,rfl⟩ ha
  simp at this
end Go.Ab

/- Typed tables for maps: what a kC-up gives behind a store; lists that are read in part. -/
namespace Go.Ab
open Go
theorem S5 {α β:Type} [DecidableEq α]:∀ (l:List (α×β)) (k k':α) (v:β),vV (x6 l k v) k'=if k=k' then some v else vV l k':=by
 intro l
 induction l with
 | nil=>intro k k' v;rfl
 | cons p l ih =>
  intro k k' v
  unfold x6
  by_cases hp:p.1=k
  ·rw [if_pos hp]
   simp only [vV]
   by_cases hk:k=k'
   ·rw [if_pos hk,if_pos hk]
   ·rw [if_neg hk,if_neg hk,if_neg (by rw [hp];exact hk)]
  ·rw [if_neg hp]
   simp only [vV]
   rw [ih]
   by_cases hk:k=k'
   ·rw [if_pos hk,if_pos hk,if_neg (by rw [← hk];exact hp)]
   ·rw [if_neg hk,if_neg hk]
theorem TA {α β:Type} [DecidableEq α]:∀ (l:List (α×β)) (k:α) (v:β),(x6 l k v).length≤l.length+1:=by
 intro l
 induction l with
 | nil=>intro k v;simp [x6]
 | cons p l ih =>
  intro k v
  unfold x6
  split
  ·simp
  ·have:=ih k v;simp only [zlc];omega
def o8 {α:Type} [DecidableEq α] (t:List (α×Bool)) (l:List α):Prop:=t.length≤l.length∧∀ x,(vV t x).getD false=decide (x∈l)
theorem ML {α:Type} [DecidableEq α]:o8 ([]:List (α×Bool)) []:=⟨Nat.le_refl _,fun x=>by simp [vV]⟩
theorem K4 {α:Type} [DecidableEq α] {t:List (α×Bool)} {l:List α} (h:o8 t l) (x:α):o8 (x6 t x true) (l++[x]):=by
 refine ⟨by have:=TA t x true;have:=h.1;simp only [zla,zls];omega,fun y=>?_⟩
 rw [S5]
 by_cases hy:x=y
 ·rw [if_pos hy];simp [hy]
 ·rw [if_neg hy,h.2];simp [Ne.symm hy]
theorem zBA {α:Type} (l:List α) (i:Nat):sub l 0 (i:Int)=l.take i:=by simp [sub]
theorem mY {α:Type} {l:List α} {i:Nat} {x:α} {r:List α} (h:l.drop i=x::r):l.take (i+1)=l.take i++[x]:=by
 rw [List.take_add_one]
 have:=congrArg (·[0]?) h
 simp at this
 rw [this];rfl
theorem QW {α:Type} {l:List α} {i:Nat} {x:α} {r:List α} (h:l.drop i=x::r):(l.take i).length=i:=by
 have:=q9 h
 rw [List.length_take];omega
theorem RB {α:Type} {l:List α} {i:Nat} {x:α} {r:List α} (h:l.drop i=x::r):l[i]?=some x:=by
 have:=congrArg (·[0]?) h
 simpa using this
theorem JO {α:Type} {c:Bool} {x y z:α} (hc:c=true) (h:x=z):(bif c then x else y)=z:=by rw [hc];exact h
theorem NO {α:Type} {c:Bool} {x y z:α} (hc:c=false) (h:y=z):(bif c then x else y)=z:=by rw [hc];exact h
theorem AI {p q:Prop} [Decidable p] [Decidable q] (h:p∨q):(decide p||decide q)=true:=by simpa using h
theorem G3 {p q:Prop} [Decidable p] [Decidable q] (h:¬(p∨q)):(decide p||decide q)=false:=by simpa using h
theorem oZ {α:Type} [BEq α] [LawfulBEq α] {a b:α} (h:a=b):(a==b)=true:=by rw [h];exact BEq.rfl
theorem EL {α:Type} [BEq α] [LawfulBEq α] {a b:α} (h:a≠b):(a==b)=false:=by simpa using h
end Go.Ab

/- A nil slice is seen as an empty row of the call's own. -/
namespace Go.Ab
open Go
def E4 (cs:List AV) (j:Nat):Bool:=match cs[j]? with | some .nilsl=>true | _=>false
theorem TH {cs:List AV} {j:Nat} (h:E4 cs j=true):cs[j]?=some .nilsl:=by
 unfold E4 at h
 split at h
 ·assumption
 ·cases h
theorem UR {w:World} {I I':Nat→Prop} {T:Tbl} {id:Nat} {C:Array Value} {cs:List AV} {j:Nat} (hI:∀ b,I b→I' b) (hn:T id=none) (h:∀ (k:Nat) (c:AV),cs[k]?=some c→Rep w I T (C.getD k undef) c) (hj:cs[j]?=some .nilsl) :
  ∀ (k:Nat) (c:AV),(cs.set j (.own id 0))[k]?=some c→Rep w I' (T.put id .nil) (C.getD k undef) c:=by
 intro k c hk
 by_cases e:j=k
 ·subst e
  have hlt:=(List.getElem?_eq_some_iff.1 hj).1
  rw [List.getElem?_set_self hlt] at hk
  injection hk with hk;subst hk
  have hr:=h j _ hj
  generalize C.getD j undef=v at hr
  cases hr with
  | nilsl=>exact .ownNil (Tbl.put_same _ _ _)
 ·rw [List.getElem?_set_ne e] at hk
  exact (h k c hk).mono (Nat.le_refl _) (fun _ _ _=>rfl) (fun b hb _=>hI b hb) (Tbl.le_put hn)
theorem RP {cs:List AV} {j id:Nat} (h:∀ c∈cs,c.one=true):∀ c∈cs.set j (.own id 0),c.one=true:=by
 intro c hc
 rcases List.mem_or_eq_of_mem_set hc with hc | rfl
 ·exact h c hc
 ·rfl
def KF (st:AS) (i j id e sz:Nat):AS :=
 ⟨st.slot,fun k=>bif Nat.beq k id then .live (.row e sz []) else bif Nat.beq k i then (match st.box i with | .live (.var t cs)=>.live (.var t (cs.set j (.own id 0))) | b=>b) else st.box k⟩
def S0 (st:AS) (i j id:Nat):Bool:=pQ (st.box id)&&(match st.box i with | .live (.var _ cs)=>E4 cs j | _=>false)
def HW (st:AS) (t:Nat) (j:Option Nat) (id e sz:Nat):AS :=
 ⟨fun k=>bif Nat.beq k t then (match j,st.slot t with | none,_=>.own id 0 | some j,.agg cs=>.agg (cs.set j (.own id 0)) | _,v=>v) else st.slot k,fun k=>bif Nat.beq k id then .live (.row e sz []) else st.box k⟩
def OO (st:AS) (t:Nat) (j:Option Nat) (id:Nat):Bool :=
 pQ (st.box id)&&(match j,st.slot t with | none,.nilsl=>true | some j,.agg cs=>E4 cs j | _,_=>false)
theorem SQ {G:uA} {st st2:AS} {T:Tbl} {a:Act} {w:World} {id e sz:Nat} (hT:tJ G st T a w) (hu:st.box id=.unused)
  (hslot:∀ t,(∀ I',(∀ b,imm G st T b→I' b)→Rep w I' (T.put id .nil) (a.tmps.getD t undef) (st2.slot t)))
  (hbox:∀ k bx,st2.box k=.live bx→(k=id∧bx=.row e sz [])∨(k≠id∧∃ bx0,st.box k=.live bx0∧∀ I',(∀ b,imm G st T b→I' b)→qK w I' (T.put id .nil) (T k) bx))
  (hun:∀ k,st2.box k=.unused→k≠id∧st.box k=.unused):Rel G st2 a w:=by
 have hn:=hT.unused id hu
 have himm:∀ b,imm G st T b→imm G st2 (T.put id .nil) b:=by
  intro b hb
  refine ⟨hb.1,fun k bx cap hl hTk=>?_⟩
  rcases hbox k bx hl with ⟨rfl,_⟩ | ⟨hne,bx0,h0,_⟩
  ·rw [Tbl.put_same] at hTk;cases hTk
  ·rw [Tbl.put_ne _ _ hne] at hTk;exact hb.2 k bx0 cap h0 hTk
 refine ⟨T.put id .nil,hT.defers,hT.size,fun t=>hslot t _ himm,?_,?_,?_,?_,fun i p hp=>Tbl.le_put hn _ _ (hT.foot i p hp),hT.kept⟩
 ·intro k bx hl
  rcases hbox k bx hl with ⟨rfl,rfl⟩ | ⟨hne,bx0,h0,h1⟩
  ·rw [Tbl.put_same];exact .inl ⟨rfl,rfl⟩
  ·rw [Tbl.put_ne _ _ hne];exact h1 _ himm
 ·intro k hk
  obtain ⟨hne,h0⟩:=hun k hk
  rw [Tbl.put_ne _ _ hne];exact hT.unused k h0
 ·intro i1 i2 b1 b2 b c1 c2 h1 h2 t1 t2
  rcases hbox i1 b1 h1 with ⟨rfl,_⟩ | ⟨n1,x1,l1,_⟩
  ·rw [Tbl.put_same] at t1;cases t1
  rcases hbox i2 b2 h2 with ⟨rfl,_⟩ | ⟨n2,x2,l2,_⟩
  ·rw [Tbl.put_same] at t2;cases t2
  rw [Tbl.put_ne _ _ n1] at t1;rw [Tbl.put_ne _ _ n2] at t2
  exact hT.apart i1 i2 x1 x2 b c1 c2 l1 l2 t1 t2
 ·intro k bx b cap hl hTk hge
  rcases hbox k bx hl with ⟨rfl,_⟩ | ⟨hne,bx0,h0,_⟩
  ·rw [Tbl.put_same] at hTk;cases hTk
  ·rw [Tbl.put_ne _ _ hne] at hTk;exact hT.mine k bx0 b cap h0 hTk hge
theorem kA {np:Nat} {st:AS} (i j id e sz:Nat) (h:S0 st i j id=true):Sub np st (KF st i j id e sz):=by
 rintro G a w hnp ⟨T,hT⟩
 unfold S0 at h
 simp only [zba] at h
 obtain ⟨h1,h2⟩:=h
 have hu:=nQ h1
 split at h2
 case h_2=>cases h2
 rename_i t cs hb
 have hj:=TH h2
 have hn:=hT.unused id hu
 have hne:i≠id:=fun e=>by rw [e,hu] at hb;cases hb
 have hbx:∀ k,(KF st i j id e sz).box k=if k=id then .live (.row e sz []) else if k=i then .live (.var t (cs.set j (.own id 0))) else st.box k:=by
  intro k
  simp only [KF,hb]
  by_cases e1:k=id
  ·subst e1;simp
  ·rw [q8 e1,if_neg e1]
   by_cases e2:k=i
   ·subst e2;simp
   ·rw [q8 e2,if_neg e2];rfl
 refine SQ hT hu (id:=id) (e:=e) (sz:=sz) ?_ ?_ ?_
 ·intro t' I' hI
  exact (hT.slots t').mono (Nat.le_refl _) (fun _ _ _=>rfl) (fun b hb _=>hI b hb) (Tbl.le_put hn)
 ·intro k bx hl
  rw [hbx] at hl
  by_cases e1:k=id
  ·rw [if_pos e1] at hl;injection hl with hl;exact .inl ⟨e1,hl.symm⟩
  rw [if_neg e1] at hl
  by_cases e2:k=i
  ·rw [if_pos e2] at hl;injection hl with hl;subst hl;subst e2
   refine .inr ⟨e1,_,hb,fun I' hI=>?_⟩
   obtain ⟨b,C,p1,p2,p3,p4,p5⟩:=hT.boxes k _ hb
   exact ⟨b,C,p1,p2,by rw [p3];simp,RP p4,UR hI hn p5 hj⟩
  ·rw [if_neg e2] at hl
   exact .inr ⟨e1,bx,hl,fun I' hI=>(hT.boxes k bx hl).mono (Nat.le_refl _) (fun _ _ _=>rfl) (fun b hb _=>hI b hb) (Tbl.le_put hn) (fun _ _ _ _=>rfl)⟩
 ·intro k hk
  rw [hbx] at hk
  by_cases e1:k=id
  ·rw [if_pos e1] at hk;cases hk
  rw [if_neg e1] at hk
  by_cases e2:k=i
  ·rw [if_pos e2] at hk;cases hk
  ·rw [if_neg e2] at hk;exact ⟨e1,hk⟩
theorem zA1 {np:Nat} {st:AS} (t:Nat) (j:Option Nat) (id e sz:Nat) (h:OO st t j id=true):Sub np st (HW st t j id e sz):=by
 rintro G a w hnp ⟨T,hT⟩
 unfold OO at h
 simp only [zba] at h
 obtain ⟨h1,h2⟩:=h
 have hu:=nQ h1
 have hn:=hT.unused id hu
 have hbx:∀ k,(HW st t j id e sz).box k=if k=id then .live (.row e sz []) else st.box k:=by
  intro k
  simp only [HW]
  by_cases e1:k=id
  ·subst e1;simp
  ·rw [q8 e1,if_neg e1];rfl
 refine SQ hT hu (id:=id) (e:=e) (sz:=sz) ?_ ?_ ?_
 ·intro k I' hI
  simp only [HW]
  by_cases e1:k=t
  ·subst e1
   rw [HO]
   simp only [cond_true]
   split at h2
   ·rename_i hs
    rw [hs]
    have hr:=hT.slots k
    rw [hs] at hr
    simp only
    generalize a.tmps.getD k undef=v at hr ⊢
    cases hr with
    | nilsl=>exact .ownNil (Tbl.put_same _ _ _)
   ·rename_i j' cs hs
    rw [hs]
    have hr:=hT.slots k
    rw [hs] at hr
    simp only
    generalize a.tmps.getD k undef=v at hr ⊢
    cases hr with
    | agg k1 k2 k3=>exact .agg (by rw [k1];simp) (RP k2) (UR hI hn k3 (TH h2))
   ·cases h2
  ·rw [q8 e1]
   exact (hT.slots k).mono (Nat.le_refl _) (fun _ _ _=>rfl) (fun b hb _=>hI b hb) (Tbl.le_put hn)
 ·intro k bx hl
  rw [hbx] at hl
  by_cases e1:k=id
  ·rw [if_pos e1] at hl;injection hl with hl;exact .inl ⟨e1,hl.symm⟩
  rw [if_neg e1] at hl
  exact .inr ⟨e1,bx,hl,fun I' hI=>(hT.boxes k bx hl).mono (Nat.le_refl _) (fun _ _ _=>rfl) (fun b hb _=>hI b hb) (Tbl.le_put hn) (fun _ _ _ _=>rfl)⟩
 ·intro k hk
  rw [hbx] at hk
  by_cases e1:k=id
  ·rw [if_pos e1] at hk;cases hk
  rw [if_neg e1] at hk;exact ⟨e1,hk⟩
theorem Sub.trans {np:Nat} {a b c:AS} (h1:Sub np a b) (h2:Sub np b c):Sub np a c:=fun G x w hn hR=>h2 G x w hn (h1 G x w hn hR)
end Go.Ab

/- A range over a map of the call's own: the rounds come in an order that nobody knows. -/
namespace Go.Ab
open Go
open Go.ChangeMaps (setBlock)
structure RS where
 tm:Nat
 t0:Nat
 ti:Nat
 tR:Nat
 tn:Nat
 tok:Nat
 te:Nat
 tx:Nat
 ty:Nat
 tk:Nat
 tv:Nat
 blk:Nat
 b3:Nat
end Go.Ab

/- A state seen otherwise, most of it as it was. -/
namespace Go.Ab
open Go
def gK:List Nat→Nat→Nat
 | [],_=>0
 | x::r,i=>bif Nat.beq x i then 0 else gK r i+1
def inN (l:List Nat) (i:Nat):Bool:=l.any (Nat.beq i)
theorem EH {l:List Nat} {i:Nat} (h:inN l i=true):l.getD (gK l i) 0=i:=by
 induction l with
 | nil=>simp [inN] at h
 | cons x r ih =>
  simp only [gK]
  cases hx:Nat.beq x i
  ·simp only [cond_false]
   have:inN r i=true:=by
    simp only [inN,List.any_cons,Bool.or_eq_true] at h ⊢
    rcases h with h | h
    ·rw [x5.1 h] at hx;simp at hx
    ·exact h
   have:=ih this
   simpa [List.getD] using this
  ·have:=x5.1 hx
   simp [List.getD,this]
mutual
def rn (ρ:List Nat):AV→AV
 | .agg cs=>.agg (rns ρ cs)
 | .tuple cs=>.tuple (rns ρ cs)
 | .ptr id sz i off=>.ptr (gK ρ id) sz i off
 | .own id n=>.own (gK ρ id) n
 | .part id sz lo hi=>.part (gK ρ id) sz lo hi
 | .fn f cs=>.fn f (rns ρ cs)
 | .mp id=>.mp (gK ρ id)
 | .junk=>.junk
 | .int k n=>.int k n
 | .bool b=>.bool b
 | .str l=>.str l
 | .sl f s l=>.sl f s l
 | .ref a=>.ref a
 | .nilp=>.nilp
 | .nilsl=>.nilsl
 | .nb l=>.nb l
 | .raw b=>.raw b
 | .fm n l=>.fm n l
def rns (ρ:List Nat):List AV→List AV
 | []=>[]
 | a::r=>rn ρ a::rns ρ r
end
mutual
def ins (ρ:List Nat):AV→Bool
 | .agg cs=>gX ρ cs
 | .tuple cs=>gX ρ cs
 | .ptr id ..=>inN ρ id
 | .own id _=>inN ρ id
 | .part id ..=>inN ρ id
 | .fn _ cs=>gX ρ cs
 | .mp id=>inN ρ id
 | .junk=>true
 | .int ..=>true
 | .bool _=>true
 | .str _=>true
 | .sl ..=>true
 | .ref _=>true
 | .nilp=>true
 | .nilsl=>true
 | .nb _=>true
 | .raw _=>true
 | .fm ..=>true
def gX (ρ:List Nat):List AV→Bool
 | []=>true
 | a::r=>ins ρ a&&gX ρ r
end
mutual
theorem T8 {ρ:List Nat}:∀ {a:AV},ins ρ a=true→un ρ (rn ρ a)=a
 | .agg cs,h=>by simp only [rn,un];rw [CL (cs:=cs) (by simpa [ins] using h)]
 | .tuple cs,h=>by simp only [rn,un];rw [CL (cs:=cs) (by simpa [ins] using h)]
 | .ptr id ..,h=>by simp only [rn,un];rw [EH (by simpa [ins] using h)]
 | .own id _,h=>by simp only [rn,un];rw [EH (by simpa [ins] using h)]
 | .part id ..,h=>by simp only [rn,un];rw [EH (by simpa [ins] using h)]
 | .fn _ cs,h=>by simp only [rn,un];rw [CL (cs:=cs) (by simpa [ins] using h)]
 | .mp id,h=>by simp only [rn,un];rw [EH (by simpa [ins] using h)]
 | .junk,_=>rfl
 | .int ..,_=>rfl
 | .bool _,_=>rfl
 | .str _,_=>rfl
 | .sl ..,_=>rfl
 | .ref _,_=>rfl
 | .nilp,_=>rfl
 | .nilsl,_=>rfl
 | .nb _,_=>rfl
 | .raw _,_=>rfl
 | .fm ..,_=>rfl
theorem CL {ρ:List Nat}:∀ {cs:List AV},gX ρ cs=true→uns ρ (rns ρ cs)=cs
 | [],_=>rfl
 | a::r,h=>by
  simp only [gX,zba] at h
  simp only [rns,uns]
  rw [T8 h.1,CL h.2]
end
theorem R7 (x:AV):∀ p∈lo1 x x,p:=by
 intro p hp
 cases x with
 | sl f s l =>
  have hp:p=(s=s)∨p=(l=l)∨p=((!f||f)=true):=by simpa only [lo1,List.mem_cons,List.not_mem_nil,or_false] using (show p∈[s=s,l=l,(!f||f)=true] from hp)
  rcases hp with h | h | h
  ·rw [h]
  ·rw [h]
  ·rw [h];cases f<;>rfl
 | junk=>cases hp
 | _=>simp [lo1] at hp;exact hp
theorem O3:∀ (xs:List AV),∀ p∈los xs xs,p:=by
 intro xs
 induction xs with
 | nil=>intro p hp;cases hp
 | cons x r ih =>
  intro p hp
  simp only [los,List.mem_append] at hp
  rcases hp with hp | hp
  ·exact R7 x p hp
  ·exact ih p hp
theorem S1 (x:AV):∀ p∈loA x x,p:=by
 intro p hp
 cases x with
 | agg cs=>exact O3 cs p hp
 | _=>simp only [loA] at hp;exact R7 _ p hp
theorem zEn:∀ (xs:List AV),∀ p∈bX xs xs,p:=by
 intro xs
 induction xs with
 | nil=>intro p hp;cases hp
 | cons x r ih =>
  intro p hp
  simp only [bX,List.mem_append] at hp
  rcases hp with hp | hp
  ·exact S1 x p hp
  ·exact ih p hp
theorem zBJ (x:AV):∀ p∈loT x x,p:=by
 intro p hp
 cases x with
 | tuple cs=>exact zEn cs p hp
 | _=>simp only [loT] at hp;exact S1 _ p hp
def oR (ids:List Nat):AV→Bool
 | .own id _=>!(ids.any (Nat.beq id))
 | .part id ..=>!(ids.any (Nat.beq id))
 | _=>true
def BS (ids:List Nat):AV→Bool
 | .agg cs=>cs.all (oR ids)
 | v=>oR ids v
def E3 (ids:List Nat):AV→Bool
 | .tuple vs=>vs.all (BS ids)
 | v=>BS ids v
theorem A5 {B:Nat→yA} {ids:List Nat} {x:AV} (h:oR ids x=true):aJ B ids x=x∧cE B ids x=[]:=by
 cases x with
 | own id n=>simp only [oR,Bool.not_eq_true'] at h;simp [aJ,cE,h]
 | part id sz lo hi=>simp only [oR,Bool.not_eq_true'] at h;simp [aJ,cE,h]
 | _=>exact ⟨rfl,rfl⟩
theorem K5 {α:Type} {f:α→α} {l:List α} (h:∀ x∈l,f x=x):l.map f=l:=by
 induction l with
 | nil=>rfl
 | cons a r ih=>rw [List.map_cons,h a (by simp),ih fun x hx=>h x (by simp [hx])]
theorem J9 {α β:Type} {f:α→List β} {l:List α} (h:∀ x∈l,f x=[]):l.flatMap f=[]:=by
 induction l with
 | nil=>rfl
 | cons a r ih=>rw [List.flatMap_cons,h a (by simp),ih fun x hx=>h x (by simp [hx])];rfl
theorem LT {B:Nat→yA} {ids:List Nat} {x:AV} (h:BS ids x=true):aU B ids x=x∧gI B ids x=[]:=by
 cases x with
 | agg cs =>
  simp only [BS,List.all_eq_true] at h
  exact ⟨by simp only [aU];rw [K5 fun c hc=>(A5 (h c hc)).1],J9 fun c hc=>(A5 (h c hc)).2⟩
 | _=>simp only [BS] at h;exact A5 (B:=B) h
theorem zD1 {B:Nat→yA} {ids:List Nat} {x:AV} (h:E3 ids x=true):frz B ids x=x∧bZ B ids x=[]:=by
 cases x with
 | tuple vs =>
  simp only [E3,List.all_eq_true] at h
  exact ⟨by simp only [frz];rw [K5 fun c hc=>(LT (h c hc)).1],J9 fun c hc=>(LT (h c hc)).2⟩
 | _=>simp only [E3] at h;exact LT (B:=B) h
inductive Sp where
 | s (t:Nat)
 | a (t:Nat) (v:AV)
inductive Bp where
 | s (i:Nat)
 | a (i:Nat) (b:yA)
def NM (st:AS) (ρ:List Nat):Sp→Nat×AV
 | .s t=>(t,rn ρ (st.slot t))
 | .a t v=>(t,v)
def R4 (st:AS) (ρ ids:List Nat):Sp→Bool
 | .s t=>ins ρ (st.slot t)&&E3 ids (st.slot t)
 | .a _ _=>true
def Z0 (st:AS) (ρ ids:List Nat):Sp→List Prop
 | .s _=>[]
 | .a t v=>bZ st.box ids (st.slot t)++loT (frz st.box ids (st.slot t)) (un ρ v)
def rnB (ρ:List Nat):yA→yA
 | .live (.var t cs)=>.live (.var t (rns ρ cs))
 | b=>b
def okB (ρ ids:List Nat):yA→Bool
 | .live (.var _ cs)=>kB cs&&(gX ρ cs&&cs.all (oR ids))
 | .live _=>true
 | _=>false
def N8 (st:AS) (ρ:List Nat):Bp→Nat×yA
 | .s i=>(i,rnB ρ (st.box (ρ.getD i 0)))
 | .a i b=>(i,b)
def UT (st:AS) (ρ ids:List Nat):Bp→Bool
 | .s i=>okB ρ ids (st.box (ρ.getD i 0))
 | .a _ _=>true
def zDp (st:AS) (ρ ids:List Nat):Bp→List Prop
 | .s _=>[]
 | .a i b=>tV st.box ids ρ (st.box (ρ.getD i 0)) b
def U7 (np:Nat) (st:AS) (ρ ids:List Nat) (sl2:List (Nat×AV)) (bx2:List (Nat×yA)):Bool :=
 ((jD ρ&&lH (ρ.take np) (List.range np))&&(ids.all fun i=>iI (st.box i)&&Nat.ble np i)) &&
   ((sl2.all fun x=>(wU ρ.length x.2&&d8 x.2)&&iY (frz st.box ids (st.slot x.1))) &&
    (bx2.all fun x=>(Nat.blt x.1 ρ.length&&J3 ρ.length x.2)&&(match x.2 with | .live (.row ..)=>!(ids.any (Nat.beq (ρ.getD x.1 0))) | .unused=>false | _=>true)))
def wkm (np:Nat) (st:AS) (ρ ids:List Nat) (sps:List Sp) (bps:List Bp):Option (List Prop×List (Nat×AV)×List (Nat×yA)) :=
 bif U7 np st ρ ids (sps.map (NM st ρ)) (bps.map (N8 st ρ))&&(sps.all (R4 st ρ ids)&&bps.all (UT st ρ ids)) then
  some (sps.flatMap (Z0 st ρ ids)++bps.flatMap (zDp st ρ ids),sps.map (NM st ρ),bps.map (N8 st ρ))
 else none
theorem UL {ρ:List Nat}:∀ {cs:List AV},kB cs=true→kB (rns ρ cs)=true
 | [],_=>rfl
 | a::r,h=>by
  simp only [kB,zba] at h
  simp only [rns,kB,zba]
  refine ⟨?_,UL h.2⟩
  have h1:=h.1
  cases a<;>first | exact h1 | rfl
theorem zCU (np:Nat) (st:AS) (ρ ids:List Nat) (sl2:List (Nat×AV)) (bx2:List (Nat×yA)) :
  AY np st ρ ids sl2 bx2=bif U7 np st ρ ids sl2 bx2 then some (sl2.flatMap (fun x=>bZ st.box ids (st.slot x.1)++loT (frz st.box ids (st.slot x.1)) (un ρ x.2)) ++
   bx2.flatMap (fun x=>tV st.box ids ρ (st.box (ρ.getD x.1 0)) x.2)) else none:=rfl
theorem XP {np:Nat} {st:AS} {ρ ids:List Nat} {sps:List Sp} {bps:List Bp} {vcs:List Prop} {sl2:List (Nat×AV)} {bx2:List (Nat×yA)} (h:wkm np st ρ ids sps bps=some (vcs,sl2,bx2)) (hv:tG vcs) :
  ∃ vcs',AY np st ρ ids sl2 bx2=some vcs'∧tG vcs':=by
 unfold wkm at h
 replace h:=xJ h;obtain ⟨hc,h⟩:=h
 simp only [zba,List.all_eq_true] at hc
 obtain ⟨hok,hsp,hbp⟩:=hc
 simp only [Option.some.injEq,Prod.mk.injEq] at h
 obtain ⟨rfl,rfl,rfl⟩:=h
 have hv:=HL hv
 have toAll:∀ {l:List Prop},(∀ p∈l,p)→tG l:=by
  intro l
  induction l with
  | nil=>intro _;trivial
  | cons a r ih=>intro h;exact ⟨h a (by simp),ih fun p hp=>h p (by simp [hp])⟩
 refine ⟨_,(zCU ..).trans (by rw [hok];rfl),toAll ?_⟩
 intro p hp
 rcases List.mem_append.1 hp with hp | hp
 ·obtain ⟨x,hx,hp⟩:=List.mem_flatMap.1 hp
  obtain ⟨sp,hs,rfl⟩:=List.mem_map.1 hx
  cases sp with
  | s t =>
   have h1:=hsp _ hs
   simp only [R4,zba] at h1
   have h2:=zD1 (B:=st.box) h1.2
   simp only [NM,h2.1,h2.2,List.nil_append,T8 h1.1] at hp
   exact zBJ _ p hp
  | a t v=>exact hv p (List.mem_append_left _ (List.mem_flatMap.2 ⟨_,hs,hp⟩))
 ·obtain ⟨x,hx,hp⟩:=List.mem_flatMap.1 hp
  obtain ⟨bp,hb,rfl⟩:=List.mem_map.1 hx
  cases bp with
  | s i =>
   have h1:=hbp _ hb
   simp only [UT] at h1
   simp only [N8] at hp
   generalize st.box (ρ.getD i 0)=b at h1 hp
   cases b with
   | unused=>cases h1
   | dead=>cases h1
   | live b =>
    cases b with
    | row e s l=>simp [rnB,tV] at hp;exact hp
    | map a k l=>simp [rnB,tV] at hp;exact hp
    | var t cs =>
     simp only [okB,zba,List.all_eq_true] at h1
     obtain ⟨h2,h3,h4⟩:=h1
     simp only [rnB,tV,List.mem_append,List.mem_cons,List.not_mem_nil,or_false] at hp
     rcases hp with (h | h) | hp | hp
     ·rw [h];trivial
     ·rw [h];exact UL h2
     ·rw [J9 fun c hc=>(A5 (h4 c hc)).2] at hp;cases hp
     ·rw [K5 fun c hc=>(A5 (h4 c hc)).1,CL h3] at hp
      exact O3 _ p hp
  | a i b=>exact hv p (List.mem_append_right _ (List.mem_flatMap.2 ⟨_,hb,hp⟩))
theorem fO {np:Nat} {st:AS} (ρ ids:List Nat) (sps:List Sp) (bps:List Bp) {vcs:List Prop} {sl2:List (Nat×AV)} {bx2:List (Nat×yA)} (h:wkm np st ρ ids sps bps=some (vcs,sl2,bx2)) (hv:tG vcs) :
  Sub np st (mk sl2 bx2 ρ.length):=by
 obtain ⟨vcs',h1,h2⟩:=XP h hv
 exact zCD ρ ids sl2 bx2 h1 h2
theorem an:tG []:=trivial
theorem ac {p:Prop} {r:List Prop} (h:p) (t:tG r):tG (p::r):=⟨h,t⟩
end Go.Ab

/- The rules once more, in the shortest words: what the kernel computes is left to it. -/
namespace Go.Ab
open Go
abbrev Ii (x:Int):AV:=.int .i64 x
abbrev Iu (x:Int):AV:=.int .u8 x
abbrev Vb (n:Nat) (l:List AV):yA:=.live (.var n l)
abbrev Rb (n k:Nat) (l:List AV):yA:=.live (.row n k l)
abbrev Hg:xN:={ g:=false }
abbrev Ht:xN:={ b:=true }
abbrev Hf:xN:={ b:=false }
abbrev Pp (i:Nat):AV:=.ptr i 0 0 0
abbrev Mb (l:List Int):List AV:=List.map (AV.int .u8) l
abbrev Mi (l:List Int):List AV:=List.map (AV.int .i64) l
abbrev Ms (l:List (List Int)):List AV:=List.map AV.str l
abbrev Mp {α:Type} (f:α→AV) (l:List α):List AV:=List.map f l
abbrev lN {α:Type} (l:List α):Int:=((l.length:Nat):Int)
theorem bft (b:Bool):b=true∨b=false:=Bool.eq_false_or_eq_true b
variable {P:Program} {N np:Nat} {K:Exit→AS→Prop} {c:Code} {st:AS}
theorem sq (h:AW P N np (Code.l c) (fP P N np (Code.r c) K) st) (hc:c=.seq (Code.l c) (Code.r c):=by kernel_rfl):AW P N np c K st:=lW hc h
theorem rt (h:K .ret st) (hc:c=.ret:=by kernel_rfl):AW P N np c K st:=zEe hc h
theorem sk (h:K .normal st) (hc:c=.skip:=by kernel_rfl):AW P N np c K st:=YI hc h
theorem rg {sl:List (Nat×AV)} {bx:List (Nat×yA)} {n:Nat} (hs:List (Nat×xN)) (live bl:List Nat) (n':Nat) {vcs:List Prop} (vals:List AV) (bxs:List yA) (hm:P.follows .mixedOrders=true) (hv:tG vcs)
  (hk:K .normal (mk (live.zip vals) (bl.zip bxs) n')) (h:kX P N np c hs sl bx n live bl n'=some (vcs,vals,bxs):=by kernel_rfl):AW P N np c K (mk sl bx n):=LV hs live bl n' h hm hv hk
theorem sr {sl:List (Nat×AV)} {bx:List (Nat×yA)} {n:Nat} (hs:List (Nat×xN)) (live bl:List Nat) (n':Nat) {vcs:List Prop} (vals:List AV) (bxs:List yA) (hm:P.follows .mixedOrders=true) (hv:tG vcs)
  (hk:fP P N np (Code.r c) K .normal (mk (live.zip vals) (bl.zip bxs) n')) (h:kX P N np (Code.l c) hs sl bx n live bl n'=some (vcs,vals,bxs):=by kernel_rfl) (hc:c=.seq (Code.l c) (Code.r c):=by kernel_rfl):AW P N np c K (mk sl bx n) :=
 lW hc (LV hs live bl n' h hm hv hk)
theorem sw (ρ ids:List Nat) (sps:List Sp) (bps:List Bp) {vcs:List Prop} {sl2:List (Nat×AV)} {bx2:List (Nat×yA)} (hv:tG vcs) (h:wkm np st ρ ids sps bps=some (vcs,sl2,bx2):=by kernel_rfl):Sub np st (mk sl2 bx2 ρ.length):=fO ρ ids sps bps h hv
theorem wk (ρ ids:List Nat) (sps:List Sp) (bps:List Bp) {vcs:List Prop} (sl2:List (Nat×AV)) (bx2:List (Nat×yA)) (hv:tG vcs) (k:AW P N np c K (mk sl2 bx2 ρ.length)) (h:wkm np st ρ ids sps bps=some (vcs,sl2,bx2):=by kernel_rfl):AW P N np c K st:=t7 (fO ρ ids sps bps h hv) k
theorem cd (t:Nat) (b:Bool) (h1:b=true→AW P N np (Code.t c) K st) (h2:b=false→AW P N np (Code.e c) K st) (hc:c=.cond (.tmp t) (Code.t c) (Code.e c):=by kernel_rfl) (hs:st.slot t=.bool b:=by kernel_rfl):AW P N np c K st:=JY hc hs h1 h2
theorem ar {α:Type} (x:α) {r:List Prop} (t:tG r):tG ((x=x)::r):=⟨rfl,t⟩
end Go.Ab

/- A map of the call's own is given away for good: nobody writes it any more. -/
namespace Go.Ab
open Go
def dO (id:Nat) (l:List (AV×AV)):AV→AV
 | .mp k=>bif Nat.beq k id then .fm false l else .mp k
 | v=>v
def GH (id:Nat) (l:List (AV×AV)):AV→AV
 | .agg cs=>.agg (cs.map (dO id l))
 | v=>dO id l v
def fzM (st:AS) (id:Nat):AS :=
 match st.box id with
 | .live (.map _ _ l)=>⟨fun t=>GH id l (st.slot t),fun k=>bif Nat.beq k id then .dead else match st.box k with
  | .live (.var t cs)=>.live (.var t (cs.map (dO id l)))
  | b=>b⟩
 | _=>st
def YW:yA→Bool
 | .live (.map ..)=>true
 | _=>false
theorem U1 {id:Nat} {l:List (AV×AV)} {c:AV} (h:c.one=true):(dO id l c).one=true:=by
 cases c<;>simp only [dO]<;>try exact h
 rename_i k
 cases Nat.beq k id<;>rfl
theorem N6 {w:World} {I I':Nat→Prop} {T:Tbl} {id b:Nat} {l:List (AV×AV)} {v:Value} {c:AV} (hI:∀ b,I b→I' b) (hT:T id=some (.at b 0)) (hf:∀ T',Rep w I' T' (.map (some b)) (.fm false l)) (h:Rep w I T v c):Rep w I' T v (dO id l c):=by
 have h':Rep w I' T v c:=h.mono (Nat.le_refl _) (fun _ _ _=>rfl) (fun b hb _=>hI b hb) (fun _ _ h=>h)
 cases h with
 | mp hk =>
  rename_i k b'
  simp only [dO]
  by_cases e:k=id
  ·subst e
   rw [hT] at hk;injection hk with hk;injection hk with hk _
   subst hk
   simp only [cond_true,show Nat.beq k k=true by simp]
   exact hf T
  ·rw [q8 e,cond_false];exact h'
 | _=>exact h'
theorem zBK {w:World} {I I':Nat→Prop} {T:Tbl} {id b:Nat} {l:List (AV×AV)} {v:Value} {c:AV} (hI:∀ b,I b→I' b) (hT:T id=some (.at b 0)) (hf:∀ T',Rep w I' T' (.map (some b)) (.fm false l)) (h:Rep w I T v c):Rep w I' T v (GH id l c):=by
 by_cases hc:∃ cs,c=.agg cs
 ·obtain ⟨cs,rfl⟩:=hc
  cases h with
  | agg h1 h2 h3 =>
   refine .agg (by rw [h1,List.length_map]) ?_ ?_
   ·intro c hc
    obtain ⟨c0,k1,rfl⟩:=List.mem_map.1 hc
    exact U1 (h2 c0 k1)
   ·intro j c hj
    rw [List.getElem?_map] at hj
    cases hcj:cs[j]? with
    | none=>rw [hcj] at hj;cases hj
    | some c0 =>
     rw [hcj] at hj;injection hj with hj;subst hj
     exact N6 hI hT hf (h3 j c0 hcj)
 ·have:GH id l c=dO id l c:=by cases c<;>first | rfl | exact absurd ⟨_,rfl⟩ hc
  rw [this]
  exact N6 hI hT hf h
theorem zBv {np:Nat} {st:AS} (id:Nat) (h:(YW (st.box id)&&Nat.ble np id)=true):Sub np st (fzM st id):=by
 rintro G a w hnp ⟨T,hT⟩
 simp only [zba] at h
 obtain ⟨h1,h2⟩:=h
 have hid:G.foot.length≤id:=by have:=AN h2;omega
 obtain ⟨ag,ks,l,hb⟩:∃ ag ks l,st.box id=.live (.map ag ks l):=by
  cases hb:st.box id with
  | unused=>rw [hb] at h1;cases h1
  | dead=>rw [hb] at h1;cases h1
  | live bx=>cases bx with
   | map ag ks l=>exact ⟨_,_,_,rfl⟩
   | _=>rw [hb] at h1;cases h1
 obtain ⟨b,E,clock,hp,hh,k1,k2,kS,k3,k4⟩:=hT.boxes id _ hb
 have hbox:∀ k,(fzM st id).box k=if k=id then .dead else match st.box k with | .live (.var t cs)=>.live (.var t (cs.map (dO id l))) | b=>b:=by
  intro k
  unfold fzM
  rw [hb]
  simp only
  by_cases e:k=id
  ·subst e;simp
  ·rw [q8 e,if_neg e];rfl
 have hslot:∀ t,(fzM st id).slot t=GH id l (st.slot t):=by
  intro t
  unfold fzM
  rw [hb]
 have hlive:∀ k bx,(fzM st id).box k=.live bx→k≠id∧∃ bx0,st.box k=.live bx0:=by
  intro k bx hl
  rw [hbox] at hl
  by_cases e:k=id
  ·rw [if_pos e] at hl;cases hl
  ·rw [if_neg e] at hl
   refine ⟨e,?_⟩
   cases hk:st.box k with
   | live b0=>exact ⟨b0,rfl⟩
   | dead=>rw [hk] at hl;cases hl
   | unused=>rw [hk] at hl;cases hl
 have himm:∀ b,imm G st T b→imm G (fzM st id) T b:=by
  intro b' hb'
  refine ⟨hb'.1,fun k bx cap hl hTk=>?_⟩
  obtain ⟨_,bx0,h0⟩:=hlive k bx hl
  exact hb'.2 k bx0 cap h0 hTk
 have hbI:imm G (fzM st id) T b:=by
  refine ⟨.inr (hT.mine id _ b 0 hb hp hid),fun k bx cap hl hTk=>?_⟩
  obtain ⟨hne,bx0,h0⟩:=hlive k bx hl
  exact hne (hT.apart id k _ bx0 b 0 cap hb h0 hp hTk).symm
 have hblt:b<w.heap.size:=fW hT hb hp
 have hf:∀ T',Rep w (imm G (fzM st id) T) T' (.map (some b)) (.fm false l):=by
  intro T'
  refine .fm (fun i=>(E[i]?.map (·.key)).getD undef) (fun i=>(E[i]?.map (·.val)).getD undef) k1 k2 kS hbI hblt hh ?_ ?_ ?_
  ·intro i x hx
   obtain ⟨e,e1,_⟩:=k4 i x hx
   refine ⟨e.born,?_⟩
   rw [e1];rfl
  ·intro i x hx
   obtain ⟨e,e1,e2,e3⟩:=k4 i x hx
   rw [e1]
   exact e2.mono (Nat.le_refl _) (fun _ _ _=>rfl) (fun b hb _=>himm b hb) (fun _ _ h=>h)
  ·intro i x hx
   obtain ⟨e,e1,e2,e3⟩:=k4 i x hx
   rw [e1]
   exact e3.mono (Nat.le_refl _) (fun _ _ _=>rfl) (fun b hb _=>himm b hb) (fun _ _ h=>h)
 refine ⟨T,hT.defers,hT.size,?_,?_,?_,?_,?_,hT.foot,hT.kept⟩
 ·intro t
  rw [hslot]
  exact zBK himm hp hf (hT.slots t)
 ·intro k bx hl
  obtain ⟨hne,bx0,h0⟩:=hlive k bx hl
  rw [hbox,if_neg hne,h0] at hl
  have hok:=hT.boxes k bx0 h0
  cases bx0 with
  | var t cs =>
   injection hl with hl;subst hl
   obtain ⟨b',C,p1,p2,p3,p4,p5⟩:=hok
   refine ⟨b',C,p1,p2,by rw [p3,List.length_map],?_,?_⟩
   ·intro c hc
    obtain ⟨c0,q1,rfl⟩:=List.mem_map.1 hc
    exact U1 (p4 c0 q1)
   ·intro j c hj
    rw [List.getElem?_map] at hj
    cases hcj:cs[j]? with
    | none=>rw [hcj] at hj;cases hj
    | some c0 =>
     rw [hcj] at hj;injection hj with hj;subst hj
     exact N6 himm hp hf (p5 j c0 hcj)
  | row e s l'=>injection hl with hl;subst hl;exact hok.mono (Nat.le_refl _) (fun _ _ _=>rfl) (fun b hb _=>himm b hb) (fun _ _ h=>h) (fun _ _ _ _=>rfl)
  | map ag' ks' l'=>injection hl with hl;subst hl;exact hok.mono (Nat.le_refl _) (fun _ _ _=>rfl) (fun b hb _=>himm b hb) (fun _ _ h=>h) (fun _ _ _ _=>rfl)
 ·intro k hk
  rw [hbox] at hk
  by_cases e:k=id
  ·rw [if_pos e] at hk;cases hk
  ·rw [if_neg e] at hk
   refine hT.unused k ?_
   cases h0:st.box k with
   | unused=>rfl
   | dead=>rw [h0] at hk;cases hk
   | live b0=>rw [h0] at hk;cases b0<;>cases hk
 ·intro i1 i2 b1 b2 b' c1 c2 h1 h2 t1 t2
  obtain ⟨_,x1,l1⟩:=hlive i1 b1 h1
  obtain ⟨_,x2,l2⟩:=hlive i2 b2 h2
  exact hT.apart i1 i2 x1 x2 b' c1 c2 l1 l2 t1 t2
 ·intro k bx b' cap hl hTk hge
  obtain ⟨_,x0,l0⟩:=hlive k bx hl
  exact hT.mine k x0 b' cap l0 hTk hge
end Go.Ab

/- maps.Clone: its copy is a map of the caller's own, or one that nobody writes. -/
namespace Go.Ab
open Go Go.Proofs Go.Shelf
theorem X1 {w:World} {I I':Nat→Prop} {T:Tbl} {l:List (AV×AV)} {E:Array MapEntry} {clock:Nat} {gk gv:Nat→Value} (h1:E.size=l.length) (h2:l.length≤maxLen) (hS:MapKept.Stamped E clock)
  (hent:∀ (i:Nat) (x:AV×AV),l[i]?=some x→∃ s,E[i]?=some (MapEntry.mk (gk i) (gv i) s)) (hk:∀ (i:Nat) (x:AV×AV),l[i]?=some x→Rep w I Tbl.empty (gk i) x.1) (hv:∀ (i:Nat) (x:AV×AV),l[i]?=some x→Rep w I Tbl.empty (gv i) x.2)
  (hI:∀ b,I b→b<w.heap.size→I' b) (hn:I' w.heap.size):Rep (w.alloc (.map E clock)) I' T (.map (some w.heap.size)) (.fm false l):=by
 have mono:∀ {v c},Rep w I Tbl.empty v c→Rep (w.alloc (.map E clock)) I' Tbl.empty v c:=fun h=>h.mono (by simp) (fun b _ hb=>heap_alloc_old w _ hb) hI (fun _ _ h=>h)
 exact .fm gk gv h1 h2 hS hn (by simp) (heap_alloc_new w _) hent (fun i x hx=>mono (hk i x hx)) (fun i x hx=>mono (hv i x hx))
theorem XR {P:Program} {ρ:Ren} (L:SlLaysW.n5 P ρ) (n:Bool) (l:List (AV×AV)):y5 P (ρ.f 5) [] [] [.fm n l] [] (.fm n l):=by
 intro w I foot gp vals hfl hgl hIf hap hlt hpre hvs hvals
 have hf:foot=[]:=by cases foot<;>simp_all
 have hg:gp=[]:=by cases gp<;>simp_all
 subst hf;subst hg
 have hr:=hvals 0 _ rfl
 have hval:vals=#[vals.getD 0 undef]:=by
  apply Array.ext
  ·simpa using hvs
  ·intro i h1 h2
   have:i=0:=by simp at h2;omega
   subst this
   simp [Array.getD,h1]
 generalize vals.getD 0 undef=v at hr hval
 subst hval
 cases hr with
 | fm0 =>
  refine (AnyW.maps_Clone_nil L w).mono fun e w' ⟨he,hw⟩=>?_
  subst hw
  refine ⟨_,[],he,rfl,rfl,rfl,Nat.le_refl _,fun _ _ _=>rfl,rfl,by simp,by simp,.fm0,by simp⟩
 | fm gk gv h1 h2 hS hI hblt hh hent hk hv =>
  refine (AnyW.maps_Clone L _ _ _ w hh).mono fun e w' ⟨he,hw⟩=>?_
  subst hw
  refine ⟨_,[],he,rfl,rfl,rfl,by simp,fun b hb _=>heap_alloc_old w _ hb,rfl,by simp,by simp,?_,by simp⟩
  exact X1 h1 h2 hS hent hk hv (fun b hb hlt=>.inl ⟨hb,hlt⟩) (.inr ⟨.inl (Nat.le_refl _),by simp⟩)
theorem zDK {P:Program} {ρ:Ren} (L:SlLaysW.n5 P ρ) (ag:Bool) (ks:List KSh) (l:List (AV×AV)) (n:Bool) (hn:n=false) (hks:∀ x∈l,uP ag ks x.1=true):y5 P (ρ.f 5) [] [] [.fm n l] [.map ag ks l] (.mp 0):=by
 subst hn
 intro w I foot gp vals hfl hgl hIf hap hlt hpre hvs hvals
 have hf:foot=[]:=by cases foot<;>simp_all
 have hg:gp=[]:=by cases gp<;>simp_all
 subst hf;subst hg
 have hr:=hvals 0 _ rfl
 have hval:vals=#[vals.getD 0 undef]:=by
  apply Array.ext
  ·simpa using hvs
  ·intro i h1 h2
   have:i=0:=by simp at h2;omega
   subst this
   simp [Array.getD,h1]
 generalize vals.getD 0 undef=v at hr hval
 subst hval
 cases hr with
 | fm gk gv h1 h2 hS hI hblt hh hent hk hv =>
  rename_i b E clock
  refine (AnyW.maps_Clone L _ _ _ w hh).mono fun e w' ⟨he,hw⟩=>?_
  subst hw
  refine ⟨_,[.at w.heap.size 0],he,rfl,rfl,rfl,by simp,fun b hb _=>heap_alloc_old w _ hb,rfl,?_,?_,.mp rfl,?_⟩
  ·intro b cap hm
   simp only [List.mem_singleton,wW.at.injEq] at hm
   exact .inl (by omega)
  ·intro i j b c c' hi hj
   have h1:i=0:=by cases i with | zero=>rfl | succ i=>simp at hi
   have h2:j=0:=by cases j with | zero=>rfl | succ j=>simp at hj
   omega
  ·intro i bx hi
   have h0:i=0:=by cases i with | zero=>rfl | succ i=>simp at hi
   subst h0
   simp only [List.getElem?_cons_zero,Option.some.injEq] at hi
   subst hi
   have mono:∀ {v c},Rep w I Tbl.empty v c→Rep (w.alloc (.map E clock)) (kept I w [] [.at w.heap.size 0]) Tbl.empty v c:=fun h=>h.mono (by simp) (fun b _ hb=>heap_alloc_old w _ hb) (fun b hb hlt=>.inl ⟨hb,hlt⟩) (fun _ _ h=>h)
   refine ⟨w.heap.size,_,_,rfl,heap_alloc_new w _,h1,h2,hS,hks,fun i x hx=>?_⟩
   obtain ⟨s,hs⟩:=hent i x hx
   exact ⟨_,hs,mono (hk i x hx),mono (hv i x hx)⟩
theorem RJ {α β:Type} {f:α→AV} {g:β→AV} {ag:Bool} {ks:List KSh} {L:List (α×β)} (h:∀ a,uP ag ks (f a)=true):∀ x∈List.map (mpE f g) L,uP ag ks x.1=true:=by
 intro x hx
 obtain ⟨y,_,rfl⟩:=List.mem_map.1 hx
 exact h _
end Go.Ab

/- The rules in a tighter form: a region's hints and conditions as items, its new state as a change of the old one. -/
namespace Go.Ab
open Go
abbrev Sb (l:List Int):AV:=.sl false 1 (Mb l)
abbrev Ss (l:List (List Int)):AV:=.sl false 1 (Ms l)
abbrev Sq {α:Type} (n:Nat) (f:α→AV) (l:List α):AV:=.sl false n (List.map f l)
abbrev Fb:Int→AV:=AV.int .u8
abbrev Fi:Int→AV:=AV.int .i64
class Mx (P:Program):Prop where
 h:P.follows .mixedOrders=true
structure It where
 hs:List (Nat×xN)→List (Nat×xN)
 vc:List Prop→List Prop
 ok:∀ r,tG r→tG (vc r)
noncomputable def HK (p:Prop) (r:List Prop) (n:Nat):List Prop:=@Nat.rec (fun _=>List Prop) r (fun _ x=>p::x) n
theorem JN {p:Prop} (h:p) {r:List Prop} (hr:tG r):∀ n,tG (HK p r n)
 | 0=>hr
 | n+1=>⟨h,JN h hr n⟩
noncomputable def ihs (l:List It):List (Nat×xN):=@List.rec It (fun _=>List (Nat×xN)) [] (fun x _ r=>x.hs r) l
noncomputable def ivc (l:List It):List Prop:=@List.rec It (fun _=>List Prop) [] (fun x _ r=>x.vc r) l
theorem iok:∀ l:List It,tG (ivc l)
 | []=>trivial
 | x::r=>x.ok _ (iok r)
noncomputable def hgs (r:List (Nat×xN)) (a c:Nat):List (Nat×xN):=@Nat.rec (fun _=>List (Nat×xN)) r (fun i x=>(a+i,Hg)::x) c
def iC {p:Prop} (h:p):It:=⟨fun r=>r,fun r=>p::r,fun _ t=>⟨h,t⟩⟩
def iA {α:Type} (x:α):It:=⟨fun r=>r,fun r=>(x=x)::r,fun _ t=>⟨rfl,t⟩⟩
noncomputable def iX (n:Nat):It:=⟨fun r=>r,fun r=>HK (true=!false) r n,fun _ t=>JN rfl t n⟩
noncomputable def iR (n:Nat) {p:Prop} (h:p):It:=⟨fun r=>r,fun r=>HK p r n,fun _ t=>JN h t n⟩
noncomputable def iQ {α:Type} (n:Nat) (x:α):It:=⟨fun r=>r,fun r=>HK (x=x) r n,fun _ t=>JN rfl t n⟩
def iZ:It:=iC zft
def i0:It:=iC (by decide:(0:Int)≤(0:Int))
def iH (k:Nat) (h:xN):It:=⟨fun r=>(k,h)::r,fun r=>r,fun _ t=>t⟩
noncomputable def iG (a c:Nat):It:=⟨fun r=>hgs r a c,fun r=>r,fun _ t=>t⟩
def iN {α:Type} (k:Nat) (f:α→AV) (l:List α):It:=⟨fun r=>(k,{ n:=l.length })::r,fun r=>((List.map f l).length=l.length)::r,fun _ t=>⟨by simp,t⟩⟩
def iM {α:Type} (f:α→AV) (l:List α):It:=⟨fun r=>r,fun r=>(l.length=(List.map f l).length)::r,fun _ t=>⟨by simp,t⟩⟩
def iF {α:Type} {l:List α} {i:Int} {x:α} (k:Nat) (f:α→AV) (h:xI l i=some x):It:=⟨fun r=>(k,{ av:=f x })::r,fun r=>(bM (l.map f) i=some (f x))::r,fun _ t=>⟨G1 h,t⟩⟩
def iS {α:Type} (k:Nat) (f:α→AV) (b:List α) (i j:Int) (h0:0≤i) (h1:i≤j) (h2:j≤b.length):It :=
 ⟨fun r=>(k,{ l:=List.map f (sub b i j) })::r,fun r=>(0≤i)::(i≤j)::(j≤(((List.map f b).length:Nat):Int))::((sub b i j).map f=((b.map f).take j.toNat).drop i.toNat)::r,fun _ t=>⟨h0,h1,M1 h2,TD _ _ _,t⟩⟩
def iT {α:Type} (k:Nat) (f:α→AV) (b:List α) (i:Int) (h0:0≤i) (h1:i≤b.length):It :=
 ⟨fun r=>(k,{ l:=List.map f (sub b i (lN b)) })::r,fun r=>(0≤i)::(i≤(((List.map f b).length:Nat):Int))::((((List.map f b).length:Nat):Int)≤(((List.map f b).length:Nat):Int))::((sub b i (lN b)).map f=((b.map f).take ((((b.map f).length:Nat):Int)).toNat).drop i.toNat)::r,fun _ t=>⟨h0,M1 h1,Int.le_refl _,V3 _ _,t⟩⟩
def iP {α:Type} (k id:Nat) (f:α→AV) (a b:List α) (w:Nat) (h:(a.length+b.length) * w≤140737488355328):It :=
 ⟨fun r=>(k,{ id:=id,l:=List.map f (a++b),n:=(a++b).length })::r,fun r=>(List.map f (a++b)=List.map f a++List.map f b)::((a++b).length=(List.map f (a++b)).length)::(((List.map f a).length+(List.map f b).length) * w≤140737488355328)::r,fun _ t=>⟨List.map_append,by simp,by simpa using h,t⟩⟩
def iJ {P:Program} {f:FuncId} {pre post:List Box} {l:List AV} {av:AV} (k:Nat) (hx:xN) (x:List AV) (h:y5 P f pre [] l post av):It :=
 ⟨fun r=>(k,{ hx with av:=av,l:=l,pre:=pre,post:=post })::r,fun r=>(x=x)::(pre.map yA.live=pre.map yA.live)::y5 P f pre [] l post av::r,fun _ t=>⟨rfl,rfl,h,t⟩⟩
def iK {P:Program} {f:FuncId} {pre post:List Box} {l:List AV} {av:AV} (k:Nat) (hx:xN) (h:y5 P f pre [] l post av):It:=iJ k hx l h
def iL {P:Program} {f:FuncId} {pre post:List Box} {l':List AV} {av:AV} (k:Nat) (hx:xN) (l:List AV) (h:y5 P f pre [] l' post av) (hl:tG (bX l l')) (h1:l'.all cS=true:=by kernel_rfl):It:=iJ k hx l (JQ h h1 hl)
def ups {α:Type} (l:List (Nat×α)) (d:List Nat) (nw:List (Nat×α)):List (Nat×α) :=
 nw++l.filter fun p=>!(d.any (Nat.beq p.1)||nw.any fun q=>Nat.beq q.1 p.1)
def kys {α:Type} (l:List (Nat×α)):List Nat:=l.map Prod.fst
def vls {α:Type} (l:List (Nat×α)):List α:=l.map Prod.snd
theorem N1 {α:Type}:∀ l:List (Nat×α),(kys l).zip (vls l)=l
 | []=>rfl
 | (a,b)::r=>by
  show (a,b)::(kys r).zip (vls r)=_
  rw [N1 r]
section
variable {P:Program} {N np:Nat} {K:Exit→AS→Prop} {c:Code} {st:AS} {sl:List (Nat×AV)} {bx:List (Nat×yA)} {n:Nat} [hm:Mx P]
theorem rgX (its:List It) (sl2:List (Nat×AV)) (bx2:List (Nat×yA)) (n':Nat) (hk:K .normal (mk sl2 bx2 n')) (h:kX P N np c (ihs its) sl bx n (kys sl2) (kys bx2) n'=some (ivc its,vls sl2,vls bx2)):AW P N np c K (mk sl bx n):=by
 refine LV (ihs its) (kys sl2) (kys bx2) n' h hm.h (iok its) ?_
 rw [N1,N1];exact hk
theorem r2 (its:List It) (d:List Nat) (nw:List (Nat×AV)) (db:List Nat) (nb:List (Nat×yA)) (n':Nat) (hk:K .normal (mk (ups sl d nw) (ups bx db nb) n'))
  (h:kX P N np c (ihs its) sl bx n (kys (ups sl d nw)) (kys (ups bx db nb)) n'=some (ivc its,vls (ups sl d nw),vls (ups bx db nb)):=by kernel_rfl):AW P N np c K (mk sl bx n):=rgX its _ _ n' hk h
theorem r1 (its:List It) (d:List Nat) (nw:List (Nat×AV)) (hk:K .normal (mk (ups sl d nw) bx n))
  (h:kX P N np c (ihs its) sl bx n (kys (ups sl d nw)) (kys bx) n=some (ivc its,vls (ups sl d nw),vls bx):=by kernel_rfl):AW P N np c K (mk sl bx n):=rgX its _ _ n hk h
theorem r0 (its:List It) (nw:List (Nat×AV)) (hk:K .normal (mk (ups sl [] nw) bx n))
  (h:kX P N np c (ihs its) sl bx n (kys (ups sl [] nw)) (kys bx) n=some (ivc its,vls (ups sl [] nw),vls bx):=by kernel_rfl):AW P N np c K (mk sl bx n):=rgX its _ _ n hk h
theorem rE (its:List It) (sl2:List (Nat×AV)) (bx2:List (Nat×yA)) (n':Nat) (hk:K .normal (mk sl2 bx2 n'))
  (h:kX P N np c (ihs its) sl bx n (kys sl2) (kys bx2) n'=some (ivc its,vls sl2,vls bx2):=by kernel_rfl):AW P N np c K (mk sl bx n):=rgX its _ _ n' hk h
theorem s2 (its:List It) (d:List Nat) (nw:List (Nat×AV)) (db:List Nat) (nb:List (Nat×yA)) (n':Nat) (hk:fP P N np (Code.r c) K .normal (mk (ups sl d nw) (ups bx db nb) n'))
  (h:kX P N np (Code.l c) (ihs its) sl bx n (kys (ups sl d nw)) (kys (ups bx db nb)) n'=some (ivc its,vls (ups sl d nw),vls (ups bx db nb)):=by kernel_rfl) (hc:c=.seq (Code.l c) (Code.r c):=by kernel_rfl):AW P N np c K (mk sl bx n):=lW hc (rgX its _ _ n' hk h)
theorem s1 (its:List It) (d:List Nat) (nw:List (Nat×AV)) (hk:fP P N np (Code.r c) K .normal (mk (ups sl d nw) bx n))
  (h:kX P N np (Code.l c) (ihs its) sl bx n (kys (ups sl d nw)) (kys bx) n=some (ivc its,vls (ups sl d nw),vls bx):=by kernel_rfl) (hc:c=.seq (Code.l c) (Code.r c):=by kernel_rfl):AW P N np c K (mk sl bx n):=lW hc (rgX its _ _ n hk h)
theorem s0 (its:List It) (nw:List (Nat×AV)) (hk:fP P N np (Code.r c) K .normal (mk (ups sl [] nw) bx n))
  (h:kX P N np (Code.l c) (ihs its) sl bx n (kys (ups sl [] nw)) (kys bx) n=some (ivc its,vls (ups sl [] nw),vls bx):=by kernel_rfl) (hc:c=.seq (Code.l c) (Code.r c):=by kernel_rfl):AW P N np c K (mk sl bx n):=lW hc (rgX its _ _ n hk h)
theorem sE (its:List It) (sl2:List (Nat×AV)) (bx2:List (Nat×yA)) (n':Nat) (hk:fP P N np (Code.r c) K .normal (mk sl2 bx2 n'))
  (h:kX P N np (Code.l c) (ihs its) sl bx n (kys sl2) (kys bx2) n'=some (ivc its,vls sl2,vls bx2):=by kernel_rfl) (hc:c=.seq (Code.l c) (Code.r c):=by kernel_rfl):AW P N np c K (mk sl bx n):=lW hc (rgX its _ _ n' hk h)
omit hm in
theorem ch {α:Type} {b:Bool} {x y z:α} (t:Nat) (hf:(bif b then x else y)=z) (h1:b=true→x=z→AW P N np (Code.t c) K st) (h2:b=false→y=z→AW P N np (Code.e c) K st) (hc:c=.cond (.tmp t) (Code.t c) (Code.e c):=by kernel_rfl) (hs:st.slot t=.bool b:=by kernel_rfl):AW P N np c K st :=
 JY hc hs (fun g=>h1 g (xP g hf)) (fun g=>h2 g (xQ g hf))
omit hm in
theorem MJ {R:Code} {t:Nat} {b:Bool} (h1:b=true→AW P N np (Code.t R) K st) (h2:b=false→AW P N np (Code.e R) K st) (hc:R=.cond (.tmp t) (Code.t R) (Code.e R)) (hs:st.slot t=.bool b):fP P N np R K .normal st :=
 JY hc hs h1 h2
theorem c0 {α:Type} {b:Bool} {x y z:α} (its:List It) (t:Nat) (hf:(bif b then x else y)=z) (nw:List (Nat×AV)) (h1:b=true→x=z→AW P N np (Code.t (Code.r c)) K (mk (ups sl [] ((t,.bool b)::nw)) bx n)) (h2:b=false→y=z→AW P N np (Code.e (Code.r c)) K (mk (ups sl [] ((t,.bool b)::nw)) bx n))
  (h:kX P N np (Code.l c) (ihs its) sl bx n (kys (ups sl [] ((t,.bool b)::nw))) (kys bx) n=some (ivc its,vls (ups sl [] ((t,.bool b)::nw)),vls bx):=by kernel_rfl) (hc:c=.seq (Code.l c) (Code.r c):=by kernel_rfl) (hr:Code.r c=.cond (.tmp t) (Code.t (Code.r c)) (Code.e (Code.r c)):=by kernel_rfl)
  (hs:(mk (ups sl [] ((t,.bool b)::nw)) bx n).slot t=.bool b:=by kernel_rfl):AW P N np c K (mk sl bx n) :=
 s0 its _ (MJ (fun g=>h1 g (xP g hf)) (fun g=>h2 g (xQ g hf)) hr hs) h hc
theorem c1 {α:Type} {b:Bool} {x y z:α} (its:List It) (d:List Nat) (t:Nat) (hf:(bif b then x else y)=z) (nw:List (Nat×AV)) (h1:b=true→x=z→AW P N np (Code.t (Code.r c)) K (mk (ups sl d ((t,.bool b)::nw)) bx n)) (h2:b=false→y=z→AW P N np (Code.e (Code.r c)) K (mk (ups sl d ((t,.bool b)::nw)) bx n))
  (h:kX P N np (Code.l c) (ihs its) sl bx n (kys (ups sl d ((t,.bool b)::nw))) (kys bx) n=some (ivc its,vls (ups sl d ((t,.bool b)::nw)),vls bx):=by kernel_rfl) (hc:c=.seq (Code.l c) (Code.r c):=by kernel_rfl) (hr:Code.r c=.cond (.tmp t) (Code.t (Code.r c)) (Code.e (Code.r c)):=by kernel_rfl)
  (hs:(mk (ups sl d ((t,.bool b)::nw)) bx n).slot t=.bool b:=by kernel_rfl):AW P N np c K (mk sl bx n) :=
 s1 its d _ (MJ (fun g=>h1 g (xP g hf)) (fun g=>h2 g (xQ g hf)) hr hs) h hc
omit hm in
theorem am (t:Nat) (b:Bool) (h1:AW P N np c (fun e st'=>e=.normal∧Sub np st' (mk ((t,.bool b)::sl) bx n)) (mk sl bx n)) (h2:K .normal (mk ((t,.bool b)::sl) bx n)):AW P N np c K (mk sl bx n):=x9 _ h1 h2
omit hm in
theorem ad {α:Type} {b:Bool} {x y z:α} (t:Nat) (hf:(bif b then x else y)=z) (h0:AW P N np (Code.l c) (fun e st'=>e=.normal∧Sub np st' (mk ((t,.bool b)::sl) bx n)) (mk sl bx n))
  (h1:b=true→x=z→AW P N np (Code.t (Code.r c)) K (mk ((t,.bool b)::sl) bx n)) (h2:b=false→y=z→AW P N np (Code.e (Code.r c)) K (mk ((t,.bool b)::sl) bx n))
  (hc:c=.seq (Code.l c) (Code.r c):=by kernel_rfl) (hr:Code.r c=.cond (.tmp t) (Code.t (Code.r c)) (Code.e (Code.r c)):=by kernel_rfl) (hs:(mk ((t,.bool b)::sl) bx n).slot t=.bool b:=by kernel_rfl):AW P N np c K (mk sl bx n) :=
 lW hc (x9 _ h0 (MJ (fun g=>h1 g (xP g hf)) (fun g=>h2 g (xQ g hf)) hr hs))
theorem rm {t:Nat} {b b':Bool} {sl0:List (Nat×AV)} {bx0:List (Nat×yA)} {n0:Nat} (its:List It) (hb:b=b')
  (h:kX P N np c (ihs its) sl bx n (t::kys sl0) (kys bx0) n0=some (ivc its,.bool b::vls sl0,vls bx0):=by kernel_rfl):AW P N np c (fun e st'=>e=.normal∧Sub np st' (mk ((t,.bool b')::sl0) bx0 n0)) (mk sl bx n):=by
 subst hb
 exact rgX its ((t,.bool b)::sl0) bx0 n0 ⟨rfl,Sub.refl _ _⟩ h
omit hm in
theorem wz (ρ ids sa ba:List Nat) {vcs:List Prop} (sl2:List (Nat×AV)) (bx2:List (Nat×yA)) (hv:tG vcs) (k:AW P N np c K (mk sl2 bx2 ρ.length))
  (h:wkm np st ρ ids (sl2.map fun p=>bif sa.any (Nat.beq p.1) then .a p.1 p.2 else .s p.1) (bx2.map fun p=>bif ba.any (Nat.beq p.1) then .a p.1 p.2 else .s p.1)=some (vcs,sl2,bx2):=by kernel_rfl):AW P N np c K st:=t7 (fO ρ ids _ _ h hv) k
omit hm in
theorem w0 (ρ ids:List Nat) (sl2:List (Nat×AV)) (bx2:List (Nat×yA)) (k:AW P N np c K (mk sl2 bx2 ρ.length))
  (h:wkm np st ρ ids (sl2.map fun p=>.s p.1) (bx2.map fun p=>.s p.1)=some ([],sl2,bx2):=by kernel_rfl):AW P N np c K st:=t7 (fO ρ ids _ _ h an) k
omit hm in
theorem sI {sl2:List (Nat×AV)} {bx2:List (Nat×yA)} (m:Nat) (sps:List Nat) (h:wkm np st (List.range m) [] (sps.map Sp.s) ((List.range m).map Bp.s)=some ([],sl2,bx2):=by kernel_rfl):Sub np st (mk sl2 bx2 m):=by
 have:=fO (List.range m) [] _ _ h an
 rwa [List.length_range] at this
omit hm in
theorem sJ {sl2:List (Nat×AV)} {bx2:List (Nat×yA)} (ρ sps:List Nat) (h:wkm np st ρ [] (sps.map Sp.s) ((List.range ρ.length).map Bp.s)=some ([],sl2,bx2):=by kernel_rfl):Sub np st (mk sl2 bx2 ρ.length):=fO ρ [] _ _ h an
omit hm in
theorem rx {fn:Func} {post:List Box} {res:AV} (h1:Nat.ble np post.length=true:=by kernel_rfl) (h2:A3 P fn post.length st=some (res,post.map yA.live):=by kernel_rfl):Fin P fn np post res .ret st :=
 ⟨.inr rfl,zle h1,h2⟩
omit hm in
theorem ry {fn:Func} {post:List Box} {res:AV} (h1:Nat.ble np post.length=true:=by kernel_rfl) (h2:A3 P fn post.length st=some (res,post.map yA.live):=by kernel_rfl):Exit.ret=Exit.ret∧MD P fn np post res st :=
 ⟨rfl,zle h1,h2⟩
end
theorem tI {P:Program} {f:FuncId} {pre:List Box} {args:List AV} {post:List Box} {res:AV} (fn:Func) (h:AW P fn.ntmps pre.length (GV fn) (Fin P fn pre.length post res) (mk (dR args) (cP pre) pre.length))
  (hf:P.funcs[f]?=some fn:=by kernel_rfl) (hb:fn.body=some (GV fn):=by kernel_rfl) (hl:Nat.ble args.length fn.ntmps=true:=by kernel_rfl):oA P f pre args post res:=X5 hf hb (zle hl) h
def kS {α β:Type} (P:Program) (o:α⊕β) (np:Nat) (M:α→AS) (fn:Func) (post:β→List Box) (res:β→AV):Exit→AS→Prop :=
 fun e st'=>match o with
 | .inl q=>e=.normal∧Sub np st' (M q)
 | .inr q=>e=.ret∧MD P fn np (post q) (res q) st'
theorem bE {α β:Type} {x:Option α} {f:α→Option β} {r:β} {G:Prop} (h:x.bind f=some r) (k:∀ a,x=some a→f a=some r→G):G :=
 let ⟨a,h1,h2⟩:=aK h
 k a h1 h2
theorem nE {β:Type} {p:Prop} [Decidable p] {f:Unit→Option β} {r:β} {G:Prop} (h:(need p).bind f=some r) (k:p→f ()=some r→G):G :=
 let ⟨_,h1,h2⟩:=aK h
 k (KQ h1) h2
theorem zne:([]:List yA)=[]:=rfl
end Go.Ab
