/- A layer over the model: abstract values and states, and the rules by which the printed proofs go. No conditions. -/
import Derived.Test.YtlnlcciflpncmaaA30
import Derived.DeepKeys4
/- Loops over lists, as the printed functions have them. -/
namespace Go.Ab
open Go
theorem zOa {α σ R:Type} {l:List α} (L:Nat→Int→σ→Option R) (G:Nat→List α→σ→R) (Inv:Nat→σ→Prop)
  (he:∀ n i s,l.length≤i→Inv i s→L (n+1) (i:Nat) s=some (G i [] s))
  (hs:∀ n i s x r,l.drop i=x::r→i<l.length→Inv i s→(∀ s',Inv (i+1) s'→L n ((i+1:Nat):Int) s'=some (G (i+1) r s'))→L (n+1) (i:Nat) s=some (G i (x::r) s)) :
  ∀ n i s,Inv i s→(l.drop i).length<n→L n (i:Nat) s=some (G i (l.drop i) s):=by
 intro n
 induction n with
 | zero=>intro i s _ h;omega
 | succ n ih =>
  intro i s hI hn
  rcases hd:l.drop i with _ | ⟨x,r⟩
  ·exact he n i s (wO hd) hI
  ·refine hs n i s x r hd (vA hd) hI fun s' hI'=>?_
   have:=ih (i+1) s' hI' (by rw [yD hd];rw [hd] at hn;simp only [List.length_cons] at hn;omega)
   rwa [yD hd] at this
theorem zEi {α σ R:Type} {l:List α} (L:Nat→Int→σ→Option R) (G:Nat→List α→σ→R) (Inv:Nat→σ→Prop)
  (he:∀ n i s,l.length≤i→Inv i s→L (n+1) (i:Nat) s=some (G i [] s))
  (hs:∀ n i s x r,l.drop i=x::r→i<l.length→Inv i s→(∀ s',Inv (i+1) s'→L n ((i+1:Nat):Int) s'=some (G (i+1) r s'))→L (n+1) (i:Nat) s=some (G i (x::r) s))
  {n:Nat} {s:σ} (hI:Inv 0 s) (hn:l.length<n):L n 0 s=some (G 0 l s):=by
 have:=zOa L G Inv he hs n 0 s hI (by simpa using hn)
 simpa using this
theorem xP {i:Nat} (h:i<9223372036854775807):zK ((i:Int)+1)=((i+1:Nat):Int):=by
 rw [w64 (by omega) (by omega)];omega
theorem nY {α:Type} {l:List α} {i:Nat} {x:α} {r:List α} (h:l.drop i=x::r):x∈l:=List.mem_of_mem_drop (h ▸ List.mem_cons_self)
theorem zHM {α:Type} {l:List α} {i:Nat} (h0:0<i) (h:i<9223372036854775807):yC l (zK ((i:Int) - 1))=l[i - 1]?:=by
 rw [w64 (by omega) (by omega),show (i:Int) - 1=((i - 1:Nat):Int) by omega,q7]
def pL {α:Type} {β:Type} (f:Nat→α→Option β):Nat→List α→Unit⊕β
 | _,[]=>.inl ()
 | i,x::r=>match f i x with
  | none=>pL f (i+1) r
  | some b=>.inr b
end Go.Ab

/- Maps of the call's own: typed tables, and what the layer asks of them. -/
namespace Go.Ab
open Go
def mpE {α β:Type} (f:α→AV) (g:β→AV) (p:α×β):AV×AV:=(f p.1,g p.2)
def tJ {α β:Type} [DecidableEq α]:List (α×β)→α→Option β
 | [],_=>none
 | p::l,k=>if p.1=k then some p.2 else tJ l k
def t3 {α β:Type} [DecidableEq α]:List (α×β)→α→β→List (α×β)
 | [],k,v=>[(k,v)]
 | p::l,k,v=>if p.1=k then (k,v)::l else p::t3 l k v
section
variable {α β:Type} [DecidableEq α] {f:α→AV} {g:β→AV}
theorem zEe {l:List (α×β)} {k:α} (h:tJ l k=none):∀ p∈l,p.1≠k:=by
 induction l with
 | nil=>intro p hp;cases hp
 | cons q l ih =>
  unfold tJ at h
  split at h
  ·cases h
  ·rename_i hq
   intro p hp
   rcases List.mem_cons.1 hp with rfl | hp
   ·exact hq
   ·exact ih h p hp
theorem zHQ {l:List (α×β)} {k:α} {v:β} (h:tJ l k=some v):∃ (i:Nat) (p:α×β),l[i]?=some p∧p.1=k∧p.2=v∧∀ w,t3 l k w=l.set i (k,w):=by
 induction l with
 | nil=>cases h
 | cons q l ih =>
  unfold tJ at h
  split at h
  ·rename_i hq
   injection h with h
   exact ⟨0,q,rfl,hq,h,fun w=>by simp [t3,hq]⟩
  ·rename_i hq
   obtain ⟨i,p,h1,h2,h3,h4⟩:=ih h
   exact ⟨i+1,p,by simpa using h1,h2,h3,fun w=>by simp [t3,hq,h4]⟩
theorem zMm {l:List (α×β)} {k:α} (h:∀ p∈l,p.1≠k) (v:β):t3 l k v=l++[(k,v)]:=by
 induction l with
 | nil=>rfl
 | cons q l ih =>
  unfold t3
  rw [if_neg (h q (List.mem_cons_self ..)),ih fun p hp=>h p (List.mem_cons_of_mem _ hp)];rfl
theorem zHJ (hf:∀ a b,f a=f b→a=b) (l:List (α×β)) (k:α) (z:β):zGW (l.map (mpE f g)) (f k) (g z) (g ((tJ l k).getD z)) (tJ l k).isSome:=by
 cases h:tJ l k with
 | none =>
  refine .inr ⟨fun x hx=>?_,rfl,rfl⟩
  obtain ⟨p,hp,rfl⟩:=List.mem_map.1 hx
  exact fun e=>zEe h p hp (hf _ _ e)
 | some v =>
  obtain ⟨i,p,h1,h2,h3,_⟩:=zHQ h
  exact .inl ⟨i,mpE f g p,by rw [List.getElem?_map,h1];rfl,by simp [mpE,h2],by simp [mpE,h3],rfl⟩
theorem zI2 (hf:∀ a b,f a=f b→a=b) (l:List (α×β)) (k:α) (v:β):zI0 (l.map (mpE f g)) (f k) (g v) ((t3 l k v).map (mpE f g)):=by
 cases h:tJ l k with
 | none =>
  refine .inr ⟨fun x hx=>?_,?_⟩
  ·obtain ⟨p,hp,rfl⟩:=List.mem_map.1 hx
   exact fun e=>zEe h p hp (hf _ _ e)
  ·rw [zMm (zEe h)];simp [mpE]
 | some v0 =>
  obtain ⟨i,p,h1,h2,h3,h4⟩:=zHQ h
  exact .inl ⟨i,mpE f g p,by rw [List.getElem?_map,h1];rfl,by simp [mpE,h2],by rw [h4,List.map_set];rfl⟩
omit [DecidableEq α] in
theorem zKL {l:List (α×β)} (h:l.length<140737488355328):(l.map (mpE f g)).length<maxLen:=by
 rw [List.length_map,xR];omega
end
theorem zMc {α:Type} [DecidableEq α] {f:α→AV} (hf:∀ a b,f a=f b→a=b) (a b:α):decide (a=b)=true↔f a=f b:=by
 rw [decide_eq_true_iff];exact ⟨fun h=>by rw [h],hf a b⟩
theorem zKO:∀ a b:List Int,AV.str a=AV.str b→a=b:=fun _ _ h=>AV.str.inj h
theorem zLx {k:IntKind} {n:Int} (h:k.wrap n=n):(Lit.int k n).wf=true:=by
 have:=zC1 h
 simp only [Lit.wf,Bool.and_eq_true,decide_eq_true_eq];exact this
theorem zLZ {P:Program} {k:TypeId} (h:P.underlying k=some .string):kO P k false [.str]:=by
 refine ⟨Maps.string_keyed h,fun w I T v a hr hm=>?_⟩
 cases a<;>simp [jP,kcs,kc] at hm
 cases hr with
 | str h1 h2=>exact ⟨_,by simp [keyOf,h,mapKey,x7,ByteArray.size,h2];rfl⟩
end Go.Ab

/- Keys that are arrays or structs. -/
namespace Go.Ab
open Go
def zK5 (g:TypeId→Option (List KSh)) (cell:TypeId→Nat):Nat→List Field→Option (List KSh)
 | _,[]=>some []
 | o,f::r =>
  match g f.type,zK5 g cell (o+cell f.type) r with
  | some a, some b => bif Nat.beq f.offset o && (Nat.beq (cell f.type) a.length && (f.name != "_")) then some (a ++ b) else none
  | _,_=>none
def zGy (P:Program):Nat→TypeId→Option (List KSh)
 | 0,_=>none
 | d+1,t =>
  match P.underlying t with
  | some .bool=>some [.bool]
  | some (.int q)=>some [.int q]
  | some .string=>some [.str]
  | some (.array n e) =>
   match zGy P d e with
   | some ks=>bif Nat.beq (P.cellsOf e) ks.length&&Nat.beq (P.cellsOf t) (n * ks.length) then some (List.replicate n ks).flatten else none
   | none=>none
  | some (.struct fs) =>
   match zK5 (zGy P d) P.cellsOf 0 fs.toList with
   | some ks=>bif Nat.beq (P.cellsOf t) ks.length then some ks else none
   | none=>none
  | _=>none
def vk:KSh→Value→Prop
 | .int q,.int q' n=>q'=q∧(Lit.int q n).wf=true
 | .bool,.bool _=>True
 | .str,.string s=>s.size≤maxLen
 | _,_=>False
inductive VM:List KSh→List Value→Prop
 | nil:VM [] []
 | cons {k v ks vs}:vk k v→VM ks vs→VM (k::ks) (v::vs)
theorem VM.len {ks:List KSh} {cs:List Value} (h:VM ks cs):ks.length=cs.length:=by
 induction h with
 | nil=>rfl
 | cons _ _ ih=>simp [ih]
theorem VM.app {a b:List KSh} {cs:List Value} (h:VM (a++b) cs):VM a (cs.take a.length)∧VM b (cs.drop a.length):=by
 induction a generalizing cs with
 | nil=>exact ⟨by simpa using VM.nil,by simpa using h⟩
 | cons x a ih =>
  cases h with
  | cons h1 h2 =>
   obtain ⟨i1,i2⟩:=ih h2
   exact ⟨by simpa using VM.cons h1 i1,by simpa using i2⟩
theorem VM.part {ks:List KSh}:∀ {n:Nat} {cs:List Value} {i:Nat},VM (List.replicate n ks).flatten cs→i<n→VM ks ((cs.drop (i * ks.length)).take ks.length):=by
 intro n
 induction n with
 | zero=>intro cs i _ h;omega
 | succ n ih =>
  intro cs i h hi
  rw [List.replicate_succ,List.flatten_cons] at h
  obtain ⟨h1,h2⟩:=h.app
  cases i with
  | zero=>simpa using h1
  | succ i =>
   have:=ih (i:=i) h2 (by omega)
   rw [List.drop_drop] at this
   rw [Nat.add_mul,Nat.one_mul,Nat.add_comm]
   exact this
theorem zHN {α β:Type} {f:α→Option β}:∀ (l:List α),(∀ x∈l,∃ b,f x=some b)→∃ bs,l.mapM f=some bs:=by
 intro l
 induction l with
 | nil=>intro _;exact ⟨[],rfl⟩
 | cons x l ih =>
  intro h
  obtain ⟨b,hb⟩:=h x (List.mem_cons_self ..)
  obtain ⟨bs,hbs⟩:=ih fun y hy=>h y (List.mem_cons_of_mem _ hy)
  exact ⟨b::bs,by simp [List.mapM_cons,hb,hbs]⟩
theorem zLG {g:TypeId→Option (List KSh)} {cell:TypeId→Nat}:∀ (fs:List Field) (o:Nat) (ks:List KSh) (cs:List Value),zK5 g cell o fs=some ks→o≤cs.length→VM ks (cs.drop o) →
  ∀ f ∈ fs, (f.name != "_") = true ∧ ∃ a, g f.type = some a ∧ VM a ((cs.drop f.offset).take (cell f.type)) := by
 intro fs
 induction fs with
 | nil=>intro o ks cs _ _ _ f hf;cases hf
 | cons x r ih =>
  intro o ks cs h ho hv f hf
  unfold zK5 at h
  split at h
  case h_2=>cases h
  rename_i a b ha hb
  replace h:=zV h;obtain ⟨hc,h⟩:=h
  simp only [Bool.and_eq_true] at hc
  have e1:=yS.1 hc.1
  have e2:=yS.1 hc.2.1
  injection h with h;subst h
  obtain ⟨v1,v2⟩:=hv.app
  rcases List.mem_cons.1 hf with rfl | hf
  ·exact ⟨hc.2.2,a,ha,by rw [e1,e2];exact v1⟩
  ·have hl:=hv.len
   rw [List.length_append,List.length_drop] at hl
   refine ih (o+cell x.type) b cs hb (by omega) ?_ f hf
   rw [List.drop_drop] at v2
   rw [e2];exact v2
theorem zJH {P:Program}:∀ (d:Nat) (t:TypeId) (ks:List KSh) (cs:List Value),zGy P d t=some ks→VM ks cs→∃ ls,P.keyLits d t cs=some ls:=by
 intro d
 induction d with
 | zero=>intro t ks cs h;cases h
 | succ d ih =>
  intro t ks cs h hv
  unfold zGy at h
  unfold Program.keyLits
  split at h
  ·rename_i hu
   injection h with h;subst h
   cases hv with
   | cons h1 h2=>cases h2;rename_i v;cases v<;>simp [vk] at h1;rw [hu];exact ⟨_,rfl⟩
  ·rename_i q hu
   injection h with h;subst h
   cases hv with
   | cons h1 h2=>cases h2;rename_i v;cases v<;>simp [vk] at h1;rw [hu];simp [h1]
  ·rename_i hu
   injection h with h;subst h
   cases hv with
   | cons h1 h2=>cases h2;rename_i v;cases v<;>simp [vk] at h1;rw [hu];simp [h1]
  ·rename_i n e hu
   split at h
   case h_2=>cases h
   rename_i ks' hk
   replace h:=zV h;obtain ⟨hc,h⟩:=h
   simp only [Bool.and_eq_true] at hc
   have e1:=yS.1 hc.1
   have e2:=yS.1 hc.2
   injection h with h;subst h
   have hl:=hv.len
   have hl2:(List.replicate n ks').flatten.length=n * ks'.length:=by simp
   rw [hu]
   simp only
   rw [if_pos (by omega)]
   obtain ⟨bs,hbs⟩:=zHN (f:=fun i=>P.keyLits d e ((cs.drop (i * P.cellsOf e)).take (P.cellsOf e))) (List.range n) (fun i hi=>by
    rw [e1]
    exact ih e ks' _ hk (hv.part (List.mem_range.1 hi)))
   rw [hbs];exact ⟨_,rfl⟩
  ·rename_i fs hu
   split at h
   case h_2=>cases h
   rename_i ks' hk
   replace h:=zV h;obtain ⟨hc,h⟩:=h
   have e1:=yS.1 hc
   injection h with h;subst h
   have hl:=hv.len
   have hspec:=zLG fs.toList 0 ks' cs hk (by omega) (by simpa using hv)
   rw [hu]
   simp only
   rw [if_pos ⟨by omega,by rw [← Array.all_toList];exact List.all_eq_true.2 fun f hf=>(hspec f hf).1⟩]
   obtain ⟨bs,hbs⟩:=zHN (f:=fun f:Field=>P.keyLits d f.type ((cs.drop f.offset).take (P.cellsOf f.type))) fs.toList (fun f hf=>by
    obtain ⟨_,a,ha,hva⟩:=hspec f hf
    exact ih f.type a _ ha hva)
   rw [hbs];exact ⟨_,rfl⟩
  ·cases h
theorem zN8 {w:World} {I:Nat→Prop} {T:Tbl} {v:Value} {a:AV} {k:KSh} (h:Rep w I T v a) (hk:kc k a=true):vk k v:=by
 cases k<;>cases a<;>simp [kc] at hk
 ·subst hk
  cases h with
  | int hw=>exact ⟨rfl,zLx hw⟩
 ·cases h;trivial
 ·cases h with
  | str h1 h2=>simpa [vk,x7,ByteArray.size] using h2
theorem zNU {w:World} {I:Nat→Prop} {T:Tbl}:∀ (ks:List KSh) (cs:List AV) (vs:List Value),kcs ks cs=true→vs.length=cs.length→(∀ (j:Nat) (c:AV) (v:Value),cs[j]?=some c→vs[j]?=some v→Rep w I T v c)→VM ks vs:=by
 intro ks
 induction ks with
 | nil=>intro cs vs h hl _;cases cs<;>simp [kcs] at h;simp at hl;subst hl;exact .nil
 | cons k r ih =>
  intro cs vs h hl hr
  cases cs with
  | nil=>simp [kcs] at h
  | cons c s =>
   cases vs with
   | nil=>simp at hl
   | cons v u =>
    simp only [kcs,Bool.and_eq_true] at h
    exact .cons (zN8 (hr 0 c v rfl rfl) h.1) (ih s u h.2 (by simpa using hl) fun j c' v' hc hv=>hr (j+1) c' v' (by simpa using hc) (by simpa using hv))
def zLE (P:Program) (k:TypeId):Bool:=match P.underlying k with | some (.array _ _) | some (.struct _)=>true | _=>false
theorem zLS {P:Program} {k:TypeId} {ks:List KSh} (hl:laidOutB P=true) (hw:zLE P k=true) (hk:(decide (k<P.types.size)&&(P.keyTypeAt 100 k&&(P.keyType k&&Nat.beq (P.cellsOf k) ks.length)))=true) (hs:zGy P (P.types.size+1) k=some ks):kO P k true ks:=by
 simp only [Bool.and_eq_true,decide_eq_true_eq] at hk
 obtain ⟨k1,k2,k3,k4⟩:=hk
 have k4:=yS.1 k4
 refine ⟨Maps.Keyed.of_law (deep_law_laid hl (m:=100) (by omega) k1 k2 hw),fun w I T v a hr hm=>?_⟩
 by_cases ha:∃ cs,a=.agg cs
 ·obtain ⟨cs,rfl⟩:=ha
  simp only [jP,Bool.and_eq_true] at hm
  obtain ⟨l1,_⟩:=zFV hm.2
  cases hr with
  | agg s1 o1 r1 =>
   rename_i vs
   have hvm:VM ks vs.toList:=zNU ks cs vs.toList hm.2 (by simpa using s1) fun j c v hc hv=>by
    have:=r1 j c hc
    rw [Array.getElem?_toList] at hv
    rwa [Array.getD_eq_getD_getElem?,hv] at this
   obtain ⟨ls,hls⟩:=zJH _ _ _ _ hs hvm
   have hf:(Value.agg vs).formed P k=true:=by
    unfold zLE at hw
    unfold Value.formed
    split at hw
    ·rename_i hu;rw [hu];simp;omega
    ·rename_i hu;rw [hu];simp;omega
    ·cases hw
   refine ⟨.string (keyBytes ls),?_⟩
   unfold keyOf
   unfold zLE at hw
   split at hw
   ·rename_i hu;rw [hu];simp only [k3,hf,Bool.and_self,if_true];simp only [Value.cells];rw [hls];rfl
   ·rename_i hu;rw [hu];simp only [k3,hf,Bool.and_self,if_true];simp only [Value.cells];rw [hls];rfl
   ·cases hw
 ·have:(!true&&kcs ks [a])=true:=by
   cases a<;>first | exact hm | exact absurd ⟨_,rfl⟩ ha
  simp at this
end Go.Ab
