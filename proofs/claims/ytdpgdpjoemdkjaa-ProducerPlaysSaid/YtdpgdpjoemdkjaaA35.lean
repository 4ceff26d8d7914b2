/- A layer over the model: abstract values and states, and the rules by which the printed proofs go. No conditions. -/
import Derived.Test.YtdpgdpjoemdkjaaA30
import Derived.DeepKeys4
import Derived.Test.YtdpgdpjoemdkjaaA24
import Derived.Maps.RangeRun
/- Keys that are arrays or structs. -/
namespace Go.Ab
open Go
def zOJ (g:TypeId→Option (List KSh)) (cell:TypeId→Nat):Nat→List Field→Option (List KSh)
 | _,[]=>some []
 | o,f::r =>
  match g f.type,zOJ g cell (o+cell f.type) r with
  | some a, some b => bif Nat.beq f.offset o && (Nat.beq (cell f.type) a.length && (f.name != "_")) then some (a ++ b) else none
  | _,_=>none
def zIU (P:Program):Nat→TypeId→Option (List KSh)
 | 0,_=>none
 | d+1,t =>
  match P.underlying t with
  | some .bool=>some [.bool]
  | some (.int q)=>some [.int q]
  | some .string=>some [.str]
  | some (.array n e) =>
   match zIU P d e with
   | some ks=>bif Nat.beq (P.cellsOf e) ks.length&&Nat.beq (P.cellsOf t) (n * ks.length) then some (List.replicate n ks).flatten else none
   | none=>none
  | some (.struct fs) =>
   match zOJ (zIU P d) P.cellsOf 0 fs.toList with
   | some ks=>bif Nat.beq (P.cellsOf t) ks.length then some ks else none
   | none=>none
  | _=>none
def vk:KSh→Value→Prop
 | .int q,.int q' n=>q'=q∧(Lit.int q n).wf=true
 | .bool,.bool _=>True
 | .str,.string s=>s.size≤maxLen
 | _,_=>False
inductive VM:List KSh→List Value→Prop
 | nil:VM [] []
 | cons {k v ks vs}:vk k v→VM ks vs→VM (k::ks) (v::vs)
theorem VM.len {ks:List KSh} {cs:List Value} (h:VM ks cs):ks.length=cs.length:=by
 induction h with
 | nil=>rfl
 | cons _ _ ih=>simp [ih]
theorem VM.app {a b:List KSh} {cs:List Value} (h:VM (a++b) cs):VM a (cs.take a.length)∧VM b (cs.drop a.length):=by
 induction a generalizing cs with
 | nil=>exact ⟨by simpa using VM.nil,by simpa using h⟩
 | cons x a ih =>
  cases h with
  | cons h1 h2 =>
   obtain ⟨i1,i2⟩:=ih h2
   exact ⟨by simpa using VM.cons h1 i1,by simpa using i2⟩
theorem VM.part {ks:List KSh}:∀ {n:Nat} {cs:List Value} {i:Nat},VM (List.replicate n ks).flatten cs→i<n→VM ks ((cs.drop (i * ks.length)).take ks.length):=by
 intro n
 induction n with
 | zero=>intro cs i _ h;omega
 | succ n ih =>
  intro cs i h hi
  rw [List.replicate_succ,List.flatten_cons] at h
  obtain ⟨h1,h2⟩:=h.app
  cases i with
  | zero=>simpa using h1
  | succ i =>
   have:=ih (i:=i) h2 (by omega)
   rw [List.drop_drop] at this
   rw [Nat.add_mul,Nat.one_mul,Nat.add_comm]
   exact this
theorem zKN {α β:Type} {f:α→Option β}:∀ (l:List α),(∀ x∈l,∃ b,f x=some b)→∃ bs,l.mapM f=some bs:=by
 intro l
 induction l with
 | nil=>intro _;exact ⟨[],rfl⟩
 | cons x l ih =>
  intro h
  obtain ⟨b,hb⟩:=h x (List.mem_cons_self ..)
  obtain ⟨bs,hbs⟩:=ih fun y hy=>h y (List.mem_cons_of_mem _ hy)
  exact ⟨b::bs,by simp [List.mapM_cons,hb,hbs]⟩
theorem zP8 {g:TypeId→Option (List KSh)} {cell:TypeId→Nat}:∀ (fs:List Field) (o:Nat) (ks:List KSh) (cs:List Value),zOJ g cell o fs=some ks→o≤cs.length→VM ks (cs.drop o) →
  ∀ f ∈ fs, (f.name != "_") = true ∧ ∃ a, g f.type = some a ∧ VM a ((cs.drop f.offset).take (cell f.type)) := by
 intro fs
 induction fs with
 | nil=>intro o ks cs _ _ _ f hf;cases hf
 | cons x r ih =>
  intro o ks cs h ho hv f hf
  unfold zOJ at h
  split at h
  case h_2=>cases h
  rename_i a b ha hb
  replace h:=yK h;obtain ⟨hc,h⟩:=h
  simp only [Bool.and_eq_true] at hc
  have e1:=x9.1 hc.1
  have e2:=x9.1 hc.2.1
  injection h with h;subst h
  obtain ⟨v1,v2⟩:=hv.app
  rcases List.mem_cons.1 hf with rfl | hf
  ·exact ⟨hc.2.2,a,ha,by rw [e1,e2];exact v1⟩
  ·have hl:=hv.len
   rw [List.length_append,List.length_drop] at hl
   refine ih (o+cell x.type) b cs hb (by omega) ?_ f hf
   rw [List.drop_drop] at v2
   rw [e2];exact v2
theorem zMg {P:Program}:∀ (d:Nat) (t:TypeId) (ks:List KSh) (cs:List Value),zIU P d t=some ks→VM ks cs→∃ ls,P.keyLits d t cs=some ls:=by
 intro d
 induction d with
 | zero=>intro t ks cs h;cases h
 | succ d ih =>
  intro t ks cs h hv
  unfold zIU at h
  unfold Program.keyLits
  split at h
  ·rename_i hu
   injection h with h;subst h
   cases hv with
   | cons h1 h2=>cases h2;rename_i v;cases v<;>simp [vk] at h1;rw [hu];exact ⟨_,rfl⟩
  ·rename_i q hu
   injection h with h;subst h
   cases hv with
   | cons h1 h2=>cases h2;rename_i v;cases v<;>simp [vk] at h1;rw [hu];simp [h1]
  ·rename_i hu
   injection h with h;subst h
   cases hv with
   | cons h1 h2=>cases h2;rename_i v;cases v<;>simp [vk] at h1;rw [hu];simp [h1]
  ·rename_i n e hu
   split at h
   case h_2=>cases h
   rename_i ks' hk
   replace h:=yK h;obtain ⟨hc,h⟩:=h
   simp only [Bool.and_eq_true] at hc
   have e1:=x9.1 hc.1
   have e2:=x9.1 hc.2
   injection h with h;subst h
   have hl:=hv.len
   have hl2:(List.replicate n ks').flatten.length=n * ks'.length:=by simp
   rw [hu]
   simp only
   rw [if_pos (by omega)]
   obtain ⟨bs,hbs⟩:=zKN (f:=fun i=>P.keyLits d e ((cs.drop (i * P.cellsOf e)).take (P.cellsOf e))) (List.range n) (fun i hi=>by
    rw [e1]
    exact ih e ks' _ hk (hv.part (List.mem_range.1 hi)))
   rw [hbs];exact ⟨_,rfl⟩
  ·rename_i fs hu
   split at h
   case h_2=>cases h
   rename_i ks' hk
   replace h:=yK h;obtain ⟨hc,h⟩:=h
   have e1:=x9.1 hc
   injection h with h;subst h
   have hl:=hv.len
   have hspec:=zP8 fs.toList 0 ks' cs hk (by omega) (by simpa using hv)
   rw [hu]
   simp only
   rw [if_pos ⟨by omega,by rw [← Array.all_toList];exact List.all_eq_true.2 fun f hf=>(hspec f hf).1⟩]
   obtain ⟨bs,hbs⟩:=zKN (f:=fun f:Field=>P.keyLits d f.type ((cs.drop f.offset).take (P.cellsOf f.type))) fs.toList (fun f hf=>by
    obtain ⟨_,a,ha,hva⟩:=hspec f hf
    exact ih f.type a _ ha hva)
   rw [hbs];exact ⟨_,rfl⟩
  ·cases h
theorem zSj {w:World} {I:Nat→Prop} {T:Tbl} {v:Value} {a:AV} {k:KSh} (h:Rep w I T v a) (hk:kc k a=true):vk k v:=by
 cases k<;>cases a<;>simp [kc] at hk
 ·subst hk
  cases h with
  | int hw=>exact ⟨rfl,zOV hw⟩
 ·cases h;trivial
 ·cases h with
  | str h1 h2=>simpa [vk,v9,ByteArray.size] using h2
theorem zRW {w:World} {I:Nat→Prop} {T:Tbl}:∀ (ks:List KSh) (cs:List AV) (vs:List Value),kcs ks cs=true→vs.length=cs.length→(∀ (j:Nat) (c:AV) (v:Value),cs[j]?=some c→vs[j]?=some v→Rep w I T v c)→VM ks vs:=by
 intro ks
 induction ks with
 | nil=>intro cs vs h hl _;cases cs<;>simp [kcs] at h;simp at hl;subst hl;exact .nil
 | cons k r ih =>
  intro cs vs h hl hr
  cases cs with
  | nil=>simp [kcs] at h
  | cons c s =>
   cases vs with
   | nil=>simp at hl
   | cons v u =>
    simp only [kcs,Bool.and_eq_true] at h
    exact .cons (zSj (hr 0 c v rfl rfl) h.1) (ih s u h.2 (by simpa using hl) fun j c' v' hc hv=>hr (j+1) c' v' (by simpa using hc) (by simpa using hv))
def zOF (P:Program) (k:TypeId):Bool:=match P.underlying k with | some (.array _ _) | some (.struct _)=>true | _=>false
theorem zKA {P:Program} {k:TypeId} {ks:List KSh} (hl:laidOutB P=true) (hw:zOF P k=true) (hk:(decide (k<P.types.size)&&(P.keyTypeAt 100 k&&(P.keyType k&&Nat.beq (P.cellsOf k) ks.length)))=true) (hs:zIU P (P.types.size+1) k=some ks):zAc P k true ks:=by
 simp only [Bool.and_eq_true,decide_eq_true_eq] at hk
 obtain ⟨k1,k2,k3,k4⟩:=hk
 have k4:=x9.1 k4
 refine ⟨Maps.Keyed.of_law (deep_law_laid hl (m:=100) (by omega) k1 k2 hw),fun w I T v a hr hm=>?_⟩
 by_cases ha:∃ cs,a=.agg cs
 ·obtain ⟨cs,rfl⟩:=ha
  simp only [nQ,Bool.and_eq_true] at hm
  obtain ⟨l1,_⟩:=zIr hm.2
  cases hr with
  | agg s1 o1 r1 =>
   rename_i vs
   have hvm:VM ks vs.toList:=zRW ks cs vs.toList hm.2 (by simpa using s1) fun j c v hc hv=>by
    have:=r1 j c hc
    rw [Array.getElem?_toList] at hv
    rwa [Array.getD_eq_getD_getElem?,hv] at this
   obtain ⟨ls,hls⟩:=zMg _ _ _ _ hs hvm
   have hf:(Value.agg vs).formed P k=true:=by
    unfold zOF at hw
    unfold Value.formed
    split at hw
    ·rename_i hu;rw [hu];simp;omega
    ·rename_i hu;rw [hu];simp;omega
    ·cases hw
   refine ⟨.string (keyBytes ls),?_⟩
   unfold keyOf
   unfold zOF at hw
   split at hw
   ·rename_i hu;rw [hu];simp only [k3,hf,Bool.and_self,if_true];simp only [Value.cells];rw [hls];rfl
   ·rename_i hu;rw [hu];simp only [k3,hf,Bool.and_self,if_true];simp only [Value.cells];rw [hls];rfl
   ·cases hw
 ·have:(!true&&kcs ks [a])=true:=by
   cases a<;>first | exact hm | exact absurd ⟨_,rfl⟩ ha
  simp at this
end Go.Ab

/- Typed tables for maps: what a zBF-up gives behind a store; lists that are read in part. -/
namespace Go.Ab
open Go
theorem zPO {α β:Type} [DecidableEq α]:∀ (l:List (α×β)) (k k':α) (v:β),j3 (kG l k v) k'=if k=k' then some v else j3 l k':=by
 intro l
 induction l with
 | nil=>intro k k' v;rfl
 | cons p l ih =>
  intro k k' v
  unfold kG
  by_cases hp:p.1=k
  ·rw [if_pos hp]
   simp only [j3]
   by_cases hk:k=k'
   ·rw [if_pos hk,if_pos hk]
   ·rw [if_neg hk,if_neg hk,if_neg (by rw [hp];exact hk)]
  ·rw [if_neg hp]
   simp only [j3]
   rw [ih]
   by_cases hk:k=k'
   ·rw [if_pos hk,if_pos hk,if_neg (by rw [← hk];exact hp)]
   ·rw [if_neg hk,if_neg hk]
theorem zQv {α β:Type} [DecidableEq α]:∀ (l:List (α×β)) (k:α) (v:β),(kG l k v).length≤l.length+1:=by
 intro l
 induction l with
 | nil=>intro k v;simp [kG]
 | cons p l ih =>
  intro k v
  unfold kG
  split
  ·simp
  ·have:=ih k v;simp only [List.length_cons];omega
def zNb {α:Type} [DecidableEq α] (t:List (α×Bool)) (l:List α):Prop:=t.length≤l.length∧∀ x,(j3 t x).getD false=decide (x∈l)
theorem zLM {α:Type} [DecidableEq α]:zNb ([]:List (α×Bool)) []:=⟨Nat.le_refl _,fun x=>by simp [j3]⟩
theorem zNi {α:Type} [DecidableEq α] {t:List (α×Bool)} {l:List α} (h:zNb t l) (x:α):zNb (kG t x true) (l++[x]):=by
 refine ⟨by have:=zQv t x true;have:=h.1;simp only [List.length_append,List.length_singleton];omega,fun y=>?_⟩
 rw [zPO]
 by_cases hy:x=y
 ·rw [if_pos hy];simp [hy]
 ·rw [if_neg hy,h.2];simp [Ne.symm hy]
theorem zNq {α:Type} (l:List α) (i:Nat):sub l 0 (i:Int)=l.take i:=by simp [sub]
theorem zAL {α:Type} {l:List α} {i:Nat} {x:α} {r:List α} (h:l.drop i=x::r):l.take (i+1)=l.take i++[x]:=by
 rw [List.take_add_one]
 have:=congrArg (·[0]?) h
 simp at this
 rw [this];rfl
theorem zID {α:Type} {l:List α} {i:Nat} {x:α} {r:List α} (h:l.drop i=x::r):(l.take i).length=i:=by
 have:=jN h
 rw [List.length_take];omega
theorem zH2 {α:Type} {l:List α} {i:Nat} {x:α} {r:List α} (h:l.drop i=x::r):l[i]?=some x:=by
 have:=congrArg (·[0]?) h
 simpa using this
theorem zRr {α:Type} {c:Bool} {x y z:α} (hc:c=true) (h:x=z):(bif c then x else y)=z:=by rw [hc];exact h
theorem zKt {p q:Prop} [Decidable p] [Decidable q] (h:p∨q):(decide p||decide q)=true:=by simpa using h
theorem zLO {p q:Prop} [Decidable p] [Decidable q] (h:¬(p∨q)):(decide p||decide q)=false:=by simpa using h
theorem zEK {α:Type} [BEq α] [LawfulBEq α] {a b:α} (h:a=b):(a==b)=true:=by rw [h];exact BEq.rfl
theorem zJs {α:Type} [BEq α] [LawfulBEq α] {a b:α} (h:a≠b):(a==b)=false:=by simpa using h
theorem zPr {α:Type} [DecidableEq α] {a b:List α} (L:Nat→Int→Option (Unit⊕Bool)) (hab:a.length=b.length) (hl:a.length≤100000)
  (h0:∀ n i,a.length≤i→L (n+1) (i:Nat)=some (.inl ()))
  (h1:∀ n i x y r r2,a.drop i=x::r→b.drop i=y::r2→i<a.length→L (n+1) (i:Nat)=if x=y then L n ((i+1:Nat):Int) else some (.inr false)) :
  L 200000 0=some (if a=b then .inl () else .inr false):=by
 have key:∀ (n i:Nat),(a.drop i).length<n→L n (i:Int)=some (if a.drop i=b.drop i then .inl () else .inr false):=by
  intro n
  induction n with
  | zero=>intro i h;omega
  | succ n ih =>
   intro i hn
   rcases hd:a.drop i with _ | ⟨x,r⟩
   ·have:=qR hd
    rw [h0 n i this,List.drop_eq_nil_of_le (show b.length≤i by omega),if_pos rfl]
   rcases hd2:b.drop i with _ | ⟨y,r2⟩
   ·have:=qR hd2;have:=jN hd;omega
   rw [hd] at hn
   simp only [List.length_cons] at hn
   rw [h1 n i x y r r2 hd hd2 (jN hd)]
   have:=ih (i+1) (by rw [wN hd];omega)
   rw [wN hd,wN hd2] at this
   by_cases hxy:x=y
   ·rw [if_pos hxy,this];simp [hxy]
   ·rw [if_neg hxy,if_neg (by simp [hxy])]
 have:=key 200000 0 (by simp;omega)
 simpa using this
end Go.Ab

/- A nil slice is seen as an empty row of the call's own. -/
namespace Go.Ab
open Go
theorem Sub.trans {np:Nat} {a b c:AS} (h1:Sub np a b) (h2:Sub np b c):Sub np a c:=fun G x w hn hR=>h2 G x w hn (h1 G x w hn hR)
end Go.Ab

/- A range over a map of the call's own: the rounds come in an order that nobody knows. -/
namespace Go.Ab
open Go
open Go.ChangeMaps (setBlock)
def AS.put (st:AS) (d:Nat) (av:AV):AS:=⟨fun k=>bif Nat.beq k d then av else st.slot k,st.box⟩
theorem kF.put {G:uS} {st:AS} {T:Tbl} {a:Act} {w:World} (h:kF G st T a w) {d:Nat} {v:Value} {av:AV} (hd:d<G.n) (hr:Rep w (imm G st T) T v av) :
  kF G (st.put d av) T (a.put (some d) v) w:=by
 refine ⟨h.defers,by simp [Act.put,h.size],fun t=>?_,h.boxes,h.unused,h.apart,h.mine,h.foot,h.kept⟩
 rw [zIz t (by rw [h.size];exact hd)]
 simp only [AS.put]
 by_cases e:t=d
 ·subst e;rw [if_pos rfl,zFk];exact hr
 ·rw [if_neg e,tD e];exact h.slots t
structure RS where
 tm:Nat
 t0:Nat
 ti:Nat
 tR:Nat
 tn:Nat
 tok:Nat
 te:Nat
 tx:Nat
 ty:Nat
 tk:Nat
 tv:Nat
 blk:Nat
 b3:Nat
end Go.Ab
