/- A layer over the model: abstract values and states, and the rules by which the printed proofs go. No conditions. -/
import Derived.Test.YtoeengmnmhhpgaaGreatA27
import Derived.DeepKeys4
import Derived.Test.YtoeengmnmhhpgaaGreatA23
import Derived.Maps.RangeRun
/- Keys that are arrays or structs. -/
namespace Go.Ab
open Go

def oD (g:TypeId→Option (List KSh)) (cell:TypeId→Nat):Nat→List Field→Option (List KSh)
  | _,[]=>some []
  | o,f::r =>
    match g f.type,oD g cell (o+cell f.type) r with
    | some a, some b => bif Nat.beq f.offset o && (Nat.beq (cell f.type) a.length && (f.name != "_")) then some (a ++ b) else none
    | _,_=>none
/-- The kinds of a key's cells. -/
def gE (P:Program):Nat→TypeId→Option (List KSh)
  | 0,_=>none
  | d+1,t =>
    match P.underlying t with
    | some .bool=>some [.bool]
    | some (.int q)=>some [.int q]
    | some .string=>some [.str]
    | some (.array n e) =>
      match gE P d e with
      | some ks=>bif Nat.beq (P.cellsOf e) ks.length&&Nat.beq (P.cellsOf t) (n * ks.length) then some (List.replicate n ks).flatten else none
      | none=>none
    | some (.struct fs) =>
      match oD (gE P d) P.cellsOf 0 fs.toList with
      | some ks=>bif Nat.beq (P.cellsOf t) ks.length then some ks else none
      | none=>none
    | _=>none

def vk:KSh→Value→Prop
  | .int q,.int q' n=>q'=q∧(Lit.int q n).wf=true
  | .bool,.bool _=>True
  | .str,.string s=>s.size≤maxLen
  | _,_=>False
inductive VM:List KSh→List Value→Prop
  | nil:VM [] []
  | cons {k v ks vs}:vk k v→VM ks vs→VM (k::ks) (v::vs)

theorem VM.len {ks:List KSh} {cs:List Value} (h:VM ks cs):ks.length=cs.length:=by
  induction h with
  | nil=>rfl
  | cons _ _ ih=>simp [ih]
theorem VM.app {a b:List KSh} {cs:List Value} (h:VM (a++b) cs):VM a (cs.take a.length)∧VM b (cs.drop a.length):=by
  induction a generalizing cs with
  | nil=>exact ⟨by simpa using VM.nil,by simpa using h⟩
  | cons x a ih =>
    cases h with
    | cons h1 h2 =>
      obtain ⟨i1,i2⟩:=ih h2
      exact ⟨by simpa using VM.cons h1 i1,by simpa using i2⟩
theorem VM.part {ks:List KSh}:∀ {n:Nat} {cs:List Value} {i:Nat},VM (List.replicate n ks).flatten cs→i<n→VM ks ((cs.drop (i * ks.length)).take ks.length):=by
  intro n
  induction n with
  | zero=>intro cs i _ h;omega
  | succ n ih =>
    intro cs i h hi
    rw [List.replicate_succ,List.flatten_cons] at h
    obtain ⟨h1,h2⟩:=h.app
    cases i with
    | zero=>simpa using h1
    | succ i =>
      have:=ih (i:=i) h2 (by omega)
      rw [List.drop_drop] at this
      rw [Nat.add_mul,Nat.one_mul,Nat.add_comm]
      exact this
theorem J3 {α β:Type} {f:α→Option β}:∀ (l:List α),(∀ x∈l,∃ b,f x=some b)→∃ bs,l.mapM f=some bs:=by
  intro l
  induction l with
  | nil=>intro _;exact ⟨[],rfl⟩
  | cons x l ih =>
    intro h
    obtain ⟨b,hb⟩:=h x (List.mem_cons_self ..)
    obtain ⟨bs,hbs⟩:=ih fun y hy=>h y (List.mem_cons_of_mem _ hy)
    exact ⟨b::bs,by simp [List.mapM_cons,hb,hbs]⟩
theorem N3 {g:TypeId→Option (List KSh)} {cell:TypeId→Nat}:∀ (fs:List Field) (o:Nat) (ks:List KSh) (cs:List Value),oD g cell o fs=some ks→o≤cs.length→VM ks (cs.drop o) →
    ∀ f ∈ fs, (f.name != "_") = true ∧ ∃ a, g f.type = some a ∧ VM a ((cs.drop f.offset).take (cell f.type)) := by
  intro fs
  induction fs with
  | nil=>intro o ks cs _ _ _ f hf;cases hf
  | cons x r ih =>
    intro o ks cs h ho hv f hf
    unfold oD at h
    split at h
    case h_2=>cases h
    rename_i a b ha hb
    replace h:=y7 h;obtain ⟨hc,h⟩:=h
    simp only [Bool.and_eq_true] at hc
    have e1:=xP.1 hc.1
    have e2:=xP.1 hc.2.1
    injection h with h;subst h
    obtain ⟨v1,v2⟩:=hv.app
    rcases List.mem_cons.1 hf with rfl | hf
    · exact ⟨hc.2.2,a,ha,by rw [e1,e2];exact v1⟩
    · have hl:=hv.len
      rw [List.length_append,List.length_drop] at hl
      refine ih (o+cell x.type) b cs hb (by omega) ?_ f hf
      rw [List.drop_drop] at v2
      rw [e2];exact v2
theorem QN {P:Program}:∀ (d:Nat) (t:TypeId) (ks:List KSh) (cs:List Value),gE P d t=some ks→VM ks cs→∃ ls,P.keyLits d t cs=some ls:=by
  intro d
  induction d with
  | zero=>intro t ks cs h;cases h
  | succ d ih =>
    intro t ks cs h hv
    unfold gE at h
    unfold Program.keyLits
    split at h
    · rename_i hu
      injection h with h;subst h
      cases hv with
      | cons h1 h2=>cases h2;rename_i v;cases v<;>simp [vk] at h1;rw [hu];exact ⟨_,rfl⟩
    · rename_i q hu
      injection h with h;subst h
      cases hv with
      | cons h1 h2=>cases h2;rename_i v;cases v<;>simp [vk] at h1;rw [hu];simp [h1]
    · rename_i hu
      injection h with h;subst h
      cases hv with
      | cons h1 h2=>cases h2;rename_i v;cases v<;>simp [vk] at h1;rw [hu];simp [h1]
    · rename_i n e hu
      split at h
      case h_2=>cases h
      rename_i ks' hk
      replace h:=y7 h;obtain ⟨hc,h⟩:=h
      simp only [Bool.and_eq_true] at hc
      have e1:=xP.1 hc.1
      have e2:=xP.1 hc.2
      injection h with h;subst h
      have hl:=hv.len
      have hl2:(List.replicate n ks').flatten.length=n * ks'.length:=by simp
      rw [hu]
      simp only
      rw [if_pos (by omega)]
      obtain ⟨bs,hbs⟩:=J3 (f:=fun i=>P.keyLits d e ((cs.drop (i * P.cellsOf e)).take (P.cellsOf e))) (List.range n) (fun i hi=>by
        rw [e1]
        exact ih e ks' _ hk (hv.part (List.mem_range.1 hi)))
      rw [hbs];exact ⟨_,rfl⟩
    · rename_i fs hu
      split at h
      case h_2=>cases h
      rename_i ks' hk
      replace h:=y7 h;obtain ⟨hc,h⟩:=h
      have e1:=xP.1 hc
      injection h with h;subst h
      have hl:=hv.len
      have hspec:=N3 fs.toList 0 ks' cs hk (by omega) (by simpa using hv)
      rw [hu]
      simp only
      rw [if_pos ⟨by omega,by rw [← Array.all_toList];exact List.all_eq_true.2 fun f hf=>(hspec f hf).1⟩]
      obtain ⟨bs,hbs⟩:=J3 (f:=fun f:Field=>P.keyLits d f.type ((cs.drop f.offset).take (P.cellsOf f.type))) fs.toList (fun f hf=>by
        obtain ⟨_,a,ha,hva⟩:=hspec f hf
        exact ih f.type a _ ha hva)
      rw [hbs];exact ⟨_,rfl⟩
    · cases h

theorem UB {w:World} {I:Nat→Prop} {T:Tbl} {v:Value} {a:AV} {k:KSh} (h:Rep w I T v a) (hk:kc k a=true):vk k v:=by
  cases k<;>cases a<;>simp [kc] at hk
  · subst hk
    cases h with
    | int hw=>exact ⟨rfl,HJ hw⟩
  · cases h;trivial
  · cases h with
    | str h1 h2=>simpa [vk,wO,ByteArray.size] using h2
theorem WC {w:World} {I:Nat→Prop} {T:Tbl}:∀ (ks:List KSh) (cs:List AV) (vs:List Value),kcs ks cs=true→vs.length=cs.length→(∀ (j:Nat) (c:AV) (v:Value),cs[j]?=some c→vs[j]?=some v→Rep w I T v c)→VM ks vs:=by
  intro ks
  induction ks with
  | nil=>intro cs vs h hl _;cases cs<;>simp [kcs] at h;simp at hl;subst hl;exact .nil
  | cons k r ih =>
    intro cs vs h hl hr
    cases cs with
    | nil=>simp [kcs] at h
    | cons c s =>
      cases vs with
      | nil=>simp at hl
      | cons v u =>
        simp only [kcs,Bool.and_eq_true] at h
        exact .cons (UB (hr 0 c v rfl rfl) h.1) (ih s u h.2 (by simpa using hl) fun j c' v' hc hv=>hr (j+1) c' v' (by simpa using hc) (by simpa using hv))

def A4 (P:Program) (k:TypeId):Bool:=match P.underlying k with | some (.array _ _) | some (.struct _)=>true | _=>false

theorem m3 {P:Program} {k:TypeId} {ks:List KSh} (hl:laidOutB P=true) (hw:A4 P k=true) (hk:(decide (k<P.types.size)&&(P.keyTypeAt 100 k&&(P.keyType k&&Nat.beq (P.cellsOf k) ks.length)))=true) (hs:gE P (P.types.size+1) k=some ks):v9 P k true ks:=by
  simp only [Bool.and_eq_true,decide_eq_true_eq] at hk
  obtain ⟨k1,k2,k3,k4⟩:=hk
  have k4:=xP.1 k4
  refine ⟨Maps.Keyed.of_law (deep_law_laid hl (m:=100) (by omega) k1 k2 hw),fun w I T v a hr hm=>?_⟩
  by_cases ha:∃ cs,a=.agg cs
  · obtain ⟨cs,rfl⟩:=ha
    simp only [vQ,Bool.and_eq_true] at hm
    obtain ⟨l1,_⟩:=A6 hm.2
    cases hr with
    | agg s1 o1 r1 =>
      rename_i vs
      have hvm:VM ks vs.toList:=WC ks cs vs.toList hm.2 (by simpa using s1) fun j c v hc hv=>by
        have:=r1 j c hc
        rw [Array.getElem?_toList] at hv
        rwa [Array.getD_eq_getD_getElem?,hv] at this
      obtain ⟨ls,hls⟩:=QN _ _ _ _ hs hvm
      have hf:(Value.agg vs).formed P k=true:=by
        unfold A4 at hw
        unfold Value.formed
        split at hw
        · rename_i hu;rw [hu];simp;omega
        · rename_i hu;rw [hu];simp;omega
        · cases hw
      refine ⟨.string (keyBytes ls),?_⟩
      unfold keyOf
      unfold A4 at hw
      split at hw
      · rename_i hu;rw [hu];simp only [k3,hf,Bool.and_self,if_true];simp only [Value.cells];rw [hls];rfl
      · rename_i hu;rw [hu];simp only [k3,hf,Bool.and_self,if_true];simp only [Value.cells];rw [hls];rfl
      · cases hw
  · have:(!true&&kcs ks [a])=true:=by
      cases a<;>first | exact hm | exact absurd ⟨_,rfl⟩ ha
    simp at this
end Go.Ab

/- Typed tables for maps: what a tL-up gives behind a store; lists that are read in part. -/
namespace Go.Ab
open Go

theorem NO {α β:Type} [DecidableEq α]:∀ (l:List (α×β)) (k k':α) (v:β),w9 (xS l k v) k'=if k=k' then some v else w9 l k':=by
  intro l
  induction l with
  | nil=>intro k k' v;rfl
  | cons p l ih =>
    intro k k' v
    unfold xS
    by_cases hp:p.1=k
    · rw [if_pos hp]
      simp only [w9]
      by_cases hk:k=k'
      · rw [if_pos hk,if_pos hk]
      · rw [if_neg hk,if_neg hk,if_neg (by rw [hp];exact hk)]
    · rw [if_neg hp]
      simp only [w9]
      rw [ih]
      by_cases hk:k=k'
      · rw [if_pos hk,if_pos hk,if_neg (by rw [← hk];exact hp)]
      · rw [if_neg hk,if_neg hk]
theorem SP {α β:Type} [DecidableEq α]:∀ (l:List (α×β)) (k:α) (v:β),(xS l k v).length≤l.length+1:=by
  intro l
  induction l with
  | nil=>intro k v;simp [xS]
  | cons p l ih =>
    intro k v
    unfold xS
    split
    · simp
    · have:=ih k v;simp only [List.length_cons];omega
/-- A table that says of each key whether it was seen. -/
def rO {α:Type} [DecidableEq α] (t:List (α×Bool)) (l:List α):Prop:=t.length≤l.length∧∀ x,(w9 t x).getD false=decide (x∈l)
theorem OK {α:Type} [DecidableEq α]:rO ([]:List (α×Bool)) []:=⟨Nat.le_refl _,fun x=>by simp [w9]⟩
theorem QL {α:Type} [DecidableEq α] {t:List (α×Bool)} {l:List α} (h:rO t l) (x:α):rO (xS t x true) (l++[x]):=by
  refine ⟨by have:=SP t x true;have:=h.1;simp only [List.length_append,List.length_singleton];omega,fun y=>?_⟩
  rw [NO]
  by_cases hy:x=y
  · rw [if_pos hy];simp [hy]
  · rw [if_neg hy,h.2];simp [Ne.symm hy]
theorem SY {α:Type} (l:List α) (i:Nat):sub l 0 (i:Int)=l.take i:=by simp [sub]
theorem H0 {α:Type} {l:List α} {i:Nat} {x:α} {r:List α} (h:l.drop i=x::r):l.take (i+1)=l.take i++[x]:=by
  rw [List.take_add_one]
  have:=congrArg (·[0]?) h
  simp at this
  rw [this];rfl
theorem MA {α:Type} {l:List α} {i:Nat} {x:α} {r:List α} (h:l.drop i=x::r):l[i]?=some x:=by
  have:=congrArg (·[0]?) h
  simpa using this
theorem lR {α:Type} {c:Bool} {x y z:α} (hc:c=true) (h:x=z):(bif c then x else y)=z:=by rw [hc];exact h
theorem lO {α:Type} {c:Bool} {x y z:α} (hc:c=false) (h:y=z):(bif c then x else y)=z:=by rw [hc];exact h
end Go.Ab

/- A nil slice is seen as an empty row of the call's own. -/
namespace Go.Ab
open Go

def mJ (cs:List AV) (j:Nat):Bool:=match cs[j]? with | some .nilsl=>true | _=>false
theorem LF {cs:List AV} {j:Nat} (h:mJ cs j=true):cs[j]?=some .nilsl:=by
  unfold mJ at h
  split at h
  · assumption
  · cases h
theorem G2 {w:World} {I I':Nat→Prop} {T:Tbl} {id:Nat} {C:Array Value} {cs:List AV} {j:Nat} (hI:∀ b,I b→I' b) (hn:T id=none) (h:∀ (k:Nat) (c:AV),cs[k]?=some c→Rep w I T (C.getD k undef) c) (hj:cs[j]?=some .nilsl) :
    ∀ (k:Nat) (c:AV),(cs.set j (.own id 0))[k]?=some c→Rep w I' (T.put id .nil) (C.getD k undef) c:=by
  intro k c hk
  by_cases e:j=k
  · subst e
    have hlt:=(List.getElem?_eq_some_iff.1 hj).1
    rw [List.getElem?_set_self hlt] at hk
    injection hk with hk;subst hk
    have hr:=h j _ hj
    generalize C.getD j undef=v at hr
    cases hr with
    | nilsl=>exact .ownNil (Tbl.put_same _ _ _)
  · rw [List.getElem?_set_ne e] at hk
    exact (h k c hk).mono (Nat.le_refl _) (fun _ _ _=>rfl) (fun b hb _=>hI b hb) (Tbl.le_put hn)
theorem K3 {cs:List AV} {j id:Nat} (h:∀ c∈cs,c.one=true):∀ c∈cs.set j (.own id 0),c.one=true:=by
  intro c hc
  rcases List.mem_or_eq_of_mem_set hc with hc | rfl
  · exact h c hc
  · rfl

/-- In a variable's cell. -/
def CK (st:AS) (i j id e sz:Nat):AS :=
  ⟨st.slot,fun k=>bif Nat.beq k id then .live (.row e sz []) else bif Nat.beq k i then (match st.box i with | .live (.var t cs)=>.live (.var t (cs.set j (.own id 0))) | b=>b) else st.box k⟩
def JR (st:AS) (i j id:Nat):Bool:=qO (st.box id)&&(match st.box i with | .live (.var _ cs)=>mJ cs j | _=>false)
/-- In a slot: the slice itself, or a cell of a struct. -/
def lE (st:AS) (t:Nat) (j:Option Nat) (id e sz:Nat):AS :=
  ⟨fun k=>bif Nat.beq k t then (match j,st.slot t with | none,_=>.own id 0 | some j,.agg cs=>.agg (cs.set j (.own id 0)) | _,v=>v) else st.slot k,fun k=>bif Nat.beq k id then .live (.row e sz []) else st.box k⟩
def HP (st:AS) (t:Nat) (j:Option Nat) (id:Nat):Bool :=
  qO (st.box id)&&(match j,st.slot t with | none,.nilsl=>true | some j,.agg cs=>mJ cs j | _,_=>false)

/-- What both share. -/
theorem MQ {G:vI} {st st2:AS} {T:Tbl} {a:Act} {w:World} {id e sz:Nat} (hT:v4 G st T a w) (hu:st.box id=.unused)
    (hslot:∀ t,(∀ I',(∀ b,imm G st T b→I' b)→Rep w I' (T.put id .nil) (a.tmps.getD t undef) (st2.slot t)))
    (hbox:∀ k bx,st2.box k=.live bx→(k=id∧bx=.row e sz [])∨(k≠id∧∃ bx0,st.box k=.live bx0∧∀ I',(∀ b,imm G st T b→I' b)→uU w I' (T.put id .nil) (T k) bx))
    (hun:∀ k,st2.box k=.unused→k≠id∧st.box k=.unused):Rel G st2 a w:=by
  have hn:=hT.unused id hu
  have himm:∀ b,imm G st T b→imm G st2 (T.put id .nil) b:=by
    intro b hb
    refine ⟨hb.1,fun k bx cap hl hTk=>?_⟩
    rcases hbox k bx hl with ⟨rfl,_⟩ | ⟨hne,bx0,h0,_⟩
    · rw [Tbl.put_same] at hTk;cases hTk
    · rw [Tbl.put_ne _ _ hne] at hTk;exact hb.2 k bx0 cap h0 hTk
  refine ⟨T.put id .nil,hT.defers,hT.size,fun t=>hslot t _ himm,?_,?_,?_,?_,fun i p hp=>Tbl.le_put hn _ _ (hT.foot i p hp),hT.kept⟩
  · intro k bx hl
    rcases hbox k bx hl with ⟨rfl,rfl⟩ | ⟨hne,bx0,h0,h1⟩
    · rw [Tbl.put_same];exact .inl ⟨rfl,rfl⟩
    · rw [Tbl.put_ne _ _ hne];exact h1 _ himm
  · intro k hk
    obtain ⟨hne,h0⟩:=hun k hk
    rw [Tbl.put_ne _ _ hne];exact hT.unused k h0
  · intro i1 i2 b1 b2 b c1 c2 h1 h2 t1 t2
    rcases hbox i1 b1 h1 with ⟨rfl,_⟩ | ⟨n1,x1,l1,_⟩
    · rw [Tbl.put_same] at t1;cases t1
    rcases hbox i2 b2 h2 with ⟨rfl,_⟩ | ⟨n2,x2,l2,_⟩
    · rw [Tbl.put_same] at t2;cases t2
    rw [Tbl.put_ne _ _ n1] at t1;rw [Tbl.put_ne _ _ n2] at t2
    exact hT.apart i1 i2 x1 x2 b c1 c2 l1 l2 t1 t2
  · intro k bx b cap hl hTk hge
    rcases hbox k bx hl with ⟨rfl,_⟩ | ⟨hne,bx0,h0,_⟩
    · rw [Tbl.put_same] at hTk;cases hTk
    · rw [Tbl.put_ne _ _ hne] at hTk;exact hT.mine k bx0 b cap h0 hTk hge

theorem tQ {np:Nat} {st:AS} (i j id e sz:Nat) (h:JR st i j id=true):Sub np st (CK st i j id e sz):=by
  rintro G a w hnp ⟨T,hT⟩
  unfold JR at h
  simp only [Bool.and_eq_true] at h
  obtain ⟨h1,h2⟩:=h
  have hu:=jD h1
  split at h2
  case h_2=>cases h2
  rename_i t cs hb
  have hj:=LF h2
  have hn:=hT.unused id hu
  have hne:i≠id:=fun e=>by rw [e,hu] at hb;cases hb
  have hbx:∀ k,(CK st i j id e sz).box k=if k=id then .live (.row e sz []) else if k=i then .live (.var t (cs.set j (.own id 0))) else st.box k:=by
    intro k
    simp only [CK,hb]
    by_cases e1:k=id
    · subst e1;simp
    · rw [uZ e1,if_neg e1]
      by_cases e2:k=i
      · subst e2;simp
      · rw [uZ e2,if_neg e2];rfl
  refine MQ hT hu (id:=id) (e:=e) (sz:=sz) ?_ ?_ ?_
  · intro t' I' hI
    exact (hT.slots t').mono (Nat.le_refl _) (fun _ _ _=>rfl) (fun b hb _=>hI b hb) (Tbl.le_put hn)
  · intro k bx hl
    rw [hbx] at hl
    by_cases e1:k=id
    · rw [if_pos e1] at hl;injection hl with hl;exact .inl ⟨e1,hl.symm⟩
    rw [if_neg e1] at hl
    by_cases e2:k=i
    · rw [if_pos e2] at hl;injection hl with hl;subst hl;subst e2
      refine .inr ⟨e1,_,hb,fun I' hI=>?_⟩
      obtain ⟨b,C,p1,p2,p3,p4,p5⟩:=hT.boxes k _ hb
      exact ⟨b,C,p1,p2,by rw [p3];simp,K3 p4,G2 hI hn p5 hj⟩
    · rw [if_neg e2] at hl
      exact .inr ⟨e1,bx,hl,fun I' hI=>(hT.boxes k bx hl).mono (Nat.le_refl _) (fun _ _ _=>rfl) (fun b hb _=>hI b hb) (Tbl.le_put hn) (fun _ _ _ _=>rfl)⟩
  · intro k hk
    rw [hbx] at hk
    by_cases e1:k=id
    · rw [if_pos e1] at hk;cases hk
    rw [if_neg e1] at hk
    by_cases e2:k=i
    · rw [if_pos e2] at hk;cases hk
    · rw [if_neg e2] at hk;exact ⟨e1,hk⟩

theorem RU {np:Nat} {st:AS} (t:Nat) (j:Option Nat) (id e sz:Nat) (h:HP st t j id=true):Sub np st (lE st t j id e sz):=by
  rintro G a w hnp ⟨T,hT⟩
  unfold HP at h
  simp only [Bool.and_eq_true] at h
  obtain ⟨h1,h2⟩:=h
  have hu:=jD h1
  have hn:=hT.unused id hu
  have hbx:∀ k,(lE st t j id e sz).box k=if k=id then .live (.row e sz []) else st.box k:=by
    intro k
    simp only [lE]
    by_cases e1:k=id
    · subst e1;simp
    · rw [uZ e1,if_neg e1];rfl
  refine MQ hT hu (id:=id) (e:=e) (sz:=sz) ?_ ?_ ?_
  · intro k I' hI
    simp only [lE]
    by_cases e1:k=t
    · subst e1
      rw [d9]
      simp only [cond_true]
      split at h2
      · rename_i hs
        rw [hs]
        have hr:=hT.slots k
        rw [hs] at hr
        simp only
        generalize a.tmps.getD k undef=v at hr ⊢
        cases hr with
        | nilsl=>exact .ownNil (Tbl.put_same _ _ _)
      · rename_i j' cs hs
        rw [hs]
        have hr:=hT.slots k
        rw [hs] at hr
        simp only
        generalize a.tmps.getD k undef=v at hr ⊢
        cases hr with
        | agg k1 k2 k3=>exact .agg (by rw [k1];simp) (K3 k2) (G2 hI hn k3 (LF h2))
      · cases h2
    · rw [uZ e1]
      exact (hT.slots k).mono (Nat.le_refl _) (fun _ _ _=>rfl) (fun b hb _=>hI b hb) (Tbl.le_put hn)
  · intro k bx hl
    rw [hbx] at hl
    by_cases e1:k=id
    · rw [if_pos e1] at hl;injection hl with hl;exact .inl ⟨e1,hl.symm⟩
    rw [if_neg e1] at hl
    exact .inr ⟨e1,bx,hl,fun I' hI=>(hT.boxes k bx hl).mono (Nat.le_refl _) (fun _ _ _=>rfl) (fun b hb _=>hI b hb) (Tbl.le_put hn) (fun _ _ _ _=>rfl)⟩
  · intro k hk
    rw [hbx] at hk
    by_cases e1:k=id
    · rw [if_pos e1] at hk;cases hk
    rw [if_neg e1] at hk;exact ⟨e1,hk⟩

theorem Sub.trans {np:Nat} {a b c:AS} (h1:Sub np a b) (h2:Sub np b c):Sub np a c:=fun G x w hn hR=>h2 G x w hn (h1 G x w hn hR)
end Go.Ab

/- A range over a map of the call's own: the rounds come in an order that nobody knows. -/
namespace Go.Ab
open Go
open Go.ChangeMaps (setBlock)

def AS.put (st:AS) (d:Nat) (av:AV):AS:=⟨fun k=>bif Nat.beq k d then av else st.slot k,st.box⟩

theorem v4.put {G:vI} {st:AS} {T:Tbl} {a:Act} {w:World} (h:v4 G st T a w) {d:Nat} {v:Value} {av:AV} (hd:d<G.n) (hr:Rep w (imm G st T) T v av) :
    v4 G (st.put d av) T (a.put (some d) v) w:=by
  refine ⟨h.defers,by simp [Act.put,h.size],fun t=>?_,h.boxes,h.unused,h.apart,h.mine,h.foot,h.kept⟩
  rw [BS t (by rw [h.size];exact hd)]
  simp only [AS.put]
  by_cases e:t=d
  · subst e;rw [if_pos rfl,d9];exact hr
  · rw [if_neg e,uZ e];exact h.slots t

/-- The slots of a range over a map. -/
structure RS where
  tm:Nat
  t0:Nat
  ti:Nat
  tR:Nat
  tn:Nat
  tok:Nat
  te:Nat
  tx:Nat
  ty:Nat
  tk:Nat
  tv:Nat
  blk:Nat
  b3:Nat

end Go.Ab
