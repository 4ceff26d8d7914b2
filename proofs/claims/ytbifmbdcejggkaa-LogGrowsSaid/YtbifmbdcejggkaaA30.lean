/- A layer over the model: abstract values and states, and the rules by which the printed proofs go. No conditions. -/
import Derived.Test.YtbifmbdcejggkaaA27
import Derived.DeepKeys4
/- Typed values behind cells: ranges of the integer kinds. -/
namespace Go.Ab
open Go

def tF (n:Int):Prop := -9223372036854775808≤n∧n≤9223372036854775807
def zNi (n:Int):Prop:=0≤n∧n≤255
def zHl (s:List Int):Prop:=(∀ x∈s,zNi x)∧s.length≤140737488355328
def zAj {α:Type} (ok:α→Prop) (l:List α):Prop:=(∀ x∈l,ok x)∧l.length≤140737488355328

theorem zEj {k:IntKind} {n:Int} (h:k.wrap n=n):k.min≤n∧n≤k.max:=by
  rw [← h]
  cases k<;>simp only [IntKind.wrap,IntKind.min,IntKind.max,IntKind.signed,IntKind.bits]<;>simp<;>(try split)<;>omega
theorem zL0 {n:Int} (h:IntKind.i64.wrap n=n):tF n:=by
  have:=zEj h;exact this
theorem Enc.weak {α:Type} {s:List Sh} {c:α→List AV} {ok ok':α→Prop} (h:Enc s c ok) (ho:∀ x,ok x→ok' x):Enc s c ok':=by
  intro avs hf
  obtain ⟨x,rfl,hx⟩:=h avs hf
  exact ⟨x,rfl,ho x hx⟩
theorem uT:Enc [.int .i64] (fun n=>[.int .i64 n]) tF:=(zML .i64).weak fun _=>zL0
theorem zIn:Enc [.str] (fun s=>[.str s]) zHl:=zMB.weak fun s h=>⟨fun x hx=>by have:=h.1 x hx;unfold zNi;omega,h.2⟩
theorem zNm {α:Type} {s:Sh} {e:α→AV} {ok:α→Prop} (h:Enc [s] (fun x=>[e x]) ok):Enc [.sl false [s]] (fun l=>[.sl false 1 (l.map e)]) (zAj ok):=zMJ h
theorem zBW {α:Type} {ss:List Sh} {c:α→List AV} {ok:α→Prop} (h:Enc ss c ok):Enc [.sl true ss] (fun l=>[.sl false ss.length (l.map fun x=>.agg (c x))]) (zAj ok):=zMO h
end Go.Ab

/- Words for the plain laws: ranges, bits, and how the printed functions compute. -/
namespace Go.Ab
open Go

theorem tA {p:Prop} [Decidable p] (h:p):need p=some ():=if_pos h
theorem y7 {p:Prop} [Decidable p] (h:p):decide p=true:=decide_eq_true h
theorem y1 {p:Prop} [Decidable p] (h:¬p):decide p=false:=decide_eq_false h
theorem uX {a b:Int} (h:a=b):(a==b)=true:=by simpa using h
theorem kQ {a b:Int} (h:a≠b):(a==b)=false:=by simpa using h
theorem jJ {a b:Int} (h:a≠b):(a != b)=true:=by simpa using h
theorem kB {a b:Int} (h:a=b):(a != b)=false:=by simpa using h
theorem w64 {x:Int} (h1 : -9223372036854775808≤x) (h2:x≤9223372036854775807):zK x=x:=by
  simp only [zK,IntKind.wrap,IntKind.bits,IntKind.signed];simp;split<;>omega
theorem zEt {α:Type} (l:List α) (i:Nat):wB l (i:Int)=l[i]?:=by simp [wB]
theorem wK {α:Type} {l:List α} {i:Nat} {x:α} {r:List α} (h:l.drop i=x::r):wB l (i:Int)=some x:=by
  rw [zEt]
  have:=congrArg (·[0]?) h
  simpa using this
theorem qW {α:Type} {l:List α} {i:Nat} {x:α} {r:List α} (h:l.drop i=x::r):i<l.length:=by
  rcases Nat.lt_or_ge i l.length with h' | h'
  · exact h'
  · rw [List.drop_eq_nil_of_le h'] at h;cases h
theorem vY {α:Type} {l:List α} {i:Nat} {x:α} {r:List α} (h:l.drop i=x::r):l.drop (i+1)=r:=by
  rw [← List.drop_drop,h];rfl
theorem qB {α:Type} {l:List α} {i:Nat} (h:l.drop i=[]):l.length≤i:=List.drop_eq_nil_iff.1 h

end Go.Ab

/- Loops over lists, as the printed functions have them. -/
namespace Go.Ab
open Go

/-- A loop over a list by its index: what it gives is a function of what is left. -/
theorem zNB {α σ R:Type} {l:List α} (L:Nat→Int→σ→Option R) (G:Nat→List α→σ→R) (Inv:Nat→σ→Prop)
    (he:∀ n i s,l.length≤i→Inv i s→L (n+1) (i:Nat) s=some (G i [] s))
    (hs:∀ n i s x r,l.drop i=x::r→i<l.length→Inv i s→(∀ s',Inv (i+1) s'→L n ((i+1:Nat):Int) s'=some (G (i+1) r s'))→L (n+1) (i:Nat) s=some (G i (x::r) s)) :
    ∀ n i s,Inv i s→(l.drop i).length<n→L n (i:Nat) s=some (G i (l.drop i) s):=by
  intro n
  induction n with
  | zero=>intro i s _ h;omega
  | succ n ih =>
    intro i s hI hn
    rcases hd:l.drop i with _ | ⟨x,r⟩
    · exact he n i s (qB hd) hI
    · refine hs n i s x r hd (qW hd) hI fun s' hI'=>?_
      have:=ih (i+1) s' hI' (by rw [vY hd];rw [hd] at hn;simp only [List.length_cons] at hn;omega)
      rwa [vY hd] at this

/-- The same from the beginning. -/
theorem zNt {α σ R:Type} {l:List α} (L:Nat→Int→σ→Option R) (G:Nat→List α→σ→R) (Inv:Nat→σ→Prop)
    (he:∀ n i s,l.length≤i→Inv i s→L (n+1) (i:Nat) s=some (G i [] s))
    (hs:∀ n i s x r,l.drop i=x::r→i<l.length→Inv i s→(∀ s',Inv (i+1) s'→L n ((i+1:Nat):Int) s'=some (G (i+1) r s'))→L (n+1) (i:Nat) s=some (G i (x::r) s))
    {n:Nat} {s:σ} (hI:Inv 0 s) (hn:l.length<n):L n 0 s=some (G 0 l s):=by
  have:=zNB L G Inv he hs n 0 s hI (by simpa using hn)
  simpa using this

theorem uM {i:Nat} (h:i<9223372036854775807):zK ((i:Int)+1)=((i+1:Nat):Int):=by
  rw [w64 (by omega) (by omega)];omega
theorem zCT {α:Type} {l:List α} {i:Nat} {x:α} {r:List α} (h:l.drop i=x::r):x∈l:=List.mem_of_mem_drop (h ▸ List.mem_cons_self)
theorem zGQ {α:Type} {l:List α} {i:Nat} (h0:0<i) (h:i<9223372036854775807):wB l (zK ((i:Int) - 1))=l[i - 1]?:=by
  rw [w64 (by omega) (by omega),show (i:Int) - 1=((i - 1:Nat):Int) by omega,zEt]
theorem zKF {α:Type} {l:List α} (h0:l.length<9223372036854775807) (h:l≠[]):wB l (zK ((l.length:Int) - 1))=l.getLast?:=by
  have:0<l.length:=List.length_pos_iff.2 h
  rw [zGQ this h0,List.getLast?_eq_getElem?]

/-- A search for the first that fails. -/
def xW {α:Type} {β:Type} (f:Nat→α→Option β):Nat→List α→Unit⊕β
  | _,[]=>.inl ()
  | i,x::r=>match f i x with
    | none=>xW f (i+1) r
    | some b=>.inr b
theorem zDe {α β:Type} {f:Nat→α→Option β} {i:Nat} {l:List α} (h:xW f i l=.inl ()):∀ j x,l[j]?=some x→f (i+j) x=none:=by
  induction l generalizing i with
  | nil=>intro j x hj;simp at hj
  | cons a r ih =>
    intro j x hj
    simp only [xW] at h
    split at h
    · rename_i hf
      cases j with
      | zero=>simp at hj;subst hj;exact hf
      | succ j =>
        have:=ih h j x (by simpa using hj)
        rwa [show i+1+j=i+(j+1) by omega] at this
    · cases h
theorem zIC {α β:Type} {f:Nat→α→Option β} {i:Nat} {l:List α} (h:∀ j x,l[j]?=some x→f (i+j) x=none):xW f i l=.inl ():=by
  induction l generalizing i with
  | nil=>rfl
  | cons a r ih =>
    simp only [xW]
    rw [show f i a=none from h 0 a rfl]
    exact ih fun j x hj=>by
      have:=h (j+1) x (by simpa using hj)
      rwa [show i+(j+1)=i+1+j by omega] at this
end Go.Ab

/- Maps of the call's own: typed tables, and what the layer asks of them. -/
namespace Go.Ab
open Go

/-- An entry, as abstract values. -/
def mpE {α β:Type} (f:α→AV) (g:β→AV) (p:α×β):AV×AV:=(f p.1,g p.2)
/-- The value at a key. -/
def yA {α β:Type} [DecidableEq α]:List (α×β)→α→Option β
  | [],_=>none
  | p::l,k=>if p.1=k then some p.2 else yA l k
/-- The table with a value at a key. -/
def uI {α β:Type} [DecidableEq α]:List (α×β)→α→β→List (α×β)
  | [],k,v=>[(k,v)]
  | p::l,k,v=>if p.1=k then (k,v)::l else p::uI l k v

section
variable {α β:Type} [DecidableEq α] {f:α→AV} {g:β→AV}
theorem zCc {l:List (α×β)} {k:α} (h:yA l k=none):∀ p∈l,p.1≠k:=by
  induction l with
  | nil=>intro p hp;cases hp
  | cons q l ih =>
    unfold yA at h
    split at h
    · cases h
    · rename_i hq
      intro p hp
      rcases List.mem_cons.1 hp with rfl | hp
      · exact hq
      · exact ih h p hp
theorem zDJ {l:List (α×β)} {k:α} {v:β} (h:yA l k=some v):∃ (i:Nat) (p:α×β),l[i]?=some p∧p.1=k∧p.2=v∧∀ w,uI l k w=l.set i (k,w):=by
  induction l with
  | nil=>cases h
  | cons q l ih =>
    unfold yA at h
    split at h
    · rename_i hq
      injection h with h
      exact ⟨0,q,rfl,hq,h,fun w=>by simp [uI,hq]⟩
    · rename_i hq
      obtain ⟨i,p,h1,h2,h3,h4⟩:=ih h
      exact ⟨i+1,p,by simpa using h1,h2,h3,fun w=>by simp [uI,hq,h4]⟩
theorem zKk {l:List (α×β)} {k:α} (h:∀ p∈l,p.1≠k) (v:β):uI l k v=l++[(k,v)]:=by
  induction l with
  | nil=>rfl
  | cons q l ih =>
    unfold uI
    rw [if_neg (h q (List.mem_cons_self ..)),ih fun p hp=>h p (List.mem_cons_of_mem _ hp)];rfl
theorem zDv (hf:∀ a b,f a=f b→a=b) (l:List (α×β)) (k:α) (z:β):jL (l.map (mpE f g)) (f k) (g z) (g ((yA l k).getD z)) (yA l k).isSome:=by
  cases h:yA l k with
  | none =>
    refine .inr ⟨fun x hx=>?_,rfl,rfl⟩
    obtain ⟨p,hp,rfl⟩:=List.mem_map.1 hx
    exact fun e=>zCc h p hp (hf _ _ e)
  | some v =>
    obtain ⟨i,p,h1,h2,h3,_⟩:=zDJ h
    exact .inl ⟨i,mpE f g p,by rw [List.getElem?_map,h1];rfl,by simp [mpE,h2],by simp [mpE,h3],rfl⟩
theorem zC0 (hf:∀ a b,f a=f b→a=b) (l:List (α×β)) (k:α) (v:β):zBN (l.map (mpE f g)) (f k) (g v) ((uI l k v).map (mpE f g)):=by
  cases h:yA l k with
  | none =>
    refine .inr ⟨fun x hx=>?_,?_⟩
    · obtain ⟨p,hp,rfl⟩:=List.mem_map.1 hx
      exact fun e=>zCc h p hp (hf _ _ e)
    · rw [zKk (zCc h)];simp [mpE]
  | some v0 =>
    obtain ⟨i,p,h1,h2,h3,h4⟩:=zDJ h
    exact .inl ⟨i,mpE f g p,by rw [List.getElem?_map,h1];rfl,by simp [mpE,h2],by rw [h4,List.map_set];rfl⟩
omit [DecidableEq α] in
theorem zFZ {l:List (α×β)} (h:l.length<140737488355328):(l.map (mpE f g)).length<maxLen:=by
  rw [List.length_map,w6];omega
end

theorem zAe {α:Type} [DecidableEq α] {f:α→AV} (hf:∀ a b,f a=f b→a=b) (a b:α):decide (a=b)=true↔f a=f b:=by
  rw [decide_eq_true_iff];exact ⟨fun h=>by rw [h],hf a b⟩

theorem nR {k:IntKind}:∀ a b:Int,AV.int k a=AV.int k b→a=b:=fun _ _ h=>(AV.int.inj h).2
theorem zFp {k:IntKind} {n:Int} (h:k.wrap n=n):(Lit.int k n).wf=true:=by
  have:=zEj h
  simp only [Lit.wf,Bool.and_eq_true,decide_eq_true_eq];exact this
theorem zKD {P:Program} {k:TypeId} {q:IntKind} (h:P.underlying k=some (.int q)):vZ P k false [.int q]:=by
  refine ⟨Maps.int_keyed h,fun w I T v a hr hm=>?_⟩
  cases a<;>simp [uZ,kcs,kc] at hm
  subst hm
  cases hr with
  | int hw=>exact ⟨_,Maps.keyOf_int_mk h (zFp hw)⟩
end Go.Ab

/- Keys that are arrays or structs. -/
namespace Go.Ab
open Go

def zJw (g:TypeId→Option (List KSh)) (cell:TypeId→Nat):Nat→List Field→Option (List KSh)
  | _,[]=>some []
  | o,f::r =>
    match g f.type,zJw g cell (o+cell f.type) r with
    | some a, some b => bif Nat.beq f.offset o && (Nat.beq (cell f.type) a.length && (f.name != "_")) then some (a ++ b) else none
    | _,_=>none
/-- The kinds of a key's cells. -/
def zFr (P:Program):Nat→TypeId→Option (List KSh)
  | 0,_=>none
  | d+1,t =>
    match P.underlying t with
    | some .bool=>some [.bool]
    | some (.int q)=>some [.int q]
    | some .string=>some [.str]
    | some (.array n e) =>
      match zFr P d e with
      | some ks=>bif Nat.beq (P.cellsOf e) ks.length&&Nat.beq (P.cellsOf t) (n * ks.length) then some (List.replicate n ks).flatten else none
      | none=>none
    | some (.struct fs) =>
      match zJw (zFr P d) P.cellsOf 0 fs.toList with
      | some ks=>bif Nat.beq (P.cellsOf t) ks.length then some ks else none
      | none=>none
    | _=>none

def vk:KSh→Value→Prop
  | .int q,.int q' n=>q'=q∧(Lit.int q n).wf=true
  | .bool,.bool _=>True
  | .str,.string s=>s.size≤maxLen
  | _,_=>False
inductive VM:List KSh→List Value→Prop
  | nil:VM [] []
  | cons {k v ks vs}:vk k v→VM ks vs→VM (k::ks) (v::vs)

theorem VM.len {ks:List KSh} {cs:List Value} (h:VM ks cs):ks.length=cs.length:=by
  induction h with
  | nil=>rfl
  | cons _ _ ih=>simp [ih]
theorem VM.app {a b:List KSh} {cs:List Value} (h:VM (a++b) cs):VM a (cs.take a.length)∧VM b (cs.drop a.length):=by
  induction a generalizing cs with
  | nil=>exact ⟨by simpa using VM.nil,by simpa using h⟩
  | cons x a ih =>
    cases h with
    | cons h1 h2 =>
      obtain ⟨i1,i2⟩:=ih h2
      exact ⟨by simpa using VM.cons h1 i1,by simpa using i2⟩
theorem VM.part {ks:List KSh}:∀ {n:Nat} {cs:List Value} {i:Nat},VM (List.replicate n ks).flatten cs→i<n→VM ks ((cs.drop (i * ks.length)).take ks.length):=by
  intro n
  induction n with
  | zero=>intro cs i _ h;omega
  | succ n ih =>
    intro cs i h hi
    rw [List.replicate_succ,List.flatten_cons] at h
    obtain ⟨h1,h2⟩:=h.app
    cases i with
    | zero=>simpa using h1
    | succ i =>
      have:=ih (i:=i) h2 (by omega)
      rw [List.drop_drop] at this
      rw [Nat.add_mul,Nat.one_mul,Nat.add_comm]
      exact this
theorem zGD {α β:Type} {f:α→Option β}:∀ (l:List α),(∀ x∈l,∃ b,f x=some b)→∃ bs,l.mapM f=some bs:=by
  intro l
  induction l with
  | nil=>intro _;exact ⟨[],rfl⟩
  | cons x l ih =>
    intro h
    obtain ⟨b,hb⟩:=h x (List.mem_cons_self ..)
    obtain ⟨bs,hbs⟩:=ih fun y hy=>h y (List.mem_cons_of_mem _ hy)
    exact ⟨b::bs,by simp [List.mapM_cons,hb,hbs]⟩
theorem zKM {g:TypeId→Option (List KSh)} {cell:TypeId→Nat}:∀ (fs:List Field) (o:Nat) (ks:List KSh) (cs:List Value),zJw g cell o fs=some ks→o≤cs.length→VM ks (cs.drop o) →
    ∀ f ∈ fs, (f.name != "_") = true ∧ ∃ a, g f.type = some a ∧ VM a ((cs.drop f.offset).take (cell f.type)) := by
  intro fs
  induction fs with
  | nil=>intro o ks cs _ _ _ f hf;cases hf
  | cons x r ih =>
    intro o ks cs h ho hv f hf
    unfold zJw at h
    split at h
    case h_2=>cases h
    rename_i a b ha hb
    replace h:=zY h;obtain ⟨hc,h⟩:=h
    simp only [Bool.and_eq_true] at hc
    have e1:=xO.1 hc.1
    have e2:=xO.1 hc.2.1
    injection h with h;subst h
    obtain ⟨v1,v2⟩:=hv.app
    rcases List.mem_cons.1 hf with rfl | hf
    · exact ⟨hc.2.2,a,ha,by rw [e1,e2];exact v1⟩
    · have hl:=hv.len
      rw [List.length_append,List.length_drop] at hl
      refine ih (o+cell x.type) b cs hb (by omega) ?_ f hf
      rw [List.drop_drop] at v2
      rw [e2];exact v2
theorem zHQ {P:Program}:∀ (d:Nat) (t:TypeId) (ks:List KSh) (cs:List Value),zFr P d t=some ks→VM ks cs→∃ ls,P.keyLits d t cs=some ls:=by
  intro d
  induction d with
  | zero=>intro t ks cs h;cases h
  | succ d ih =>
    intro t ks cs h hv
    unfold zFr at h
    unfold Program.keyLits
    split at h
    · rename_i hu
      injection h with h;subst h
      cases hv with
      | cons h1 h2=>cases h2;rename_i v;cases v<;>simp [vk] at h1;rw [hu];exact ⟨_,rfl⟩
    · rename_i q hu
      injection h with h;subst h
      cases hv with
      | cons h1 h2=>cases h2;rename_i v;cases v<;>simp [vk] at h1;rw [hu];simp [h1]
    · rename_i hu
      injection h with h;subst h
      cases hv with
      | cons h1 h2=>cases h2;rename_i v;cases v<;>simp [vk] at h1;rw [hu];simp [h1]
    · rename_i n e hu
      split at h
      case h_2=>cases h
      rename_i ks' hk
      replace h:=zY h;obtain ⟨hc,h⟩:=h
      simp only [Bool.and_eq_true] at hc
      have e1:=xO.1 hc.1
      have e2:=xO.1 hc.2
      injection h with h;subst h
      have hl:=hv.len
      have hl2:(List.replicate n ks').flatten.length=n * ks'.length:=by simp
      rw [hu]
      simp only
      rw [if_pos (by omega)]
      obtain ⟨bs,hbs⟩:=zGD (f:=fun i=>P.keyLits d e ((cs.drop (i * P.cellsOf e)).take (P.cellsOf e))) (List.range n) (fun i hi=>by
        rw [e1]
        exact ih e ks' _ hk (hv.part (List.mem_range.1 hi)))
      rw [hbs];exact ⟨_,rfl⟩
    · rename_i fs hu
      split at h
      case h_2=>cases h
      rename_i ks' hk
      replace h:=zY h;obtain ⟨hc,h⟩:=h
      have e1:=xO.1 hc
      injection h with h;subst h
      have hl:=hv.len
      have hspec:=zKM fs.toList 0 ks' cs hk (by omega) (by simpa using hv)
      rw [hu]
      simp only
      rw [if_pos ⟨by omega,by rw [← Array.all_toList];exact List.all_eq_true.2 fun f hf=>(hspec f hf).1⟩]
      obtain ⟨bs,hbs⟩:=zGD (f:=fun f:Field=>P.keyLits d f.type ((cs.drop f.offset).take (P.cellsOf f.type))) fs.toList (fun f hf=>by
        obtain ⟨_,a,ha,hva⟩:=hspec f hf
        exact ih f.type a _ ha hva)
      rw [hbs];exact ⟨_,rfl⟩
    · cases h

theorem zNC {w:World} {I:Nat→Prop} {T:Tbl} {v:Value} {a:AV} {k:KSh} (h:Rep w I T v a) (hk:kc k a=true):vk k v:=by
  cases k<;>cases a<;>simp [kc] at hk
  · subst hk
    cases h with
    | int hw=>exact ⟨rfl,zFp hw⟩
  · cases h;trivial
  · cases h with
    | str h1 h2=>simpa [vk,vK,ByteArray.size] using h2
theorem zNg {w:World} {I:Nat→Prop} {T:Tbl}:∀ (ks:List KSh) (cs:List AV) (vs:List Value),kcs ks cs=true→vs.length=cs.length→(∀ (j:Nat) (c:AV) (v:Value),cs[j]?=some c→vs[j]?=some v→Rep w I T v c)→VM ks vs:=by
  intro ks
  induction ks with
  | nil=>intro cs vs h hl _;cases cs<;>simp [kcs] at h;simp at hl;subst hl;exact .nil
  | cons k r ih =>
    intro cs vs h hl hr
    cases cs with
    | nil=>simp [kcs] at h
    | cons c s =>
      cases vs with
      | nil=>simp at hl
      | cons v u =>
        simp only [kcs,Bool.and_eq_true] at h
        exact .cons (zNC (hr 0 c v rfl rfl) h.1) (ih s u h.2 (by simpa using hl) fun j c' v' hc hv=>hr (j+1) c' v' (by simpa using hc) (by simpa using hv))

def zJF (P:Program) (k:TypeId):Bool:=match P.underlying k with | some (.array _ _) | some (.struct _)=>true | _=>false

theorem zBY {P:Program} {k:TypeId} {ks:List KSh} (hl:laidOutB P=true) (hw:zJF P k=true) (hk:(decide (k<P.types.size)&&(P.keyTypeAt 100 k&&(P.keyType k&&Nat.beq (P.cellsOf k) ks.length)))=true) (hs:zFr P (P.types.size+1) k=some ks):vZ P k true ks:=by
  simp only [Bool.and_eq_true,decide_eq_true_eq] at hk
  obtain ⟨k1,k2,k3,k4⟩:=hk
  have k4:=xO.1 k4
  refine ⟨Maps.Keyed.of_law (deep_law_laid hl (m:=100) (by omega) k1 k2 hw),fun w I T v a hr hm=>?_⟩
  by_cases ha:∃ cs,a=.agg cs
  · obtain ⟨cs,rfl⟩:=ha
    simp only [uZ,Bool.and_eq_true] at hm
    obtain ⟨l1,_⟩:=zEs hm.2
    cases hr with
    | agg s1 o1 r1 =>
      rename_i vs
      have hvm:VM ks vs.toList:=zNg ks cs vs.toList hm.2 (by simpa using s1) fun j c v hc hv=>by
        have:=r1 j c hc
        rw [Array.getElem?_toList] at hv
        rwa [Array.getD_eq_getD_getElem?,hv] at this
      obtain ⟨ls,hls⟩:=zHQ _ _ _ _ hs hvm
      have hf:(Value.agg vs).formed P k=true:=by
        unfold zJF at hw
        unfold Value.formed
        split at hw
        · rename_i hu;rw [hu];simp;omega
        · rename_i hu;rw [hu];simp;omega
        · cases hw
      refine ⟨.string (keyBytes ls),?_⟩
      unfold keyOf
      unfold zJF at hw
      split at hw
      · rename_i hu;rw [hu];simp only [k3,hf,Bool.and_self,if_true];simp only [Value.cells];rw [hls];rfl
      · rename_i hu;rw [hu];simp only [k3,hf,Bool.and_self,if_true];simp only [Value.cells];rw [hls];rfl
      · cases hw
  · have:(!true&&kcs ks [a])=true:=by
      cases a<;>first | exact hm | exact absurd ⟨_,rfl⟩ ha
    simp at this
end Go.Ab
