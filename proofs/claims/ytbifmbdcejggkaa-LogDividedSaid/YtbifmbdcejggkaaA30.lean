/- A layer over the model: abstract values and states, and the rules by which the printed proofs go. No conditions. -/
import Derived.Test.YtbifmbdcejggkaaA27
/- Typed values behind cells: ranges of the integer kinds. -/
namespace Go.Ab
open Go

def uK (n:Int):Prop := -9223372036854775808≤n∧n≤9223372036854775807
def zM1 (n:Int):Prop:=0≤n∧n≤255
def zG2 (s:List Int):Prop:=(∀ x∈s,zM1 x)∧s.length≤140737488355328
def nW {α:Type} (ok:α→Prop) (l:List α):Prop:=(∀ x∈l,ok x)∧l.length≤140737488355328

theorem zD1 {k:IntKind} {n:Int} (h:k.wrap n=n):k.min≤n∧n≤k.max:=by
  rw [← h]
  cases k<;>simp only [IntKind.wrap,IntKind.min,IntKind.max,IntKind.signed,IntKind.bits]<;>simp<;>(try split)<;>omega
theorem zLc {n:Int} (h:IntKind.i64.wrap n=n):uK n:=by
  have:=zD1 h;exact this
theorem Enc.weak {α:Type} {s:List Sh} {c:α→List AV} {ok ok':α→Prop} (h:Enc s c ok) (ho:∀ x,ok x→ok' x):Enc s c ok':=by
  intro avs hf
  obtain ⟨x,rfl,hx⟩:=h avs hf
  exact ⟨x,rfl,ho x hx⟩
theorem v7:Enc [.int .i64] (fun n=>[.int .i64 n]) uK:=(zMn .i64).weak fun _=>zLc
theorem zH6:Enc [.str] (fun s=>[.str s]) zG2:=zMC.weak fun s h=>⟨fun x hx=>by have:=h.1 x hx;unfold zM1;omega,h.2⟩
theorem zKB {α:Type} {s:Sh} {e:α→AV} {ok:α→Prop} (h:Enc [s] (fun x=>[e x]) ok):Enc [.sl false [s]] (fun l=>[.sl false 1 (l.map e)]) (nW ok):=zMd h
theorem zCa {α:Type} {ss:List Sh} {c:α→List AV} {ok:α→Prop} (h:Enc ss c ok):Enc [.sl true ss] (fun l=>[.sl false ss.length (l.map fun x=>.agg (c x))]) (nW ok):=zMl h
end Go.Ab

/- Words for the plain laws: ranges, bits, and how the printed functions compute. -/
namespace Go.Ab
open Go

theorem tM {p:Prop} [Decidable p] (h:p):need p=some ():=if_pos h
theorem y1 {p:Prop} [Decidable p] (h:p):decide p=true:=decide_eq_true h
theorem y0 {p:Prop} [Decidable p] (h:¬p):decide p=false:=decide_eq_false h
theorem uF {a b:Int} (h:a=b):(a==b)=true:=by simpa using h
theorem jW {a b:Int} (h:a≠b):(a==b)=false:=by simpa using h
theorem qR {a b:Int} (h:a≠b):(a != b)=true:=by simpa using h
theorem q8 {a b:Int} (h:a=b):(a != b)=false:=by simpa using h
theorem w64 {x:Int} (h1 : -9223372036854775808≤x) (h2:x≤9223372036854775807):zP x=x:=by
  simp only [zP,IntKind.wrap,IntKind.bits,IntKind.signed];simp;split<;>omega
theorem zCD {α:Type} (l:List α) (i:Nat):wD l (i:Int)=l[i]?:=by simp [wD]
theorem x3 {α:Type} {l:List α} {i:Nat} {x:α} {r:List α} (h:l.drop i=x::r):wD l (i:Int)=some x:=by
  rw [zCD]
  have:=congrArg (·[0]?) h
  simpa using this
theorem t9 {α:Type} {l:List α} {i:Nat} {x:α} {r:List α} (h:l.drop i=x::r):i<l.length:=by
  rcases Nat.lt_or_ge i l.length with h' | h'
  · exact h'
  · rw [List.drop_eq_nil_of_le h'] at h;cases h
theorem vD {α:Type} {l:List α} {i:Nat} {x:α} {r:List α} (h:l.drop i=x::r):l.drop (i+1)=r:=by
  rw [← List.drop_drop,h];rfl
theorem tC {α:Type} {l:List α} {i:Nat} (h:l.drop i=[]):l.length≤i:=List.drop_eq_nil_iff.1 h

end Go.Ab

/- Loops over lists, as the printed functions have them. -/
namespace Go.Ab
open Go

/-- A loop over a list by its index: what it gives is a function of what is left. -/
theorem zNe {α σ R:Type} {l:List α} (L:Nat→Int→σ→Option R) (G:Nat→List α→σ→R) (Inv:Nat→σ→Prop)
    (he:∀ n i s,l.length≤i→Inv i s→L (n+1) (i:Nat) s=some (G i [] s))
    (hs:∀ n i s x r,l.drop i=x::r→i<l.length→Inv i s→(∀ s',Inv (i+1) s'→L n ((i+1:Nat):Int) s'=some (G (i+1) r s'))→L (n+1) (i:Nat) s=some (G i (x::r) s)) :
    ∀ n i s,Inv i s→(l.drop i).length<n→L n (i:Nat) s=some (G i (l.drop i) s):=by
  intro n
  induction n with
  | zero=>intro i s _ h;omega
  | succ n ih =>
    intro i s hI hn
    rcases hd:l.drop i with _ | ⟨x,r⟩
    · exact he n i s (tC hd) hI
    · refine hs n i s x r hd (t9 hd) hI fun s' hI'=>?_
      have:=ih (i+1) s' hI' (by rw [vD hd];rw [hd] at hn;simp only [List.length_cons] at hn;omega)
      rwa [vD hd] at this

/-- The same from the beginning. -/
theorem zM5 {α σ R:Type} {l:List α} (L:Nat→Int→σ→Option R) (G:Nat→List α→σ→R) (Inv:Nat→σ→Prop)
    (he:∀ n i s,l.length≤i→Inv i s→L (n+1) (i:Nat) s=some (G i [] s))
    (hs:∀ n i s x r,l.drop i=x::r→i<l.length→Inv i s→(∀ s',Inv (i+1) s'→L n ((i+1:Nat):Int) s'=some (G (i+1) r s'))→L (n+1) (i:Nat) s=some (G i (x::r) s))
    {n:Nat} {s:σ} (hI:Inv 0 s) (hn:l.length<n):L n 0 s=some (G 0 l s):=by
  have:=zNe L G Inv he hs n 0 s hI (by simpa using hn)
  simpa using this

theorem v5 {i:Nat} (h:i<9223372036854775807):zP ((i:Int)+1)=((i+1:Nat):Int):=by
  rw [w64 (by omega) (by omega)];omega
theorem zBi {α:Type} {l:List α} {i:Nat} {x:α} {r:List α} (h:l.drop i=x::r):x∈l:=List.mem_of_mem_drop (h ▸ List.mem_cons_self)
theorem zGo {α:Type} {l:List α} {i:Nat} (h0:0<i) (h:i<9223372036854775807):wD l (zP ((i:Int) - 1))=l[i - 1]?:=by
  rw [w64 (by omega) (by omega),show (i:Int) - 1=((i - 1:Nat):Int) by omega,zCD]
theorem zKg {α:Type} {l:List α} (h0:l.length<9223372036854775807) (h:l≠[]):wD l (zP ((l.length:Int) - 1))=l.getLast?:=by
  have:0<l.length:=List.length_pos_iff.2 h
  rw [zGo this h0,List.getLast?_eq_getElem?]

/-- A search for the first that fails. -/
def x5 {α:Type} {β:Type} (f:Nat→α→Option β):Nat→List α→Unit⊕β
  | _,[]=>.inl ()
  | i,x::r=>match f i x with
    | none=>x5 f (i+1) r
    | some b=>.inr b
theorem zC2 {α β:Type} {f:Nat→α→Option β} {i:Nat} {l:List α} (h:x5 f i l=.inl ()):∀ j x,l[j]?=some x→f (i+j) x=none:=by
  induction l generalizing i with
  | nil=>intro j x hj;simp at hj
  | cons a r ih =>
    intro j x hj
    simp only [x5] at h
    split at h
    · rename_i hf
      cases j with
      | zero=>simp at hj;subst hj;exact hf
      | succ j =>
        have:=ih h j x (by simpa using hj)
        rwa [show i+1+j=i+(j+1) by omega] at this
    · cases h
theorem zHV {α β:Type} {f:Nat→α→Option β} {i:Nat} {l:List α} (h:∀ j x,l[j]?=some x→f (i+j) x=none):x5 f i l=.inl ():=by
  induction l generalizing i with
  | nil=>rfl
  | cons a r ih =>
    simp only [x5]
    rw [show f i a=none from h 0 a rfl]
    exact ih fun j x hj=>by
      have:=h (j+1) x (by simpa using hj)
      rwa [show i+(j+1)=i+1+j by omega] at this
end Go.Ab

/- Maps of the call's own: typed tables, and what the layer asks of them. -/
namespace Go.Ab
open Go

/-- An entry, as abstract values. -/
def mpE {α β:Type} (f:α→AV) (g:β→AV) (p:α×β):AV×AV:=(f p.1,g p.2)
/-- The value at a key. -/
def z9 {α β:Type} [DecidableEq α]:List (α×β)→α→Option β
  | [],_=>none
  | p::l,k=>if p.1=k then some p.2 else z9 l k
/-- The table with a value at a key. -/
def v6 {α β:Type} [DecidableEq α]:List (α×β)→α→β→List (α×β)
  | [],k,v=>[(k,v)]
  | p::l,k,v=>if p.1=k then (k,v)::l else p::v6 l k v

section
variable {α β:Type} [DecidableEq α] {f:α→AV} {g:β→AV}
theorem zBH {l:List (α×β)} {k:α} (h:z9 l k=none):∀ p∈l,p.1≠k:=by
  induction l with
  | nil=>intro p hp;cases hp
  | cons q l ih =>
    unfold z9 at h
    split at h
    · cases h
    · rename_i hq
      intro p hp
      rcases List.mem_cons.1 hp with rfl | hp
      · exact hq
      · exact ih h p hp
theorem zDi {l:List (α×β)} {k:α} {v:β} (h:z9 l k=some v):∃ (i:Nat) (p:α×β),l[i]?=some p∧p.1=k∧p.2=v∧∀ w,v6 l k w=l.set i (k,w):=by
  induction l with
  | nil=>cases h
  | cons q l ih =>
    unfold z9 at h
    split at h
    · rename_i hq
      injection h with h
      exact ⟨0,q,rfl,hq,h,fun w=>by simp [v6,hq]⟩
    · rename_i hq
      obtain ⟨i,p,h1,h2,h3,h4⟩:=ih h
      exact ⟨i+1,p,by simpa using h1,h2,h3,fun w=>by simp [v6,hq,h4]⟩
theorem zKT {l:List (α×β)} {k:α} (h:∀ p∈l,p.1≠k) (v:β):v6 l k v=l++[(k,v)]:=by
  induction l with
  | nil=>rfl
  | cons q l ih =>
    unfold v6
    rw [if_neg (h q (List.mem_cons_self ..)),ih fun p hp=>h p (List.mem_cons_of_mem _ hp)];rfl
theorem zDo (hf:∀ a b,f a=f b→a=b) (l:List (α×β)) (k:α) (z:β):q6 (l.map (mpE f g)) (f k) (g z) (g ((z9 l k).getD z)) (z9 l k).isSome:=by
  cases h:z9 l k with
  | none =>
    refine .inr ⟨fun x hx=>?_,rfl,rfl⟩
    obtain ⟨p,hp,rfl⟩:=List.mem_map.1 hx
    exact fun e=>zBH h p hp (hf _ _ e)
  | some v =>
    obtain ⟨i,p,h1,h2,h3,_⟩:=zDi h
    exact .inl ⟨i,mpE f g p,by rw [List.getElem?_map,h1];rfl,by simp [mpE,h2],by simp [mpE,h3],rfl⟩
theorem zCK (hf:∀ a b,f a=f b→a=b) (l:List (α×β)) (k:α) (v:β):zBo (l.map (mpE f g)) (f k) (g v) ((v6 l k v).map (mpE f g)):=by
  cases h:z9 l k with
  | none =>
    refine .inr ⟨fun x hx=>?_,?_⟩
    · obtain ⟨p,hp,rfl⟩:=List.mem_map.1 hx
      exact fun e=>zBH h p hp (hf _ _ e)
    · rw [zKT (zBH h)];simp [mpE]
  | some v0 =>
    obtain ⟨i,p,h1,h2,h3,h4⟩:=zDi h
    exact .inl ⟨i,mpE f g p,by rw [List.getElem?_map,h1];rfl,by simp [mpE,h2],by rw [h4,List.map_set];rfl⟩
omit [DecidableEq α] in
theorem zF4 {l:List (α×β)} (h:l.length<140737488355328):(l.map (mpE f g)).length<maxLen:=by
  rw [List.length_map,wO];omega
end

theorem nQ {α:Type} [DecidableEq α] {f:α→AV} (hf:∀ a b,f a=f b→a=b) (a b:α):decide (a=b)=true↔f a=f b:=by
  rw [decide_eq_true_iff];exact ⟨fun h=>by rw [h],hf a b⟩

theorem nF {k:IntKind}:∀ a b:Int,AV.int k a=AV.int k b→a=b:=fun _ _ h=>(AV.int.inj h).2
theorem zET {k:IntKind} {n:Int} (h:k.wrap n=n):(Lit.int k n).wf=true:=by
  have:=zD1 h
  simp only [Lit.wf,Bool.and_eq_true,decide_eq_true_eq];exact this
theorem zKq {P:Program} {k:TypeId} {q:IntKind} (h:P.underlying k=some (.int q)):vK P k false [.int q]:=by
  refine ⟨Maps.int_keyed h,fun w I T v a hr hm=>?_⟩
  cases a<;>simp [uQ,kcs,kc] at hm
  subst hm
  cases hr with
  | int hw=>exact ⟨_,Maps.keyOf_int_mk h (zET hw)⟩
end Go.Ab
