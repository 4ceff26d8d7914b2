/- A layer over the model: abstract values and states, and the rules by which the printed proofs go. No conditions. -/
import Derived.Test.YtbifmbdcejggkaaA30
import Derived.Test.YtbifmbdcejggkaaA24
/- Typed tables for maps: what a qV-up gives behind a store; lists that are read in part. -/
namespace Go.Ab
open Go

theorem zCd {α β:Type} [DecidableEq α]:∀ (l:List (α×β)) (k k':α) (v:β),yA (uI l k v) k'=if k=k' then some v else yA l k':=by
  intro l
  induction l with
  | nil=>intro k k' v;rfl
  | cons p l ih =>
    intro k k' v
    unfold uI
    by_cases hp:p.1=k
    · rw [if_pos hp]
      simp only [yA]
      by_cases hk:k=k'
      · rw [if_pos hk,if_pos hk]
      · rw [if_neg hk,if_neg hk,if_neg (by rw [hp];exact hk)]
    · rw [if_neg hp]
      simp only [yA]
      rw [ih]
      by_cases hk:k=k'
      · rw [if_pos hk,if_pos hk,if_neg (by rw [← hk];exact hp)]
      · rw [if_neg hk,if_neg hk]
theorem zC9 {α β:Type} [DecidableEq α]:∀ (l:List (α×β)) (k:α) (v:β),(uI l k v).length≤l.length+1:=by
  intro l
  induction l with
  | nil=>intro k v;simp [uI]
  | cons p l ih =>
    intro k v
    unfold uI
    split
    · simp
    · have:=ih k v;simp only [List.length_cons];omega
/-- A table that says of each key whether it was seen. -/
def zKa {α:Type} [DecidableEq α] (t:List (α×Bool)) (l:List α):Prop:=t.length≤l.length∧∀ x,(yA t x).getD false=decide (x∈l)
theorem zMd {α:Type} [DecidableEq α]:zKa ([]:List (α×Bool)) []:=⟨Nat.le_refl _,fun x=>by simp [yA]⟩
theorem zMh {α:Type} [DecidableEq α] {t:List (α×Bool)} {l:List α} (h:zKa t l) (x:α):zKa (uI t x true) (l++[x]):=by
  refine ⟨by have:=zC9 t x true;have:=h.1;simp only [List.length_append,List.length_singleton];omega,fun y=>?_⟩
  rw [zCd]
  by_cases hy:x=y
  · rw [if_pos hy];simp [hy]
  · rw [if_neg hy,h.2];simp [Ne.symm hy]
theorem zLy {α:Type} (l:List α) (i:Nat):sub l 0 (i:Int)=l.take i:=by simp [sub]
theorem jC {α:Type} {l:List α} {i:Nat} {x:α} {r:List α} (h:l.drop i=x::r):l.take (i+1)=l.take i++[x]:=by
  rw [List.take_add_one]
  have:=congrArg (·[0]?) h
  simp at this
  rw [this];rfl
theorem zLU {α:Type} {l:List α} {i:Nat} {x:α} {r:List α} (h:l.drop i=x::r):l[i]?=some x:=by
  have:=congrArg (·[0]?) h
  simpa using this
theorem zD1 {α:Type} {c:Bool} {x y z:α} (hc:c=true) (h:x=z):(bif c then x else y)=z:=by rw [hc];exact h
theorem zGh {α:Type} {c:Bool} {x y z:α} (hc:c=false) (h:y=z):(bif c then x else y)=z:=by rw [hc];exact h
theorem zM6 {p q:Prop} [Decidable p] [Decidable q] (h:p∨q):(decide p||decide q)=true:=by simpa using h
theorem zNF {p q:Prop} [Decidable p] [Decidable q] (h:¬(p∨q)):(decide p||decide q)=false:=by simpa using h
theorem zFM {α:Type} [BEq α] [LawfulBEq α] {a b:α} (h:a=b):(a==b)=true:=by rw [h];exact BEq.rfl
theorem zKH {α:Type} [BEq α] [LawfulBEq α] {a b:α} (h:a≠b):(a==b)=false:=by simpa using h
end Go.Ab

/- A nil slice is seen as an empty row of the call's own. -/
namespace Go.Ab
open Go

def zHg (cs:List AV) (j:Nat):Bool:=match cs[j]? with | some .nilsl=>true | _=>false
theorem zE8 {cs:List AV} {j:Nat} (h:zHg cs j=true):cs[j]?=some .nilsl:=by
  unfold zHg at h
  split at h
  · assumption
  · cases h
theorem zEi {w:World} {I I':Nat→Prop} {T:Tbl} {id:Nat} {C:Array Value} {cs:List AV} {j:Nat} (hI:∀ b,I b→I' b) (hn:T id=none) (h:∀ (k:Nat) (c:AV),cs[k]?=some c→Rep w I T (C.getD k undef) c) (hj:cs[j]?=some .nilsl) :
    ∀ (k:Nat) (c:AV),(cs.set j (.own id 0))[k]?=some c→Rep w I' (T.put id .nil) (C.getD k undef) c:=by
  intro k c hk
  by_cases e:j=k
  · subst e
    have hlt:=(List.getElem?_eq_some_iff.1 hj).1
    rw [List.getElem?_set_self hlt] at hk
    injection hk with hk;subst hk
    have hr:=h j _ hj
    generalize C.getD j undef=v at hr
    cases hr with
    | nilsl=>exact .ownNil (Tbl.put_same _ _ _)
  · rw [List.getElem?_set_ne e] at hk
    exact (h k c hk).mono (Nat.le_refl _) (fun _ _ _=>rfl) (fun b hb _=>hI b hb) (Tbl.le_put hn)
theorem zFl {cs:List AV} {j id:Nat} (h:∀ c∈cs,c.one=true):∀ c∈cs.set j (.own id 0),c.one=true:=by
  intro c hc
  rcases List.mem_or_eq_of_mem_set hc with hc | rfl
  · exact h c hc
  · rfl

/-- In a variable's cell. -/
def zFu (st:AS) (i j id e sz:Nat):AS :=
  ⟨st.slot,fun k=>bif Nat.beq k id then .live (.row e sz []) else bif Nat.beq k i then (match st.box i with | .live (.var t cs)=>.live (.var t (cs.set j (.own id 0))) | b=>b) else st.box k⟩
def zIA (st:AS) (i j id:Nat):Bool:=v9 (st.box id)&&(match st.box i with | .live (.var _ cs)=>zHg cs j | _=>false)
/-- In a slot: the slice itself, or a cell of a struct. -/
def zDD (st:AS) (t:Nat) (j:Option Nat) (id e sz:Nat):AS :=
  ⟨fun k=>bif Nat.beq k t then (match j,st.slot t with | none,_=>.own id 0 | some j,.agg cs=>.agg (cs.set j (.own id 0)) | _,v=>v) else st.slot k,fun k=>bif Nat.beq k id then .live (.row e sz []) else st.box k⟩
def zHW (st:AS) (t:Nat) (j:Option Nat) (id:Nat):Bool :=
  v9 (st.box id)&&(match j,st.slot t with | none,.nilsl=>true | some j,.agg cs=>zHg cs j | _,_=>false)

/-- What both share. -/
theorem zDO {G:xE} {st st2:AS} {T:Tbl} {a:Act} {w:World} {id e sz:Nat} (hT:vS G st T a w) (hu:st.box id=.unused)
    (hslot:∀ t,(∀ I',(∀ b,imm G st T b→I' b)→Rep w I' (T.put id .nil) (a.tmps.getD t undef) (st2.slot t)))
    (hbox:∀ k bx,st2.box k=.live bx→(k=id∧bx=.row e sz [])∨(k≠id∧∃ bx0,st.box k=.live bx0∧∀ I',(∀ b,imm G st T b→I' b)→uH w I' (T.put id .nil) (T k) bx))
    (hun:∀ k,st2.box k=.unused→k≠id∧st.box k=.unused):Rel G st2 a w:=by
  have hn:=hT.unused id hu
  have himm:∀ b,imm G st T b→imm G st2 (T.put id .nil) b:=by
    intro b hb
    refine ⟨hb.1,fun k bx cap hl hTk=>?_⟩
    rcases hbox k bx hl with ⟨rfl,_⟩ | ⟨hne,bx0,h0,_⟩
    · rw [Tbl.put_same] at hTk;cases hTk
    · rw [Tbl.put_ne _ _ hne] at hTk;exact hb.2 k bx0 cap h0 hTk
  refine ⟨T.put id .nil,hT.defers,hT.size,fun t=>hslot t _ himm,?_,?_,?_,?_,fun i p hp=>Tbl.le_put hn _ _ (hT.foot i p hp),hT.kept,fun i p hp=>Tbl.le_put hn _ _ (hT.pin i p hp)⟩
  · intro k bx hl
    rcases hbox k bx hl with ⟨rfl,rfl⟩ | ⟨hne,bx0,h0,h1⟩
    · rw [Tbl.put_same];exact .inl ⟨rfl,rfl⟩
    · rw [Tbl.put_ne _ _ hne];exact h1 _ himm
  · intro k hk
    obtain ⟨hne,h0⟩:=hun k hk
    rw [Tbl.put_ne _ _ hne];exact hT.unused k h0
  · intro i1 i2 b1 b2 b c1 c2 h1 h2 t1 t2
    rcases hbox i1 b1 h1 with ⟨rfl,_⟩ | ⟨n1,x1,l1,_⟩
    · rw [Tbl.put_same] at t1;cases t1
    rcases hbox i2 b2 h2 with ⟨rfl,_⟩ | ⟨n2,x2,l2,_⟩
    · rw [Tbl.put_same] at t2;cases t2
    rw [Tbl.put_ne _ _ n1] at t1;rw [Tbl.put_ne _ _ n2] at t2
    exact hT.apart i1 i2 x1 x2 b c1 c2 l1 l2 t1 t2
  · intro k bx b cap hl hTk hge
    rcases hbox k bx hl with ⟨rfl,_⟩ | ⟨hne,bx0,h0,_⟩
    · rw [Tbl.put_same] at hTk;cases hTk
    · rw [Tbl.put_ne _ _ hne] at hTk;exact hT.mine k bx0 b cap h0 hTk hge

theorem pC {np:Nat} {st:AS} (i j id e sz:Nat) (h:zIA st i j id=true):Sub np st (zFu st i j id e sz):=by
  intro G a w hnp hRF
  refine hRF.lift ?_ ?_
  · intro k f hl
    simp only [zFu] at hl
    cases e1:Nat.beq k id
    · rw [e1] at hl
      simp only [cond_false] at hl
      cases e2:Nat.beq k i
      · rw [e2] at hl;exact hl
      · rw [e2] at hl
        have:=xO.1 e2
        subst this
        simp only [cond_true] at hl
        split at hl<;>first | cases hl | exact hl
    · rw [e1] at hl;cases hl
  rintro G' _ _ ⟨T,hT⟩
  unfold zIA at h
  simp only [Bool.and_eq_true] at h
  obtain ⟨h1,h2⟩:=h
  have hu:=vJ h1
  split at h2
  case h_2=>cases h2
  rename_i t cs hb
  have hj:=zE8 h2
  have hn:=hT.unused id hu
  have hne:i≠id:=fun e=>by rw [e,hu] at hb;cases hb
  have hbx:∀ k,(zFu st i j id e sz).box k=if k=id then .live (.row e sz []) else if k=i then .live (.var t (cs.set j (.own id 0))) else st.box k:=by
    intro k
    simp only [zFu,hb]
    by_cases e1:k=id
    · subst e1;simp
    · rw [xQ e1,if_neg e1]
      by_cases e2:k=i
      · subst e2;simp
      · rw [xQ e2,if_neg e2];rfl
  refine zDO hT hu (id:=id) (e:=e) (sz:=sz) ?_ ?_ ?_
  · intro t' I' hI
    exact (hT.slots t').mono (Nat.le_refl _) (fun _ _ _=>rfl) (fun b hb _=>hI b hb) (Tbl.le_put hn)
  · intro k bx hl
    rw [hbx] at hl
    by_cases e1:k=id
    · rw [if_pos e1] at hl;injection hl with hl;exact .inl ⟨e1,hl.symm⟩
    rw [if_neg e1] at hl
    by_cases e2:k=i
    · rw [if_pos e2] at hl;injection hl with hl;subst hl;subst e2
      refine .inr ⟨e1,_,hb,fun I' hI=>?_⟩
      obtain ⟨b,C,p1,p2,p3,p4,p5⟩:=hT.boxes k _ hb
      exact ⟨b,C,p1,p2,by rw [p3];simp,zFl p4,zEi hI hn p5 hj⟩
    · rw [if_neg e2] at hl
      exact .inr ⟨e1,bx,hl,fun I' hI=>(hT.boxes k bx hl).mono (Nat.le_refl _) (fun _ _ _=>rfl) (fun b hb _=>hI b hb) (Tbl.le_put hn) (fun _ _ _ _=>rfl)⟩
  · intro k hk
    rw [hbx] at hk
    by_cases e1:k=id
    · rw [if_pos e1] at hk;cases hk
    rw [if_neg e1] at hk
    by_cases e2:k=i
    · rw [if_pos e2] at hk;cases hk
    · rw [if_neg e2] at hk;exact ⟨e1,hk⟩

theorem zFm {np:Nat} {st:AS} (t:Nat) (j:Option Nat) (id e sz:Nat) (h:zHW st t j id=true):Sub np st (zDD st t j id e sz):=by
  intro G a w hnp hRF
  refine hRF.lift ?_ ?_
  · intro k f hl
    simp only [zDD] at hl
    cases e1:Nat.beq k id
    · rw [e1] at hl;exact hl
    · rw [e1] at hl;cases hl
  rintro G' _ _ ⟨T,hT⟩
  unfold zHW at h
  simp only [Bool.and_eq_true] at h
  obtain ⟨h1,h2⟩:=h
  have hu:=vJ h1
  have hn:=hT.unused id hu
  have hbx:∀ k,(zDD st t j id e sz).box k=if k=id then .live (.row e sz []) else st.box k:=by
    intro k
    simp only [zDD]
    by_cases e1:k=id
    · subst e1;simp
    · rw [xQ e1,if_neg e1];rfl
  refine zDO hT hu (id:=id) (e:=e) (sz:=sz) ?_ ?_ ?_
  · intro k I' hI
    simp only [zDD]
    by_cases e1:k=t
    · subst e1
      rw [zA4]
      simp only [cond_true]
      split at h2
      · rename_i hs
        rw [hs]
        have hr:=hT.slots k
        rw [hs] at hr
        simp only
        generalize a.tmps.getD k undef=v at hr ⊢
        cases hr with
        | nilsl=>exact .ownNil (Tbl.put_same _ _ _)
      · rename_i j' cs hs
        rw [hs]
        have hr:=hT.slots k
        rw [hs] at hr
        simp only
        generalize a.tmps.getD k undef=v at hr ⊢
        cases hr with
        | agg k1 k2 k3=>exact .agg (by rw [k1];simp) (zFl k2) (zEi hI hn k3 (zE8 h2))
      · cases h2
    · rw [xQ e1]
      exact (hT.slots k).mono (Nat.le_refl _) (fun _ _ _=>rfl) (fun b hb _=>hI b hb) (Tbl.le_put hn)
  · intro k bx hl
    rw [hbx] at hl
    by_cases e1:k=id
    · rw [if_pos e1] at hl;injection hl with hl;exact .inl ⟨e1,hl.symm⟩
    rw [if_neg e1] at hl
    exact .inr ⟨e1,bx,hl,fun I' hI=>(hT.boxes k bx hl).mono (Nat.le_refl _) (fun _ _ _=>rfl) (fun b hb _=>hI b hb) (Tbl.le_put hn) (fun _ _ _ _=>rfl)⟩
  · intro k hk
    rw [hbx] at hk
    by_cases e1:k=id
    · rw [if_pos e1] at hk;cases hk
    rw [if_neg e1] at hk;exact ⟨e1,hk⟩

theorem Sub.trans {np:Nat} {a b c:AS} (h1:Sub np a b) (h2:Sub np b c):Sub np a c:=fun G x w hn hR=>h2 G x w hn (h1 G x w hn hR)
end Go.Ab
