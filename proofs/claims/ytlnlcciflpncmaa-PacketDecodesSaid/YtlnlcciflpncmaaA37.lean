/- A layer over the model: abstract values and states, and the rules by which the printed proofs go. No conditions. -/
import Derived.Test.YtlnlcciflpncmaaA32
import Derived.Test.YtlnlcciflpncmaaA24
import Derived.Maps.RangeRun
/- Typed tables for maps: what a nV-up gives behind a store; lists that are read in part. -/
namespace Go.Ab
open Go
theorem zL0 {α β:Type} [DecidableEq α]:∀ (l:List (α×β)) (k k':α) (v:β),tJ (t3 l k v) k'=if k=k' then some v else tJ l k':=by
 intro l
 induction l with
 | nil=>intro k k' v;rfl
 | cons p l ih =>
  intro k k' v
  unfold t3
  by_cases hp:p.1=k
  ·rw [if_pos hp]
   simp only [tJ]
   by_cases hk:k=k'
   ·rw [if_pos hk,if_pos hk]
   ·rw [if_neg hk,if_neg hk,if_neg (by rw [hp];exact hk)]
  ·rw [if_neg hp]
   simp only [tJ]
   rw [ih]
   by_cases hk:k=k'
   ·rw [if_pos hk,if_pos hk,if_neg (by rw [← hk];exact hp)]
   ·rw [if_neg hk,if_neg hk]
theorem zMI {α β:Type} [DecidableEq α]:∀ (l:List (α×β)) (k:α) (v:β),(t3 l k v).length≤l.length+1:=by
 intro l
 induction l with
 | nil=>intro k v;simp [t3]
 | cons p l ih =>
  intro k v
  unfold t3
  split
  ·simp
  ·have:=ih k v;simp only [List.length_cons];omega
def zJJ {α:Type} [DecidableEq α] (t:List (α×Bool)) (l:List α):Prop:=t.length≤l.length∧∀ x,(tJ t x).getD false=decide (x∈l)
theorem zJc {α:Type} [DecidableEq α]:zJJ ([]:List (α×Bool)) []:=⟨Nat.le_refl _,fun x=>by simp [tJ]⟩
theorem zJo {α:Type} [DecidableEq α] {t:List (α×Bool)} {l:List α} (h:zJJ t l) (x:α):zJJ (t3 t x true) (l++[x]):=by
 refine ⟨by have:=zMI t x true;have:=h.1;simp only [List.length_append,List.length_singleton];omega,fun y=>?_⟩
 rw [zL0]
 by_cases hy:x=y
 ·rw [if_pos hy];simp [hy]
 ·rw [if_neg hy,h.2];simp [Ne.symm hy]
theorem zJ4 {α:Type} (l:List α) (i:Nat):sub l 0 (i:Int)=l.take i:=by simp [sub]
theorem pF {α:Type} {l:List α} {i:Nat} {x:α} {r:List α} (h:l.drop i=x::r):l.take (i+1)=l.take i++[x]:=by
 rw [List.take_add_one]
 have:=congrArg (·[0]?) h
 simp at this
 rw [this];rfl
theorem zFB {α:Type} {l:List α} {i:Nat} {x:α} {r:List α} (h:l.drop i=x::r):(l.take i).length=i:=by
 have:=vA h
 rw [List.length_take];omega
theorem zFQ {α:Type} {l:List α} {i:Nat} {x:α} {r:List α} (h:l.drop i=x::r):l[i]?=some x:=by
 have:=congrArg (·[0]?) h
 simpa using this
theorem zNr {α:Type} {c:Bool} {x y z:α} (hc:c=true) (h:x=z):(bif c then x else y)=z:=by rw [hc];exact h
theorem zJP {p q:Prop} [Decidable p] [Decidable q] (h:p∨q):(decide p||decide q)=true:=by simpa using h
theorem zLk {p q:Prop} [Decidable p] [Decidable q] (h:¬(p∨q)):(decide p||decide q)=false:=by simpa using h
theorem zBU {α:Type} [BEq α] [LawfulBEq α] {a b:α} (h:a=b):(a==b)=true:=by rw [h];exact BEq.rfl
theorem zDd {α:Type} [BEq α] [LawfulBEq α] {a b:α} (h:a≠b):(a==b)=false:=by simpa using h
theorem zHT {α:Type} [DecidableEq α] {a b:List α} (L:Nat→Int→Option (Unit⊕Bool)) (hab:a.length=b.length) (hl:a.length≤100000)
  (h0:∀ n i,a.length≤i→L (n+1) (i:Nat)=some (.inl ()))
  (h1:∀ n i x y r r2,a.drop i=x::r→b.drop i=y::r2→i<a.length→L (n+1) (i:Nat)=if x=y then L n ((i+1:Nat):Int) else some (.inr false)) :
  L 200000 0=some (if a=b then .inl () else .inr false):=by
 have key:∀ (n i:Nat),(a.drop i).length<n→L n (i:Int)=some (if a.drop i=b.drop i then .inl () else .inr false):=by
  intro n
  induction n with
  | zero=>intro i h;omega
  | succ n ih =>
   intro i hn
   rcases hd:a.drop i with _ | ⟨x,r⟩
   ·have:=wO hd
    rw [h0 n i this,List.drop_eq_nil_of_le (show b.length≤i by omega),if_pos rfl]
   rcases hd2:b.drop i with _ | ⟨y,r2⟩
   ·have:=wO hd2;have:=vA hd;omega
   rw [hd] at hn
   simp only [List.length_cons] at hn
   rw [h1 n i x y r r2 hd hd2 (vA hd)]
   have:=ih (i+1) (by rw [yD hd];omega)
   rw [yD hd,yD hd2] at this
   by_cases hxy:x=y
   ·rw [if_pos hxy,this];simp [hxy]
   ·rw [if_neg hxy,if_neg (by simp [hxy])]
 have:=key 200000 0 (by simp;omega)
 simpa using this
end Go.Ab

/- A nil slice is seen as an empty row of the call's own. -/
namespace Go.Ab
open Go
def zIy (cs:List AV) (j:Nat):Bool:=match cs[j]? with | some .nilsl=>true | _=>false
theorem zGG {cs:List AV} {j:Nat} (h:zIy cs j=true):cs[j]?=some .nilsl:=by
 unfold zIy at h
 split at h
 ·assumption
 ·cases h
theorem zE8 {w:World} {I I':Nat→Prop} {T:Tbl} {id:Nat} {C:Array Value} {cs:List AV} {j:Nat} (hI:∀ b,I b→I' b) (hn:T id=none) (h:∀ (k:Nat) (c:AV),cs[k]?=some c→Rep w I T (C.getD k undef) c) (hj:cs[j]?=some .nilsl) :
  ∀ (k:Nat) (c:AV),(cs.set j (.own id 0))[k]?=some c→Rep w I' (T.put id .nil) (C.getD k undef) c:=by
 intro k c hk
 by_cases e:j=k
 ·subst e
  have hlt:=(List.getElem?_eq_some_iff.1 hj).1
  rw [List.getElem?_set_self hlt] at hk
  injection hk with hk;subst hk
  have hr:=h j _ hj
  generalize C.getD j undef=v at hr
  cases hr with
  | nilsl=>exact .ownNil (Tbl.put_same _ _ _)
 ·rw [List.getElem?_set_ne e] at hk
  exact (h k c hk).mono (Nat.le_refl _) (fun _ _ _=>rfl) (fun b hb _=>hI b hb) (Tbl.le_put hn)
theorem zGS {cs:List AV} {j id:Nat} (h:∀ c∈cs,c.one=true):∀ c∈cs.set j (.own id 0),c.one=true:=by
 intro c hc
 rcases List.mem_or_eq_of_mem_set hc with hc | rfl
 ·exact h c hc
 ·rfl
def zJ9 (st:AS) (i j id e sz:Nat):AS :=
 ⟨st.slot,fun k=>bif Nat.beq k id then .live (.row e sz []) else bif Nat.beq k i then (match st.box i with | .live (.var t cs)=>.live (.var t (cs.set j (.own id 0))) | b=>b) else st.box k⟩
def zJr (st:AS) (i j id:Nat):Bool:=u4 (st.box id)&&(match st.box i with | .live (.var _ cs)=>zIy cs j | _=>false)
def zF2 (st:AS) (t:Nat) (j:Option Nat) (id e sz:Nat):AS :=
 ⟨fun k=>bif Nat.beq k t then (match j,st.slot t with | none,_=>.own id 0 | some j,.agg cs=>.agg (cs.set j (.own id 0)) | _,v=>v) else st.slot k,fun k=>bif Nat.beq k id then .live (.row e sz []) else st.box k⟩
def zJW (st:AS) (t:Nat) (j:Option Nat) (id:Nat):Bool :=
 u4 (st.box id)&&(match j,st.slot t with | none,.nilsl=>true | some j,.agg cs=>zIy cs j | _,_=>false)
theorem zHH {G:wL} {st st2:AS} {T:Tbl} {a:Act} {w:World} {id e sz:Nat} (hT:tS G st T a w) (hu:st.box id=.unused)
  (hslot:∀ t,(∀ I',(∀ b,imm G st T b→I' b)→Rep w I' (T.put id .nil) (a.tmps.getD t undef) (st2.slot t)))
  (hbox:∀ k bx,st2.box k=.live bx→(k=id∧bx=.row e sz [])∨(k≠id∧∃ bx0,st.box k=.live bx0∧∀ I',(∀ b,imm G st T b→I' b)→t4 w I' (T.put id .nil) (T k) bx))
  (hun:∀ k,st2.box k=.unused→k≠id∧st.box k=.unused):Rel G st2 a w:=by
 have hn:=hT.unused id hu
 have himm:∀ b,imm G st T b→imm G st2 (T.put id .nil) b:=by
  intro b hb
  refine ⟨hb.1,fun k bx cap hl hTk=>?_⟩
  rcases hbox k bx hl with ⟨rfl,_⟩ | ⟨hne,bx0,h0,_⟩
  ·rw [Tbl.put_same] at hTk;cases hTk
  ·rw [Tbl.put_ne _ _ hne] at hTk;exact hb.2 k bx0 cap h0 hTk
 refine ⟨T.put id .nil,hT.defers,hT.size,fun t=>hslot t _ himm,?_,?_,?_,?_,fun i p hp=>Tbl.le_put hn _ _ (hT.foot i p hp),hT.kept⟩
 ·intro k bx hl
  rcases hbox k bx hl with ⟨rfl,rfl⟩ | ⟨hne,bx0,h0,h1⟩
  ·rw [Tbl.put_same];exact .inl ⟨rfl,rfl⟩
  ·rw [Tbl.put_ne _ _ hne];exact h1 _ himm
 ·intro k hk
  obtain ⟨hne,h0⟩:=hun k hk
  rw [Tbl.put_ne _ _ hne];exact hT.unused k h0
 ·intro i1 i2 b1 b2 b c1 c2 h1 h2 t1 t2
  rcases hbox i1 b1 h1 with ⟨rfl,_⟩ | ⟨n1,x1,l1,_⟩
  ·rw [Tbl.put_same] at t1;cases t1
  rcases hbox i2 b2 h2 with ⟨rfl,_⟩ | ⟨n2,x2,l2,_⟩
  ·rw [Tbl.put_same] at t2;cases t2
  rw [Tbl.put_ne _ _ n1] at t1;rw [Tbl.put_ne _ _ n2] at t2
  exact hT.apart i1 i2 x1 x2 b c1 c2 l1 l2 t1 t2
 ·intro k bx b cap hl hTk hge
  rcases hbox k bx hl with ⟨rfl,_⟩ | ⟨hne,bx0,h0,_⟩
  ·rw [Tbl.put_same] at hTk;cases hTk
  ·rw [Tbl.put_ne _ _ hne] at hTk;exact hT.mine k bx0 b cap h0 hTk hge
theorem n8 {np:Nat} {st:AS} (i j id e sz:Nat) (h:zJr st i j id=true):Sub np st (zJ9 st i j id e sz):=by
 rintro G a w hnp ⟨T,hT⟩
 unfold zJr at h
 simp only [Bool.and_eq_true] at h
 obtain ⟨h1,h2⟩:=h
 have hu:=vL h1
 split at h2
 case h_2=>cases h2
 rename_i t cs hb
 have hj:=zGG h2
 have hn:=hT.unused id hu
 have hne:i≠id:=fun e=>by rw [e,hu] at hb;cases hb
 have hbx:∀ k,(zJ9 st i j id e sz).box k=if k=id then .live (.row e sz []) else if k=i then .live (.var t (cs.set j (.own id 0))) else st.box k:=by
  intro k
  simp only [zJ9,hb]
  by_cases e1:k=id
  ·subst e1;simp
  ·rw [x8 e1,if_neg e1]
   by_cases e2:k=i
   ·subst e2;simp
   ·rw [x8 e2,if_neg e2];rfl
 refine zHH hT hu (id:=id) (e:=e) (sz:=sz) ?_ ?_ ?_
 ·intro t' I' hI
  exact (hT.slots t').mono (Nat.le_refl _) (fun _ _ _=>rfl) (fun b hb _=>hI b hb) (Tbl.le_put hn)
 ·intro k bx hl
  rw [hbx] at hl
  by_cases e1:k=id
  ·rw [if_pos e1] at hl;injection hl with hl;exact .inl ⟨e1,hl.symm⟩
  rw [if_neg e1] at hl
  by_cases e2:k=i
  ·rw [if_pos e2] at hl;injection hl with hl;subst hl;subst e2
   refine .inr ⟨e1,_,hb,fun I' hI=>?_⟩
   obtain ⟨b,C,p1,p2,p3,p4,p5⟩:=hT.boxes k _ hb
   exact ⟨b,C,p1,p2,by rw [p3];simp,zGS p4,zE8 hI hn p5 hj⟩
  ·rw [if_neg e2] at hl
   exact .inr ⟨e1,bx,hl,fun I' hI=>(hT.boxes k bx hl).mono (Nat.le_refl _) (fun _ _ _=>rfl) (fun b hb _=>hI b hb) (Tbl.le_put hn) (fun _ _ _ _=>rfl)⟩
 ·intro k hk
  rw [hbx] at hk
  by_cases e1:k=id
  ·rw [if_pos e1] at hk;cases hk
  rw [if_neg e1] at hk
  by_cases e2:k=i
  ·rw [if_pos e2] at hk;cases hk
  ·rw [if_neg e2] at hk;exact ⟨e1,hk⟩
theorem zF3 {np:Nat} {st:AS} (t:Nat) (j:Option Nat) (id e sz:Nat) (h:zJW st t j id=true):Sub np st (zF2 st t j id e sz):=by
 rintro G a w hnp ⟨T,hT⟩
 unfold zJW at h
 simp only [Bool.and_eq_true] at h
 obtain ⟨h1,h2⟩:=h
 have hu:=vL h1
 have hn:=hT.unused id hu
 have hbx:∀ k,(zF2 st t j id e sz).box k=if k=id then .live (.row e sz []) else st.box k:=by
  intro k
  simp only [zF2]
  by_cases e1:k=id
  ·subst e1;simp
  ·rw [x8 e1,if_neg e1];rfl
 refine zHH hT hu (id:=id) (e:=e) (sz:=sz) ?_ ?_ ?_
 ·intro k I' hI
  simp only [zF2]
  by_cases e1:k=t
  ·subst e1
   rw [zBK]
   simp only [cond_true]
   split at h2
   ·rename_i hs
    rw [hs]
    have hr:=hT.slots k
    rw [hs] at hr
    simp only
    generalize a.tmps.getD k undef=v at hr ⊢
    cases hr with
    | nilsl=>exact .ownNil (Tbl.put_same _ _ _)
   ·rename_i j' cs hs
    rw [hs]
    have hr:=hT.slots k
    rw [hs] at hr
    simp only
    generalize a.tmps.getD k undef=v at hr ⊢
    cases hr with
    | agg k1 k2 k3=>exact .agg (by rw [k1];simp) (zGS k2) (zE8 hI hn k3 (zGG h2))
   ·cases h2
  ·rw [x8 e1]
   exact (hT.slots k).mono (Nat.le_refl _) (fun _ _ _=>rfl) (fun b hb _=>hI b hb) (Tbl.le_put hn)
 ·intro k bx hl
  rw [hbx] at hl
  by_cases e1:k=id
  ·rw [if_pos e1] at hl;injection hl with hl;exact .inl ⟨e1,hl.symm⟩
  rw [if_neg e1] at hl
  exact .inr ⟨e1,bx,hl,fun I' hI=>(hT.boxes k bx hl).mono (Nat.le_refl _) (fun _ _ _=>rfl) (fun b hb _=>hI b hb) (Tbl.le_put hn) (fun _ _ _ _=>rfl)⟩
 ·intro k hk
  rw [hbx] at hk
  by_cases e1:k=id
  ·rw [if_pos e1] at hk;cases hk
  rw [if_neg e1] at hk;exact ⟨e1,hk⟩
theorem Sub.trans {np:Nat} {a b c:AS} (h1:Sub np a b) (h2:Sub np b c):Sub np a c:=fun G x w hn hR=>h2 G x w hn (h1 G x w hn hR)
end Go.Ab

/- A range over a map of the call's own: the rounds come in an order that nobody knows. -/
namespace Go.Ab
open Go
open Go.ChangeMaps (setBlock)
def AS.put (st:AS) (d:Nat) (av:AV):AS:=⟨fun k=>bif Nat.beq k d then av else st.slot k,st.box⟩
theorem tS.put {G:wL} {st:AS} {T:Tbl} {a:Act} {w:World} (h:tS G st T a w) {d:Nat} {v:Value} {av:AV} (hd:d<G.n) (hr:Rep w (imm G st T) T v av) :
  tS G (st.put d av) T (a.put (some d) v) w:=by
 refine ⟨h.defers,by simp [Act.put,h.size],fun t=>?_,h.boxes,h.unused,h.apart,h.mine,h.foot,h.kept⟩
 rw [zFU t (by rw [h.size];exact hd)]
 simp only [AS.put]
 by_cases e:t=d
 ·subst e;rw [if_pos rfl,zBK];exact hr
 ·rw [if_neg e,x8 e];exact h.slots t
structure RS where
 tm:Nat
 t0:Nat
 ti:Nat
 tR:Nat
 tn:Nat
 tok:Nat
 te:Nat
 tx:Nat
 ty:Nat
 tk:Nat
 tv:Nat
 blk:Nat
 b3:Nat
end Go.Ab
