/- Lemmas. No conditions but those that they name. -/
import Derived.Test.YtcejcgalbcnjnaaGreatA48
import Derived.Shelf.SlMaps.Clone
import Derived.Shelf.SortG.Plain
import Derived.Shelf.SortG.SortNone
import Derived.Shelf.SlicesG.CompactI
namespace Go.Ab
open Go
theorem dJ {α β:Type} [DecidableEq α]:∀ (l:List (α×β)) (k k':α) (v:β),zV (xC l k v) k'=if k=k' then some v else zV l k':=by
 intro l
 induction l with
 | nil=>intro k k' v;rfl
 | cons p l ih =>
  intro k k' v;unfold xC
  by_cases hp:p.1=k
  ·rw [if_pos hp];simp only [zV]
   by_cases hk:k=k'
   ·rw [if_pos hk,if_pos hk]
   ·rw [if_neg hk,if_neg hk,if_neg (by rw [hp];exact hk)]
  ·rw [if_neg hp];simp only [zV];rw [ih]
   by_cases hk:k=k'
   ·rw [if_pos hk,if_pos hk,if_neg (by rw [<- hk];exact hp)]
   ·rw [if_neg hk,if_neg hk]
theorem dG {α β:Type} [DecidableEq α]:∀ (l:List (α×β)) (k:α) (v:β),(xC l k v).length<=l.length+1:=by
 intro l
 induction l with
 | nil=>intro k v;simp [xC]
 | cons p l ih =>
  intro k v;unfold xC
  split
  ·simp
  ·have:=ih k v;simp only [zlc];omega
def Seen {α:Type} [DecidableEq α] (t:List (α×Bool)) (l:List α):Prop:=t.length<=l.length/\∀ x,(zV t x).getD false=decide (x∈l)
theorem zO1 {α:Type} [DecidableEq α]:Seen ([]:List (α×Bool)) []:=⟨yI _,fun x=>by simp [zV]⟩
theorem zO7 {α:Type} [DecidableEq α] {t:List (α×Bool)} {l:List α} (h:Seen t l) (x:α):Seen (xC t x true) (l++[x]):=by
 refine ⟨by have:=dG t x true;have:=h.1;simp only [zla,zls];omega,fun y=>?_⟩;rw [dJ]
 by_cases hy:x=y
 ·rw [if_pos hy];simp [hy]
 ·rw [if_neg hy,h.2];simp [Ne.symm hy]
theorem zMq {α:Type} (l:List α) (i:Nat):sub l 0 (i:Int)=l.take i:=by simp [sub]
theorem lD {α:Type} {l:List α} {i:Nat} {x:α} {r:List α} (h:l.drop i=x::r):l.take (i+1)=l.take i++[x]:=by
 rw [nM]
 have:=congrArg (·[0]?) h
 simp at this;rw [this];rfl
theorem zIF {α:Type} {l:List α} {i:Nat} {x:α} {r:List α} (h:l.drop i=x::r):l[i]?=some x:=by
 have:=congrArg (·[0]?) h
 simpa using this
theorem WB {α:Type} {c:Bool} {x y z:α} (hc:c=true) (h:x=z):(bif c then x else y)=z:=by rw [hc];exact h
theorem zAF {α:Type} {c:Bool} {x y z:α} (hc:c=false) (h:y=z):(bif c then x else y)=z:=by rw [hc];exact h
theorem zDR {p q:Prop} [Decidable p] [Decidable q] (h:p\/q):(decide p||decide q)=true:=by simpa using h
theorem zG7 {p q:Prop} [Decidable p] [Decidable q] (h:¬(p\/q)):(decide p||decide q)=false:=by simpa using h
theorem XM {α:Type} [BEq α] [LawfulBEq α] {a b:α} (h:a=b):(a==b)=true:=by rw [h];exact BEq.rfl
theorem zE3 {α:Type} [BEq α] [LawfulBEq α] {a b:α} (h:a≠b):(a==b)=false:=by simpa using h
def Q3 (cs:List AV) (j:Nat):Bool:=match cs[j]? with | some .nilsl=>true | _=>false
theorem zB9 {cs:List AV} {j:Nat} (h:Q3 cs j=true):cs[j]?=some .nilsl:=by
 unfold Q3 at h
 split at h
 ·assumption
 ·cases h
theorem zE2 {w:World} {I I':Nat->Prop} {T:Tbl} {id:Nat} {C:Array Value} {cs:List AV} {j:Nat} (hI:∀ b,I b->I' b) (hn:T id=none) (h:∀ (k:Nat) (c:AV),cs[k]?=some c->Rep w I T (C.getD k undef) c) (hj:cs[j]?=some .nilsl) :
  ∀ (k:Nat) (c:AV),(cs.set j (.own id 0))[k]?=some c->Rep w I' (T.put id .nil) (C.getD k undef) c:=by
 intro k c hk
 by_cases e:j=k
 ·subst e;have hlt:=(vO.1 hj).1;rw [Q8 hlt] at hk;injection hk with hk;subst hk;have hr:=h j _ hj;generalize C.getD j undef=v at hr;cases hr with
  | nilsl=>exact .ownNil (Tbl.put_same _ _ _)
 ·rw [zBl e] at hk;exact (h k c hk).mono (yI _) (fun _ _ _=>rfl) (fun b hb _=>hI b hb) (Tbl.le_put hn)
theorem zF7 {cs:List AV} {j id:Nat} (h:∀ c∈cs,c.one=true):∀ c∈cs.set j (.own id 0),c.one=true:=by
 intro c hc;rcases mY hc with hc | rfl
 ·exact h c hc
 ·rfl
def UK (st:AS) (i j id e sz:Nat):AS :=
 ⟨st.slot,fun k=>bif Nat.beq k id then .live (.row e sz []) else bif Nat.beq k i then (match st.box i with | .live (.var t cs)=>.live (.var t (cs.set j (.own id 0))) | b=>b) else st.box k⟩
def zCL (st:AS) (i j id:Nat):Bool:=nF (st.box id)&&(match st.box i with | .live (.var _ cs)=>Q3 cs j | _=>false)
def M1 (st:AS) (t:Nat) (j:Option Nat) (id e sz:Nat):AS :=
 ⟨fun k=>bif Nat.beq k t then (match j,st.slot t with | none,_=>.own id 0 | some j,.agg cs=>.agg (cs.set j (.own id 0)) | _,v=>v) else st.slot k,fun k=>bif Nat.beq k id then .live (.row e sz []) else st.box k⟩
def zBc (st:AS) (t:Nat) (j:Option Nat) (id:Nat):Bool :=
 nF (st.box id)&&(match j,st.slot t with | none,.nilsl=>true | some j,.agg cs=>Q3 cs j | _,_=>false)
theorem zAL {G:wQ} {st st2:AS} {T:Tbl} {a:Act} {w:World} {id e sz:Nat} (hT:uF G st T a w) (hu:st.box id=.unused)
  (hslot:∀ t,(∀ I',(∀ b,imm G st T b->I' b)->Rep w I' (T.put id .nil) (a.tmps.getD t undef) (st2.slot t)))
  (hbox:∀ k bx,st2.box k=.live bx->(k=id/\bx=.row e sz [])\/(k≠id/\∃ bx0,st.box k=.live bx0/\∀ I',(∀ b,imm G st T b->I' b)->uJ w I' (T.put id .nil) (T k) bx))
  (hun:∀ k,st2.box k=.unused->k≠id/\st.box k=.unused):Rel G st2 a w:=by
 have hn:=hT.unused id hu;have himm:∀ b,imm G st T b->imm G st2 (T.put id .nil) b:=by
  intro b hb;refine ⟨hb.1,fun k bx cap hl hTk=>?_⟩;rcases hbox k bx hl with ⟨rfl,_⟩ | ⟨hne,bx0,h0,_⟩
  ·rw [Tbl.put_same] at hTk;cases hTk
  ·rw [Tbl.put_ne _ _ hne] at hTk;exact hb.2 k bx0 cap h0 hTk
 refine ⟨T.put id .nil,hT.defers,hT.size,fun t=>hslot t _ himm,?_,?_,?_,?_,fun i p hp=>Tbl.le_put hn _ _ (hT.foot i p hp),hT.kept,fun i p hp=>Tbl.le_put hn _ _ (hT.pin i p hp)⟩
 ·intro k bx hl;rcases hbox k bx hl with ⟨rfl,rfl⟩ | ⟨hne,bx0,h0,h1⟩
  ·rw [Tbl.put_same];exact .inl ⟨rfl,rfl⟩
  ·rw [Tbl.put_ne _ _ hne];exact h1 _ himm
 ·intro k hk;obtain ⟨hne,h0⟩:=hun k hk;rw [Tbl.put_ne _ _ hne];exact hT.unused k h0
 ·intro i1 i2 b1 b2 b c1 c2 h1 h2 t1 t2;rcases hbox i1 b1 h1 with ⟨rfl,_⟩ | ⟨n1,x1,l1,_⟩
  ·rw [Tbl.put_same] at t1;cases t1
  rcases hbox i2 b2 h2 with ⟨rfl,_⟩ | ⟨n2,x2,l2,_⟩
  ·rw [Tbl.put_same] at t2;cases t2
  rw [Tbl.put_ne _ _ n1] at t1;rw [Tbl.put_ne _ _ n2] at t2;exact hT.apart i1 i2 x1 x2 b c1 c2 l1 l2 t1 t2
 ·intro k bx b cap hl hTk hge;rcases hbox k bx hl with ⟨rfl,_⟩ | ⟨hne,bx0,h0,_⟩
  ·rw [Tbl.put_same] at hTk;cases hTk
  ·rw [Tbl.put_ne _ _ hne] at hTk;exact hT.mine k bx0 b cap h0 hTk hge
theorem nR {np:Nat} {st:AS} (i j id e sz:Nat) (h:zCL st i j id=true):Sub np st (UK st i j id e sz):=by
 intro G a w hnp hRF;refine hRF.lift ?_ ?_
 ·intro k f hl;simp only [UK] at hl;cases e1:Nat.beq k id
  ·rw [e1] at hl;simp only [cond_false] at hl;cases e2:Nat.beq k i
   ·rw [e2] at hl;exact hl
   ·rw [e2] at hl
    have:=wT.1 e2
    subst this;simp only [cond_true] at hl
    split at hl<;>first | cases hl | exact hl
  ·rw [e1] at hl;cases hl
 rintro G' _ _ ⟨T,hT⟩;unfold zCL at h;simp only [zba] at h;obtain ⟨h1,h2⟩:=h;have hu:=bK h1
 split at h2
 case h_2=>cases h2
 rename_i t cs hb
 have hj:=zB9 h2;have hn:=hT.unused id hu;have hne:i≠id:=fun e=>by rw [e,hu] at hb;cases hb
 have hbx:∀ k,(UK st i j id e sz).box k=if k=id then .live (.row e sz []) else if k=i then .live (.var t (cs.set j (.own id 0))) else st.box k:=by
  intro k;simp only [UK,hb]
  by_cases e1:k=id
  ·subst e1;simp
  ·rw [wV e1,if_neg e1]
   by_cases e2:k=i
   ·subst e2;simp
   ·rw [wV e2,if_neg e2];rfl
 refine zAL hT hu (id:=id) (e:=e) (sz:=sz) ?_ ?_ ?_
 ·intro t' I' hI;exact (hT.slots t').mono (yI _) (fun _ _ _=>rfl) (fun b hb _=>hI b hb) (Tbl.le_put hn)
 ·intro k bx hl;rw [hbx] at hl
  by_cases e1:k=id
  ·rw [if_pos e1] at hl;injection hl with hl;exact .inl ⟨e1,hl.symm⟩
  rw [if_neg e1] at hl
  by_cases e2:k=i
  ·rw [if_pos e2] at hl;injection hl with hl;subst hl;subst e2;refine .inr ⟨e1,_,hb,fun I' hI=>?_⟩;obtain ⟨b,C,p1,p2,p3,p4,p5⟩:=hT.boxes k _ hb;exact ⟨b,C,p1,p2,by rw [p3];simp,zF7 p4,zE2 hI hn p5 hj⟩
  ·rw [if_neg e2] at hl;exact .inr ⟨e1,bx,hl,fun I' hI=>(hT.boxes k bx hl).mono (yI _) (fun _ _ _=>rfl) (fun b hb _=>hI b hb) (Tbl.le_put hn) (fun _ _ _ _=>rfl)⟩
 ·intro k hk;rw [hbx] at hk
  by_cases e1:k=id
  ·rw [if_pos e1] at hk;cases hk
  rw [if_neg e1] at hk
  by_cases e2:k=i
  ·rw [if_pos e2] at hk;cases hk
  ·rw [if_neg e2] at hk;exact ⟨e1,hk⟩
theorem zIJ {np:Nat} {st:AS} (t:Nat) (j:Option Nat) (id e sz:Nat) (h:zBc st t j id=true):Sub np st (M1 st t j id e sz):=by
 intro G a w hnp hRF;refine hRF.lift ?_ ?_
 ·intro k f hl;simp only [M1] at hl;cases e1:Nat.beq k id
  ·rw [e1] at hl;exact hl
  ·rw [e1] at hl;cases hl
 rintro G' _ _ ⟨T,hT⟩;unfold zBc at h;simp only [zba] at h;obtain ⟨h1,h2⟩:=h;have hu:=bK h1;have hn:=hT.unused id hu;have hbx:∀ k,(M1 st t j id e sz).box k=if k=id then .live (.row e sz []) else st.box k:=by
  intro k;simp only [M1]
  by_cases e1:k=id
  ·subst e1;simp
  ·rw [wV e1,if_neg e1];rfl
 refine zAL hT hu (id:=id) (e:=e) (sz:=sz) ?_ ?_ ?_
 ·intro k I' hI;simp only [M1]
  by_cases e1:k=t
  ·subst e1;rw [pX];simp only [cond_true]
   split at h2
   ·rename_i hs
    rw [hs];have hr:=hT.slots k;rw [hs] at hr;simp only;generalize a.tmps.getD k undef=v at hr ⊢;cases hr with
    | nilsl=>exact .ownNil (Tbl.put_same _ _ _)
   ·rename_i j' cs hs
    rw [hs];have hr:=hT.slots k;rw [hs] at hr;simp only;generalize a.tmps.getD k undef=v at hr ⊢;cases hr with
    | agg k1 k2 k3=>exact .agg (by rw [k1];simp) (zF7 k2) (zE2 hI hn k3 (zB9 h2))
   ·cases h2
  ·rw [wV e1];exact (hT.slots k).mono (yI _) (fun _ _ _=>rfl) (fun b hb _=>hI b hb) (Tbl.le_put hn)
 ·intro k bx hl;rw [hbx] at hl
  by_cases e1:k=id
  ·rw [if_pos e1] at hl;injection hl with hl;exact .inl ⟨e1,hl.symm⟩
  rw [if_neg e1] at hl;exact .inr ⟨e1,bx,hl,fun I' hI=>(hT.boxes k bx hl).mono (yI _) (fun _ _ _=>rfl) (fun b hb _=>hI b hb) (Tbl.le_put hn) (fun _ _ _ _=>rfl)⟩
 ·intro k hk;rw [hbx] at hk
  by_cases e1:k=id
  ·rw [if_pos e1] at hk;cases hk
  rw [if_neg e1] at hk;exact ⟨e1,hk⟩
theorem Sub.trans {np:Nat} {a b c:AS} (h1:Sub np a b) (h2:Sub np b c):Sub np a c:=fun G x w hn hR=>h2 G x w hn (h1 G x w hn hR)
theorem zOA {P:Program} {N np:Nat} {K:Exit->AS->Prop} {st:AS} {c:Code} {b:Bool} (hc:c=.cond (.const (.bool b)) (Code.t c) (Code.e c)) (h:AW P N np (bif b then Code.t c else Code.e c) K st):AW P N np c K st:=by
 intro G a w hN hnp hR;rw [hc];refine wp_cond_split (t:=b) rfl (fun hb=>?_) (fun hb=>?_)
 ·subst hb;exact h G a w hN hnp hR
 ·subst hb;exact h G a w hN hnp hR
def EB:List Nat->Nat->Nat
 | [],_=>0
 | x::r,i=>bif Nat.beq x i then 0 else EB r i+1
def inN (l:List Nat) (i:Nat):Bool:=l.any (Nat.beq i)
theorem XI {l:List Nat} {i:Nat} (h:inN l i=true):l.getD (EB l i) 0=i:=by
 induction l with
 | nil=>simp [inN] at h
 | cons x r ih =>
  simp only [EB];cases hx:Nat.beq x i
  ·simp only [cond_false]
   have:inN r i=true:=by
    simp only [inN,List.any_cons,rJ] at h ⊢;rcases h with h | h
    ·rw [wT.1 h] at hx;simp at hx
    ·exact h
   have:=ih this
   simpa [List.getD] using this
  ·have:=wT.1 hx
   simp [List.getD,this]
mutual
def rn (ρ:List Nat):AV->AV
 | .agg cs=>.agg (rns ρ cs)
 | .tuple cs=>.tuple (rns ρ cs)
 | .ptr id sz i off=>.ptr (EB ρ id) sz i off
 | .own id n=>.own (EB ρ id) n
 | .part id sz lo hi=>.part (EB ρ id) sz lo hi
 | .fn f cs=>.fn f (rns ρ cs)
 | .mp id=>.mp (EB ρ id)
 | .junk=>.junk
 | .int k n=>.int k n
 | .bool b=>.bool b
 | .str l=>.str l
 | .sl f s l=>.sl f s l
 | .ref a=>.ref a
 | .nilp=>.nilp
 | .nilsl=>.nilsl
 | .nb l=>.nb l
 | .raw b=>.raw b
 | .fm n l=>.fm n l
 | .rawm b=>.rawm b
 | .rawp p n=>.rawp p n
def rns (ρ:List Nat):List AV->List AV
 | []=>[]
 | a::r=>rn ρ a::rns ρ r
end
mutual
def ins (ρ:List Nat):AV->Bool
 | .agg cs=>A3 ρ cs
 | .tuple cs=>A3 ρ cs
 | .ptr id ..=>inN ρ id
 | .own id _=>inN ρ id
 | .part id ..=>inN ρ id
 | .fn _ cs=>A3 ρ cs
 | .mp id=>inN ρ id
 | .junk=>true
 | .int ..=>true
 | .bool _=>true
 | .str _=>true
 | .sl ..=>true
 | .ref _=>true
 | .nilp=>true
 | .nilsl=>true
 | .nb _=>true
 | .raw _=>true
 | .fm ..=>true
 | .rawm _=>true
 | .rawp ..=>true
def A3 (ρ:List Nat):List AV->Bool
 | []=>true
 | a::r=>ins ρ a&&A3 ρ r
end
mutual
theorem zFp {ρ:List Nat}:∀ {a:AV},ins ρ a=true->un ρ (rn ρ a)=a
 | .agg cs,h=>by simp only [rn,un];rw [D1 (cs:=cs) (by simpa [ins] using h)]
 | .tuple cs,h=>by simp only [rn,un];rw [D1 (cs:=cs) (by simpa [ins] using h)]
 | .ptr id ..,h=>by simp only [rn,un];rw [XI (by simpa [ins] using h)]
 | .own id _,h=>by simp only [rn,un];rw [XI (by simpa [ins] using h)]
 | .part id ..,h=>by simp only [rn,un];rw [XI (by simpa [ins] using h)]
 | .fn _ cs,h=>by simp only [rn,un];rw [D1 (cs:=cs) (by simpa [ins] using h)]
 | .mp id,h=>by simp only [rn,un];rw [XI (by simpa [ins] using h)]
 | .junk,_=>rfl
 | .int ..,_=>rfl
 | .bool _,_=>rfl
 | .str _,_=>rfl
 | .sl ..,_=>rfl
 | .ref _,_=>rfl
 | .nilp,_=>rfl
 | .nilsl,_=>rfl
 | .nb _,_=>rfl
 | .raw _,_=>rfl
 | .fm ..,_=>rfl
 | .rawm _,_=>rfl
 | .rawp ..,_=>rfl
theorem D1 {ρ:List Nat}:∀ {cs:List AV},A3 ρ cs=true->uns ρ (rns ρ cs)=cs
 | [],_=>rfl
 | a::r,h=>by
  simp only [A3,zba] at h;simp only [rns,uns];rw [zFp h.1,D1 h.2]
end
theorem zFW (x:AV):∀ p∈lo1 x x,p:=by
 intro p hp;cases x with
 | sl f s l =>
  have hp:p=(s=s)\/p=(l=l)\/p=((!f||f)=true):=by simpa only [lo1,uA,SD,or_false] using (show p∈[s=s,l=l,(!f||f)=true] from hp)
  rcases hp with h | h | h
  ·rw [h]
  ·rw [h]
  ·rw [h];cases f<;>rfl
 | junk=>cases hp
 | _=>simp [lo1] at hp;exact hp
theorem WG:∀ (xs:List AV),∀ p∈los xs xs,p:=by
 intro xs
 induction xs with
 | nil=>intro p hp;cases hp
 | cons x r ih =>
  intro p hp;simp only [los,wL] at hp;rcases hp with hp | hp
  ·exact zFW x p hp
  ·exact ih p hp
theorem zEd (x:AV):∀ p∈loA x x,p:=by
 intro p hp;cases x with
 | agg cs=>exact WG cs p hp
 | _=>simp only [loA] at hp;exact zFW _ p hp
theorem zMN:∀ (xs:List AV),∀ p∈o5 xs xs,p:=by
 intro xs
 induction xs with
 | nil=>intro p hp;cases hp
 | cons x r ih =>
  intro p hp;simp only [o5,wL] at hp;rcases hp with hp | hp
  ·exact zEd x p hp
  ·exact ih p hp
theorem zNu (x:AV):∀ p∈loT x x,p:=by
 intro p hp;cases x with
 | tuple cs=>exact zMN cs p hp
 | _=>simp only [loT] at hp;exact zEd _ p hp
def KC (ids:List Nat):AV->Bool
 | .own id _=>!(ids.any (Nat.beq id))
 | .part id ..=>!(ids.any (Nat.beq id))
 | _=>true
def OW (ids:List Nat):AV->Bool
 | .agg cs=>cs.all (KC ids)
 | v=>KC ids v
def VK (ids:List Nat):AV->Bool
 | .tuple vs=>vs.all (OW ids)
 | v=>OW ids v
theorem NX {B:Nat->zR} {ids:List Nat} {x:AV} (h:KC ids x=true):gU B ids x=x/\oG B ids x=[]:=by
 cases x with
 | own id n=>simp only [KC,pH] at h;simp [gU,oG,h]
 | part id sz lo hi=>simp only [KC,pH] at h;simp [gU,oG,h]
 | _=>exact ⟨rfl,rfl⟩
theorem zB5 {α:Type} {f:α->α} {l:List α} (h:∀ x∈l,f x=x):l.map f=l:=by
 induction l with
 | nil=>rfl
 | cons a r ih=>rw [uM,h a (by simp),ih fun x hx=>h x (by simp [hx])]
theorem zBv {α β:Type} {f:α->List β} {l:List α} (h:∀ x∈l,f x=[]):l.flatMap f=[]:=by
 induction l with
 | nil=>rfl
 | cons a r ih=>rw [bC,h a (by simp),ih fun x hx=>h x (by simp [hx])];rfl
theorem zBT {B:Nat->zR} {ids:List Nat} {x:AV} (h:OW ids x=true):lW B ids x=x/\D4 B ids x=[]:=by
 cases x with
 | agg cs =>
  simp only [OW,tC] at h;exact ⟨by simp only [lW];rw [zB5 fun c hc=>(NX (h c hc)).1],zBv fun c hc=>(NX (h c hc)).2⟩
 | _=>simp only [OW] at h;exact NX (B:=B) h
theorem zL3 {B:Nat->zR} {ids:List Nat} {x:AV} (h:VK ids x=true):frz B ids x=x/\oE B ids x=[]:=by
 cases x with
 | tuple vs =>
  simp only [VK,tC] at h;exact ⟨by simp only [frz];rw [zB5 fun c hc=>(zBT (h c hc)).1],zBv fun c hc=>(zBT (h c hc)).2⟩
 | _=>simp only [VK] at h;exact zBT (B:=B) h
inductive Sp where
 | s (t:Nat)
 | a (t:Nat) (v:AV)
inductive Bp where
 | s (i:Nat)
 | a (i:Nat) (b:zR)
def Z7 (st:AS) (ρ:List Nat):Sp->Nat×AV
 | .s t=>(t,rn ρ (st.slot t))
 | .a t v=>(t,v)
def zFq (st:AS) (ρ ids:List Nat):Sp->Bool
 | .s t=>ins ρ (st.slot t)&&VK ids (st.slot t)
 | .a _ _=>true
def zK7 (st:AS) (ρ ids:List Nat):Sp->List Prop
 | .s _=>[]
 | .a t v=>oE st.box ids (st.slot t)++loT (frz st.box ids (st.slot t)) (un ρ v)
def rnB (ρ:List Nat):zR->zR
 | .live (.var t cs)=>.live (.var t (rns ρ cs))
 | .live (.rowQ e s l m x)=>.live (.rowQ e s l m (rns ρ x))
 | .live (.rowI e s l m i x)=>.live (.rowI e s l m i (rns ρ x))
 | b=>b
def okB (ρ ids:List Nat):zR->Bool
 | .live (.var _ cs)=>t7 cs&&(A3 ρ cs&&cs.all (KC ids))
 | .live (.rowQ _ _ _ _ x)=>t7 x&&A3 ρ x
 | .live (.rowI _ _ _ _ _ x)=>t7 x&&A3 ρ x
 | .live _=>true
 | _=>false
def zBO (st:AS) (ρ:List Nat):Bp->Nat×zR
 | .s i=>(i,rnB ρ (st.box (ρ.getD i 0)))
 | .a i b=>(i,b)
def zDf (st:AS) (ρ ids:List Nat):Bp->Bool
 | .s i=>okB ρ ids (st.box (ρ.getD i 0))
 | .a _ _=>true
def zK0 (st:AS) (ρ ids:List Nat):Bp->List Prop
 | .s _=>[]
 | .a i b=>vI st.box ids ρ (st.box (ρ.getD i 0)) b
def zDn (np:Nat) (st:AS) (ρ ids:List Nat) (sl2:List (Nat×AV)) (bx2:List (Nat×zR)):Bool :=
 ((tZ ρ&&ET (ρ.take np) (List.range np))&&(ids.all fun i=>oJ (st.box i)&&Nat.ble np i)) &&
   ((sl2.all fun x=>(qQ ρ.length x.2&&CX x.2)&&rS (frz st.box ids (st.slot x.1))) &&
    (bx2.all fun x=>(Nat.blt x.1 ρ.length&&zBp ρ.length x.2)&&(match x.2 with | .live (.row ..)=>!(ids.any (Nat.beq (ρ.getD x.1 0))) | .unused=>false | _=>true)))
def wkm (np:Nat) (st:AS) (ρ ids:List Nat) (sps:List Sp) (bps:List Bp):Option (List Prop×List (Nat×AV)×List (Nat×zR)) :=
 bif zDn np st ρ ids (sps.map (Z7 st ρ)) (bps.map (zBO st ρ))&&(sps.all (zFq st ρ ids)&&bps.all (zDf st ρ ids)) then
  some (sps.flatMap (zK7 st ρ ids)++bps.flatMap (zK0 st ρ ids),sps.map (Z7 st ρ),bps.map (zBO st ρ))
 else none
theorem VX {ρ:List Nat}:∀ {cs:List AV},t7 cs=true->t7 (rns ρ cs)=true
 | [],_=>rfl
 | a::r,h=>by
  simp only [t7,zba] at h;simp only [rns,t7,zba];refine ⟨?_,VX h.2⟩;have h1:=h.1;cases a<;>first | exact h1 | rfl
theorem zHj (np:Nat) (st:AS) (ρ ids:List Nat) (sl2:List (Nat×AV)) (bx2:List (Nat×zR)) :
  EX np st ρ ids sl2 bx2=bif zDn np st ρ ids sl2 bx2 then some (sl2.flatMap (fun x=>oE st.box ids (st.slot x.1)++loT (frz st.box ids (st.slot x.1)) (un ρ x.2)) ++
   bx2.flatMap (fun x=>vI st.box ids ρ (st.box (ρ.getD x.1 0)) x.2)) else none:=rfl
theorem zOS {np:Nat} {st:AS} {ρ ids:List Nat} {sps:List Sp} {bps:List Bp} {vcs:List Prop} {sl2:List (Nat×AV)} {bx2:List (Nat×zR)} (h:wkm np st ρ ids sps bps=some (vcs,sl2,bx2)) (hv:qC vcs) :
  ∃ vcs',EX np st ρ ids sl2 bx2=some vcs'/\qC vcs':=by
 unfold wkm at h;replace h:=xM h;obtain ⟨hc,h⟩:=h;simp only [zba,tC] at hc;obtain ⟨hok,hsp,hbp⟩:=hc;simp only [uU,kU] at h;obtain ⟨rfl,rfl,rfl⟩:=h;have hv:=lF hv;have toAll:∀ {l:List Prop},(∀ p∈l,p)->qC l:=by
  intro l
  induction l with
  | nil=>intro _;trivial
  | cons a r ih=>intro h;exact ⟨h a (by simp),ih fun p hp=>h p (by simp [hp])⟩
 refine ⟨_,(zHj ..).trans (by rw [hok];rfl),toAll ?_⟩;intro p hp;rcases wL.1 hp with hp | hp
 ·obtain ⟨x,hx,hp⟩:=aB.1 hp;obtain ⟨sp,hs,rfl⟩:=vB.1 hx;cases sp with
  | s t =>
   have h1:=hsp _ hs;simp only [zFq,zba] at h1;have h2:=zL3 (B:=st.box) h1.2;simp only [Z7,h2.1,h2.2,EO,zFp h1.1] at hp;exact zNu _ p hp
  | a t v=>exact hv p (rM _ (aB.2 ⟨_,hs,hp⟩))
 ·obtain ⟨x,hx,hp⟩:=aB.1 hp;obtain ⟨bp,hb,rfl⟩:=vB.1 hx;cases bp with
  | s i =>
   have h1:=hbp _ hb;simp only [zDf] at h1;simp only [zBO] at hp;generalize st.box (ρ.getD i 0)=b at h1 hp;cases b with
   | unused=>cases h1
   | dead=>cases h1
   | live b =>
    cases b with
    | row e s l=>simp [rnB,vI] at hp;exact hp
    | map a k l=>simp [rnB,vI] at hp;exact hp
    | fam f=>simp [rnB,vI] at hp;exact hp
    | rowI e s l m i x =>
     simp only [okB,zba] at h1;simp only [rnB,vI,wL,uA,SD,or_false] at hp;rcases hp with (h | h | h | h | h | h) | hp
     ·rw [h];trivial
     ·rw [h];trivial
     ·rw [h];trivial
     ·rw [h];trivial
     ·rw [h];trivial
     ·rw [h];exact VX h1.1
     ·rw [D1 h1.2] at hp;exact WG _ p hp
    | rowQ e s l m x =>
     simp only [okB,zba] at h1;simp only [rnB,vI,wL,uA,SD,or_false] at hp;rcases hp with (h | h | h | h | h) | hp
     ·rw [h];trivial
     ·rw [h];trivial
     ·rw [h];trivial
     ·rw [h];trivial
     ·rw [h];exact VX h1.1
     ·rw [D1 h1.2] at hp;exact WG _ p hp
    | var t cs =>
     simp only [okB,zba,tC] at h1;obtain ⟨h2,h3,h4⟩:=h1;simp only [rnB,vI,wL,uA,SD,or_false] at hp;rcases hp with (h | h) | hp | hp
     ·rw [h];trivial
     ·rw [h];exact VX h2
     ·rw [zBv fun c hc=>(NX (h4 c hc)).2] at hp;cases hp
     ·rw [zB5 fun c hc=>(NX (h4 c hc)).1,D1 h3] at hp;exact WG _ p hp
  | a i b=>exact hv p (bT _ (aB.2 ⟨_,hb,hp⟩))
theorem mF {np:Nat} {st:AS} (ρ ids:List Nat) (sps:List Sp) (bps:List Bp) {vcs:List Prop} {sl2:List (Nat×AV)} {bx2:List (Nat×zR)} (h:wkm np st ρ ids sps bps=some (vcs,sl2,bx2)) (hv:qC vcs) :
  Sub np st (mk sl2 bx2 ρ.length):=by
 obtain ⟨vcs',h1,h2⟩:=zOS h hv;exact zMW ρ ids sl2 bx2 h1 h2
theorem an:qC []:=trivial
theorem ac {p:Prop} {r:List Prop} (h:p) (t:qC r):qC (p::r):=⟨h,t⟩
abbrev Ii (x:Int):AV:=.int .i64 x
abbrev Iu (x:Int):AV:=.int .u8 x
abbrev Vb (n:Nat) (l:List AV):zR:=.live (.var n l)
abbrev Rb (n k:Nat) (l:List AV):zR:=.live (.row n k l)
abbrev Hg:wA:={ g:=false }
abbrev Ht:wA:={ b:=true }
abbrev Hf:wA:={ b:=false }
abbrev Pp (i:Nat):AV:=.ptr i 0 0 0
abbrev Mi (l:List Int):List AV:=List.map (AV.int .i64) l
abbrev Ms (l:List (List Int)):List AV:=List.map AV.str l
abbrev Mp {α:Type} (f:α->AV) (l:List α):List AV:=List.map f l
abbrev lN {α:Type} (l:List α):Int:=((l.length:Nat):Int)
theorem bft (b:Bool):b=true\/b=false:=M8 b
variable {P:Program} {N np:Nat} {K:Exit->AS->Prop} {c:Code} {st:AS}
theorem sq (h:AW P N np (Code.l c) (EI P N np (Code.r c) K) st) (hc:c=.seq (Code.l c) (Code.r c):=by kernel_rfl):AW P N np c K st:=JN hc h
theorem rt (h:K .ret st) (hc:c=.ret:=by kernel_rfl):AW P N np c K st:=zMe hc h
theorem sk (h:K .normal st) (hc:c=.skip:=by kernel_rfl):AW P N np c K st:=zNW hc h
theorem sw (ρ ids:List Nat) (sps:List Sp) (bps:List Bp) {vcs:List Prop} {sl2:List (Nat×AV)} {bx2:List (Nat×zR)} (hv:qC vcs) (h:wkm np st ρ ids sps bps=some (vcs,sl2,bx2):=by kernel_rfl):Sub np st (mk sl2 bx2 ρ.length):=mF ρ ids sps bps h hv
theorem cd (t:Nat) (b:Bool) (h1:b=true->AW P N np (Code.t c) K st) (h2:b=false->AW P N np (Code.e c) K st) (hc:c=.cond (.tmp t) (Code.t c) (Code.e c):=by kernel_rfl) (hs:st.slot t=.bool b:=by kernel_rfl):AW P N np c K st:=zBL hc hs h1 h2
theorem ar {α:Type} (x:α) {r:List Prop} (t:qC r):qC ((x=x)::r):=⟨rfl,t⟩
theorem zA0 {w:World} {I J:Nat->Prop} {T T':Tbl} {e:TypeId} {sz b cap c:Nat} {l:List AV} (h:uJ w I T (some (.at b cap)) (.row e sz l)) (hIJ:∀ b,I b->b<w.heap.size->J b) (hJ:J b) (hc:l.length<=c) (hc':c<=maxLen) :
  Rep w J T' (.slice (some ⟨b,xR cap,none⟩) l.length c) (.sl false sz l):=by
 have hlt:=h.lt;rcases h with ⟨hp,_⟩ | ⟨b',cap',C,hp,hh,h1,h2,h3,h4,h5,h6⟩
 ·cases hp
 injection hp with hp;injection hp with e1 e2;subst e1;subst e2;refine .sl (fun i j=>C.getD (xR cap+(i * sz+j)) undef) rfl hc hc' (by simp) h4 h5 hJ hlt ?_ ?_
 ·intro i av j c' hi hj;have hg:=JZ h4 hi hj;have hlt':xR cap+(i * sz+j)<C.size:=by
   have:i * sz+j<(uT l).length:=(vO.1 hg).1
   rw [mD h4] at this
   have:=qW sz h2
   omega
  rw [show xR cap+i * sz+j=xR cap+(i * sz+j) by omega];simp [World.cell?,hh,hlt']
 ·intro i av j c' hi hj;exact (h6 i av j c' hi hj).mono (yI _) (fun _ _ _=>rfl) hIJ (fun _ _ h=>h)
theorem zDd {w:World} {I J:Nat->Prop} {T:Tbl} {p:Option zY} {e ev:TypeId} {sz esz E n:Nat} {l es:List AV} {m:Bool} {x:List AV}
  (h:uJ w I T p (.rowQ e sz l m (x++[.own E n]))) (hE:uJ w I T (T E) (.row ev esz es)) (hn:n=es.length) (hx:AV.pures x=true) (hIJ:∀ b,I b->b<w.heap.size->J b) (hJ:∀ b c,T E=some (.at b c)->J b) :
  uJ w J T p (.row e sz (l++bif m then [.agg (x++[.sl false esz es])] else [])):=by
 rcases h with ⟨h1,h2,h3⟩ | ⟨b,cap,C,h1,h2,h3,h4,h5,h6,h7,h8,h9⟩
 ·subst h2;subst h3;exact .inl ⟨h1,rfl⟩
 refine .inr ⟨b,cap,C,h1,h2,h3,by cases m<;>simpa using h4,h5,?_,?_,?_⟩
 ·intro av hav;rcases wL.1 hav with hav | hav
  ·exact h6 av hav
  ·cases m
   ·simp at hav
   ·simp at hav;subst hav
    have:=(h9 rfl).1
    simpa [AV.cells] using this
 ·intro av hav c hc;rcases wL.1 hav with hav | hav
  ·exact h7 av hav c hc
  ·cases m
   ·simp at hav
   ·simp at hav;subst hav;simp only [AV.cells,wL,uO] at hc;rcases hc with hc | hc
    ·exact (h9 rfl).2.1 c (by simp [hc])
    ·subst hc;rfl
 ·intro i av j c hi hj;rcases zlg i l.length with hlt | hge
  ·rw [uH hlt] at hi;exact (h8 i av j c hi hj).mono (yI _) (fun _ _ _=>rfl) hIJ (fun _ _ h=>h)
  ·rw [u4 hge] at hi;cases m
   ·simp at hi
   ·simp only [cond_true] at hi;have h0:i - l.length=0:=by
     have:=(vO.1 hi).1
     simp at this;omega
    rw [h0] at hi;simp at hi;subst hi;have hil:i=l.length:=by omega
    subst hil;obtain ⟨q1,q2,q3⟩:=h9 rfl;simp only [AV.cells] at hj;rcases zlg j x.length with hjl | hjg
    ·rw [uH hjl] at hj
     have:=q3 j c (by rw [uH hjl];exact hj)
     exact ((this.mono (yI _) (fun _ _ _=>rfl) hIJ (fun _ _ h=>h)):Rep w J T _ _).bare (AV.pures_get hx hj)
    ·rw [u4 hjg] at hj;have hj0:j - x.length=0:=by
      have:=(vO.1 hj).1
      simp at this;omega
     rw [hj0] at hj;simp at hj;subst hj;have hjx:j=x.length:=by omega
     have hr:=q3 j (.own E n) (by rw [hjx];simp);generalize C.getD (xR cap+(l.length * sz+j)) undef=v at hr;cases hr with
     | ownNil hT =>
      have:es=[]:=cK hn.symm
      subst this;exact .sl0 (by simp [maxLen]) (by simp)
     | own hT k1 k2 =>
      rw [hT] at hE
      rename_i b1 cap1
      subst hn;exact zA0 hE hIJ (hJ b1 cap1 hT) k1 k2
def HX:List AV->Option (List AV×AV)
 | []=>none
 | [a]=>some ([],a)
 | a::b::r=>match HX (b::r) with
  | some (x,y)=>some (a::x,y)
  | none=>none
theorem zDN:∀ {cs x:List AV} {a:AV},HX cs=some (x,a)->cs=x++[a]
 | [],_,_,h=>by simp [HX] at h
 | [c],x,a,h=>by simp [HX] at h;obtain ⟨rfl,rfl⟩:=h;rfl
 | c::d::r,x,a,h=>by
  simp only [HX] at h
  split at h
  ·rename_i x' y' h'
   injection h with h;injection h with h1 h2;subst h1;subst h2;rw [zDN h'];rfl
  ·cases h
def DR (st:AS) (i E e sz:Nat) (L:List AV):AS:=⟨st.slot,fun k=>bif Nat.beq k E then .dead else bif Nat.beq k i then .live (.row e sz L) else st.box k⟩
def zEq (np:Nat) (st:AS) (i E:Nat) (L:List AV):Option (List Prop×Nat×Nat) :=
 match st.box i,st.box E with
 | .live (.rowQ e sz l m x),.live (.row _ esz es) =>
  match HX x with
  | some (x0,.own E' n)=>bif (Nat.beq E E'&&AV.pures x0)&&(!(Nat.beq i E)&&Nat.ble np E) then some ([n=es.length,L=l++bif m then [.agg (x0++[.sl false esz es])] else []],e,sz) else none
  | _=>none
 | _,_=>none
theorem zCK {np:Nat} {st:AS} (i E:Nat) (L:List AV) {vcs:List Prop} {e sz:Nat} (h:zEq np st i E L=some (vcs,e,sz)) (hv:qC vcs):Sub np st (DR st i E e sz L):=by
 intro G a w hnp hRF;unfold zEq at h
 split at h
 case h_2=>cases h
 rename_i e0 sz0 l m x ev esz es hi hE
 split at h
 case h_2=>cases h
 rename_i x0 E' n hsp
 replace h:=xM h;obtain ⟨hc,h⟩:=h;simp only [zba,pH] at hc;obtain ⟨⟨h1,hx⟩,h2,h3⟩:=hc;have hEE:=wT.1 h1;subst hEE;have hnpE:=B4 h3;have hne:i≠E:=fun e=>by rw [e,pX] at h2;cases h2
 injection h with h;injection h with hvc h;injection h with he hs;subst he;subst hs;subst hvc;have hv:=lF hv;have hn:n=es.length:=hv _ (by simp);have hL:L=l++bif m then [.agg (x0++[.sl false esz es])] else []:=hv _ (by simp);have hsp:=zDN hsp;have hbx:∀ k,(DR st i E e0 sz0 L).box k=if k=E then .dead else if k=i then .live (.row e0 sz0 L) else st.box k:=by
  intro k;simp only [DR]
  by_cases e1:k=E
  ·subst e1;simp
  ·rw [wV e1,if_neg e1]
   by_cases e2:k=i
   ·subst e2;simp
   ·rw [wV e2,if_neg e2];rfl
 refine hRF.lift ?_ ?_
 ·intro k f hl;rw [hbx] at hl
  by_cases e1:k=E
  ·rw [if_pos e1] at hl;cases hl
  rw [if_neg e1] at hl
  by_cases e2:k=i
  ·rw [if_pos e2] at hl;cases hl
  ·rw [if_neg e2] at hl;exact hl
 rintro G' _ hfo ⟨T,hT⟩;have hlive:∀ k bx,(DR st i E e0 sz0 L).box k=.live bx->k≠E/\((k=i/\bx=.row e0 sz0 L)\/(k≠i/\st.box k=.live bx)):=by
  intro k bx hl;rw [hbx] at hl
  by_cases e1:k=E
  ·rw [if_pos e1] at hl;cases hl
  rw [if_neg e1] at hl
  by_cases e2:k=i
  ·rw [if_pos e2] at hl;injection hl with hl;exact ⟨e1,.inl ⟨e2,hl.symm⟩⟩
  ·rw [if_neg e2] at hl;exact ⟨e1,.inr ⟨e2,hl⟩⟩
 have hold:∀ k bx,(DR st i E e0 sz0 L).box k=.live bx->∃ bx0,st.box k=.live bx0:=by
  intro k bx hl;rcases (hlive k bx hl).2 with ⟨rfl,_⟩ | ⟨_,h⟩
  ·exact ⟨_,hi⟩
  ·exact ⟨_,h⟩
 have himm:∀ b,imm G' st T b->imm G' (DR st i E e0 sz0 L) T b:=fun b hb=>⟨hb.1,fun k bx cap hl hTk=>by obtain ⟨bx0,h0⟩:=hold k bx hl;exact hb.2 k bx0 cap h0 hTk⟩
 have himmE:∀ b c,T E=some (.at b c)->imm G' (DR st i E e0 sz0 L) T b:=by
  intro b c hTE;refine ⟨.inr (hT.mine E _ b c hE hTE (by rw [hfo,hnp];exact hnpE)),fun k bx cap hl hTk=>?_⟩;obtain ⟨bx0,h0⟩:=hold k bx hl;exact (hlive k bx hl).1 (hT.apart k E bx0 _ b cap c h0 hE hTk hTE)
 refine ⟨T,hT.defers,hT.size,fun t=>(hT.slots t).mono (yI _) (fun _ _ _=>rfl) (fun b hb _=>himm b hb) (fun _ _ h=>h),?_,?_,?_,?_,hT.foot,hT.kept,hT.pin⟩
 ·intro k bx hl;rcases (hlive k bx hl).2 with ⟨rfl,rfl⟩ | ⟨_,h⟩
  ·have h0:=hT.boxes k _ hi;rw [hsp] at h0;have h1:=zDd h0 (hT.boxes E _ hE) hn hx (fun b hb _=>himm b hb) himmE;rw [<- hL] at h1;exact h1
  ·exact (hT.boxes k bx h).mono (yI _) (fun _ _ _=>rfl) (fun b hb _=>himm b hb) (fun _ _ h=>h) (fun _ _ _ _=>rfl)
 ·intro k hk;rw [hbx] at hk
  by_cases e1:k=E
  ·rw [if_pos e1] at hk;cases hk
  rw [if_neg e1] at hk
  by_cases e2:k=i
  ·rw [if_pos e2] at hk;cases hk
  ·rw [if_neg e2] at hk;exact hT.unused k hk
 ·intro k1 k2 b1 b2 b c1 c2 l1 l2;obtain ⟨x1,o1⟩:=hold k1 b1 l1;obtain ⟨x2,o2⟩:=hold k2 b2 l2;exact hT.apart k1 k2 x1 x2 b c1 c2 o1 o2
 ·intro k bx b cap hl;obtain ⟨x1,o1⟩:=hold k bx hl;exact hT.mine k x1 b cap o1
def zBe (st:AS) (i E e sz ev esz:Nat) (l x:List AV):AS :=
 ⟨st.slot,fun k=>bif Nat.beq k E then .live (.row ev esz []) else bif Nat.beq k i then .live (.rowQ e sz l true (x++[.own E 0])) else st.box k⟩
def zFA (st:AS) (i E:Nat) (l x:List AV):Option (List Prop×Nat×Nat) :=
 match st.box i with
 | .live (.row e sz L)=>bif nF (st.box E)&&AV.pures x then some ([L=l++[.agg (x++[.nilsl])]],e,sz) else none
 | _=>none
theorem zDP {np:Nat} {st:AS} (i E ev esz:Nat) (l x:List AV) {vcs:List Prop} {e sz:Nat} (h:zFA st i E l x=some (vcs,e,sz)) (hv:qC vcs):Sub np st (zBe st i E e sz ev esz l x):=by
 intro G a w hnp hRF;unfold zFA at h
 split at h
 case h_2=>cases h
 rename_i e0 sz0 L hi
 replace h:=xM h;obtain ⟨hc,h⟩:=h;simp only [zba] at hc;have hu:=bK hc.1;injection h with h;injection h with hvc h;injection h with he hs;subst he;subst hs;subst hvc;have hL:L=l++[.agg (x++[.nilsl])]:=(lF hv) _ (by simp);have hbx:∀ k,(zBe st i E e0 sz0 ev esz l x).box k=if k=E then .live (.row ev esz []) else if k=i then .live (.rowQ e0 sz0 l true (x++[.own E 0])) else st.box k:=by
  intro k;simp only [zBe]
  by_cases e1:k=E
  ·subst e1;simp
  ·rw [wV e1,if_neg e1]
   by_cases e2:k=i
   ·subst e2;simp
   ·rw [wV e2,if_neg e2];rfl
 refine hRF.lift ?_ ?_
 ·intro k f hl;rw [hbx] at hl
  by_cases e1:k=E
  ·rw [if_pos e1] at hl;cases hl
  rw [if_neg e1] at hl
  by_cases e2:k=i
  ·rw [if_pos e2] at hl;cases hl
  ·rw [if_neg e2] at hl;exact hl
 rintro G' _ hfo ⟨T,hT⟩;have hn:=hT.unused E hu;refine zAL hT hu (id:=E) (e:=ev) (sz:=esz) ?_ ?_ ?_
 ·intro t' I' hI;exact (hT.slots t').mono (yI _) (fun _ _ _=>rfl) (fun b hb _=>hI b hb) (Tbl.le_put hn)
 ·intro k bx hl;rw [hbx] at hl
  by_cases e1:k=E
  ·rw [if_pos e1] at hl;injection hl with hl;exact .inl ⟨e1,hl.symm⟩
  rw [if_neg e1] at hl
  by_cases e2:k=i
  ·rw [if_pos e2] at hl;injection hl with hl;subst hl;subst e2;refine .inr ⟨e1,_,hi,fun I' hI=>?_⟩;rcases hT.boxes k _ hi with ⟨_,h0⟩ | ⟨b,cap,C,p1,p2,p3,p4,p5,p6,p7,p8⟩
   ·rw [hL] at h0;simp at h0
   have hlast:L[l.length]?=some (.agg (x++[.nilsl])):=by rw [hL];simp
   have hsz:=p6 _ (yN hlast);have hone:=p7 _ (yN hlast);refine .inr ⟨b,cap,C,p1,p2,p3,by rw [hL] at p4;simpa using p4,p5,fun av hav=>p6 av (by rw [hL];simp [hav]),fun av hav=>p7 av (by rw [hL];simp [hav]),?_,fun _=>⟨by simpa [AV.cells] using hsz,?_,?_⟩⟩
   ·intro i' av j c hi' hj;have hlt:=(vO.1 hi').1;exact (p8 i' av j c (by rw [hL,uH hlt];exact hi') hj).mono (yI _) (fun _ _ _=>rfl) (fun b hb _=>hI b hb) (fun _ _ h=>h)
   ·intro c hc;rcases wL.1 hc with hc | hc
    ·exact hone c (by simp [AV.cells,hc])
    ·rw [uO.1 hc];rfl
   ·intro j c hj;rcases zlg j x.length with hjl | hjg
    ·rw [uH hjl] at hj
     have:=p8 _ _ j c hlast (by simp only [AV.cells];rw [uH hjl];exact hj)
     exact (this.mono (I':=I') (yI _) (fun _ _ _=>rfl) (fun b hb _=>hI b hb) (fun _ _ h=>h)).bare (AV.pures_get hc.2 hj)
    ·rw [u4 hjg] at hj;have hj0:j - x.length=0:=by
      have:=(vO.1 hj).1
      simp at this;omega
     rw [hj0] at hj;simp at hj;subst hj;have hjx:j=x.length:=by omega
     have:=p8 _ _ j .nilsl hlast (by simp only [AV.cells];rw [hjx];simp)
     generalize C.getD (xR cap+(l.length * sz0+j)) undef=v at this ⊢;cases this with
     | nilsl=>exact .ownNil (Tbl.put_same _ _ _)
  ·rw [if_neg e2] at hl;exact .inr ⟨e1,bx,hl,fun I' hI=>(hT.boxes k bx hl).mono (yI _) (fun _ _ _=>rfl) (fun b hb _=>hI b hb) (Tbl.le_put hn) (fun _ _ _ _=>rfl)⟩
 ·intro k hk;rw [hbx] at hk
  by_cases e1:k=E
  ·rw [if_pos e1] at hk;cases hk
  rw [if_neg e1] at hk
  by_cases e2:k=i
  ·rw [if_pos e2] at hk;cases hk
  ·rw [if_neg e2] at hk;exact ⟨e1,hk⟩
def bgv (m b:Nat):AV->AV
 | .mp i=>bif Nat.beq i m then .rawm b else .mp i
 | v=>v
def OS (st:AS) (m fid b:Nat) (ag:Bool) (ks:List KSh) (sh:FSh):AS :=
 ⟨fun t=>bgv m b (st.slot t),fun k=>bif Nat.beq k fid then .live (.fam (.cl b ag ks sh [])) else bif Nat.beq k m then .dead else st.box k⟩
theorem XA {sl:List (Nat×AV)} {bx:List (Nat×zR)} {n:Nat} (h:(bx.all fun x=>x.2.nf)=true):∀ id f,(mk sl bx n).box id≠.live (.fam f):=by
 intro id f hl;simp only [mk] at hl;rcases T5 (bx:=bx) (i:=id) (d:=bif Nat.blt id n then zR.dead else .unused) with ⟨_,h'⟩ | h'
 ·rw [h'] at hl;cases hlt:Nat.blt id n<;>rw [hlt] at hl<;>cases hl
 ·rw [hl] at h'
  have:=tC.1 h _ h'
  cases this
theorem zCM {P:Program} {N:Nat} {c:Code} {K:Exit->AS->Prop} {st:AS} (m fid:Nat) {ag:Bool} {ks:List KSh} (sh:FSh) (hm:st.box m=.live (.map ag ks [])) (hu:st.box fid=.unused)
  (hno:∀ id f,st.box id≠.live (.fam f)) (h:∀ b,AW P N 0 c K (OS st m fid b ag ks sh)):AW P N 0 c K st:=by
 intro G a w hN hnp hRF;have hf:G.foot=[]:=cK hnp;obtain ⟨G',Hd,L,F,T,hT⟩:=hRF;obtain ⟨b,E,clock,hp,hh,h1,h2,hS,h3,h4⟩:=hT.boxes m _ hm;have hne:m≠fid:=fun e=>by rw [e,hu] at hm;cases hm
 have hTf:=hT.unused fid hu;have hle:T.le (T.put fid .nil):=Tbl.le_put hTf;have hbx:∀ k,(OS st m fid b ag ks sh).box k=if k=fid then .live (.fam (.cl b ag ks sh [])) else if k=m then .dead else st.box k:=by
  intro k;simp only [OS]
  by_cases e1:k=fid
  ·subst e1;simp
  ·rw [wV e1,if_neg e1]
   by_cases e2:k=m
   ·subst e2;simp
   ·rw [wV e2,if_neg e2];rfl
 have hlive:∀ k bx,(OS st m fid b ag ks sh).box k=.live bx->(k=fid/\bx=.fam (.cl b ag ks sh []))\/(k≠fid/\k≠m/\st.box k=.live bx):=by
  intro k bx hl;rw [hbx] at hl
  by_cases e1:k=fid
  ·rw [if_pos e1] at hl;injection hl with hl;exact .inl ⟨e1,hl.symm⟩
  rw [if_neg e1] at hl
  by_cases e2:k=m
  ·rw [if_pos e2] at hl;cases hl
  ·rw [if_neg e2] at hl;exact .inr ⟨e1,e2,hl⟩
 have hmine:G.mine b:=L.mine (hT.mine m _ b 0 hm hp (by rw [L.foot,hf];exact wI _));refine h b G a w hN hnp ?_;obtain ⟨o1,o2,o3⟩:=CK (J:=fun c=>imm G' st T c/\c<w.heap.size) (Hd2:=fun c=>c=b) (st2:=OS st m fid b ag ks sh) (T2:=T.put fid .nil) (a2:=a) (w2:=w) (pin:=fun _=>none) L hf hT rfl rfl rfl (yI _) (fun _ _ _=>rfl) hT.defers (by rw [hT.size,L.n])
  (by
   rintro c ⟨hc,hlt⟩;refine ⟨(L.imm hc).1.elim .inl .inr,hlt,fun e=>hc.2 m _ 0 hm (by rw [e];exact hp),fun id bx cap hl hTi=>?_⟩;rcases hlive id bx hl with ⟨rfl,_⟩ | ⟨n1,n2,h0⟩
   ·rw [Tbl.put_same] at hTi;cases hTi
   ·rw [Tbl.put_ne _ _ n1] at hTi;exact hc.2 id bx cap h0 hTi)
  (by
   intro t;have hr:=hT.slots t;show Rep w _ _ _ (bgv m b (st.slot t));have hmono:Rep w (fun c=>imm G' st T c/\c<w.heap.size) (T.put fid .nil) (a.tmps.getD t undef) (st.slot t):=hr.mono (yI _) (fun _ _ _=>rfl) (fun c hc hlt=>⟨hc,hlt⟩) hle;cases hs:st.slot t with
   | mp i =>
    simp only [bgv];cases hi:Nat.beq i m
    ·simp only [cond_false];rw [<- hs];exact hmono
    ·have:=wT.1 hi
     subst this;simp only [cond_true];rw [hs] at hr;generalize a.tmps.getD t undef=v at hr ⊢;cases hr with
     | mp hTi=>rw [hp] at hTi;injection hTi with hTi;injection hTi with e1 e2;subst e1;exact .rawm
   | _=>simp only [bgv];rw [<- hs];exact hmono)
  (by
   intro id bx hl;rcases hlive id bx hl with ⟨rfl,rfl⟩ | ⟨n1,n2,h0⟩
   ·exact Tbl.put_same _ _ _
   ·rw [Tbl.put_ne _ _ n1];exact (hT.boxes id bx h0).mono (yI _) (fun _ _ _=>rfl) (fun c hc hlt=>⟨hc,hlt⟩) hle (fun _ _ _ _=>rfl))
  (by
   intro id hl;rw [hbx] at hl
   by_cases e1:id=fid
   ·rw [if_pos e1] at hl;cases hl
   rw [if_neg e1] at hl
   by_cases e2:id=m
   ·rw [if_pos e2] at hl;cases hl
   ·rw [if_neg e2] at hl;rw [Tbl.put_ne _ _ e1];exact hT.unused id hl)
  (by
   intro i j x y c c1 c2 l1 l2 t1 t2;rcases hlive i x l1 with ⟨rfl,_⟩ | ⟨n1,_,k1⟩
   ·rw [Tbl.put_same] at t1;cases t1
   rcases hlive j y l2 with ⟨rfl,_⟩ | ⟨n2,_,k2⟩
   ·rw [Tbl.put_same] at t2;cases t2
   rw [Tbl.put_ne _ _ n1] at t1;rw [Tbl.put_ne _ _ n2] at t2;exact hT.apart i j x y c c1 c2 k1 k2 t1 t2)
  (by
   intro id bx c cap hl hTi;rcases hlive id bx hl with ⟨rfl,_⟩ | ⟨n1,n2,k1⟩
   ·rw [Tbl.put_same] at hTi;cases hTi
   ·rw [Tbl.put_ne _ _ n1] at hTi;refine ⟨L.mine (hT.mine id bx c cap k1 hTi (by rw [L.foot,hf];exact wI _)),fun e=>n2 ?_⟩;exact hT.apart id m bx _ c cap 0 k1 hm hTi (by rw [e];exact hp))
  (fun i p hp=>by cases hp)
  (by rintro c rfl;exact ⟨cS hT hm hp,hmine⟩)
 refine ⟨_,_,o1,⟨fun i j f g l1 l2=>?_,fun i f l1=>?_⟩,_,o2⟩
 ·rcases hlive i _ l1 with ⟨e1,_⟩ | ⟨_,_,k1⟩
  ·rcases hlive j _ l2 with ⟨e2,_⟩ | ⟨_,_,k2⟩
   ·rw [e1,e2]
   ·exact absurd k2 (hno j g)
  ·exact absurd k1 (hno i f)
 ·rcases hlive i _ l1 with ⟨_,e2⟩ | ⟨_,_,k1⟩
  ·injection e2 with e2;subst e2;refine ⟨E,clock,fun _=>[],rfl,hh,h1,h2,hS,h3,fun i x hi=>by simp at hi,fun _ _ _ h=>h.elim,fun _ _=>rfl,fun i j b1 c1 hp=>by simp at hp,fun i j i' j' b1 c1 c2 hp=>by simp at hp⟩
  ·exact absurd k1 (hno i f)
def TA (st:AS) (fid id:Nat) (f:Fam):AS:=⟨st.slot,fun k=>bif Nat.beq k fid then .live (.fam f) else bif Nat.beq k id then .dead else st.box k⟩
def zFh (st:AS) (fid id:Nat) (cs:List AV) (es:List (AV×AV)):Option (List Prop×Fam) :=
 match st.box fid with
 | .live (.fam (.opp b ag ks (.pm t1) l key id'))=>bif Nat.beq id id'&&aU 1 cs then some ([st.box id=.live (.var t1 (uns [id] cs)),jS l key (.agg cs) es],.cl b ag ks (.pm t1) es) else none
 | _=>none
theorem zIC {st:AS} (fid id:Nat) (cs:List AV) (es:List (AV×AV)) {vcs:List Prop} {f:Fam} (h:zFh st fid id cs es=some (vcs,f)) (hv:qC vcs):Sub 0 st (TA st fid id f):=by
 intro G a w hnp hRF;have hf:G.foot=[]:=cK hnp;unfold zFh at h
 split at h
 case h_2=>cases h
 rename_i b ag ks t1 l key id' hfid
 replace h:=xM h;obtain ⟨hc,h⟩:=h;simp only [zba] at hc
 have:=wT.1 hc.1
 subst this;injection h with h;injection h with h0 h';subst h0;subst h';have hv:=lF hv;have hvar:st.box id=.live (.var t1 (uns [id] cs)):=hv _ (by simp);have hL:jS l key (.agg cs) es:=hv _ (by simp);obtain ⟨G',Hd,L,F0,T,hT⟩:=hRF;obtain ⟨b1,hpin,⟨x0,hx0,hx0k⟩,M⟩:=F0.ok fid _ hfid;have hTid:=hT.pin id _ hpin;obtain ⟨E,clock,Pl,m1,m2,m3,m4,m5,m6,m7,m8,m8',m9,m10⟩:=M;have hI:∀ b,uP G' b->b<G'.w0.heap.size->w.heap[b]?=G'.w0.heap[b]?:=fun b hb _=>fZ hT.kept hb
 have hH:∀ b,Hd b->w.heap[b]?=G'.w0.heap[b]?:=fun b hb=>gX L hT.kept hb
 have hII:∀ b,uP G' b->b<G'.w0.heap.size->imm G' st T b/\b<w.heap.size:=fun b hb _=>gQ L hf hT hb
 have hne:fid≠id:=fun e=>by rw [e,hvar] at hfid;cases hfid
 obtain ⟨o1,o2,o3⟩:=ZF (st2:=⟨st.slot,fun i=>if i∈[id] then .dead else st.box i⟩) (w2:=w) (ids:=[id]) L hf hT (fun i hi=>by rw [uO.1 hi];exact ⟨_,hvar⟩) rfl rfl rfl (yI _) (fun _ _ _=>rfl) rfl (fun _=>rfl);have hbx:∀ i,(TA st fid id (.cl b ag ks (.pm t1) es)).box i=if i=fid then .live (.fam (.cl b ag ks (.pm t1) es)) else (if i∈[id] then .dead else st.box i):=by
  intro i;simp only [TA]
  by_cases e1:i=fid
  ·subst e1;simp
  ·rw [wV e1,if_neg e1]
   by_cases e2:i=id
   ·subst e2;simp
   ·rw [wV e2,if_neg (by simpa using e2)];rfl
 have o2':=o2.fam (st2:=TA st fid id (.cl b ag ks (.pm t1) es)) (fid:=fid) (f:=.opp b ag ks (.pm t1) l key id) (f':=.cl b ag ks (.pm t1) es) (by simp only;rw [if_neg (by simpa using hne)];exact hfid) rfl hbx
 -- the entry
 rcases hL with ⟨i,x,g1,g2,g3⟩ | ⟨g0,_⟩
 case inr=>exact absurd hx0k (g0 x0 hx0)
 have hil:=(vO.1 g1).1;obtain ⟨e,q1,q2,q3,_⟩:=m7 i x g1;have hval:=q3 g2;obtain ⟨ps,p1,p2,p3⟩:=zCl (w2:=w) (J:=uP (reb G (fun b=>imm G' st T b/\b<w.heap.size) ⟨st.slot,fun i=>if i∈[id] then .dead else st.box i⟩ T w (fun _=>none))) (ids:=[id]) (bs:=[.var t1 cs]) (av:=.ptr 0 0 0 0) (v:=.pointer (some ⟨b1,0,none⟩)) (sh:=.pm t1) (c:=.agg cs) hT rfl rfl
  (.ptr hTid rfl) rfl (fun j i bx h1 h2=>by
   match j with
   | 0=>simp at h1 h2;subst h1;subst h2;exact hvar
   | j+1=>simp at h1) (fun bx hb=>by rw [uO.1 hb];exact hc.2) (yI _) (fun _ _ _=>rfl) (fun c hc hlt=>o3 c ⟨hc,hlt⟩) (fun _ _ _ _ _=>rfl)
 have hb1:¬ Hd b1:=nP L hf hT hvar hTid;have hps:∀ (j b2 c1:Nat),ps[j]?=some (zY.at b2 c1)->j=0/\b2=b1:=by
  intro j b2 c1 hp;have hjl:j<1:=by have:=(vO.1 hp).1;rw [p2] at this;simpa using this
  have:j=0:=by omega
  subst this;have h3:=p3 0 id rfl;rw [hp,hTid] at h3;injection h3 with h3;injection h3 with h3 _;exact ⟨rfl,h3⟩
 refine ⟨_,_,o1,SV (wb:=[(id,.dead)]) (f':=.cl b ag ks (.pm t1) es) F0 hfid (fun i=>?_) (fun x hx=>by rw [uO.1 hx];rfl) (by simpa using hne) ?_,_,o2'⟩
 ·rw [hbx,LG (by simpa using hne)]
  by_cases e1:i=fid
  ·rw [if_pos e1,if_pos e1]
  ·rw [if_neg e1,if_neg e1]
   by_cases e2:i=id
   ·subst e2;simp [yJ]
   ·rw [if_neg (by simpa using e2)];simp [yJ,wV e2]
 ·unfold D7;refine zFi (w0:=G'.w0) (I:=uP G') (Hd:=Hd) (key:=key) (c:=.agg cs) (ex:=fun k=>k=key) (exv:=fun v=>v=.pointer (some ⟨b1,0,none⟩)) (E:=E) (E':=E) (clock':=clock) (Pl:=Pl) (j:=i) (v:=.pointer (some ⟨b1,0,none⟩)) (ps:=ps) (fun _ h=>h) m1 ?_ m7 m8' m9 m10 hT.kept.size hI (fun c hc _=>hH c hc) (fun c hc hlt=>o3 c (hII c hc hlt))
   (by show w.heap[b]?=_;rw [hH b m1];exact m2) m5 (by rw [g3];simpa using m3) (by rw [g3];simpa using m4) (by rw [g3];simp) (by rw [g3,Q8 hil]) ⟨e,q1,?_,hval⟩ ?_ p1 ?_ ?_ (fun c hc=>.inl hc)
  ·intro y hy;rw [g3] at hy;rcases mY hy with hy | hy
   ·exact m6 y hy
   ·rw [hy];have:=m6 x (yN g1);rw [g2] at this;exact this
  ·rw [<- g2];exact q2.mono hT.kept.size hI (fun c hc hlt=>o3 c (hII c hc hlt)) (fun _ _ h=>h)
  ·intro i' y hne' hy;rw [g3,zBl (fun e=>hne' e.symm)] at hy;refine ⟨hy,rfl,fun hk=>hne' ?_⟩;obtain ⟨e2,r1,r2,_⟩:=m7 i' y hy;exact rF m5 r1 q1 ((dF r2 q2 (m6 y (yN hy)) (m6 x (yN g1))).2 (hk.trans g2.symm))
  ·intro j b2 c1 hp;obtain ⟨_,rfl⟩:=hps j b2 c1 hp;exact ⟨.inr ⟨id,by simp,0,hTid⟩,fun e=>by subst e;exact hb1 m1,hb1⟩
  ·intro j1 j2 b2 c c' h1 h2;rw [(hps j1 b2 c h1).1,(hps j2 b2 c' h2).1]
def fzV:AV->AV
 | .tuple [.sl _ sz l,.bool m,.agg x,.sl _ esz es]=>.sl false sz (l++bif m then [.agg (x++[.sl false esz es])] else [])
 | _=>.junk
def DZ:AV->Prop
 | .tuple [.sl _ _ _,.bool _,.agg x,.sl _ _ _]=>AV.pures x=true
 | _=>False
def B3 (sz esz:Nat):AV->Bool
 | .tuple [.sl _ s _,.bool _,.agg _,.sl _ s' _]=>Nat.beq s sz&&Nat.beq s' esz
 | _=>false
theorem zGX {w:World} {I J:Nat->Prop} {e sz ev esz:Nat} {ps:List zY} {v:Value} {c:AV} (h:gL w I (.nm e sz ev esz) ps v c) (hx:DZ c) (hsz:B3 sz esz c=true) (hIJ:∀ b,I b->b<w.heap.size->J b) (hJ:∀ (j b c:Nat),ps[j]?=some (zY.at b c)->J b) :
  Rep w J Tbl.empty v (fzV c):=by
 obtain ⟨av,bs,h1,h2,h3,h4⟩:=h;unfold FSh.dec at h1
 split at h1
 ·rename_i heq;cases heq
 ·rename_i e' sz' ev' esz' f0 s0 l m x f1 s1 es heq
  injection heq with q1 q2 q3 q4;subst q1;subst q2;subst q3;subst q4;injection h1 with h1;injection h1 with h1 h1';subst h1;subst h1';simp only [B3,zba] at hsz;have z1:=wT.1 hsz.1;have z2:=wT.1 hsz.2;subst z1;subst z2;have hQ:=h4 0 _ rfl;have hE:=h4 1 _ rfl;have hrow:=zDd hQ hE rfl hx hIJ (fun b c hp=>hJ 1 b c hp);simp only [fzV];generalize hn:l.length+(bif m then 1 else 0)=n at h3;have hlen:(l++bif m then [AV.agg (x++[.sl false s1 es])] else []).length=n:=by rw [<- hn];cases m<;>simp
  cases h3 with
  | ownNil hT =>
   have:(l++bif m then [AV.agg (x++[.sl false s1 es])] else [])=[]:=cK hlen
   rw [this];exact .sl0 (by simp [maxLen]) (by simp)
  | own hT k1 k2 =>
   rename_i b cap
   simp only at hT;rw [hT] at hrow
   have:=zA0 (J:=J) (T':=Tbl.empty) hrow (fun _ h _=>h) (hJ 0 b _ hT) (by rw [hlen];exact k1) k2
   rw [hlen] at this;exact this
 ·cases h1
def H9 (st:AS) (fid m:Nat) (ts:List Nat) (ag:Bool) (ks:List KSh) (es:List (AV×AV)):AS :=
 ⟨fun t=>bif ts.any (Nat.beq t) then .mp m else st.slot t,fun k=>bif Nat.beq k m then .live (.map ag ks es) else bif Nat.beq k fid then .dead else st.box k⟩
def zGe (st:AS) (fid m:Nat) (ts:List Nat) (es:List (AV×AV)):Option (List Prop×Bool×List KSh) :=
 match st.box fid with
 | .live (.fam (.cl b ag ks (.nm _ sz _ esz) l))=>bif nF (st.box m) then some ([ts.map st.slot=ts.map (fun _=>.rawm b),∀ x∈l,DZ x.2/\B3 sz esz x.2=true,es=l.map fun x=>(x.1,fzV x.2)],ag,ks) else none
 | _=>none
theorem zJQ {st:AS} (fid m:Nat) (ts:List Nat) (es:List (AV×AV)) {vcs:List Prop} {ag:Bool} {ks:List KSh} (h:zGe st fid m ts es=some (vcs,ag,ks)) (hv:qC vcs):Sub 0 st (H9 st fid m ts ag ks es):=by
 intro G a w hnp hRF;have hf:G.foot=[]:=cK hnp;unfold zGe at h
 split at h
 case h_2=>cases h
 rename_i b ag' ks' e0 sz ev esz l hfid
 replace h:=xM h;obtain ⟨hu,h⟩:=h;have hu:=bK hu;injection h with h;injection h with h0 h';injection h' with h1' h2';subst h0;subst h1';subst h2';have hv:=lF hv;have hts:∀ t∈ts,st.slot t=.rawm b:=List.map_inj_left.1 (hv (ts.map st.slot=ts.map (fun _=>.rawm b)) (by simp));have hok:∀ x∈l,DZ x.2/\B3 sz esz x.2=true:=hv _ (by simp);have hes:es=l.map fun x=>(x.1,fzV x.2):=hv _ (by simp)
 obtain ⟨G',Hd,L,F0,T,hT⟩:=hRF;obtain ⟨E,clock,Pl,m1,m2,m3,m4,m5,m6,m7,m8,m8',m9,m10⟩:=F0.ok fid _ hfid;have hI:∀ b,uP G' b->b<G'.w0.heap.size->w.heap[b]?=G'.w0.heap[b]?:=fun b hb _=>fZ hT.kept hb
 have hH:∀ b,Hd b->w.heap[b]?=G'.w0.heap[b]?:=fun b hb=>gX L hT.kept hb
 have hII:∀ b,uP G' b->b<G'.w0.heap.size->imm G' st T b/\b<w.heap.size:=fun b hb _=>gQ L hf hT hb
 have hTm:=hT.unused m hu;have hne:fid≠m:=fun e=>by rw [e,hu] at hfid;cases hfid
 have hle:T.le (T.put m (.at b 0)):=Tbl.le_put hTm;have hbx:∀ k,(H9 st fid m ts ag' ks' es).box k=if k=m then .live (.map ag' ks' es) else if k=fid then .dead else st.box k:=by
  intro k;simp only [H9]
  by_cases e1:k=m
  ·subst e1;simp
  ·rw [wV e1,if_neg e1]
   by_cases e2:k=fid
   ·subst e2;simp
   ·rw [wV e2,if_neg e2];rfl
 have hlive:∀ k bx,(H9 st fid m ts ag' ks' es).box k=.live bx->(k=m/\bx=.map ag' ks' es)\/(k≠m/\k≠fid/\st.box k=.live bx):=by
  intro k bx hl;rw [hbx] at hl
  by_cases e1:k=m
  ·rw [if_pos e1] at hl;injection hl with hl;exact .inl ⟨e1,hl.symm⟩
  rw [if_neg e1] at hl
  by_cases e2:k=fid
  ·rw [if_pos e2] at hl;cases hl
  ·rw [if_neg e2] at hl;exact .inr ⟨e1,e2,hl⟩
 have hlt:∀ c,Hd c->c<w.heap.size:=fun c hc=>kZ (L.hid c hc).1 hT.kept.size
 obtain ⟨o1,o2,o3⟩:=CK (J:=fun c=>(imm G' st T c/\c<w.heap.size)\/(Hd c/\c≠b)) (Hd2:=fun _=>False) (st2:=H9 st fid m ts ag' ks' es) (T2:=T.put m (.at b 0)) (a2:=a) (w2:=w) (pin:=fun _=>none) L hf hT rfl rfl rfl (yI _) (fun _ _ _=>rfl) hT.defers (by rw [hT.size,L.n])
  (by
   intro c hc;have hown:∀ id bx cap,(H9 st fid m ts ag' ks' es).box id=.live bx->T.put m (.at b 0) id≠some (.at c cap):=by
    intro id bx cap hl hTi;rcases hlive id bx hl with ⟨rfl,_⟩ | ⟨n1,n2,h0⟩
    ·rw [Tbl.put_same] at hTi;injection hTi with hTi;injection hTi with e1 _;rcases hc with ⟨hc,_⟩ | ⟨_,hc⟩
     ·subst e1;exact g9 L m1 hc
     ·exact hc e1.symm
    ·rw [Tbl.put_ne _ _ n1] at hTi;rcases hc with ⟨hc,_⟩ | ⟨hc,_⟩
     ·exact hc.2 id bx cap h0 hTi
     ·exact nP L hf hT h0 hTi hc
   rcases hc with ⟨hc,hcl⟩ | ⟨hc,hcb⟩
   ·exact ⟨(L.imm hc).1.elim .inl .inr,hcl,fun h=>h,hown⟩
   ·exact ⟨.inr (L.hid c hc).2.1,hlt c hc,fun h=>h,hown⟩)
  (by
   intro t;have hr:=hT.slots t;show Rep w _ _ _ (bif ts.any (Nat.beq t) then .mp m else st.slot t);cases ht:ts.any (Nat.beq t)
   ·simp only [cond_false];exact hr.mono (yI _) (fun _ _ _=>rfl) (fun c hc hlt=>.inl ⟨hc,hlt⟩) hle
   ·simp only [cond_true];rw [hts t (zBZ ht)] at hr;generalize a.tmps.getD t undef=v at hr ⊢;cases hr with
    | rawm=>exact .mp (Tbl.put_same _ _ _))
  (by
   intro id bx hl;rcases hlive id bx hl with ⟨rfl,rfl⟩ | ⟨n1,n2,h0⟩
   ·rw [Tbl.put_same];refine ⟨b,E,clock,rfl,by rw [hH b m1];exact m2,by rw [hes];simpa using m3,by rw [hes];simpa using m4,m5,?_,?_⟩
    ·intro x hx;rw [hes] at hx;obtain ⟨y,hy,rfl⟩:=vB.1 hx;exact m6 y hy
    ·intro i x hi;rw [hes,vD] at hi;cases hli:l[i]? with
     | none=>rw [hli] at hi;cases hi
     | some y =>
      rw [hli] at hi;injection hi with hi;subst hi;obtain ⟨e,q1,q2,_,q4⟩:=m7 i y hli;refine ⟨e,q1,q2.mono hT.kept.size hI (fun c hc hlt=>.inl (hII c hc hlt)) (fun _ _ h=>h),?_⟩;have hFE:=(q4 (fun h=>h)).move (w':=w) (I':=fun c=>(imm G' st T c/\c<w.heap.size)\/(Hd c/\c≠b)) hT.kept.size hI (fun c hc hlt=>.inl (hII c hc hlt)) (fun i' b1 cap hp _=>hH b1 (m9 i i' b1 cap hp).1)
      have:=hok y (yN hli)
      exact zGX hFE this.1 this.2 (fun c hc _=>hc) (fun j b1 c1 hp=>.inr ⟨(m9 i j b1 c1 hp).1,(m9 i j b1 c1 hp).2⟩)
   ·rw [Tbl.put_ne _ _ n1];exact (hT.boxes id bx h0).mono (yI _) (fun _ _ _=>rfl) (fun c hc hlt=>.inl ⟨hc,hlt⟩) hle (fun _ _ _ _=>rfl))
  (by
   intro id hl;rw [hbx] at hl
   by_cases e1:id=m
   ·rw [if_pos e1] at hl;cases hl
   rw [if_neg e1] at hl
   by_cases e2:id=fid
   ·rw [if_pos e2] at hl;cases hl
   ·rw [if_neg e2] at hl;rw [Tbl.put_ne _ _ e1];exact hT.unused id hl)
  (by
   intro i j x y c c1 c2 l1 l2 t1 t2;rcases hlive i x l1 with ⟨rfl,_⟩ | ⟨n1,_,k1⟩<;>rcases hlive j y l2 with ⟨e2,_⟩ | ⟨n2,_,k2⟩
   ·exact e2.symm
   ·rw [Tbl.put_same] at t1;injection t1 with t1;injection t1 with e1 _;rw [Tbl.put_ne _ _ n2] at t2;subst e1;exact absurd m1 (nP L hf hT k2 t2)
   ·subst e2;rw [Tbl.put_same] at t2;injection t2 with t2;injection t2 with e1 _;rw [Tbl.put_ne _ _ n1] at t1;subst e1;exact absurd m1 (nP L hf hT k1 t1)
   ·rw [Tbl.put_ne _ _ n1] at t1;rw [Tbl.put_ne _ _ n2] at t2;exact hT.apart i j x y c c1 c2 k1 k2 t1 t2)
  (by
   intro id bx c cap hl hTi;rcases hlive id bx hl with ⟨rfl,_⟩ | ⟨n1,n2,k1⟩
   ·rw [Tbl.put_same] at hTi;injection hTi with hTi;injection hTi with e1 _;subst e1;exact ⟨(L.hid _ m1).2.1,fun h=>h⟩
   ·rw [Tbl.put_ne _ _ n1] at hTi;exact ⟨L.mine (hT.mine id bx c cap k1 hTi (by rw [L.foot,hf];exact wI _)),fun h=>h⟩)
  (fun i p hp=>by cases hp)
  (fun c h=>h.elim)
 refine ⟨_,_,o1,⟨fun i j f g l1 l2=>?_,fun i f l1=>?_⟩,_,o2⟩
 ·rcases hlive i _ l1 with ⟨_,e1⟩ | ⟨_,n1,k1⟩
  ·cases e1
  ·exact absurd (F0.one i fid f _ k1 hfid) n1
 ·rcases hlive i _ l1 with ⟨_,e1⟩ | ⟨_,n1,k1⟩
  ·cases e1
  ·exact absurd (F0.one i fid f _ k1 hfid) n1
def ini {α:Type} (l:List α):List α:=l.dropLast
def lst {α:Type} [Inhabited α] (l:List α):α:=l.getLast?.getD default
section
variable {α:Type} [Inhabited α]
omit [Inhabited α] in
theorem CY (l:List α) (x:α):ini (l++[x])=l:=by simp [ini]
theorem v4 (l:List α) (x:α):lst (l++[x])=x:=by simp [lst]
omit [Inhabited α] in
theorem zBr (l:List α) (x:α):(!(l++[x]).isEmpty)=true:=by cases l<;>rfl
omit [Inhabited α] in
theorem QC (l:List α):(ini l).length=l.length - 1:=by simp [ini]
omit [Inhabited α] in
theorem QH {l:List α} (h:0<l.length):(!l.isEmpty)=true:=by cases l<;>simp_all
theorem G7 {l:List α} (h:0<l.length):l=ini l++[lst l]:=by
 have hne:l≠[]:=fun e=>by subst e;simp at h
 simp only [ini,lst];rw [List.getLast?_eq_some_getLast hne];exact (List.dropLast_concat_getLast hne).symm
omit [Inhabited α] in
theorem zD7 (f:α->AV) (l:List α):(List.map f (ini l)).length+(bif (!l.isEmpty) then 1 else 0)=l.length:=by
 rw [vL,QC];cases l<;>simp
omit [Inhabited α] in
theorem X8 (f:α->AV) {l:List α} {i:Nat} (h:i+1=l.length):i=(List.map f (ini l)).length:=by rw [vL,QC];omega
theorem zEj (f:α->AV) {l:List α} {i:Nat} (h:i+1=l.length):(List.map f l)[i]?=some (f (lst l)):=by
 have h0:0<l.length:=by omega
 have hl:(List.map f l)[i]?=(List.map f (ini l++[lst l]))[i]?:=by rw [<- G7 h0]
 rw [hl]
 have:i=(List.map f (ini l)).length:=X8 f h
 rw [nH,u4 (by omega),this];simp
omit [Inhabited α] in
theorem zH5 (x:α) {l:List α} {i:Nat} (h:i+1=l.length):(ini l++[x]).length=l.length:=by
 rw [zla,QC,zls];omega
theorem Z3 (f:α->AV) (l:List α) (c:AV) (h:f (lst l)=c):List.map f l=List.map f (ini l)++bif (!l.isEmpty) then [c] else []:=by
 rcases DD l.length with h0 | h0
 ·have:=cK h0
  subst this;rfl
 ·rw [QH h0,<- h]
  conv=>lhs;rw [G7 h0]
  simp
end
theorem zOv {α:Type} (o:Option α):o=none\/∃ x,o=some x:=by cases o<;>simp
def W0 {α β:Type} (o:Option α) (a:β) (f:α->β):β:=match o with | none=>a | some x=>f x
theorem zLp {α β:Type} {o:Option α} {a:β} {f:α->β} {r:β} (h:o=none) (hr:W0 o a f=r):a=r:=by rw [h] at hr;exact hr
theorem zH9 {α β:Type} {o:Option α} {a:β} {f:α->β} {r:β} {x:α} (h:o=some x) (hr:W0 o a f=r):f x=r:=by rw [h] at hr;exact hr
section
variable {α β:Type} [DecidableEq α] {f:α->AV} {g:β->AV}
theorem zHl (hf:∀ a b,f a=f b->a=b) {l:List (α×β)} {k:α} (h:zV l k=none) (z:AV):u0 (l.map (mpE f g)) (f k) z z false:=by
 refine .inr ⟨fun x hx=>?_,rfl,rfl⟩;obtain ⟨p,hp,rfl⟩:=vB.1 hx;exact fun e=>AA h p hp (hf _ _ e)
theorem zON {l:List (α×β)} {k:α} {v:β} (h:zV l k=some v) (z:AV):u0 (l.map (mpE f g)) (f k) z (g v) true:=by
 obtain ⟨i,p,h1,h2,h3,_⟩:=NK h;exact .inl ⟨i,mpE f g p,by rw [vD,h1];rfl,by simp [mpE,h2],by simp [mpE,h3],rfl⟩
omit [DecidableEq α] in
theorem zKG {g2:β->AV} (hg:∀ v,fzV (g v)=g2 v) (l:List (α×β)):l.map (mpE f g2)=(l.map (mpE f g)).map fun x=>(x.1,fzV x.2):=by
 rw [QL];congr 1;funext p;simp [mpE,hg]
omit [DecidableEq α] in
theorem zJT {sz esz:Nat} (hg:∀ v:β,DZ (g v)/\B3 sz esz (g v)=true) (l:List (α×β)):∀ x∈l.map (mpE f g),DZ x.2/\B3 sz esz x.2=true:=by
 intro x hx;obtain ⟨p,_,rfl⟩:=vB.1 hx;exact hg p.2
end
def rX (id:Nat) (l:List (AV×AV)):AV->AV
 | .mp k=>bif Nat.beq k id then .fm false l else .mp k
 | v=>v
def VY (id:Nat) (l:List (AV×AV)):AV->AV
 | .agg cs=>.agg (cs.map (rX id l))
 | v=>rX id l v
def fzM (st:AS) (id:Nat):AS :=
 match st.box id with
 | .live (.map _ _ l)=>⟨fun t=>VY id l (st.slot t),fun k=>bif Nat.beq k id then .dead else match st.box k with
  | .live (.var t cs)=>.live (.var t (cs.map (rX id l)))
  | b=>b⟩
 | _=>st
def zH8:zR->Bool
 | .live (.map ..)=>true
 | _=>false
theorem zDl {id:Nat} {l:List (AV×AV)} {c:AV} (h:c.one=true):(rX id l c).one=true:=by
 cases c<;>simp only [rX]<;>try exact h
 rename_i k
 cases Nat.beq k id<;>rfl
theorem Z1 {w:World} {I I':Nat->Prop} {T:Tbl} {id b:Nat} {l:List (AV×AV)} {v:Value} {c:AV} (hI:∀ b,I b->I' b) (hT:T id=some (.at b 0)) (hf:∀ T',Rep w I' T' (.map (some b)) (.fm false l)) (h:Rep w I T v c):Rep w I' T v (rX id l c):=by
 have h':Rep w I' T v c:=h.mono (yI _) (fun _ _ _=>rfl) (fun b hb _=>hI b hb) (fun _ _ h=>h);cases h with
 | mp hk =>
  rename_i k b'
  simp only [rX]
  by_cases e:k=id
  ·subst e;rw [hT] at hk;injection hk with hk;injection hk with hk _;subst hk;simp only [cond_true,show Nat.beq k k=true by simp];exact hf T
  ·rw [wV e,cond_false];exact h'
 | _=>exact h'
theorem zGj {w:World} {I I':Nat->Prop} {T:Tbl} {id b:Nat} {l:List (AV×AV)} {v:Value} {c:AV} (hI:∀ b,I b->I' b) (hT:T id=some (.at b 0)) (hf:∀ T',Rep w I' T' (.map (some b)) (.fm false l)) (h:Rep w I T v c):Rep w I' T v (VY id l c):=by
 by_cases hc:∃ cs,c=.agg cs
 ·obtain ⟨cs,rfl⟩:=hc;cases h with
  | agg h1 h2 h3 =>
   refine .agg (by rw [h1,vL]) ?_ ?_
   ·intro c hc;obtain ⟨c0,k1,rfl⟩:=vB.1 hc;exact zDl (h2 c0 k1)
   ·intro j c hj;rw [vD] at hj;cases hcj:cs[j]? with
    | none=>rw [hcj] at hj;cases hj
    | some c0 =>
     rw [hcj] at hj;injection hj with hj;subst hj;exact Z1 hI hT hf (h3 j c0 hcj)
 ·have:VY id l c=rX id l c:=by cases c<;>first | rfl | exact absurd ⟨_,rfl⟩ hc
  rw [this];exact Z1 hI hT hf h
theorem zFO {np:Nat} {st:AS} (id:Nat) (h:(zH8 (st.box id)&&Nat.ble np id)=true):Sub np st (fzM st id):=by
 simp only [zba] at h;obtain ⟨h1,h2⟩:=h;obtain ⟨ag,ks,l,hb⟩:∃ ag ks l,st.box id=.live (.map ag ks l):=by
  cases hb:st.box id with
  | unused=>rw [hb] at h1;cases h1
  | dead=>rw [hb] at h1;cases h1
  | live bx=>cases bx with
   | map ag ks l=>exact ⟨_,_,_,rfl⟩
   | _=>rw [hb] at h1;cases h1
 have hbox:∀ k,(fzM st id).box k=if k=id then .dead else match st.box k with | .live (.var t cs)=>.live (.var t (cs.map (rX id l))) | b=>b:=by
  intro k;unfold fzM;rw [hb];simp only
  by_cases e:k=id
  ·subst e;simp
  ·rw [wV e,if_neg e];rfl
 intro G0 a w hnp0 hRF;refine hRF.lift ?_ ?_
 ·intro k f hl;rw [hbox] at hl
  by_cases e:k=id
  ·rw [if_pos e] at hl;cases hl
  ·rw [if_neg e] at hl
   split at hl
   ·cases hl
   ·exact hl
 rintro G _ hfoot ⟨T,hT⟩;have hnp:G.foot.length=np:=by rw [hfoot];exact hnp0
 have hid:G.foot.length<=id:=by have:=B4 h2;omega
 obtain ⟨b,E,clock,hp,hh,k1,k2,kS,k3,k4⟩:=hT.boxes id _ hb;have hslot:∀ t,(fzM st id).slot t=VY id l (st.slot t):=by
  intro t;unfold fzM;rw [hb]
 have hlive:∀ k bx,(fzM st id).box k=.live bx->k≠id/\∃ bx0,st.box k=.live bx0:=by
  intro k bx hl;rw [hbox] at hl
  by_cases e:k=id
  ·rw [if_pos e] at hl;cases hl
  ·rw [if_neg e] at hl;refine ⟨e,?_⟩;cases hk:st.box k with
   | live b0=>exact ⟨b0,rfl⟩
   | dead=>rw [hk] at hl;cases hl
   | unused=>rw [hk] at hl;cases hl
 have himm:∀ b,imm G st T b->imm G (fzM st id) T b:=by
  intro b' hb';refine ⟨hb'.1,fun k bx cap hl hTk=>?_⟩;obtain ⟨_,bx0,h0⟩:=hlive k bx hl;exact hb'.2 k bx0 cap h0 hTk
 have hbI:imm G (fzM st id) T b:=by
  refine ⟨.inr (hT.mine id _ b 0 hb hp hid),fun k bx cap hl hTk=>?_⟩;obtain ⟨hne,bx0,h0⟩:=hlive k bx hl;exact hne (hT.apart id k _ bx0 b 0 cap hb h0 hp hTk).symm
 have hblt:b<w.heap.size:=cS hT hb hp;have hf:∀ T',Rep w (imm G (fzM st id) T) T' (.map (some b)) (.fm false l):=by
  intro T';refine .fm (fun i=>(E[i]?.map (·.key)).getD undef) (fun i=>(E[i]?.map (·.val)).getD undef) k1 k2 kS hbI hblt hh ?_ ?_ ?_
  ·intro i x hx;obtain ⟨e,e1,_⟩:=k4 i x hx;refine ⟨e.born,?_⟩;rw [e1];rfl
  ·intro i x hx;obtain ⟨e,e1,e2,e3⟩:=k4 i x hx;rw [e1];exact e2.mono (yI _) (fun _ _ _=>rfl) (fun b hb _=>himm b hb) (fun _ _ h=>h)
  ·intro i x hx;obtain ⟨e,e1,e2,e3⟩:=k4 i x hx;rw [e1];exact e3.mono (yI _) (fun _ _ _=>rfl) (fun b hb _=>himm b hb) (fun _ _ h=>h)
 refine ⟨T,hT.defers,hT.size,?_,?_,?_,?_,?_,hT.foot,hT.kept,hT.pin⟩
 ·intro t;rw [hslot];exact zGj himm hp hf (hT.slots t)
 ·intro k bx hl;obtain ⟨hne,bx0,h0⟩:=hlive k bx hl;rw [hbox,if_neg hne,h0] at hl;have hok:=hT.boxes k bx0 h0;cases bx0 with
  | var t cs =>
   injection hl with hl;subst hl;obtain ⟨b',C,p1,p2,p3,p4,p5⟩:=hok;refine ⟨b',C,p1,p2,by rw [p3,vL],?_,?_⟩
   ·intro c hc;obtain ⟨c0,q1,rfl⟩:=vB.1 hc;exact zDl (p4 c0 q1)
   ·intro j c hj;rw [vD] at hj;cases hcj:cs[j]? with
    | none=>rw [hcj] at hj;cases hj
    | some c0 =>
     rw [hcj] at hj;injection hj with hj;subst hj;exact Z1 himm hp hf (p5 j c0 hcj)
  | row e s l'=>injection hl with hl;subst hl;exact hok.mono (yI _) (fun _ _ _=>rfl) (fun b hb _=>himm b hb) (fun _ _ h=>h) (fun _ _ _ _=>rfl)
  | rowI e s l' m i x=>injection hl with hl;subst hl;exact hok.mono (yI _) (fun _ _ _=>rfl) (fun b hb _=>himm b hb) (fun _ _ h=>h) (fun _ _ _ _=>rfl)
  | rowQ e s l' m x=>injection hl with hl;subst hl;exact hok.mono (yI _) (fun _ _ _=>rfl) (fun b hb _=>himm b hb) (fun _ _ h=>h) (fun _ _ _ _=>rfl)
  | fam f=>injection hl with hl;subst hl;exact hok.mono (yI _) (fun _ _ _=>rfl) (fun b hb _=>himm b hb) (fun _ _ h=>h) (fun _ _ _ _=>rfl)
  | map ag' ks' l'=>injection hl with hl;subst hl;exact hok.mono (yI _) (fun _ _ _=>rfl) (fun b hb _=>himm b hb) (fun _ _ h=>h) (fun _ _ _ _=>rfl)
 ·intro k hk;rw [hbox] at hk
  by_cases e:k=id
  ·rw [if_pos e] at hk;cases hk
  ·rw [if_neg e] at hk;refine hT.unused k ?_;cases h0:st.box k with
   | unused=>rfl
   | dead=>rw [h0] at hk;cases hk
   | live b0=>rw [h0] at hk;cases b0<;>cases hk
 ·intro i1 i2 b1 b2 b' c1 c2 h1 h2 t1 t2;obtain ⟨_,x1,l1⟩:=hlive i1 b1 h1;obtain ⟨_,x2,l2⟩:=hlive i2 b2 h2;exact hT.apart i1 i2 x1 x2 b' c1 c2 l1 l2 t1 t2
 ·intro k bx b' cap hl hTk hge;obtain ⟨_,x0,l0⟩:=hlive k bx hl;exact hT.mine k x0 b' cap l0 hTk hge
open Go Go.Proofs Go.Shelf
theorem CV {α β:Type} {f:α->AV} {g:β->AV} {ag:Bool} {ks:List KSh} {L:List (α×β)} (h:∀ a,uI ag ks (f a)=true):∀ x∈List.map (mpE f g) L,uI ag ks x.1=true:=by
 intro x hx;obtain ⟨y,_,rfl⟩:=vB.1 hx;exact h _
open Go Go.Proofs Go.Shelf
def pM (l:List Int):List Int:=l.mergeSort fun x y=>decide (x<=y)
theorem MK (l:List Int):(pM l).length=l.length:=by unfold pM;exact List.length_mergeSort l
theorem G8 (l:List Int) (x:Int):x∈pM l↔x∈l:=by unfold pM;exact List.mem_mergeSort
theorem zK2 {P:Program} {ρ:Ren} (L:SlLaysN.n53 P ρ) (e:TypeId) (l:List Int) (hl:l.length<4611686018427387904) :
  E8 P (ρ.f 53) [.row e 1 (List.map (AV.int .i64) l)] [.own 0 l.length] [.row e 1 (List.map (AV.int .i64) (pM l))] (.tuple []):=by
 intro w I foot gp vals hfl hgl hIf hap hlt hpre hvs hvals;have hg:gp=[]:=by cases gp<;>simp_all
 subst hg;obtain ⟨p,rfl⟩:∃ p,foot=[p]:=by
  match foot,hfl with
  | [p],_=>exact ⟨p,rfl⟩
 have hr:=hvals 0 _ rfl;have hb:=hpre 0 _ rfl;have hval:vals=#[vals.getD 0 undef]:=by
  apply Array.ext
  ·simpa using hvs
  ·intro i h1 h2
   have:i=0:=by simp at h2;omega
   subst this;simp [Array.getD,h1]
 generalize vals.getD 0 undef=v at hr hval;subst hval;generalize hn:l.length=n at hr;simp only [aE,jY] at hb;cases hr with
 | ownNil hT =>
  have hl0:l=[]:=dN.1 hn;subst hl0;refine (AnyG.slices_Sort_int_none L _ 0 w).mono fun e' w' ⟨he,hw⟩=>?_
  subst hw;refine ⟨_,[],he,rfl,rfl,rfl,yI _,fun _ _ _=>rfl,rfl,by simp,by simp,.tuple rfl (by simp),?_⟩;intro i bx hi;cases i with
  | succ i=>simp at hi
  | zero =>
   simp only [jY,uU] at hi;subst hi;rw [show pM []=[] from List.mergeSort_nil];show uJ w' (kept I w' [] []) (fun i=>[p][i]?) (some p) (.row e 1 (List.map (AV.int .i64) []));exact hb.mono (yI _) (fun _ _ _=>rfl) (fun b hb hlt=>Or.inl ⟨hb,hlt⟩) (fun _ _ h=>h) (fun _ _ _ _=>rfl)
 | own hT h1 h2 =>
  rename_i b cap
  simp only [aE,jY,uU] at hT;subst hT;subst hn;have hblt:b<w.heap.size:=hlt b cap (by simp);rcases hb with ⟨hp,_⟩ | ⟨b',cap',C,hp,hh,k1,k2,k3,k4,k5,k6⟩
  ·cases hp
  injection hp with hp;injection hp with e1 e2;subst e1;subst e2;rw [vL] at k2;have hcell:∀ (j:Nat) (x:Int),l[j]?=some x->C.getD (xR cap+j) undef=.int .i64 x/\IntKind.i64.wrap x=x:=by
   intro j x hx
   have:=k6 j (.int .i64 x) 0 (.int .i64 x) (by rw [vD,hx];rfl) rfl
   rw [Nat.mul_one,A2] at this;generalize C.getD (xR cap+j) undef=v at this ⊢;cases this with
   | int h=>exact ⟨rfl,h⟩
  have hH:Sort.Holds (Value.int .i64) w b (xR cap) l.toArray:=by
   intro j hj;have hj:j<l.length:=by simpa using hj
   have hC:xR cap+j<C.size:=by omega
   obtain ⟨c1,_⟩:=hcell j l[j] (w7 hj)
   constructor
   ·have:w.cell? ⟨b,xR cap+j,none⟩=some (C.getD (xR cap+j) undef):=by simp [World.cell?,hh,hC]
    rw [this,c1];simp [hj]
   ·simp [World.frozen?,hh]
  refine (AnyG.slices_Sort_int L b (xR cap) (v7 cap) l w hH hblt hl).mono fun e' w' ⟨he,n,os,hw⟩=>?_
  have hsl:(pM l).length=l.length:=MK l
  change w'=Sort.grow (Sort.putRow (Value.int .i64) (Sort.ahead w n) b (xR cap) (pM l).toArray) os at hw
  have hb1:(w.heap.modify b (Sort.onCells (Sort.putCells (Value.int .i64) (xR cap) (pM l).toArray)))[b]?=some (.cells (Sort.putCells (Value.int .i64) (xR cap) (pM l).toArray C) e (0,0)):=by
   rw [BJ,if_pos rfl,hh];rfl
  have hw0:w'.heap=w.heap.modify b (Sort.onCells (Sort.putCells (Value.int .i64) (xR cap) (pM l).toArray))++os:=by rw [hw];rfl
  have hsz:w.heap.size<=w'.heap.size:=by rw [hw0];simp
  have hold:∀ b2,b2<w.heap.size->b2≠b->w'.heap[b2]?=w.heap[b2]?:=by
   intro b2 h2 hne;rw [hw0,LF (by simpa using h2),BJ,if_neg (fun h=>hne h.symm)]
  have hnew:w'.heap[b]?=some (.cells (Sort.putCells (Value.int .i64) (xR cap) (pM l).toArray C) e (0,0)):=by
   rw [hw0,LF (by simpa using hblt),hb1]
  refine ⟨_,[],he,by rw [hw];rfl,by rw [hw];rfl,by rw [hw];rfl,hsz,fun b2 h2 hne=>hold b2 h2 (fun h=>hne cap (by rw [h];simp)),rfl,by simp,by simp,.tuple rfl (by simp),?_⟩;intro i bx hi;cases i with
  | succ i=>simp at hi
  | zero =>
   simp only [jY,uU] at hi;subst hi;refine Or.inr ⟨b,cap,_,rfl,hnew,by simpa [Sort.putCells] using k1,by rw [vL,hsl];exact k2,k3,?_,?_,?_⟩
   ·intro av hav;obtain ⟨x,_,rfl⟩:=vB.1 hav;rfl
   ·intro av hav c hc;obtain ⟨x,_,rfl⟩:=vB.1 hav;simp [AV.cells] at hc;subst hc;rfl
   ·intro i av j c hi hj;rw [vD] at hi;cases hx:(pM l)[i]? with
    | none=>rw [hx] at hi;cases hi
    | some x =>
     rw [hx] at hi;injection hi with hi;subst hi;have hj0:j=0:=by
      cases j with
      | zero=>rfl
      | succ j=>simp [AV.cells] at hj
     subst hj0;simp [AV.cells] at hj;subst hj;obtain ⟨hil,hix⟩:=vO.1 hx;have hC:xR cap+(i * 1+0)<C.size:=by omega
     have hxl:x∈l:=(G8 l x).1 (yN hx);obtain ⟨j0,hj0⟩:=uG.1 hxl;have hwr:=(hcell j0 x hj0).2
     have:(Sort.putCells (Value.int .i64) (xR cap) (pM l).toArray C).getD (xR cap+(i * 1+0)) undef=.int .i64 x:=by
      simp only [Nat.mul_one,A2] at hC ⊢;simp [Sort.putCells,Array.getD,hC,hil,hix]
     rw [this];exact .int hwr
theorem YL (l:List Int) (x:Int) (h:x∈Lib.compact l):x∈l:=by
 unfold Lib.compact Lib.compactUpTo at h;obtain ⟨i,hi,rfl⟩:=vB.1 h
 have:=dD.1 (mG.1 hi).1
 simp [this]
theorem zAm (l:List Int):(Lib.compact l).length<=l.length:=by
 unfold Lib.compact Lib.compactUpTo;rw [vL];exact kX (List.length_filter_le _ _) (by simp)
theorem zAP {P:Program} {N np:Nat} {K:Exit->AS->Prop} {c:Code} {st:AS} (h:AW P N np c (fun e st'=>∃ st2,Sub np st' st2/\K e st2) st):AW P N np c K st:=by
 intro G a w hN hnp hR;refine GD ?_ (h G a w hN hnp hR);rintro e a' w' ⟨st',⟨st2,hs,hk⟩,hR'⟩;exact ⟨st2,hk,hs G a' w' hnp hR'⟩
theorem zOh {P:Program} {ρ:Ren} (L:SlLaysN.n43 P ρ) (e:TypeId) (l:List Int) (hl:l.length<4611686018427387904) :
  y9 P (ρ.f 43) [] [.row e 1 (List.map (AV.int .i64) l)] [.own 0 l.length] [.row e 1 (List.map (AV.int .i64) (Lib.compact l))] (.own 0 (Lib.compact l).length):=by
 intro w I foot gp vals hfl hgl hIf hap hlt hpre hvs hvals;have hg:foot=[]:=by cases foot<;>simp_all
 subst hg;obtain ⟨p,rfl⟩:∃ p,gp=[p]:=by
  match gp,hgl with
  | [p],_=>exact ⟨p,rfl⟩
 have hr:=hvals 0 _ rfl;have hb:=hpre 0 _ rfl;have hval:vals=#[vals.getD 0 undef]:=by
  apply Array.ext
  ·simpa using hvs
  ·intro i h1 h2
   have:i=0:=by simp at h2;omega
   subst this;simp [Array.getD,h1]
 generalize vals.getD 0 undef=v at hr hval;subst hval;generalize hn:l.length=n at hr;simp only [EO,jY] at hb;cases hr with
 | ownNil hT =>
  have hl0:l=[]:=dN.1 hn;subst hl0;simp only [EO,jY,uU] at hT;subst hT;refine (AnyG.slices_Compact_int_empty L _ 0 w).mono fun e' w' ⟨he,hw⟩=>?_
  subst hw;refine ⟨_,[.nil],he,rfl,rfl,rfl,yI _,fun _ _ _=>rfl,rfl,by simp,?_,.ownNil rfl,?_⟩
  ·intro i j b c c' hi _;cases i<;>simp at hi
  intro i bx hi;cases i with
  | succ i=>simp at hi
  | zero =>
   simp only [jY,uU] at hi;subst hi;exact Or.inl ⟨rfl,rfl⟩
 | own hT h1 h2 =>
  rename_i b cap
  simp only [EO,jY,uU] at hT;subst hT;subst hn;have hblt:b<w.heap.size:=hlt b cap (by simp);rcases hb with ⟨hp,_⟩ | ⟨b',cap',C,hp,hh,k1,k2,k3,k4,k5,k6⟩
  ·cases hp
  injection hp with hp;injection hp with e1 e2;subst e1;subst e2;rw [vL] at k2;have hcell:∀ (j:Nat) (x:Int),l[j]?=some x->C.getD (xR cap+j) undef=.int .i64 x/\IntKind.i64.wrap x=x:=by
   intro j x hx
   have:=k6 j (.int .i64 x) 0 (.int .i64 x) (by rw [vD,hx];rfl) rfl
   rw [Nat.mul_one,A2] at this;generalize C.getD (xR cap+j) undef=v at this ⊢;cases this with
   | int h=>exact ⟨rfl,h⟩
  have hH:Sort.Holds (Value.int .i64) w b (xR cap) l.toArray:=by
   intro j hj;have hj:j<l.length:=by simpa using hj
   have hC:xR cap+j<C.size:=by omega
   obtain ⟨c1,_⟩:=hcell j l[j] (w7 hj)
   constructor
   ·have:w.cell? ⟨b,xR cap+j,none⟩=some (C.getD (xR cap+j) undef):=by simp [World.cell?,hh,hC]
    rw [this,c1];simp [hj]
   ·simp [World.frozen?,hh]
  refine (AnyG.slices_Compact_int L b (xR cap) (v7 cap) l w hH (by omega) (by omega)).mono fun e' w' ⟨he,q,hw⟩=>?_
  have hcl:=zAm l;generalize hD:(Lib.compact l++List.replicate (l.length - (Lib.compact l).length) 0)=D at hw;have hDl:D.length=l.length:=by rw [<- hD];simp;omega
  have hnew:w'.heap[b]?=some (.cells (Sort.putCells (Value.int .i64) (xR cap) D.toArray C) e (0,0)):=by
   rw [hw];show (w.heap.modify b (Sort.onCells (Sort.putCells (Value.int .i64) (xR cap) D.toArray)))[b]?=_;rw [BJ,if_pos rfl,hh];rfl
  have hold:∀ b2,b2≠b->w'.heap[b2]?=w.heap[b2]?:=by
   intro b2 hne;rw [hw];show (w.heap.modify b (Sort.onCells (Sort.putCells (Value.int .i64) (xR cap) D.toArray)))[b2]?=_;rw [BJ,if_neg (fun h=>hne h.symm)]
  have hsz:w.heap.size<=w'.heap.size:=by
   rw [hw];show w.heap.size<=(w.heap.modify b _).size;simp
  refine ⟨_,[.at b cap],he,by rw [hw];rfl,by rw [hw];rfl,by rw [hw];rfl,hsz,fun b2 h2 hne=>hold b2 (fun h=>hne cap (by rw [h];simp)),rfl,?_,?_,.own rfl (by omega) h2,?_⟩
  ·intro b2 cap2 hm;simp only [uO,zY.at.injEq] at hm;exact Or.inr ⟨cap2,by simp [hm.1,hm.2]⟩
  ·intro i j b2 c c' hi hj;have h1:i=0:=by cases i with | zero=>rfl | succ i=>simp at hi
   have h2:j=0:=by cases j with | zero=>rfl | succ j=>simp at hj
   omega
  intro i bx hi;cases i with
  | succ i=>simp at hi
  | zero =>
   simp only [jY,uU] at hi;subst hi;refine Or.inr ⟨b,cap,_,rfl,hnew,by simpa [Sort.putCells] using k1,by rw [vL];omega,k3,?_,?_,?_⟩
   ·intro av hav;obtain ⟨x,_,rfl⟩:=vB.1 hav;rfl
   ·intro av hav c hc;obtain ⟨x,_,rfl⟩:=vB.1 hav;simp [AV.cells] at hc;subst hc;rfl
   ·intro i av j c hi hj;rw [vD] at hi;cases hx:(Lib.compact l)[i]? with
    | none=>rw [hx] at hi;cases hi
    | some x =>
     rw [hx] at hi;injection hi with hi;subst hi;have hj0:j=0:=by
      cases j with
      | zero=>rfl
      | succ j=>simp [AV.cells] at hj
     subst hj0;simp [AV.cells] at hj;subst hj;obtain ⟨hil,hix⟩:=vO.1 hx;have hC:xR cap+(i * 1+0)<C.size:=by omega
     have hxl:x∈l:=YL l x (yN hx);obtain ⟨j0,hj0⟩:=uG.1 hxl;have hwr:=(hcell j0 x hj0).2;have hiD:i<D.length:=by omega
     have hDx:D[i]=x:=by
      subst hD;rw [List.getElem_append_left hil,hix]
     have:(Sort.putCells (Value.int .i64) (xR cap) D.toArray C).getD (xR cap+(i * 1+0)) undef=.int .i64 x:=by
      simp only [Nat.mul_one,A2] at hC ⊢;simp [Sort.putCells,Array.getD,hC,hiD,hDx]
     rw [this];exact .int hwr
def OC (id:Nat):AV->Bool
 | .ptr i _ k off=>(Nat.beq i id&&Nat.beq k 0)&&Nat.beq off 0
 | _=>false
def CG (st:AS) (id:Nat) (ts:List Nat):AS :=
 match st.box id with
 | .live (.var _ cs)=>⟨fun t=>bif inK ts t&&OC id (st.slot t) then .ref (.agg cs) else st.slot t,fun k=>bif Nat.beq k id then .dead else st.box k⟩
 | _=>st
def zD4 (np id:Nat):zR->Bool
 | .live (.var _ cs)=>AV.pures cs&&Nat.ble np id
 | _=>false
theorem zMx {np:Nat} {st:AS} (id:Nat) (ts:List Nat) (h:zD4 np id (st.box id)=true):Sub np st (CG st id ts):=by
 obtain ⟨t0,cs,hb,hpu,hle⟩:∃ t0 cs,st.box id=.live (.var t0 cs)/\AV.pures cs=true/\np<=id:=by
  cases hb:st.box id with
  | unused=>rw [hb] at h;cases h
  | dead=>rw [hb] at h;cases h
  | live bx=>cases bx with
   | var t0 cs=>rw [hb] at h;simp only [zD4,zba] at h;exact ⟨t0,cs,rfl,h.1,B4 h.2⟩
   | _=>rw [hb] at h;cases h
 have hbox:∀ k,(CG st id ts).box k=if k=id then .dead else st.box k:=by
  intro k;unfold CG;rw [hb];simp only
  by_cases e:k=id
  ·subst e;simp
  ·rw [wV e,if_neg e];rfl
 have hslot:∀ t,(CG st id ts).slot t=bif inK ts t&&OC id (st.slot t) then .ref (.agg cs) else st.slot t:=by
  intro t;unfold CG;rw [hb]
 intro G0 a w hnp0 hRF;refine hRF.lift ?_ ?_
 ·intro k f hl;rw [hbox] at hl
  by_cases e:k=id
  ·rw [if_pos e] at hl;cases hl
  ·rw [if_neg e] at hl;exact hl
 rintro G _ hfoot ⟨T,hT⟩;have hid:G.foot.length<=id:=by rw [hfoot,hnp0];exact hle
 obtain ⟨b,C,hp,hh,k1,k2,k3⟩:=hT.boxes id _ hb;have hlive:∀ k bx,(CG st id ts).box k=.live bx->k≠id/\st.box k=.live bx:=by
  intro k bx hl;rw [hbox] at hl
  by_cases e:k=id
  ·rw [if_pos e] at hl;cases hl
  ·rw [if_neg e] at hl;exact ⟨e,hl⟩
 have himm:∀ b,imm G st T b->imm G (CG st id ts) T b:=fun b' hb'=>⟨hb'.1,fun k bx cap hl hTk=>hb'.2 k bx cap (hlive k bx hl).2 hTk⟩
 have hbI:imm G (CG st id ts) T b:=by
  refine ⟨.inr (hT.mine id _ b 0 hb hp hid),fun k bx cap hl hTk=>?_⟩;obtain ⟨hne,h0⟩:=hlive k bx hl;exact hne (hT.apart id k _ bx b 0 cap hb h0 hp hTk).symm
 have hblt:b<w.heap.size:=cS hT hb hp;refine ⟨T,hT.defers,hT.size,?_,?_,?_,?_,?_,hT.foot,hT.kept,hT.pin⟩
 ·intro t;rw [hslot];have hr:=hT.slots t;cases hc:inK ts t&&OC id (st.slot t) with
  | false=>exact hr.mono (yI _) (fun _ _ _=>rfl) (fun b hb _=>himm b hb) (fun _ _ h=>h)
  | true =>
   simp only [zba] at hc;cases hs:st.slot t with
   | ptr i sz k off =>
    rw [hs] at hr hc;simp only [OC,zba] at hc;have e1:=wT.1 hc.2.1.1;have e2:=wT.1 hc.2.1.2;have e3:=wT.1 hc.2.2;subst e1;subst e2;subst e3;generalize a.tmps.getD t undef=v at hr;cases hr with
    | ptr hTi ho =>
    rename_i o b' cap
    rw [hp] at hTi;injection hTi with hTi;injection hTi with q1 q2;subst q1;subst q2;have ho2:o=0:=by rw [ho];simp [xR]
    subst ho2;show Rep w _ T (.pointer (some ⟨b,0,none⟩)) (.ref (.agg cs));refine .ref (fun j=>C.getD j undef) hbI hblt k2 ?_ ?_
    ·intro j c hj;have hj':cs[j]?=some c:=hj;have hlt:j<C.size:=by rw [k1];exact (vO.1 hj').1
     simp [World.cell?,hh,hlt]
    ·intro j c hj;have hj':cs[j]?=some c:=hj;exact ((k3 j c hj').mono (yI _) (fun _ _ _=>rfl) (fun b hb _=>himm b hb) (fun _ _ h=>h):Rep w _ T _ _).bare (AV.pures_get hpu hj')
   | _=>rw [hs] at hc;simp [OC] at hc
 ·intro k bx hl;obtain ⟨hne,h0⟩:=hlive k bx hl;exact (hT.boxes k bx h0).mono (yI _) (fun _ _ _=>rfl) (fun b hb _=>himm b hb) (fun _ _ h=>h) (fun _ _ _ _=>rfl)
 ·intro k hk;rw [hbox] at hk
  by_cases e:k=id
  ·rw [if_pos e] at hk;cases hk
  ·rw [if_neg e] at hk;exact hT.unused k hk
 ·intro i1 i2 b1 b2 b' c1 c2 h1 h2 t1 t2;exact hT.apart i1 i2 b1 b2 b' c1 c2 (hlive i1 b1 h1).2 (hlive i2 b2 h2).2 t1 t2
 ·intro k bx b' cap hl hTk hge;exact hT.mine k bx b' cap (hlive k bx hl).2 hTk hge
theorem jO.move {w w':World} {I I' Hd Hd':Nat->Prop} {H:List (Option wH)} (h:jO w I Hd H) (hs:w.heap.size<=w'.heap.size) (hc:∀ b,I b->b<w.heap.size->w'.heap[b]?=w.heap[b]?) (hI:∀ b,I b->b<w.heap.size->I' b)
  (hH:∀ b,Hd b->w'.heap[b]?=w.heap[b]?) (hd:∀ b,Hd b->Hd' b):jO w' I' Hd' H :=
 ⟨fun i p e hi=>⟨(h.1 i p e hi).1.mono hs hc hI (fun b cap hp=>hH b ((h.1 i p e hi).2 b cap hp)),fun b c hp=>hd b ((h.1 i p e hi).2 b c hp)⟩,h.2⟩
def AS.setB (st:AS) (id:Nat) (b:zR):AS:=⟨st.slot,fun k=>bif Nat.beq k id then b else st.box k⟩
theorem xA (st:AS) (id:Nat) (b:zR) (k:Nat):(st.setB id b).box k=if k=id then b else st.box k:=by
 unfold AS.setB
 by_cases e:k=id
 ·subst e;simp
 ·rw [if_neg e];simp only [wV e];rfl
theorem zEn {np:Nat} {st:AS} (fid:Nat) (hu:st.box fid=.unused) (hn:∀ id f,st.box id≠.live (.fam f)):Sub np st (st.setB fid (.live (.fam (.hp [] [])))):=by
 rintro G a w hnp ⟨G',Hd,L,F,T,hT⟩;have hne:=hT.unused fid hu;have hlive:∀ id bx,(st.setB fid (.live (.fam (.hp [] [])))).box id=.live bx->(id=fid/\bx=.fam (.hp [] []))\/(id≠fid/\st.box id=.live bx):=by
  intro id bx h;rw [xA] at h
  by_cases e:id=fid
  ·rw [if_pos e] at h;injection h with h;exact .inl ⟨e,h.symm⟩
  ·rw [if_neg e] at h;exact .inr ⟨e,h⟩
 have himm:∀ b,imm G' st T b->imm G' (st.setB fid (.live (.fam (.hp [] [])))) (T.put fid .nil) b:=by
  intro b hb;refine ⟨hb.1,fun id bx cap hl hTi=>?_⟩;rcases hlive id bx hl with ⟨rfl,_⟩ | ⟨e,h0⟩
  ·rw [Tbl.put_same] at hTi;cases hTi
  ·rw [Tbl.put_ne _ _ e] at hTi;exact hb.2 id bx cap h0 hTi
 have hle:=Tbl.le_put (p:=.nil) hne;refine ⟨G',Hd,L,⟨fun i j f g h1 h2=>?_,fun id f h1=>?_⟩,T.put fid .nil,hT.defers,hT.size,fun t=>(hT.slots t).mono (yI _) (fun _ _ _=>rfl) (fun b hb _=>himm b hb) hle,?_,?_,?_,?_,fun i p hp=>hle _ _ (hT.foot i p hp),hT.kept,fun i p hp=>hle _ _ (hT.pin i p hp)⟩
 ·rcases hlive i _ h1 with ⟨e1,_⟩ | ⟨_,h0⟩
  ·rcases hlive j _ h2 with ⟨e2,_⟩ | ⟨_,h0⟩
   ·rw [e1,e2]
   ·exact absurd h0 (hn j g)
  ·exact absurd h0 (hn i f)
 ·rcases hlive id _ h1 with ⟨_,e2⟩ | ⟨_,h0⟩
  ·injection e2 with e2;subst e2;exact ⟨⟨fun i p e h=>by simp at h,fun i j x y b c c' h=>by simp at h⟩,fun x hx=>by cases hx⟩
  ·exact absurd h0 (hn id f)
 ·intro id bx hl;rcases hlive id bx hl with ⟨rfl,rfl⟩ | ⟨e,h0⟩
  ·exact Tbl.put_same _ _ _
  ·rw [Tbl.put_ne _ _ e];exact (hT.boxes id bx h0).mono (yI _) (fun _ _ _=>rfl) (fun b hb _=>himm b hb) hle (fun _ _ _ _=>rfl)
 ·intro id h;rw [xA] at h
  by_cases e:id=fid
  ·rw [if_pos e] at h;cases h
  ·rw [if_neg e] at h;rw [Tbl.put_ne _ _ e];exact hT.unused id h
 ·intro i j x y b c c' h1 h2 t1 t2;rcases hlive i x h1 with ⟨rfl,_⟩ | ⟨e1,l1⟩
  ·rw [Tbl.put_same] at t1;cases t1
  ·rcases hlive j y h2 with ⟨rfl,_⟩ | ⟨e2,l2⟩
   ·rw [Tbl.put_same] at t2;cases t2
   ·rw [Tbl.put_ne _ _ e1] at t1;rw [Tbl.put_ne _ _ e2] at t2;exact hT.apart i j x y b c c' l1 l2 t1 t2
 ·intro id bx b cap hl hTi hge;rcases hlive id bx hl with ⟨rfl,_⟩ | ⟨e,h0⟩
  ·rw [Tbl.put_same] at hTi;cases hTi
  ·rw [Tbl.put_ne _ _ e] at hTi;exact hT.mine id bx b cap h0 hTi hge
theorem D3 {np:Nat} {st:AS} (fid:Nat) {H H':List (Option wH)} {pins pins':List (Nat×zY)} (hb:st.box fid=.live (.fam (.hp H pins)))
  (h:∀ w I Hd,jO w I Hd H->jO w I Hd H') (hp:∀ x∈pins',x∈pins):Sub np st (st.setB fid (.live (.fam (.hp H' pins')))):=by
 rintro G a w hnp ⟨G',Hd,L,F,T,hT⟩;have key:∀ id f,(st.setB fid (.live (.fam (.hp H' pins')))).box id=.live (.fam f)->id=fid/\f=.hp H' pins':=by
  intro id f hl;rw [xA] at hl
  by_cases e:id=fid
  ·rw [if_pos e] at hl;injection hl with hl;injection hl with hl;exact ⟨e,hl.symm⟩
  ·rw [if_neg e] at hl;exact absurd (F.one id fid f _ hl hb) e
 refine ⟨G',Hd,L,⟨fun i j f g h1 h2=>(key i f h1).1.trans (key j g h2).1.symm,fun id f h1=>?_⟩,T,hT.fam hb rfl fun i=>xA _ _ _ _⟩;obtain ⟨_,rfl⟩:=key id f h1
 have:=F.ok fid _ hb
 exact ⟨h _ _ _ this.1,fun x hx=>this.2 x (hp x hx)⟩
theorem zN0 {H:List (Option wH)}:∀ w I Hd,jO w I Hd H->jO w I Hd (H++[none]):=by
 intro w I Hd h;have key:∀ {i:Nat} {x:wH},(H++[none])[i]?=some (some x)->H[i]?=some (some x):=by
  intro i x hi;rcases zlg i H.length with hlt | hge
  ·rwa [uH hlt] at hi
  ·rw [u4 hge] at hi;cases hk:i - H.length with
   | zero=>rw [hk] at hi;simp at hi
   | succ k=>rw [hk] at hi;simp at hi
 exact ⟨fun i p e hi=>h.1 i p e (key hi),fun i j x y b c c' h1 h2=>h.2 i j x y b c c' (key h1) (key h2)⟩
theorem UJ {np:Nat} {st:AS} (fid:Nat) {H:List (Option wH)} {pins:List (Nat×zY)} (hb:st.box fid=.live (.fam (.hp H pins))):Sub np st (st.setB fid (.live (.fam (.hp (H++[none]) pins)))) :=
 D3 fid hb zN0 fun _ h=>h
theorem zAO {st:AS} (fid k:Nat) {H:List (Option wH)} {pins:List (Nat×zY)} (hb:st.box fid=.live (.fam (.hp H pins))) {bx:Box} (hk:st.box k=.live bx) {G:wQ} {a:Act} {w:World} (hR:vJ G st a w) :
  ∃ p,vJ G (st.setB fid (.live (.fam (.hp H ((k,p)::pins))))) a w:=by
 obtain ⟨G',Hd,L,F,T,hT⟩:=hR;obtain ⟨p,hp⟩:∃ p,T k=some p:=by
  have:=hT.boxes k bx hk
  cases hTk:T k with
  | none=>rw [hTk] at this;exact this.no.elim
  | some p=>exact ⟨p,rfl⟩
 refine ⟨p,{ G' with pin:=fun i=>if i=k then some p else G'.pin i },Hd,⟨L.pin,L.n,L.foot,L.kept,L.I0,L.gift,L.scr,L.hid⟩,?_,T,?_⟩
 ·have key:∀ id f,(st.setB fid (.live (.fam (.hp H ((k,p)::pins))))).box id=.live (.fam f)->id=fid/\f=.hp H ((k,p)::pins):=by
   intro id f hl;rw [xA] at hl
   by_cases e:id=fid
   ·rw [if_pos e] at hl;injection hl with hl;injection hl with hl;exact ⟨e,hl.symm⟩
   ·rw [if_neg e] at hl;exact absurd (F.one id fid f _ hl hb) e
  refine ⟨fun i j f g h1 h2=>(key i f h1).1.trans (key j g h2).1.symm,fun id f h1=>?_⟩;obtain ⟨_,rfl⟩:=key id f h1;have h0:=F.ok fid _ hb;refine ⟨h0.1,fun x hx=>?_⟩;rcases uA.1 hx with rfl | hx
  ·simp
  ·have h1:=h0.2 x hx
   by_cases e:x.1=k
   ·have h2:=hT.pin _ _ h1;rw [e,hp] at h2;simp only [e,if_true];exact h2
   ·simp only [if_neg e];exact h1
 ·have:=hT.fam hb (st2:=st.setB fid (.live (.fam (.hp H ((k,p)::pins))))) rfl fun i=>xA _ _ _ _
  refine ⟨this.defers,this.size,this.slots,this.boxes,this.unused,this.apart,this.mine,this.foot,⟨this.kept.os,this.kept.tape,this.kept.output,this.kept.size,this.kept.block⟩,fun i q hq=>?_⟩
  by_cases e:i=k
  ·subst e;simp only [if_true] at hq;injection hq with hq;subst hq;exact hp
  ·simp only [if_neg e] at hq;exact this.pin i q hq
theorem zAg {P:Program} {N np:Nat} {c:Code} {K:Exit->AS->Prop} {st:AS} (fid k:Nat) {H:List (Option wH)} {pins:List (Nat×zY)} (hb:st.box fid=.live (.fam (.hp H pins))) {bx:Box} (hk:st.box k=.live bx)
  (h:∀ p,AW P N np c K (st.setB fid (.live (.fam (.hp H ((k,p)::pins)))))):AW P N np c K st:=fun G a w hN hnp hR=>by
 obtain ⟨p,hR⟩:=zAO fid k hb hk hR;exact h p G a w hN hnp hR
def AS.setS (st:AS) (d:Nat) (av:AV):AS:=⟨fun k=>bif Nat.beq k d then av else st.slot k,st.box⟩
theorem uF.swap {G:wQ} {st:AS} {T:Tbl} {a:Act} {w:World} (hR:uF G st T a w) {r:Nat} {bx bx':Box} (hb:st.box r=.live bx) (h:uJ w (imm G st T) T (T r) bx'):uF G (st.setB r (.live bx')) T a w:=by
 have hl:∀ i,(∃ x,(st.setB r (.live bx')).box i=.live x)↔∃ x,st.box i=.live x:=by
  intro i;rw [xA]
  by_cases e:i=r
  ·subst e;rw [if_pos rfl,hb];exact ⟨fun _=>⟨_,rfl⟩,fun _=>⟨_,rfl⟩⟩
  ·rw [if_neg e]
 have hi:imm G (st.setB r (.live bx')) T=imm G st T:=by
  funext b
  refine propext ⟨fun hI=>⟨hI.1,fun i x cap h1=>?_⟩,fun hI=>⟨hI.1,fun i x cap h1=>?_⟩⟩
  ·obtain ⟨x',h2⟩:=(hl i).2 ⟨x,h1⟩;exact hI.2 i x' cap h2
  ·obtain ⟨x',h2⟩:=(hl i).1 ⟨x,h1⟩;exact hI.2 i x' cap h2
 refine ⟨hR.defers,hR.size,fun t=>by rw [hi];exact hR.slots t,fun id x h1=>?_,fun id h1=>?_,fun i j x y b c c' h1 h2=>?_,fun id x b cap h1=>?_,hR.foot,hR.kept,hR.pin⟩
 ·rw [hi];rw [xA] at h1
  by_cases e:id=r
  ·rw [if_pos e] at h1;injection h1 with h1;subst h1;subst e;exact h
  ·rw [if_neg e] at h1;exact hR.boxes id x h1
 ·rw [xA] at h1
  by_cases e:id=r
  ·rw [if_pos e] at h1;cases h1
  ·rw [if_neg e] at h1;exact hR.unused id h1
 ·obtain ⟨x',h1'⟩:=(hl i).1 ⟨x,h1⟩;obtain ⟨y',h2'⟩:=(hl j).1 ⟨y,h2⟩;exact hR.apart i j x' y' b c c' h1' h2'
 ·obtain ⟨x',h1'⟩:=(hl id).1 ⟨x,h1⟩;exact hR.mine id x' b cap h1'
theorem MT {st:AS} {r:Nat} {b:zR} (hn:∀ f,b≠.live (.fam f)):∀ id f,(st.setB r b).box id=.live (.fam f)->st.box id=.live (.fam f):=by
 intro id f h;rw [xA] at h
 by_cases e:id=r
 ·rw [if_pos e] at h;exact absurd h (hn f)
 ·rw [if_neg e] at h;exact h
theorem E6 {G:wQ} {Hd:Nat->Prop} {st:AS} {T:Tbl} {a:Act} {w:World} (F:lX G Hd st) (hT:uF G st T a w) {fid k:Nat} {p:zY} {H:List (Option wH)} {pins:List (Nat×zY)} (hb:st.box fid=.live (.fam (.hp H pins))) (hk:(k,p)∈pins):T k=some p :=
 hT.pin k p ((F.ok fid _ hb).2 (k,p) hk)
theorem zEH {np:Nat} {st:AS} (fid t k n:Nat) {p:zY} {H:List (Option wH)} {pins:List (Nat×zY)} (hb:st.box fid=.live (.fam (.hp H pins))) (hk:(k,p)∈pins) (hs:st.slot t=.rawp p n):Sub np st (st.setS t (.own k n)):=by
 rintro G a w hnp ⟨G',Hd,L,F,T,hT⟩;have hTk:=E6 F hT hb hk;refine ⟨G',Hd,L,⟨F.one,F.ok⟩,T,hT.defers,hT.size,fun u=>?_,hT.boxes,hT.unused,hT.apart,hT.mine,hT.foot,hT.kept,hT.pin⟩;have hu:=hT.slots u;unfold AS.setS;simp only;cases e:Nat.beq u t with
 | false=>exact hu
 | true =>
  have e':=wT.1 e;subst e';rw [hs] at hu;exact T4 hTk hu
theorem zMm {np:Nat} {st:AS} (fid t k n:Nat) {p:zY} {H:List (Option wH)} {pins:List (Nat×zY)} (hb:st.box fid=.live (.fam (.hp H pins))) (hk:(k,p)∈pins) (hs:st.slot t=.own k n):Sub np st (st.setS t (.rawp p n)):=by
 rintro G a w hnp ⟨G',Hd,L,F,T,hT⟩;have hTk:=E6 F hT hb hk;refine ⟨G',Hd,L,⟨F.one,F.ok⟩,T,hT.defers,hT.size,fun u=>?_,hT.boxes,hT.unused,hT.apart,hT.mine,hT.foot,hT.kept,hT.pin⟩;have hu:=hT.slots u;unfold AS.setS;simp only;cases e:Nat.beq u t with
 | false=>exact hu
 | true =>
  have e':=wT.1 e;subst e';rw [hs] at hu;exact zB6 hTk hu
theorem K0 {pre post:List AV} {c:AV} {j:Nat} {d:AV} (h:(pre++c::post)[j]?=some d):(j=pre.length/\d=c)\/(j≠pre.length/\∀ c',(pre++c'::post)[j]?=some d):=by
 rcases zlg j pre.length with h1 | h1
 ·right
  refine ⟨by omega,fun c'=>?_⟩;rw [uH h1] at h ⊢;exact h
 ·rw [u4 h1] at h;cases hk:j - pre.length with
  | zero=>rw [hk] at h;simp at h;exact .inl ⟨by omega,h.symm⟩
  | succ m =>
   rw [hk] at h
   right
   refine ⟨by omega,fun c'=>?_⟩;rw [u4 h1,hk];exact h
theorem zKY {np:Nat} {st:AS} (fid r i k n:Nat) (pre post:List AV) {p:zY} {H:List (Option wH)} {pins:List (Nat×zY)} {e:TypeId} {sz:Nat} {l:List AV} {av:AV} (hb:st.box fid=.live (.fam (.hp H pins))) (hk:(k,p)∈pins)
  (hr:st.box r=.live (.row e sz l)) (hi:l[i]?=some av) (hc:av.cells=pre++.rawp p n::post):Sub np st (st.setB r (.live (.rowI e sz l true i (pre++.own k n::post)))):=by
 rintro G a w hnp ⟨G',Hd,L,F,T,hT⟩;have hTk:=E6 F hT hb hk;refine ⟨G',Hd,L,F.less (MT (fun f h=>by injection h with h;cases h)),T,hT.swap hr ?_⟩;have hil:=(vO.1 hi).1;rcases hT.boxes r _ hr with ⟨h1,h2⟩ | ⟨b,cap,C,h1,h2,h3,h4,h5,h6,h7,h8⟩
 ·subst h2;simp at hil
 ·refine .inr ⟨b,cap,C,h1,h2,h3,h4,h5,h6,h7,fun k av j c _ hi hj=>h8 k av j c hi hj,fun _=>⟨hil,?_,?_,?_⟩⟩
  ·have:=h6 av (yN hi)
   rw [hc] at this;simpa using this
  ·intro c hcm;have h7':=h7 av (yN hi);rw [hc] at h7';rcases wL.1 hcm with h | h
   ·exact h7' c (by simp [h])
   ·rcases uA.1 h with rfl | h
    ·rfl
    ·exact h7' c (by simp [h])
  ·intro j c hj;rcases K0 hj with ⟨e1,rfl⟩ | ⟨_,e2⟩
   ·have:=h8 i av j (.rawp p n) hi (by rw [hc,e1];simp)
    exact T4 hTk this
   ·have:=h8 i av j c hi (by rw [hc];exact e2 _)
    exact this.mono (yI _) (fun _ _ _=>rfl) (fun _ h _=>h) (fun _ _ h=>by cases h)
theorem zO0 {np:Nat} {st:AS} (fid r i k n:Nat) (pre post:List AV) (av:AV) {p:zY} {H:List (Option wH)} {pins:List (Nat×zY)} {e:TypeId} {sz:Nat} {l:List AV} (hb:st.box fid=.live (.fam (.hp H pins))) (hk:(k,p)∈pins)
  (hr:st.box r=.live (.rowI e sz l true i (pre++.own k n::post))) (hp:AV.pures pre=true/\AV.pures post=true) (hc:av.cells=pre++.rawp p n::post):Sub np st (st.setB r (.live (.row e sz (l.set i av)))):=by
 rintro G a w hnp ⟨G',Hd,L,F,T,hT⟩;have hTk:=E6 F hT hb hk;refine ⟨G',Hd,L,F.less (MT (fun f h=>by injection h with h;cases h)),T,hT.swap hr ?_⟩;rcases hT.boxes r _ hr with ⟨_,_,h⟩ | ⟨b,cap,C,h1,h2,h3,h4,h5,h6,h7,h8,h9⟩
 ·cases h
 obtain ⟨q1,q2,q3,q4⟩:=h9 rfl;have hone:∀ c∈av.cells,c.one=true:=by
  intro c hcm;rw [hc] at hcm;rcases wL.1 hcm with h | h
  ·exact q3 c (by simp [h])
  ·rcases uA.1 h with rfl | h
   ·rfl
   ·exact q3 c (by simp [h])
 refine .inr ⟨b,cap,C,h1,h2,h3,by rw [kW];exact h4,h5,?_,?_,?_⟩
 ·intro x hx;rcases mY hx with hx | rfl
  ·exact h6 x hx
  ·rw [hc];simpa using q2
 ·intro x hx;rcases mY hx with hx | rfl
  ·exact h7 x hx
  ·exact hone
 ·intro m x j c hm hj;rw [GG] at hm
  by_cases e1:i=m
  ·subst e1;rw [if_pos rfl,if_pos q1] at hm;injection hm with hm;subst hm;rw [hc] at hj;rcases K0 hj with ⟨e2,rfl⟩ | ⟨_,e2⟩
   ·exact zB6 hTk (q4 j (.own k n) (by rw [e2];simp))
   ·have hpc:c.pure=true:=by
     have h0:=e2 .nilp
     have:∀ (l:List AV),AV.pures l=true->∀ c∈l,c.pure=true:=by
      intro l hl c hc;obtain ⟨j,hj⟩:=uG.1 hc;exact AV.pures_get hl hj
     have hm:=yN h0;rcases wL.1 hm with h | h
     ·exact this pre hp.1 c h
     ·rcases uA.1 h with rfl | h
      ·rfl
      ·exact this post hp.2 c h
    exact (q4 j c (e2 _)).bare hpc
  ·rw [if_neg e1] at hm;exact h8 m x j c (fun _ h=>e1 h.symm) hm hj
theorem zCq {w:World} {I:Nat->Prop} {T T':Tbl} {p:Option zY} {x:qD} (h:uJ w I T p x.box):uJ w I T' p x.box:=by cases x<;>exact h
theorem zMM (x:qD) (n:Nat):gY n x.box=true:=by cases x<;>rfl
theorem zGo (x:qD) (ids:List Nat):unB ids x.box=x.box:=by cases x<;>rfl
theorem zEF {x:qD} {f:Fam} (h:x.box=.fam f):False:=by cases x<;>cases h
theorem JW {H:List (Option wH)} {i j:Nat} {r:Option wH} {x:wH} (h:(H.set i r)[j]?=some (some x)):(j=i/\r=some x)\/(j≠i/\H[j]?=some (some x)):=by
 rw [GG] at h
 by_cases e:i=j
 ·subst e;rw [if_pos rfl] at h
  split at h
  ·injection h with h;exact .inl ⟨rfl,h⟩
  ·cases h
 ·rw [if_neg e] at h;exact .inr ⟨fun h=>e h.symm,h⟩
theorem zDY {st:AS} {fid:Nat} (F:∀ id g,st.box id=.live (.fam g)->id=fid) {f':Fam} {st2:AS} (h:∀ id g,st2.box id=.live (.fam g)->(id=fid/\g=f')\/st.box id=.live (.fam g)/\id≠fid):∀ id g,st2.box id=.live (.fam g)->id=fid/\g=f':=by
 intro id g hl;rcases h id g hl with h | ⟨h1,h2⟩
 ·exact h
 ·exact absurd (F id g h1) h2
theorem Q5 {st:AS} (fid k i:Nat) {H:List (Option wH)} {pins:List (Nat×zY)} {p:zY} {e:qD} (hb:st.box fid=.live (.fam (.hp H pins))) (hu:st.box k=.unused) (hi:H[i]?=some (some (p,e))) (hit:e.it=false:=by rfl) :
  Sub 0 st ((st.setB k (.live e.box)).setB fid (.live (.fam (.hp (H.set i none) ((k,p)::pins))))):=by
 rintro G a w hnp ⟨G',Hd,L,F,T,hT⟩;have hf:G.foot=[]:=dN.1 hnp;have hfo:=F.ok fid _ hb;have hHp:=hfo.1;have hkf:k≠fid:=fun h=>by rw [h,hb] at hu;cases hu
 have hI:∀ b,uP G' b->b<G'.w0.heap.size->w.heap[b]?=G'.w0.heap[b]?:=fun b hb _=>fZ hT.kept hb
 have hHd:∀ b,Hd b->w.heap[b]?=G'.w0.heap[b]?:=fun b hb=>gX L hT.kept hb
 have hII:∀ b,uP G' b->b<G'.w0.heap.size->imm G' st T b/\b<w.heap.size:=fun b hb _=>gQ L hf hT hb
 have hHp2:=hHp.move hT.kept.size hI hII hHd (fun _ h=>h);obtain ⟨o1,o2,o3⟩:=YJ (st2:=st.setB k (.live e.box)) (pin:=fun j=>if j=k then some p else G'.pin j) (dst:=none) (vd:=undef) (avd:=.junk) (ids:=[k]) (ps:=[p]) (bs:=[e.box]) L hf hT (by simp [tZ]) rfl rfl
  (fun j hj=>by rw [uO.1 hj];exact hu)
  (fun j bx hj=>by
   cases j with
   | zero=>simp at hj;subst hj;exact zCq ((rW.is hit).1 (hHp2.1 i p e hi).1)
   | succ j=>simp at hj)
  (fun bx hm=>by rw [uO.1 hm];exact zMM e _)
  (fun j b c hp=>by
   cases j with
   | zero=>simp at hp;exact (hHp.1 i p e hi).2 b c hp
   | succ j=>simp at hp)
  (fun j j' b c c' h1 h2=>by
   cases j with
   | succ j=>simp at h1
   | zero=>cases j' with
    | succ j'=>simp at h2
    | zero=>rfl)
  rfl (by funext j;rw [xA];simp only [uM,MB,EG,List.zip_nil_left,zGo,AC]) (fun d h=>by cases h) .junk
  (fun j q hq=>by
   by_cases ej:j=k
   ·subst ej;simp only [if_true] at hq;injection hq with hq;subst hq;simp [aM,Tbl.put_same]
   ·simp only [if_neg ej] at hq;simp only [aM];rw [Tbl.put_ne _ _ ej];exact hT.pin j q hq)
 have hfid:(st.setB k (.live e.box)).box fid=.live (.fam (.hp H pins)):=by rw [xA,if_neg (fun h=>hkf h.symm)];exact hb
 have hF:∀ id g,st.box id=.live (.fam g)->id=fid:=fun id g h=>F.one id fid g _ h hb
 have key:=zDY hF (f':=.hp (H.set i none) ((k,p)::pins)) (st2:=(st.setB k (.live e.box)).setB fid (.live (.fam (.hp (H.set i none) ((k,p)::pins))))) (fun id g h=>by
  rw [xA] at h
  by_cases e1:id=fid
  ·rw [if_pos e1] at h;injection h with h;injection h with h;exact .inl ⟨e1,h.symm⟩
  ·rw [if_neg e1,xA] at h
   by_cases e2:id=k
   ·rw [if_pos e2] at h;injection h with h;exact (zEF h).elim
   ·rw [if_neg e2] at h;exact .inr ⟨h,e1⟩)
 refine ⟨_,_,o1,⟨fun id id' g g' h1 h2=>(key id g h1).1.trans (key id' g' h2).1.symm,fun id g h=>?_⟩,_,o2.fam hfid rfl fun j=>xA _ _ _ _⟩;obtain ⟨_,rfl⟩:=key id g h;refine ⟨⟨fun j q e' hj=>?_,fun j1 j2 x y b c c' h1 h2 t1 t2=>?_⟩,fun x hx=>?_⟩
 ·rcases JW hj with ⟨_,h⟩ | ⟨hne,hj⟩
  ·cases h
  ·have h0:=hHp2.1 j q e' hj;refine ⟨h0.1.mono (yI _) (fun _ _ _=>rfl) (fun b hb _=>o3 b hb) (fun _ _ _=>rfl),fun b c hq=>⟨h0.2 b c hq,fun j' c' hp=>?_⟩⟩;cases j' with
   | zero=>simp at hp;exact hne (hHp.2 j i _ _ b c c' hj hi hq hp)
   | succ j'=>simp at hp
 ·rcases JW h1 with ⟨_,h⟩ | ⟨_,h1⟩
  ·cases h
  ·rcases JW h2 with ⟨_,h⟩ | ⟨_,h2⟩
   ·cases h
   ·exact hHp.2 j1 j2 x y b c c' h1 h2 t1 t2
 ·rcases uA.1 hx with rfl | hx
  ·show (if k=k then some p else _)=_;rw [if_pos rfl]
  ·have h1:=hfo.2 x hx;have hxk:x.1≠k:=fun h=>by
    have:=hT.pin _ _ h1
    rw [h,hT.unused k hu] at this;cases this
   show (if x.1=k then some p else G'.pin x.1)=_;rw [if_neg hxk];exact h1
theorem JJ {st:AS} (fid k i:Nat) {H:List (Option wH)} {pins:List (Nat×zY)} {p:zY} {e:qD} (hb:st.box fid=.live (.fam (.hp H pins))) (hk:(k,p)∈pins) (hr:st.box k=.live e.box) (_hi:H[i]?=some none) (hit:e.it=false:=by rfl) :
  Sub 0 st ((st.setB k .dead).setB fid (.live (.fam (.hp (H.set i (some (p,e))) pins)))):=by
 rintro G a w hnp ⟨G',Hd,L,F,T,hT⟩;have hf:G.foot=[]:=dN.1 hnp;have hTk:=E6 F hT hb hk;have hHp:=(F.ok fid _ hb).1;have hkf:k≠fid:=fun h=>by rw [h,hb] at hr;injection hr with hr;exact zEF hr.symm
 have hI:∀ b,uP G' b->b<G'.w0.heap.size->w.heap[b]?=G'.w0.heap[b]?:=fun b hb _=>fZ hT.kept hb
 have hHd:∀ b,Hd b->w.heap[b]?=G'.w0.heap[b]?:=fun b hb=>gX L hT.kept hb
 have hII:∀ b,uP G' b->b<G'.w0.heap.size->imm G' st T b/\b<w.heap.size:=fun b hb _=>gQ L hf hT hb
 have hHp2:=hHp.move hT.kept.size hI hII hHd (fun _ h=>h);obtain ⟨o1,o2,o3⟩:=ZF (st2:=st.setB k .dead) (ids:=[k]) (w2:=w) L hf hT (fun j hj=>⟨e.box,by rw [uO.1 hj];exact hr⟩) rfl rfl rfl (yI _) (fun _ _ _=>rfl) rfl (fun j=>by rw [xA];simp only [uO]) (pin:=G'.pin) (hpin:=hT.pin);have hfid:(st.setB k .dead).box fid=.live (.fam (.hp H pins)):=by rw [xA,if_neg (fun h=>hkf h.symm)];exact hb
 have hF:∀ id g,st.box id=.live (.fam g)->id=fid:=fun id g h=>F.one id fid g _ h hb
 have key:=zDY hF (f':=.hp (H.set i (some (p,e))) pins) (st2:=(st.setB k .dead).setB fid (.live (.fam (.hp (H.set i (some (p,e))) pins)))) (fun id g h=>by
  rw [xA] at h
  by_cases e1:id=fid
  ·rw [if_pos e1] at h;injection h with h;injection h with h;exact .inl ⟨e1,h.symm⟩
  ·rw [if_neg e1,xA] at h
   by_cases e2:id=k
   ·rw [if_pos e2] at h;cases h
   ·rw [if_neg e2] at h;exact .inr ⟨h,e1⟩)
 have hrow:uJ w (imm G' st T) T (some p) e.box:=by have:=hT.boxes k _ hr;rwa [hTk] at this
 refine ⟨_,_,o1,⟨fun id id' g g' h1 h2=>(key id g h1).1.trans (key id' g' h2).1.symm,fun id g h=>?_⟩,_,o2.fam hfid rfl fun j=>xA _ _ _ _⟩;obtain ⟨_,rfl⟩:=key id g h;refine ⟨⟨fun j q e' hj=>?_,fun j1 j2 x y b c c' h1 h2 t1 t2=>?_⟩,(F.ok fid _ hb).2⟩
 ·rcases JW hj with ⟨_,h⟩ | ⟨_,hj⟩
  ·injection h with h;injection h with h1 h2;subst h1;subst h2;exact ⟨(rW.is hit).2 (zCq (hrow.mono (yI _) (fun _ _ _=>rfl) (fun b hb hlt=>o3 b ⟨hb,hlt⟩) (fun _ _ h=>h) (fun _ _ _ _=>rfl))),fun b c hq=>.inr ⟨k,by simp,c,by rw [hTk,hq]⟩⟩
  ·have h0:=hHp2.1 j q e' hj;exact ⟨h0.1.mono (yI _) (fun _ _ _=>rfl) (fun b hb _=>o3 b hb) (fun _ _ _=>rfl),fun b c hq=>.inl (h0.2 b c hq)⟩
 ·have hnl:∀ b c,p=.at b c->¬ Hd b:=fun b c hp=>nP L hf hT hr (by rw [hTk,hp])
  rcases JW h1 with ⟨e1,q1⟩ | ⟨e1,h1⟩<;>rcases JW h2 with ⟨e2,q2⟩ | ⟨e2,h2⟩
  ·rw [e1,e2]
  ·injection q1 with q1;subst q1;exact absurd ((hHp.1 j2 y.1 y.2 h2).2 b c' t2) (hnl b c t1)
  ·injection q2 with q2;subst q2;exact absurd ((hHp.1 j1 x.1 x.2 h1).2 b c t1) (hnl b c' t2)
  ·exact hHp.2 j1 j2 x y b c c' h1 h2 t1 t2
inductive Fz (H:List (Option wH)):AV->AV->Prop
 | same (c:AV):Fz H c c
 | row (i:Nat) {p:zY} {e:TypeId} {sz:Nat} {l l':List AV}:H[i]?=some (some (p,.row e sz l))->l'.length=l.length ->
   (∀ (k:Nat) (av av':AV),l[k]?=some av->l'[k]?=some av'->av'.cells.length=av.cells.length) ->
   (∀ (k:Nat) (av av':AV),l[k]?=some av->l'[k]?=some av'->∀ (j:Nat) (c c':AV),av.cells[j]?=some c->av'.cells[j]?=some c'->Fz H c c')->Fz H (.rawp p l.length) (.sl false sz l')
 | ref {av av':AV}:av'.cells.length=av.cells.length->(∀ (j:Nat) (c c':AV),av.cells[j]?=some c->av'.cells[j]?=some c'->Fz H c c')->Fz H (.ref av) (.ref av')
 | agg {cs cs':List AV}:cs'.length=cs.length->(∀ (j:Nat) (c c':AV),cs[j]?=some c->cs'[j]?=some c'->Fz H c c')->Fz H (.agg cs) (.agg cs')
 | tuple {cs cs':List AV}:cs'.length=cs.length->(∀ (j:Nat) (c c':AV),cs[j]?=some c->cs'[j]?=some c'->Fz H c c')->Fz H (.tuple cs) (.tuple cs')
theorem Fz.one {H:List (Option wH)} {c c':AV} (h:Fz H c c') (h1:c.one=true):c'.one=true:=by
 cases h with
 | same=>exact h1
 | row=>rfl
 | ref=>rfl
 | agg=>cases h1
 | tuple=>cases h1
theorem fO {α:Type} {l l':List α} (h:l'.length=l.length) {j:Nat} {x:α} (hj:l'[j]?=some x):∃ y,l[j]?=some y :=
 ⟨_,w7 (by rw [<- h];exact (vO.1 hj).1)⟩
theorem UC {w:World} {I J:Nat->Prop} {T T':Tbl} {p:Option zY} {e:TypeId} {sz:Nat} {l l':List AV} (h:uJ w I T p (.row e sz l)) (hl:l'.length=l.length)
  (hc:∀ (k:Nat) (av av':AV),l[k]?=some av->l'[k]?=some av'->av'.cells.length=av.cells.length)
  (h1:∀ (k:Nat) (av av':AV),l[k]?=some av->l'[k]?=some av'->∀ (j:Nat) (c c':AV),av.cells[j]?=some c->av'.cells[j]?=some c'->c.one=true->c'.one=true)
  (hf:∀ (k:Nat) (av av':AV),l[k]?=some av->l'[k]?=some av'->∀ (j:Nat) (c c':AV),av.cells[j]?=some c->av'.cells[j]?=some c'->∀ v,Rep w I Tbl.empty v c->Rep w J Tbl.empty v c'):uJ w J T' p (.row e sz l'):=by
 rcases h with ⟨q1,q2⟩ | ⟨b,cap,C,q1,q2,q3,q4,q5,q6,q7,q8⟩
 ·subst q2;exact .inl ⟨q1,dN.1 hl⟩
 ·refine .inr ⟨b,cap,C,q1,q2,q3,by rw [hl];exact q4,q5,?_,?_,?_⟩
  ·intro av' hav;obtain ⟨i,hi⟩:=uG.1 hav;obtain ⟨av,h0⟩:=fO hl hi;rw [hc i av av' h0 hi];exact q6 av (yN h0)
  ·intro av' hav c' hc';obtain ⟨i,hi⟩:=uG.1 hav;obtain ⟨av,h0⟩:=fO hl hi;obtain ⟨j,hj⟩:=uG.1 hc';obtain ⟨c,hcj⟩:=fO (hc i av av' h0 hi) hj;exact h1 i av av' h0 hi j c c' hcj hj (q7 av (yN h0) c (yN hcj))
  ·intro i av' j c' hi hj;obtain ⟨av,h0⟩:=fO hl hi;obtain ⟨c,hcj⟩:=fO (hc i av av' h0 hi) hj;exact hf i av av' h0 hi j c c' hcj hj _ (q8 i av j c h0 hcj)
theorem Fz.rep {w:World} {I J Hd:Nat->Prop} {H:List (Option wH)} (h:jO w I Hd H) (hI:∀ b,I b->b<w.heap.size->J b) (hJ:∀ b,Hd b->J b) {c c':AV} (hc:Fz H c c'):∀ {T:Tbl} {v:Value},Rep w I T v c->Rep w J T v c':=by
 induction hc with
 | same c=>intro T v hr;exact hr.mono (yI _) (fun _ _ _=>rfl) hI (fun _ _ h=>h)
 | @row i p e sz l l' hi hl hcl hf ih =>
  intro T v hr;obtain ⟨k1,k2⟩:=h.1 i p _ hi;have k3:uJ w J T (some p) (.row e sz l'):=UC (T:=Tbl.empty) k1 hl hcl (fun k av av' h1 h2 j c c' h3 h4=>(hf k av av' h1 h2 j c c' h3 h4).one) (fun k av av' h1 h2 j c c' h3 h4 v hr=>ih k av av' h1 h2 j c c' h3 h4 hr);rw [<- hl] at hr;generalize hn:l'.length=n at hr;cases hr with
  | rawp0 =>
   have:l'=[]:=dN.1 hn
   subst this;exact .sl0 (by decide) (by intro h;cases h)
  | rawp h1 h2 =>
   subst hn;exact zA0 k3 (fun _ h _=>h) (hJ _ (k2 _ _ rfl)) h1 h2
 | @ref av av' hl hf ih =>
  intro T v hr;cases hr with
  | ref g h1 h2 h3 h4 h5 =>
   refine .ref g (hI _ h1 h2) h2 ?_ ?_ ?_
   ·intro c' hc';obtain ⟨j,hj⟩:=uG.1 hc';obtain ⟨c,hcj⟩:=fO hl hj;exact (hf j c c' hcj hj).one (h3 c (yN hcj))
   ·intro j c' hj;obtain ⟨c,hcj⟩:=fO hl hj;exact h4 j c hcj
   ·intro j c' hj;obtain ⟨c,hcj⟩:=fO hl hj;exact ih j c c' hcj hj (h5 j c hcj)
 | @agg cs cs' hl hf ih =>
  intro T v hr;cases hr with
  | agg h1 h2 h3 =>
   refine .agg (h1.trans hl.symm) ?_ ?_
   ·intro c' hc';obtain ⟨j,hj⟩:=uG.1 hc';obtain ⟨c,hcj⟩:=fO hl hj;exact (hf j c c' hcj hj).one (h2 c (yN hcj))
   ·intro j c' hj;obtain ⟨c,hcj⟩:=fO hl hj;exact ih j c c' hcj hj (h3 j c hcj)
 | @tuple cs cs' hl hf ih =>
  intro T v hr;cases hr with
  | tuple h1 h3 =>
   refine .tuple (h1.trans hl.symm) ?_;intro j c' hj;obtain ⟨c,hcj⟩:=fO hl hj;exact ih j c c' hcj hj (h3 j c hcj)
inductive FzB (H:List (Option wH)):Box->Box->Prop
 | same (bx:Box):FzB H bx bx
 | var {t:TypeId} {cs cs':List AV}:cs'.length=cs.length->(∀ (j:Nat) (c c':AV),cs[j]?=some c->cs'[j]?=some c'->Fz H c c')->FzB H (.var t cs) (.var t cs')
 | row {e:TypeId} {sz:Nat} {l l':List AV}:l'.length=l.length->(∀ (k:Nat) (av av':AV),l[k]?=some av->l'[k]?=some av'->av'.cells.length=av.cells.length) ->
   (∀ (k:Nat) (av av':AV),l[k]?=some av->l'[k]?=some av'->∀ (j:Nat) (c c':AV),av.cells[j]?=some c->av'.cells[j]?=some c'->Fz H c c')->FzB H (.row e sz l) (.row e sz l')
theorem FzB.nf {H:List (Option wH)} {x y:Box} (h:FzB H x y):y.nf=x.nf:=by cases h<;>rfl
theorem FzB.ok {w:World} {I J Hd:Nat->Prop} {H:List (Option wH)} (h:jO w I Hd H) (hI:∀ b,I b->b<w.heap.size->J b) (hJ:∀ b,Hd b->J b) {x y:Box} (hc:FzB H x y) {T:Tbl} {p:Option zY} (hx:uJ w I T p x):uJ w J T p y:=by
 cases hc with
 | same=>exact hx.mono (yI _) (fun _ _ _=>rfl) hI (fun _ _ h=>h) (fun _ _ _ _=>rfl)
 | var hl hf =>
  obtain ⟨b,C,h1,h2,h3,h4,h5⟩:=hx;refine ⟨b,C,h1,h2,h3.trans hl.symm,?_,?_⟩
  ·intro c' hc';obtain ⟨j,hj⟩:=uG.1 hc';obtain ⟨c,hcj⟩:=fO hl hj;exact (hf j c c' hcj hj).one (h4 c (yN hcj))
  ·intro j c' hj;obtain ⟨c,hcj⟩:=fO hl hj;exact (hf j c c' hcj hj).rep h hI hJ (h5 j c hcj)
 | row hl hcl hf=>exact UC hx hl hcl (fun k av av' h1 h2 j c c' h3 h4=>(hf k av av' h1 h2 j c c' h3 h4).one) (fun k av av' h1 h2 j c c' h3 h4 v hr=>(hf k av av' h1 h2 j c c' h3 h4).rep h hI hJ hr)
theorem U2 {st st2:AS} (fid:Nat) {H:List (Option wH)} {pins:List (Nat×zY)} (hb:st.box fid=.live (.fam (.hp H pins))) (hs:∀ t,Fz H (st.slot t) (st2.slot t)) (h2:st2.box fid=.dead)
  (hx:∀ id,id≠fid->(∃ x y,st.box id=.live x/\st2.box id=.live y/\FzB H x y)\/(st2.box id=st.box id/\∀ x,st.box id≠.live x)):Sub 0 st st2:=by
 rintro G a w hnp ⟨G',Hd,L,F,T,hT⟩;have hf:G.foot=[]:=dN.1 hnp;have hHp:=(F.ok fid _ hb).1;have hI:∀ b,uP G' b->b<G'.w0.heap.size->w.heap[b]?=G'.w0.heap[b]?:=fun b hb _=>fZ hT.kept hb
 have hHd:∀ b,Hd b->w.heap[b]?=G'.w0.heap[b]?:=fun b hb=>gX L hT.kept hb
 have hII:∀ b,uP G' b->b<G'.w0.heap.size->imm G' st T b:=fun b hb _=>(gQ L hf hT hb).1
 have hHp2:=hHp.move (I':=imm G' st T) hT.kept.size hI hII hHd (fun _ h=>h);have hlive2:∀ id bx,st2.box id=.live bx->id≠fid/\∃ x,st.box id=.live x/\FzB H x bx:=by
  intro id bx h
  by_cases e:id=fid
  ·rw [e,h2] at h;cases h
  ·refine ⟨e,?_⟩;rcases hx id e with ⟨x,y,h3,h4,h5⟩ | ⟨h3,h4⟩
   ·rw [h4] at h;injection h with h;subst h;exact ⟨x,h3,h5⟩
   ·rw [h3] at h;exact absurd h (h4 bx)
 have hImm:∀ b,imm G' st T b->b<w.heap.size->(imm G' st T b/\b<w.heap.size)\/Hd b:=fun b h1 h2=>.inl ⟨h1,h2⟩
 obtain ⟨o1,o2,_⟩:=CK (Hd2:=fun _=>False) (J:=fun b=>(imm G' st T b/\b<w.heap.size)\/Hd b) (st2:=st2) (T2:=T) (a2:=a) (w2:=w) (pin:=fun _=>none) L hf hT rfl rfl rfl (yI _) (fun _ _ _=>rfl) hT.defers (by rw [hT.size,L.n])
  (fun b hb=>by
   rcases hb with ⟨hb,hlt⟩ | hb
   ·refine ⟨(L.imm hb).1,hlt,fun h=>h,fun id bx cap hl hTi=>?_⟩;obtain ⟨_,x,h0,_⟩:=hlive2 id bx hl;exact hb.2 id x cap h0 hTi
   ·refine ⟨.inr (L.hid b hb).2.1,kZ (L.hid b hb).1 hT.kept.size,fun h=>h,fun id bx cap hl hTi=>?_⟩;obtain ⟨_,x,h0,_⟩:=hlive2 id bx hl;exact nP L hf hT h0 hTi hb)
  (fun t=>(hs t).rep hHp2 hImm (fun b hb=>.inr hb) (hT.slots t))
  (fun id bx hl=>by
   obtain ⟨_,x,h0,h1⟩:=hlive2 id bx hl;exact h1.ok hHp2 hImm (fun b hb=>.inr hb) (hT.boxes id x h0))
  (fun id h=>by
   by_cases e:id=fid
   ·rw [e,h2] at h;cases h
   ·rcases hx id e with ⟨x,y,h3,h4,h5⟩ | ⟨h3,_⟩
    ·rw [h4] at h;cases h
    ·rw [h3] at h;exact hT.unused id h)
  (fun id id' bx bx' b cap cap' h1 h2 t1 t2=>by
   obtain ⟨_,x,l1,_⟩:=hlive2 id bx h1;obtain ⟨_,y,l2,_⟩:=hlive2 id' bx' h2;exact hT.apart id id' x y b cap cap' l1 l2 t1 t2)
  (fun id bx b cap h1 t1=>by
   obtain ⟨_,x,l1,_⟩:=hlive2 id bx h1;exact ⟨L.mine (hT.mine id x b cap l1 t1 (by rw [L.foot,hf];exact wI _)),fun h=>h⟩)
  (fun i p hp=>by cases hp) (fun b hb=>hb.elim)
 have hno:∀ id f,st2.box id≠.live (.fam f):=by
  intro id f h;obtain ⟨h1,x,h3,h4⟩:=hlive2 id _ h
  have:=h4.nf
  cases x with
  | fam g=>exact h1 (F.one id fid g _ h3 hb)
  | _=>simp [Box.nf] at this
 exact ⟨_,_,o1,⟨fun id _ f _ h=>absurd h (hno id f),fun id f h=>absurd h (hno id f)⟩,T,o2⟩
theorem DY {P:Program} {N np:Nat} {c:Code} {K:Exit->AS->Prop} {st:AS} (fid:Nat) {Q:List (Option wH)->Prop} (hb:st.box fid=.live (.fam (.hpx Q)))
  (h:∀ H,Q H->AW P N np c K (st.setB fid (.live (.fam (.hp H []))))):AW P N np c K st:=by
 rintro G a w hN hnp ⟨G',Hd,L,F,T,hT⟩;obtain ⟨H,hQ,hH⟩:=F.ok fid _ hb;refine h H hQ G a w hN hnp ⟨G',Hd,L,⟨?_,?_⟩,T,hT.fam hb rfl fun i=>xA _ _ _ _⟩
 all_goals
  have key:∀ id f,(st.setB fid (.live (.fam (.hp H [])))).box id=.live (.fam f)->id=fid/\f=.hp H []:=by
   intro id f hl;rw [xA] at hl
   by_cases e:id=fid
   ·rw [if_pos e] at hl;injection hl with hl;injection hl with hl;exact ⟨e,hl.symm⟩
   ·rw [if_neg e] at hl;exact absurd (F.one id fid f _ hl hb) e
 ·exact fun i j f g h1 h2=>(key i f h1).1.trans (key j g h2).1.symm
 ·intro id f h1;obtain ⟨_,rfl⟩:=key id f h1;exact ⟨hH,fun x hx=>by cases hx⟩
def zF0 (P:Program) (fn:Func) (Q:List (Option wH)->Prop) (res:AV) (e:Exit) (st:AS):Prop :=
 (e=.normal\/e=.ret)/\∃ (fid:Nat) (vs:List AV),st.box fid=.live (.fam (.hpx Q))/\o7 P st fn.results.toList=some vs/\AZ vs=res/\res.pure=true
theorem ZJ {P:Program} {f:FuncId} {fn:Func} {code:Code} {args:List AV} {H:List (Option wH)} {Q:List (Option wH)->Prop} {res:AV} (hf:P.funcs[f]?=some fn) (hb:fn.body=some code) (hl:args.length<=fn.ntmps)
  (h:AW P fn.ntmps 0 code (zF0 P fn Q res) (mk (aJ args) [(0,.live (.fam (.hp H [])))] 1)):CN P f args H Q res:=by
 intro w I Hd vals hI hHd hH hvs hvals
 let G:wQ:={ w0:=w,I0:=I,foot:=[],n:=fn.ntmps,gift:=Hd }
 let G':wQ:={ w0:=w,I0:=I,foot:=[],n:=fn.ntmps }
 have hno:∀ b,¬ G'.has b:=by rintro b ⟨c,hc⟩;cases hc
 have hL:jU G G' Hd:=⟨fun _=>rfl,rfl,rfl,⟨rfl,rfl,rfl,yI _,fun _ _ _ _=>rfl⟩,fun b hb=>.inl hb,fun b hb=>hb.elim,fun b hb=>hb,fun b hb=>⟨hHd b hb,.inr hb,fun h=>(hI b h).2 hb,fun h=>h.elim,fun h=>h.elim,hno b⟩⟩;have hbox:∀ i,(mk (aJ args) [(0,.live (.fam (.hp H [])))] 1).box i=if i=0 then .live (.fam (.hp H [])) else .unused:=by
  intro i;simp only [mk];rw [AC]
  by_cases e:i=0
  ·rw [if_pos e,if_pos e]
  ·rw [if_neg e,if_neg e]
   have:Nat.blt i 1=false:=by
    cases h:Nat.blt i 1
    ·rfl
    ·simp [Nat.blt] at h;omega
   rw [this];rfl
 have hlive:∀ i bx,(mk (aJ args) [(0,.live (.fam (.hp H [])))] 1).box i=.live bx->i=0/\bx=.fam (.hp H []):=by
  intro i bx h;rw [hbox] at h
  by_cases e:i=0
  ·rw [if_pos e] at h;injection h with h;exact ⟨e,h.symm⟩
  ·rw [if_neg e] at h;cases h
 let T:Tbl:=fun i=>if i=0 then some .nil else none
 have hT0:∀ i b c,T i≠some (.at b c):=by
  intro i b c h;simp only [T] at h
  split at h
  ·cases h
  ·cases h
 have himm:∀ b,I b->imm G' (mk (aJ args) [(0,.live (.fam (.hp H [])))] 1) T b:=fun b hb=>⟨.inl hb,fun i bx c _=>hT0 i b c⟩
 have hR:uF G' (mk (aJ args) [(0,.live (.fam (.hp H [])))] 1) T { tmps:=vals++Array.replicate (fn.ntmps - vals.size) undef,defers:=[] } w:=by
  refine ⟨rfl,?_,?_,?_,?_,?_,?_,fun i p hp=>(by cases hp),⟨rfl,rfl,rfl,yI _,fun _ _ _ _=>rfl⟩,fun i p hp=>(by cases hp)⟩
  ·simp [G'];omega
  ·intro t;have e1:(mk (aJ args) [(0,.live (.fam (.hp H [])))] 1).slot t=args.getD t .junk:=by
    simp only [mk,aJ];rw [zFG 0 t];simp
   rw [e1];cases ha:args[t]? with
   | none=>simp only [List.getD,ha,Option.getD_none];exact .junk
   | some av =>
    have hlt:t<vals.size:=by
     rw [hvs];exact (vO.1 ha).1
    have e2:(vals++Array.replicate (fn.ntmps - vals.size) undef).getD t undef=vals.getD t undef:=by
     simp only [bG];rw [LF hlt]
    simp only [List.getD,ha,jE];rw [e2];exact (hvals t av ha).mono (yI _) (fun _ _ _=>rfl) (fun b hb' _=>himm b hb') (fun _ _ h=>by cases h)
  ·intro i bx hl';obtain ⟨rfl,rfl⟩:=hlive i bx hl';rfl
  ·intro i hu;rw [hbox] at hu
   by_cases e:i=0
   ·rw [if_pos e] at hu;cases hu
   ·show (if i=0 then some zY.nil else none)=none;rw [if_neg e]
  ·intro i j x y b c c' _ _ h1 _;exact absurd h1 (hT0 i b c)
  ·intro i bx b c _ h1 _;exact absurd h1 (hT0 i b c)
 have hstill:∀ b,I b->uP G' b:=fun b hb=>⟨hb,(hI b hb).1,hno b,fun h=>h.elim,fun h=>h.elim⟩
 have hF:lX G' Hd (mk (aJ args) [(0,.live (.fam (.hp H [])))] 1):=by
  refine ⟨fun i j f g h1 h2=>(hlive i _ h1).1.trans (hlive j _ h2).1.symm,fun i f h1=>?_⟩
  have:=(hlive i _ h1).2
  injection this with this;subst this;exact ⟨hH.move (yI _) (fun _ _ _=>rfl) (fun b hb _=>hstill b hb) (fun _ _=>rfl) (fun _ h=>h),fun x hx=>by cases hx⟩
 refine calls_of_wp hf hb (GD ?_ (h G _ w rfl rfl ⟨G',Hd,hL,hF,T,hR⟩));rintro e a' w' ⟨st',⟨he,fid,vs,hfid,hres,rfl,hpure⟩,G2,Hd2,L2,F2,T2,hT2⟩;obtain ⟨H',hQ,hH'⟩:=F2.ok fid _ hfid;have hk:=L2.keeps hT2.kept;have hfinal:a'.defers=[]/\∃ v,(results fn a'.tmps).run P w'=.ok v w'/\∃ (v':Value) (H':List (Option (wH))) (I' Hd':Nat->Prop),Ending.returned v=.returned v'/\w'.os=w.os/\w'.tape=w.tape/\w'.output=w.output/\w.heap.size<=w'.heap.size /\
   (∀ b,b<w.heap.size->¬ Hd b->w'.heap[b]?=w.heap[b]?)/\(∀ b,Hd' b->b<w'.heap.size/\(Hd b\/w.heap.size<=b)/\¬ I b) /\
   (∀ b,I' b->b<w'.heap.size/\¬ Hd' b/\(I b\/Hd b\/w.heap.size<=b))/\Rep w' I' Tbl.empty v' (AZ vs)/\Q H'/\jO w' I' Hd' H':=by
  refine ⟨hT2.defers,?_⟩;obtain ⟨v,hrun,hrep⟩:=zE9 hT2 hres;refine ⟨v,hrun,v,H',fun b=>imm G2 st' T2 b/\b<w'.heap.size,Hd2,rfl,hk.os,hk.tape,hk.output,hk.size,?_,?_,?_,?_,hQ,?_⟩
  ·exact fun b hb hn=>hk.block b hb (by rintro ⟨c,hc⟩;cases hc) (fun h=>by rcases h with h | h;exact hn h;exact h)
  ·intro b hb;obtain ⟨h1,h2,_⟩:=L2.hid b hb;refine ⟨kZ h1 hT2.kept.size,?_,fun h=>?_⟩
   ·rcases h2 with h2 | h2
    ·exact .inr h2
    ·exact .inl h2
   ·rcases h2 with h2 | h2
    ·have h3:w.heap.size<=b:=h2
     have:=(hI b h).1
     omega
    ·exact (hI b h).2 h2
  ·rintro b ⟨hb,hlt⟩;refine ⟨hlt,fun h=>g9 L2 h hb,?_⟩;rcases (L2.imm hb).1 with h | h | h
   ·exact .inl h
   ·exact .inr (.inr h)
   ·exact .inr (.inl h)
  ·exact (hrep.mono (yI _) (fun _ _ _=>rfl) (fun b hb hlt=>⟨hb,hlt⟩) (fun _ _ h=>h)).bare hpure
  ·exact hH'.move hT2.kept.size (fun b hb _=>fZ hT2.kept hb) (fun b hb _=>gQ L2 rfl hT2 hb) (fun b hb=>gX L2 hT2.kept hb) (fun _ h=>h)
 rcases he with rfl | rfl
 ·exact hfinal
 ·exact hfinal
theorem aX {i m:Nat}:Nat.blt i m=decide (i<m):=by
 by_cases hh:i<m
 ·rw [decide_eq_true hh];simp [Nat.blt];omega
 ·rw [decide_eq_false hh];cases h':Nat.blt i m
  ·rfl
  ·simp [Nat.blt] at h';omega
theorem jX:∀ (bx:List (Nat×zR)) (i:Nat) (d:zR) (v:Box),yJ bx i .dead=.live v->yJ bx i d=.live v
 | [],_,_,_,h=>by cases h
 | (y1,y2)::r,i,d,v,h=>by
  rw [yJ] at h ⊢;cases hh:Nat.beq i y1 with
  | true=>rw [hh] at h;exact h
  | false=>rw [hh] at h;exact jX r i d v h
structure NE where
 pre:List AV:=[]
 post:List AV:=[]
 r:List AV
def NE.el (ag:Bool) (x:NE) (c:AV):AV:=bif ag then .agg (x.pre++c::x.post) else c
def NE.p1 (ag:Bool) (x:NE):List AV:=bif ag then x.pre else []
def NE.p2 (ag:Bool) (x:NE):List AV:=bif ag then x.post else []
theorem NE.cells {ag:Bool} {x:NE} {p:zY} {n:Nat}:(x.el ag (.rawp p n)).cells=x.p1 ag++.rawp p n::x.p2 ag:=by cases ag<;>rfl
def nrC (ag:Bool) (P:List zY) (xs:List NE):List AV:=List.zipWith (fun q x=>x.el ag (.rawp q x.r.length)) P xs
def nrR (ti:TypeId) (sz:Nat) (P:List zY) (xs:List NE):List (Option wH):=List.zipWith (fun q x=>some (q,qD.row ti sz x.r)) P xs
def nrH (p:zY) (tn:TypeId) (osz:Nat) (ag:Bool) (ti:TypeId) (sz:Nat) (P:List zY) (xs:List NE) (tl:List (Option wH)):List (Option wH):=some (p,qD.row tn osz (nrC ag P xs))::(nrR ti sz P xs++tl)
def NR (p:zY) (tn:TypeId) (osz:Nat) (ag:Bool) (ti:TypeId) (sz:Nat) (xs:List NE) (tl H:List (Option wH)):Prop:=∃ P:List zY,P.length=xs.length/\H=nrH p tn osz ag ti sz P xs tl
theorem l5 {α β γ:Type} {f:α->β->γ} {l:List α} {m:List β} {k:Nat} {a:α} {b:β} (h1:l[k]?=some a) (h2:m[k]?=some b):(List.zipWith f l m)[k]?=some (f a b):=by
 rw [TG,h1,h2]
theorem R0 {α β γ:Type} {f:α->β->γ} {a:α} {b:β}:∀ {l:List α} {m:List β} {k:Nat},l.length=m.length->(List.zipWith f l m).set k (f a b)=List.zipWith f (l.set k a) (m.set k b)
 | [],[],_,_=>rfl
 | _::_,_::_,0,_=>rfl
 | _::r,_::s,k+1,h=>by
  simp only [W3,MU];rw [R0 (by simpa using h)]
theorem set_set {α:Type} {a b:α} (l:List α) (k:Nat):(l.set k a).set k b=l.set k b:=by simp
section
variable {p:zY} {tn:TypeId} {osz:Nat} {ag:Bool} {ti:TypeId} {sz:Nat} {P:List zY} {xs:List NE} {k:Nat} {x:NE} {q:zY} {tl:List (Option wH)}
def nrO (tn:TypeId) (osz:Nat) (ag:Bool) (P:List zY) (xs:List NE) (k b:Nat) (x:NE):Box:=.rowI tn osz (nrC ag P xs) true k (x.p1 ag++.own b x.r.length::x.p2 ag)
def nrG (ti:TypeId) (sz:Nat) (P:List zY) (xs:List NE) (k:Nat) (tl:List (Option wH)):List (Option wH):=none::(nrR ti sz P xs++tl).set k none
theorem zH1 {st:AS} (fid a b k:Nat) (hb:st.box fid=.live (.fam (.hp (nrH p tn osz ag ti sz P xs tl) []))) (ha:st.box a=.unused) (hb':st.box b=.unused) (hab:b≠a) (hx:xs[k]?=some x) (hq:P[k]?=some q) :
  Sub 0 st (((((st.setB a (.live (.row tn osz (nrC ag P xs)))).setB fid (.live (.fam (.hp (none::(nrR ti sz P xs++tl)) [(a,p)])))).setB b (.live (.row ti sz x.r))).setB fid (.live (.fam (.hp (nrG ti sz P xs k tl) [(b,q),(a,p)])))).setB a (.live (nrO tn osz ag P xs k b x))):=by
 have hfa:fid≠a:=fun h=>by rw [h,ha] at hb;cases hb
 have hfb:fid≠b:=fun h=>by rw [h,hb'] at hb;cases hb
 refine Sub.trans (Q5 fid a 0 hb ha rfl) ?_;refine Sub.trans (Q5 fid b (k+1) (H:=none::(nrR ti sz P xs++tl)) (pins:=[(a,p)]) (p:=q) (e:=.row ti sz x.r) (by rw [xA,if_pos rfl];rfl) ?_ ?_) ?_
 ·rw [xA,if_neg (fun h=>hfb h.symm),xA,if_neg hab];exact hb'
 ·rw [pJ,uH]
  ·exact l5 hq hx
  ·exact (vO.1 (l5 (f:=fun q (x:NE)=>some (q,qD.row ti sz x.r)) hq hx)).1
 refine zKY fid a k b x.r.length (x.p1 ag) (x.p2 ag) (p:=q) (H:=nrG ti sz P xs k tl) (pins:=[(b,q),(a,p)]) (by rw [xA,if_pos rfl];rfl) (by simp) (l:=nrC ag P xs) (av:=x.el ag (.rawp q x.r.length)) ?_ (l5 hq hx) NE.cells;rw [xA,if_neg hfa.symm,xA,if_neg hab.symm,xA,if_neg hfa.symm,xA,if_pos rfl];rfl
theorem zGP {Pr:Program} {N:Nat} {c:Code} {K:Exit->AS->Prop} {sl:List (Nat×AV)} {bx:List (Nat×zR)} {n:Nat} (fid k:Nat) (hb:yJ bx fid .dead=.live (.fam (.hp (nrH p tn osz ag ti sz P xs tl) []))) (hbx:(bx.all fun y=>Nat.blt y.1 n)=true) (hx:xs[k]?=some x) (hq:P[k]?=some q)
  (h:AW Pr N 0 c K (mk sl ((n,.live (nrO tn osz ag P xs k (n+1) x))::(n+1,.live (.row ti sz x.r))::(fid,.live (.fam (.hp (nrG ti sz P xs k tl) [(n+1,q),(n,p)])))::bx) (n+2))):AW Pr N 0 c K (mk sl bx n):=by
 have hlt:∀ (bx:List (Nat×zR)),(bx.all fun y=>Nat.blt y.1 n)=true->∀ i d,n<=i->yJ bx i d=d:=by
  intro bx
  induction bx with
  | nil=>intro _ i d _;rfl
  | cons y r ih =>
   intro h i d hi;simp only [List.all_cons,zba] at h;have h1:y.1<n:=by have:=h.1;simp [Nat.blt] at this;omega
   have:Nat.beq i y.1=false:=wV (by omega)
   show yJ ((y.1,y.2)::r) i d=d;rw [yJ,this];exact ih h.2 i d hi
 have hfn:fid<n:=by
  rcases zlg fid n with h' | h'
  ·exact h'
  ·rw [hlt bx hbx fid _ h'] at hb;cases hb
 have hfid:(mk sl bx n).box fid=.live (.fam (.hp (nrH p tn osz ag ti sz P xs tl) [])):=by
  simp only [mk,aX,hfn,decide_true,cond_true];exact hb
 have hun:∀ i,n<=i->(mk sl bx n).box i=.unused:=by
  intro i hi;simp only [mk];rw [hlt bx hbx i _ hi,aX,decide_eq_false (by omega)];rfl
 refine wX (zH1 fid n (n+1) k hfid (hun n (yI _)) (hun (n+1) (by omega)) (by omega) hx hq) ?_;refine cast (congrArg (AW Pr N 0 c K) ?_) h;show AS.mk _ _=AS.mk _ _
 congr 1
 funext i
 show yJ _ i _=(((((mk sl bx n).setB n _).setB fid _).setB (n+1) _).setB fid _ |>.setB n _).box i;simp only [xA]
 by_cases e1:i=n
 ·rw [if_pos e1,e1];simp [yJ]
 rw [if_neg e1,yJ,wV e1,cond_false]
 by_cases e2:i=n+1
 ·subst e2;rw [if_neg (by omega),if_pos rfl];simp [yJ]
 rw [yJ,wV e2,cond_false]
 by_cases e3:i=fid
 ·rw [if_pos e3,e3];simp [yJ]
 rw [if_neg e3,yJ,wV e3,cond_false,if_neg e2,if_neg e3,if_neg e1];simp only [mk]
 congr 1
 rw [aX,aX]
 congr 1
 simp;omega
theorem zKR (hl:P.length=xs.length) (hk:k<xs.length):(((nrG ti sz P xs k tl).set (k+1) (some (q,qD.row ti sz x.r))).set 0 (some (p,qD.row tn osz ((nrC ag P xs).set k (x.el ag (.rawp q x.r.length))))))=nrH p tn osz ag ti sz (P.set k q) (xs.set k x) tl:=by
 unfold nrG nrH nrC nrR;simp only [MU,Q9,set_set];rw [YX _ _ (by rw [GA];omega)];rw [R0 (f:=fun q (x:NE)=>some (q,qD.row ti sz x.r)) hl,R0 (f:=fun q (x:NE)=>x.el ag (.rawp q x.r.length)) hl]
theorem zJp {sl:List (Nat×AV)} {bx:List (Nat×zR)} {n:Nat} (fid a d k:Nat) (p:zY) (ag:Bool) (x:NE) {pins:List (Nat×zY)} (hb:yJ bx fid .dead=.live (.fam (.hp (nrG ti sz P xs k tl) pins)))
  (hra:yJ bx a .dead=.live (.rowI tn osz (nrC ag P xs) true k (x.p1 ag++.own d x.r.length::x.p2 ag))) (hrd:yJ bx d .dead=.live (.row ti sz x.r)) (hpa:(a,p)∈pins) (hda:Nat.beq d a=false) (hl:P.length=xs.length) (hk:k<xs.length)
  (hpu:AV.pures (x.p1 ag)=true/\AV.pures (x.p2 ag)=true)
  {G:wQ} {ac:Act} {w:World} (hnp:G.foot.length=0) (hR:vJ G (mk sl bx n) ac w):∃ q,vJ G (mk sl ((fid,.live (.fam (.hp (nrH p tn osz ag ti sz (P.set k q) (xs.set k x) tl) [])))::(a,.dead)::(d,.dead)::bx) n) ac w:=by
 have nb:∀ {i j:Nat},Nat.beq i j=false->i≠j:=fun h e=>by subst e;simp at h
 have hda:=nb hda;have hfa:fid≠a:=fun e=>by rw [e,hra] at hb;injection hb with hb;cases hb
 have hfd:fid≠d:=fun e=>by rw [e,hrd] at hb;injection hb with hb;cases hb
 have b1:(mk sl bx n).box fid=.live (.fam (.hp (nrG ti sz P xs k tl) pins)):=jX _ _ _ _ hb;have b2:(mk sl bx n).box a=.live (.rowI tn osz (nrC ag P xs) true k (x.p1 ag++.own d x.r.length::x.p2 ag)):=jX _ _ _ _ hra;have b3:(mk sl bx n).box d=.live (.row ti sz x.r):=jX _ _ _ _ hrd;have hsome:(nrG ti sz P xs k tl)[k+1]?=some none:=by
  show (none::(nrR ti sz P xs++tl).set k none)[k+1]?=some none;rw [pJ,Q8];unfold nrR;rw [zla,GA];omega
 obtain ⟨q,hR⟩:=zAO fid d b1 b3 hR;refine ⟨q,?_⟩;replace hR:=(zO0 (np:=0) fid a k d x.r.length (x.p1 ag) (x.p2 ag) (x.el ag (.rawp q x.r.length)) (p:=q) (H:=nrG ti sz P xs k tl) (pins:=(d,q)::pins) (by rw [xA,if_pos rfl]) (by simp) (by rw [xA,if_neg hfa.symm];exact b2) hpu NE.cells) G ac w hnp hR;replace hR:=(JJ fid d (k+1) (p:=q) (e:=.row ti sz x.r) (H:=nrG ti sz P xs k tl) (pins:=(d,q)::pins) (by rw [xA,if_neg hfa,xA,if_pos rfl]) (by simp) (by rw [xA,if_neg hda,xA,if_neg hfd.symm];exact b3) hsome) G ac w hnp hR;replace hR:=(JJ fid a 0 (p:=p) (e:=.row tn osz ((nrC ag P xs).set k (x.el ag (.rawp q x.r.length)))) (H:=(nrG ti sz P xs k tl).set (k+1) (some (q,qD.row ti sz x.r))) (pins:=(d,q)::pins) (by rw [xA,if_pos rfl]) (qX _ hpa)
  (by rw [xA,if_neg hfa.symm,xA,if_neg hda.symm,xA,if_pos rfl];rfl) (by rfl)) G ac w hnp hR
 replace hR:=(D3 (np:=0) fid (H':=nrH p tn osz ag ti sz (P.set k q) (xs.set k x) tl) (pins':=[]) (by rw [xA,if_pos rfl]) (fun w I Hd h=>by rwa [zKR hl hk] at h) (fun y hy=>by cases hy)) G ac w hnp hR;refine cast (congrArg (fun st=>vJ G st ac w) ?_) hR;refine Eq.symm ?_;show AS.mk _ _=AS.mk _ _
 congr 1
 funext i
 show yJ _ i _=(AS.setB _ fid _).box i;simp only [xA]
 by_cases e1:i=fid
 ·rw [if_pos e1,e1];simp [yJ]
 rw [if_neg e1,yJ,wV e1,cond_false,if_neg e1]
 by_cases e2:i=a
 ·rw [if_pos e2,e2];simp [yJ]
 rw [if_neg e2,yJ,wV e2,cond_false,if_neg e1]
 by_cases e3:i=d
 ·rw [if_pos e3,e3];simp [yJ]
 rw [if_neg e3,yJ,wV e3,cond_false,if_neg e2,if_neg e1];rfl
theorem UX {np:Nat} {sl:List (Nat×AV)} {bx:List (Nat×zR)} {n:Nat} (fid:Nat) {H:List (Option wH)} {pins:List (Nat×zY)} (Q:List (Option wH)->Prop) (hb:yJ bx fid .dead=.live (.fam (.hp H pins))) (hQ:Q H) :
  Sub np (mk sl bx n) (mk sl ((fid,.live (.fam (.hpx Q)))::bx) n):=by
 rintro G a w hnp ⟨G',Hd,L,F,T,hT⟩;have hb:(mk sl bx n).box fid=.live (.fam (.hp H pins)):=jX _ _ _ _ hb;have hbx:∀ i,(mk sl ((fid,.live (.fam (.hpx Q)))::bx) n).box i=if i=fid then .live (.fam (.hpx Q)) else (mk sl bx n).box i:=by
  intro i;simp only [mk]
  by_cases e1:i=fid
  ·rw [if_pos e1,e1];simp [yJ]
  ·rw [if_neg e1,yJ,wV e1,cond_false]
 have key:∀ id f,(mk sl ((fid,.live (.fam (.hpx Q)))::bx) n).box id=.live (.fam f)->id=fid/\f=.hpx Q:=by
  intro id f hl;rw [hbx] at hl
  by_cases e:id=fid
  ·rw [if_pos e] at hl;injection hl with hl;injection hl with hl;exact ⟨e,hl.symm⟩
  ·rw [if_neg e] at hl;exact absurd (F.one id fid f _ hl hb) e
 refine ⟨G',Hd,L,⟨fun i j f g h1 h2=>(key i f h1).1.trans (key j g h2).1.symm,fun id f h1=>?_⟩,T,hT.fam hb rfl hbx⟩;obtain ⟨_,rfl⟩:=key id f h1;exact ⟨H,hQ,(F.ok fid _ hb).1⟩
theorem SR {Pr:Program} {N np:Nat} {c:Code} {K:Exit->AS->Prop} {sl:List (Nat×AV)} {bx:List (Nat×zR)} {n:Nat} (fid:Nat) {Q:List (Option wH)->Prop} (hb:yJ bx fid .dead=.live (.fam (.hpx Q)))
  (h:∀ H,Q H->AW Pr N np c K (mk sl ((fid,.live (.fam (.hp H [])))::bx) n)):AW Pr N np c K (mk sl bx n):=by
 refine DY fid (jX _ _ _ _ hb) fun H hQ=>cast (congrArg (AW Pr N np c K) ?_) (h H hQ)
 show AS.mk _ _=AS.mk _ _
 congr 1
end
def nxI (l:List Int):NE:={ r:=List.map (AV.int .i64) l }
theorem gE (l:List Int):l.length=(nxI l).r.length:=by simp [nxI]
section
variable {α:Type} {f:α->NE} {p:zY} {tn:TypeId} {osz:Nat} {ag:Bool} {ti:TypeId} {sz:Nat} {tl:List (Option wH)}
theorem zCB {l:List α} {i:Int} {x:α} (h:z0 l i=some x):l[i.toNat]?=some x:=by
 unfold z0 at h
 split at h
 ·exact h
 ·cases h
theorem GU {Pr:Program} {N:Nat} {c:Code} {K:Exit->AS->Prop} {sl:List (Nat×AV)} {bx:List (Nat×zR)} {n:Nat} (fid m:Nat) {rows:List α} {i:Int} {row:α} (hi:z0 rows i=some row) (hm:m=(f row).r.length)
  (hb:yJ bx fid .dead=.live (.fam (.hpx (NR p tn osz ag ti sz (rows.map f) tl)))) (hbx:(bx.all fun y=>Nat.blt y.1 n)=true) (hf:Nat.blt fid n=true)
  (h:∀ P q,P.length=rows.length->AW Pr N 0 c K (mk sl ((n,.live (.rowI tn osz (nrC ag P (rows.map f)) true i.toNat ((f row).p1 ag++.own (n+1) m::(f row).p2 ag)))::(n+1,.live (.row ti sz (f row).r))::(fid,.live (.fam (.hp (nrG ti sz P (rows.map f) i.toNat tl) [(n+1,q),(n,p)])))::(fid,.live (.fam (.hp (nrH p tn osz ag ti sz P (rows.map f) tl) [])))::bx) (n+2))):AW Pr N 0 c K (mk sl bx n):=by
 subst hm;refine SR fid hb ?_;rintro H ⟨P,hP,rfl⟩;have hP:P.length=rows.length:=by rw [hP,vL]
 have hr:=zCB hi;have hlt:i.toNat<P.length:=by rw [hP];exact (vO.1 hr).1
 refine zGP (p:=p) (tn:=tn) (osz:=osz) (ag:=ag) (ti:=ti) (sz:=sz) (P:=P) (xs:=rows.map f) (tl:=tl) (x:=f row) (q:=P[i.toNat]) fid i.toNat ?_ ?_ ?_ (w7 hlt) (h P _ hP)
 ·simp [yJ]
 ·simp only [List.all_cons,hf,hbx,Bool.and_self]
 ·rw [vD,hr];rfl
theorem lA {sl:List (Nat×AV)} {bx:List (Nat×zR)} {n:Nat} (fid a d m:Nat) {rows:List α} {i:Int} {row:α} (row':α) (hm:m=(f row').r.length) {P:List zY} {pins:List (Nat×zY)} (hi:z0 rows i=some row) (hP:P.length=rows.length)
  (hb:yJ bx fid .dead=.live (.fam (.hp (nrG ti sz P (rows.map f) i.toNat tl) pins))) (hpa:(a,p)∈pins)
  (hra:yJ bx a .dead=.live (.rowI tn osz (nrC ag P (rows.map f)) true i.toNat ((f row').p1 ag++.own d m::(f row').p2 ag))) (hrd:yJ bx d .dead=.live (.row ti sz (f row').r)) (hda:Nat.beq d a=false)
  (hpu:AV.pures ((f row').p1 ag)=true/\AV.pures ((f row').p2 ag)=true)
  : Sub 0 (mk sl bx n) (mk sl ((fid,.live (.fam (.hpx (NR p tn osz ag ti sz ((rows.set i.toNat row').map f) tl))))::(a,.dead)::(d,.dead)::bx) n):=by
 intro G ac w hnp hR;subst hm;have hr:=zCB hi;have hlt:i.toNat<rows.length:=(vO.1 hr).1;obtain ⟨q,hR⟩:=zJp (P:=P) (xs:=rows.map f) (tl:=tl) (tn:=tn) (osz:=osz) (ti:=ti) (sz:=sz) fid a d i.toNat p ag (f row') hb hra hrd hpa hda (by rw [vL];exact hP) (by rw [vL];exact hlt) hpu hnp hR;replace hR:=(UX (np:=0) fid (NR p tn osz ag ti sz ((rows.set i.toNat row').map f) tl) (H:=nrH p tn osz ag ti sz (P.set i.toNat q) ((rows.map f).set i.toNat (f row')) tl) (pins:=[]) (by simp [yJ]) ⟨P.set i.toNat q,by simp [hP],by rw [List.map_set]⟩) G ac w hnp hR;refine cast (congrArg (fun st=>vJ G st ac w) ?_) hR;refine Eq.symm ?_;show AS.mk _ _=AS.mk _ _
 congr 1
 funext j
 by_cases e1:j=fid
 ·rw [e1];simp [yJ]
 ·simp [yJ,wV e1]
end
/-! A row of nil slices begins to hold rows. -/
theorem Y6 {np:Nat} {st:AS} (fid v k n:Nat) (pre post:List AV) {t:TypeId} {p:zY} {H:List (Option wH)} {pins:List (Nat×zY)} (hb:st.box fid=.live (.fam (.hp H pins))) (hk:(k,p)∈pins)
  (hv:st.box v=.live (.var t (pre++.own k n::post))):Sub np st (st.setB v (.live (.var t (pre++.rawp p n::post)))):=by
 rintro G a w hnp ⟨G',Hd,L,F,T,hT⟩;have hTk:=E6 F hT hb hk;refine ⟨G',Hd,L,F.less (MT (fun f h=>by injection h with h;cases h)),T,hT.swap hv ?_⟩;obtain ⟨b,C,h1,h2,h3,h4,h5⟩:=hT.boxes v _ hv;refine ⟨b,C,h1,h2,by simpa using h3,?_,?_⟩
 ·intro c hc;rcases wL.1 hc with h | h
  ·exact h4 c (by simp [h])
  ·rcases uA.1 h with rfl | h
   ·rfl
   ·exact h4 c (by simp [h])
 ·intro j c hj;rcases K0 hj with ⟨e1,rfl⟩ | ⟨_,e2⟩
  ·exact zB6 hTk (h5 j (.own k n) (by rw [e1];simp))
  ·exact h5 j c (e2 _)
theorem zKU {w:World} {I:Nat->Prop} {T T':Tbl} {v:Value} (h:Rep w I T v .nilsl):Rep w I T' v (.rawp .nil 0):=by cases h;exact .rawp0
theorem zHq {p:zY} {tn ti:TypeId} {sz m:Nat}:∀ w I Hd,jO w I Hd [some (p,.row tn 1 (List.replicate m .nilsl))]->jO w I Hd (nrH p tn 1 false ti sz (List.replicate m .nil) (List.replicate m { r:=[] }) []):=by
 intro w I Hd h;have hC:nrC false (List.replicate m .nil) (List.replicate m { r:=[] })=List.replicate m (.rawp .nil 0):=by
  unfold nrC;rw [List.zipWith_replicate];simp [NE.el]
 have hR:nrR ti sz (List.replicate m .nil) (List.replicate m { r:=[] })=List.replicate m (some (.nil,.row ti sz [])):=by
  unfold nrR;rw [List.zipWith_replicate];simp
 unfold nrH;rw [hC,hR,aE];have hn:∀ {i:Nat} {x:wH},(List.replicate m (some ((.nil,.row ti sz []):wH)))[i]?=some (some x)->x=(.nil,.row ti sz []):=by
  intro i x hi;rw [iE] at hi
  split at hi
  ·injection hi with hi;injection hi with hi;exact hi.symm
  ·cases hi
 refine ⟨fun i q e hi=>?_,fun i j x y b c c' h1 h2 t1 t2=>?_⟩
 ·cases i with
  | zero =>
   simp only [jY,uU,kU] at hi;obtain ⟨rfl,rfl⟩:=hi;obtain ⟨k1,k2⟩:=h.1 0 p _ rfl;refine ⟨UC (T:=Tbl.empty) (T':=Tbl.empty) k1 (by simp) ?_ ?_ ?_,k2⟩
   ·intro k av av' h1 h2;rw [N6 (yN h1),N6 (yN h2)];rfl
   ·intro k av av' h1 h2 j c c' h3 h4 _;rw [N6 (yN h2)] at h4;cases j with
    | zero=>simp [AV.cells] at h4;subst h4;rfl
    | succ j=>simp [AV.cells] at h4
   ·intro k av av' h1 h2 j c c' h3 h4 v hr;rw [N6 (yN h1)] at h3;rw [N6 (yN h2)] at h4;cases j with
    | zero=>simp [AV.cells] at h3 h4;subst h3;subst h4;exact zKU hr
    | succ j=>simp [AV.cells] at h4
  | succ i =>
   rw [pJ] at hi
   have:=hn hi
   simp only [kU] at this;obtain ⟨rfl,rfl⟩:=this;exact ⟨.inl ⟨rfl,rfl⟩,fun b c h=>by cases h⟩
 ·cases i with
  | succ i=>rw [pJ] at h1;rw [hn h1] at t1;cases t1
  | zero=>cases j with
   | zero=>rfl
   | succ j=>rw [pJ] at h2;rw [hn h2] at t2;cases t2
theorem RG {np:Nat} {st:AS} (fid:Nat) {H:List (Option wH)} {pins:List (Nat×zY)} (Q:List (Option wH)->Prop) (hb:st.box fid=.live (.fam (.hp H pins))) (hQ:Q H):Sub np st (st.setB fid (.live (.fam (.hpx Q)))):=by
 rintro G a w hnp ⟨G',Hd,L,F,T,hT⟩;have key:∀ id f,(st.setB fid (.live (.fam (.hpx Q)))).box id=.live (.fam f)->id=fid/\f=.hpx Q:=by
  intro id f hl;rw [xA] at hl
  by_cases e:id=fid
  ·rw [if_pos e] at hl;injection hl with hl;injection hl with hl;exact ⟨e,hl.symm⟩
  ·rw [if_neg e] at hl;exact absurd (F.one id fid f _ hl hb) e
 refine ⟨G',Hd,L,⟨fun i j f g h1 h2=>(key i f h1).1.trans (key j g h2).1.symm,fun id f h1=>?_⟩,T,hT.fam hb rfl fun i=>xA _ _ _ _⟩;obtain ⟨_,rfl⟩:=key id f h1;exact ⟨H,hQ,(F.ok fid _ hb).1⟩
theorem AF {n:Nat}:∀ (bx:List (Nat×zR)),(bx.all fun y=>Nat.blt y.1 n)=true->∀ i d,n<=i->yJ bx i d=d
 | [],_,_,_,_=>rfl
 | (y1,y2)::r,h,i,d,hi=>by
  simp only [List.all_cons,zba] at h;have h1:y1<n:=by have:=h.1;simp [Nat.blt] at this;omega
  have:Nat.beq i y1=false:=wV (by omega)
  rw [yJ,this];exact AF r h.2 i d hi
theorem zFs {Pr:Program} {N:Nat} {c:Code} {K:Exit->AS->Prop} {sl:List (Nat×AV)} {bx:List (Nat×zR)} {n:Nat} (k v m:Nat) (pre post:List AV) {t tn:TypeId} (ti:TypeId) (sz:Nat) (xs:List NE) {l:List AV} (hk:yJ bx k .dead=.live (.row tn 1 l)) (hl:l=List.replicate m .nilsl)
  (hv:yJ bx v .dead=.live (.var t (pre++.own k m::post))) (hno:(bx.all fun x=>x.2.nf)=true) (hbx:(bx.all fun y=>Nat.blt y.1 n)=true) (hx:List.replicate m { r:=[] }=xs)
  (h:∀ p,AW Pr N 0 c K (mk sl ((n,.live (.fam (.hpx (NR p tn 1 false ti sz xs []))))::(k,.dead)::(v,.live (.var t (pre++.rawp p m::post)))::bx) (n+1))):AW Pr N 0 c K (mk sl bx n):=by
 subst hx;subst hl;have hkn:k≠n:=fun e=>by rw [e,AF bx hbx n _ (yI _)] at hk;cases hk
 have hvn:v≠n:=fun e=>by rw [e,AF bx hbx n _ (yI _)] at hv;cases hv
 have hkv:k≠v:=fun e=>by rw [e,hv] at hk;injection hk with hk;cases hk
 have hun:(mk sl bx n).box n=.unused:=by
  simp only [mk];rw [AF bx hbx n _ (yI _)];rw [aX,decide_eq_false (Nat.lt_irrefl _)];rfl
 refine wX (zEn n hun (XA hno)) ?_;refine zAg n k (H:=[]) (pins:=[]) (by rw [xA,if_pos rfl]) (by rw [xA,if_neg hkn];exact jX _ _ _ _ hk) fun p=>?_
 refine wX (Y6 n v k m pre post (p:=p) (H:=[]) (pins:=[(k,p)]) (by rw [xA,if_pos rfl]) (by simp) (by rw [xA,if_neg hvn,xA,if_neg hvn];exact jX _ _ _ _ hv)) ?_;refine wX (UJ n (H:=[]) (pins:=[(k,p)]) (by rw [xA,if_neg hvn.symm,xA,if_pos rfl])) ?_;refine wX (JJ n k 0 (p:=p) (e:=.row tn 1 (List.replicate m .nilsl)) (H:=[none]) (pins:=[(k,p)]) (by rw [xA,if_pos rfl];rfl) (by simp)
  (by rw [xA,if_neg hkn,xA,if_neg hkv,xA,if_neg hkn,xA,if_neg hkn];exact jX _ _ _ _ hk) rfl) ?_
 refine wX (D3 n (H:=[some (p,.row tn 1 (List.replicate m .nilsl))]) (pins':=[]) (by rw [xA,if_pos rfl];rfl) (zHq (ti:=ti) (sz:=sz)) (fun y hy=>by cases hy)) ?_;refine wX (RG n (NR p tn 1 false ti sz (List.replicate m { r:=[] }) []) (by rw [xA,if_pos rfl]) ⟨_,by simp,rfl⟩) ?_;refine cast (congrArg (AW Pr N 0 c K) ?_) (h p);show AS.mk _ _=AS.mk _ _
 congr 1
 funext i
 show yJ _ i _=(AS.setB _ n _).box i;simp only [xA]
 by_cases e1:i=n
 ·rw [if_pos e1,e1];simp [yJ]
 rw [if_neg e1,yJ,wV e1,cond_false,if_neg e1,if_neg e1]
 by_cases e2:i=k
 ·rw [if_pos e2,e2];simp [yJ]
 rw [if_neg e2,yJ,wV e2,cond_false,if_neg e1]
 by_cases e3:i=v
 ·rw [if_pos e3,e3];simp [yJ]
 rw [if_neg e3,yJ,wV e3,cond_false,if_neg e1,if_neg e1];simp only [mk]
 congr 1
 have:Nat.blt i (n+1)=Nat.blt i n:=by rw [aX,aX];simp;omega
 rw [this]
open Go.ChangeMaps (setBlock)
def AWL (P:Program) (N np:Nat) (all:Array Oper) (l:List Oper) (K:AS->Prop) (st:AS):Prop :=
 ∀ (Q:Exit->Act->World->Prop) (G:wQ) (a:Act) (w:World),G.n=N->G.foot.length=np->vJ G st a w->(∀ st' a' w',K st'->vJ G st' a' w'->Q .normal a' w')->wpList P all Q l a w
section
variable {P:Program} {N np:Nat} {all:Array Oper} {l:List Oper} {K:AS->Prop} {st st2:AS}
theorem zMX (h:K st):AWL P N np all [] K st:=fun _ _ a w _ _ hR hQ=>hQ st a w h hR
theorem r6 (hs:Sub np st st2) (h:AWL P N np all l K st2):AWL P N np all l K st:=fun Q G a w hN hnp hR hQ=>h Q G a w hN hnp (hs G a w hnp hR) hQ
def zDV:Code->Array Oper
 | .region _ ops _=>ops
 | _=>#[]
def zFz:Code->Bool
 | .region _ _ false=>true
 | _=>false
theorem zHx {c:Code} {K:Exit->AS->Prop} (hc:zFz c=true) (h:AWL P N np (zDV c) (zDV c).toList (K .normal) st):AW P N np c K st:=by
 intro G a w hN hnp hR;unfold zFz at hc
 split at hc
 ·exact wp_region_list (h _ G a w hN hnp hR fun st' a' w' hk hR'=>⟨st',hk,hR'⟩)
 ·cases hc
theorem zGT {G:wQ} {Q:Exit->Act->World->Prop} (hN:G.n=N) (hnp:G.foot.length=np) (l2:List Oper):∀ (l:List Oper) (ess:List (List Eff)) (st st':AS) (a:Act) (w:World),
  gV ess st st'->ess.length=l.length->(∀ (j:Nat) (o:Oper) (es:List Eff),l[j]?=some o->ess[j]?=some es->RH P N np all o es)->vJ G st a w ->
  (∀ a w,vJ G st' a w->wpList P all Q l2 a w)->wpList P all Q (l++l2) a w:=by
 intro l
 induction l with
 | nil =>
  intro ess st st' a w hc hl _ hR hQ;cases ess with
  | nil=>simp only [gV] at hc;subst hc;exact hQ a w hR
  | cons _ _=>simp at hl
 | cons o rest ih =>
  intro ess st st' a w hc hl hloc hR hQ;cases ess with
  | nil=>simp at hl
  | cons es r =>
   obtain ⟨hh,hc⟩:=hc;have hL:=hloc 0 o es (by simp) (by simp) G st a w hN hnp hh hR;rw [B9];refine wpList_step fun K hK=>?_
   have hnext:∀ a w,vJ G (uX st es) a w->K a w:=fun a w hR2=>hK a w (ih r (uX st es) st' a w hc (by simpa using hl) (fun j o' es' hj hj'=>hloc (j+1) o' es' (by simpa using hj) (by simpa using hj')) hR2 hQ)
   split
   ·rename_i hw
    rw [if_pos hw] at hL;exact Oper.wp_mono2 hnext hL
   ·rename_i hw
    rw [if_neg hw] at hL;exact hnext _ _ hL
def zDi (P:Program) (N np:Nat) (all:Array Oper) (l:List Oper) (hs:List (Nat×wA)) (sl:List (Nat×AV)) (bx:List (Nat×zR)) (n:Nat) (live bl:List Nat) (n':Nat):Option (List Prop×List AV×List zR) :=
 match HW P N np all hs l 0 (mk sl bx n) with
 | some (vcs,st',ess) =>
  bif (Nat.ble n n'&&(bl.all fun i=>Nat.blt i n'))&&((bx.all fun x=>Nat.blt x.1 n)&&ess.all fun es=>(nQ es).all fun i=>Nat.blt i n') then some (vcs,live.map st'.slot,bl.map st'.box) else none
 | none=>none
theorem zBG {sl:List (Nat×AV)} {bx:List (Nat×zR)} {n:Nat} (k:Nat) (hs:List (Nat×wA)) (live bl:List Nat) (n':Nat) {vcs:List Prop} {vals:List AV} {bxs:List zR}
  (h:zDi P N np all (l.take k) hs sl bx n live bl n'=some (vcs,vals,bxs)) (hv:qC vcs) (hk:AWL P N np all (l.drop k) K (mk (live.zip vals) (bl.zip bxs) n')):AWL P N np all l K (mk sl bx n):=by
 intro Q G a w hN hnp hR hQ;unfold zDi at h
 split at h
 case h_2=>cases h
 rename_i vcs' st' ess hareg
 replace h:=xM h;obtain ⟨hc,h⟩:=h;simp only [zba] at hc;obtain ⟨⟨hnn,hbl⟩,hbx,hwb⟩:=hc;simp only [uU,kU] at h;obtain ⟨rfl,rfl,rfl⟩:=h;obtain ⟨k1,k2,k3⟩:=zFx _ _ _ _ hareg (lF hv);simp only at k1 k2 k3;rw [<- VQ k l];refine zGT hN hnp (l.drop k) (l.take k) ess _ st' a w k1 k2 k3 hR fun a w hR'=>?_
 refine hk Q G a w hN hnp (hR'.weak (fun t=>zFM) (fun i=>?_)) hQ;have e0:(mk (live.zip (live.map st'.slot)) (bl.zip (bl.map st'.box)) n').box i=yJ (bl.zip (bl.map st'.box)) i (bif Nat.blt i n' then .dead else .unused):=rfl;rw [e0];rcases zEC (bl:=bl) (f:=st'.box) (i:=i) (d:=bif Nat.blt i n' then .dead else .unused) with ⟨_,h⟩ | ⟨_,h⟩
 ·exact .inl h
 ·rw [h];cases hlt:Nat.blt i n'
  ·left
   have hge:n'<=i:=by
    rcases zlg i n' with h' | h'
    ·have:Nat.blt i n'=true:=by simp [Nat.blt];omega
     rw [this] at hlt;cases hlt
    ·exact h'
   have hle:=B4 hnn;rw [zDu ess _ _ n' k1 hwb i hge];simp only [mk];rw [XO]
   ·have:Nat.blt i n=false:=by
     cases h0:Nat.blt i n
     ·rfl
     ·simp [Nat.blt] at h0;omega
    rw [this]
   ·intro hm';simp only [vB] at hm';obtain ⟨x,hx,rfl⟩:=hm'
    have:=tC.1 hbx x hx
    simp [Nat.blt] at this;omega
  ·exact .inr rfl
end
end Go.Ab
