/- A layer over the model: abstract values and states, and the rules by which the printed proofs go. No conditions. -/
import Derived.Test.YtoeengmnmhhpgaaGreatA32
import Derived.Shelf.SlMaps.Clone
/- The rules once more, in the shortest words: what the kernel computes is left to it. -/
namespace Go.Ab
open Go
abbrev Ii (x:Int):AV:=.int .i64 x
abbrev Iu (x:Int):AV:=.int .u8 x
abbrev Vb (n:Nat) (l:List AV):y7:=.live (.var n l)
abbrev Rb (n k:Nat) (l:List AV):y7:=.live (.row n k l)
abbrev Hg:wF:={ g:=false }
abbrev Ht:wF:={ b:=true }
abbrev Hf:wF:={ b:=false }
abbrev Pp (i:Nat):AV:=.ptr i 0 0 0
abbrev Mb (l:List Int):List AV:=List.map (AV.int .u8) l
abbrev Mi (l:List Int):List AV:=List.map (AV.int .i64) l
abbrev Ms (l:List (List Int)):List AV:=List.map AV.str l
abbrev Mp {α:Type} (f:α->AV) (l:List α):List AV:=List.map f l
abbrev lN {α:Type} (l:List α):Int:=((l.length:Nat):Int)
theorem bft (b:Bool):b=true\/b=false:=Bool.eq_false_or_eq_true b
variable {P:Program} {N np:Nat} {K:Exit->AS->Prop} {c:Code} {st:AS}
theorem sq (h:AW P N np (Code.l c) (gC P N np (Code.r c) K) st) (hc:c=.seq (Code.l c) (Code.r c):=by kernel_rfl):AW P N np c K st:=oS hc h
theorem rt (h:K .ret st) (hc:c=.ret:=by kernel_rfl):AW P N np c K st:=zCr hc h
theorem sk (h:K .normal st) (hc:c=.skip:=by kernel_rfl):AW P N np c K st:=zBs hc h
theorem rg {sl:List (Nat×AV)} {bx:List (Nat×y7)} {n:Nat} (hs:List (Nat×wF)) (live bl:List Nat) (n':Nat) {vcs:List Prop} (vals:List AV) (bxs:List y7) (hm:P.follows .mixedOrders=true) (hv:jC vcs)
  (hk:K .normal (mk (live.zip vals) (bl.zip bxs) n')) (h:nH P N np c hs sl bx n live bl n'=some (vcs,vals,bxs):=by kernel_rfl):AW P N np c K (mk sl bx n):=S9 hs live bl n' h hm hv hk
theorem sr {sl:List (Nat×AV)} {bx:List (Nat×y7)} {n:Nat} (hs:List (Nat×wF)) (live bl:List Nat) (n':Nat) {vcs:List Prop} (vals:List AV) (bxs:List y7) (hm:P.follows .mixedOrders=true) (hv:jC vcs)
  (hk:gC P N np (Code.r c) K .normal (mk (live.zip vals) (bl.zip bxs) n')) (h:nH P N np (Code.l c) hs sl bx n live bl n'=some (vcs,vals,bxs):=by kernel_rfl) (hc:c=.seq (Code.l c) (Code.r c):=by kernel_rfl):AW P N np c K (mk sl bx n) :=
 oS hc (S9 hs live bl n' h hm hv hk)
theorem sw (ρ ids:List Nat) (sps:List Sp) (bps:List Bp) {vcs:List Prop} {sl2:List (Nat×AV)} {bx2:List (Nat×y7)} (hv:jC vcs) (h:wkm np st ρ ids sps bps=some (vcs,sl2,bx2):=by kernel_rfl):Sub np st (mk sl2 bx2 ρ.length):=cX ρ ids sps bps h hv
theorem wk (ρ ids:List Nat) (sps:List Sp) (bps:List Bp) {vcs:List Prop} (sl2:List (Nat×AV)) (bx2:List (Nat×y7)) (hv:jC vcs) (k:AW P N np c K (mk sl2 bx2 ρ.length)) (h:wkm np st ρ ids sps bps=some (vcs,sl2,bx2):=by kernel_rfl):AW P N np c K st:=qB (cX ρ ids sps bps h hv) k
theorem cd (t:Nat) (b:Bool) (h1:b=true->AW P N np (Code.t c) K st) (h2:b=false->AW P N np (Code.e c) K st) (hc:c=.cond (.tmp t) (Code.t c) (Code.e c):=by kernel_rfl) (hs:st.slot t=.bool b:=by kernel_rfl):AW P N np c K st:=TZ hc hs h1 h2
theorem ar {α:Type} (x:α) {r:List Prop} (t:jC r):jC ((x=x)::r):=⟨rfl,t⟩
end Go.Ab

/- A map of the call's own is given away for good: nobody writes it any more. -/
namespace Go.Ab
open Go
def fC (id:Nat) (l:List (AV×AV)):AV->AV
 | .mp k=>bif Nat.beq k id then .fm false l else .mp k
 | v=>v
def LF (id:Nat) (l:List (AV×AV)):AV->AV
 | .agg cs=>.agg (cs.map (fC id l))
 | v=>fC id l v
def fzM (st:AS) (id:Nat):AS :=
 match st.box id with
 | .live (.map _ _ l)=>⟨fun t=>LF id l (st.slot t),fun k=>bif Nat.beq k id then .dead else match st.box k with
  | .live (.var t cs)=>.live (.var t (cs.map (fC id l)))
  | b=>b⟩
 | _=>st
def zEq:y7->Bool
 | .live (.map ..)=>true
 | _=>false
theorem U4 {id:Nat} {l:List (AV×AV)} {c:AV} (h:c.one=true):(fC id l c).one=true:=by
 cases c<;>simp only [fC]<;>try exact h
 rename_i k
 cases Nat.beq k id<;>rfl
theorem QH {w:World} {I I':Nat->Prop} {T:Tbl} {id b:Nat} {l:List (AV×AV)} {v:Value} {c:AV} (hI:∀ b,I b->I' b) (hT:T id=some (.at b 0)) (hf:∀ T',Rep w I' T' (.map (some b)) (.fm false l)) (h:Rep w I T v c):Rep w I' T v (fC id l c):=by
 have h':Rep w I' T v c:=h.mono (Nat.le_refl _) (fun _ _ _=>rfl) (fun b hb _=>hI b hb) (fun _ _ h=>h);cases h with
 | mp hk =>
  rename_i k b'
  simp only [fC]
  by_cases e:k=id
  ·subst e;rw [hT] at hk;injection hk with hk;injection hk with hk _;subst hk;simp only [cond_true,show Nat.beq k k=true by simp];exact hf T
  ·rw [kJ e,cond_false];exact h'
 | _=>exact h'
theorem zDU {w:World} {I I':Nat->Prop} {T:Tbl} {id b:Nat} {l:List (AV×AV)} {v:Value} {c:AV} (hI:∀ b,I b->I' b) (hT:T id=some (.at b 0)) (hf:∀ T',Rep w I' T' (.map (some b)) (.fm false l)) (h:Rep w I T v c):Rep w I' T v (LF id l c):=by
 by_cases hc:∃ cs,c=.agg cs
 ·obtain ⟨cs,rfl⟩:=hc;cases h with
  | agg h1 h2 h3 =>
   refine .agg (by rw [h1,List.length_map]) ?_ ?_
   ·intro c hc;obtain ⟨c0,k1,rfl⟩:=List.mem_map.1 hc;exact U4 (h2 c0 k1)
   ·intro j c hj;rw [List.getElem?_map] at hj;cases hcj:cs[j]? with
    | none=>rw [hcj] at hj;cases hj
    | some c0 =>
     rw [hcj] at hj;injection hj with hj;subst hj;exact QH hI hT hf (h3 j c0 hcj)
 ·have:LF id l c=fC id l c:=by cases c<;>first | rfl | exact absurd ⟨_,rfl⟩ hc
  rw [this];exact QH hI hT hf h
theorem zFZ {np:Nat} {st:AS} (id:Nat) (h:(zEq (st.box id)&&Nat.ble np id)=true):Sub np st (fzM st id):=by
 rintro G a w hnp ⟨T,hT⟩;simp only [zba] at h;obtain ⟨h1,h2⟩:=h;have hid:G.foot.length<=id:=by have:=D7 h2;omega
 obtain ⟨ag,ks,l,hb⟩:∃ ag ks l,st.box id=.live (.map ag ks l):=by
  cases hb:st.box id with
  | unused=>rw [hb] at h1;cases h1
  | dead=>rw [hb] at h1;cases h1
  | live bx=>cases bx with
   | map ag ks l=>exact ⟨_,_,_,rfl⟩
   | _=>rw [hb] at h1;cases h1
 obtain ⟨b,E,clock,hp,hh,k1,k2,kS,k3,k4⟩:=hT.boxes id _ hb;have hbox:∀ k,(fzM st id).box k=if k=id then .dead else match st.box k with | .live (.var t cs)=>.live (.var t (cs.map (fC id l))) | b=>b:=by
  intro k;unfold fzM;rw [hb];simp only
  by_cases e:k=id
  ·subst e;simp
  ·rw [kJ e,if_neg e];rfl
 have hslot:∀ t,(fzM st id).slot t=LF id l (st.slot t):=by
  intro t;unfold fzM;rw [hb]
 have hlive:∀ k bx,(fzM st id).box k=.live bx->k≠id/\∃ bx0,st.box k=.live bx0:=by
  intro k bx hl;rw [hbox] at hl
  by_cases e:k=id
  ·rw [if_pos e] at hl;cases hl
  ·rw [if_neg e] at hl;refine ⟨e,?_⟩;cases hk:st.box k with
   | live b0=>exact ⟨b0,rfl⟩
   | dead=>rw [hk] at hl;cases hl
   | unused=>rw [hk] at hl;cases hl
 have himm:∀ b,imm G st T b->imm G (fzM st id) T b:=by
  intro b' hb';refine ⟨hb'.1,fun k bx cap hl hTk=>?_⟩;obtain ⟨_,bx0,h0⟩:=hlive k bx hl;exact hb'.2 k bx0 cap h0 hTk
 have hbI:imm G (fzM st id) T b:=by
  refine ⟨.inr (hT.mine id _ b 0 hb hp hid),fun k bx cap hl hTk=>?_⟩;obtain ⟨hne,bx0,h0⟩:=hlive k bx hl;exact hne (hT.apart id k _ bx0 b 0 cap hb h0 hp hTk).symm
 have hblt:b<w.heap.size:=gW hT hb hp;have hf:∀ T',Rep w (imm G (fzM st id) T) T' (.map (some b)) (.fm false l):=by
  intro T';refine .fm (fun i=>(E[i]?.map (·.key)).getD undef) (fun i=>(E[i]?.map (·.val)).getD undef) k1 k2 kS hbI hblt hh ?_ ?_ ?_
  ·intro i x hx;obtain ⟨e,e1,_⟩:=k4 i x hx;refine ⟨e.born,?_⟩;rw [e1];rfl
  ·intro i x hx;obtain ⟨e,e1,e2,e3⟩:=k4 i x hx;rw [e1];exact e2.mono (Nat.le_refl _) (fun _ _ _=>rfl) (fun b hb _=>himm b hb) (fun _ _ h=>h)
  ·intro i x hx;obtain ⟨e,e1,e2,e3⟩:=k4 i x hx;rw [e1];exact e3.mono (Nat.le_refl _) (fun _ _ _=>rfl) (fun b hb _=>himm b hb) (fun _ _ h=>h)
 refine ⟨T,hT.defers,hT.size,?_,?_,?_,?_,?_,hT.foot,hT.kept⟩
 ·intro t;rw [hslot];exact zDU himm hp hf (hT.slots t)
 ·intro k bx hl;obtain ⟨hne,bx0,h0⟩:=hlive k bx hl;rw [hbox,if_neg hne,h0] at hl;have hok:=hT.boxes k bx0 h0;cases bx0 with
  | var t cs =>
   injection hl with hl;subst hl;obtain ⟨b',C,p1,p2,p3,p4,p5⟩:=hok;refine ⟨b',C,p1,p2,by rw [p3,List.length_map],?_,?_⟩
   ·intro c hc;obtain ⟨c0,q1,rfl⟩:=List.mem_map.1 hc;exact U4 (p4 c0 q1)
   ·intro j c hj;rw [List.getElem?_map] at hj;cases hcj:cs[j]? with
    | none=>rw [hcj] at hj;cases hj
    | some c0 =>
     rw [hcj] at hj;injection hj with hj;subst hj;exact QH himm hp hf (p5 j c0 hcj)
  | row e s l'=>injection hl with hl;subst hl;exact hok.mono (Nat.le_refl _) (fun _ _ _=>rfl) (fun b hb _=>himm b hb) (fun _ _ h=>h) (fun _ _ _ _=>rfl)
  | map ag' ks' l'=>injection hl with hl;subst hl;exact hok.mono (Nat.le_refl _) (fun _ _ _=>rfl) (fun b hb _=>himm b hb) (fun _ _ h=>h) (fun _ _ _ _=>rfl)
 ·intro k hk;rw [hbox] at hk
  by_cases e:k=id
  ·rw [if_pos e] at hk;cases hk
  ·rw [if_neg e] at hk;refine hT.unused k ?_;cases h0:st.box k with
   | unused=>rfl
   | dead=>rw [h0] at hk;cases hk
   | live b0=>rw [h0] at hk;cases b0<;>cases hk
 ·intro i1 i2 b1 b2 b' c1 c2 h1 h2 t1 t2;obtain ⟨_,x1,l1⟩:=hlive i1 b1 h1;obtain ⟨_,x2,l2⟩:=hlive i2 b2 h2;exact hT.apart i1 i2 x1 x2 b' c1 c2 l1 l2 t1 t2
 ·intro k bx b' cap hl hTk hge;obtain ⟨_,x0,l0⟩:=hlive k bx hl;exact hT.mine k x0 b' cap l0 hTk hge
end Go.Ab

/- maps.Clone: its copy is a map of the caller's own, or one that nobody writes. -/
namespace Go.Ab
open Go Go.Proofs Go.Shelf
theorem zC0 {w:World} {I I':Nat->Prop} {T:Tbl} {l:List (AV×AV)} {E:Array MapEntry} {clock:Nat} {gk gv:Nat->Value} (h1:E.size=l.length) (h2:l.length<=maxLen) (hS:MapKept.Stamped E clock)
  (hent:∀ (i:Nat) (x:AV×AV),l[i]?=some x->∃ s,E[i]?=some (MapEntry.mk (gk i) (gv i) s)) (hk:∀ (i:Nat) (x:AV×AV),l[i]?=some x->Rep w I Tbl.empty (gk i) x.1) (hv:∀ (i:Nat) (x:AV×AV),l[i]?=some x->Rep w I Tbl.empty (gv i) x.2)
  (hI:∀ b,I b->b<w.heap.size->I' b) (hn:I' w.heap.size):Rep (w.alloc (.map E clock)) I' T (.map (some w.heap.size)) (.fm false l):=by
 have mono:∀ {v c},Rep w I Tbl.empty v c->Rep (w.alloc (.map E clock)) I' Tbl.empty v c:=fun h=>h.mono (by simp) (fun b _ hb=>heap_alloc_old w _ hb) hI (fun _ _ h=>h)
 exact .fm gk gv h1 h2 hS hn (by simp) (heap_alloc_new w _) hent (fun i x hx=>mono (hk i x hx)) (fun i x hx=>mono (hv i x hx))
theorem zFn {P:Program} {ρ:Ren} (L:SlLaysW.n5 P ρ) (n:Bool) (l:List (AV×AV)):yS P (ρ.f 5) [] [] [.fm n l] [] (.fm n l):=by
 intro w I foot gp vals hfl hgl hIf hap hlt hpre hvs hvals;have hf:foot=[]:=by cases foot<;>simp_all
 have hg:gp=[]:=by cases gp<;>simp_all
 subst hf;subst hg;have hr:=hvals 0 _ rfl;have hval:vals=#[vals.getD 0 undef]:=by
  apply Array.ext
  ·simpa using hvs
  ·intro i h1 h2
   have:i=0:=by simp at h2;omega
   subst this;simp [Array.getD,h1]
 generalize vals.getD 0 undef=v at hr hval;subst hval;cases hr with
 | fm0 =>
  refine (AnyW.maps_Clone_nil L w).mono fun e w' ⟨he,hw⟩=>?_
  subst hw;refine ⟨_,[],he,rfl,rfl,rfl,Nat.le_refl _,fun _ _ _=>rfl,rfl,by simp,by simp,.fm0,by simp⟩
 | fm gk gv h1 h2 hS hI hblt hh hent hk hv =>
  refine (AnyW.maps_Clone L _ _ _ w hh).mono fun e w' ⟨he,hw⟩=>?_
  subst hw;refine ⟨_,[],he,rfl,rfl,rfl,by simp,fun b hb _=>heap_alloc_old w _ hb,rfl,by simp,by simp,?_,by simp⟩;exact zC0 h1 h2 hS hent hk hv (fun b hb hlt=>.inl ⟨hb,hlt⟩) (.inr ⟨.inl (Nat.le_refl _),by simp⟩)
theorem zFR {P:Program} {ρ:Ren} (L:SlLaysW.n5 P ρ) (ag:Bool) (ks:List KSh) (l:List (AV×AV)) (n:Bool) (hn:n=false) (hks:∀ x∈l,t9 ag ks x.1=true):yS P (ρ.f 5) [] [] [.fm n l] [.map ag ks l] (.mp 0):=by
 subst hn;intro w I foot gp vals hfl hgl hIf hap hlt hpre hvs hvals;have hf:foot=[]:=by cases foot<;>simp_all
 have hg:gp=[]:=by cases gp<;>simp_all
 subst hf;subst hg;have hr:=hvals 0 _ rfl;have hval:vals=#[vals.getD 0 undef]:=by
  apply Array.ext
  ·simpa using hvs
  ·intro i h1 h2
   have:i=0:=by simp at h2;omega
   subst this;simp [Array.getD,h1]
 generalize vals.getD 0 undef=v at hr hval;subst hval;cases hr with
 | fm gk gv h1 h2 hS hI hblt hh hent hk hv =>
  rename_i b E clock
  refine (AnyW.maps_Clone L _ _ _ w hh).mono fun e w' ⟨he,hw⟩=>?_
  subst hw;refine ⟨_,[.at w.heap.size 0],he,rfl,rfl,rfl,by simp,fun b hb _=>heap_alloc_old w _ hb,rfl,?_,?_,.mp rfl,?_⟩
  ·intro b cap hm;simp only [List.mem_singleton,vV.at.injEq] at hm;exact .inl (by omega)
  ·intro i j b c c' hi hj;have h1:i=0:=by cases i with | zero=>rfl | succ i=>simp at hi
   have h2:j=0:=by cases j with | zero=>rfl | succ j=>simp at hj
   omega
  ·intro i bx hi;have h0:i=0:=by cases i with | zero=>rfl | succ i=>simp at hi
   subst h0;simp only [List.getElem?_cons_zero,Option.some.injEq] at hi;subst hi;have mono:∀ {v c},Rep w I Tbl.empty v c->Rep (w.alloc (.map E clock)) (kept I w [] [.at w.heap.size 0]) Tbl.empty v c:=fun h=>h.mono (by simp) (fun b _ hb=>heap_alloc_old w _ hb) (fun b hb hlt=>.inl ⟨hb,hlt⟩) (fun _ _ h=>h)
   refine ⟨w.heap.size,_,_,rfl,heap_alloc_new w _,h1,h2,hS,hks,fun i x hx=>?_⟩;obtain ⟨s,hs⟩:=hent i x hx;exact ⟨_,hs,mono (hk i x hx),mono (hv i x hx)⟩
theorem zA6 {α β:Type} {f:α->AV} {g:β->AV} {ag:Bool} {ks:List KSh} {L:List (α×β)} (h:∀ a,t9 ag ks (f a)=true):∀ x∈List.map (mpE f g) L,t9 ag ks x.1=true:=by
 intro x hx;obtain ⟨y,_,rfl⟩:=List.mem_map.1 hx;exact h _
end Go.Ab

/- The rules in a tighter form: a region's hints and conditions as items, its new state as a change of the old one. -/
namespace Go.Ab
open Go
abbrev Sb (l:List Int):AV:=.sl false 1 (Mb l)
abbrev Ss (l:List (List Int)):AV:=.sl false 1 (Ms l)
abbrev Sq {α:Type} (n:Nat) (f:α->AV) (l:List α):AV:=.sl false n (List.map f l)
abbrev Fb:Int->AV:=AV.int .u8
abbrev Fi:Int->AV:=AV.int .i64
class Mx (P:Program):Prop where
 h:P.follows .mixedOrders=true
structure It where
 hs:List (Nat×wF)->List (Nat×wF)
 vc:List Prop->List Prop
 ok:∀ r,jC r->jC (vc r)
noncomputable def MO (p:Prop) (r:List Prop) (n:Nat):List Prop:=@Nat.rec (fun _=>List Prop) r (fun _ x=>p::x) n
theorem MS {p:Prop} (h:p) {r:List Prop} (hr:jC r):∀ n,jC (MO p r n)
 | 0=>hr
 | n+1=>⟨h,MS h hr n⟩
noncomputable def ihs (l:List It):List (Nat×wF):=@List.rec It (fun _=>List (Nat×wF)) [] (fun x _ r=>x.hs r) l
noncomputable def ivc (l:List It):List Prop:=@List.rec It (fun _=>List Prop) [] (fun x _ r=>x.vc r) l
theorem iok:∀ l:List It,jC (ivc l)
 | []=>trivial
 | x::r=>x.ok _ (iok r)
noncomputable def hgs (r:List (Nat×wF)) (a c:Nat):List (Nat×wF):=@Nat.rec (fun _=>List (Nat×wF)) r (fun i x=>(a+i,Hg)::x) c
def iC {p:Prop} (h:p):It:=⟨fun r=>r,fun r=>p::r,fun _ t=>⟨h,t⟩⟩
def iA {α:Type} (x:α):It:=⟨fun r=>r,fun r=>(x=x)::r,fun _ t=>⟨rfl,t⟩⟩
noncomputable def iX (n:Nat):It:=⟨fun r=>r,fun r=>MO (true=!false) r n,fun _ t=>MS rfl t n⟩
noncomputable def iR (n:Nat) {p:Prop} (h:p):It:=⟨fun r=>r,fun r=>MO p r n,fun _ t=>MS h t n⟩
noncomputable def iQ {α:Type} (n:Nat) (x:α):It:=⟨fun r=>r,fun r=>MO (x=x) r n,fun _ t=>MS rfl t n⟩
def iZ:It:=iC zft
def i0:It:=iC (by decide:(0:Int)<=(0:Int))
def iH (k:Nat) (h:wF):It:=⟨fun r=>(k,h)::r,fun r=>r,fun _ t=>t⟩
noncomputable def iG (a c:Nat):It:=⟨fun r=>hgs r a c,fun r=>r,fun _ t=>t⟩
def iN {α:Type} (k:Nat) (f:α->AV) (l:List α):It:=⟨fun r=>(k,{ n:=l.length })::r,fun r=>((List.map f l).length=l.length)::r,fun _ t=>⟨by simp,t⟩⟩
def iM {α:Type} (f:α->AV) (l:List α):It:=⟨fun r=>r,fun r=>(l.length=(List.map f l).length)::r,fun _ t=>⟨by simp,t⟩⟩
def iF {α:Type} {l:List α} {i:Int} {x:α} (k:Nat) (f:α->AV) (h:yX l i=some x):It:=⟨fun r=>(k,{ av:=f x })::r,fun r=>(cF (l.map f) i=some (f x))::r,fun _ t=>⟨OC h,t⟩⟩
def iS {α:Type} (k:Nat) (f:α->AV) (b:List α) (i j:Int) (h0:0<=i) (h1:i<=j) (h2:j<=b.length):It :=
 ⟨fun r=>(k,{ l:=List.map f (sub b i j) })::r,fun r=>(0<=i)::(i<=j)::(j<=(((List.map f b).length:Nat):Int))::((sub b i j).map f=((b.map f).take j.toNat).drop i.toNat)::r,fun _ t=>⟨h0,h1,S8 h2,zAq _ _ _,t⟩⟩
def iT {α:Type} (k:Nat) (f:α->AV) (b:List α) (i:Int) (h0:0<=i) (h1:i<=b.length):It :=
 ⟨fun r=>(k,{ l:=List.map f (sub b i (lN b)) })::r,fun r=>(0<=i)::(i<=(((List.map f b).length:Nat):Int))::((((List.map f b).length:Nat):Int)<=(((List.map f b).length:Nat):Int))::((sub b i (lN b)).map f=((b.map f).take ((((b.map f).length:Nat):Int)).toNat).drop i.toNat)::r,fun _ t=>⟨h0,S8 h1,Int.le_refl _,zHA _ _,t⟩⟩
def iP {α:Type} (k id:Nat) (f:α->AV) (a b:List α) (w:Nat) (h:(a.length+b.length) * w<=140737488355328):It :=
 ⟨fun r=>(k,{ id:=id,l:=List.map f (a++b),n:=(a++b).length })::r,fun r=>(List.map f (a++b)=List.map f a++List.map f b)::((a++b).length=(List.map f (a++b)).length)::(((List.map f a).length+(List.map f b).length) * w<=140737488355328)::r,fun _ t=>⟨List.map_append,by simp,by simpa using h,t⟩⟩
def iJ {P:Program} {f:FuncId} {pre post:List Box} {l:List AV} {av:AV} (k:Nat) (hx:wF) (x:List AV) (h:yS P f pre [] l post av):It :=
 ⟨fun r=>(k,{ hx with av:=av,l:=l,pre:=pre,post:=post })::r,fun r=>(x=x)::(pre.map y7.live=pre.map y7.live)::yS P f pre [] l post av::r,fun _ t=>⟨rfl,rfl,h,t⟩⟩
def iK {P:Program} {f:FuncId} {pre post:List Box} {l:List AV} {av:AV} (k:Nat) (hx:wF) (h:yS P f pre [] l post av):It:=iJ k hx l h
def iL {P:Program} {f:FuncId} {pre post:List Box} {l':List AV} {av:AV} (k:Nat) (hx:wF) (l:List AV) (h:yS P f pre [] l' post av) (hl:jC (cP l l')) (h1:l'.all fM=true:=by kernel_rfl):It:=iJ k hx l (TJ h h1 hl)
def ups {α:Type} (l:List (Nat×α)) (d:List Nat) (nw:List (Nat×α)):List (Nat×α) :=
 nw++l.filter fun p=>!(d.any (Nat.beq p.1)||nw.any fun q=>Nat.beq q.1 p.1)
def kys {α:Type} (l:List (Nat×α)):List Nat:=l.map Prod.fst
def vls {α:Type} (l:List (Nat×α)):List α:=l.map Prod.snd
theorem TD {α:Type}:∀ l:List (Nat×α),(kys l).zip (vls l)=l
 | []=>rfl
 | (a,b)::r=>by
  show (a,b)::(kys r).zip (vls r)=_;rw [TD r]
section
variable {P:Program} {N np:Nat} {K:Exit->AS->Prop} {c:Code} {st:AS} {sl:List (Nat×AV)} {bx:List (Nat×y7)} {n:Nat} [hm:Mx P]
theorem rgX (its:List It) (sl2:List (Nat×AV)) (bx2:List (Nat×y7)) (n':Nat) (hk:K .normal (mk sl2 bx2 n')) (h:nH P N np c (ihs its) sl bx n (kys sl2) (kys bx2) n'=some (ivc its,vls sl2,vls bx2)):AW P N np c K (mk sl bx n):=by
 refine S9 (ihs its) (kys sl2) (kys bx2) n' h hm.h (iok its) ?_;rw [TD,TD];exact hk
theorem r2 (its:List It) (d:List Nat) (nw:List (Nat×AV)) (db:List Nat) (nb:List (Nat×y7)) (n':Nat) (hk:K .normal (mk (ups sl d nw) (ups bx db nb) n'))
  (h:nH P N np c (ihs its) sl bx n (kys (ups sl d nw)) (kys (ups bx db nb)) n'=some (ivc its,vls (ups sl d nw),vls (ups bx db nb)):=by kernel_rfl):AW P N np c K (mk sl bx n):=rgX its _ _ n' hk h
theorem r1 (its:List It) (d:List Nat) (nw:List (Nat×AV)) (hk:K .normal (mk (ups sl d nw) bx n))
  (h:nH P N np c (ihs its) sl bx n (kys (ups sl d nw)) (kys bx) n=some (ivc its,vls (ups sl d nw),vls bx):=by kernel_rfl):AW P N np c K (mk sl bx n):=rgX its _ _ n hk h
theorem r0 (its:List It) (nw:List (Nat×AV)) (hk:K .normal (mk (ups sl [] nw) bx n))
  (h:nH P N np c (ihs its) sl bx n (kys (ups sl [] nw)) (kys bx) n=some (ivc its,vls (ups sl [] nw),vls bx):=by kernel_rfl):AW P N np c K (mk sl bx n):=rgX its _ _ n hk h
theorem rE (its:List It) (sl2:List (Nat×AV)) (bx2:List (Nat×y7)) (n':Nat) (hk:K .normal (mk sl2 bx2 n'))
  (h:nH P N np c (ihs its) sl bx n (kys sl2) (kys bx2) n'=some (ivc its,vls sl2,vls bx2):=by kernel_rfl):AW P N np c K (mk sl bx n):=rgX its _ _ n' hk h
theorem s2 (its:List It) (d:List Nat) (nw:List (Nat×AV)) (db:List Nat) (nb:List (Nat×y7)) (n':Nat) (hk:gC P N np (Code.r c) K .normal (mk (ups sl d nw) (ups bx db nb) n'))
  (h:nH P N np (Code.l c) (ihs its) sl bx n (kys (ups sl d nw)) (kys (ups bx db nb)) n'=some (ivc its,vls (ups sl d nw),vls (ups bx db nb)):=by kernel_rfl) (hc:c=.seq (Code.l c) (Code.r c):=by kernel_rfl):AW P N np c K (mk sl bx n):=oS hc (rgX its _ _ n' hk h)
theorem s1 (its:List It) (d:List Nat) (nw:List (Nat×AV)) (hk:gC P N np (Code.r c) K .normal (mk (ups sl d nw) bx n))
  (h:nH P N np (Code.l c) (ihs its) sl bx n (kys (ups sl d nw)) (kys bx) n=some (ivc its,vls (ups sl d nw),vls bx):=by kernel_rfl) (hc:c=.seq (Code.l c) (Code.r c):=by kernel_rfl):AW P N np c K (mk sl bx n):=oS hc (rgX its _ _ n hk h)
theorem s0 (its:List It) (nw:List (Nat×AV)) (hk:gC P N np (Code.r c) K .normal (mk (ups sl [] nw) bx n))
  (h:nH P N np (Code.l c) (ihs its) sl bx n (kys (ups sl [] nw)) (kys bx) n=some (ivc its,vls (ups sl [] nw),vls bx):=by kernel_rfl) (hc:c=.seq (Code.l c) (Code.r c):=by kernel_rfl):AW P N np c K (mk sl bx n):=oS hc (rgX its _ _ n hk h)
theorem sE (its:List It) (sl2:List (Nat×AV)) (bx2:List (Nat×y7)) (n':Nat) (hk:gC P N np (Code.r c) K .normal (mk sl2 bx2 n'))
  (h:nH P N np (Code.l c) (ihs its) sl bx n (kys sl2) (kys bx2) n'=some (ivc its,vls sl2,vls bx2):=by kernel_rfl) (hc:c=.seq (Code.l c) (Code.r c):=by kernel_rfl):AW P N np c K (mk sl bx n):=oS hc (rgX its _ _ n' hk h)
omit hm in
theorem ch {α:Type} {b:Bool} {x y z:α} (t:Nat) (hf:(bif b then x else y)=z) (h1:b=true->x=z->AW P N np (Code.t c) K st) (h2:b=false->y=z->AW P N np (Code.e c) K st) (hc:c=.cond (.tmp t) (Code.t c) (Code.e c):=by kernel_rfl) (hs:st.slot t=.bool b:=by kernel_rfl):AW P N np c K st :=
 TZ hc hs (fun g=>h1 g (xN g hf)) (fun g=>h2 g (xO g hf))
omit hm in
theorem TV {R:Code} {t:Nat} {b:Bool} (h1:b=true->AW P N np (Code.t R) K st) (h2:b=false->AW P N np (Code.e R) K st) (hc:R=.cond (.tmp t) (Code.t R) (Code.e R)) (hs:st.slot t=.bool b):gC P N np R K .normal st :=
 TZ hc hs h1 h2
theorem c0 {α:Type} {b:Bool} {x y z:α} (its:List It) (t:Nat) (hf:(bif b then x else y)=z) (nw:List (Nat×AV)) (h1:b=true->x=z->AW P N np (Code.t (Code.r c)) K (mk (ups sl [] ((t,.bool b)::nw)) bx n)) (h2:b=false->y=z->AW P N np (Code.e (Code.r c)) K (mk (ups sl [] ((t,.bool b)::nw)) bx n))
  (h:nH P N np (Code.l c) (ihs its) sl bx n (kys (ups sl [] ((t,.bool b)::nw))) (kys bx) n=some (ivc its,vls (ups sl [] ((t,.bool b)::nw)),vls bx):=by kernel_rfl) (hc:c=.seq (Code.l c) (Code.r c):=by kernel_rfl) (hr:Code.r c=.cond (.tmp t) (Code.t (Code.r c)) (Code.e (Code.r c)):=by kernel_rfl)
  (hs:(mk (ups sl [] ((t,.bool b)::nw)) bx n).slot t=.bool b:=by kernel_rfl):AW P N np c K (mk sl bx n) :=
 s0 its _ (TV (fun g=>h1 g (xN g hf)) (fun g=>h2 g (xO g hf)) hr hs) h hc
theorem c1 {α:Type} {b:Bool} {x y z:α} (its:List It) (d:List Nat) (t:Nat) (hf:(bif b then x else y)=z) (nw:List (Nat×AV)) (h1:b=true->x=z->AW P N np (Code.t (Code.r c)) K (mk (ups sl d ((t,.bool b)::nw)) bx n)) (h2:b=false->y=z->AW P N np (Code.e (Code.r c)) K (mk (ups sl d ((t,.bool b)::nw)) bx n))
  (h:nH P N np (Code.l c) (ihs its) sl bx n (kys (ups sl d ((t,.bool b)::nw))) (kys bx) n=some (ivc its,vls (ups sl d ((t,.bool b)::nw)),vls bx):=by kernel_rfl) (hc:c=.seq (Code.l c) (Code.r c):=by kernel_rfl) (hr:Code.r c=.cond (.tmp t) (Code.t (Code.r c)) (Code.e (Code.r c)):=by kernel_rfl)
  (hs:(mk (ups sl d ((t,.bool b)::nw)) bx n).slot t=.bool b:=by kernel_rfl):AW P N np c K (mk sl bx n) :=
 s1 its d _ (TV (fun g=>h1 g (xN g hf)) (fun g=>h2 g (xO g hf)) hr hs) h hc
omit hm in
theorem am (t:Nat) (b:Bool) (h1:AW P N np c (fun e st'=>e=.normal/\Sub np st' (mk ((t,.bool b)::sl) bx n)) (mk sl bx n)) (h2:K .normal (mk ((t,.bool b)::sl) bx n)):AW P N np c K (mk sl bx n):=xP _ h1 h2
omit hm in
theorem ad {α:Type} {b:Bool} {x y z:α} (t:Nat) (hf:(bif b then x else y)=z) (h0:AW P N np (Code.l c) (fun e st'=>e=.normal/\Sub np st' (mk ((t,.bool b)::sl) bx n)) (mk sl bx n))
  (h1:b=true->x=z->AW P N np (Code.t (Code.r c)) K (mk ((t,.bool b)::sl) bx n)) (h2:b=false->y=z->AW P N np (Code.e (Code.r c)) K (mk ((t,.bool b)::sl) bx n))
  (hc:c=.seq (Code.l c) (Code.r c):=by kernel_rfl) (hr:Code.r c=.cond (.tmp t) (Code.t (Code.r c)) (Code.e (Code.r c)):=by kernel_rfl) (hs:(mk ((t,.bool b)::sl) bx n).slot t=.bool b:=by kernel_rfl):AW P N np c K (mk sl bx n) :=
 oS hc (xP _ h0 (TV (fun g=>h1 g (xN g hf)) (fun g=>h2 g (xO g hf)) hr hs))
theorem rm {t:Nat} {b b':Bool} {sl0:List (Nat×AV)} {bx0:List (Nat×y7)} {n0:Nat} (its:List It) (hb:b=b')
  (h:nH P N np c (ihs its) sl bx n (t::kys sl0) (kys bx0) n0=some (ivc its,.bool b::vls sl0,vls bx0):=by kernel_rfl):AW P N np c (fun e st'=>e=.normal/\Sub np st' (mk ((t,.bool b')::sl0) bx0 n0)) (mk sl bx n):=by
 subst hb;exact rgX its ((t,.bool b)::sl0) bx0 n0 ⟨rfl,Sub.refl _ _⟩ h
omit hm in
theorem wz (ρ ids sa ba:List Nat) {vcs:List Prop} (sl2:List (Nat×AV)) (bx2:List (Nat×y7)) (hv:jC vcs) (k:AW P N np c K (mk sl2 bx2 ρ.length))
  (h:wkm np st ρ ids (sl2.map fun p=>bif sa.any (Nat.beq p.1) then .a p.1 p.2 else .s p.1) (bx2.map fun p=>bif ba.any (Nat.beq p.1) then .a p.1 p.2 else .s p.1)=some (vcs,sl2,bx2):=by kernel_rfl):AW P N np c K st:=qB (cX ρ ids _ _ h hv) k
omit hm in
theorem w0 (ρ ids:List Nat) (sl2:List (Nat×AV)) (bx2:List (Nat×y7)) (k:AW P N np c K (mk sl2 bx2 ρ.length))
  (h:wkm np st ρ ids (sl2.map fun p=>.s p.1) (bx2.map fun p=>.s p.1)=some ([],sl2,bx2):=by kernel_rfl):AW P N np c K st:=qB (cX ρ ids _ _ h an) k
omit hm in
theorem sI {sl2:List (Nat×AV)} {bx2:List (Nat×y7)} (m:Nat) (sps:List Nat) (h:wkm np st (List.range m) [] (sps.map Sp.s) ((List.range m).map Bp.s)=some ([],sl2,bx2):=by kernel_rfl):Sub np st (mk sl2 bx2 m):=by
 have:=cX (List.range m) [] _ _ h an
 rwa [List.length_range] at this
omit hm in
theorem sJ {sl2:List (Nat×AV)} {bx2:List (Nat×y7)} (ρ sps:List Nat) (h:wkm np st ρ [] (sps.map Sp.s) ((List.range ρ.length).map Bp.s)=some ([],sl2,bx2):=by kernel_rfl):Sub np st (mk sl2 bx2 ρ.length):=cX ρ [] _ _ h an
omit hm in
theorem rx {fn:Func} {post:List Box} {res:AV} (h1:Nat.ble np post.length=true:=by kernel_rfl) (h2:EJ P fn post.length st=some (res,post.map y7.live):=by kernel_rfl):Fin P fn np post res .ret st :=
 ⟨.inr rfl,zle h1,h2⟩
omit hm in
theorem ry {fn:Func} {post:List Box} {res:AV} (h1:Nat.ble np post.length=true:=by kernel_rfl) (h2:EJ P fn post.length st=some (res,post.map y7.live):=by kernel_rfl):Exit.ret=Exit.ret/\OI P fn np post res st :=
 ⟨rfl,zle h1,h2⟩
end
theorem tI {P:Program} {f:FuncId} {pre:List Box} {args:List AV} {post:List Box} {res:AV} (fn:Func) (h:AW P fn.ntmps pre.length (D4 fn) (Fin P fn pre.length post res) (mk (dX args) (fB pre) pre.length))
  (hf:P.funcs[f]?=some fn:=by kernel_rfl) (hb:fn.body=some (D4 fn):=by kernel_rfl) (hl:Nat.ble args.length fn.ntmps=true:=by kernel_rfl):DJ P f pre args post res:=U2 hf hb (zle hl) h
def kS {α β:Type} (P:Program) (o:α⊕β) (np:Nat) (M:α->AS) (fn:Func) (post:β->List Box) (res:β->AV):Exit->AS->Prop :=
 fun e st'=>match o with
 | .inl q=>e=.normal/\Sub np st' (M q)
 | .inr q=>e=.ret/\OI P fn np (post q) (res q) st'
theorem bE {α β:Type} {x:Option α} {f:α->Option β} {r:β} {G:Prop} (h:x.bind f=some r) (k:∀ a,x=some a->f a=some r->G):G :=
 let ⟨a,h1,h2⟩:=qN h
 k a h1 h2
theorem nE {β:Type} {p:Prop} [Decidable p] {f:Unit->Option β} {r:β} {G:Prop} (h:(need p).bind f=some r) (k:p->f ()=some r->G):G :=
 let ⟨_,h1,h2⟩:=qN h
 k (UM h1) h2
theorem zne:([]:List y7)=[]:=rfl
end Go.Ab
