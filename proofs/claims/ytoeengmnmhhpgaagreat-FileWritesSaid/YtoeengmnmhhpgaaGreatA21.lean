/- A layer over the model: abstract values and states, and the rules by which the printed proofs go. No conditions. -/
import Derived.Test.YtoeengmnmhhpgaaGreatA20
/- The rules for code. -/
namespace Go.Ab
open Go
def AW (P:Program) (N np:Nat) (c:Code) (K:Exit->AS->Prop) (st:AS):Prop :=
 ∀ G a w,G.n=N->G.foot.length=np->Rel G st a w->c.wp P (fun e a' w'=>∃ st',K e st'/\Rel G st' a' w') a w
section
variable {P:Program} {N np:Nat} {K:Exit->AS->Prop} {st:AS} {c:Code}
def gC (P:Program) (N np:Nat) (y:Code) (K:Exit->AS->Prop):Exit->AS->Prop
 | .normal,st=>AW P N np y K st
 | e,st=>K e st
def WU (id:Nat) (K:Exit->AS->Prop):Exit->AS->Prop
 | .exit id',st=>bif Nat.beq id' id then K .normal st else K (.exit id') st
 | e,st=>K e st
def Code.l:Code->Code | .seq a _=>a | c=>c
def Code.r:Code->Code | .seq _ b=>b | c=>c
def Code.b:Code->Code | .block _ b=>b | .loop b=>b | c=>c
def Code.t:Code->Code | .cond _ t _=>t | c=>c
def Code.e:Code->Code | .cond _ _ e=>e | c=>c
theorem oS (hc:c=.seq (Code.l c) (Code.r c)) (h:AW P N np (Code.l c) (gC P N np (Code.r c) K) st):AW P N np c K st:=by
 intro G a w hN hnp hR;rw [hc];refine wp_seq (Code.wp_mono ?_ (h G a w hN hnp hR));rintro e a' w' ⟨st',hk,hR'⟩;cases e with
 | normal=>exact hk G a' w' hN hnp hR'
 | _=>exact ⟨st',hk,hR'⟩
theorem zBs (hc:c=.skip) (h:K .normal st):AW P N np c K st:=by
 intro G a w _ _ hR;rw [hc];exact wp_skip ⟨st,h,hR⟩
theorem zCr (hc:c=.ret) (h:K .ret st):AW P N np c K st:=by
 intro G a w _ _ hR;rw [hc];exact wp_ret ⟨st,h,hR⟩
theorem wB {id:Nat} (hc:c=.exit id) (h:K (.exit id) st):AW P N np c K st:=by
 intro G a w _ _ hR;rw [hc];exact wp_exit ⟨st,h,hR⟩
theorem yQ {id:Nat} (hc:c=.block id (Code.b c)) (h:AW P N np (Code.b c) (WU id K) st):AW P N np c K st:=by
 intro G a w hN hnp hR;rw [hc];refine wp_block (Code.wp_mono ?_ (h G a w hN hnp hR));rintro e a' w' ⟨st',hk,hR'⟩;cases e with
 | exit id' =>
  simp only [WU] at hk;simp only [Exit.inBlock]
  split
  ·rename_i h;rw [h,O0] at hk;exact ⟨st',hk,hR'⟩
  ·rename_i h;rw [kJ h] at hk;exact ⟨st',hk,hR'⟩
 | _=>exact ⟨st',hk,hR'⟩
theorem TZ {t:Nat} {b:Bool} (hc:c=.cond (.tmp t) (Code.t c) (Code.e c)) (hs:st.slot t=.bool b) (h1:b=true->AW P N np (Code.t c) K st) (h2:b=false->AW P N np (Code.e c) K st) :
  AW P N np c K st:=by
 intro G a w hN hnp hR;have hR0:=hR;obtain ⟨T,hT⟩:=hR;have hr:=hT.slots t;rw [hs] at hr;have he:a.eval (.tmp t)=.bool b:=by
  show a.tmps.getD t undef=.bool b;generalize a.tmps.getD t undef=v at hr;cases hr;rfl
 rw [hc];refine wp_cond_split he (fun hb=>h1 hb G a w hN hnp hR0) (fun hb=>h2 hb G a w hN hnp hR0)
theorem GS {t:Nat} {l:List AV} (hc:c=.cond (.tmp t) (Code.t c) (Code.e c)) (hs:st.slot t=.nb l) (h1:l=[]->AW P N np (Code.t c) K st) (h2:AW P N np (Code.e c) K st) :
  AW P N np c K st:=by
 intro G a w hN hnp hR;have hR0:=hR;obtain ⟨T,hT⟩:=hR;have hr:=hT.slots t;rw [hs] at hr;obtain ⟨b,he,hb⟩:∃ b,a.eval (.tmp t)=.bool b/\(b=true->l=[]):=by
  show ∃ b,a.tmps.getD t undef=.bool b/\_;generalize a.tmps.getD t undef=v at hr;cases hr with
  | nb h=>exact ⟨_,rfl,h⟩
 rw [hc];exact wp_cond_split he (fun h=>h1 (hb h) G a w hN hnp hR0) (fun _=>h2 G a w hN hnp hR0)
theorem zCH (I:Nat->AS->Prop) (n:Nat) (hc:c=.loop (Code.b c)) (h0:I n st)
  (h:∀ n st,I n st->AW P N np (Code.b c) (fun e st'=>match e with | .normal=>∃ m,m<n/\I m st' | e=>K e st') st):AW P N np c K st:=by
 intro G a w hN hnp hR;rw [hc];generalize hb:Code.b c=body at h;intro b k cs;have key:∀ n a w,(∃ st,I n st/\Rel G st a w) ->
   ∃ e a' w',(∃ st',K e st'/\Rel G st' a' w')/\Arrives P (lone (b.at a (.code body::.inLoop body::k)) cs w) b k cs e a' w':=by
  intro n
  induction n using Nat.strongRecOn with
  | _ n ih =>
   rintro a w ⟨st,hI,hR⟩;obtain ⟨e,a₁,w₁,⟨st',hq,hR'⟩,harr⟩:=h n st hI G a w hN hnp hR b (.inLoop body::k) cs;cases e with
   | normal =>
    obtain ⟨m,hlt,hI'⟩:=hq;obtain ⟨e₂,a₂,w₂,hq₂,harr₂⟩:=ih m hlt a₁ w₁ ⟨st',hI',hR'⟩;exact ⟨e₂,a₂,w₂,hq₂,.of_steps (Steps.trans harr (.one step_inLoop)) harr₂⟩
   | exit id=>exact ⟨_,a₁,w₁,⟨st',hq,hR'⟩,.pass (x:=.inLoop body) rfl (fun _ _=>.inl (by simp)) harr⟩
   | goto l=>exact ⟨_,a₁,w₁,⟨st',hq,hR'⟩,.pass (x:=.inLoop body) rfl (fun _ _=>.inl (by simp)) harr⟩
   | ret=>exact ⟨_,a₁,w₁,⟨st',hq,hR'⟩,.pass (x:=.inLoop body) rfl (fun _ _=>.inl (by simp)) harr⟩
   | panic ch=>exact ⟨_,a₁,w₁,⟨st',hq,hR'⟩,.pass (x:=.inLoop body) rfl (fun _ _=>.inl (by simp)) harr⟩
   | outgrown=>exact ⟨_,a₁,w₁,⟨st',hq,hR'⟩,.pass (x:=.inLoop body) rfl (fun _ _=>.inl (by simp)) harr⟩
 obtain ⟨e,a',w',hq,harr⟩:=key n a w ⟨st,h0,hR⟩;exact ⟨e,a',w',hq,.of_steps (.one step_loop) harr⟩
theorem zHv {K':Exit->AS->Prop} (h:AW P N np c K st) (hk:∀ e st,K e st->K' e st):AW P N np c K' st:=by
 intro G a w hN hnp hR;refine Code.wp_mono ?_ (h G a w hN hnp hR);rintro e a' w' ⟨st',h1,h2⟩;exact ⟨st',hk _ _ h1,h2⟩
end
/-! Regions. -/
def mk (sl:List (Nat×AV)) (bx:List (Nat×y7)) (n:Nat):AS :=
 ⟨pT sl,fun i=>uJ bx i (bif Nat.blt i n then .dead else .unused)⟩
def jC:List Prop->Prop
 | []=>True
 | p::r=>p/\jC r
theorem N2 {l:List Prop} (h:jC l):∀ p∈l,p:=by
 induction l with
 | nil=>intro p hp;cases hp
 | cons a r ih =>
  intro p hp;cases hp with
  | head=>exact h.1
  | tail _ hp=>exact ih h.2 p hp
def nH (P:Program) (N np:Nat) (c:Code) (hs:List (Nat×wF)) (sl:List (Nat×AV)) (bx:List (Nat×y7)) (n:Nat) (live bl:List Nat) (n':Nat):Option (List Prop×List AV×List y7) :=
 match c with
 | .region _ ops draw =>
  match EA P N np ops hs ops.toList 0 (mk sl bx n) with
  | some (vcs,st',ess) =>
   bif ((!draw||OH ops.toList ess)&&(Nat.ble n n'&&(bl.all fun i=>Nat.blt i n')))&&((bx.all fun x=>Nat.blt x.1 n)&&ess.all fun es=>(pH es).all fun i=>Nat.blt i n') then
    some (vcs,live.map st'.slot,bl.map st'.box)
   else none
  | none=>none
 | _=>none
theorem zDO {live:List Nat} {f:Nat->AV} {t:Nat}:pT (live.zip (live.map f)) t=f t\/pT (live.zip (live.map f)) t=.junk:=by
 induction live with
 | nil=>exact .inr rfl
 | cons a r ih =>
  simp only [List.map_cons,List.zip_cons_cons,pT];cases h:Nat.beq t a
  ·exact ih
  ·rw [w7.1 h];exact .inl rfl
theorem zHc {bl:List Nat} {f:Nat->y7} {i:Nat} {d:y7}:(i∈bl/\uJ (bl.zip (bl.map f)) i d=f i)\/(i∉bl/\uJ (bl.zip (bl.map f)) i d=d):=by
 induction bl with
 | nil=>exact .inr ⟨by simp,rfl⟩
 | cons a r ih =>
  simp only [List.map_cons,List.zip_cons_cons,uJ];cases h:Nat.beq i a
  ·simp only [cond_false];have hne:i≠a:=fun e=>by subst e;simp at h
   rcases ih with ⟨h1,h2⟩ | ⟨h1,h2⟩
   ·exact .inl ⟨by simp [h1],h2⟩
   ·exact .inr ⟨by simp [h1,hne],h2⟩
  ·have:=w7.1 h
   subst this;exact .inl ⟨by simp,rfl⟩
theorem Rel.weak {G:tK} {st st2:AS} {a:Act} {w:World} (h:Rel G st a w) (hs:∀ t,st2.slot t=st.slot t\/st2.slot t=.junk)
  (hb:∀ i,st2.box i=st.box i\/st2.box i=.dead):Rel G st2 a w:=by
 obtain ⟨T,hT⟩:=h;have hlive:∀ i bx,st2.box i=.live bx->st.box i=.live bx:=by
  intro i bx hl;rcases hb i with h | h
  ·rw [<- h];exact hl
  ·rw [h] at hl;cases hl
 have himm:∀ b,imm G st T b->imm G st2 T b:=fun b hb=>⟨hb.1,fun id bx cap hl hTi=>hb.2 id bx cap (hlive id bx hl) hTi⟩
 refine ⟨T,hT.defers,hT.size,?_,?_,?_,?_,?_,hT.foot,hT.kept⟩
 ·intro t;rcases hs t with h | h
  ·rw [h];exact (hT.slots t).mono (Nat.le_refl _) (fun _ _ _=>rfl) (fun b hb _=>himm b hb) (fun _ _ h=>h)
  ·rw [h];exact .junk
 ·intro i bx hl;exact (hT.boxes i bx (hlive i bx hl)).mono (Nat.le_refl _) (fun _ _ _=>rfl) (fun b hb _=>himm b hb) (fun _ _ h=>h) (fun _ _ _ _=>rfl)
 ·intro i hu;rcases hb i with h | h
  ·exact hT.unused i (by rw [<- h];exact hu)
  ·rw [h] at hu;cases hu
 ·intro i1 i2 b1 b2 b c1 c2 h1 h2;exact hT.apart i1 i2 b1 b2 b c1 c2 (hlive _ _ h1) (hlive _ _ h2)
 ·intro i bx b cap hl;exact hT.mine i bx b cap (hlive _ _ hl)
theorem zDd:∀ (ess:List (List Eff)) (st st':AS) (n':Nat),dG ess st st'->(ess.all fun es=>(pH es).all fun i=>Nat.blt i n')=true->∀ i,n'<=i->st'.box i=st.box i:=by
 intro ess
 induction ess with
 | nil=>intro st st' n' h _ i _;simp only [dG] at h;rw [h]
 | cons es r ih =>
  intro st st' n' h ha i hi;simp only [List.all_cons,zba] at ha;rw [ih _ _ _ h.2 ha.2 i hi];refine cM fun hm=>?_
  have:=List.all_eq_true.1 ha.1 i hm
  simp [Nat.blt] at this;omega
theorem S9 {P:Program} {N np:Nat} {K:Exit->AS->Prop} {c:Code} {sl:List (Nat×AV)} {bx:List (Nat×y7)} {n:Nat} (hs:List (Nat×wF)) (live bl:List Nat) (n':Nat) {vcs:List Prop} {vals:List AV} {bxs:List y7}
  (h:nH P N np c hs sl bx n live bl n'=some (vcs,vals,bxs)) (hm:P.follows .mixedOrders=true) (hv:jC vcs) (hk:K .normal (mk (live.zip vals) (bl.zip bxs) n')):AW P N np c K (mk sl bx n):=by
 intro G a w hN hnp hR;unfold nH at h
 split at h
 case h_2=>cases h
 rename_i id ops draw
 split at h
 case h_2=>cases h
 rename_i vcs' st' ess hareg
 replace h:=x8 h;obtain ⟨hc,h⟩:=h;simp only [zba,Bool.or_eq_true,Bool.not_eq_true'] at hc;obtain ⟨⟨hord,hnn,hbl⟩,hbx,hwb⟩:=hc;simp only [Option.some.injEq,Prod.mk.injEq] at h;obtain ⟨rfl,rfl,rfl⟩:=h;obtain ⟨k1,k2,k3⟩:=zEf _ _ _ _ hareg (N2 hv);simp only at k1 k2 k3;have hfin:∀ a w,Rel G st' a w->∃ st'',K .normal st''/\Rel G st'' a w:=by
  intro a w hR';refine ⟨_,hk,hR'.weak (fun t=>zDO) (fun i=>?_)⟩;have e0:(mk (live.zip (live.map st'.slot)) (bl.zip (bl.map st'.box)) n').box i=uJ (bl.zip (bl.map st'.box)) i (bif Nat.blt i n' then .dead else .unused):=rfl;rw [e0];rcases zHc (bl:=bl) (f:=st'.box) (i:=i) (d:=bif Nat.blt i n' then .dead else .unused) with ⟨_,h⟩ | ⟨_,h⟩
  ·exact .inl h
  ·rw [h];cases hlt:Nat.blt i n'
   ·left
    have hge:n'<=i:=by
     rcases zlg i n' with h' | h'
     ·have:Nat.blt i n'=true:=by simp [Nat.blt];omega
      rw [this] at hlt;cases hlt
     ·exact h'
    have hle:=D7 hnn;rw [zDd ess _ _ n' k1 hwb i hge];simp only [mk];rw [zAs]
    ·have:Nat.blt i n=false:=by
      cases h0:Nat.blt i n
      ·rfl
      ·simp [Nat.blt] at h0;omega
     rw [this]
    ·intro hm';simp only [List.mem_map] at hm';obtain ⟨x,hx,rfl⟩:=hm'
     have:=List.all_eq_true.1 hbx x hx
     simp [Nat.blt] at this;omega
   ·exact .inr rfl
 cases draw with
 | false =>
  exact wp_region_list (zGd hN hnp ops.toList ess _ st' a w k1 k2 k3 hR hfin)
 | true =>
  have hord':OH ops.toList ess=true:=by
   rcases hord with h | h
   ·cases h
   ·exact h
  obtain ⟨o1,o2⟩:=zBu hord';have hdrew:Rel G (mk sl bx n) a { w with drawn:=w.drawn+1 }:=by
   obtain ⟨T,hT⟩:=hR;refine ⟨T,hT.defers,hT.size,fun t=>(hT.slots t).mono (Nat.le_refl _) (fun _ _ _=>rfl) (fun _ h _=>h) (fun _ _ h=>h),
    fun i bx hl=>(hT.boxes i bx hl).mono (Nat.le_refl _) (fun _ _ _=>rfl) (fun _ h _=>h) (fun _ _ h=>h) (fun _ _ _ _=>rfl),hT.unused,hT.apart,hT.mine,hT.foot,
    ⟨hT.kept.os,hT.kept.tape,hT.kept.output,hT.kept.size,hT.kept.block⟩⟩
  refine wp_region_any hm ?_;have hrem:pI ops.size (Array.replicate ops.size false)=List.range ops.size:=by
   unfold pI;apply List.filter_eq_self.2;intro i hi
   have:=List.mem_range.1 hi
   simp [Array.getD_eq_getD_getElem?,this]
  have hess:(List.range ops.size).map (fun i=>ess.getD i [])=ess:=by
   apply List.ext_getElem?;intro i;rw [List.getElem?_map];rcases zlg i ops.size with hlt | hge
   ·have:i<ess.length:=by rw [k2];simpa using hlt
    simp [hlt,List.getD,List.getElem?_eq_getElem this]
   ·rw [List.getElem?_eq_none (by simpa using hge),List.getElem?_eq_none (by rw [k2];simpa using hge)];rfl
  refine zIg hN hnp (by rw [k2];simp) ?_ ?_ ?_ hfin ops.size _ (mk sl bx n) a _ (by simp) (by rw [hrem];simp) ?_ (by rw [hrem,hess];exact k1) hdrew
  ·intro j o es hj hj';exact k3 j o es (by rw [Array.getElem?_toList];exact hj) hj'
  ·intro i j es fs hij hi hj;exact o2 i j es fs hij hi hj
  ·intro j o ho;exact o1 j o (by rw [Array.getElem?_toList];exact ho)
  ·intro j o ho hl;have hlt:j<ops.size:=by
    rcases zlg j ops.size with h' | h'
    ·exact h'
    ·rw [Array.getElem?_eq_none h'] at ho;cases ho
   simp [Array.getD_eq_getD_getElem?,hlt] at hl
end Go.Ab

/- A state seen otherwise: less known, other names, rows given away. -/
namespace Go.Ab
open Go
def Sub (np:Nat) (st st2:AS):Prop:=∀ G a w,G.foot.length=np->Rel G st a w->Rel G st2 a w
theorem qB {P:Program} {N np:Nat} {c:Code} {K:Exit->AS->Prop} {st st2:AS} (hs:Sub np st st2) (h:AW P N np c K st2):AW P N np c K st :=
 fun G a w hN hnp hR=>h G a w hN hnp (hs G a w hnp hR)
def lo1 (x y:AV):List Prop :=
 match x,y with
 | .nilsl,.sl _ _ l=>[l=[]]
 | .sl f s l,.sl f' s' l'=>[s=s',l=l',(!f'||f)=true]
 | .fm n l,.fm n' l'=>[n=n',l=l']
 | _,.junk=>[]
 | x,y=>[x=y]
def los:List AV->List AV->List Prop
 | [],[]=>[]
 | x::r,y::s=>lo1 x y++los r s
 | _,_=>[False]
def loA (x y:AV):List Prop :=
 match x,y with
 | .agg cs,.agg ds=>los cs ds
 | x,y=>lo1 x y
def cP:List AV->List AV->List Prop
 | [],[]=>[]
 | x::r,y::s=>loA x y++cP r s
 | _,_=>[False]
def loT (x y:AV):List Prop :=
 match x,y with
 | .tuple cs,.tuple ds=>cP cs ds
 | x,y=>loA x y
theorem LT {w:World} {I:Nat->Prop} {T:Tbl} {v:Value} {x y:AV} (h:Rep w I T v x) (hl:∀ p∈lo1 x y,p):Rep w I T v y:=by
 unfold lo1 at hl
 split at hl
 ·rename_i f s l
  have:l=[]:=hl _ (by simp)
  subst this;cases h;exact .sl0 (by simp [maxLen]) (fun _=>rfl)
 ·rename_i f s l f' s' l'
  have e1:s=s':=hl _ (by simp);have e2:l=l':=hl _ (by simp);have e3:(!f'||f)=true:=hl _ (by simp);subst e1;subst e2;have imp:f'=true->f=true:=by
   intro hf;rw [hf] at e3;simpa using e3
  cases h with
  | sl0 a b=>exact .sl0 a (fun hf=>b (imp hf))
  | sl g h1 h2 h3 h4 h5 h6 h7 h8 h9 h10=>exact .sl g h1 h2 h3 (fun hf=>h4 (imp hf)) h5 h6 h7 h8 h9 h10
 ·rename_i n l n' l'
  have e1:n=n':=hl _ (by simp);have e2:l=l':=hl _ (by simp);rw [<- e1,<- e2];exact h
 ·exact .junk
 ·have:=hl (x=y) (by simp)
  rw [<- this];exact h
theorem YL {xs ys:List AV} (h:∀ p∈los xs ys,p):xs.length=ys.length/\∀ (j:Nat) (x y:AV),xs[j]?=some x->ys[j]?=some y->∀ p∈lo1 x y,p:=by
 induction xs generalizing ys with
 | nil =>
  cases ys with
  | nil=>exact ⟨rfl,fun j x y hj=>by simp at hj⟩
  | cons b s=>exact (h False (by simp [los])).elim
 | cons a r ih =>
  cases ys with
  | nil=>exact (h False (by simp [los])).elim
  | cons b s =>
   simp only [los,List.mem_append] at h;obtain ⟨k1,k2⟩:=ih (ys:=s) (fun p hp=>h p (.inr hp));refine ⟨by simp [k1],fun j x y hx hy p hp=>?_⟩;cases j with
   | zero=>simp at hx hy;subst hx;subst hy;exact h p (.inl hp)
   | succ j=>exact k2 j x y (by simpa using hx) (by simpa using hy) p hp
theorem ZY {xs ys:List AV} (h:∀ p∈cP xs ys,p):xs.length=ys.length/\∀ (j:Nat) (x y:AV),xs[j]?=some x->ys[j]?=some y->∀ p∈loA x y,p:=by
 induction xs generalizing ys with
 | nil =>
  cases ys with
  | nil=>exact ⟨rfl,fun j x y hj=>by simp at hj⟩
  | cons b s=>exact (h False (by simp [cP])).elim
 | cons a r ih =>
  cases ys with
  | nil=>exact (h False (by simp [cP])).elim
  | cons b s =>
   simp only [cP,List.mem_append] at h;obtain ⟨k1,k2⟩:=ih (ys:=s) (fun p hp=>h p (.inr hp));refine ⟨by simp [k1],fun j x y hx hy p hp=>?_⟩;cases j with
   | zero=>simp at hx hy;subst hx;subst hy;exact h p (.inl hp)
   | succ j=>exact k2 j x y (by simpa using hx) (by simpa using hy) p hp
def fM:AV->Bool
 | .agg ds=>k8 ds
 | _=>true
def gH:AV->Bool
 | .tuple vs=>vs.all fM
 | v=>fM v
theorem T2 {w:World} {I:Nat->Prop} {T:Tbl} {v:Value} {x y:AV} (h:Rep w I T v x) (hl:∀ p∈loA x y,p) (h1:fM y=true):Rep w I T v y:=by
 unfold loA at hl
 split at hl
 ·rename_i cs ds
  obtain ⟨k1,k2⟩:=YL hl;cases h with
  | agg a b c =>
   refine .agg (by rw [a,k1]) (R5 h1) fun j y hy=>?_
   have hlt:j<cs.length:=by
    rw [k1];rcases zlg j ds.length with h' | h'
    ·exact h'
    ·rw [List.getElem?_eq_none h'] at hy;cases hy
   exact LT (c j _ (List.getElem?_eq_getElem hlt)) (k2 j _ y (List.getElem?_eq_getElem hlt) hy)
 ·exact LT h hl
theorem zF1 {w:World} {I:Nat->Prop} {T:Tbl} {v:Value} {x y:AV} (h:Rep w I T v x) (hl:∀ p∈loT x y,p) (h1:gH y=true):Rep w I T v y:=by
 unfold loT at hl
 split at hl
 ·rename_i cs ds
  obtain ⟨k1,k2⟩:=ZY hl;simp only [gH,List.all_eq_true] at h1;cases h with
  | tuple a c =>
   refine .tuple (by rw [a,k1]) fun j y hy=>?_
   have hlt:j<cs.length:=by
    rw [k1];rcases zlg j ds.length with h' | h'
    ·exact h'
    ·rw [List.getElem?_eq_none h'] at hy;cases hy
   exact T2 (c j _ (List.getElem?_eq_getElem hlt)) (k2 j _ y (List.getElem?_eq_getElem hlt) hy) (h1 y (List.mem_of_getElem? hy))
 ·rename_i hno
  by_cases hy:∃ ds,y=.tuple ds
  ·obtain ⟨ds,rfl⟩:=hy;have e:loA x (.tuple ds)=lo1 x (.tuple ds):=by cases x<;>rfl
   rw [e] at hl;exact LT h hl
  ·refine T2 h hl ?_;cases y<;>first | exact h1 | exact absurd ⟨_,rfl⟩ hy
def QZ (n:Nat):y7->Bool
 | .live b=>AR n b
 | _=>true
def jJ (B:Nat->y7) (ids ρ:List Nat) (b:y7) (b2:y7):List Prop :=
 match b,b2 with
 | .live (.var t cs),.live (.var t' ds)=>[t=t',k8 ds=true]++(cs.flatMap (cI B ids)++los (cs.map (bG B ids)) (uns ρ ds))
 | .live (.row e s l),.live (.row e' s' l')=>[e=e',s=s',l=l']
 | .live (.map a k l),.live (.map a' k' l')=>[a=a',k=k',l=l']
 | _,.dead=>[]
 | _,_=>[False]
def mW:List Nat->List Nat->Bool
 | [],[]=>true
 | a::r,b::s=>Nat.beq a b&&mW r s
 | _,_=>false
theorem zDc {a b:List Nat} (h:mW a b=true):a=b:=by
 induction a generalizing b with
 | nil=>cases b<;>simp_all [mW]
 | cons x r ih =>
  cases b with
  | nil=>simp [mW] at h
  | cons y s =>
   simp only [mW,zba] at h;rw [w7.1 h.1,ih h.2]
def K8 (np:Nat) (st:AS) (ρ ids:List Nat) (sl2:List (Nat×AV)) (bx2:List (Nat×y7)):Option (List Prop) :=
 bif ((kQ ρ&&mW (ρ.take np) (List.range np))&&(ids.all fun i=>oD (st.box i)&&Nat.ble np i)) &&
   ((sl2.all fun x=>(uS ρ.length x.2&&gH x.2)&&lL (frz st.box ids (st.slot x.1))) &&
    (bx2.all fun x=>(Nat.blt x.1 ρ.length&&QZ ρ.length x.2)&&(match x.2 with | .live (.row ..)=>!(ids.any (Nat.beq (ρ.getD x.1 0))) | .unused=>false | _=>true))) then
  some (sl2.flatMap (fun x=>cE st.box ids (st.slot x.1)++loT (frz st.box ids (st.slot x.1)) (un ρ x.2)) ++
   bx2.flatMap (fun x=>jJ st.box ids ρ (st.box (ρ.getD x.1 0)) x.2))
 else none
theorem VX {ρ:List Nat} {cs:List AV}:k8 (uns ρ cs)=k8 cs:=by
 induction cs with
 | nil=>rfl
 | cons a r ih=>simp [uns,k8,YG,ih]
theorem zDp {ρ:List Nat} {a:AV}:fM (un ρ a)=fM a:=by cases a<;>simp [un,fM,VX]
theorem zIE {ρ:List Nat} {a:AV}:gH (un ρ a)=gH a:=by
 cases a with
 | tuple vs =>
  simp only [un,gH]
  induction vs with
  | nil=>rfl
  | cons x r ih=>simp [uns,zDp,ih]
 | agg cs=>simp [un,gH,fM,VX]
 | _=>rfl
theorem zG1 {sl:List (Nat×AV)} {t:Nat}:pT sl t=.junk\/(t,pT sl t)∈sl:=by
 induction sl with
 | nil=>exact .inl rfl
 | cons x r ih =>
  obtain ⟨k,v⟩:=x;simp only [pT];cases h:Nat.beq t k
  ·rcases ih with h' | h'
   ·exact .inl h'
   ·exact .inr (by simp [h'])
  ·rw [w7.1 h];exact .inr (by simp)
theorem zAe {bx:List (Nat×y7)} {i:Nat} {d:y7}:(i∉bx.map (·.1)/\uJ bx i d=d)\/(i,uJ bx i d)∈bx:=by
 induction bx with
 | nil=>exact .inl ⟨by simp,rfl⟩
 | cons x r ih =>
  obtain ⟨k,v⟩:=x;simp only [uJ];cases h:Nat.beq i k
  ·have hne:i≠k:=fun e=>by subst e;simp at h
   rcases ih with ⟨h1,h2⟩ | h'
   ·exact .inl ⟨by simp only [List.map_cons,List.mem_cons,not_or];exact ⟨hne,h1⟩,h2⟩
   ·exact .inr (by simp [h'])
  ·rw [w7.1 h];exact .inr (by simp)
theorem zC3 {np:Nat} {st:AS} (ρ ids:List Nat) (sl2:List (Nat×AV)) (bx2:List (Nat×y7)) {vcs:List Prop} (h:K8 np st ρ ids sl2 bx2=some vcs) (hv:jC vcs)
  {G:tK} {a:Act} {w:World} {T:Tbl} (hnp:G.foot.length=np) (hT:jB G st T a w):jB G (mk sl2 bx2 ρ.length) (Tc ρ T) a w:=by
 unfold K8 at h;replace h:=x8 h;obtain ⟨hc,h⟩:=h;simp only [zba,List.all_eq_true] at hc;obtain ⟨⟨⟨hnd,hrange⟩,hids⟩,hsl,hbx⟩:=hc;have hrange:=zDc hrange;simp only [Option.some.injEq] at h;subst h;have hv:=N2 hv
 -- boxes of the new state
 have boxOf:∀ i bx,(mk sl2 bx2 ρ.length).box i=.live bx->(i,y7.live bx)∈bx2:=by
  intro i bx hl;simp only [mk] at hl;rcases zAe (bx:=bx2) (i:=i) (d:=bif Nat.blt i ρ.length then y7.dead else .unused) with ⟨_,h⟩ | h
  ·rw [h] at hl;cases hlt:Nat.blt i ρ.length<;>rw [hlt] at hl<;>cases hl
  ·rw [hl] at h;exact h
 have newBox:∀ (i:Nat) (bx:Box),(i,y7.live bx)∈bx2->∃ (id:Nat) (bx0:Box),ρ[i]?=some id/\st.box id=.live bx0/\id∉ids:=by
  intro i bx hm;have h1:=hbx _ hm;have hlt:i<ρ.length:=by have:=h1.1.1;simp [Nat.blt] at this;omega
  have hid:ρ[i]?=some (ρ.getD i 0):=by simp [List.getD,hlt]
  have hvc:∀ p∈jJ st.box ids ρ (st.box (ρ.getD i 0)) (.live bx),p:=fun p hp=>hv p (List.mem_append_right _ (List.mem_flatMap.2 ⟨_,hm,hp⟩))
  generalize hst:st.box (ρ.getD i 0)=b0 at hvc;cases b0 with
  | unused=>exact (hvc False (by simp [jJ])).elim
  | dead=>exact (hvc False (by simp [jJ])).elim
  | live bb =>
   refine ⟨_,bb,hid,hst,fun hmem=>?_⟩;cases bb with
   | var t cs=>have:=(hids _ hmem).1;rw [hst] at this;simp [oD] at this
   | map ag ks l=>have:=(hids _ hmem).1;rw [hst] at this;simp [oD] at this
   | row e s l =>
    cases bx with
    | var t cs=>exact hvc False (by simp [jJ])
    | map ag ks l=>exact hvc False (by simp [jJ])
    | row e' s' l' =>
     have h2:=h1.2;simp only [Bool.not_eq_true'] at h2;rw [LM hmem] at h2;cases h2
 have hlen_np:np<=ρ.length:=by
  have:=congrArg List.length hrange
  simp at this;omega
 have hfirst:∀ i,i<np->ρ[i]?=some i:=by
  intro i hi
  have:=congrArg (·[i]?) hrange
  simp only [List.getElem?_take,if_pos hi,List.getElem?_range hi] at this;exact this
 have hTc:∀ (i id:Nat),ρ[i]?=some id->Tc ρ T i=T id:=by
  intro i id hi;simp [Tc,hi]
 have himm:∀ b,imm G st T b->imm G (mk sl2 bx2 ρ.length) (Tc ρ T) b:=by
  intro b hb;refine ⟨hb.1,fun i bx cap hl hTi=>?_⟩;obtain ⟨id,bx0,h1,h2,_⟩:=newBox i bx (boxOf i bx hl);rw [hTc i id h1] at hTi;exact hb.2 id bx0 cap h2 hTi
 have hidI:∀ id b cap,id∈ids->T id=some (.at b cap)->imm G (mk sl2 bx2 ρ.length) (Tc ρ T) b:=by
  intro id b cap hmem hTi;have hl:=(hids id hmem).1;obtain ⟨bx0,hb0⟩:∃ bx0,st.box id=.live bx0:=by
   cases hb:st.box id<;>rw [hb] at hl<;>simp [oD] at hl
   exact ⟨_,rfl⟩
  refine ⟨.inr (hT.mine id bx0 b cap hb0 hTi (by have:=D7 (hids id hmem).2;omega)),fun i bx cap' hl' hTi'=>?_⟩;obtain ⟨id',bx',h1,h2,h3⟩:=newBox i bx (boxOf i bx hl');rw [hTc i id' h1] at hTi'
  have:=hT.apart id id' bx0 bx' b cap cap' hb0 h2 hTi hTi'
  exact h3 (this ▸ hmem)
 refine ⟨hT.defers,hT.size,?_,?_,?_,?_,?_,?_,hT.kept⟩
 ·intro t;simp only [mk];rcases zG1 (sl:=sl2) (t:=t) with h | h
  ·rw [h];exact .junk
  ·generalize pT sl2 t=av2 at h;have hc:=hsl _ h;have hvc:=fun p hp=>hv p (List.mem_append_left _ (List.mem_flatMap.2 ⟨_,h,hp⟩))
   have h1:=RL hT (B:=st.box) (ids:=ids) (fun _ _=>rfl) (fun b hb=>himm b hb) hidI (hT.slots t) (fun p hp=>hvc p (List.mem_append_left _ hp)) hc.2;have h2:=zF1 h1 (fun p hp=>hvc p (List.mem_append_right _ hp)) (by rw [zIE];exact hc.1.2);exact LR h2 av2 rfl hc.1.1
 ·intro i bx hl;have hm:=boxOf i bx hl;obtain ⟨id,bx0,h1,h2,h3⟩:=newBox i bx hm;have hc:=hbx _ hm;have hid:ρ.getD i 0=id:=by simp [List.getD,h1]
  have hvc:∀ p∈jJ st.box ids ρ (st.box (ρ.getD i 0)) (.live bx),p:=fun p hp=>hv p (List.mem_append_right _ (List.mem_flatMap.2 ⟨_,hm,hp⟩))
  rw [hid,h2] at hvc;rw [hTc i id h1];have hok:=hT.boxes id bx0 h2;have hbel:AR ρ.length bx=true:=hc.1.2;refine SN ?_ hbel;cases bx0 with
  | var t cs =>
   cases bx with
   | row e' s' l'=>exact (hvc False (by simp [jJ])).elim
   | map ag ks l=>exact (hvc False (by simp [jJ])).elim
   | var t' ds =>
    simp only [jJ,List.mem_append] at hvc;have e1:t=t':=hvc _ (.inl (by simp));have e2:k8 ds=true:=hvc _ (.inl (by simp));subst e1;obtain ⟨k1,k2⟩:=YL (fun p hp=>hvc p (.inr (.inr hp)));obtain ⟨b,C,p1,p2,p3,p4,p5⟩:=hok;refine ⟨b,C,p1,p2,by rw [p3,<- k1];simp,HR.2 (R5 e2),fun j c hj=>?_⟩;have hlt:j<cs.length:=by
     have:j<(uns ρ ds).length:=by
      rcases zlg j (uns ρ ds).length with h' | h'
      ·exact h'
      ·rw [List.getElem?_eq_none h'] at hj;cases hj
     rw [<- k1] at this;simpa using this
    have hcj:=List.getElem?_eq_getElem hlt;have h1':=RN hT (B:=st.box) (ids:=ids) (fun _ _=>rfl) (fun b hb=>himm b hb) hidI (p5 j _ hcj) (fun p hp=>hvc p (.inr (.inl (List.mem_flatMap.2 ⟨_,List.mem_of_getElem? hcj,hp⟩))));exact LT h1' (k2 j _ c (by rw [List.getElem?_map,hcj];rfl) hj)
  | row e s l =>
   cases bx with
   | var t' ds=>exact (hvc False (by simp [jJ])).elim
   | map ag ks l=>exact (hvc False (by simp [jJ])).elim
   | row e' s' l' =>
    have e1:e=e':=hvc _ (by simp [jJ]);have e2:s=s':=hvc _ (by simp [jJ]);have e3:l=l':=hvc _ (by simp [jJ]);subst e1;subst e2;subst e3;exact hok.mono (Nat.le_refl _) (fun _ _ _=>rfl) (fun b hb _=>himm b hb) (fun _ _ h=>h) (fun _ _ _ _=>rfl)
  | map ag ks l =>
   cases bx with
   | var t' ds=>exact (hvc False (by simp [jJ])).elim
   | row e s l'=>exact (hvc False (by simp [jJ])).elim
   | map ag' ks' l' =>
    have e1:ag=ag':=hvc _ (by simp [jJ]);have e2:ks=ks':=hvc _ (by simp [jJ]);have e3:l=l':=hvc _ (by simp [jJ]);subst e1;subst e2;subst e3;exact hok.mono (Nat.le_refl _) (fun _ _ _=>rfl) (fun b hb _=>himm b hb) (fun _ _ h=>h) (fun _ _ _ _=>rfl)
 ·intro i hu;simp only [mk] at hu;rcases zAe (bx:=bx2) (i:=i) (d:=bif Nat.blt i ρ.length then y7.dead else .unused) with ⟨_,h⟩ | h
  ·rw [h] at hu;cases hlt:Nat.blt i ρ.length<;>rw [hlt] at hu
   ·have hge:ρ.length<=i:=by
     rcases zlg i ρ.length with h' | h'
     ·have:Nat.blt i ρ.length=true:=by simp [Nat.blt];omega
      rw [this] at hlt;cases hlt
     ·exact h'
    simp [Tc,List.getElem?_eq_none hge]
   ·cases hu
  ·rw [hu] at h
   have:=(hbx _ h).2
   simp at this
 ·intro i1 i2 b1 b2 b c1 c2 h1 h2 t1 t2;obtain ⟨id1,x1,e1,l1,_⟩:=newBox i1 b1 (boxOf i1 b1 h1);obtain ⟨id2,x2,e2,l2,_⟩:=newBox i2 b2 (boxOf i2 b2 h2);rw [hTc i1 id1 e1] at t1;rw [hTc i2 id2 e2] at t2
  have:=hT.apart id1 id2 x1 x2 b c1 c2 l1 l2 t1 t2
  subst this;exact GP hnd e1 e2
 ·intro i bx b cap hl hTi hge;obtain ⟨id,x0,e1,l1,_⟩:=newBox i bx (boxOf i bx hl);rw [hTc i id e1] at hTi;refine hT.mine id x0 b cap l1 hTi ?_;rcases zlg id np with h' | h'
  ·have:=GP hnd (hfirst id h') e1
   omega
  ·omega
 ·intro i p hp;have hi:i<np:=by
   rw [<- hnp];rcases zlg i G.foot.length with h' | h'
   ·exact h'
   ·rw [List.getElem?_eq_none h'] at hp;cases hp
  rw [hTc i i (hfirst i hi)];exact hT.foot i p hp
theorem zCc {np:Nat} {st:AS} (ρ ids:List Nat) (sl2:List (Nat×AV)) (bx2:List (Nat×y7)) {vcs:List Prop} (h:K8 np st ρ ids sl2 bx2=some vcs) (hv:jC vcs) :
  Sub np st (mk sl2 bx2 ρ.length):=by
 rintro G a w hnp ⟨T,hT⟩;exact ⟨Tc ρ T,zC3 ρ ids sl2 bx2 h hv hnp hT⟩
end Go.Ab
