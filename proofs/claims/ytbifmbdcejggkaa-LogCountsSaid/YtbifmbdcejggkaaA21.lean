/- The rules for code. -/
import Derived.Test.YtbifmbdcejggkaaA20
namespace Go.Ab
open Go

def AW (P:Program) (N np:Nat) (c:Code) (K:Exit→AS→Prop) (st:AS):Prop :=
  ∀ G a w,G.n=N→G.foot.length=np→vC G st a w→c.wp P (fun e a' w'=>∃ st',K e st'∧vC G st' a' w') a w

section
variable {P:Program} {N np:Nat} {K:Exit→AS→Prop} {st:AS} {c:Code}

def zJ2 (P:Program) (N np:Nat) (y:Code) (K:Exit→AS→Prop):Exit→AS→Prop
  | .normal,st=>AW P N np y K st
  | e,st=>K e st

def zLd (id:Nat) (K:Exit→AS→Prop):Exit→AS→Prop
  | .exit id',st=>bif Nat.beq id' id then K .normal st else K (.exit id') st
  | e,st=>K e st

def Code.l:Code→Code | .seq a _=>a | c=>c
def Code.r:Code→Code | .seq _ b=>b | c=>c
def Code.b:Code→Code | .block _ b=>b | .loop b=>b | c=>c
def Code.t:Code→Code | .cond _ t _=>t | c=>c
def Code.e:Code→Code | .cond _ _ e=>e | c=>c

theorem zLo (hc:c=.seq (Code.l c) (Code.r c)) (h:AW P N np (Code.l c) (zJ2 P N np (Code.r c) K) st):AW P N np c K st:=by
  intro G a w hN hnp hR
  rw [hc]
  refine wp_seq (Code.wp_mono ?_ (h G a w hN hnp hR))
  rintro e a' w' ⟨st',hk,hR'⟩
  cases e with
  | normal=>exact hk G a' w' hN hnp hR'
  | _=>exact ⟨st',hk,hR'⟩

theorem zNi (hc:c=.skip) (h:K .normal st):AW P N np c K st:=by
  intro G a w _ _ hR;rw [hc];exact wp_skip ⟨st,h,hR⟩

theorem zN7 (hc:c=.ret) (h:K .ret st):AW P N np c K st:=by
  intro G a w _ _ hR;rw [hc];exact wp_ret ⟨st,h,hR⟩

theorem wJ {id:Nat} (hc:c=.exit id) (h:K (.exit id) st):AW P N np c K st:=by
  intro G a w _ _ hR;rw [hc];exact wp_exit ⟨st,h,hR⟩

theorem yN {id:Nat} (hc:c=.block id (Code.b c)) (h:AW P N np (Code.b c) (zLd id K) st):AW P N np c K st:=by
  intro G a w hN hnp hR
  rw [hc]
  refine wp_block (Code.wp_mono ?_ (h G a w hN hnp hR))
  rintro e a' w' ⟨st',hk,hR'⟩
  cases e with
  | exit id' =>
    simp only [zLd] at hk
    simp only [Exit.inBlock]
    split
    · rename_i h;rw [h,zCc] at hk;exact ⟨st',hk,hR'⟩
    · rename_i h;rw [xS h] at hk;exact ⟨st',hk,hR'⟩
  | _=>exact ⟨st',hk,hR'⟩

theorem zNG {t:Nat} {b:Bool} (hc:c=.cond (.tmp t) (Code.t c) (Code.e c)) (hs:st.slot t=.bool b) (h1:b=true→AW P N np (Code.t c) K st) (h2:b=false→AW P N np (Code.e c) K st) :
    AW P N np c K st:=by
  intro G a w hN hnp hR
  have hR0:=hR
  obtain ⟨T,hT⟩:=hR.out
  have hr:=hT.slots t
  rw [hs] at hr
  have he:a.eval (.tmp t)=.bool b:=by
    show a.tmps.getD t undef=.bool b
    generalize a.tmps.getD t undef=v at hr
    cases hr;rfl
  rw [hc]
  refine wp_cond_split he (fun hb=>h1 hb G a w hN hnp hR0) (fun hb=>h2 hb G a w hN hnp hR0)

/-- A loop: what holds at its head, by a number that every round lowers. -/
theorem zNr (I:Nat→AS→Prop) (n:Nat) (hc:c=.loop (Code.b c)) (h0:I n st)
    (h:∀ n st,I n st→AW P N np (Code.b c) (fun e st'=>match e with | .normal=>∃ m,m<n∧I m st' | e=>K e st') st):AW P N np c K st:=by
  intro G a w hN hnp hR
  rw [hc]
  generalize hb:Code.b c=body at h
  intro b k cs
  have key:∀ n a w,(∃ st,I n st∧vC G st a w) →
      ∃ e a' w',(∃ st',K e st'∧vC G st' a' w')∧Arrives P (lone (b.at a (.code body::.inLoop body::k)) cs w) b k cs e a' w':=by
    intro n
    induction n using Nat.strongRecOn with
    | _ n ih =>
      rintro a w ⟨st,hI,hR⟩
      obtain ⟨e,a₁,w₁,⟨st',hq,hR'⟩,harr⟩:=h n st hI G a w hN hnp hR b (.inLoop body::k) cs
      cases e with
      | normal =>
        obtain ⟨m,hlt,hI'⟩:=hq
        obtain ⟨e₂,a₂,w₂,hq₂,harr₂⟩:=ih m hlt a₁ w₁ ⟨st',hI',hR'⟩
        exact ⟨e₂,a₂,w₂,hq₂,.of_steps (Steps.trans harr (.one step_inLoop)) harr₂⟩
      | exit id=>exact ⟨_,a₁,w₁,⟨st',hq,hR'⟩,.pass (x:=.inLoop body) rfl (fun _ _=>.inl (by simp)) harr⟩
      | goto l=>exact ⟨_,a₁,w₁,⟨st',hq,hR'⟩,.pass (x:=.inLoop body) rfl (fun _ _=>.inl (by simp)) harr⟩
      | ret=>exact ⟨_,a₁,w₁,⟨st',hq,hR'⟩,.pass (x:=.inLoop body) rfl (fun _ _=>.inl (by simp)) harr⟩
      | panic ch=>exact ⟨_,a₁,w₁,⟨st',hq,hR'⟩,.pass (x:=.inLoop body) rfl (fun _ _=>.inl (by simp)) harr⟩
      | outgrown=>exact ⟨_,a₁,w₁,⟨st',hq,hR'⟩,.pass (x:=.inLoop body) rfl (fun _ _=>.inl (by simp)) harr⟩
  obtain ⟨e,a',w',hq,harr⟩:=key n a w ⟨st,h0,hR⟩
  exact ⟨e,a',w',hq,.of_steps (.one step_loop) harr⟩

theorem zNl {K':Exit→AS→Prop} (h:AW P N np c K st) (hk:∀ e st,K e st→K' e st):AW P N np c K' st:=by
  intro G a w hN hnp hR
  refine Code.wp_mono ?_ (h G a w hN hnp hR)
  rintro e a' w' ⟨st',h1,h2⟩
  exact ⟨st',hk _ _ h1,h2⟩
end

/-! Regions. -/
def mk (sl:List (Nat×AV)) (bx:List (Nat×zN)) (n:Nat):AS :=
  ⟨jA sl,fun i=>xH bx i (bif Nat.blt i n then .dead else .unused)⟩

def t5:List Prop→Prop
  | []=>True
  | p::r=>p∧t5 r

theorem zDr {l:List Prop} (h:t5 l):∀ p∈l,p:=by
  induction l with
  | nil=>intro p hp;cases hp
  | cons a r ih =>
    intro p hp
    cases hp with
    | head=>exact h.1
    | tail _ hp=>exact ih h.2 p hp

def zFW (P:Program) (N np:Nat) (c:Code) (hs:List (Nat×xI)) (sl:List (Nat×AV)) (bx:List (Nat×zN)) (n:Nat) (live bl:List Nat) (n':Nat):Option (List Prop×List AV×List zN) :=
  match c with
  | .region _ ops draw =>
    match zIQ P N np ops hs ops.toList 0 (mk sl bx n) with
    | some (vcs,st',ess) =>
      bif ((!draw||zEm ops.toList ess)&&(Nat.ble n n'&&(bl.all fun i=>Nat.blt i n')))&&((bx.all fun x=>Nat.blt x.1 n)&&ess.all fun es=>(tQ es).all fun i=>Nat.blt i n') then
        some (vcs,live.map st'.slot,bl.map st'.box)
      else none
    | none=>none
  | _=>none

theorem zMZ {live:List Nat} {f:Nat→AV} {t:Nat}:jA (live.zip (live.map f)) t=f t∨jA (live.zip (live.map f)) t=.junk:=by
  induction live with
  | nil=>exact .inr rfl
  | cons a r ih =>
    simp only [List.map_cons,List.zip_cons_cons,jA]
    cases h:Nat.beq t a
    · exact ih
    · rw [xM.1 h];exact .inl rfl

theorem zKE {bl:List Nat} {f:Nat→zN} {i:Nat} {d:zN}:(i∈bl∧xH (bl.zip (bl.map f)) i d=f i)∨(i∉bl∧xH (bl.zip (bl.map f)) i d=d):=by
  induction bl with
  | nil=>exact .inr ⟨by simp,rfl⟩
  | cons a r ih =>
    simp only [List.map_cons,List.zip_cons_cons,xH]
    cases h:Nat.beq i a
    · simp only [cond_false]
      have hne:i≠a:=fun e=>by subst e;simp at h
      rcases ih with ⟨h1,h2⟩ | ⟨h1,h2⟩
      · exact .inl ⟨by simp [h1],h2⟩
      · exact .inr ⟨by simp [h1,hne],h2⟩
    · have:=xM.1 h
      subst this
      exact .inl ⟨by simp,rfl⟩

/-- A state of which less is known. -/
theorem Rel.weak {G:xD} {st st2:AS} {a:Act} {w:World} (h:Rel G st a w) (hs:∀ t,st2.slot t=st.slot t∨st2.slot t=.junk)
    (hb:∀ i,st2.box i=st.box i∨st2.box i=.dead):Rel G st2 a w:=by
  obtain ⟨T,hT⟩:=h
  have hlive:∀ i bx,st2.box i=.live bx→st.box i=.live bx:=by
    intro i bx hl
    rcases hb i with h | h
    · rw [← h];exact hl
    · rw [h] at hl;cases hl
  have himm:∀ b,imm G st T b→imm G st2 T b:=fun b hb=>⟨hb.1,fun id bx cap hl hTi=>hb.2 id bx cap (hlive id bx hl) hTi⟩
  refine ⟨T,hT.defers,hT.size,?_,?_,?_,?_,?_,hT.foot,hT.kept,hT.pin⟩
  · intro t
    rcases hs t with h | h
    · rw [h];exact (hT.slots t).mono (Nat.le_refl _) (fun _ _ _=>rfl) (fun b hb _=>himm b hb) (fun _ _ h=>h)
    · rw [h];exact .junk
  · intro i bx hl
    exact (hT.boxes i bx (hlive i bx hl)).mono (Nat.le_refl _) (fun _ _ _=>rfl) (fun b hb _=>himm b hb) (fun _ _ h=>h) (fun _ _ _ _=>rfl)
  · intro i hu
    rcases hb i with h | h
    · exact hT.unused i (by rw [← h];exact hu)
    · rw [h] at hu;cases hu
  · intro i1 i2 b1 b2 b c1 c2 h1 h2
    exact hT.apart i1 i2 b1 b2 b c1 c2 (hlive _ _ h1) (hlive _ _ h2)
  · intro i bx b cap hl
    exact hT.mine i bx b cap (hlive _ _ hl)

theorem vC.weak {G:xD} {st st2:AS} {a:Act} {w:World} (h:vC G st a w) (hs:∀ t,st2.slot t=st.slot t∨st2.slot t=.junk)
    (hb:∀ i,st2.box i=st.box i∨st2.box i=.dead):vC G st2 a w :=
  h.lift (fun id f hl=>by rcases hb id with h | h<;>rw [h] at hl<;>first | exact hl | cases hl) fun _ _ _ hR=>hR.weak hs hb

theorem zJo:∀ (ess:List (List Eff)) (st st':AS) (n':Nat),zBa ess st st'→(ess.all fun es=>(tQ es).all fun i=>Nat.blt i n')=true→∀ i,n'≤i→st'.box i=st.box i:=by
  intro ess
  induction ess with
  | nil=>intro st st' n' h _ i _;simp only [zBa] at h;rw [h]
  | cons es r ih =>
    intro st st' n' h ha i hi
    simp only [List.all_cons,Bool.and_eq_true] at ha
    rw [ih _ _ _ h.2 ha.2 i hi]
    refine qS fun hm=>?_
    have:=List.all_eq_true.1 ha.1 i hm
    simp [Nat.blt] at this;omega

theorem zGZ {P:Program} {N np:Nat} {K:Exit→AS→Prop} {c:Code} {sl:List (Nat×AV)} {bx:List (Nat×zN)} {n:Nat} (hs:List (Nat×xI)) (live bl:List Nat) (n':Nat) {vcs:List Prop} {vals:List AV} {bxs:List zN}
    (h:zFW P N np c hs sl bx n live bl n'=some (vcs,vals,bxs)) (hm:P.follows .mixedOrders=true) (hv:t5 vcs) (hk:K .normal (mk (live.zip vals) (bl.zip bxs) n')):AW P N np c K (mk sl bx n):=by
  intro G a w hN hnp hR
  unfold zFW at h
  split at h
  case h_2=>cases h
  rename_i id ops draw
  split at h
  case h_2=>cases h
  rename_i vcs' st' ess hareg
  replace h:=zY h;obtain ⟨hc,h⟩:=h
  simp only [Bool.and_eq_true,Bool.or_eq_true,Bool.not_eq_true'] at hc
  obtain ⟨⟨hord,hnn,hbl⟩,hbx,hwb⟩:=hc
  simp only [Option.some.injEq,Prod.mk.injEq] at h
  obtain ⟨rfl,rfl,rfl⟩:=h
  obtain ⟨k1,k2,k3⟩:=zKJ _ _ _ _ hareg (zDr hv)
  simp only at k1 k2 k3
  have hfin:∀ a w,vC G st' a w→∃ st'',K .normal st''∧vC G st'' a w:=by
    intro a w hR'
    refine ⟨_,hk,hR'.weak (fun t=>zMZ) (fun i=>?_)⟩
    have e0:(mk (live.zip (live.map st'.slot)) (bl.zip (bl.map st'.box)) n').box i=xH (bl.zip (bl.map st'.box)) i (bif Nat.blt i n' then .dead else .unused):=rfl
    rw [e0]
    rcases zKE (bl:=bl) (f:=st'.box) (i:=i) (d:=bif Nat.blt i n' then .dead else .unused) with ⟨_,h⟩ | ⟨_,h⟩
    · exact .inl h
    · rw [h]
      cases hlt:Nat.blt i n'
      · left
        have hge:n'≤i:=by
          rcases Nat.lt_or_ge i n' with h' | h'
          · have:Nat.blt i n'=true:=by simp [Nat.blt];omega
            rw [this] at hlt;cases hlt
          · exact h'
        have hle:=zDQ hnn
        rw [zJo ess _ _ n' k1 hwb i hge]
        simp only [mk]
        rw [zEJ]
        · have:Nat.blt i n=false:=by
            cases h0:Nat.blt i n
            · rfl
            · simp [Nat.blt] at h0;omega
          rw [this]
        · intro hm'
          simp only [List.mem_map] at hm'
          obtain ⟨x,hx,rfl⟩:=hm'
          have:=List.all_eq_true.1 hbx x hx
          simp [Nat.blt] at this;omega
      · exact .inr rfl
  cases draw with
  | false =>
    exact wp_region_list (zIy hN hnp ops.toList ess _ st' a w k1 k2 k3 hR hfin)
  | true =>
    have hord':zEm ops.toList ess=true:=by
      rcases hord with h | h
      · cases h
      · exact h
    obtain ⟨o1,o2⟩:=zJb hord'
    have hdrew:vC G (mk sl bx n) a { w with drawn:=w.drawn+1 }:=by
      refine hR.lift (fun _ _ h=>h) fun G' _ _ hR'=>?_
      obtain ⟨T,hT⟩:=hR'
      refine ⟨T,hT.defers,hT.size,fun t=>(hT.slots t).mono (Nat.le_refl _) (fun _ _ _=>rfl) (fun _ h _=>h) (fun _ _ h=>h),
        fun i bx hl=>(hT.boxes i bx hl).mono (Nat.le_refl _) (fun _ _ _=>rfl) (fun _ h _=>h) (fun _ _ h=>h) (fun _ _ _ _=>rfl),hT.unused,hT.apart,hT.mine,hT.foot,
        ⟨hT.kept.os,hT.kept.tape,hT.kept.output,hT.kept.size,hT.kept.block⟩,hT.pin⟩
    refine wp_region_any hm ?_
    have hrem:vS ops.size (Array.replicate ops.size false)=List.range ops.size:=by
      unfold vS
      apply List.filter_eq_self.2
      intro i hi
      have:=List.mem_range.1 hi
      simp [Array.getD_eq_getD_getElem?,this]
    have hess:(List.range ops.size).map (fun i=>ess.getD i [])=ess:=by
      apply List.ext_getElem?
      intro i
      rw [List.getElem?_map]
      rcases Nat.lt_or_ge i ops.size with hlt | hge
      · have:i<ess.length:=by rw [k2];simpa using hlt
        simp [hlt,List.getD,List.getElem?_eq_getElem this]
      · rw [List.getElem?_eq_none (by simpa using hge),List.getElem?_eq_none (by rw [k2];simpa using hge)]
        rfl
    refine zJk hN hnp (by rw [k2];simp) ?_ ?_ ?_ hfin ops.size _ (mk sl bx n) a _ (by simp) (by rw [hrem];simp) ?_ (by rw [hrem,hess];exact k1) hdrew
    · intro j o es hj hj'
      exact k3 j o es (by rw [Array.getElem?_toList];exact hj) hj'
    · intro i j es fs hij hi hj
      exact o2 i j es fs hij hi hj
    · intro j o ho
      exact o1 j o (by rw [Array.getElem?_toList];exact ho)
    · intro j o ho hl
      have hlt:j<ops.size:=by
        rcases Nat.lt_or_ge j ops.size with h' | h'
        · exact h'
        · rw [Array.getElem?_eq_none h'] at ho;cases ho
      simp [Array.getD_eq_getD_getElem?,hlt] at hl
end Go.Ab
