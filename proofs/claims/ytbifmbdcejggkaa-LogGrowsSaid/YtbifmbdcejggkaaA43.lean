/- Hidden blocks: a map of the call's own whose values hold blocks of the call's own. What is known of the world beside such a map. -/
import Derived.Test.YtbifmbdcejggkaaA18
namespace Go.Ab
open Go

/-- What the value of an entry is, and the blocks that hang on it, by places of its own. -/
def FSh.dec:FSh→AV→Option (AV×List Box)
  | .pm t,.agg cs=>some (.ptr 0 0 0 0,[.var t cs])
  | .nm e sz ev esz,.tuple [.sl _ _ l,.bool m,.agg x,.sl _ _ es]=>some (.own 0 (l.length+(bif m then 1 else 0)),[.rowQ e sz l m (x++[.own 1 es.length]),.row ev esz es])
  | _,_=>none
def zBc (w:World) (I:Nat→Prop) (sh:FSh) (ps:List yY) (v:Value) (c:AV):Prop :=
  ∃ av bs,sh.dec c=some (av,bs)∧ps.length=bs.length∧Rep w I (fun i=>ps[i]?) v av∧∀ (i:Nat) (bx:Box),bs[i]?=some bx→uH w I (fun i=>ps[i]?) (ps[i]?) bx
/-- A map whose entries, but for those that 'ex' takes out, hold hidden blocks. -/
def nH (w:World) (I Hd:Nat→Prop) (b:Nat) (ag:Bool) (ks:List KSh) (sh:FSh) (l:List (AV×AV)) (ex:AV→Prop) (exv:Value→Prop):Prop :=
  ∃ (E:Array MapEntry) (clock:Nat) (P:Nat→List yY),Hd b∧w.heap[b]?=some (.map E clock)∧E.size=l.length∧l.length≤maxLen∧MapKept.Stamped E clock∧(∀ x∈l,uZ ag ks x.1=true) ∧
    (∀ (i:Nat) (x:AV×AV),l[i]?=some x→∃ e:MapEntry,E[i]?=some e∧Rep w I Tbl.empty e.key x.1∧(ex x.1→exv e.val)∧(¬ ex x.1→zBc w I sh (P i) e.val x.2)) ∧
    (∀ (i:Nat) (x:AV×AV),l[i]?=some x→ex x.1→P i=[])∧(∀ i,l.length≤i→P i=[]) ∧
    (∀ (i j b1 c1:Nat),(P i)[j]?=some (yY.at b1 c1)→Hd b1∧b1≠b) ∧
    (∀ (i j i' j' b1 c1 c2:Nat),(P i)[j]?=some (yY.at b1 c1)→(P i')[j']?=some (yY.at b1 c2)→i=i'∧j=j')

/-- A later view of what a call began with: its caller's memory, and what it made until then and does not write any more; the hidden blocks are nobody's. -/
structure u3 (G G':xE) (Hd:Nat→Prop):Prop where
  pin:∀ i,G.pin i=none
  n:G'.n=G.n
  foot:G'.foot=G.foot
  kept:zDR G G'.w0
  I0:∀ b,G'.I0 b→G.I0 b∨G.mine b
  gift:∀ b,G'.gift b→G.mine b
  scr:∀ b,G'.scr b→G.scr b
  hid:∀ b,Hd b→b<G'.w0.heap.size∧G.mine b∧¬ G'.I0 b∧¬ G'.gift b∧¬ G'.scr b∧¬ G'.has b

theorem u3.refl {G:xE} (h:∀ i,G.pin i=none):u3 G G (fun _=>False) :=
  ⟨h,rfl,rfl,⟨rfl,rfl,rfl,Nat.le_refl _,fun _ _ _ _=>rfl⟩,fun _ h=>.inl h,fun _ h=>.inr h,fun _ h=>h,fun _ h=>h.elim⟩

section
variable {G G':xE} {Hd:Nat→Prop} {st:AS} {T:Tbl} {a:Act} {w:World}

theorem u3.mine (L:u3 G G' Hd) {b:Nat} (h:G'.mine b):G.mine b:=by
  rcases h with h | h
  · exact .inl (Nat.le_trans L.kept.size h)
  · exact L.gift b h
theorem u3.imm (L:u3 G G' Hd) {b:Nat} (hb:Go.Ab.imm G' st T b):Go.Ab.imm G st T b:=by
  refine ⟨?_,hb.2⟩
  rcases hb.1 with h | h
  · exact L.I0 b h
  · exact .inr (L.mine h)
theorem u3.keeps (L:u3 G G' Hd) (h:zDR G' w):zDR G w:=by
  refine ⟨h.os.trans L.kept.os,h.tape.trans L.kept.tape,h.output.trans L.kept.output,Nat.le_trans L.kept.size h.size,fun b hb hn hn2=>?_⟩
  refine (h.block b (Nat.lt_of_lt_of_le hb L.kept.size) (fun ⟨cap,hm⟩=>hn ⟨cap,by rw [← L.foot];exact hm⟩) ?_).trans (L.kept.block b hb hn hn2)
  rintro (hg | hs)
  · rcases L.gift b hg with h1 | h1
    · omega
    · exact hn2 (.inl h1)
  · exact hn2 (.inr (L.scr b hs))
theorem u3.out (L:u3 G G' Hd) (h:vS G' st T a w):vS G st T a w :=
  ⟨h.defers,h.size.trans L.n,fun t=>(h.slots t).mono (Nat.le_refl _) (fun _ _ _=>rfl) (fun b hb _=>L.imm hb) (fun _ _ h=>h),
    fun id bx hl=>(h.boxes id bx hl).mono (Nat.le_refl _) (fun _ _ _=>rfl) (fun b hb _=>L.imm hb) (fun _ _ h=>h) (fun _ _ _ _=>rfl),h.unused,h.apart,
    fun id bx b cap hl hT hge=>L.mine (h.mine id bx b cap hl hT (by rw [L.foot];exact hge)),fun i p hp=>h.foot i p (by rw [L.foot];exact hp),L.keeps h.kept,
    fun i p hp=>by rw [L.pin i] at hp;cases hp⟩
end

/-- Memory that no step of a later view turns. -/
def tC (G:xE) (b:Nat):Prop:=G.I0 b∧b<G.w0.heap.size∧¬ G.has b∧¬ G.gift b∧¬ G.scr b
def zCQ (G:xE) (Hd:Nat→Prop):Fam→Prop
  | .cl b ag ks sh l=>nH G.w0 (tC G) Hd b ag ks sh l (fun _=>False) (fun _=>True)
  | .op b ag ks sh l key=>nH G.w0 (tC G) Hd b ag ks sh l (fun k=>k=key) (fun _=>True)
  | .opp b ag ks sh l key id=>∃ b1,G.pin id=some (.at b1 0)∧(∃ x∈l,x.1=key)∧nH G.w0 (tC G) Hd b ag ks sh l (fun k=>k=key) (fun v=>v=.pointer (some ⟨b1,0,none⟩))
/-- At most one such map, and what is known of it. -/
structure zA5 (G:xE) (Hd:Nat→Prop) (st:AS):Prop where
  one:∀ id id' f f',st.box id=.live (.fam f)→st.box id'=.live (.fam f')→id=id'
  ok:∀ id f,st.box id=.live (.fam f)→zCQ G Hd f
theorem zA5.less {G:xE} {Hd:Nat→Prop} {st st2:AS} (h:zA5 G Hd st) (hs:∀ id f,st2.box id=.live (.fam f)→st.box id=.live (.fam f)):zA5 G Hd st2 :=
  ⟨fun id id' f f' h1 h2=>h.one id id' f f' (hs _ _ h1) (hs _ _ h2),fun id f h1=>h.ok id f (hs _ _ h1)⟩
/-- The relation, beside hidden blocks. -/
def vL (G:xE) (st:AS) (a:Act) (w:World):Prop:=∃ G' Hd,u3 G G' Hd∧zA5 G' Hd st∧Rel G' st a w

theorem vL.out {G:xE} {st:AS} {a:Act} {w:World}:vL G st a w→Rel G st a w
  | ⟨_,_,L,_,T,h⟩=>⟨T,L.out h⟩
theorem vL.into {G:xE} {st:AS} {a:Act} {w:World} (hp:∀ i,G.pin i=none) (hf:∀ id f,st.box id≠.live (.fam f)) (h:Rel G st a w):vL G st a w :=
  ⟨G,_,u3.refl hp,⟨fun id _ f _ h1=>absurd h1 (hf id f),fun id f h1=>absurd h1 (hf id f)⟩,h⟩
theorem Rel.congr {G:xE} {st st2:AS} {a:Act} {w:World} (hs:st2.slot=st.slot) (hb:st2.box=st.box) (h:Rel G st a w):Rel G st2 a w:=by
  have:st2=st:=by cases st;cases st2;simp only at hs hb;rw [hs,hb]
  rw [this];exact h
/-- A step that does not know of hidden blocks. -/
theorem vL.lift {G:xE} {st st2:AS} {a a2:Act} {w w2:World} (hf:∀ id f,st2.box id=.live (.fam f)→st.box id=.live (.fam f)) (hs:∀ G',G'.n=G.n→G'.foot=G.foot→Rel G' st a w→Rel G' st2 a2 w2) (h:vL G st a w):vL G st2 a2 w2:=by
  obtain ⟨G',Hd,L,F,hR⟩:=h
  exact ⟨G',Hd,L,F.less hf,hs G' L.n L.foot hR⟩
theorem vL.liftOp {G:xE} {st st2:AS} {a:Act} {w:World} {P:Program} {o:Oper} (hf:∀ id f,st2.box id=.live (.fam f)→st.box id=.live (.fam f))
    (hs:∀ G',G'.n=G.n→G'.foot=G.foot→Rel G' st a w→o.wp P a w (fun a' w'=>Rel G' st2 a' w') (fun _ _ _=>False)) (h:vL G st a w) :
    o.wp P a w (fun a' w'=>vL G st2 a' w') (fun _ _ _=>False):=by
  obtain ⟨G',Hd,L,F,hR⟩:=h
  have:=hs G' L.n L.foot hR
  unfold Oper.wp at *
  generalize (execOp a.eval o).run P w=r at *
  have hm:∀ a' w',Rel G' st2 a' w'→vL G st2 a' w':=fun a' w' hR'=>⟨G',Hd,L,F.less hf,hR'⟩
  cases r with
  | ok n w' =>
    cases n<;>simp only [Oper.upon] at this ⊢ <;>
      first
        | exact hm _ _ this
        | exact Calls.mono this (fun e w'' he=>by cases e<;>first | exact hm _ _ he | exact he.elim | (obtain ⟨_,_,he⟩:=he;exact he.elim))
        | exact Rows.mono this (fun _ _ he=>hm _ _ he)
  | halt x w'=>cases x<;>simp only [Oper.upon] at this ⊢

/-! A view begins anew. -/
def reb (G:xE) (J:Nat→Prop) (st2:AS) (T2:Tbl) (w2:World) (pin:Nat→Option yY):xE :=
  { w0:=w2,I0:=J,foot:=G.foot,n:=G.n,gift:=fun b=>∃ id bx cap,st2.box id=.live bx∧T2 id=some (.at b cap),scr:=fun _=>False,pin:=pin }

theorem zNw {G:xE} (h:G.foot=[]) (b:Nat):¬ G.has b:=by
  rintro ⟨c,hc⟩;rw [h] at hc;cases hc

theorem zBw {G G':xE} {Hd:Nat→Prop} (L:u3 G G' Hd) {st:AS} {T:Tbl} {b:Nat} (h:Hd b):¬ imm G' st T b:=by
  rintro ⟨h1 | h1 | h1,_⟩
  · exact (L.hid b h).2.2.1 h1
  · have:=(L.hid b h).1;omega
  · exact (L.hid b h).2.2.2.1 h1
theorem jG {G G':xE} {Hd:Nat→Prop} (L:u3 G G' Hd) (hf:G.foot=[]) {st:AS} {T:Tbl} {a:Act} {w:World} (hR:vS G' st T a w) {id b cap:Nat} {bx:Box} (hl:st.box id=.live bx) (hT:T id=some (.at b cap)):¬ Hd b:=by
  intro h
  rcases hR.mine id bx b cap hl hT (by rw [L.foot,hf];exact Nat.zero_le _) with h1 | h1
  · have:=(L.hid b h).1;omega
  · exact (L.hid b h).2.2.2.1 h1
theorem zCN {G G':xE} {Hd:Nat→Prop} (L:u3 G G' Hd) {w:World} (hk:zDR G' w) {b:Nat} (h:Hd b):w.heap[b]?=G'.w0.heap[b]? :=
  hk.block b (L.hid b h).1 (L.hid b h).2.2.2.2.2 (fun x=>x.elim (L.hid b h).2.2.2.1 (L.hid b h).2.2.2.2.1)
theorem zBp {G':xE} {w:World} (hk:zDR G' w) {b:Nat} (h:tC G' b):w.heap[b]?=G'.w0.heap[b]? :=
  hk.block b h.2.1 h.2.2.1 (fun x=>x.elim h.2.2.2.1 h.2.2.2.2)
theorem zCe {G G':xE} {Hd:Nat→Prop} (L:u3 G G' Hd) (hf:G.foot=[]) {st:AS} {T:Tbl} {a:Act} {w:World} (hR:vS G' st T a w) {b:Nat} (h:tC G' b):imm G' st T b∧b<w.heap.size:=by
  refine ⟨⟨.inl h.1,fun id bx cap hl hT=>?_⟩,Nat.lt_of_lt_of_le h.2.1 hR.kept.size⟩
  rcases hR.mine id bx b cap hl hT (by rw [L.foot,hf];exact Nat.zero_le _) with h1 | h1
  · have:=h.2.1;omega
  · exact h.2.2.2.1 h1

/-- The master step: all that is known of the new state, in a view that begins there. -/
theorem zFF {G G':xE} {Hd Hd2 J:Nat→Prop} {st st2:AS} {T T2:Tbl} {a a2:Act} {w w2:World} {pin:Nat→Option yY} (L:u3 G G' Hd) (hf:G.foot=[]) (hR:vS G' st T a w)
    (hos:w2.os=w.os) (htape:w2.tape=w.tape) (hout:w2.output=w.output) (hsz:w.heap.size≤w2.heap.size) (hblk:∀ b,b<w.heap.size→¬ Hd b→w2.heap[b]?=w.heap[b]?)
    (hde:a2.defers=[]) (hn:a2.tmps.size=G.n)
    (hJ:∀ b,J b→(G.I0 b∨G.mine b)∧b<w2.heap.size∧¬ Hd2 b∧∀ id bx cap,st2.box id=.live bx→T2 id≠some (.at b cap))
    (hsl:∀ t,Rep w2 J T2 (a2.tmps.getD t undef) (st2.slot t))
    (hbx:∀ id bx,st2.box id=.live bx→uH w2 J T2 (T2 id) bx)
    (hun:∀ id,st2.box id=.unused→T2 id=none)
    (hap:∀ id id' bx bx' b cap cap',st2.box id=.live bx→st2.box id'=.live bx'→T2 id=some (.at b cap)→T2 id'=some (.at b cap')→id=id')
    (hnew:∀ id bx b cap,st2.box id=.live bx→T2 id=some (.at b cap)→G.mine b∧¬ Hd2 b)
    (hpin:∀ i p,pin i=some p→T2 i=some p)
    (hHd:∀ b,Hd2 b→b<w2.heap.size∧G.mine b) :
    u3 G (reb G J st2 T2 w2 pin) Hd2∧vS (reb G J st2 T2 w2 pin) st2 T2 a2 w2∧∀ b,J b→tC (reb G J st2 T2 w2 pin) b:=by
  have hlt:∀ id bx b cap,st2.box id=.live bx→T2 id=some (.at b cap)→b<w2.heap.size:=fun id bx b cap hl hT=>by
    have:=hbx id bx hl;rw [hT] at this;exact this.lt
  have hfoot:∀ b,¬ (reb G J st2 T2 w2 pin).has b:=zNw hf
  refine ⟨⟨L.pin,rfl,rfl,?_,fun b hb=>(hJ b hb).1,fun b hb=>?_,fun b hb=>hb.elim,fun b hb=>⟨(hHd b hb).1,(hHd b hb).2,fun h=>(hJ b h).2.2.1 hb,?_,fun h=>h.elim,hfoot b⟩⟩,?_,?_⟩
  · have hk:=L.keeps hR.kept
    refine ⟨hos.trans hk.os,htape.trans hk.tape,hout.trans hk.output,Nat.le_trans hk.size hsz,fun b hb hn hn2=>(hblk b (Nat.lt_of_lt_of_le hb hk.size) fun hh=>?_).trans (hk.block b hb hn hn2)⟩
    rcases (L.hid b hh).2.1 with h1 | h1
    · omega
    · exact hn2 (.inl h1)
  · obtain ⟨id,bx,cap,hl,hT⟩:=hb;exact (hnew id bx b cap hl hT).1
  · rintro ⟨id,bx,cap,hl,hT⟩;exact (hnew id bx b cap hl hT).2 hb
  · have himm:∀ b,J b→imm (reb G J st2 T2 w2 pin) st2 T2 b:=fun b hb=>⟨.inl hb,(hJ b hb).2.2.2⟩
    refine ⟨hde,hn,fun t=>(hsl t).mono (Nat.le_refl _) (fun _ _ _=>rfl) (fun b hb _=>himm b hb) (fun _ _ h=>h),
      fun id bx hl=>(hbx id bx hl).mono (Nat.le_refl _) (fun _ _ _=>rfl) (fun b hb _=>himm b hb) (fun _ _ h=>h) (fun _ _ _ _=>rfl),hun,hap,
      fun id bx b cap hl hT _=>.inr ⟨id,bx,cap,hl,hT⟩,fun i p hp=>?_,⟨rfl,rfl,rfl,Nat.le_refl _,fun _ _ _ _=>rfl⟩,hpin⟩
    exfalso
    have:G.foot[i]?=some p:=hp
    rw [hf] at this;simp at this
  · intro b hb
    refine ⟨hb,(hJ b hb).2.1,hfoot b,?_,fun h=>h.elim⟩
    rintro ⟨id,bx,cap,hl,hT⟩
    exact (hJ b hb).2.2.2 id bx cap hl hT

theorem zBc.move {w w':World} {I I':Nat→Prop} {sh:FSh} {ps:List yY} {v:Value} {c:AV} (h:zBc w I sh ps v c) (hs:w.heap.size≤w'.heap.size) (hc:∀ b,I b→b<w.heap.size→w'.heap[b]?=w.heap[b]?)
    (hI:∀ b,I b→b<w.heap.size→I' b) (hb:∀ (i b cap:Nat),ps[i]?=some (yY.at b cap)→b<w.heap.size→w'.heap[b]?=w.heap[b]?):zBc w' I' sh ps v c:=by
  obtain ⟨av,bs,h1,h2,h3,h4⟩:=h
  exact ⟨av,bs,h1,h2,h3.mono hs hc hI (fun _ _ h=>h),fun i bx hi=>(h4 i bx hi).mono hs hc hI (fun _ _ h=>h) (fun b cap hp hlt=>hb i b cap hp hlt)⟩
end Go.Ab
