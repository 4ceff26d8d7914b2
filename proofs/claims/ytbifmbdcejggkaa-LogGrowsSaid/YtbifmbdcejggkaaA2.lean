/- Steps of the relation: a quiet step, a new block, a block of the call's own written, a row appended to. -/
import Derived.Test.YtbifmbdcejggkaaA1
namespace Go.Ab
open Go

structure Eff where
  rs:List (Nat×AV):=[]
  rb:List (Nat×zO):=[]
  dst:Option (Nat×AV):=none
  wb:List (Nat×zO):=[]
  fz:List (Nat×AV):=[]

def xJ:List (Nat×zO)→Nat→zO→zO
  | [],_,d=>d
  | (k,b)::r,i,d=>bif Nat.beq i k then b else xJ r i d

def zAF (f:Nat→AV):Option (Nat×AV)→Nat→AV
  | none,t=>f t
  | some (d,av),t=>bif Nat.beq t d then av else f t

def jI:List (Nat×AV)→Nat→AV→AV
  | [],_,d=>d
  | (k,v)::r,t,d=>bif Nat.beq t k then v else jI r t d

def AS.upd (st:AS) (E:Eff):AS:=⟨zAF (fun t=>jI E.fz t (st.slot t)) E.dst,fun i=>xJ E.wb i (st.box i)⟩

def Eff.holds (E:Eff) (st:AS):Prop:=(∀ x∈E.rs,st.slot x.1=x.2)∧(∀ x∈E.rb,st.box x.1=x.2)

theorem xO {a b:Nat}:Nat.beq a b=true↔a=b:=⟨Nat.eq_of_beq_eq_true,fun h=>h ▸ Nat.beq_refl a⟩
theorem zA4 (a:Nat):Nat.beq a a=true:=Nat.beq_refl a
theorem xQ {a b:Nat} (h:a≠b):Nat.beq a b=false:=by
  cases hb:Nat.beq a b
  · rfl
  · exact absurd (xO.1 hb) h

theorem jZ (f:Nat→AV) (d:Nat) (av:AV):zAF f (some (d,av)) d=av:=by simp [zAF]
theorem nU (f:Nat→AV) (d:Nat) (av:AV) {t:Nat} (h:t≠d):zAF f (some (d,av)) t=f t:=by simp [zAF,xQ h]

theorem zEL {a:Act} {d:Nat} {v:Value} (t:Nat) (hd:d<a.tmps.size) :
    (a.put (some d) v).tmps.getD t undef=if t=d then v else a.tmps.getD t undef:=by
  simp only [Act.put,Array.getD_eq_getD_getElem?,Array.getElem?_setIfInBounds]
  by_cases h:d=t
  · subst h;simp [hd]
  · have:¬ t=d:=fun e=>h e.symm
    simp [h,this]

theorem zJv {G:xE} {w w':World} {row:Option Nat} (hk:zDR G w) (hg:w.grownBy w' row) (hr:∀ g,row=some g→G.mine g∨G.has g):zDR G w' :=
  ⟨hg.os.trans hk.os,hg.tape.trans hk.tape,hg.output.trans hk.output,Nat.le_trans hk.size hg.size,fun b hb hn hn2 =>
    (hg.block b (Nat.lt_of_lt_of_le hb hk.size) (fun e=>by rcases hr b e.symm with (h | h) | h;omega;exact hn2 (.inl h);exact hn h)).trans (hk.block b hb hn hn2)⟩

/-- Every box of the old state that is tC there keeps what it says, if its block is not the one that was written. -/
theorem uH.mono {w w':World} {I I':Nat→Prop} {T T':Tbl} {p:Option yY} {bx:Box} (h:uH w I T p bx)
    (hs:w.heap.size≤w'.heap.size) (hc:∀ b,I b→b<w.heap.size→w'.heap[b]?=w.heap[b]?) (hI:∀ b,I b→b<w.heap.size→I' b)
    (hT:T.le T') (hb:∀ b cap,p=some (.at b cap)→b<w.heap.size→w'.heap[b]?=w.heap[b]?):uH w' I' T' p bx:=by
  cases bx with
  | var t cs =>
    obtain ⟨b,C,hp,hh,h1,h2,h3⟩:=h
    have hlt:b<w.heap.size:=by
      rcases Nat.lt_or_ge b w.heap.size with h' | h'
      · exact h'
      · rw [Array.getElem?_eq_none h'] at hh;cases hh
    exact ⟨b,C,hp,(hb b 0 hp hlt).trans hh,h1,h2,fun j c hj=>(h3 j c hj).mono hs hc hI hT⟩
  | row e sz l =>
    rcases h with h | ⟨b,cap,C,hp,hh,h1,h2,h3,h4,h5,h6⟩
    · exact .inl h
    · have hlt:b<w.heap.size:=by
        rcases Nat.lt_or_ge b w.heap.size with h' | h'
        · exact h'
        · rw [Array.getElem?_eq_none h'] at hh;cases hh
      exact .inr ⟨b,cap,C,hp,(hb b cap hp hlt).trans hh,h1,h2,h3,h4,h5,fun i av j c hi hj=>(h6 i av j c hi hj).mono hs hc hI (fun _ _ h=>h)⟩
  | rowQ e sz l m x =>
    rcases h with h | ⟨b,cap,C,hp,hh,h1,h2,h3,h4,h5,h6,h7⟩
    · exact .inl h
    · have hlt:b<w.heap.size:=by
        rcases Nat.lt_or_ge b w.heap.size with h' | h'
        · exact h'
        · rw [Array.getElem?_eq_none h'] at hh;cases hh
      exact .inr ⟨b,cap,C,hp,(hb b cap hp hlt).trans hh,h1,h2,h3,h4,h5,fun i av j c hi hj=>(h6 i av j c hi hj).mono hs hc hI (fun _ _ h=>h),
        fun hm=>⟨(h7 hm).1,(h7 hm).2.1,fun j c hj=>((h7 hm).2.2 j c hj).mono hs hc hI hT⟩⟩
  | map ag ks l =>
    obtain ⟨b,E,clock,hp,hh,h1,h2,h3,h4,h5⟩:=h
    have hlt:b<w.heap.size:=by
      rcases Nat.lt_or_ge b w.heap.size with h' | h'
      · exact h'
      · rw [Array.getElem?_eq_none h'] at hh;cases hh
    refine ⟨b,E,clock,hp,(hb b 0 hp hlt).trans hh,h1,h2,h3,h4,fun i x hx=>?_⟩
    obtain ⟨e,k1,k2,k3⟩:=h5 i x hx
    exact ⟨e,k1,k2.mono hs hc hI (fun _ _ h=>h),k3.mono hs hc hI (fun _ _ h=>h)⟩
  | fam f=>exact h

theorem uH.no {w:World} {I:Nat→Prop} {T:Tbl} {bx:Box} (h:uH w I T none bx):False:=by
  cases bx with
  | var t cs=>obtain ⟨b,C,hp,_⟩:=h;cases hp
  | row e sz l=>rcases h with ⟨hp,_⟩ | ⟨b,cap,C,hp,_⟩<;>cases hp
  | rowQ e sz l m x=>rcases h with ⟨hp,_⟩ | ⟨b,cap,C,hp,_⟩<;>cases hp
  | fam f=>cases h
  | map ag ks l=>obtain ⟨b,E,c,hp,_⟩:=h;cases hp

theorem uH.lt {w:World} {I:Nat→Prop} {T:Tbl} {bx:Box} {b cap:Nat} (h:uH w I T (some (.at b cap)) bx):b<w.heap.size:=by
  have lt_of:∀ {o:Obj},w.heap[b]?=some o→b<w.heap.size:=by
    intro o hh
    rcases Nat.lt_or_ge b w.heap.size with h' | h'
    · exact h'
    · rw [Array.getElem?_eq_none h'] at hh;cases hh
  cases bx with
  | var t cs =>
    obtain ⟨b',C,hp',hh,_⟩:=h
    injection hp' with hp';injection hp' with hp';subst hp'
    exact lt_of hh
  | row e sz l =>
    rcases h with ⟨hp',_⟩ | ⟨b',cap,C,hp',hh,_⟩
    · cases hp'
    · injection hp' with hp';injection hp' with hp';subst hp'
      exact lt_of hh
  | fam f=>cases h
  | rowQ e sz l m x =>
    rcases h with ⟨hp',_⟩ | ⟨b',cap,C,hp',hh,_⟩
    · cases hp'
    · injection hp' with hp';injection hp' with hp';subst hp'
      exact lt_of hh
  | map ag ks l =>
    obtain ⟨b',E,c,hp',hh,_⟩:=h
    injection hp' with hp';injection hp' with hp';subst hp'
    exact lt_of hh

/-- THE STEP. 'row': the block that was written, if one was. -/
theorem vS.step {G:xE} {st:AS} {T:Tbl} {a:Act} {w:World} (h:vS G st T a w) {E:Eff} {T':Tbl} {w':World} {row:Option Nat} {dst:Option Tmp} {v:Value}
    (hg:w.grownBy w' row) (hT:T.le T')
    (hrow:∀ g,row=some g→∃ id bx cap,st.box id=.live bx∧T id=some (.at g cap))
    (himm:∀ b,imm G st T b→b<w.heap.size→imm G (st.upd E) T' b)
    (hdst:dst=E.dst.map (·.1))
    (hd:∀ d av,E.dst=some (d,av)→d<G.n∧Rep w' (imm G (st.upd E) T') T' v av)
    (hbox:∀ id bx,(st.upd E).box id=.live bx→(st.box id=.live bx∧∀ g cap,row=some g→T id≠some (.at g cap)) ∨
      (uH w' (imm G (st.upd E) T') T' (T' id) bx∧(∀ b cap,T' id=some (.at b cap)→G.foot.length≤id→G.mine b)))
    (hun:∀ id,(st.upd E).box id=.unused→T' id=none)
    (hap:∀ id id' bx bx' b cap cap',(st.upd E).box id=.live bx→(st.upd E).box id'=.live bx'→T' id=some (.at b cap)→T' id'=some (.at b cap')→id=id') (hfz:E.fz=[]:=by rfl) :
    Rel G (st.upd E) (a.put dst v) w':=by
  have hcI:∀ b,imm G st T b→b<w.heap.size→w'.heap[b]?=w.heap[b]?:=fun b hb hlt=>hg.block b hlt (fun e=>by
    obtain ⟨id,bx,cap,h1,h2⟩:=hrow b e.symm
    exact hb.2 id bx cap h1 h2)
  refine ⟨T',?_,?_,?_,?_,hun,hap,?_,fun i p hp=>hT _ _ (h.foot i p hp),?_,fun i p hp=>hT _ _ (h.pin i p hp)⟩
  · cases dst<;>exact h.defers
  · cases dst<;>simp [Act.put,h.size]
  · intro t
    subst hdst
    cases hE:E.dst with
    | none =>
      simp only [AS.upd,hE,hfz,jI,zAF,Option.map_none,Act.put]
      exact (h.slots t).mono hg.size hcI himm hT
    | some x =>
      obtain ⟨d,av⟩:=x
      obtain ⟨hlt,hv⟩:=hd d av hE
      simp only [AS.upd,hE,hfz,jI,Option.map_some]
      rw [zEL t (by rw [h.size];exact hlt)]
      by_cases ht:t=d
      · subst ht;rw [if_pos rfl,jZ];exact hv
      · rw [if_neg ht,nU _ _ _ ht];exact (h.slots t).mono hg.size hcI himm hT
  · intro id bx hb
    rcases hbox id bx hb with ⟨hold,hne⟩ | hnew
    · have hok:=h.boxes id bx hold
      have hTid:T' id=T id:=by
        cases hTi:T id with
        | some p=>exact hT _ _ hTi
        | none =>
          rw [hTi] at hok
          exact hok.no.elim
      rw [hTid]
      exact hok.mono hg.size hcI himm hT fun b cap hp hlt=>hg.block b hlt fun e=>hne b cap e.symm hp
    · exact hnew.1
  · intro id bx b cap hb hTb hge0
    rcases hbox id bx hb with ⟨hold,_⟩ | ⟨_,hnew⟩
    · have hok:=h.boxes id bx hold
      have hTi:T id=some (.at b cap):=by
        cases hTi:T id with
        | some p=>rw [hT _ _ hTi] at hTb;exact hTb
        | none =>
          rw [hTi] at hok
          exact hok.no.elim
      exact h.mine id bx b cap hold hTi hge0
    · exact hnew b cap hTb hge0
  · exact zJv h.kept hg fun g hg'=>by
      obtain ⟨id,bx,cap,h1,h2⟩:=hrow g hg'
      rcases Nat.lt_or_ge id G.foot.length with hlt | hge
      · have:=h.foot id _ (List.getElem?_eq_getElem hlt)
        rw [h2] at this
        injection this with this
        exact .inr ⟨cap,by rw [this];exact List.getElem_mem hlt⟩
      · exact .inl (h.mine id bx g cap h1 h2 hge)

theorem pL (st:AS) (E:Eff):(st.upd E).box=fun i=>xJ E.wb i (st.box i):=rfl

/-- A quiet step: a value in a slot. -/
theorem vS.quiet {G:xE} {st:AS} {T:Tbl} {a:Act} {w:World} (h:vS G st T a w) {E:Eff} {w':World} {dst:Option Tmp} {v:Value}
    (hg:w.grownBy w' none) (hb:(st.upd E).box=st.box) (hdst:dst=E.dst.map (·.1))
    (hd:∀ d av,E.dst=some (d,av)→d<G.n∧Rep w' (imm G st T) T v av) (hfz:E.fz=[]:=by rfl) :
    Rel G (st.upd E) (a.put dst v) w':=by
  have hi:imm G (st.upd E) T=imm G st T:=by funext b;simp only [imm,hb]
  refine h.step (hfz:=hfz) hg (fun _ _ h=>h) (fun g hg=>by cases hg) (fun b hb _=>by rw [hi];exact hb) hdst ?_ ?_ ?_ ?_
  · intro d av hE;rw [hi];exact hd d av hE
  · intro id bx hbx;rw [hb] at hbx;exact .inl ⟨hbx,fun g cap hg=>by cases hg⟩
  · intro id hu;rw [hb] at hu;exact h.unused id hu
  · intro id id' bx bx' b cap cap' h1 h2;rw [hb] at h1 h2;exact h.apart id id' bx bx' b cap cap' h1 h2

def Tbl.put (T:Tbl) (id:Nat) (p:yY):Tbl:=fun i=>if i=id then some p else T i

theorem Tbl.put_same (T:Tbl) (id:Nat) (p:yY):T.put id p id=some p:=by simp [Tbl.put]
theorem Tbl.put_ne (T:Tbl) {id i:Nat} (p:yY) (h:i≠id):T.put id p i=T i:=by simp [Tbl.put,h]
theorem Tbl.le_put {T:Tbl} {id:Nat} {p:yY} (h:T id=none):T.le (T.put id p):=fun i q hq=>by
  by_cases e:i=id
  · subst e;rw [h] at hq;cases hq
  · rw [Tbl.put_ne _ _ e];exact hq

theorem zA6 (id:Nat) (b d:zO) (i:Nat):xJ [(id,b)] i d=if i=id then b else d:=by
  by_cases h:i=id
  · subst h;simp [xJ]
  · simp [xJ,xQ h,h]

/-- A new block of the call's own. 'p': where it lies: nowhere, or behind all that was there. -/
theorem vS.new {G:xE} {st:AS} {T:Tbl} {a:Act} {w:World} (h:vS G st T a w) {E:Eff} {w':World} {dst:Option Tmp} {v:Value} {id:Nat} {bx:Box} {p:yY}
    (hg:w.grownBy w' none) (hw:E.wb=[(id,.live bx)]) (hu:st.box id=.unused) (hdst:dst=E.dst.map (·.1))
    (hp:∀ b cap,p=.at b cap→w.heap.size≤b)
    (hok:uH w' (imm G (st.upd E) (T.put id p)) (T.put id p) (some p) bx)
    (hd:∀ d av,E.dst=some (d,av)→d<G.n∧Rep w' (imm G (st.upd E) (T.put id p)) (T.put id p) v av) (hfz:E.fz=[]:=by rfl) :
    Rel G (st.upd E) (a.put dst v) w':=by
  have hb:∀ i,(st.upd E).box i=if i=id then .live bx else st.box i:=fun i=>by rw [pL,hw];exact zA6 _ _ _ _
  have hTn:=h.unused id hu
  refine h.step (hfz:=hfz) hg (T':=T.put id p) (Tbl.le_put hTn) (fun g hg=>by cases hg) ?_ hdst hd ?_ ?_ ?_
  · intro b hI hlt
    refine ⟨hI.1,fun id' bx' cap hl hT'=>?_⟩
    rw [hb] at hl
    by_cases e:id'=id
    · subst e
      rw [Tbl.put_same] at hT'
      injection hT' with hT'
      have:=hp b cap hT'
      omega
    · rw [if_neg e] at hl;rw [Tbl.put_ne _ _ e] at hT'
      exact hI.2 id' bx' cap hl hT'
  · intro id' bx' hl
    rw [hb] at hl
    by_cases e:id'=id
    · subst e
      rw [if_pos rfl] at hl;injection hl with hl;subst hl
      rw [Tbl.put_same]
      exact .inr ⟨hok,fun b cap hT _=>by injection hT with hT;exact .inl (Nat.le_trans h.kept.size (hp b cap hT))⟩
    · rw [if_neg e] at hl
      exact .inl ⟨hl,fun g cap hg=>by cases hg⟩
  · intro id' hl
    rw [hb] at hl
    by_cases e:id'=id
    · subst e;simp at hl
    · rw [if_neg e] at hl;rw [Tbl.put_ne _ _ e];exact h.unused id' hl
  · intro id1 id2 bx1 bx2 b c1 c2 h1 h2 t1 t2
    rw [hb] at h1 h2
    have old:∀ i bxi c,i≠id→st.box i=.live bxi→T i=some (.at b c)→b<w.heap.size:=by
      intro i bxi c _ hl hT
      have hok:=h.boxes i bxi hl
      rw [hT] at hok
      exact hok.lt
    by_cases e1:id1=id<;>by_cases e2:id2=id
    · rw [e1,e2]
    · subst e1
      rw [if_neg e2] at h2;rw [Tbl.put_same] at t1;rw [Tbl.put_ne _ _ e2] at t2
      injection t1 with t1
      have:=hp b c1 t1
      have:=old id2 bx2 c2 e2 h2 t2
      omega
    · subst e2
      rw [if_neg e1] at h1;rw [Tbl.put_same] at t2;rw [Tbl.put_ne _ _ e1] at t1
      injection t2 with t2
      have:=hp b c2 t2
      have:=old id1 bx1 c1 e1 h1 t1
      omega
    · rw [if_neg e1] at h1;rw [if_neg e2] at h2;rw [Tbl.put_ne _ _ e1] at t1;rw [Tbl.put_ne _ _ e2] at t2
      exact h.apart id1 id2 bx1 bx2 b c1 c2 h1 h2 t1 t2

/-- A block of the call's own is written; its box says what it holds now. -/
theorem vS.write {G:xE} {st:AS} {T:Tbl} {a:Act} {w:World} (h:vS G st T a w) {E:Eff} {w':World} {dst:Option Tmp} {v:Value} {id:Nat} {bx bx':Box} {b cap:Nat}
    (hl:st.box id=.live bx) (hTid:T id=some (.at b cap))
    (hg:w.grownBy w' (some b)) (hw:E.wb=[(id,.live bx')]) (hdst:dst=E.dst.map (·.1))
    (hok:uH w' (imm G st T) T (T id) bx')
    (hd:∀ d av,E.dst=some (d,av)→d<G.n∧Rep w' (imm G st T) T v av) (hfz:E.fz=[]:=by rfl) :
    Rel G (st.upd E) (a.put dst v) w':=by
  have hb:∀ i,(st.upd E).box i=if i=id then .live bx' else st.box i:=fun i=>by rw [pL,hw];exact zA6 _ _ _ _
  have hi:imm G (st.upd E) T=imm G st T:=by
    funext c
    apply propext
    constructor
    · intro hI
      refine ⟨hI.1,fun i bxi cp hli hTi=>?_⟩
      by_cases e:i=id
      · subst e;exact hI.2 i bx' cp (by rw [hb,if_pos rfl]) hTi
      · exact hI.2 i bxi cp (by rw [hb,if_neg e];exact hli) hTi
    · intro hI
      refine ⟨hI.1,fun i bxi cp hli hTi=>?_⟩
      rw [hb] at hli
      by_cases e:i=id
      · subst e;exact hI.2 i bx cp hl hTi
      · rw [if_neg e] at hli;exact hI.2 i bxi cp hli hTi
  refine h.step (hfz:=hfz) hg (fun _ _ h=>h) (fun g hg=>by injection hg with hg;subst hg;exact ⟨id,bx,cap,hl,hTid⟩) (fun c hc _=>by rw [hi];exact hc) hdst ?_ ?_ ?_ ?_
  · intro d av hE;rw [hi];exact hd d av hE
  · intro i bxi hli
    rw [hb] at hli
    by_cases e:i=id
    · subst e
      rw [if_pos rfl] at hli;injection hli with hli;subst hli
      rw [hi]
      exact .inr ⟨hok,fun b' cap' hT' hge=>h.mine i bx b' cap' hl hT' hge⟩
    · rw [if_neg e] at hli
      refine .inl ⟨hli,fun g cp hg hT'=>?_⟩
      injection hg with hg;subst hg
      exact e (h.apart i id bxi bx b cp cap hli hl hT' hTid)
  · intro i hu
    rw [hb] at hu
    by_cases e:i=id
    · subst e;simp at hu
    · rw [if_neg e] at hu;exact h.unused i hu
  · intro i1 i2 b1 b2 c d1 d2 h1 h2 t1 t2
    rw [hb] at h1 h2
    have l1:∃ x,st.box i1=.live x:=by
      by_cases e:i1=id
      · subst e;exact ⟨_,hl⟩
      · rw [if_neg e] at h1;exact ⟨_,h1⟩
    have l2:∃ x,st.box i2=.live x:=by
      by_cases e:i2=id
      · subst e;exact ⟨_,hl⟩
      · rw [if_neg e] at h2;exact ⟨_,h2⟩
    obtain ⟨x1,l1⟩:=l1
    obtain ⟨x2,l2⟩:=l2
    exact h.apart i1 i2 x1 x2 c d1 d2 l1 l2 t1 t2

/-- A row is appended to: the old name is dead; the new one lies where the old one lay, or behind all that was there, or nowhere. -/
theorem vS.move {G:xE} {st:AS} {T:Tbl} {a:Act} {w:World} (h:vS G st T a w) {E:Eff} {w':World} {dst:Option Tmp} {v:Value} {id id':Nat} {bx bx':Box} {p:yY} {row:Option Nat}
    (hl:st.box id=.live bx) (hu:st.box id'=.unused) (hnp:G.foot.length≤id)
    (hrow:∀ g,row=some g→∃ cap,T id=some (.at g cap))
    (hg:w.grownBy w' row) (hw:E.wb=[(id',.live bx'),(id,.dead)]) (hdst:dst=E.dst.map (·.1))
    (hp:∀ b cap,p=.at b cap→w.heap.size≤b∨(∃ cap',T id=some (.at b cap')))
    (hok:∀ I T':_,(∀ b,imm G st T b→b<w.heap.size→I b)→T.le T'→uH w' I T' (some p) bx')
    (hd:∀ d av,E.dst=some (d,av)→d<G.n∧∀ I T',T' id'=some p→Rep w' I T' v av) (hfz:E.fz=[]:=by rfl) :
    Rel G (st.upd E) (a.put dst v) w':=by
  have hne:id'≠id:=fun e=>by rw [e,hl] at hu;cases hu
  have hb:∀ i,(st.upd E).box i=if i=id' then .live bx' else if i=id then .dead else st.box i:=fun i=>by
    rw [pL,hw]
    by_cases e:i=id'
    · subst e;simp [xJ]
    · by_cases e2:i=id
      · subst e2;simp [xJ,xQ e,e]
      · simp [xJ,xQ e,xQ e2,e,e2]
  have hTn:=h.unused id' hu
  have pD:∀ i bxi b c,st.box i=.live bxi→T i=some (.at b c)→b<w.heap.size:=by
    intro i bxi b c hl hT
    have hok:=h.boxes i bxi hl
    rw [hT] at hok
    exact hok.lt
  have himm:∀ b,imm G st T b→b<w.heap.size→imm G (st.upd E) (T.put id' p) b:=by
    intro b hI hlt
    refine ⟨hI.1,fun i bxi cap hli hTi=>?_⟩
    rw [hb] at hli
    by_cases e:i=id'
    · subst e
      rw [Tbl.put_same] at hTi;injection hTi with hTi
      rcases hp b cap hTi with h' | ⟨cap',h'⟩
      · omega
      · exact hI.2 id bx cap' hl h'
    · rw [if_neg e] at hli;rw [Tbl.put_ne _ _ e] at hTi
      by_cases e2:i=id
      · rw [if_pos e2] at hli;cases hli
      · rw [if_neg e2] at hli;exact hI.2 i bxi cap hli hTi
  refine h.step (hfz:=hfz) hg (T':=T.put id' p) (Tbl.le_put hTn) (fun g hg=>?_) himm hdst ?_ ?_ ?_ ?_
  · obtain ⟨cap,hT⟩:=hrow g hg
    exact ⟨id,bx,cap,hl,hT⟩
  · intro d av hE
    exact ⟨(hd d av hE).1,(hd d av hE).2 _ _ (Tbl.put_same _ _ _)⟩
  · intro i bxi hli
    rw [hb] at hli
    by_cases e:i=id'
    · subst e
      rw [if_pos rfl] at hli;injection hli with hli;subst hli
      rw [Tbl.put_same]
      exact .inr ⟨hok _ _ himm (Tbl.le_put hTn),fun b cap hT _=>by
        injection hT with hT
        rcases hp b cap hT with h' | ⟨cap',h'⟩
        · exact .inl (Nat.le_trans h.kept.size h')
        · exact h.mine id bx b cap' hl h' hnp⟩
    · rw [if_neg e] at hli
      by_cases e2:i=id
      · rw [if_pos e2] at hli;cases hli
      · rw [if_neg e2] at hli
        refine .inl ⟨hli,fun g cap hg hT=>?_⟩
        obtain ⟨cap',hT'⟩:=hrow g hg
        exact e2 (h.apart i id bxi bx g cap cap' hli hl hT hT')
  · intro i hli
    rw [hb] at hli
    by_cases e:i=id'
    · subst e;simp at hli
    · rw [if_neg e] at hli;rw [Tbl.put_ne _ _ e]
      by_cases e2:i=id
      · rw [if_pos e2] at hli;cases hli
      · rw [if_neg e2] at hli;exact h.unused i hli
  · intro i1 i2 b1 b2 b c1 c2 h1 h2 t1 t2
    rw [hb] at h1 h2
    have key:∀ i bxi c c',i≠id'→(if i=id then zO.dead else st.box i)=.live bxi→T i=some (.at b c)→p=.at b c'→False:=by
      intro i bxi c c' e hli hTi hpp
      by_cases e2:i=id
      · rw [if_pos e2] at hli;cases hli
      · rw [if_neg e2] at hli
        have hlt:=pD i bxi b c hli hTi
        rcases hp b c' hpp with h' | ⟨cap',h'⟩
        · omega
        · exact e2 (h.apart i id bxi bx b c cap' hli hl hTi h')
    by_cases e1:i1=id'<;>by_cases e2:i2=id'
    · rw [e1,e2]
    · subst e1
      rw [if_neg e2] at h2;rw [Tbl.put_same] at t1;rw [Tbl.put_ne _ _ e2] at t2
      injection t1 with t1
      exact (key i2 b2 c2 c1 e2 h2 t2 t1).elim
    · subst e2
      rw [if_neg e1] at h1;rw [Tbl.put_same] at t2;rw [Tbl.put_ne _ _ e1] at t1
      injection t2 with t2
      exact (key i1 b1 c1 c2 e1 h1 t1 t2).elim
    · rw [if_neg e1] at h1;rw [if_neg e2] at h2;rw [Tbl.put_ne _ _ e1] at t1;rw [Tbl.put_ne _ _ e2] at t2
      by_cases f1:i1=id
      · rw [if_pos f1] at h1;cases h1
      · by_cases f2:i2=id
        · rw [if_pos f2] at h2;cases h2
        · rw [if_neg f1] at h1;rw [if_neg f2] at h2
          exact h.apart i1 i2 b1 b2 b c1 c2 h1 h2 t1 t2
end Go.Ab
