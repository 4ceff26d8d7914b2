/- Hidden blocks: a store into their map. -/
import Derived.Test.YtbifmbdcejggkaaA45
namespace Go.Ab
open Go

/-- An entry is laid into such a map. -/
theorem zJe {w0 w:World} {I I' Hd Hd2:Nat→Prop} {b:Nat} {ag:Bool} {ks:List KSh} {sh:FSh} {l es:List (AV×AV)} {key c:AV} {ex:AV→Prop} {exv:Value→Prop} {E E':Array MapEntry} {clock':Nat} {Pl:Nat→List yY} {j:Nat} {v:Value} {ps:List yY}
    (hex:∀ k,ex k→k=key) (hb:Hd b) (hk6:∀ x∈es,uZ ag ks x.1=true)
    (m7:∀ (i:Nat) (x:AV×AV),l[i]?=some x→∃ e:MapEntry,E[i]?=some e∧Rep w0 I Tbl.empty e.key x.1∧(ex x.1→exv e.val)∧(¬ ex x.1→zBc w0 I sh (Pl i) e.val x.2))
    (m8:∀ i,l.length≤i→Pl i=[])
    (m9:∀ (i j b1 c1:Nat),(Pl i)[j]?=some (yY.at b1 c1)→Hd b1∧b1≠b)
    (m10:∀ (i j i' j' b1 c1 c2:Nat),(Pl i)[j]?=some (yY.at b1 c1)→(Pl i')[j']?=some (yY.at b1 c2)→i=i'∧j=j')
    (hsz:w0.heap.size≤w.heap.size) (hI:∀ c,I c→c<w0.heap.size→w.heap[c]?=w0.heap[c]?) (hH:∀ c,Hd c→c≠b→w.heap[c]?=w0.heap[c]?) (hII:∀ c,I c→c<w0.heap.size→I' c)
    (hE':w.heap[b]?=some (.map E' clock')) (hS':MapKept.Stamped E' clock') (hes:E'.size=es.length) (hmax:es.length≤maxLen) (hlen:l.length≤es.length)
    (hj:es[j]?=some (key,c)) (hnew:∃ e':MapEntry,E'[j]?=some e'∧Rep w I' Tbl.empty e'.key key∧e'.val=v)
    (hold:∀ (i:Nat) (x:AV×AV),i≠j→es[i]?=some x→l[i]?=some x∧E'[i]?=E[i]?∧x.1≠key)
    (hFE:zBc w I' sh ps v c) (hps:∀ (j b1 c1:Nat),ps[j]?=some (yY.at b1 c1)→Hd2 b1∧b1≠b∧¬ Hd b1) (hdist:∀ (j j' b1 c c':Nat),ps[j]?=some (yY.at b1 c)→ps[j']?=some (yY.at b1 c')→j=j')
    (hHd:∀ c,Hd c→Hd2 c):nH w I' Hd2 b ag ks sh es (fun _=>False) (fun _=>True):=by
  have hjl:=(List.getElem?_eq_some_iff.1 hj).1
  refine ⟨E',clock',fun i=>if i=j then ps else Pl i,hHd b hb,hE',hes,hmax,hS',hk6,?_,fun _ _ _ h=>h.elim,?_,?_,?_⟩
  · intro i x hi
    by_cases e:i=j
    · subst e
      rw [hj] at hi;injection hi with hi;subst hi
      obtain ⟨e',q1,q2,q3⟩:=hnew
      exact ⟨e',q1,q2,fun h=>h.elim,fun _=>by simp only [if_pos];rw [q3];exact hFE⟩
    · obtain ⟨h1,h2,h3⟩:=hold i x e hi
      obtain ⟨e',q1,q2,_,q4⟩:=m7 i x h1
      refine ⟨e',by rw [h2];exact q1,q2.mono hsz hI hII (fun _ _ h=>h),fun h=>h.elim,fun _=>?_⟩
      simp only [if_neg e]
      exact (q4 (fun h=>h3 (hex _ h))).move hsz hI hII (fun i' b1 cap hp _=>hH b1 (m9 i i' b1 cap hp).1 (m9 i i' b1 cap hp).2)
  · intro i hi
    have:i≠j:=by omega
    simp only [if_neg this]
    exact m8 i (by omega)
  · intro i j' b1 c1 hp
    by_cases e:i=j
    · simp only [if_pos e] at hp;exact ⟨(hps j' b1 c1 hp).1,(hps j' b1 c1 hp).2.1⟩
    · simp only [if_neg e] at hp;exact ⟨hHd _ (m9 i j' b1 c1 hp).1,(m9 i j' b1 c1 hp).2⟩
  · intro i j1 i' j2 b1 c1 c2 h1 h2
    by_cases e:i=j<;>by_cases e':i'=j
    · simp only [if_pos e] at h1;simp only [if_pos e'] at h2
      exact ⟨e.trans e'.symm,hdist j1 j2 b1 c1 c2 h1 h2⟩
    · simp only [if_pos e] at h1;simp only [if_neg e'] at h2
      exact absurd (m9 i' j2 b1 c2 h2).1 (hps j1 b1 c1 h1).2.2
    · simp only [if_neg e] at h1;simp only [if_pos e'] at h2
      exact absurd (m9 i j1 b1 c1 h1).1 (hps j2 b1 c2 h2).2.2
    · simp only [if_neg e] at h1;simp only [if_neg e'] at h2
      exact m10 i j1 i' j2 b1 c1 c2 h1 h2

/-- Boxes of the call's own become hidden blocks. -/
theorem zHR {G G':xE} {Hd:Nat→Prop} {st st2:AS} {T:Tbl} {a:Act} {w w2:World} (L:u3 G G' Hd) (hf:G.foot=[]) (hR:vS G' st T a w) {ids:List Nat} (hl:∀ id∈ids,∃ bx,st.box id=.live bx)
    (hos:w2.os=w.os) (htape:w2.tape=w.tape) (hout:w2.output=w.output) (hsz:w.heap.size≤w2.heap.size) (hblk:∀ b,b<w.heap.size→¬ Hd b→w2.heap[b]?=w.heap[b]?)
    (hslot:st2.slot=st.slot) (hbox:∀ i,st2.box i=if i∈ids then .dead else st.box i) :
    u3 G (reb G (fun b=>imm G' st T b∧b<w.heap.size) st2 T w2 (fun _=>none)) (fun b=>Hd b∨∃ id∈ids,∃ c,T id=some (.at b c)) ∧
    vS (reb G (fun b=>imm G' st T b∧b<w.heap.size) st2 T w2 (fun _=>none)) st2 T a w2 ∧
    ∀ b,imm G' st T b∧b<w.heap.size→tC (reb G (fun b=>imm G' st T b∧b<w.heap.size) st2 T w2 (fun _=>none)) b:=by
  have hlive:∀ id bx,st2.box id=.live bx→id∉ids∧st.box id=.live bx:=by
    intro id bx h
    rw [hbox] at h
    by_cases e:id∈ids
    · rw [if_pos e] at h;cases h
    · rw [if_neg e] at h;exact ⟨e,h⟩
  have hkeep:∀ b,imm G' st T b→b<w.heap.size→w2.heap[b]?=w.heap[b]?:=fun b hb hlt=>hblk b hlt fun h=>zBw L h hb
  refine zFF (Hd2:=fun b=>Hd b∨∃ id∈ids,∃ c,T id=some (.at b c)) L hf hR hos htape hout hsz hblk hR.defers (by rw [hR.size,L.n]) ?_ ?_ ?_ ?_ ?_ ?_ (fun i p hp=>by cases hp) ?_
  · rintro b ⟨hb,hlt⟩
    refine ⟨(L.imm hb).1.elim .inl .inr,Nat.lt_of_lt_of_le hlt hsz,fun h=>?_,fun id bx cap h1=>hb.2 id bx cap (hlive id bx h1).2⟩
    rcases h with h | ⟨id,hi,c,hT⟩
    · exact zBw L h hb
    · obtain ⟨bx,hbx⟩:=hl id hi
      exact hb.2 id bx c hbx hT
  · intro t
    rw [hslot]
    exact (hR.slots t).mono hsz hkeep (fun b hb hlt=>⟨hb,hlt⟩) (fun _ _ h=>h)
  · intro id bx h1
    obtain ⟨_,h2⟩:=hlive id bx h1
    exact (hR.boxes id bx h2).mono hsz hkeep (fun b hb hlt=>⟨hb,hlt⟩) (fun _ _ h=>h) (fun b cap hp hlt=>hblk b hlt (jG L hf hR h2 hp))
  · intro id h1
    rw [hbox] at h1
    by_cases e:id∈ids
    · rw [if_pos e] at h1;cases h1
    · rw [if_neg e] at h1;exact hR.unused id h1
  · intro i j x y b c c' h1 h2
    exact hR.apart i j x y b c c' (hlive i x h1).2 (hlive j y h2).2
  · intro id bx b cap h1 hT
    obtain ⟨hn,h2⟩:=hlive id bx h1
    refine ⟨L.mine (hR.mine id bx b cap h2 hT (by rw [L.foot,hf];exact Nat.zero_le _)),fun h=>?_⟩
    rcases h with h | ⟨id',hi,c,hT'⟩
    · exact jG L hf hR h2 hT h
    · obtain ⟨bx',hbx'⟩:=hl id' hi
      have:=hR.apart id id' bx bx' b cap c h2 hbx' hT hT'
      subst this;exact hn hi
  · rintro b (h | ⟨id,hi,c,hT⟩)
    · exact ⟨Nat.lt_of_lt_of_le (L.hid b h).1 (Nat.le_trans hR.kept.size hsz),(L.hid b h).2.1⟩
    · obtain ⟨bx,hbx⟩:=hl id hi
      exact ⟨Nat.lt_of_lt_of_le (pD hR hbx hT) hsz,L.mine (hR.mine id bx b c hbx hT (by rw [L.foot,hf];exact Nat.zero_le _))⟩

/-- Boxes as an entry's content: what they are by places of its own. -/
theorem zJp {G:xE} {st:AS} {T:Tbl} {a:Act} {w w2:World} {J:Nat→Prop} (hR:vS G st T a w) {ids:List Nat} {bs:List Box} {av:AV} {v:Value} {sh:FSh} {c:AV} (hl:ids.length=bs.length)
    (hdec:sh.dec c=some (av,bs)) (hv:Rep w (imm G st T) T v (un ids av)) (hbel:tG ids.length av=true) (hb:∀ (j id:Nat) (bx:Box),ids[j]?=some id→bs[j]?=some bx→st.box id=.live (unB ids bx)) (hbels:∀ bx∈bs,kY ids.length bx=true)
    (hsz:w.heap.size≤w2.heap.size) (hkeep:∀ b,imm G st T b→b<w.heap.size→w2.heap[b]?=w.heap[b]?) (hJ:∀ b,imm G st T b→b<w.heap.size→J b) (hown:∀ id∈ids,∀ b c,T id=some (.at b c)→w2.heap[b]?=w.heap[b]?) :
    ∃ ps:List yY,zBc w2 J sh ps v c∧ps.length=ids.length∧(∀ (j id:Nat),ids[j]?=some id→ps[j]?=T id):=by
  have hT:∀ (j id:Nat),ids[j]?=some id→∃ p,T id=some p:=by
    intro j id hj
    have hjl:j<bs.length:=by rw [← hl];exact (List.getElem?_eq_some_iff.1 hj).1
    have h1:=hb j id _ hj (List.getElem?_eq_getElem hjl)
    have h2:=hR.boxes id _ h1
    cases h:T id with
    | none=>rw [h] at h2;exact h2.no.elim
    | some p=>exact ⟨p,rfl⟩
  have hpj:∀ (j id:Nat),ids[j]?=some id→(ids.map fun i=>(T i).getD .nil)[j]?=T id:=by
    intro j id hj
    obtain ⟨p,hp⟩:=hT j id hj
    rw [List.getElem?_map,hj]
    simp [hp]
  have hTc:Tc ids T=fun i=>(ids.map fun i=>(T i).getD .nil)[i]?:=by
    funext j
    simp only [Tc]
    cases hj:ids[j]? with
    | none=>rw [List.getElem?_map,hj];rfl
    | some id=>exact (hpj j id hj).symm
  refine ⟨ids.map fun i=>(T i).getD .nil,⟨av,bs,hdec,by rw [List.length_map,hl],?_,?_⟩,by simp,hpj⟩
  · have:=zCs (foot:=ids) hv av rfl hbel
    rw [hTc] at this
    exact this.mono hsz hkeep hJ (fun _ _ h=>h)
  · intro j bx hj
    have hjl:j<ids.length:=by rw [hl];exact (List.getElem?_eq_some_iff.1 hj).1
    have hij:=List.getElem?_eq_getElem hjl
    have h1:=hR.boxes _ _ (hb j _ bx hij hj)
    have h2:=zE3 (foot:=ids) h1 (hbels bx (List.mem_of_getElem? hj))
    rw [hTc,← hpj j _ hij] at h2
    refine h2.mono hsz hkeep hJ (fun _ _ h=>h) (fun b c hp _=>?_)
    rw [hpj j _ hij] at hp
    exact hown _ (List.mem_of_getElem? hij) b c hp

def zMm (key:AV):Option AV→Prop
  | some k=>key=k
  | none=>True
/-- A store into a map with hidden blocks: boxes of the call's own are hidden. -/
def zGl (P:Program) (t:TypeId) (m key v:AV) (B:Nat→zO) (f:Fam) (h:xK):Option (List Prop×List (Nat×zO)×Fam) :=
  match zCb P t,m,famOf f with
  | some (k,_),.rawm b,some (b',ag,ks,sh,l,key') =>
    bif uZ ag ks key then
      match sh.dec h.av with
      | some (av,bs) =>
        bif vO h.ids&&(Nat.beq h.ids.length bs.length&&(tG h.ids.length av&&bs.all (fun x=>kY h.ids.length x&&x.nf))) then
          some ([b=b',zMm key key',vZ P k ag ks,zBN l key h.av h.es,l.length<maxLen,v=un h.ids av,h.ids.map B=bs.map (fun x=>.live (unB h.ids x))],
            h.ids.map (fun i=>(i,.dead)),.cl b ag ks sh h.es)
        else none
      | none=>none
    else none
  | _,_,_=>none
where famOf:Fam→Option (Nat×Bool×List KSh×FSh×List (AV×AV)×Option AV)
  | .cl b ag ks sh l=>some (b,ag,ks,sh,l,none)
  | .op b ag ks sh l key=>some (b,ag,ks,sh,l,some key)
  | .opp ..=>none

theorem zJJ {P:Program} {N:Nat} {o:Oper} {t:TypeId} {x y z:Operand} {rs:List (Nat×AV)} {hn:xK} {B:Nat→zO} {f:Fam} {r:List Prop×List (Nat×zO)×Fam}
    (ho:o.op=.mapUpdate t x y z) (hx:y3 x=true) (hy:y3 y=true) (hz:y3 z=true)
    (h:zGl P t (z7 rs x) (z7 rs y) (z7 rs z) B f hn=some r) (hv:∀ p∈r.1,p) (hd:o.dst=none) {fid:Nat} {G:xE} {st st2:AS} {a:Act} {w:World} (hf:G.foot=[]) (_hN:G.n=N)
    (hrs:∀ x∈rs,st.slot x.1=x.2) (hB:∀ i∈r.2.1.map (·.1),st.box i=B i) (hfid:st.box fid=.live (.fam f))
    (hslot:st2.slot=st.slot) (hbox:∀ i,st2.box i=xJ (r.2.1++[(fid,.live (.fam r.2.2))]) i (st.box i)) (hR:vL G st a w) :
    o.wp P a w (fun a' w'=>vL G st2 a' w') (fun _ _ _=>False):=by
  obtain ⟨G',Hd,L,F0,T,hT⟩:=hR
  have F:=F0.ok fid f hfid
  have hrx:=y2 hT hrs hx
  have hry:=y2 hT hrs hy
  have hrz:=y2 hT hrs hz
  unfold zGl at h
  split at h
  case h_2=>cases h
  rename_i k e' b b' ag ks sh l key' hmt hX hfam
  have hu:=zBB hmt
  rw [hX] at hrx
  replace h:=zY h;obtain ⟨hkm,h⟩:=h
  split at h
  case h_2=>cases h
  rename_i av bs hdec
  replace h:=zY h;obtain ⟨hc,h⟩:=h
  simp only [Bool.and_eq_true,List.all_eq_true] at hc
  obtain ⟨hnd,hlen,hbel,hbls0⟩:=hc
  have hlen:=xO.1 hlen
  injection h with h;subst h
  simp only at hv hbox hB
  have hbb:b=b':=hv _ (by simp)
  subst hbb
  have hkk:zMm (z7 rs y) key':=hv _ (by simp)
  have K:vZ P k ag ks:=hv _ (by simp)
  have hL:zBN l (z7 rs y) hn.av hn.es:=hv _ (by simp)
  have hmax:l.length<maxLen:=hv _ (by simp)
  have hvz:z7 rs z=un hn.ids av:=hv _ (by simp)
  have hBs:hn.ids.map B=bs.map (fun x=>zO.live (unB hn.ids x)):=hv _ (by simp)
  rw [hvz] at hrz
  generalize he:a.eval x=vx at hrx
  have hex:vx=.map (some b):=by cases hrx;rfl
  subst hex
  obtain ⟨t',ht'⟩:=K.reads _ _ _ _ _ hry hkm
  have hrk:Rep w (imm G' st T) Tbl.empty (a.eval y) (z7 rs y):=hry.bare (zGK hkm)
  -- what is known of the map, closed or with its entry taken out
  obtain ⟨ex,exv,hexk,M⟩:∃ (ex:AV→Prop) (exv:Value→Prop),(∀ k,ex k→k=z7 rs y)∧nH G'.w0 (tC G') Hd b ag ks sh l ex exv:=by
    cases f with
    | cl b1 ag1 ks1 sh1 l1=>simp only [zGl.famOf,Option.some.injEq,Prod.mk.injEq] at hfam;obtain ⟨rfl,rfl,rfl,rfl,rfl,rfl⟩:=hfam;exact ⟨fun _=>False,fun _=>True,fun _ h=>h.elim,F⟩
    | op b1 ag1 ks1 sh1 l1 k1=>simp only [zGl.famOf,Option.some.injEq,Prod.mk.injEq] at hfam;obtain ⟨rfl,rfl,rfl,rfl,rfl,rfl⟩:=hfam;exact ⟨fun k=>k=k1,fun _=>True,fun _ h=>h.trans (show z7 rs y=k1 from hkk).symm,F⟩
    | opp=>simp [zGl.famOf] at hfam
  obtain ⟨E,clock,Pl,m1,m2,m3,m4,m5,m6,m7,m8,m8',m9,m10⟩:=M
  have hI:∀ b,tC G' b→b<G'.w0.heap.size→w.heap[b]?=G'.w0.heap[b]?:=fun b hb _=>zBp hT.kept hb
  have hH:∀ b,Hd b→w.heap[b]?=G'.w0.heap[b]?:=fun b hb=>zCN L hT.kept hb
  have hII:∀ b,tC G' b→b<G'.w0.heap.size→imm G' st T b∧b<w.heap.size:=fun b hb _=>zCe L hf hT hb
  have hh:w.heap[b]?=some (.map E clock):=by rw [hH b m1];exact m2
  have hmemid:∀ i∈hn.ids,st.box i=B i:=fun i hi=>hB i (by simp only [List.map_map,List.mem_map];exact ⟨i,hi,rfl⟩)
  have hbj:∀ (j id:Nat) (bx:Box),hn.ids[j]?=some id→bs[j]?=some bx→st.box id=.live (unB hn.ids bx):=by
    intro j id bx h1 h2
    have:=congrArg (·[j]?) hBs
    simp only [List.getElem?_map,h1,h2,Option.map_some,Option.some.injEq] at this
    rw [hmemid id (List.mem_of_getElem? h1)];exact this
  have hnfj:∀ (j id:Nat) (bx:Box),hn.ids[j]?=some id→bs[j]?=some bx→(unB hn.ids bx).nf=true:=by
    intro j id bx h1 h2
    have:=(hbls0 bx (List.mem_of_getElem? h2)).2
    cases bx<;>first | rfl | cases this
  have hlive:∀ id∈hn.ids,∃ bx,st.box id=.live bx∧bx.nf=true:=by
    intro id hi
    obtain ⟨j,hj⟩:=List.mem_iff_getElem?.1 hi
    have hjl:j<bs.length:=by rw [← hlen];exact (List.getElem?_eq_some_iff.1 hj).1
    exact ⟨_,hbj j id _ hj (List.getElem?_eq_getElem hjl),hnfj j id _ hj (List.getElem?_eq_getElem hjl)⟩
  have hfn:fid∉hn.ids:=fun hi=>by
    obtain ⟨bx,h1,h2⟩:=hlive fid hi
    rw [hfid] at h1;injection h1 with h1;subst h1;cases h2
  have hnf:fid∉(hn.ids.map (fun i=>(i,zO.dead))).map (·.1):=by simpa [List.map_map,Function.comp_def] using hfn
  have hwnf:∀ x∈hn.ids.map (fun i=>(i,zO.dead)),x.2.nf=true:=by
    intro x hx;obtain ⟨i,_,rfl⟩:=List.mem_map.1 hx;rfl
  -- all but the map's own change
  have fin:∀ (E':Array MapEntry) (clock' j:Nat),(Instr.mapUpdate t (.map (some b)) (a.eval y) (a.eval z)).run P w=.ok () (ChangeMaps.setBlock w b (.map E' clock'))→E'.size=hn.es.length→hn.es.length≤maxLen→l.length≤hn.es.length→MapKept.Stamped E' clock' →
      (∀ x∈hn.es,uZ ag ks x.1=true)→hn.es[j]?=some (z7 rs y,hn.av)→(∃ e':MapEntry,E'[j]?=some e'∧e'.key=a.eval y∧e'.val=a.eval z) →
      (∀ (i:Nat) (x:AV×AV),i≠j→hn.es[i]?=some x→l[i]?=some x∧E'[i]?=E[i]?∧x.1≠z7 rs y) →
      o.wp P a w (fun a' w'=>vL G st2 a' w') (fun _ _ _=>False):=by
    intro E' clock' j hrun k1 k2 k2' k3 k4 k5 k6 k7
    have hex:(execOp a.eval o).run P w=.ok .skip (ChangeMaps.setBlock w b (.map E' clock')):=by
      simp only [execOp,ho,he,Sem.run_bind,hrun,Result.andThen_ok]
      rfl
    unfold Oper.wp
    rw [hex]
    show vL G _ (a.put o.dst undef) _
    rw [hd]
    show vL G _ a _
    have hother:∀ c,c≠b→(ChangeMaps.setBlock w b (.map E' clock')).heap[c]?=w.heap[c]?:=fun c hc=>ChangeMaps.heap_setBlock_other hh _ hc
    have hszeq:w.heap.size≤(ChangeMaps.setBlock w b (.map E' clock')).heap.size:=by simp [ChangeMaps.setBlock]
    have himmb:∀ c,imm G' st T c→c≠b:=fun c hc e=>by subst e;exact zBw L m1 hc
    obtain ⟨o1,o2,o3⟩:=zHR (st2:=⟨st.slot,fun i=>if i∈hn.ids then .dead else st.box i⟩) (w2:=ChangeMaps.setBlock w b (.map E' clock')) (ids:=hn.ids) L hf hT (fun id hi=>by obtain ⟨bx,h1,_⟩:=hlive id hi;exact ⟨bx,h1⟩)
      rfl rfl rfl hszeq (fun c _ hc=>hother c (fun e=>by subst e;exact hc m1)) rfl (fun _=>rfl)
    have hlk:∀ i,xJ (hn.ids.map (fun i=>(i,zO.dead))) i (st.box i)=if i∈hn.ids then .dead else st.box i:=by intro i;rw [zEe]
    have o2':=o2.fam (st2:=st2) (fid:=fid) (f:=f) (f':=.cl b ag ks sh hn.es) (by simp only;rw [if_neg hfn];exact hfid) hslot (fun i=>by rw [hbox,pH hnf,hlk])
    have hreb:(reb G (fun b=>imm G' st T b∧b<w.heap.size) ⟨st.slot,fun i=>if i∈hn.ids then .dead else st.box i⟩ T (ChangeMaps.setBlock w b (.map E' clock')) (fun _=>none)).w0=ChangeMaps.setBlock w b (.map E' clock'):=rfl
    have hownp:∀ id∈hn.ids,∀ c cap,T id=some (.at c cap)→¬ Hd c∧c≠b:=by
      intro id hi c cap hTi
      obtain ⟨bx,h1,_⟩:=hlive id hi
      have h2:=jG L hf hT h1 hTi
      exact ⟨h2,fun e=>by subst e;exact h2 m1⟩
    obtain ⟨ps,p1,p2,p3⟩:=zJp (w2:=ChangeMaps.setBlock w b (.map E' clock')) (J:=tC (reb G (fun b=>imm G' st T b∧b<w.heap.size) ⟨st.slot,fun i=>if i∈hn.ids then .dead else st.box i⟩ T (ChangeMaps.setBlock w b (.map E' clock')) (fun _=>none))) (c:=hn.av) hT hlen hdec hrz hbel hbj (fun bx hb=>(hbls0 bx hb).1)
      hszeq (fun c hc _=>hother c (himmb c hc)) (fun c hc hlt=>o3 c ⟨hc,hlt⟩) (fun id hi c cap hTi=>hother c (hownp id hi c cap hTi).2)
    have hpsT:∀ (j b1 c1:Nat),ps[j]?=some (yY.at b1 c1)→∃ id∈hn.ids,T id=some (.at b1 c1)∧hn.ids[j]?=some id:=by
      intro j b1 c1 hp
      have hjl:j<hn.ids.length:=by rw [← p2];exact (List.getElem?_eq_some_iff.1 hp).1
      have hij:=List.getElem?_eq_getElem hjl
      exact ⟨_,List.mem_of_getElem? hij,by rw [← p3 j _ hij];exact hp,hij⟩
    refine ⟨_,_,o1,zCV F0 hfid hbox hwnf hnf ?_,_,o2'⟩
    unfold zCQ
    refine zJe (w0:=G'.w0) (I:=tC G') (Hd:=Hd) (ex:=ex) (exv:=exv) (E:=E) (E':=E') (clock':=clock') (Pl:=Pl) (j:=j) (v:=a.eval z) (ps:=ps) hexk m1 k4 m7 m8' m9 m10 (Nat.le_trans hT.kept.size hszeq)
      (fun c hc hlt=>(hother c (himmb c (hII c hc hlt).1)).trans (hI c hc hlt)) (fun c hc hne=>(hother c hne).trans (hH c hc)) (fun c hc hlt=>o3 c (hII c hc hlt)) (ChangeMaps.heap_setBlock_same hh _) k3 k1 k2 k2' k5 ?_ k7 p1 ?_ ?_ (fun c hc=>.inl hc)
    · obtain ⟨e2,q1,q2,q3⟩:=k6
      exact ⟨e2,q1,by rw [q2];exact hrk.mono hszeq (fun c hc _=>hother c (himmb c hc)) (fun c hc hlt=>o3 c ⟨hc,hlt⟩) (fun _ _ h=>h),q3⟩
    · intro j b1 c1 hp
      obtain ⟨id,hi,hTi,_⟩:=hpsT j b1 c1 hp
      exact ⟨.inr ⟨id,hi,c1,hTi⟩,(hownp id hi b1 c1 hTi).2,(hownp id hi b1 c1 hTi).1⟩
    · intro j1 j2 b1 c c' h1 h2
      obtain ⟨id1,hi1,hT1,hj1⟩:=hpsT j1 b1 c h1
      obtain ⟨id2,hi2,hT2,hj2⟩:=hpsT j2 b1 c' h2
      obtain ⟨bx1,l1,_⟩:=hlive id1 hi1
      obtain ⟨bx2,l2,_⟩:=hlive id2 hi2
      have:=hT.apart id1 id2 bx1 bx2 b1 c c' l1 l2 hT1 hT2
      subst this
      exact jD hnd hj1 hj2
  rcases zC3 (T:=T) (I':=imm G' st T) (ex:=ex) (exv:=exv) (Pl:=Pl) K m3 m6 hT.kept.size hI m7 hry hkm with ⟨f1,f2,f3⟩ | ⟨j,e',x',f1,f2,f3,f4,f5⟩
  · rcases hL with ⟨i,x',g1,g2,_⟩ | ⟨_,g1⟩
    · exact absurd g2 (f3 x' (List.mem_of_getElem? g1))
    · have hesj:hn.es[l.length]?=some (z7 rs y,hn.av):=by rw [g1];simp
      refine fin (E.push ⟨a.eval y,a.eval z,clock⟩) (clock+1) l.length ?_ (by rw [g1];simp [m3]) (by rw [g1];simp;omega) (by rw [g1];simp) (MapKept.stamped_push m5 f2) ?_ hesj ?_ ?_
      · simp [Instr.mapUpdate,run_underlying hu,MapKept.run_getObj_map hh,K.keyed.check w _ ht',f1,MapKept.run_setObj_map _ hh,Result.andThen,ChangeMaps.setBlock]
      · intro x hx
        rw [g1] at hx
        rcases List.mem_append.1 hx with hx | hx
        · exact m6 x hx
        · rw [List.mem_singleton.1 hx];exact hkm
      · exact ⟨⟨a.eval y,a.eval z,clock⟩,by rw [Array.getElem?_push,if_pos m3.symm],rfl,rfl⟩
      · intro i x hne hx
        rw [g1] at hx
        have hlt:i<l.length:=by
          have:=(List.getElem?_eq_some_iff.1 hx).1
          simp at this;omega
        rw [List.getElem?_append_left hlt] at hx
        exact ⟨hx,by rw [Array.getElem?_push,if_neg (by omega)],f3 x (List.mem_of_getElem? hx)⟩
  · rcases hL with ⟨i,x2,g1,g2,g3⟩ | ⟨g0,_⟩
    · obtain ⟨e2,k1,k2,_⟩:=m7 i x2 g1
      have hkv:=(jW k2 hry (m6 x2 (List.mem_of_getElem? g1)) hkm).2 g2
      have:=zAa m5 f2 k1 (f3.trans hkv.symm)
      subst this
      have hil:j<l.length:=(List.getElem?_eq_some_iff.1 f4).1
      have hesj:hn.es[j]?=some (z7 rs y,hn.av):=by rw [g3,List.getElem?_set_self hil]
      refine fin (E.modify j fun e=>{ e with key:=a.eval y,val:=a.eval z }) clock j ?_ (by rw [g3];simp [m3]) (by rw [g3];simp;omega) (by rw [g3];simp) (MapKept.stamped_modify m5 _ _ (fun _ _=>rfl) (fun e3 _ he3=>by rw [f2] at he3;injection he3 with he3;subst he3;exact f3.symm)) ?_ hesj ?_ ?_
      · simp [Instr.mapUpdate,run_underlying hu,MapKept.run_getObj_map hh,K.keyed.check w _ ht',f1,f2,f3,K.keyed.stays w ht',MapKept.run_setObj_map _ hh,Result.andThen,ChangeMaps.setBlock]
      · intro x hx
        rw [g3] at hx
        rcases List.mem_or_eq_of_mem_set hx with hx | hx
        · exact m6 x hx
        · rw [hx];exact hkm
      · exact ⟨{ e' with key:=a.eval y,val:=a.eval z },by rw [Array.getElem?_modify,if_pos rfl,f2];rfl,rfl,rfl⟩
      · intro i x hne hx
        rw [g3,List.getElem?_set_ne (fun e=>hne e.symm)] at hx
        refine ⟨hx,by rw [Array.getElem?_modify,if_neg (fun e=>hne e.symm)],fun hk=>hne ?_⟩
        obtain ⟨e3,r1,r2,_⟩:=m7 i x hx
        exact zAa m5 r1 f2 (((jW r2 hry (m6 x (List.mem_of_getElem? hx)) hkm).2 hk).trans f3.symm)
    · exact absurd f5 (g0 x' (List.mem_of_getElem? f4))
end Go.Ab
