/- Hidden blocks: qV-ups and stores. -/
import Derived.Test.YtbifmbdcejggkaaA43
namespace Go.Ab
open Go

def pT (T:Tbl):List Nat→List yY→Tbl
  | i::is,p::ps=>(pT T is ps).put i p
  | _,_=>T
theorem zCX {T:Tbl} {ids:List Nat} {ps:List yY} {i:Nat} (h:i∉ids):pT T ids ps i=T i:=by
  induction ids generalizing ps with
  | nil=>rfl
  | cons a r ih =>
    cases ps with
    | nil=>rfl
    | cons p ps =>
      simp only [List.mem_cons,not_or] at h
      simp only [pT]
      rw [Tbl.put_ne _ _ h.1,ih h.2]
theorem zEJ {T:Tbl} {ids:List Nat} {ps:List yY} (hn:vO ids=true) (hl:ids.length=ps.length) {i j:Nat} (h:ids[j]?=some i):pT T ids ps i=ps[j]?:=by
  induction ids generalizing ps j with
  | nil=>simp at h
  | cons a r ih =>
    cases ps with
    | nil=>simp at hl
    | cons p ps =>
      simp only [pT]
      cases j with
      | zero=>simp at h;subst h;rw [Tbl.put_same];rfl
      | succ j =>
        have hne:i≠a:=fun e=>by
          subst e
          have:=jD hn (i:=0) (j:=j+1) (by simp) h
          omega
        rw [Tbl.put_ne _ _ hne]
        simp only [List.getElem?_cons_succ] at h ⊢
        refine ih ?_ (by simpa using hl) h
        unfold vO at hn
        simp only [Bool.and_eq_true] at hn
        exact hn.2
theorem zJr {T:Tbl} {ids:List Nat} {ps:List yY} (hn:vO ids=true) (hl:ids.length=ps.length):Tc ids (pT T ids ps)=fun i=>ps[i]?:=by
  funext j
  simp only [Tc]
  rcases Nat.lt_or_ge j ids.length with h | h
  · rw [List.getElem?_eq_getElem h]
    exact zEJ hn hl (List.getElem?_eq_getElem h)
  · rw [List.getElem?_eq_none h,List.getElem?_eq_none (by omega)]
theorem zMW {T:Tbl} {ids:List Nat} {ps:List yY} (h:∀ i∈ids,T i=none):T.le (pT T ids ps):=by
  intro i p hp
  by_cases hi:i∈ids
  · rw [h i hi] at hp;cases hp
  · rw [zCX hi];exact hp

theorem zFH {ids:List Nat} {bs:List zO} {i:Nat} {d:zO} (hn:vO ids=true) (hl:ids.length=bs.length):(∃ (j:Nat) (b:zO),ids[j]?=some i∧bs[j]?=some b∧xJ (ids.zip bs) i d=b)∨(i∉ids∧xJ (ids.zip bs) i d=d):=by
  induction ids generalizing bs with
  | nil=>exact .inr ⟨by simp,rfl⟩
  | cons a r ih =>
    cases bs with
    | nil=>simp at hl
    | cons b bs =>
      simp only [List.zip_cons_cons,xJ]
      cases hb:Nat.beq i a
      · simp only [cond_false]
        have hne:i≠a:=fun e=>by subst e;simp at hb
        rcases ih (bs:=bs) (by unfold vO at hn;simp only [Bool.and_eq_true] at hn;exact hn.2) (by simpa using hl) with ⟨j,b',h1,h2,h3⟩ | ⟨h1,h2⟩
        · exact .inl ⟨j+1,b',by simpa using h1,by simpa using h2,h3⟩
        · exact .inr ⟨by simp [hne,h1],h2⟩
      · have:=xO.1 hb
        subst this
        exact .inl ⟨0,b,by simp,by simp,rfl⟩

/-- The map's own box turned. -/
theorem vS.fam {G:xE} {st st2:AS} {T:Tbl} {a:Act} {w:World} (hR:vS G st T a w) {fid:Nat} {f f':Fam} (h:st.box fid=.live (.fam f))
    (hs:st2.slot=st.slot) (hb:∀ i,st2.box i=if i=fid then .live (.fam f') else st.box i):vS G st2 T a w:=by
  have hTf:T fid=some .nil:=hR.boxes fid _ h
  have hl:∀ i,(∃ bx,st2.box i=.live bx)↔∃ bx,st.box i=.live bx:=by
    intro i
    rw [hb]
    by_cases e:i=fid
    · subst e;rw [if_pos rfl,h];exact ⟨fun _=>⟨_,rfl⟩,fun _=>⟨_,rfl⟩⟩
    · rw [if_neg e]
  have hi:imm G st2 T=imm G st T:=by
    funext b
    refine propext ⟨fun hI=>⟨hI.1,fun i bx cap h1=>?_⟩,fun hI=>⟨hI.1,fun i bx cap h1=>?_⟩⟩
    · obtain ⟨bx',h2⟩:=(hl i).2 ⟨bx,h1⟩;exact hI.2 i bx' cap h2
    · obtain ⟨bx',h2⟩:=(hl i).1 ⟨bx,h1⟩;exact hI.2 i bx' cap h2
  refine ⟨hR.defers,hR.size,fun t=>by rw [hi,hs];exact hR.slots t,fun id bx h1=>?_,fun id h1=>?_,fun i j x y b c c' h1 h2=>?_,fun id bx b cap h1=>?_,hR.foot,hR.kept,hR.pin⟩
  · rw [hi]
    rw [hb] at h1
    by_cases e:id=fid
    · rw [if_pos e] at h1;injection h1 with h1;subst h1;subst e;exact hTf
    · rw [if_neg e] at h1;exact hR.boxes id bx h1
  · rw [hb] at h1
    by_cases e:id=fid
    · rw [if_pos e] at h1;cases h1
    · rw [if_neg e] at h1;exact hR.unused id h1
  · obtain ⟨x',h1'⟩:=(hl i).1 ⟨x,h1⟩
    obtain ⟨y',h2'⟩:=(hl j).1 ⟨y,h2⟩
    exact hR.apart i j x' y' b c c' h1' h2'
  · obtain ⟨x',h1'⟩:=(hl id).1 ⟨bx,h1⟩
    exact hR.mine id x' b cap h1'

theorem pH {wb:List (Nat×zO)} {fid:Nat} {x:zO} {i:Nat} {d:zO} (hn:fid∉wb.map (·.1)):xJ (wb++[(fid,x)]) i d=if i=fid then x else xJ wb i d:=by
  rw [zGF]
  by_cases e:i=fid
  · subst e
    rw [if_pos rfl]
    induction wb with
    | nil=>simp [xJ]
    | cons y r ih =>
      obtain ⟨k,v⟩:=y
      simp only [List.map_cons,List.mem_cons,not_or] at hn
      simp only [xJ,xQ hn.1,cond_false]
      exact ih hn.2
  · rw [if_neg e]
    congr 1
    simp [xJ,xQ e]

theorem zFt {wb:List (Nat×zO)} {i:Nat} {d:zO}:xJ wb i d=d∨(i,xJ wb i d)∈wb:=by
  induction wb with
  | nil=>exact .inl rfl
  | cons y r ih =>
    obtain ⟨k,v⟩:=y
    simp only [xJ]
    cases h:Nat.beq i k
    · rcases ih with h' | h'
      · exact .inl h'
      · exact .inr (by simp [h'])
    · rw [xO.1 h];exact .inr (by simp)

theorem zGH {wb:List (Nat×zO)} {i:Nat} {d:zO} (h:i∉wb.map (·.1)):xJ wb i d=d:=by
  induction wb with
  | nil=>rfl
  | cons x r ih =>
    obtain ⟨k,v⟩:=x
    simp only [List.map_cons,List.mem_cons,not_or] at h
    simp only [xJ,xQ h.1,cond_false]
    exact ih h.2

theorem zCV {G2 G':xE} {Hd2 Hd:Nat→Prop} {st st2:AS} {fid:Nat} {f f':Fam} {wb:List (Nat×zO)} (F:zA5 G' Hd st) (h0:st.box fid=.live (.fam f))
    (hbox:∀ i,st2.box i=xJ (wb++[(fid,.live (.fam f'))]) i (st.box i)) (hwb:∀ x∈wb,x.2.nf=true) (hnf:fid∉wb.map (·.1)) (hk:zCQ G2 Hd2 f'):zA5 G2 Hd2 st2:=by
  have key:∀ id g,st2.box id=.live (.fam g)→id=fid∧g=f':=by
    intro id g h
    rw [hbox,pH hnf] at h
    by_cases e:id=fid
    · rw [if_pos e] at h;injection h with h;injection h with h;exact ⟨e,h.symm⟩
    · rw [if_neg e] at h
      rcases zFt (wb:=wb) (i:=id) (d:=st.box id) with h1 | h1
      · rw [h1] at h;exact absurd (F.one id fid g f h h0) e
      · rw [h] at h1;have:=hwb _ h1;cases this
  exact ⟨fun i j f g h1 h2=>(key i f h1).1.trans (key j g h2).1.symm,fun id g h=>(key id g h).2 ▸ hk⟩

/-- The content of an entry that is not there. -/
def zJU:FSh→List AV→AV
  | .nm _ sz _ esz,x=>.tuple [.sl false sz [],.bool false,.agg x,.sl false esz []]
  | .pm _,_=>.junk

/-- What lies at a key of a map with hidden blocks. -/
theorem zC3 {P:Program} {w0 w:World} {I I':Nat→Prop} {T:Tbl} {ag:Bool} {ks:List KSh} {sh:FSh} {l:List (AV×AV)} {ex:AV→Prop} {exv:Value→Prop} {E:Array MapEntry} {k:TypeId} {key:AV} {v:Value} {Pl:Nat→List yY}
    (K:vZ P k ag ks) (hE:E.size=l.length) (hk:∀ x∈l,uZ ag ks x.1=true) (hsz:w0.heap.size≤w.heap.size) (hsame:∀ b,I b→b<w0.heap.size→w.heap[b]?=w0.heap[b]?)
    (hr:∀ (i:Nat) (x:AV×AV),l[i]?=some x→∃ e:MapEntry,E[i]?=some e∧Rep w0 I Tbl.empty e.key x.1∧(ex x.1→exv e.val)∧(¬ ex x.1→zBc w0 I sh (Pl i) e.val x.2))
    (hv:Rep w I' T v key) (hm:uZ ag ks key=true) :
    ((Instr.findKey k v E.toList).run P w=.ok none w∧(∀ e∈E.toList,e.key≠v)∧∀ x∈l,x.1≠key) ∨
    ∃ j e x,(Instr.findKey k v E.toList).run P w=.ok (some (j,e.val)) w∧E[j]?=some e∧e.key=v∧l[j]?=some x∧x.1=key:=by
  have hr2:∀ (i:Nat) (x:AV×AV),(l.map fun x=>(x.1,AV.junk))[i]?=some x→∃ e:MapEntry,E[i]?=some e∧Rep w I Tbl.empty e.key x.1∧Rep w I Tbl.empty e.val x.2:=by
    intro i x hx
    rw [List.getElem?_map] at hx
    cases hli:l[i]? with
    | none=>rw [hli] at hx;cases hx
    | some y =>
      rw [hli] at hx;injection hx with hx;subst hx
      obtain ⟨e,h1,h2,_⟩:=hr i y hli
      exact ⟨e,h1,h2.mono hsz hsame (fun _ h _=>h) (fun _ _ h=>h),.junk⟩
  obtain ⟨t,ht⟩:=K.reads _ _ _ _ _ hv hm
  have hk2:∀ x∈l.map (fun x=>(x.1,AV.junk)),uZ ag ks x.1=true:=by
    intro x hx
    obtain ⟨y,hy,rfl⟩:=List.mem_map.1 hx
    exact hk y hy
  have hkeys:∀ e∈E.toList,∃ t,keyOf P k e.key=some t:=zHN K (by simpa using hE) hk2 hr2
  rcases K.keyed.find w ht E.toList hkeys with ⟨h1,h2⟩ | ⟨j,e,h1,h2,h3⟩
  · refine .inl ⟨h1,h2,fun x hx hxk=>?_⟩
    obtain ⟨i,hi⟩:=List.mem_iff_getElem?.1 hx
    obtain ⟨e,e1,e2,_⟩:=hr i x hi
    have:=(jW e2 hv (hk x hx) hm).2 hxk
    exact h2 e (by rw [← Array.getElem?_toList] at e1;exact List.mem_of_getElem? e1) this
  · rw [Array.getElem?_toList] at h2
    have hjl:j<l.length:=by
      rcases Nat.lt_or_ge j E.size with h' | h'
      · omega
      · rw [Array.getElem?_eq_none h'] at h2;cases h2
    obtain ⟨e',e1,e2,_⟩:=hr j _ (List.getElem?_eq_getElem hjl)
    rw [h2] at e1;injection e1 with e1;subst e1
    exact .inr ⟨j,e,l[j],h1,h2,h3,List.getElem?_eq_getElem hjl,(jW e2 hv (hk _ (List.getElem_mem hjl)) hm).1 h3⟩

/-- Hidden blocks become the call's own again. -/
theorem zH8 {G G':xE} {Hd:Nat→Prop} {pin:Nat→Option yY} {st st2:AS} {T:Tbl} {a:Act} {w:World} (L:u3 G G' Hd) (hf:G.foot=[]) (hR:vS G' st T a w) {ids:List Nat} {ps:List yY} {bs:List Box} {dst:Option Tmp} {vd:Value} {avd:AV}
    (hn:vO ids=true) (hl1:ids.length=bs.length) (hl2:ps.length=bs.length) (hu:∀ i∈ids,st.box i=.unused)
    (hbs:∀ (i:Nat) (bx:Box),bs[i]?=some bx→uH w (fun b=>imm G' st T b∧b<w.heap.size) (fun i=>ps[i]?) (ps[i]?) bx) (hbel:∀ bx∈bs,kY ids.length bx=true)
    (hps:∀ (j b c:Nat),ps[j]?=some (yY.at b c)→Hd b) (hdist:∀ (j j' b c c':Nat),ps[j]?=some (yY.at b c)→ps[j']?=some (yY.at b c')→j=j')
    (hslot:st2.slot=zAF st.slot (dst.map fun d=>(d,avd))) (hbox:st2.box=fun i=>xJ (ids.zip (bs.map fun x=>zO.live (unB ids x))) i (st.box i))
    (hd:∀ d,dst=some d→d<G.n) (hvd:Rep w (fun b=>imm G' st T b∧b<w.heap.size) (pT T ids ps) vd avd) (hpin:∀ i p,pin i=some p→pT T ids ps i=some p) :
    u3 G (reb G (fun b=>imm G' st T b∧b<w.heap.size) st2 (pT T ids ps) w pin) (fun b=>Hd b∧∀ j c:Nat,ps[j]?≠some (yY.at b c)) ∧
    vS (reb G (fun b=>imm G' st T b∧b<w.heap.size) st2 (pT T ids ps) w pin) st2 (pT T ids ps) (a.put dst vd) w ∧
    ∀ b,imm G' st T b∧b<w.heap.size→tC (reb G (fun b=>imm G' st T b∧b<w.heap.size) st2 (pT T ids ps) w pin) b:=by
  have hle:=zMW (T:=T) (ids:=ids) (ps:=ps) (fun i hi=>hR.unused i (hu i hi))
  have hTc:=zJr (T:=T) hn (hl1.trans hl2.symm)
  have hlz:ids.length=(bs.map fun x=>zO.live (unB ids x)).length:=by simpa using hl1
  -- a live box of the new state
  have hlive:∀ id bx,st2.box id=.live bx→(∃ (j:Nat) (b0:Box),ids[j]?=some id∧bs[j]?=some b0∧bx=unB ids b0∧pT T ids ps id=ps[j]?)∨(id∉ids∧st.box id=.live bx∧pT T ids ps id=T id):=by
    intro id bx hb
    rw [hbox] at hb
    simp only at hb
    rcases zFH (i:=id) (d:=st.box id) hn hlz with ⟨j,b,h1,h2,h3⟩ | ⟨h1,h2⟩
    · rw [h3] at hb
      rw [List.getElem?_map] at h2
      cases hbj:bs[j]? with
      | none=>rw [hbj] at h2;cases h2
      | some b0 =>
        rw [hbj] at h2;injection h2 with h2;subst h2;injection hb with hb
        exact .inl ⟨j,b0,h1,hbj,hb.symm,zEJ hn (hl1.trans hl2.symm) h1⟩
    · rw [h2] at hb
      exact .inr ⟨h1,hb,zCX h1⟩
  refine zFF (Hd2:=fun b=>Hd b∧∀ j c:Nat,ps[j]?≠some (yY.at b c)) L hf hR rfl rfl rfl (Nat.le_refl _) (fun _ _ _=>rfl) ?_ ?_ ?_ ?_ ?_ ?_ ?_ ?_ hpin ?_
  · cases dst<;>exact hR.defers
  · cases dst<;>simp [Act.put,hR.size,L.n]
  · rintro b ⟨hb,hlt⟩
    refine ⟨(L.imm hb).1.elim .inl .inr,hlt,fun h=>zBw L h.1 hb,fun id bx cap hl hT=>?_⟩
    rcases hlive id bx hl with ⟨j,b0,h1,h2,h3,h4⟩ | ⟨h1,h2,h3⟩
    · rw [h4] at hT;exact zBw L (hps j b cap hT) hb
    · rw [h3] at hT;exact hb.2 id bx cap h2 hT
  · intro t
    rw [hslot]
    cases hdst:dst with
    | none=>exact (hR.slots t).mono (Nat.le_refl _) (fun _ _ _=>rfl) (fun b hb hlt=>⟨hb,hlt⟩) hle
    | some d =>
      simp only [Option.map_some]
      rw [zEL t (by rw [hR.size,L.n];exact hd d hdst)]
      by_cases ht:t=d
      · subst ht;rw [if_pos rfl,jZ];exact hvd
      · rw [if_neg ht,nU _ _ _ ht];exact (hR.slots t).mono (Nat.le_refl _) (fun _ _ _=>rfl) (fun b hb hlt=>⟨hb,hlt⟩) hle
  · intro id bx hl
    rcases hlive id bx hl with ⟨j,b0,h1,h2,h3,h4⟩ | ⟨h1,h2,h3⟩
    · rw [h4,h3]
      refine zKN ?_ (hbel b0 (List.mem_of_getElem? h2))
      rw [hTc];exact hbs j b0 h2
    · rw [h3];exact (hR.boxes id bx h2).mono (Nat.le_refl _) (fun _ _ _=>rfl) (fun b hb hlt=>⟨hb,hlt⟩) hle (fun _ _ _ _=>rfl)
  · intro id hl
    rw [hbox] at hl
    simp only at hl
    rcases zFH (i:=id) (d:=st.box id) hn hlz with ⟨j,b,h1,h2,h3⟩ | ⟨h1,h2⟩
    · rw [h3] at hl
      rw [List.getElem?_map] at h2
      cases hbj:bs[j]? with
      | none=>rw [hbj] at h2;cases h2
      | some b0=>rw [hbj] at h2;injection h2 with h2;subst h2;cases hl
    · rw [h2] at hl;rw [zCX h1];exact hR.unused id hl
  · intro id id' bx bx' b c c' l1 l2 t1 t2
    rcases hlive id bx l1 with ⟨j,b0,h1,h2,h3,h4⟩ | ⟨h1,h2,h3⟩<;>rcases hlive id' bx' l2 with ⟨j',b0',h1',h2',h3',h4'⟩ | ⟨h1',h2',h3'⟩
    · rw [h4] at t1;rw [h4'] at t2
      have:=hdist j j' b c c' t1 t2
      subst this
      rw [h1] at h1';injection h1'
    · rw [h4] at t1;rw [h3'] at t2
      exact absurd (hps j b c t1) (jG L hf hR h2' t2)
    · rw [h3] at t1;rw [h4'] at t2
      exact absurd (hps j' b c' t2) (jG L hf hR h2 t1)
    · rw [h3] at t1;rw [h3'] at t2
      exact hR.apart id id' bx bx' b c c' h2 h2' t1 t2
  · intro id bx b cap hl hT
    rcases hlive id bx hl with ⟨j,b0,h1,h2,h3,h4⟩ | ⟨h1,h2,h3⟩
    · rw [h4] at hT
      exact ⟨(L.hid b (hps j b cap hT)).2.1,fun h=>h.2 j cap hT⟩
    · rw [h3] at hT
      exact ⟨L.mine (hR.mine id bx b cap h2 hT (by rw [L.foot,hf];exact Nat.zero_le _)),fun h=>jG L hf hR h2 hT h.1⟩
  · rintro b ⟨hb,_⟩
    exact ⟨Nat.lt_of_lt_of_le (L.hid b hb).1 hR.kept.size,(L.hid b hb).2.1⟩

section
variable {w0 w:World} {I I' Hd:Nat→Prop} {b:Nat} {ag:Bool} {ks:List KSh} {sh:FSh} {l:List (AV×AV)} {key:AV} {exv:Value→Prop}

/-- An entry is taken out. -/
theorem zIt (M:nH w0 I Hd b ag ks sh l (fun _=>False) (fun _=>True)) (hsz:w0.heap.size≤w.heap.size) (hI:∀ b,I b→b<w0.heap.size→w.heap[b]?=w0.heap[b]?) (hH:∀ b,Hd b→w.heap[b]?=w0.heap[b]?) (hII:∀ b,I b→b<w0.heap.size→I' b)
    {E:Array MapEntry} {clock:Nat} (hE:w.heap[b]?=some (.map E clock)) {j:Nat} {e:MapEntry} {x:AV×AV} (hj:E[j]?=some e) (hx:l[j]?=some x) (hxk:x.1=key) (hkm:uZ ag ks key=true) (hexv:exv e.val) :
    ∃ ps:List yY,zBc w I' sh ps e.val x.2∧(∀ (j b1 c:Nat),ps[j]?=some (yY.at b1 c)→Hd b1∧b1≠b)∧(∀ (j j' b1 c c':Nat),ps[j]?=some (yY.at b1 c)→ps[j']?=some (yY.at b1 c')→j=j') ∧
      nH w I' (fun b1=>Hd b1∧∀ j c:Nat,ps[j]?≠some (yY.at b1 c)) b ag ks sh l (fun k=>k=key) exv:=by
  obtain ⟨E0,clock0,Pl,m1,m2,m3,m4,m5,m6,m7,m8,m8',m9,m10⟩:=M
  rw [hH b m1,m2] at hE
  injection hE with hE;injection hE with hE1 hE2;subst hE1;subst hE2
  obtain ⟨e',q1,q2,_,q4⟩:=m7 j x hx
  rw [hj] at q1;injection q1 with q1;subst q1
  have hone:∀ i y,l[i]?=some y→y.1=key→i=j:=by
    intro i y hi hy
    obtain ⟨e2,r1,r2,_⟩:=m7 i y hi
    exact zAa m5 r1 hj ((jW r2 q2 (m6 y (List.mem_of_getElem? hi)) (hxk ▸ hkm)).2 (hy.trans hxk.symm))
  refine ⟨Pl j,(q4 (fun h=>h)).move hsz hI hII (fun i b1 cap hp _=>hH b1 (m9 j i b1 cap hp).1),fun j' b1 c hp=>m9 j j' b1 c hp,fun j1 j2 b1 c c' h1 h2=>(m10 j j1 j j2 b1 c c' h1 h2).2,
    E0,clock0,fun i=>if i=j then [] else Pl i,⟨m1,fun j' c hp=>(m9 j j' b c hp).2 rfl⟩,by rw [hH b m1];exact m2,m3,m4,m5,m6,?_,?_,?_,?_,?_⟩
  · intro i y hi
    obtain ⟨e2,r1,r2,_,r4⟩:=m7 i y hi
    refine ⟨e2,r1,r2.mono hsz hI hII (fun _ _ h=>h),fun hk=>?_,fun hk=>?_⟩
    · have:=hone i y hi hk
      subst this
      rw [hj] at r1;injection r1 with r1;subst r1;exact hexv
    · have hne:i≠j:=fun h=>by subst h;rw [hx] at hi;injection hi with hi;subst hi;exact hk hxk
      simp only [if_neg hne]
      exact (r4 (fun h=>h)).move hsz hI hII (fun i' b1 cap hp _=>hH b1 (m9 i i' b1 cap hp).1)
  · intro i y hi hk
    simp only [if_pos (hone i y hi hk)]
  · intro i hi
    have hne:i≠j:=fun h=>by subst h;rw [List.getElem?_eq_none hi] at hx;cases hx
    simp only [if_neg hne];exact m8' i hi
  · intro i j' b1 c1 hp
    by_cases h:i=j
    · simp only [if_pos h] at hp;simp at hp
    · simp only [if_neg h] at hp
      refine ⟨⟨(m9 i j' b1 c1 hp).1,fun j2 c hp2=>h (m10 i j' j j2 b1 c1 c hp hp2).1⟩,(m9 i j' b1 c1 hp).2⟩
  · intro i j1 i' j2 b1 c1 c2 h1 h2
    by_cases h:i=j
    · simp only [if_pos h] at h1;simp at h1
    by_cases h':i'=j
    · simp only [if_pos h'] at h2;simp at h2
    simp only [if_neg h] at h1;simp only [if_neg h'] at h2
    exact m10 i j1 i' j2 b1 c1 c2 h1 h2

/-- A key that is not there is as good as taken out. -/
theorem zJG {exv0:Value→Prop} (M:nH w0 I Hd b ag ks sh l (fun _=>False) exv0) (hsz:w0.heap.size≤w.heap.size) (hI:∀ b,I b→b<w0.heap.size→w.heap[b]?=w0.heap[b]?) (hH:∀ b,Hd b→w.heap[b]?=w0.heap[b]?) (hII:∀ b,I b→b<w0.heap.size→I' b)
    (hno:∀ x∈l,x.1≠key) {Hd2:Nat→Prop} (hd2:∀ b1,Hd b1→Hd2 b1):nH w I' Hd2 b ag ks sh l (fun k=>k=key) exv:=by
  obtain ⟨E0,clock0,Pl,m1,m2,m3,m4,m5,m6,m7,m8,m8',m9,m10⟩:=M
  refine ⟨E0,clock0,Pl,hd2 b m1,by rw [hH b m1];exact m2,m3,m4,m5,m6,?_,?_,m8',fun i j b1 c1 hp=>⟨hd2 b1 (m9 i j b1 c1 hp).1,(m9 i j b1 c1 hp).2⟩,m10⟩
  · intro i y hi
    obtain ⟨e2,r1,r2,_,r4⟩:=m7 i y hi
    exact ⟨e2,r1,r2.mono hsz hI hII (fun _ _ h=>h),fun hk=>absurd hk (hno y (List.mem_of_getElem? hi)),fun _=>(r4 (fun h=>h)).move hsz hI hII (fun i' b1 cap hp _=>hH b1 (m9 i i' b1 cap hp).1)⟩
  · intro i y hi hk
    exact absurd hk (hno y (List.mem_of_getElem? hi))
end
end Go.Ab
