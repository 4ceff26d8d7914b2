/- A layer over the model: abstract values and states, and the rules by which the printed proofs go. No conditions. -/
import Derived.Test.YtbifmbdcejggkaaA49
import Derived.Test.YtbifmbdcejggkaaA35
/- A map that begins to hold hidden blocks, a pointer laid back, a map that ends to hold them. -/
namespace Go.Ab
open Go

def bgv (m b:Nat):AV→AV
  | .mp i=>bif Nat.beq i m then .rawm b else .mp i
  | v=>v
def zCK (st:AS) (m fid b:Nat) (ag:Bool) (ks:List KSh) (sh:FSh):AS :=
  ⟨fun t=>bgv m b (st.slot t),fun k=>bif Nat.beq k fid then .live (.fam (.cl b ag ks sh [])) else bif Nat.beq k m then .dead else st.box k⟩

theorem zM6 {sl:List (Nat×AV)} {bx:List (Nat×zN)} {n:Nat} (h:(bx.all fun x=>x.2.nf)=true):∀ id f,(mk sl bx n).box id≠.live (.fam f):=by
  intro id f hl
  simp only [mk] at hl
  rcases zCk (bx:=bx) (i:=id) (d:=bif Nat.blt id n then zN.dead else .unused) with ⟨_,h'⟩ | h'
  · rw [h'] at hl
    cases hlt:Nat.blt id n<;>rw [hlt] at hl<;>cases hl
  · rw [hl] at h'
    have:=List.all_eq_true.1 h _ h'
    cases this

theorem zIV {P:Program} {N:Nat} {c:Code} {K:Exit→AS→Prop} {st:AS} (m fid:Nat) {ag:Bool} {ks:List KSh} (sh:FSh) (hm:st.box m=.live (.map ag ks [])) (hu:st.box fid=.unused)
    (hno:∀ id f,st.box id≠.live (.fam f)) (h:∀ b,AW P N 0 c K (zCK st m fid b ag ks sh)):AW P N 0 c K st:=by
  intro G a w hN hnp hRF
  have hf:G.foot=[]:=List.eq_nil_of_length_eq_zero hnp
  obtain ⟨G',Hd,L,F,T,hT⟩:=hRF
  obtain ⟨b,E,clock,hp,hh,h1,h2,hS,h3,h4⟩:=hT.boxes m _ hm
  have hne:m≠fid:=fun e=>by rw [e,hu] at hm;cases hm
  have hTf:=hT.unused fid hu
  have hle:T.le (T.put fid .nil):=Tbl.le_put hTf
  have hbx:∀ k,(zCK st m fid b ag ks sh).box k=if k=fid then .live (.fam (.cl b ag ks sh [])) else if k=m then .dead else st.box k:=by
    intro k
    simp only [zCK]
    by_cases e1:k=fid
    · subst e1;simp
    · rw [xS e1,if_neg e1]
      by_cases e2:k=m
      · subst e2;simp
      · rw [xS e2,if_neg e2];rfl
  have hlive:∀ k bx,(zCK st m fid b ag ks sh).box k=.live bx→(k=fid∧bx=.fam (.cl b ag ks sh []))∨(k≠fid∧k≠m∧st.box k=.live bx):=by
    intro k bx hl
    rw [hbx] at hl
    by_cases e1:k=fid
    · rw [if_pos e1] at hl;injection hl with hl;exact .inl ⟨e1,hl.symm⟩
    rw [if_neg e1] at hl
    by_cases e2:k=m
    · rw [if_pos e2] at hl;cases hl
    · rw [if_neg e2] at hl;exact .inr ⟨e1,e2,hl⟩
  have hmine:G.mine b:=L.mine (hT.mine m _ b 0 hm hp (by rw [L.foot,hf];exact Nat.zero_le _))
  refine h b G a w hN hnp ?_
  obtain ⟨o1,o2,o3⟩:=zFt (J:=fun c=>imm G' st T c∧c<w.heap.size) (Hd2:=fun c=>c=b) (st2:=zCK st m fid b ag ks sh) (T2:=T.put fid .nil) (a2:=a) (w2:=w) (pin:=fun _=>none) L hf hT rfl rfl rfl (Nat.le_refl _) (fun _ _ _=>rfl) hT.defers (by rw [hT.size,L.n])
    (by
      rintro c ⟨hc,hlt⟩
      refine ⟨(L.imm hc).1.elim .inl .inr,hlt,fun e=>hc.2 m _ 0 hm (by rw [e];exact hp),fun id bx cap hl hTi=>?_⟩
      rcases hlive id bx hl with ⟨rfl,_⟩ | ⟨n1,n2,h0⟩
      · rw [Tbl.put_same] at hTi;cases hTi
      · rw [Tbl.put_ne _ _ n1] at hTi;exact hc.2 id bx cap h0 hTi)
    (by
      intro t
      have hr:=hT.slots t
      show Rep w _ _ _ (bgv m b (st.slot t))
      have hmono:Rep w (fun c=>imm G' st T c∧c<w.heap.size) (T.put fid .nil) (a.tmps.getD t undef) (st.slot t):=hr.mono (Nat.le_refl _) (fun _ _ _=>rfl) (fun c hc hlt=>⟨hc,hlt⟩) hle
      cases hs:st.slot t with
      | mp i =>
        simp only [bgv]
        cases hi:Nat.beq i m
        · simp only [cond_false];rw [← hs];exact hmono
        · have:=xM.1 hi
          subst this
          simp only [cond_true]
          rw [hs] at hr
          generalize a.tmps.getD t undef=v at hr ⊢
          cases hr with
          | mp hTi=>rw [hp] at hTi;injection hTi with hTi;injection hTi with e1 e2;subst e1;exact .rawm
      | _=>simp only [bgv];rw [← hs];exact hmono)
    (by
      intro id bx hl
      rcases hlive id bx hl with ⟨rfl,rfl⟩ | ⟨n1,n2,h0⟩
      · exact Tbl.put_same _ _ _
      · rw [Tbl.put_ne _ _ n1]
        exact (hT.boxes id bx h0).mono (Nat.le_refl _) (fun _ _ _=>rfl) (fun c hc hlt=>⟨hc,hlt⟩) hle (fun _ _ _ _=>rfl))
    (by
      intro id hl
      rw [hbx] at hl
      by_cases e1:id=fid
      · rw [if_pos e1] at hl;cases hl
      rw [if_neg e1] at hl
      by_cases e2:id=m
      · rw [if_pos e2] at hl;cases hl
      · rw [if_neg e2] at hl;rw [Tbl.put_ne _ _ e1];exact hT.unused id hl)
    (by
      intro i j x y c c1 c2 l1 l2 t1 t2
      rcases hlive i x l1 with ⟨rfl,_⟩ | ⟨n1,_,k1⟩
      · rw [Tbl.put_same] at t1;cases t1
      rcases hlive j y l2 with ⟨rfl,_⟩ | ⟨n2,_,k2⟩
      · rw [Tbl.put_same] at t2;cases t2
      rw [Tbl.put_ne _ _ n1] at t1;rw [Tbl.put_ne _ _ n2] at t2
      exact hT.apart i j x y c c1 c2 k1 k2 t1 t2)
    (by
      intro id bx c cap hl hTi
      rcases hlive id bx hl with ⟨rfl,_⟩ | ⟨n1,n2,k1⟩
      · rw [Tbl.put_same] at hTi;cases hTi
      · rw [Tbl.put_ne _ _ n1] at hTi
        refine ⟨L.mine (hT.mine id bx c cap k1 hTi (by rw [L.foot,hf];exact Nat.zero_le _)),fun e=>n2 ?_⟩
        exact hT.apart id m bx _ c cap 0 k1 hm hTi (by rw [e];exact hp))
    (fun i p hp=>by cases hp)
    (by rintro c rfl;exact ⟨nA hT hm hp,hmine⟩)
  refine ⟨_,_,o1,⟨fun i j f g l1 l2=>?_,fun i f l1=>?_⟩,_,o2⟩
  · rcases hlive i _ l1 with ⟨e1,_⟩ | ⟨_,_,k1⟩
    · rcases hlive j _ l2 with ⟨e2,_⟩ | ⟨_,_,k2⟩
      · rw [e1,e2]
      · exact absurd k2 (hno j g)
    · exact absurd k1 (hno i f)
  · rcases hlive i _ l1 with ⟨_,e2⟩ | ⟨_,_,k1⟩
    · injection e2 with e2;subst e2
      refine ⟨E,clock,fun _=>[],rfl,hh,h1,h2,hS,h3,fun i x hi=>by simp at hi,fun _ _ _ h=>h.elim,fun _ _=>rfl,fun i j b1 c1 hp=>by simp at hp,fun i j i' j' b1 c1 c2 hp=>by simp at hp⟩
    · exact absurd k1 (hno i f)

def zEp (st:AS) (fid id:Nat) (f:Fam):AS:=⟨st.slot,fun k=>bif Nat.beq k fid then .live (.fam f) else bif Nat.beq k id then .dead else st.box k⟩
/-- The variable of a pointer that was taken out is hidden again. -/
def zKY (st:AS) (fid id:Nat) (cs:List AV) (es:List (AV×AV)):Option (List Prop×Fam) :=
  match st.box fid with
  | .live (.fam (.opp b ag ks (.pm t1) l key id'))=>bif Nat.beq id id'&&qP 1 cs then some ([st.box id=.live (.var t1 (uns [id] cs)),zBO l key (.agg cs) es],.cl b ag ks (.pm t1) es) else none
  | _=>none

theorem zLc {st:AS} (fid id:Nat) (cs:List AV) (es:List (AV×AV)) {vcs:List Prop} {f:Fam} (h:zKY st fid id cs es=some (vcs,f)) (hv:t5 vcs):Sub 0 st (zEp st fid id f):=by
  intro G a w hnp hRF
  have hf:G.foot=[]:=List.eq_nil_of_length_eq_zero hnp
  unfold zKY at h
  split at h
  case h_2=>cases h
  rename_i b ag ks t1 l key id' hfid
  replace h:=zY h;obtain ⟨hc,h⟩:=h
  simp only [Bool.and_eq_true] at hc
  have:=xM.1 hc.1
  subst this
  injection h with h;injection h with h0 h';subst h0;subst h'
  have hv:=zDr hv
  have hvar:st.box id=.live (.var t1 (uns [id] cs)):=hv _ (by simp)
  have hL:zBO l key (.agg cs) es:=hv _ (by simp)
  obtain ⟨G',Hd,L,F0,T,hT⟩:=hRF
  obtain ⟨b1,hpin,⟨x0,hx0,hx0k⟩,M⟩:=F0.ok fid _ hfid
  have hTid:=hT.pin id _ hpin
  obtain ⟨E,clock,Pl,m1,m2,m3,m4,m5,m6,m7,m8,m8',m9,m10⟩:=M
  have hI:∀ b,tC G' b→b<G'.w0.heap.size→w.heap[b]?=G'.w0.heap[b]?:=fun b hb _=>zBv hT.kept hb
  have hH:∀ b,Hd b→w.heap[b]?=G'.w0.heap[b]?:=fun b hb=>zDe L hT.kept hb
  have hII:∀ b,tC G' b→b<G'.w0.heap.size→imm G' st T b∧b<w.heap.size:=fun b hb _=>zCo L hf hT hb
  have hne:fid≠id:=fun e=>by rw [e,hvar] at hfid;cases hfid
  obtain ⟨o1,o2,o3⟩:=zIn (st2:=⟨st.slot,fun i=>if i∈[id] then .dead else st.box i⟩) (w2:=w) (ids:=[id]) L hf hT (fun i hi=>by rw [List.mem_singleton.1 hi];exact ⟨_,hvar⟩) rfl rfl rfl (Nat.le_refl _) (fun _ _ _=>rfl) rfl (fun _=>rfl)
  have hbx:∀ i,(zEp st fid id (.cl b ag ks (.pm t1) es)).box i=if i=fid then .live (.fam (.cl b ag ks (.pm t1) es)) else (if i∈[id] then .dead else st.box i):=by
    intro i
    simp only [zEp]
    by_cases e1:i=fid
    · subst e1;simp
    · rw [xS e1,if_neg e1]
      by_cases e2:i=id
      · subst e2;simp
      · rw [xS e2,if_neg (by simpa using e2)];rfl
  have o2':=o2.fam (st2:=zEp st fid id (.cl b ag ks (.pm t1) es)) (fid:=fid) (f:=.opp b ag ks (.pm t1) l key id) (f':=.cl b ag ks (.pm t1) es) (by simp only;rw [if_neg (by simpa using hne)];exact hfid) rfl hbx
  -- the entry
  rcases hL with ⟨i,x,g1,g2,g3⟩ | ⟨g0,_⟩
  case inr=>exact absurd hx0k (g0 x0 hx0)
  have hil:=(List.getElem?_eq_some_iff.1 g1).1
  obtain ⟨e,q1,q2,q3,_⟩:=m7 i x g1
  have hval:=q3 g2
  obtain ⟨ps,p1,p2,p3⟩:=zJL (w2:=w) (J:=tC (reb G (fun b=>imm G' st T b∧b<w.heap.size) ⟨st.slot,fun i=>if i∈[id] then .dead else st.box i⟩ T w (fun _=>none))) (ids:=[id]) (bs:=[.var t1 cs]) (av:=.ptr 0 0 0 0) (v:=.pointer (some ⟨b1,0,none⟩)) (sh:=.pm t1) (c:=.agg cs) hT rfl rfl
    (.ptr hTid (by simp)) rfl (fun j i bx h1 h2=>by
      match j with
      | 0=>simp at h1 h2;subst h1;subst h2;exact hvar
      | j+1=>simp at h1) (fun bx hb=>by rw [List.mem_singleton.1 hb];exact hc.2) (Nat.le_refl _) (fun _ _ _=>rfl) (fun c hc hlt=>o3 c ⟨hc,hlt⟩) (fun _ _ _ _ _=>rfl)
  have hb1:¬ Hd b1:=jV L hf hT hvar hTid
  have hps:∀ (j b2 c1:Nat),ps[j]?=some (yX.at b2 c1)→j=0∧b2=b1:=by
    intro j b2 c1 hp
    have hjl:j<1:=by have:=(List.getElem?_eq_some_iff.1 hp).1;rw [p2] at this;simpa using this
    have:j=0:=by omega
    subst this
    have h3:=p3 0 id rfl
    rw [hp,hTid] at h3
    injection h3 with h3;injection h3 with h3 _
    exact ⟨rfl,h3⟩
  refine ⟨_,_,o1,zC3 (wb:=[(id,.dead)]) (f':=.cl b ag ks (.pm t1) es) F0 hfid (fun i=>?_) (fun x hx=>by rw [List.mem_singleton.1 hx];rfl) (by simpa using hne) ?_,_,o2'⟩
  · rw [hbx,pV (by simpa using hne)]
    by_cases e1:i=fid
    · rw [if_pos e1,if_pos e1]
    · rw [if_neg e1,if_neg e1]
      by_cases e2:i=id
      · subst e2;simp [xH]
      · rw [if_neg (by simpa using e2)];simp [xH,xS e2]
  · unfold zC0
    refine zJV (w0:=G'.w0) (I:=tC G') (Hd:=Hd) (key:=key) (c:=.agg cs) (ex:=fun k=>k=key) (exv:=fun v=>v=.pointer (some ⟨b1,0,none⟩)) (E:=E) (E':=E) (clock':=clock) (Pl:=Pl) (j:=i) (v:=.pointer (some ⟨b1,0,none⟩)) (ps:=ps) (fun _ h=>h) m1 ?_ m7 m8' m9 m10 hT.kept.size hI (fun c hc _=>hH c hc) (fun c hc hlt=>o3 c (hII c hc hlt))
      (by show w.heap[b]?=_;rw [hH b m1];exact m2) m5 (by rw [g3];simpa using m3) (by rw [g3];simpa using m4) (by rw [g3];simp) (by rw [g3,List.getElem?_set_self hil]) ⟨e,q1,?_,hval⟩ ?_ p1 ?_ ?_ (fun c hc=>.inl hc)
    · intro y hy
      rw [g3] at hy
      rcases List.mem_or_eq_of_mem_set hy with hy | hy
      · exact m6 y hy
      · rw [hy];have:=m6 x (List.mem_of_getElem? g1);rw [g2] at this;exact this
    · rw [← g2]
      exact q2.mono hT.kept.size hI (fun c hc hlt=>o3 c (hII c hc hlt)) (fun _ _ h=>h)
    · intro i' y hne' hy
      rw [g3,List.getElem?_set_ne (fun e=>hne' e.symm)] at hy
      refine ⟨hy,rfl,fun hk=>hne' ?_⟩
      obtain ⟨e2,r1,r2,_⟩:=m7 i' y hy
      exact zAs m5 r1 q1 ((kD r2 q2 (m6 y (List.mem_of_getElem? hy)) (m6 x (List.mem_of_getElem? g1))).2 (hk.trans g2.symm))
    · intro j b2 c1 hp
      obtain ⟨_,rfl⟩:=hps j b2 c1 hp
      exact ⟨.inr ⟨id,by simp,0,hTid⟩,fun e=>by subst e;exact hb1 m1,hb1⟩
    · intro j1 j2 b2 c c' h1 h2
      rw [(hps j1 b2 c h1).1,(hps j2 b2 c' h2).1]

/-- The frozen content of an entry. -/
def fzV:AV→AV
  | .tuple [.sl _ sz l,.bool m,.agg x,.sl _ esz es]=>.sl false sz (l++bif m then [.agg (x++[.sl false esz es])] else [])
  | _=>.junk
def zEP:AV→Prop
  | .tuple [.sl _ _ _,.bool _,.agg x,.sl _ _ _]=>AV.pures x=true
  | _=>False

def zD9 (sz esz:Nat):AV→Bool
  | .tuple [.sl _ s _,.bool _,.agg _,.sl _ s' _]=>Nat.beq s sz&&Nat.beq s' esz
  | _=>false
theorem zN1 {w:World} {I J:Nat→Prop} {e sz ev esz:Nat} {ps:List yX} {v:Value} {c:AV} (h:zBp w I (.nm e sz ev esz) ps v c) (hx:zEP c) (hsz:zD9 sz esz c=true) (hIJ:∀ b,I b→b<w.heap.size→J b) (hJ:∀ (j b c:Nat),ps[j]?=some (yX.at b c)→J b) :
    Rep w J Tbl.empty v (fzV c):=by
  obtain ⟨av,bs,h1,h2,h3,h4⟩:=h
  unfold FSh.dec at h1
  split at h1
  · rename_i heq;cases heq
  · rename_i e' sz' ev' esz' f0 s0 l m x f1 s1 es heq
    injection heq with q1 q2 q3 q4
    subst q1;subst q2;subst q3;subst q4
    injection h1 with h1;injection h1 with h1 h1';subst h1;subst h1'
    simp only [zD9,Bool.and_eq_true] at hsz
    have z1:=xM.1 hsz.1
    have z2:=xM.1 hsz.2
    subst z1;subst z2
    have hQ:=h4 0 _ rfl
    have hE:=h4 1 _ rfl
    have hrow:=zIM hQ hE rfl hx hIJ (fun b c hp=>hJ 1 b c hp)
    simp only [fzV]
    generalize hn:l.length+(bif m then 1 else 0)=n at h3
    have hlen:(l++bif m then [AV.agg (x++[.sl false s1 es])] else []).length=n:=by rw [← hn];cases m<;>simp
    cases h3 with
    | ownNil hT =>
      have:(l++bif m then [AV.agg (x++[.sl false s1 es])] else [])=[]:=List.eq_nil_of_length_eq_zero hlen
      rw [this]
      exact .sl0 (by simp [maxLen]) (by simp)
    | own hT k1 k2 =>
      rename_i b cap
      simp only at hT
      rw [hT] at hrow
      have:=zLZ (J:=J) (T':=Tbl.empty) hrow (fun _ h _=>h) (hJ 0 b _ hT) (by rw [hlen];exact k1) k2
      rw [hlen] at this
      exact this
  · cases h1

def zEn (st:AS) (fid m:Nat) (ts:List Nat) (ag:Bool) (ks:List KSh) (es:List (AV×AV)):AS :=
  ⟨fun t=>bif ts.any (Nat.beq t) then .mp m else st.slot t,fun k=>bif Nat.beq k m then .live (.map ag ks es) else bif Nat.beq k fid then .dead else st.box k⟩
/-- A closed map with rows is frozen. -/
def zNX (st:AS) (fid m:Nat) (ts:List Nat) (es:List (AV×AV)):Option (List Prop×Bool×List KSh) :=
  match st.box fid with
  | .live (.fam (.cl b ag ks (.nm _ sz _ esz) l))=>bif uE (st.box m) then some ([ts.map st.slot=ts.map (fun _=>.rawm b),∀ x∈l,zEP x.2∧zD9 sz esz x.2=true,es=l.map fun x=>(x.1,fzV x.2)],ag,ks) else none
  | _=>none

theorem zNz {st:AS} (fid m:Nat) (ts:List Nat) (es:List (AV×AV)) {vcs:List Prop} {ag:Bool} {ks:List KSh} (h:zNX st fid m ts es=some (vcs,ag,ks)) (hv:t5 vcs):Sub 0 st (zEn st fid m ts ag ks es):=by
  intro G a w hnp hRF
  have hf:G.foot=[]:=List.eq_nil_of_length_eq_zero hnp
  unfold zNX at h
  split at h
  case h_2=>cases h
  rename_i b ag' ks' e0 sz ev esz l hfid
  replace h:=zY h;obtain ⟨hu,h⟩:=h
  have hu:=vH hu
  injection h with h;injection h with h0 h';injection h' with h1' h2';subst h0;subst h1';subst h2'
  have hv:=zDr hv
  have hts:∀ t∈ts,st.slot t=.rawm b:=List.map_inj_left.1 (hv (ts.map st.slot=ts.map (fun _=>.rawm b)) (by simp))
  have hok:∀ x∈l,zEP x.2∧zD9 sz esz x.2=true:=hv _ (by simp)
  have hes:es=l.map fun x=>(x.1,fzV x.2):=hv _ (by simp)
  obtain ⟨G',Hd,L,F0,T,hT⟩:=hRF
  obtain ⟨E,clock,Pl,m1,m2,m3,m4,m5,m6,m7,m8,m8',m9,m10⟩:=F0.ok fid _ hfid
  have hI:∀ b,tC G' b→b<G'.w0.heap.size→w.heap[b]?=G'.w0.heap[b]?:=fun b hb _=>zBv hT.kept hb
  have hH:∀ b,Hd b→w.heap[b]?=G'.w0.heap[b]?:=fun b hb=>zDe L hT.kept hb
  have hII:∀ b,tC G' b→b<G'.w0.heap.size→imm G' st T b∧b<w.heap.size:=fun b hb _=>zCo L hf hT hb
  have hTm:=hT.unused m hu
  have hne:fid≠m:=fun e=>by rw [e,hu] at hfid;cases hfid
  have hle:T.le (T.put m (.at b 0)):=Tbl.le_put hTm
  have hbx:∀ k,(zEn st fid m ts ag' ks' es).box k=if k=m then .live (.map ag' ks' es) else if k=fid then .dead else st.box k:=by
    intro k
    simp only [zEn]
    by_cases e1:k=m
    · subst e1;simp
    · rw [xS e1,if_neg e1]
      by_cases e2:k=fid
      · subst e2;simp
      · rw [xS e2,if_neg e2];rfl
  have hlive:∀ k bx,(zEn st fid m ts ag' ks' es).box k=.live bx→(k=m∧bx=.map ag' ks' es)∨(k≠m∧k≠fid∧st.box k=.live bx):=by
    intro k bx hl
    rw [hbx] at hl
    by_cases e1:k=m
    · rw [if_pos e1] at hl;injection hl with hl;exact .inl ⟨e1,hl.symm⟩
    rw [if_neg e1] at hl
    by_cases e2:k=fid
    · rw [if_pos e2] at hl;cases hl
    · rw [if_neg e2] at hl;exact .inr ⟨e1,e2,hl⟩
  have hlt:∀ c,Hd c→c<w.heap.size:=fun c hc=>Nat.lt_of_lt_of_le (L.hid c hc).1 hT.kept.size
  obtain ⟨o1,o2,o3⟩:=zFt (J:=fun c=>(imm G' st T c∧c<w.heap.size)∨(Hd c∧c≠b)) (Hd2:=fun _=>False) (st2:=zEn st fid m ts ag' ks' es) (T2:=T.put m (.at b 0)) (a2:=a) (w2:=w) (pin:=fun _=>none) L hf hT rfl rfl rfl (Nat.le_refl _) (fun _ _ _=>rfl) hT.defers (by rw [hT.size,L.n])
    (by
      intro c hc
      have hown:∀ id bx cap,(zEn st fid m ts ag' ks' es).box id=.live bx→T.put m (.at b 0) id≠some (.at c cap):=by
        intro id bx cap hl hTi
        rcases hlive id bx hl with ⟨rfl,_⟩ | ⟨n1,n2,h0⟩
        · rw [Tbl.put_same] at hTi;injection hTi with hTi;injection hTi with e1 _
          rcases hc with ⟨hc,_⟩ | ⟨_,hc⟩
          · subst e1;exact zBK L m1 hc
          · exact hc e1.symm
        · rw [Tbl.put_ne _ _ n1] at hTi
          rcases hc with ⟨hc,_⟩ | ⟨hc,_⟩
          · exact hc.2 id bx cap h0 hTi
          · exact jV L hf hT h0 hTi hc
      rcases hc with ⟨hc,hcl⟩ | ⟨hc,hcb⟩
      · exact ⟨(L.imm hc).1.elim .inl .inr,hcl,fun h=>h,hown⟩
      · exact ⟨.inr (L.hid c hc).2.1,hlt c hc,fun h=>h,hown⟩)
    (by
      intro t
      have hr:=hT.slots t
      show Rep w _ _ _ (bif ts.any (Nat.beq t) then .mp m else st.slot t)
      cases ht:ts.any (Nat.beq t)
      · simp only [cond_false]
        exact hr.mono (Nat.le_refl _) (fun _ _ _=>rfl) (fun c hc hlt=>.inl ⟨hc,hlt⟩) hle
      · simp only [cond_true]
        rw [hts t (zGs ht)] at hr
        generalize a.tmps.getD t undef=v at hr ⊢
        cases hr with
        | rawm=>exact .mp (Tbl.put_same _ _ _))
    (by
      intro id bx hl
      rcases hlive id bx hl with ⟨rfl,rfl⟩ | ⟨n1,n2,h0⟩
      · rw [Tbl.put_same]
        refine ⟨b,E,clock,rfl,by rw [hH b m1];exact m2,by rw [hes];simpa using m3,by rw [hes];simpa using m4,m5,?_,?_⟩
        · intro x hx
          rw [hes] at hx
          obtain ⟨y,hy,rfl⟩:=List.mem_map.1 hx
          exact m6 y hy
        · intro i x hi
          rw [hes,List.getElem?_map] at hi
          cases hli:l[i]? with
          | none=>rw [hli] at hi;cases hi
          | some y =>
            rw [hli] at hi;injection hi with hi;subst hi
            obtain ⟨e,q1,q2,_,q4⟩:=m7 i y hli
            refine ⟨e,q1,q2.mono hT.kept.size hI (fun c hc hlt=>.inl (hII c hc hlt)) (fun _ _ h=>h),?_⟩
            have hFE:=(q4 (fun h=>h)).move (w':=w) (I':=fun c=>(imm G' st T c∧c<w.heap.size)∨(Hd c∧c≠b)) hT.kept.size hI (fun c hc hlt=>.inl (hII c hc hlt)) (fun i' b1 cap hp _=>hH b1 (m9 i i' b1 cap hp).1)
            have:=hok y (List.mem_of_getElem? hli)
            exact zN1 hFE this.1 this.2 (fun c hc _=>hc) (fun j b1 c1 hp=>.inr ⟨(m9 i j b1 c1 hp).1,(m9 i j b1 c1 hp).2⟩)
      · rw [Tbl.put_ne _ _ n1]
        exact (hT.boxes id bx h0).mono (Nat.le_refl _) (fun _ _ _=>rfl) (fun c hc hlt=>.inl ⟨hc,hlt⟩) hle (fun _ _ _ _=>rfl))
    (by
      intro id hl
      rw [hbx] at hl
      by_cases e1:id=m
      · rw [if_pos e1] at hl;cases hl
      rw [if_neg e1] at hl
      by_cases e2:id=fid
      · rw [if_pos e2] at hl;cases hl
      · rw [if_neg e2] at hl;rw [Tbl.put_ne _ _ e1];exact hT.unused id hl)
    (by
      intro i j x y c c1 c2 l1 l2 t1 t2
      rcases hlive i x l1 with ⟨rfl,_⟩ | ⟨n1,_,k1⟩<;>rcases hlive j y l2 with ⟨e2,_⟩ | ⟨n2,_,k2⟩
      · exact e2.symm
      · rw [Tbl.put_same] at t1;injection t1 with t1;injection t1 with e1 _
        rw [Tbl.put_ne _ _ n2] at t2
        subst e1
        exact absurd m1 (jV L hf hT k2 t2)
      · subst e2
        rw [Tbl.put_same] at t2;injection t2 with t2;injection t2 with e1 _
        rw [Tbl.put_ne _ _ n1] at t1
        subst e1
        exact absurd m1 (jV L hf hT k1 t1)
      · rw [Tbl.put_ne _ _ n1] at t1;rw [Tbl.put_ne _ _ n2] at t2
        exact hT.apart i j x y c c1 c2 k1 k2 t1 t2)
    (by
      intro id bx c cap hl hTi
      rcases hlive id bx hl with ⟨rfl,_⟩ | ⟨n1,n2,k1⟩
      · rw [Tbl.put_same] at hTi;injection hTi with hTi;injection hTi with e1 _;subst e1
        exact ⟨(L.hid _ m1).2.1,fun h=>h⟩
      · rw [Tbl.put_ne _ _ n1] at hTi
        exact ⟨L.mine (hT.mine id bx c cap k1 hTi (by rw [L.foot,hf];exact Nat.zero_le _)),fun h=>h⟩)
    (fun i p hp=>by cases hp)
    (fun c h=>h.elim)
  refine ⟨_,_,o1,⟨fun i j f g l1 l2=>?_,fun i f l1=>?_⟩,_,o2⟩
  · rcases hlive i _ l1 with ⟨_,e1⟩ | ⟨_,n1,k1⟩
    · cases e1
    · exact absurd (F0.one i fid f _ k1 hfid) n1
  · rcases hlive i _ l1 with ⟨_,e1⟩ | ⟨_,n1,k1⟩
    · cases e1
    · exact absurd (F0.one i fid f _ k1 hfid) n1
end Go.Ab

/- Words for rows whose last element grows; an empty row as such a one; jA-ups that split. -/
namespace Go.Ab
open Go

def ini {α:Type} (l:List α):List α:=l.dropLast
def lst {α:Type} [Inhabited α] (l:List α):α:=l.getLast?.getD default
section
variable {α:Type} [Inhabited α]
omit [Inhabited α] in
theorem jC (l:List α) (x:α):ini (l++[x])=l:=by simp [ini]
theorem y6 (l:List α) (x:α):lst (l++[x])=x:=by simp [lst]
omit [Inhabited α] in
theorem zH2 (l:List α) (x:α):(!(l++[x]).isEmpty)=true:=by cases l<;>rfl
omit [Inhabited α] in
theorem zCB (l:List α):(ini l).length=l.length - 1:=by simp [ini]
omit [Inhabited α] in
theorem zDX {l:List α} (h:0<l.length):(!l.isEmpty)=true:=by cases l<;>simp_all
theorem pY {l:List α} (h:0<l.length):l=ini l++[lst l]:=by
  have hne:l≠[]:=fun e=>by subst e;simp at h
  simp only [ini,lst]
  rw [List.getLast?_eq_some_getLast hne]
  exact (List.dropLast_concat_getLast hne).symm
omit [Inhabited α] in
theorem zM4 (f:α→AV) (l:List α):(List.map f (ini l)).length+(bif (!l.isEmpty) then 1 else 0)=l.length:=by
  rw [List.length_map,zCB]
  cases l<;>simp
omit [Inhabited α] in
theorem zHB (f:α→AV) {l:List α} {i:Nat} (h:i+1=l.length):i=(List.map f (ini l)).length:=by rw [List.length_map,zCB];omega
theorem zM3 (f:α→AV) {l:List α} {i:Nat} (h:i+1=l.length):(List.map f l)[i]?=some (f (lst l)):=by
  have h0:0<l.length:=by omega
  have hl:(List.map f l)[i]?=(List.map f (ini l++[lst l]))[i]?:=by rw [← pY h0]
  rw [hl]
  have:i=(List.map f (ini l)).length:=zHB f h
  rw [List.map_append,List.getElem?_append_right (by omega),this]
  simp
omit [Inhabited α] in
theorem zOk (x:α) {l:List α} {i:Nat} (h:i+1=l.length):(ini l++[x]).length=l.length:=by
  rw [List.length_append,zCB,List.length_singleton];omega
/-- What the sealed row is. -/
theorem zIm (f:α→AV) (l:List α) (c:AV) (h:f (lst l)=c):List.map f l=List.map f (ini l)++bif (!l.isEmpty) then [c] else []:=by
  rcases Nat.eq_zero_or_pos l.length with h0 | h0
  · have:=List.eq_nil_of_length_eq_zero h0
    subst this;rfl
  · rw [zDX h0,← h]
    conv=>lhs;rw [pY h0]
    simp
end

theorem zK1 {α:Type} (o:Option α):o=none∨∃ x,o=some x:=by cases o<;>simp
/-- A case on an option. -/
def zJ9 {α β:Type} (o:Option α) (a:β) (f:α→β):β:=match o with | none=>a | some x=>f x
theorem zLt {α β:Type} {o:Option α} {a:β} {f:α→β} {r:β} (h:o=none) (hr:zJ9 o a f=r):a=r:=by rw [h] at hr;exact hr
theorem zLS {α β:Type} {o:Option α} {a:β} {f:α→β} {r:β} {x:α} (h:o=some x) (hr:zJ9 o a f=r):f x=r:=by rw [h] at hr;exact hr
section
variable {α β:Type} [DecidableEq α] {f:α→AV} {g:β→AV}
theorem zLx (hf:∀ a b,f a=f b→a=b) {l:List (α×β)} {k:α} (h:yD l k=none) (z:AV):jY (l.map (mpE f g)) (f k) z z false:=by
  refine .inr ⟨fun x hx=>?_,rfl,rfl⟩
  obtain ⟨p,hp,rfl⟩:=List.mem_map.1 hx
  exact fun e=>zCl h p hp (hf _ _ e)
theorem zL2 {l:List (α×β)} {k:α} {v:β} (h:yD l k=some v) (z:AV):jY (l.map (mpE f g)) (f k) z (g v) true:=by
  obtain ⟨i,p,h1,h2,h3,_⟩:=zD7 h
  exact .inl ⟨i,mpE f g p,by rw [List.getElem?_map,h1];rfl,by simp [mpE,h2],by simp [mpE,h3],rfl⟩
omit [DecidableEq α] in
/-- A table whose values are seen otherwise. -/
theorem zN2 {g2:β→AV} (hg:∀ v,fzV (g v)=g2 v) (l:List (α×β)):l.map (mpE f g2)=(l.map (mpE f g)).map fun x=>(x.1,fzV x.2):=by
  rw [List.map_map];congr 1;funext p;simp [mpE,hg]
omit [DecidableEq α] in
theorem zOd {sz esz:Nat} (hg:∀ v:β,zEP (g v)∧zD9 sz esz (g v)=true) (l:List (α×β)):∀ x∈l.map (mpE f g),zEP x.2∧zD9 sz esz x.2=true:=by
  intro x hx
  obtain ⟨p,_,rfl⟩:=List.mem_map.1 hx
  exact hg p.2
end
end Go.Ab
