/- Hidden blocks: a pI-up. -/
import Derived.Test.YtbifmbdcejggkaaA44
namespace Go.Ab
open Go
def zMm (P:Program) (t:TypeId) (m key:AV) (ok:Bool) (B:Nat→zW) (f:Fam) (h:x5):Option (List Prop×List (Nat×zW)×AV×Fam) :=
 match zDx P t,m,f with
 | some (k,e),.rawm b,.cl b' ag ks sh l =>
  bif tR ag ks key then
   match sh,ok,zJy P e with
   | .nm e1 s1 e2 s2,false,some .nilsl =>
    match (FSh.nm e1 s1 e2 s2).dec h.av with
    | some (av,bs) =>
     bif (vR h.ids&&h.ids.all fun i=>uJ (B i))&&(Nat.beq h.ids.length bs.length&&(qE h.ids.length av&&bs.all (fun x=>zAm h.ids.length x&&x.nf))) then
      some ([b=b',v3 P k ag ks,k0 l key (zMf (.nm e1 s1 e2 s2) h.l) h.av h.g],h.ids.zip (bs.map fun x=>.live (unB h.ids x)),un h.ids av,.op b ag ks (.nm e1 s1 e2 s2) l key)
     else none
    | none=>none
   | .pm t1,true,some .nilp =>
    bif h.g then
     match h.av with
     | .agg cs=>bif uJ (B h.id)&&jN 1 cs then
       some ([b=b',v3 P k ag ks,k0 l key .junk (.agg cs) true],[(h.id,.live (.var t1 (uns [h.id] cs)))],.tuple [.ptr h.id 0 0 0,.bool true],.opp b ag ks (.pm t1) l key h.id)
      else none
     | _=>none
    else some ([b=b',v3 P k ag ks,k0 l key .junk .junk false],[],.tuple [.nilp,.bool false],.cl b ag ks (.pm t1) l)
   | _,_,_=>none
  else none
 | _,_,_=>none
theorem zPG {w:World} {I:Nat→Prop} {e1 s1 e2 s2:Nat} {x:List AV}:zCJ w I (.nm e1 s1 e2 s2) [.nil,.nil] (.slice none 0 0) (zMf (.nm e1 s1 e2 s2) x):=by
 refine ⟨.own 0 0,[.rowQ e1 s1 [] false (x++[.own 1 0]),.row e2 s2 []],rfl,rfl,.ownNil rfl,fun i bx hi=>?_⟩
 match i with
 | 0=>simp at hi;subst hi;exact .inl ⟨rfl,rfl,rfl⟩
 | 1=>simp at hi;subst hi;exact .inl ⟨rfl,rfl⟩
 | i+2=>simp at hi
def zF4 (z:Value):Option (Nat×Value)→Value
 | some q=>q.2
 | none=>z
theorem zB5 {P:Program} {w:World} {t k e:TypeId} {b:Nat} {E:Array MapEntry} {clock:Nat} {v:Value} {ok:Bool} {ag:Bool} {ks:List KSh} (K:v3 P k ag ks) (hu:P.underlying t=some (.map k e)) (hh:w.heap[b]?=some (.map E clock)) {t':_} (ht':keyOf P k v=some t') {z:Value} (hz:(zeroValue e).run P w=.ok z w)
  {r:Option (Nat×Value)} (hr:(Instr.findKey k v E.toList).run P w=.ok r w) :
  (Instr.lookup t (.map (some b)) v ok).run P w=.ok (if ok then .tuple #[zF4 z r,.bool r.isSome] else zF4 z r) w:=by
 cases r with
 | none=>simp [Instr.lookup,run_underlying hu,MapKept.run_getObj_map hh,K.keyed.check w _ ht',hr,hz,Result.andThen,zF4]
 | some q=>obtain ⟨j,q⟩:=q;simp [Instr.lookup,run_underlying hu,MapKept.run_getObj_map hh,K.keyed.check w _ ht',hr,Result.andThen,zF4]
theorem zLD {P:Program} {N:Nat} {o:Oper} {t:TypeId} {x y:Operand} {ok:Bool} {rs:List (Nat×AV)} {hn:x5} {B:Nat→zW} {f:Fam} {r:List Prop×List (Nat×zW)×AV×Fam}
  (ho:o.op=.lookup t x y ok) (hx:xG x=true) (hy:xG y=true)
  (h:zMm P t (yL rs x) (yL rs y) ok B f hn=some r) (hv:∀ p∈r.1,p) (hd:v4 N o.dst=true) {fid:Nat} {G:xX} {st st2:AS} {a:Act} {w:World} (hf:G.foot=[]) (hN:G.n=N)
  (hrs:∀ x∈rs,st.slot x.1=x.2) (hB:∀ i∈r.2.1.map (·.1),st.box i=B i) (hfid:st.box fid=.live (.fam f))
  (hslot:st2.slot=zB1 st.slot (o.dst.map fun d=>(d,r.2.2.1))) (hbox:∀ i,st2.box i=x4 (r.2.1++[(fid,.live (.fam r.2.2.2))]) i (st.box i)) (hR:vN G st a w) :
  o.wp P a w (fun a' w'=>vN G st2 a' w') (fun _ _ _=>False):=by
 obtain ⟨G',Hd,L,F0,T,hT⟩:=hR
 have F:=F0.ok fid f hfid
 have hrx:=xF hT hrs hx
 have hry:=xF hT hrs hy
 unfold zMm at h
 split at h
 case h_2=>cases h
 rename_i k e b b' ag ks sh l hmt hX
 have hu:=zC6 hmt
 rw [hX] at hrx
 replace h:=yH h;obtain ⟨hkm,h⟩:=h
 generalize he:a.eval x=vx at hrx
 have hex:vx=.map (some b):=by cases hrx;rfl
 subst hex
 have hI:∀ b,qK G' b→b<G'.w0.heap.size→w.heap[b]?=G'.w0.heap[b]?:=fun b hb _=>zCO hT.kept hb
 have hH:∀ b,Hd b→w.heap[b]?=G'.w0.heap[b]?:=fun b hb=>zEr L hT.kept hb
 have hII:∀ b,qK G' b→b<G'.w0.heap.size→imm G' st T b∧b<w.heap.size:=fun b hb _=>zDs L hf hT hb
 have hput:∀ (v:Value),(execOp a.eval o).run P w=.ok (.value v) w→vN G st2 (a.put o.dst v) w→o.wp P a w (fun a' w'=>vN G st2 a' w') (fun _ _ _=>False):=fun v h1 h2=>wW h1 h2
 have hdn:∀ d,o.dst=some d→d<G.n:=by
  intro d hd'
  have:=(vA (av:=.junk) (av':=.junk) hd (by rw [hd'];rfl)).1
  rw [hN];exact this
 split at h
 ·rename_i e1 s1 e2 s2 hz
  split at h
  case h_2=>cases h
  rename_i av bs hdec
  replace h:=yH h;obtain ⟨hc,h⟩:=h
  injection h with h;subst h
  simp only [Bool.and_eq_true,List.all_eq_true] at hc
  obtain ⟨⟨hnd,hun⟩,hlen,hbl,hbls0⟩:=hc
  have hbls:∀ bx∈bs,zAm hn.ids.length bx=true:=fun bx hb=>(hbls0 bx hb).1
  have hlen:=Nat.eq_of_beq_eq_true hlen
  simp only at hv hslot hbox hB
  have hbb:b=b':=hv _ (by simp)
  subst hbb
  have K:v3 P k ag ks:=hv _ (by simp)
  have hL:k0 l (yL rs y) (zMf (.nm e1 s1 e2 s2) hn.l) hn.av hn.g:=hv _ (by simp)
  obtain ⟨t',ht'⟩:=K.reads _ _ _ _ _ hry hkm
  have M:=F
  obtain ⟨E,clock,Pl,m1,m2,m3,m4,m5,m6,m7,m8,m8',m9,m10⟩:=M
  have M:zA1 G'.w0 (qK G') Hd b ag ks (.nm e1 s1 e2 s2) l (fun _=>False) (fun _=>True):=⟨E,clock,Pl,m1,m2,m3,m4,m5,m6,m7,m8,m8',m9,m10⟩
  have hh:w.heap[b]?=some (.map E clock):=by rw [hH b m1];exact m2
  have hlz:hn.ids.length=(bs.map fun x=>zW.live (unB hn.ids x)).length:=by simpa using hlen
  have hmem:∀ i∈hn.ids,i∈(hn.ids.zip (bs.map fun x=>zW.live (unB hn.ids x))).map (·.1):=by
   intro i hi
   rw [List.map_fst_zip (by omega)];exact hi
  have hus:∀ i∈hn.ids,st.box i=.unused:=fun i hi=>by rw [hB i (hmem i hi)];exact vL (hun i hi)
  obtain ⟨zv,hzr,hzrep⟩:=zDC (w:=w) (I:=fun _=>True) (T:=T) hz
  have hzv:zv=.slice none 0 0:=by cases hzrep;rfl
  -- the entry, or an empty one
  have key:∃ (r0:Option (Nat×Value)) (ps:List y9),(Instr.findKey k (a.eval y) E.toList).run P w=.ok r0 w∧zCJ w (fun b=>imm G' st T b∧b<w.heap.size) (.nm e1 s1 e2 s2) ps (zF4 zv r0) hn.av ∧
    (∀ (j b1 c:Nat),ps[j]?=some (y9.at b1 c)→Hd b1∧b1≠b)∧(∀ (j j' b1 c c':Nat),ps[j]?=some (y9.at b1 c)→ps[j']?=some (y9.at b1 c')→j=j') ∧
    zA1 w (fun b=>imm G' st T b∧b<w.heap.size) (fun b1=>Hd b1∧∀ j c:Nat,ps[j]?≠some (y9.at b1 c)) b ag ks (.nm e1 s1 e2 s2) l (fun k=>k=yL rs y) (fun _=>True):=by
   rcases zEK (T:=T) (I':=imm G' st T) (ex:=fun _=>False) (exv:=fun _=>True) (Pl:=Pl) K m3 m6 hT.kept.size hI m7 hry hkm with ⟨f1,f2,f3⟩ | ⟨j,e',x',f1,f2,f3,f4,f5⟩
   ·rcases hL with ⟨i,x',g1,g2,_⟩ | ⟨_,g1,g2⟩
    ·exact absurd g2 (f3 x' (List.mem_of_getElem? g1))
    ·refine ⟨none,[.nil,.nil],f1,by rw [g1,hzv];exact zPG,?_,?_,zMK M hT.kept.size hI hH hII f3 (fun b1 h1=>⟨h1,?_⟩)⟩
     ·intro j b1 c hp
      match j with
      | 0=>simp at hp
      | 1=>simp at hp
      | j+2=>simp at hp
     ·intro j j' b1 c c' hp
      match j with
      | 0=>simp at hp
      | 1=>simp at hp
      | j+2=>simp at hp
     ·intro j c hp
      match j with
      | 0=>simp at hp
      | 1=>simp at hp
      | j+2=>simp at hp
   ·rcases hL with ⟨i,x2,g1,g2,g3,g4⟩ | ⟨g0,_⟩
    ·obtain ⟨e2',k1,k2,_⟩:=m7 i x2 g1
     have hkv:=(pV k2 hry (m6 x2 (List.mem_of_getElem? g1)) hkm).2 g2
     have:=zBm m5 f2 k1 (f3.trans hkv.symm)
     subst this
     rw [f4] at g1;injection g1 with g1;subst g1
     obtain ⟨ps,q1,q2,q3,q4⟩:=zKK (exv:=fun _=>True) M hT.kept.size hI hH hII hh f2 f4 f5 hkm trivial
     exact ⟨some (j,e'.val),ps,f1,by rw [g3];exact q1,q2,q3,q4⟩
    ·exact absurd f5 (g0 x' (List.mem_of_getElem? f4))
  obtain ⟨r0,ps,hfind,hFE,hps,hdist,hM⟩:=key
  have hrun:=zB5 (ok:=false) K hu hh ht' hzr hfind
  generalize (zF4 zv r0)=v at hFE hrun
  obtain ⟨av2,bs2,d1,d2,d3,d4⟩:=hFE
  rw [hdec] at d1;injection d1 with d1;injection d1 with d1 d1';subst d1;subst d1'
  refine hput v ?_ ?_
  ·simp only [execOp,ho,he,Sem.run_bind,hrun,Result.andThen_ok]
   rfl
  ·have hnf:fid∉(hn.ids.zip (bs.map fun x=>zW.live (unB hn.ids x))).map (·.1):=by
    rw [List.map_fst_zip (by omega)]
    intro hi
    have:=hus _ hi
    rw [hfid] at this;cases this
   have hwnf:∀ x∈hn.ids.zip (bs.map fun x=>zW.live (unB hn.ids x)),x.2.nf=true:=by
    intro x hx
    have:=List.of_mem_zip hx
    obtain ⟨bx,h1,h2⟩:=List.mem_map.1 this.2
    rw [← h2]
    have:=(hbls0 bx h1).2
    cases bx<;>first | rfl | cases this
   obtain ⟨o1,o2,o3⟩:=zKF (st2:=⟨st2.slot,fun i=>x4 (hn.ids.zip (bs.map fun x=>zW.live (unB hn.ids x))) i (st.box i)⟩) (pin:=fun _=>none) (dst:=o.dst) (avd:=un hn.ids av) L hf hT hnd hlen d2 hus d4 hbls (fun j b1 c hp=>(hps j b1 c hp).1) hdist hslot rfl hdn
    (zG8 (by rw [zLM hnd (hlen.trans d2.symm)];exact d3) hbl) (fun i p hp=>by cases hp)
   have o2':=o2.fam (st2:=st2) (fid:=fid) (f:=.cl b ag ks (.nm e1 s1 e2 s2) l) (f':=.op b ag ks (.nm e1 s1 e2 s2) l (yL rs y)) (by simp only;rw [zIO hnf];exact hfid) rfl (fun i=>by rw [hbox,zAG hnf])
   refine ⟨_,_,o1,zEm F0 hfid hbox hwnf hnf ?_,_,o2'⟩
   obtain ⟨E2,clock2,Pl2,n1,n2,n3,n4,n5,n6,n7,n8,n8',n9,n10⟩:=hM
   refine ⟨E2,clock2,Pl2,n1,n2,n3,n4,n5,n6,fun i x hi=>?_,n8,n8',n9,n10⟩
   obtain ⟨e3,r1,r2,r3,r4⟩:=n7 i x hi
   exact ⟨e3,r1,r2.mono (Nat.le_refl _) (fun _ _ _=>rfl) (fun b hb _=>o3 b hb) (fun _ _ h=>h),r3,fun hk=>(r4 hk).move (Nat.le_refl _) (fun _ _ _=>rfl) (fun b hb _=>o3 b hb) (fun _ _ _ _ _=>rfl)⟩
 ·rename_i t1 hz
  cases hg:hn.g
  · -- not there
   rw [hg] at h
   simp only [cond_false] at h
   injection h with h;subst h
   simp only at hv hslot hbox hB
   have hbb:b=b':=hv _ (by simp)
   subst hbb
   have K:v3 P k ag ks:=hv _ (by simp)
   have hL:k0 l (yL rs y) .junk .junk false:=hv _ (by simp)
   obtain ⟨t',ht'⟩:=K.reads _ _ _ _ _ hry hkm
   obtain ⟨E,clock,Pl,m1,m2,m3,m4,m5,m6,m7,m8,m8',m9,m10⟩:=F
   have hh:w.heap[b]?=some (.map E clock):=by rw [hH b m1];exact m2
   obtain ⟨zv,hzr,hzrep⟩:=zDC (w:=w) (I:=imm G' st T) (T:=T) hz
   have hno:∀ x∈l,x.1≠yL rs y:=by
    rcases hL with ⟨i,x',g1,g2,g3,g4⟩ | ⟨g0,_⟩
    ·cases g4
    ·exact g0
   rcases zEK (T:=T) (I':=imm G' st T) (ex:=fun _=>False) (exv:=fun _=>True) (Pl:=Pl) K m3 m6 hT.kept.size hI m7 hry hkm with ⟨f1,f2,f3⟩ | ⟨j,e',x',f1,f2,f3,f4,f5⟩
   ·have hrun:=zB5 (ok:=true) K hu hh ht' hzr f1
    refine hput (.tuple #[zv,.bool false]) ?_ ?_
    ·simp only [execOp,ho,he,Sem.run_bind,hrun,Result.andThen_ok]
     rfl
    ·have hsame:st2.box=st.box:=by
      funext i
      rw [hbox,zAG (by simp)]
      by_cases e:i=fid
      ·subst e;rw [if_pos rfl];exact hfid.symm
      ·rw [if_neg e];rfl
     refine ⟨G',Hd,L,F0.less (fun id g hg=>by rw [hsame] at hg;exact hg),?_⟩
     have hq:Rel G' (st.upd { dst:=o.dst.map fun d=>(d,.tuple [.nilp,.bool false]) }) (a.put o.dst (.tuple #[zv,.bool false])) w:=by
      refine hT.quiet (vH w) rfl (by simp [Option.map_map,Function.comp_def]) ?_
      intro d av' he'
      obtain ⟨hlt,rfl⟩:=vA hd he'
      refine ⟨by rw [L.n];omega,.tuple (by simp) fun j c hj=>?_⟩
      match j with
      | 0=>simp at hj;subst hj;exact hzrep
      | 1=>simp at hj;subst hj;exact .bool
      | j+2=>simp at hj
     refine hq.congr ?_ ?_
     ·rw [hslot];rfl
     ·rw [hsame];rfl
   ·exact absurd f5 (hno x' (List.mem_of_getElem? f4))
  ·rw [hg] at h
   simp only [cond_true] at h
   split at h
   case h_2=>cases h
   rename_i cs hav
   replace h:=yH h;obtain ⟨hc,h⟩:=h
   injection h with h;subst h
   simp only [Bool.and_eq_true] at hc
   obtain ⟨hun,hbl⟩:=hc
   simp only at hv hslot hbox hB
   have hbb:b=b':=hv _ (by simp)
   subst hbb
   have K:v3 P k ag ks:=hv _ (by simp)
   have hL:k0 l (yL rs y) .junk (.agg cs) true:=hv _ (by simp)
   obtain ⟨t',ht'⟩:=K.reads _ _ _ _ _ hry hkm
   have M:=F
   obtain ⟨E,clock,Pl,m1,m2,m3,m4,m5,m6,m7,m8,m8',m9,m10⟩:=M
   have M:zA1 G'.w0 (qK G') Hd b ag ks (.pm t1) l (fun _=>False) (fun _=>True):=⟨E,clock,Pl,m1,m2,m3,m4,m5,m6,m7,m8,m8',m9,m10⟩
   have hh:w.heap[b]?=some (.map E clock):=by rw [hH b m1];exact m2
   obtain ⟨zv,hzr,hzrep⟩:=zDC (w:=w) (I:=fun _=>True) (T:=T) hz
   have hus:∀ i∈[hn.id],st.box i=.unused:=fun i hi=>by
    rw [List.mem_singleton.1 hi,hB hn.id (by simp)];exact vL hun
   rcases hL with ⟨i,x2,g1,g2,g3,g4⟩ | ⟨g0,_,g5⟩
   case inr=>cases g5
   rcases zEK (T:=T) (I':=imm G' st T) (ex:=fun _=>False) (exv:=fun _=>True) (Pl:=Pl) K m3 m6 hT.kept.size hI m7 hry hkm with ⟨f1,f2,f3⟩ | ⟨j,e',x',f1,f2,f3,f4,f5⟩
   ·exact absurd g2 (f3 x2 (List.mem_of_getElem? g1))
   obtain ⟨e2',k1,k2,_⟩:=m7 i x2 g1
   have hkv:=(pV k2 hry (m6 x2 (List.mem_of_getElem? g1)) hkm).2 g2
   have:=zBm m5 f2 k1 (f3.trans hkv.symm)
   subst this
   rw [f4] at g1;injection g1 with g1;subst g1
   have hrun:=zB5 (ok:=true) K hu hh ht' hzr f1
   -- where its block lies
   have hval:∃ b1,e'.val=.pointer (some ⟨b1,0,none⟩):=by
    obtain ⟨e3,q1,_,_,q4⟩:=m7 j x' f4
    rw [f2] at q1;injection q1 with q1;subst q1
    obtain ⟨av,bs,d1,d2,d3,d4⟩:=q4 (fun h=>h)
    rw [← g3] at d1
    simp only [FSh.dec] at d1
    injection d1 with d1;injection d1 with d1 d1';subst d1;subst d1'
    generalize e'.val=v at d3
    cases d3 with
    | ptr q r=>subst r;exact ⟨_,rfl⟩
   obtain ⟨b1,hval⟩:=hval
   obtain ⟨ps,q1,q2,q3,q4⟩:=zKK (exv:=fun v=>v=.pointer (some ⟨b1,0,none⟩)) M hT.kept.size hI hH hII hh f2 f4 f5 hkm hval
   obtain ⟨av2,bs2,d1,d2,d3,d4⟩:=q1
   rw [← g3] at d1
   simp only [FSh.dec] at d1
   injection d1 with d1;injection d1 with d1 d1';subst d1;subst d1'
   have hTid:ps[0]?=some (.at b1 0):=by
    obtain ⟨b2,C,r1,_⟩:=d4 0 _ rfl
    rw [hval] at d3
    cases d3 with
    | ptr q r =>
     simp only at q
     rw [q] at r1 ⊢
     injection r1 with r1;injection r1 with r1 r2
     rw [r2]
   refine hput (.tuple #[e'.val,.bool true]) ?_ ?_
   ·simp only [execOp,ho,he,Sem.run_bind,hrun,Result.andThen_ok]
    rfl
   ·have hnd:vR [hn.id]=true:=by simp [vR]
    have hTp:zAI T [hn.id] ps hn.id=some (.at b1 0):=by rw [zGD hnd d2.symm (i:=hn.id) (j:=0) rfl];exact hTid
    have hne:fid≠hn.id:=fun e=>by have:=hus hn.id (by simp);rw [← e,hfid] at this;cases this
    have hnf:fid∉[(hn.id,zW.live (.var t1 (uns [hn.id] cs)))].map (·.1):=by simpa using hne
    obtain ⟨o1,o2,o3⟩:=zKF (st2:=⟨st2.slot,fun i=>x4 [(hn.id,zW.live (.var t1 (uns [hn.id] cs)))] i (st.box i)⟩) (pin:=fun i=>if i=hn.id then some (.at b1 0) else none) (dst:=o.dst) (vd:=.tuple #[e'.val,.bool true]) (avd:=.tuple [.ptr hn.id 0 0 0,.bool true]) (ids:=[hn.id]) (ps:=ps) L hf hT hnd rfl d2 hus d4
     (fun bx hb=>by rw [List.mem_singleton.1 hb];exact hbl) (fun j b1 c hp=>(q2 j b1 c hp).1) q3 hslot rfl hdn
     (.tuple (by simp) fun j c hj=>by
      match j with
      | 0=>simp at hj;subst hj;rw [show (#[e'.val,Value.bool true].getD 0 undef)=e'.val from rfl,hval];exact .ptr hTp (by simp)
      | 1=>simp at hj;subst hj;exact .bool
      | j+2=>simp at hj)
     (fun i p hp=>by
      by_cases hi:i=hn.id
      ·subst hi;rw [if_pos rfl] at hp;injection hp with hp;subst hp;exact hTp
      ·rw [if_neg hi] at hp;cases hp)
    have o2':=o2.fam (st2:=st2) (fid:=fid) (f:=.cl b ag ks (.pm t1) l) (f':=.opp b ag ks (.pm t1) l (yL rs y) hn.id) (by simp only;rw [zIO hnf];exact hfid) rfl (fun i=>by rw [hbox,zAG hnf])
    refine ⟨_,_,o1,zEm F0 hfid hbox (fun x hx=>by rw [List.mem_singleton.1 hx];rfl) hnf ?_,_,o2'⟩
    refine ⟨b1,if_pos rfl,⟨x',List.mem_of_getElem? f4,f5⟩,?_⟩
    obtain ⟨E2,clock2,Pl2,n1,n2,n3,n4,n5,n6,n7,n8,n8',n9,n10⟩:=q4
    refine ⟨E2,clock2,Pl2,n1,n2,n3,n4,n5,n6,fun i x hi=>?_,n8,n8',n9,n10⟩
    obtain ⟨e3,r1,r2,r3,r4⟩:=n7 i x hi
    exact ⟨e3,r1,r2.mono (Nat.le_refl _) (fun _ _ _=>rfl) (fun b hb _=>o3 b hb) (fun _ _ h=>h),r3,fun hk=>(r4 hk).move (Nat.le_refl _) (fun _ _ _=>rfl) (fun b hb _=>o3 b hb) (fun _ _ _ _ _=>rfl)⟩
 ·cases h
end Go.Ab
