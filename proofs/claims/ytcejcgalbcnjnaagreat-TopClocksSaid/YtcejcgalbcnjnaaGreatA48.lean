/- Lemmas. No conditions but those that they name. -/
import Derived.Test.YtcejcgalbcnjnaaGreatA38
import Derived.OpenShut
import Derived.SizedLaws
import Derived.WalkKit
import Derived.Carry
import Derived.Handed
import Derived.JoinedOf
import Derived.JoinedCond
namespace Go.Ab
open Go
def zNN (P:Program) (N np:Nat) (o:Oper) (E:Eff):Prop :=
 ∀ G st a w,G.n=N->G.foot.length=np->E.holds st->vJ G st a w->o.wp P a w (fun a' w'=>vJ G (st.upd E) a' w') (fun _ _ _=>False)
def zB4 (E:Eff):Bool:=E.wb.all fun x=>x.2.nf
theorem RQ {E:Eff} (h:zB4 E=true) (st:AS):∀ id f,(st.upd E).box id=.live (.fam f)->st.box id=.live (.fam f):=by
 intro id f hb;have hb:yJ E.wb id (st.box id)=.live (.fam f):=hb;rcases zCt (wb:=E.wb) (i:=id) (d:=st.box id) with h1 | h1
 ·rw [<- h1];exact hb
 ·rw [hb] at h1
  have:=tC.1 h _ h1
  cases this
def Y4 (P:Program) (A:Operand->AV) (f:Operand) (args:List Operand) (fam:Fam) (h:wA):Option (List Prop) :=
 match XV A f,fam with
 | some (g,[]),.hp H _=>bif XZ P g&&(AV.pures (args.map A)&&h.av.pure) then some [CN P g (args.map A) H h.hq h.av] else none
 | _,_=>none
theorem zKr {P:Program} {N:Nat} {o:Oper} {f:Operand} {args:Array Operand} {ts:Array TypeId} {rs:List (Nat×AV)} {hn:wA} {fam:Fam} {vcs:List Prop} {fid:Nat} {G:wQ} {st:AS} {a:Act} {w:World}
  (ho:o.op=.call { callee:=.value f,args:=args,argTypes:=ts }) (hf:xK f=true) (hx:∀ x∈args.toList,xK x=true) (h:Y4 P (y7 rs) f args.toList fam hn=some vcs) (hv:∀ p∈vcs,p) (hd:qF N o.dst=true)
  (hfo:G.foot=[]) (hN:G.n=N) (hrs:∀ x∈rs,st.slot x.1=x.2) (hfid:st.box fid=.live (.fam fam)) (hR:vJ G st a w) :
  o.wp P a w (fun a' w'=>vJ G (st.upd { rs:=rs,rb:=[(fid,.live (.fam fam))],dst:=o.dst.map fun d=>(d,hn.av),wb:=[(fid,.live (.fam (.hpx hn.hq)))] }) a' w') (fun _ _ _=>False):=by
 obtain ⟨G',Hd,L,F,T,hT⟩:=hR;unfold Y4 at h
 split at h
 case h_2=>cases h
 rename_i g H pins hcal
 replace h:=xM h;obtain ⟨hc,h⟩:=h;simp only [zba] at hc;obtain ⟨hcallable,hpa,hpr⟩:=hc;injection h with h;subst h;have htri:CN P g (args.toList.map (y7 rs)) H hn.hq hn.av:=hv _ (by simp);have hfr:=uS hT hrs hf;have hfv:a.eval f=.func (.func g) #[] #[]:=by
  unfold XV at hcal
  split at hcal
  ·rename_i g' caps' hA
   simp only [uU,kU] at hcal;obtain ⟨rfl,rfl⟩:=hcal;rw [hA] at hfr;generalize hvf:a.eval f=vf at hfr;cases hfr with
   | fn h1 h2=>rename_i vs;simp at h1;subst h1;rfl
  ·cases hcal
 have hI:∀ b,uP G' b->b<G'.w0.heap.size->w.heap[b]?=G'.w0.heap[b]?:=fun b hb _=>fZ hT.kept hb
 have hHd:∀ b,Hd b->w.heap[b]?=G'.w0.heap[b]?:=fun b hb=>gX L hT.kept hb
 have hII:∀ b,uP G' b->b<G'.w0.heap.size->imm G' st T b/\b<w.heap.size:=fun b hb _=>gQ L hfo hT hb
 have hHp:=(F.ok fid _ hfid).1;have hHp2:jO w (fun b=>imm G' st T b/\b<w.heap.size) Hd H :=
  ⟨fun i p e hi=>⟨(hHp.1 i p e hi).1.mono hT.kept.size hI hII (fun b cap hp=>hHd b ((hHp.1 i p e hi).2 b cap hp)),fun b c hp=>(hHp.1 i p e hi).2 b c hp⟩,hHp.2⟩
 have hcalls:=htri w (fun b=>imm G' st T b/\b<w.heap.size) Hd (args.map a.eval) (fun b hb=>⟨hb.2,fun h=>g9 L h hb.1⟩) (fun b hb=>kZ (L.hid b hb).1 hT.kept.size) hHp2 (by simp)
  (fun j av hj=>by
   rw [vD] at hj;cases hoj:args.toList[j]? with
   | none=>rw [hoj] at hj;cases hj
   | some x =>
    rw [hoj] at hj;injection hj with hj;subst hj;have hoj':=hoj;rw [k9] at hoj;have e1:(args.map a.eval).getD j undef=a.eval x:=by simp [hoj]
    rw [e1];have hp:(y7 rs x).pure=true:=AV.pures_get hpa (j:=j) (by rw [vD,hoj'];rfl);exact (((uS hT hrs (hx x (yN hoj'))).mono (yI _) (fun _ _ _=>rfl) (fun b hb hlt=>⟨hb,hlt⟩) (fun _ _ h=>h)):Rep w (fun b=>imm G' st T b/\b<w.heap.size) T _ _).bare hp)
 have hexec:(execOp a.eval o).run P w=.ok (.enter g (args.map a.eval)) w:=by
  unfold XZ at hcallable
  split at hcallable
  ·rename_i fn hfn
   simp only [zba,pH,H7] at hcallable;obtain ⟨hname,body,hbody⟩:=hcallable
   have hname : ¬ fn.name = "runtime.NumGoroutine" := fun e => by rw [e] at hname; simp at hname
   simp [execOp,ho,resolve,Deferred.ofValue,hfv,invoke,callFunc,hfn,hname,hbody]
  ·cases hcallable
 unfold Oper.wp;rw [hexec];show Calls P g (args.map a.eval) w _;refine hcalls.mono ?_;rintro e w' ⟨v,H',I',Hd',rfl,hos,htape,hout,hsize,hblk,hHd',hI',hres,hQ,hHp'⟩;have hkeep:∀ b,imm G' st T b->b<w.heap.size->w'.heap[b]?=w.heap[b]?:=fun b hb hlt=>hblk b hlt fun h=>g9 L h hb
 have hbox:∀ i,(st.upd { rs:=rs,rb:=[(fid,.live (.fam (.hp H pins)))],dst:=o.dst.map fun d=>(d,hn.av),wb:=[(fid,.live (.fam (.hpx hn.hq)))] }).box i=if i=fid then .live (.fam (.hpx hn.hq)) else st.box i:=fun i=>AC fid _ _ i
 have hlive:∀ id bx,(st.upd { rs:=rs,rb:=[(fid,.live (.fam (.hp H pins)))],dst:=o.dst.map fun d=>(d,hn.av),wb:=[(fid,.live (.fam (.hpx hn.hq)))] }).box id=.live bx->(id=fid/\bx=.fam (.hpx hn.hq))\/(id≠fid/\st.box id=.live bx):=by
  intro id bx hl;rw [hbox] at hl
  by_cases e:id=fid
  ·rw [if_pos e] at hl;injection hl with hl;exact .inl ⟨e,hl.symm⟩
  ·rw [if_neg e] at hl;exact .inr ⟨e,hl⟩
 have hTf:T fid=some .nil:=hT.boxes fid _ hfid;have hJ:∀ b,imm G' st T b->b<w.heap.size->(imm G' st T b/\b<w.heap.size)\/I' b:=fun b h1 h2=>.inl ⟨h1,h2⟩
 obtain ⟨o1,o2,o3⟩:=CK (Hd2:=Hd') (J:=fun b=>(imm G' st T b/\b<w.heap.size)\/I' b) (st2:=st.upd { rs:=rs,rb:=[(fid,.live (.fam (.hp H pins)))],dst:=o.dst.map fun d=>(d,hn.av),wb:=[(fid,.live (.fam (.hpx hn.hq)))] }) (T2:=T) (a2:=a.put o.dst v) (w2:=w') (pin:=fun _=>none) L hfo hT hos htape hout hsize hblk
  (by cases o.dst<;>exact hT.defers) (by cases o.dst<;>simp [Act.put,hT.size,L.n])
  (fun b hb=>by
   rcases hb with ⟨hb,hlt⟩ | hb
   ·refine ⟨(L.imm hb).1,kZ hlt hsize,fun h=>(hHd' b h).2.2 ⟨hb,hlt⟩,fun id bx cap hl hTi=>?_⟩;rcases hlive id bx hl with ⟨rfl,_⟩ | ⟨_,h0⟩
    ·rw [hTf] at hTi;cases hTi
    ·exact hb.2 id bx cap h0 hTi
   ·obtain ⟨h1,h2,h3⟩:=hI' b hb;refine ⟨?_,h1,h2,fun id bx cap hl hTi=>?_⟩
    ·rcases h3 with h | h | h
     ·exact (L.imm h.1).1
     ·exact .inr (L.hid b h).2.1
     ·exact .inr (.inl (kX (L.keeps hT.kept).size h))
    ·rcases hlive id bx hl with ⟨rfl,_⟩ | ⟨_,h0⟩
     ·rw [hTf] at hTi;cases hTi
     ·rcases h3 with h | h | h
      ·exact h.1.2 id bx cap h0 hTi
      ·exact nP L hfo hT h0 hTi h
      ·have:=cS hT h0 hTi;omega)
  (fun t=>by
   cases hdst:o.dst with
   | none=>exact (hT.slots t).mono hsize hkeep hJ (fun _ _ h=>h)
   | some d =>
    have hdl:d<a.tmps.size:=by rw [hT.size,L.n,hN];exact (tW hd (av:=hn.av) (by rw [hdst];rfl)).1
    show Rep w' _ T _ (dA st.slot (some (d,hn.av)) t);rw [KP t hdl]
    by_cases ht:t=d
    ·subst ht;rw [if_pos rfl,lB];exact (hres.mono (yI _) (fun _ _ _=>rfl) (fun b hb _=>.inr hb) (fun _ _ h=>h)).bare hpr
    ·rw [if_neg ht,l6 _ _ _ ht];exact (hT.slots t).mono hsize hkeep hJ (fun _ _ h=>h))
  (fun id bx hl=>by
   rcases hlive id bx hl with ⟨rfl,rfl⟩ | ⟨_,h0⟩
   ·exact hTf
   ·exact (hT.boxes id bx h0).mono hsize hkeep hJ (fun _ _ h=>h) (fun b cap hp hlt=>hblk b hlt (nP L hfo hT h0 hp)))
  (fun id h=>by
   rw [hbox] at h
   by_cases e:id=fid
   ·rw [if_pos e] at h;cases h
   ·rw [if_neg e] at h;exact hT.unused id h)
  (fun i j x y b c c' h1 h2 t1 t2=>by
   rcases hlive i x h1 with ⟨rfl,_⟩ | ⟨_,l1⟩
   ·rw [hTf] at t1;cases t1
   ·rcases hlive j y h2 with ⟨rfl,_⟩ | ⟨_,l2⟩
    ·rw [hTf] at t2;cases t2
    ·exact hT.apart i j x y b c c' l1 l2 t1 t2)
  (fun id bx b cap hl t1=>by
   rcases hlive id bx hl with ⟨rfl,_⟩ | ⟨_,l1⟩
   ·rw [hTf] at t1;cases t1
   ·refine ⟨L.mine (hT.mine id bx b cap l1 t1 (by rw [L.foot,hfo];exact wI _)),fun h=>?_⟩;rcases (hHd' b h).2.1 with h2 | h2
    ·exact nP L hfo hT l1 t1 h2
    ·have:=cS hT l1 t1;omega)
  (fun i p hp=>by cases hp)
  (fun b hb=>by
   obtain ⟨h1,h2,_⟩:=hHd' b hb;refine ⟨h1,?_⟩;rcases h2 with h2 | h2
   ·exact (L.hid b h2).2.1
   ·exact .inl (kX (L.keeps hT.kept).size h2))
 have key:∀ id g,(st.upd { rs:=rs,rb:=[(fid,.live (.fam (.hp H pins)))],dst:=o.dst.map fun d=>(d,hn.av),wb:=[(fid,.live (.fam (.hpx hn.hq)))] }).box id=.live (.fam g)->id=fid/\g=.hpx hn.hq:=by
  intro id g hl;rcases hlive id _ hl with ⟨h1,h2⟩ | ⟨h1,h2⟩
  ·injection h2 with h2;exact ⟨h1,h2⟩
  ·exact absurd (F.one id fid g _ h2 hfid) h1
 refine ⟨_,_,o1,⟨fun id id' g g' h1 h2=>(key id g h1).1.trans (key id' g' h2).1.symm,fun id g h=>?_⟩,T,o2⟩;obtain ⟨_,rfl⟩:=key id g h;exact ⟨H',hQ,⟨fun i p e hi=>⟨(hHp'.1 i p e hi).1.mono (yI _) (fun _ _ _=>rfl) (fun b hb _=>o3 b (.inr hb)) (fun _ _ _=>rfl),(hHp'.1 i p e hi).2⟩,hHp'.2⟩⟩
def fop (P:Program) (o:Oper) (rs:List (Nat×AV)) (B:Nat->zR) (h:wA):Option (List Prop×Eff) :=
 match B h.n,o.op with
 | .live (.fam f),.lookup t x y ok =>
  bif xK x&&xK y then
   match YQ P t (y7 rs x) (y7 rs y) ok B f h with
   | some (vc,wb,av,f')=>some (vc,{ rs:=rs,rb:=(h.n,B h.n)::wb.map (fun x=>(x.1,B x.1)),dst:=o.dst.map fun d=>(d,av),wb:=wb++[(h.n,.live (.fam f'))] })
   | none=>none
  else none
 | .live (.fam f),.mapUpdate t x y z =>
  bif (xK x&&(xK y&&xK z))&&o.dst.isNone then
   match BN P t (y7 rs x) (y7 rs y) (y7 rs z) B f h with
   | some (vc,wb,f')=>some (vc,{ rs:=rs,rb:=(h.n,B h.n)::wb.map (fun x=>(x.1,B x.1)),wb:=wb++[(h.n,.live (.fam f'))] })
   | none=>none
  else none
 | .live (.fam f),.call { callee:=.value g,args:=args,argTypes:=_ } =>
  bif xK g&&args.toList.all xK then
   match Y4 P (y7 rs) g args.toList f h with
   | some vc=>some (vc,{ rs:=rs,rb:=[(h.n,.live (.fam f))],dst:=o.dst.map fun d=>(d,h.av),wb:=[(h.n,.live (.fam (.hpx h.hq)))] })
   | none=>none
  else none
 | _,_=>none
def zAU (k:Nat):AV->Option (zY×AV)
 | .rawp p n=>some (p,.own k n)
 | .rawm b=>some (.at b 0,.mp k)
 | _=>none
theorem zO9 {w:World} {I:Nat->Prop} {T T':Tbl} {x:Value} {v av:AV} {k:Nat} {p:zY} (h:zAU k v=some (p,av)) (hT:T k=some p) (hr:Rep w I T' x v):Rep w I T x av:=by
 unfold zAU at h
 split at h
 ·injection h with h;injection h with h1 h2;subst h1;subst h2;exact T4 hT hr
 ·injection h with h;injection h with h1 h2;subst h1;subst h2;cases hr with
  | rawm=>exact .mp hT
 ·cases h
def zE4 (B:Nat->zR) (f k:Nat) (vc:List Prop) (E:Eff):Option (List Prop×Eff) :=
 match B f,E.dst with
 | .live (.fam (.hp H pins)),some (d,v) =>
  match zAU k v with
  | some (p,av)=>some (((k,p)∈pins)::vc,{ E with rb:=(f,.live (.fam (.hp H pins)))::E.rb,dst:=some (d,av) })
  | none=>none
 | _,_=>none
def zFV (B:Nat->zR) (h:wA) (vc:List Prop) (E:Eff):Option (List Prop×Eff) :=
 match h.pk with
 | none=>some (vc,E)
 | some (f,k)=>zE4 B f k vc E
theorem _root_.Go.Oper.wp_mono2 {P:Program} {o:Oper} {a:Act} {w:World} {K K':Act->World->Prop} {Q:Exit->Act->World->Prop} (h:∀ a w,K a w->K' a w)
  (hh:o.wp P a w K (fun _ _ _=>False)):o.wp P a w K' Q:=by
 unfold Oper.wp at *;generalize (execOp a.eval o).run P w=r at *;cases r with
 | ok n w' =>
  cases n<;>simp only [Oper.upon] at hh ⊢ <;>
   first
    | exact h _ _ hh
    | exact Calls.mono hh (fun e w'' he=>by cases e<;>first | exact h _ _ he | exact he.elim | (obtain ⟨_,_,he⟩:=he;exact he.elim))
    | exact Rows.mono hh (fun _ _ he=>h _ _ he)
 | halt x w'=>cases x<;>simp only [Oper.upon] at hh ⊢
def X3 (P:Program) (N np:Nat) (o:Oper) (h:wA) (st:AS):Option (List Prop×Eff) :=
 bif h.x&&h.dep then
  bif Nat.beq np 0&&qF N o.dst then fop P o (aA st (bU o.op)) st.box h else none
 else
  match X5 P N np o h st with
  | some (vc,E)=>bif zB4 E then zFV st.box h vc E else none
  | none=>none
theorem zDW {P:Program} {N np:Nat} {o:Oper} {st:AS} {hn:wA} {r:List Prop×Eff} (h:X3 P N np o hn st=some r) (hv:∀ p∈r.1,p):r.2.holds st/\zNN P N np o r.2:=by
 unfold X3 at h;cases hm:(hn.x&&hn.dep)
 ·rw [hm] at h;simp only [cond_false] at h
  split at h
  case h_2=>cases h
  rename_i vc E hE
  replace h:=xM h;obtain ⟨hnf,h⟩:=h;unfold zFV at h
  split at h
  ·injection h with h;subst h;obtain ⟨k1,k2⟩:=zGg hE hv;refine ⟨k1,fun G st2 a w hN hnp hh hR=>hR.liftOp (RQ hnf st2) fun G' h1 h2 hR'=>?_⟩;exact k2 G' st2 a w (h1.trans hN) (by rw [h2];exact hnp) hh hR'
  ·rename_i f k _
   unfold zE4 at h
   split at h
   case h_2=>cases h
   rename_i H pins d v hB hd
   split at h
   case h_2=>cases h
   rename_i p av hpv
   injection h with h;subst h;obtain ⟨k1,k2⟩:=zGg hE (fun q hq=>hv q (qX _ hq));have hk:(k,p)∈pins:=hv _ (tK ..);refine ⟨⟨k1.1,fun x hx=>?_⟩,fun G st2 a w hN hnp hh hR=>?_⟩
   ·rcases uA.1 hx with rfl | hx
    ·exact hB
    ·exact k1.2 x hx
   ·obtain ⟨G',Hd,L,F,hR'⟩:=hR;have hE2:E.holds st2:=⟨hh.1,fun x hx=>hh.2 x (qX _ hx)⟩;have hfid:st2.box f=.live (.fam (.hp H pins)):=hh.2 (f,_) (tK ..);have hpin:=(F.ok f _ hfid).2 (k,p) hk;refine Oper.wp_mono2 (fun a' w' hR2=>?_) (k2 G' st2 a w (L.n.trans hN) (by rw [L.foot];exact hnp) hE2 hR');obtain ⟨T,hT⟩:=hR2;refine ⟨G',Hd,L,F.less (RQ hnf st2),T,hT.defers,hT.size,fun t=>?_,hT.boxes,hT.unused,hT.apart,hT.mine,hT.foot,hT.kept,hT.pin⟩;have ht:=hT.slots t;simp only [AS.upd] at ht ⊢
    by_cases e:t=d
    ·subst e;rw [hd,lB] at ht;rw [lB];exact zO9 hpv (hT.pin _ _ hpin) ht
    ·rw [hd,l6 _ _ _ e] at ht;rw [l6 _ _ _ e];exact ht
 ·rw [hm] at h;simp only [cond_true] at h;replace h:=xM h;obtain ⟨hc,h⟩:=h;simp only [zba] at hc;have hnp0:=wT.1 hc.1;have hd:=hc.2;have hr:=zAt st (bU o.op);unfold fop at h
  split at h
  ·rename_i f t x y ok hB ho
   replace h:=xM h;obtain ⟨hu,h⟩:=h;simp only [zba] at hu
   split at h
   case h_2=>cases h
   rename_i vc wb av f' hl
   injection h with h;subst h;refine ⟨⟨hr,fun z hz=>?_⟩,fun G st2 a w hN hnp hh hR=>?_⟩
   ·simp only [uA,vB] at hz;rcases hz with rfl | ⟨i,_,rfl⟩<;>rfl
   ·refine zJf (B:=st.box) (fid:=hn.n) (st2:=st2.upd _) ho hu.1 hu.2 hl hv hd (cK (hnp.trans hnp0)) hN hh.1 (fun i hi=>?_) ((hh.2 (hn.n,st.box hn.n) (by simp)).trans hB) ?_ (fun i=>rfl) hR
    ·obtain ⟨x,hx,rfl⟩:=vB.1 hi;exact hh.2 (x.1,st.box x.1) (by simp only [uA,vB];exact .inr ⟨x,hx,rfl⟩)
    ·rfl
  ·rename_i f t x y z hB ho
   replace h:=xM h;obtain ⟨hu,h⟩:=h;simp only [zba,OF] at hu
   split at h
   case h_2=>cases h
   rename_i vc wb f' hl
   injection h with h;subst h;refine ⟨⟨hr,fun z hz=>?_⟩,fun G st2 a w hN hnp hh hR=>?_⟩
   ·simp only [uA,vB] at hz;rcases hz with rfl | ⟨i,_,rfl⟩<;>rfl
   ·refine zIj (B:=st.box) (fid:=hn.n) (st2:=st2.upd _) ho hu.1.1 hu.1.2.1 hu.1.2.2 hl hv hu.2 (cK (hnp.trans hnp0)) hN hh.1 (fun i hi=>?_) ((hh.2 (hn.n,st.box hn.n) (by simp)).trans hB) ?_ (fun i=>rfl) hR
    ·obtain ⟨x,hx,rfl⟩:=vB.1 hi;exact hh.2 (x.1,st.box x.1) (by simp only [uA,vB];exact .inr ⟨x,hx,rfl⟩)
    ·rfl
  ·rename_i f g args ts hB ho
   replace h:=xM h;obtain ⟨hu,h⟩:=h;simp only [zba,tC] at hu
   split at h
   case h_2=>cases h
   rename_i vc hl
   injection h with h;subst h;refine ⟨⟨hr,fun z hz=>?_⟩,fun G st2 a w hN hnp hh hR=>?_⟩
   ·rw [uO.1 hz];exact hB
   ·exact zKr ho hu.1 hu.2 hl hv hd (cK (hnp.trans hnp0)) hN hh.1 (hh.2 (hn.n,.live (.fam f)) (by simp)) hR
  ·cases h
def uX (st:AS):List Eff->AS
 | []=>st
 | E::r=>uX (st.upd E) r
def dX (st:AS):List Eff->Prop
 | []=>True
 | E::r=>E.holds st/\dX (st.upd E) r
def RH (P:Program) (N np:Nat) (ops:Array Oper) (o:Oper) (es:List Eff):Prop :=
 ∀ G st a w,G.n=N->G.foot.length=np->dX st es->vJ G st a w ->
  if Region.wanted o (yielded ops a.tmps)=true then o.wp P a w (fun a' w'=>vJ G (uX st es) a' w') (fun _ _ _=>False) else vJ G (uX st es) (a.put o.dst undef) w
/-! Rows given away ahead of an operation. -/
def oJ:zR->Bool
 | .live (.row ..)=>true
 | _=>false
def ln1:Nat->AV->AV
 | k,.nilsl=>.sl false k []
 | _,.sl _ sz l=>.sl false sz l
 | _,v=>v
def lnL:List Nat->List AV->List AV
 | k::ks,c::cs=>ln1 k c::lnL ks cs
 | _,cs=>cs
def ln (ks:List Nat):AV->AV
 | .agg cs=>.agg (lnL ks cs)
 | .nilsl=>ln1 (ks.headD 0) .nilsl
 | .sl f sz l=>bif ks.isEmpty then .sl f sz l else .sl false sz l
 | v=>v
def JD:List (Nat×List Nat)->Nat->List Nat
 | [],_=>[]
 | (k,l)::r,i=>bif Nat.beq i k then l else JD r i
theorem zIO {k:Nat} {c:AV} (h:c.one=true):(ln1 k c).one=true:=by cases c<;>simp_all [ln1,AV.one]
theorem zJn (ks:List Nat) (cs:List AV):(lnL ks cs).length=cs.length:=by
 induction cs generalizing ks with
 | nil=>cases ks<;>rfl
 | cons c r ih=>cases ks<;>simp [lnL,ih]
theorem zEX {ks:List Nat} {cs:List AV} {j:Nat} {c:AV} (h:(lnL ks cs)[j]?=some c):∃ c0,cs[j]?=some c0/\(c=c0\/∃ k,c=ln1 k c0):=by
 induction cs generalizing ks j with
 | nil=>cases ks<;>simp [lnL] at h
 | cons x r ih =>
  cases ks with
  | nil=>exact ⟨c,h,.inl rfl⟩
  | cons k ks =>
   cases j with
   | zero=>simp [lnL] at h;exact ⟨x,rfl,.inr ⟨k,h.symm⟩⟩
   | succ j=>simp only [lnL,pJ] at h ⊢;exact ih h
theorem ZU {w:World} {I:Nat->Prop} {T:Tbl} {v:Value} {c:AV} {k:Nat} (h:Rep w I T v c):Rep w I T v (ln1 k c):=by
 by_cases hn:c=.nilsl
 ·subst hn;generalize hc:AV.nilsl=c at h;cases h<;>cases hc
  exact .sl0 (by decide) (by intro h;cases h)
 ·by_cases hs:∃ f sz l,c=.sl f sz l
  ·obtain ⟨f,sz,l,rfl⟩:=hs;cases f
   ·exact h
   ·exact zGJ h
  ·have:ln1 k c=c:=by
    cases c<;>first | rfl | exact absurd rfl hn | exact absurd ⟨_,_,_,rfl⟩ hs
   rw [this];exact h
theorem zL9 {w:World} {I:Nat->Prop} {T:Tbl} {v:Value} {c:AV} {ks:List Nat} (h:Rep w I T v c):Rep w I T v (ln ks c):=by
 by_cases ha:∃ cs,c=.agg cs
 ·obtain ⟨cs,rfl⟩:=ha;cases h with
  | agg h1 h2 h3 =>
  refine .agg (by rw [zJn];exact h1) ?_ ?_
  ·intro c hc;obtain ⟨j,hj⟩:=uG.1 hc;obtain ⟨c0,h0,h⟩:=zEX hj
   have:=h2 c0 (yN h0)
   rcases h with rfl | ⟨k,rfl⟩
   ·exact this
   ·exact zIO this
  ·intro j c hj;obtain ⟨c0,h0,h⟩:=zEX hj
   have:=h3 j c0 h0
   rcases h with rfl | ⟨k,rfl⟩
   ·exact this
   ·exact ZU this
 ·by_cases hn:c=.nilsl
  ·subst hn;exact ZU h
  ·by_cases hs:∃ f sz l,c=.sl f sz l
   ·obtain ⟨f,sz,l,rfl⟩:=hs;simp only [ln];cases ks.isEmpty
    ·exact ZU (k:=0) h
    ·exact h
   ·have:ln ks c=c:=by
     cases c<;>first | rfl | exact absurd rfl hn | exact absurd ⟨_,rfl⟩ ha | exact absurd ⟨_,_,_,rfl⟩ hs
    rw [this];exact h
def L0 (N np:Nat) (o:Oper) (h:wA) (st:AS):Option (List Prop×Eff) :=
 let rs:=aA st (bU o.op)
 bif (h.frz.all fun i=>oJ (st.box i)&&Nat.ble np i)&&(rs.all fun x=>rS (frz st.box h.frz x.2)&&Nat.blt x.1 N) then
  some (rs.flatMap (fun x=>oE st.box h.frz x.2),{ rs:=rs,rb:=h.frz.map (fun i=>(i,st.box i)),wb:=h.frz.map (fun i=>(i,.dead)),fz:=rs.map fun x=>(x.1,ln (JD h.lo x.1) (frz st.box h.frz x.2)) })
 else none
theorem zLt {l:List (Nat×AV)} {t:Nat} {d:AV}:bW l t d=d\/∃ v,(t,v)∈l/\bW l t d=v:=by
 induction l with
 | nil=>exact .inl rfl
 | cons x r ih =>
  obtain ⟨k,v⟩:=x;simp only [bW];cases hb:Nat.beq t k
  ·rcases ih with h | ⟨v',h1,h2⟩
   ·exact .inl h
   ·exact .inr ⟨v',by simp [h1],h2⟩
  ·have:=wT.1 hb
   subst this;exact .inr ⟨v,by simp,rfl⟩
theorem zHU {ids:List Nat} {i:Nat} {d:zR}:yJ (ids.map fun i=>(i,zR.dead)) i d=if i∈ids then .dead else d:=by
 induction ids with
 | nil=>simp [yJ]
 | cons x r ih =>
  simp only [uM,yJ]
  by_cases h:i=x
  ·subst h;simp
  ·rw [wV h];simp [ih,h]
theorem zK8 {st:AS} {N np:Nat} {o:Oper} {hn:wA} {r:List Prop×Eff}
  (h:L0 N np o hn st=some r) (hv:∀ p∈r.1,p):r.2.holds st/\∀ G st2,G.foot.length=np->r.2.holds st2->∀ a w,Rel G st2 a w->Rel G (st2.upd r.2) a w:=by
 unfold L0 at h;replace h:=xM h;obtain ⟨hc,h⟩:=h;simp only [zba,tC] at hc;injection h with h;subst h;simp only at hv;refine ⟨⟨zAt st _,fun x hx=>by simp only [vB] at hx;obtain ⟨i,_,rfl⟩:=hx;rfl⟩,?_⟩;rintro G st2 hnp ⟨hs2,hb2⟩ a w ⟨T,hT⟩;have hbx:∀ i∈hn.frz,st2.box i=st.box i:=fun i hi=>hb2 (i,st.box i) (vB.2 ⟨i,hi,rfl⟩)
 have hbox:∀ i,(st2.upd { rs:=aA st (bU o.op),rb:=hn.frz.map (fun i=>(i,st.box i)),wb:=hn.frz.map (fun i=>(i,.dead)),fz:=(aA st (bU o.op)).map fun x=>(x.1,ln (JD hn.lo x.1) (frz st.box hn.frz x.2)) }).box i =
   if i∈hn.frz then .dead else st2.box i:=fun i=>zHU
 have himm:∀ b,imm G st2 T b->imm G (st2.upd { rs:=aA st (bU o.op),rb:=hn.frz.map (fun i=>(i,st.box i)),wb:=hn.frz.map (fun i=>(i,.dead)),fz:=(aA st (bU o.op)).map fun x=>(x.1,ln (JD hn.lo x.1) (frz st.box hn.frz x.2)) }) T b:=by
  intro b hb;refine ⟨hb.1,fun id bx cap hl hTi=>?_⟩;rw [hbox] at hl
  by_cases hi:id∈hn.frz
  ·rw [if_pos hi] at hl;cases hl
  ·rw [if_neg hi] at hl;exact hb.2 id bx cap hl hTi
 have hid:∀ id b cap,id∈hn.frz->T id=some (.at b cap)->imm G (st2.upd { rs:=aA st (bU o.op),rb:=hn.frz.map (fun i=>(i,st.box i)),wb:=hn.frz.map (fun i=>(i,.dead)),fz:=(aA st (bU o.op)).map fun x=>(x.1,ln (JD hn.lo x.1) (frz st.box hn.frz x.2)) }) T b:=by
  intro id b cap hi hTi;have hlive:∃ bx,st2.box id=.live bx:=by
   have:=(hc.1 id hi).1
   rw [hbx id hi];cases hb:st.box id<;>rw [hb] at this<;>simp [oJ] at this
   exact ⟨_,rfl⟩
  obtain ⟨bx,hl⟩:=hlive;refine ⟨.inr (hT.mine id bx b cap hl hTi (by have:=B4 (hc.1 id hi).2;omega)),fun id' bx' cap' hl' hT'=>?_⟩;rw [hbox] at hl'
  by_cases hi':id'∈hn.frz
  ·rw [if_pos hi'] at hl';cases hl'
  ·rw [if_neg hi'] at hl'
   have:=hT.apart id id' bx bx' b cap cap' hl hl' hTi hT'
   exact hi' (this ▸ hi)
 refine ⟨T,hT.defers,hT.size,?_,?_,?_,?_,?_,hT.foot,hT.kept,hT.pin⟩
 ·intro t;simp only [AS.upd,dA];rcases zLt (l:=(aA st (bU o.op)).map fun x=>(x.1,ln (JD hn.lo x.1) (frz st.box hn.frz x.2))) (t:=t) (d:=st2.slot t) with h | ⟨v,h1,h2⟩
  ·rw [h];exact (hT.slots t).mono (yI _) (fun _ _ _=>rfl) (fun b hb _=>himm b hb) (fun _ _ h=>h)
  ·rw [h2];simp only [vB,kU] at h1;obtain ⟨x,hx,rfl,rfl⟩:=h1;have hsl:=hs2 x hx;have hrep:=hT.slots x.1;rw [hsl] at hrep;exact zL9 (ZT hT hbx himm hid hrep (fun p hp=>hv p (aB.2 ⟨x,hx,hp⟩)) (hc.2 x hx).1)
 ·intro id bx hl;rw [hbox] at hl
  by_cases hi:id∈hn.frz
  ·rw [if_pos hi] at hl;cases hl
  ·rw [if_neg hi] at hl;exact (hT.boxes id bx hl).mono (yI _) (fun _ _ _=>rfl) (fun b hb _=>himm b hb) (fun _ _ h=>h) (fun _ _ _ _=>rfl)
 ·intro id hl;rw [hbox] at hl
  by_cases hi:id∈hn.frz
  ·rw [if_pos hi] at hl;cases hl
  ·rw [if_neg hi] at hl;exact hT.unused id hl
 ·intro i1 i2 b1 b2 b c1 c2 h1 h2;rw [hbox] at h1 h2
  by_cases k1:i1∈hn.frz
  ·rw [if_pos k1] at h1;cases h1
  ·by_cases k2:i2∈hn.frz
   ·rw [if_pos k2] at h2;cases h2
   ·rw [if_neg k1] at h1;rw [if_neg k2] at h2;exact hT.apart i1 i2 b1 b2 b c1 c2 h1 h2
 ·intro id bx b cap hl;rw [hbox] at hl
  by_cases hi:id∈hn.frz
  ·rw [if_pos hi] at hl;cases hl
  ·rw [if_neg hi] at hl;exact hT.mine id bx b cap hl
theorem zIx {st:AS} {N np:Nat} {o:Oper} {hn:wA} {r:List Prop×Eff}
  (h:L0 N np o hn st=some r) (hv:∀ p∈r.1,p):r.2.holds st/\∀ G st2,G.foot.length=np->r.2.holds st2->∀ a w,vJ G st2 a w->vJ G (st2.upd r.2) a w:=by
 obtain ⟨k1,k2⟩:=zK8 h hv;refine ⟨k1,fun G st2 hnp hh a w hR=>hR.lift (RQ ?_ st2) fun G' _ h2 hR'=>k2 G' st2 (by rw [h2];exact hnp) hh a w hR'⟩;unfold L0 at h;replace h:=xM h;obtain ⟨_,h⟩:=h;injection h with h;subst h;simp only [zB4,List.all_map,tC];intro i _;rfl
def VZ (P:Program) (N np:Nat) (o:Oper) (h:wA) (st:AS):Option (List Prop×List Eff) :=
 bif bZ h.frz&&bZ h.lo then
  match X3 P N np o h st with
  | some (vc,E)=>some (vc,[E])
  | none=>none
 else
  match L0 N np o h st with
  | some (vc0,E0) =>
   match X3 P N np o h (st.upd E0) with
   | some (vc,E)=>some (vc0++vc,[E0,E])
   | none=>none
  | none=>none
def zBx (P:Program) (N np:Nat) (ops:Array Oper) (o:Oper) (h:wA) (st:AS):Option (List Prop×List Eff) :=
 match o.guard with
 | none=>VZ P N np o h st
 | some (j,want) =>
  match (ops[j]?).bind (·.dst) with
  | none=>none
  | some d =>
   match st.slot d with
   | .bool b =>
    bif h.g then
     match VZ P N np o h st with
     | some (vc,es)=>some ((b=want)::vc,{ rs:=[(d,.bool b)] }::es)
     | none=>none
    else bif qF N o.dst then some ([b=!want],[{ rs:=[(d,.bool b)],dst:=o.dst.map fun d=>(d,.tuple []) }]) else none
   | .tuple []=>bif qF N o.dst then some ([],[{ rs:=[(d,.tuple [])],dst:=o.dst.map fun d=>(d,.tuple []) }]) else none
   | _=>none
theorem zCi {P:Program} {N np:Nat} {o:Oper} {st:AS} {hn:wA} {r:List Prop×List Eff} (h:VZ P N np o hn st=some r) (hv:∀ p∈r.1,p) :
  dX st r.2/\∀ G st2 a w,G.n=N->G.foot.length=np->dX st2 r.2->vJ G st2 a w->o.wp P a w (fun a' w'=>vJ G (uX st2 r.2) a' w') (fun _ _ _=>False):=by
 unfold VZ at h;cases hf:bZ hn.frz&&bZ hn.lo
 ·rw [hf] at h;simp only [cond_false] at h
  split at h
  ·rename_i vc0 E0 hE0
   split at h
   ·rename_i vc E hE
    injection h with h;subst h;obtain ⟨k1,k2⟩:=zIx hE0 (fun p hp=>hv p (by simp [hp]));obtain ⟨k3,k4⟩:=zDW hE (fun p hp=>hv p (by simp [hp]));refine ⟨⟨k1,k3,trivial⟩,fun G st2 a w hN hnp hh hRR=>?_⟩;obtain ⟨hh1,hh2,_⟩:=hh;exact k4 G _ a w hN hnp hh2 (k2 G st2 hnp hh1 a w hRR)
   ·cases h
  ·cases h
 ·rw [hf] at h;simp only [cond_true] at h
  split at h
  ·rename_i vc E hE
   injection h with h;subst h;obtain ⟨k3,k4⟩:=zDW hE hv;exact ⟨⟨k3,trivial⟩,fun G st2 a w hN hnp hh hRR=>k4 G st2 a w hN hnp hh.1 hRR⟩
  ·cases h
theorem zGa {G:wQ} {st:AS} {a:Act} {w:World} {ops:Array Oper} {j d:Nat} {b:Bool} (hR:Rel G st a w) (hd:(ops[j]?).bind (·.dst)=some d) (hs:st.slot d=.bool b) :
  yielded ops a.tmps j=some b:=by
 obtain ⟨T,hT⟩:=hR;have hr:=hT.slots d;rw [hs] at hr;generalize hv:a.tmps.getD d undef=v at hr;cases hr with
 | bool =>
 have:a.tmps[d]?=some (.bool b):=by
  rw [bG] at hv;cases hd:a.tmps[d]? with
  | none=>rw [hd] at hv;simp [undef] at hv
  | some x=>rw [hd] at hv;simp at hv;rw [hv]
 simp [yielded,hd,this]
theorem zKX {G:wQ} {st:AS} {a:Act} {w:World} {ops:Array Oper} {j d:Nat} (hR:Rel G st a w) (hd:(ops[j]?).bind (·.dst)=some d) (hs:st.slot d=.tuple []) :
  yielded ops a.tmps j=none:=by
 obtain ⟨T,hT⟩:=hR;have hr:=hT.slots d;rw [hs] at hr;generalize hv:a.tmps.getD d undef=v at hr;cases hr with
 | tuple h1 h2 =>
 rw [bG] at hv;cases hd':a.tmps[d]? with
 | none=>simp [yielded,hd,hd']
 | some x=>rw [hd'] at hv;simp at hv;subst hv;simp [yielded,hd,hd']
theorem zF8 {w:World} {I:Nat->Prop} {T:Tbl}:Rep w I T undef (.tuple []):=by
 refine .tuple (by rfl) ?_;intro j c h;simp at h
theorem zOF {P:Program} {N np:Nat} {ops:Array Oper} {o:Oper} {st:AS} {hn:wA} {r:List Prop×List Eff} (h:zBx P N np ops o hn st=some r) (hv:∀ p∈r.1,p) :
  dX st r.2/\RH P N np ops o r.2:=by
 unfold zBx at h
 split at h
 ·rename_i hg
  obtain ⟨k1,k2⟩:=zCi h hv;refine ⟨k1,fun G st2 a w hN hnp hh hRR=>?_⟩;rw [if_pos (by simp [Region.wanted,hg])];exact k2 G st2 a w hN hnp hh hRR
 ·rename_i j want hg
  split at h
  ·cases h
  rename_i d hd
  split at h
  ·rename_i b hb
   cases hgg:hn.g
   ·rw [hgg] at h;simp only [cond_false] at h;replace h:=xM h;obtain ⟨hdst,h⟩:=h;injection h with h;subst h;have hbw:b=!want:=hv _ (by simp);refine ⟨⟨⟨fun x hx=>by simp at hx;subst hx;exact hb,fun x hx=>by simp at hx⟩,trivial⟩,fun G st2 a w hN hnp hh hRR=>?_⟩;have hs2:st2.slot d=.bool b:=hh.1.1 (d,.bool b) (by simp);have hy:=zGa hRR.out hd hs2;rw [if_neg (by simp [Region.wanted,hg,hy,hbw])];refine hRR.lift (RQ (by rfl) st2) fun G' h1 h2 hR'=>?_
    obtain ⟨T,hT⟩:=hR';refine hT.quiet (nC w) rfl (by simp [tY]) ?_;intro d' av he;obtain ⟨hlt,rfl⟩:=tW hdst he;exact ⟨by omega,zF8⟩
   ·rw [hgg] at h;simp only [cond_true] at h
    split at h
    ·rename_i vc es hc
     injection h with h;subst h;have hbw:b=want:=hv _ (by simp);obtain ⟨k1,k2⟩:=zCi hc (fun p hp=>hv p (by simp [hp]));refine ⟨⟨⟨fun x hx=>by simp at hx;subst hx;exact hb,fun x hx=>by simp at hx⟩,k1⟩,fun G st2 a w hN hnp hh hRR=>?_⟩;have hs2:st2.slot d=.bool b:=hh.1.1 (d,.bool b) (by simp);have hy:=zGa hRR.out hd hs2;rw [if_pos (by simp [Region.wanted,hg,hy,hbw])];exact k2 G st2 a w hN hnp hh.2 hRR
    ·cases h
  ·rename_i hb
   replace h:=xM h;obtain ⟨hdst,h⟩:=h;injection h with h;subst h;refine ⟨⟨⟨fun x hx=>by simp at hx;subst hx;exact hb,fun x hx=>by simp at hx⟩,trivial⟩,fun G st2 a w hN hnp hh hRR=>?_⟩;have hs2:st2.slot d=.tuple []:=hh.1.1 (d,.tuple []) (by simp);have hy:=zKX hRR.out hd hs2;rw [if_neg (by simp [Region.wanted,hg,hy])];refine hRR.lift (RQ (by rfl) st2) fun G' h1 h2 hR'=>?_
   obtain ⟨T,hT⟩:=hR';refine hT.quiet (nC w) rfl (by simp [tY]) ?_;intro d' av he;obtain ⟨hlt,rfl⟩:=tW hdst he;exact ⟨by omega,zF8⟩
  ·cases h
def zDa:List (Nat×wA)->Nat->wA
 | [],_=>{}
 | (k,h)::r,i=>bif Nat.beq i k then h else zDa r i
def HW (P:Program) (N np:Nat) (all:Array Oper) (hs:List (Nat×wA)):List Oper->Nat->AS->Option (List Prop×AS×List (List Eff))
 | [],_,st=>some ([],st,[])
 | o::r,i,st =>
  match zBx P N np all o (zDa hs i) st with
  | none=>none
  | some (vc,es) =>
   match HW P N np all hs r (i+1) (uX st es) with
   | none=>none
   | some (vcs,st',ess)=>some (vc++vcs,st',es::ess)
def gV:List (List Eff)->AS->AS->Prop
 | [],st,st'=>st=st'
 | es::r,st,st'=>dX st es/\gV r (uX st es) st'
theorem zFx {P:Program} {N np:Nat} {all:Array Oper} {hs:List (Nat×wA)}:∀ (l:List Oper) (i:Nat) (st:AS) (r:List Prop×AS×List (List Eff)),
  HW P N np all hs l i st=some r->(∀ p∈r.1,p)->gV r.2.2 st r.2.1/\r.2.2.length=l.length/\∀ (j:Nat) (o:Oper) (es:List Eff),l[j]?=some o->r.2.2[j]?=some es->RH P N np all o es:=by
 intro l
 induction l with
 | nil=>intro i st r h _;simp [HW] at h;subst h;exact ⟨rfl,rfl,fun j o es hj=>by simp at hj⟩
 | cons o rest ih =>
  intro i st r h hv;simp only [HW] at h
  split at h
  ·cases h
  rename_i vc es hs1
  split at h
  ·cases h
  rename_i vcs st' ess hs2
  injection h with h;subst h;obtain ⟨k1,k2⟩:=zOF hs1 (fun p hp=>hv p (by simp [hp]));obtain ⟨k3,k4,k5⟩:=ih _ _ _ hs2 (fun p hp=>hv p (by simp [hp]));refine ⟨⟨k1,k3⟩,by simpa using k4,?_⟩;intro j o' es' hj hj';cases j with
  | zero=>simp at hj hj';subst hj;subst hj';exact k2
  | succ j=>exact k5 j o' es' (by simpa using hj) (by simpa using hj')
theorem zIW {P:Program} {N np:Nat} {all:Array Oper} {G:wQ} {Q:Exit->Act->World->Prop} (hN:G.n=N) (hnp:G.foot.length=np):∀ (l:List Oper) (ess:List (List Eff)) (st st':AS) (a:Act) (w:World),
  gV ess st st'->ess.length=l.length->(∀ (j:Nat) (o:Oper) (es:List Eff),l[j]?=some o->ess[j]?=some es->RH P N np all o es)->vJ G st a w ->
  (∀ a w,vJ G st' a w->Q .normal a w)->wpList P all Q l a w:=by
 intro l
 induction l with
 | nil =>
  intro ess st st' a w hc hl _ hR hQ;cases ess with
  | nil=>simp only [gV] at hc;subst hc;exact hQ a w hR
  | cons _ _=>simp at hl
 | cons o rest ih =>
  intro ess st st' a w hc hl hloc hR hQ;cases ess with
  | nil=>simp at hl
  | cons es r =>
   obtain ⟨hh,hc⟩:=hc;have hL:=hloc 0 o es (by simp) (by simp) G st a w hN hnp hh hR;refine wpList_step fun K hK=>?_
   have hnext:∀ a w,vJ G (uX st es) a w->K a w:=fun a w hR2=>hK a w (ih r (uX st es) st' a w hc (by simpa using hl) (fun j o' es' hj hj'=>hloc (j+1) o' es' (by simpa using hj) (by simpa using hj')) hR2 hQ)
   split
   ·rename_i hw
    rw [if_pos hw] at hL;exact Oper.wp_mono2 hnext hL
   ·rename_i hw
    rw [if_neg hw] at hL;exact hnext _ _ hL
def H4 (es:List Eff):List Nat:=es.flatMap fun E=>E.rs.map (·.1)
def cA (es:List Eff):List Nat:=es.flatMap fun E=>(E.dst.map (·.1)).toList++E.fz.map (·.1)
def LR (es:List Eff):List Nat:=es.flatMap fun E=>E.rb.map (·.1)
def nQ (es:List Eff):List Nat:=es.flatMap fun E=>E.wb.map (·.1)
def rZ (a b:List Nat):Bool:=a.any fun x=>b.any (Nat.beq x)
def zA1 (es fs:List Eff):Bool :=
 (rZ (cA es) (H4 fs)||rZ (cA es) (cA fs))||(rZ (H4 es) (cA fs) ||
  ((rZ (nQ es) (LR fs)||rZ (nQ es) (nQ fs))||rZ (LR es) (nQ fs)))
structure EA (es fs:List Eff):Prop where
 ws_rs:∀ t∈cA es,t∉H4 fs
 ws_ws:∀ t∈cA es,t∉cA fs
 rs_ws:∀ t∈H4 es,t∉cA fs
 wb_rb:∀ t∈nQ es,t∉LR fs
 wb_wb:∀ t∈nQ es,t∉nQ fs
 rb_wb:∀ t∈LR es,t∉nQ fs
theorem JP {a b:List Nat} (h:rZ a b=false):∀ t∈a,t∉b:=by
 intro t ht hb
 have:rZ a b=true:=by
  simp only [rZ,List.any_eq_true];exact ⟨t,ht,t,hb,pX t⟩
 rw [h] at this;cases this
theorem zM9 {es fs:List Eff} (h:zA1 es fs=false):EA es fs:=by
 simp only [zA1,L8] at h;obtain ⟨⟨h1,h2⟩,h3,⟨h4,h5⟩,h6⟩:=h;exact ⟨JP h1,JP h2,JP h3,JP h4,JP h5,JP h6⟩
theorem zHs {l:List (Nat×AV)} {t:Nat} {d:AV} (h:t∉l.map (·.1)):bW l t d=d:=by
 induction l with
 | nil=>rfl
 | cons x r ih =>
  obtain ⟨k,v⟩:=x;simp only [uM,uA,not_or] at h;simp only [bW,wV h.1,cond_false];exact ih h.2
theorem XO {l:List (Nat×zR)} {t:Nat} {d:zR} (h:t∉l.map (·.1)):yJ l t d=d:=by
 induction l with
 | nil=>rfl
 | cons x r ih =>
  obtain ⟨k,v⟩:=x;simp only [uM,uA,not_or] at h;simp only [yJ,wV h.1,cond_false];exact ih h.2
theorem zCG {l:List (Nat×AV)} {t:Nat} (h:t∈l.map (·.1)) (d d':AV):bW l t d=bW l t d':=by
 induction l with
 | nil=>simp at h
 | cons x r ih =>
  obtain ⟨k,v⟩:=x;simp only [bW];cases hb:Nat.beq t k
  ·simp only [cond_false];simp only [uM,uA] at h;rcases h with h | h
   ·rw [h] at hb;simp at hb
   ·exact ih h
  ·rfl
theorem zNf {l:List (Nat×zR)} {t:Nat} (h:t∈l.map (·.1)) (d d':zR):yJ l t d=yJ l t d':=by
 induction l with
 | nil=>simp at h
 | cons x r ih =>
  obtain ⟨k,v⟩:=x;simp only [yJ];cases hb:Nat.beq t k
  ·simp only [cond_false];simp only [uM,uA] at h;rcases h with h | h
   ·rw [h] at hb;simp at hb
   ·exact ih h
  ·rfl
theorem rP {es:List Eff} {st:AS} {t:Nat} (h:t∉cA es):(uX st es).slot t=st.slot t:=by
 induction es generalizing st with
 | nil=>rfl
 | cons E r ih =>
  simp only [cA,bC,wL,not_or] at h;simp only [uX];rw [ih h.2];simp only [AS.upd];have h2:=zHs (d:=st.slot t) h.1.2;cases hE:E.dst with
  | none=>simp only [dA];exact h2
  | some x =>
   obtain ⟨d,av⟩:=x;rw [l6 _ _ _ (by have:=h.1.1;rw [hE] at this;simpa using this)];exact h2
theorem zDL {es:List Eff} {st st':AS} {t:Nat} (h:t∈cA es):(uX st es).slot t=(uX st' es).slot t:=by
 induction es generalizing st st' with
 | nil=>simp [cA] at h
 | cons E r ih =>
  simp only [uX]
  by_cases hr:t∈cA r
  ·exact ih hr
  ·rw [rP hr,rP hr];simp only [cA,bC,wL] at h;rcases h with (h | h) | h
   ·cases hE:E.dst with
    | none=>rw [hE] at h;simp at h
    | some x =>
     obtain ⟨d,av⟩:=x;rw [hE] at h;simp at h;subst h;simp only [AS.upd,hE,lB]
   ·cases hE:E.dst with
    | none=>simp only [AS.upd,hE,dA];exact zCG h _ _
    | some x =>
     obtain ⟨d,av⟩:=x;simp only [AS.upd,hE]
     by_cases hd:t=d
     ·subst hd;rw [lB,lB]
     ·rw [l6 _ _ _ hd,l6 _ _ _ hd];exact zCG h _ _
   ·exact absurd h hr
theorem mT {es:List Eff} {st:AS} {t:Nat} (h:t∉nQ es):(uX st es).box t=st.box t:=by
 induction es generalizing st with
 | nil=>rfl
 | cons E r ih =>
  simp only [nQ,bC,wL,not_or] at h;simp only [uX];rw [ih h.2];exact XO h.1
theorem zEN {es:List Eff} {st st':AS} {t:Nat} (h:t∈nQ es):(uX st es).box t=(uX st' es).box t:=by
 induction es generalizing st st' with
 | nil=>simp [nQ] at h
 | cons E r ih =>
  simp only [uX]
  by_cases hr:t∈nQ r
  ·exact ih hr
  ·rw [mT hr,mT hr];simp only [nQ,bC,wL] at h;rcases h with h | h
   ·exact zNf h _ _
   ·exact absurd h hr
theorem zGB {es fs:List Eff} (h:EA es fs) (st:AS):uX (uX st es) fs=uX (uX st fs) es:=by
 have hs:(uX (uX st es) fs).slot=(uX (uX st fs) es).slot:=by
  funext t
  by_cases h1:t∈cA es
  ·have h2:=h.ws_ws t h1;rw [rP h2];exact zDL h1
  ·rw [rP h1]
   by_cases h2:t∈cA fs
   ·exact zDL h2
   ·rw [rP h2,rP h2,rP h1]
 have hb:(uX (uX st es) fs).box=(uX (uX st fs) es).box:=by
  funext t
  by_cases h1:t∈nQ es
  ·have h2:=h.wb_wb t h1;rw [mT h2];exact zEN h1
  ·rw [mT h1]
   by_cases h2:t∈nQ fs
   ·exact zEN h2
   ·rw [mT h2,mT h2,mT h1]
 cases hx:uX (uX st es) fs with
 | mk s b =>
  cases hy:uX (uX st fs) es with
  | mk s' b' =>
   rw [hx,hy] at hs hb;simp only at hs hb;rw [hs,hb]
theorem zE5 {es:List Eff} {st st':AS} (hs:∀ t∈H4 es,st'.slot t=st.slot t) (hb:∀ t∈LR es,st'.box t=st.box t) (h:dX st es):dX st' es:=by
 induction es generalizing st st' with
 | nil=>trivial
 | cons E r ih =>
  obtain ⟨⟨h1,h2⟩,h3⟩:=h;simp only [H4,LR,bC,wL] at hs hb;refine ⟨⟨fun x hx=>?_,fun x hx=>?_⟩,ih (fun t ht=>?_) (fun t ht=>?_) h3⟩
  ·rw [hs x.1 (.inl (vB.2 ⟨x,hx,rfl⟩))];exact h1 x hx
  ·rw [hb x.1 (.inl (vB.2 ⟨x,hx,rfl⟩))];exact h2 x hx
  ·have e:=hs t (.inr ht);have l1:bW E.fz t (st'.slot t)=bW E.fz t (st.slot t):=by rw [e]
   simp only [AS.upd];cases hE:E.dst with
   | none=>simp only [dA];exact l1
   | some x =>
    obtain ⟨d,av⟩:=x
    by_cases hd:t=d
    ·subst hd;rw [lB,lB]
    ·rw [l6 _ _ _ hd,l6 _ _ _ hd];exact l1
  ·have e:=hb t (.inr ht);show yJ E.wb t (st'.box t)=yJ E.wb t (st.box t);rw [e]
theorem zM7 {es fs:List Eff} (h:EA es fs) {st:AS} (hf:dX (uX st es) fs):dX st fs :=
 zE5 (fun t ht=>(rP (fun hw=>h.ws_rs t hw ht)).symm) (fun t ht=>(mT (fun hw=>h.wb_rb t hw ht)).symm) hf
theorem zJk {es fs:List Eff} (h:EA es fs) {st:AS} (he:dX st es):dX (uX st fs) es :=
 zE5 (fun t ht=>rP (fun hw=>h.rs_ws t ht hw)) (fun t ht=>mT (fun hw=>h.rb_wb t ht hw)) he
theorem zJz {es:List Eff}:∀ (A B:List (List Eff)) (st st':AS),gV (A++es::B) st st'->(∀ x∈A,EA x es)->dX st es/\gV (A++B) (uX st es) st':=by
 intro A
 induction A with
 | nil=>intro B st st' h _;exact h
 | cons x r ih =>
  intro B st st' h hi;obtain ⟨h1,h2⟩:=h;obtain ⟨k1,k2⟩:=ih B _ _ h2 (fun y hy=>hi y (by simp [hy]));have hix:=hi x (by simp);refine ⟨zM7 hix k1,zJk hix h1,?_⟩;rw [<- zGB hix];exact k2
/-! Which operations stand ahead of which. -/
def dM (o:Oper):List Nat:=(o.after.toList.filter (Region.binds .any)).map (·.on)
inductive Dep (ops:Array Oper):Nat->Nat->Prop
 | one {i j o}:ops[j]?=some o->i∈dM o->Dep ops i j
 | more {i k j o}:ops[j]?=some o->k∈dM o->Dep ops i k->Dep ops i j
def zDJ (acc:List Nat) (ds:List Nat):Nat:=ds.foldl (fun m e=>m ||| (2 ^ e ||| acc.getD e 0)) 0
def OV:List (List Nat)->List Nat->List Nat
 | [],acc=>acc
 | ds::r,acc=>OV r (acc++[zDJ acc ds])
theorem zIN (acc:List Nat) (i:Nat):∀ (ds:List Nat) (m:Nat),(ds.foldl (fun m e=>m ||| (2 ^ e ||| acc.getD e 0)) m).testBit i=true->m.testBit i=true\/∃ e∈ds,e=i\/(acc.getD e 0).testBit i=true:=by
 intro ds
 induction ds with
 | nil=>intro m h;exact .inl h
 | cons e r ih =>
  intro m h;simp only [aF] at h;rcases ih _ h with h | ⟨e',he',h⟩
  ·simp only [Nat.testBit_or,rJ] at h;rcases h with h | h | h
   ·exact .inl h
   ·rw [Nat.testBit_two_pow] at h;exact .inr ⟨e,by simp,.inl (by simpa using h)⟩
   ·exact .inr ⟨e,by simp,.inr h⟩
  ·exact .inr ⟨e',by simp [he'],h⟩
theorem zMG {ops:Array Oper}:∀ (l:List (List Nat)) (acc:List Nat),(∀ (k:Nat) (ds:List Nat),l[k]?=some ds->∃ o,ops[acc.length+k]?=some o/\dM o=ds) ->
  (∀ j,j<acc.length->∀ i,(acc.getD j 0).testBit i=true->Dep ops i j)->∀ j i,((OV l acc).getD j 0).testBit i=true->Dep ops i j:=by
 intro l
 induction l with
 | nil =>
  intro acc _ h j i hb;rcases zlg j acc.length with hj | hj
  ·exact h j hj i hb
  ·simp [OV,List.getD,vH hj] at hb
 | cons ds r ih =>
  intro acc hl h j i hb;simp only [OV] at hb;refine ih (acc++[zDJ acc ds]) ?_ ?_ j i hb
  ·intro k ds' hk;obtain ⟨o,h1,h2⟩:=hl (k+1) ds' (by simpa using hk);exact ⟨o,by rw [<- h1];simp only [zla,zls];congr 1;omega,h2⟩
  ·intro j' hj' i' hb';rw [zla,zls] at hj';rcases zlg j' acc.length with hlt | hge
   ·rw [vQ,uH hlt,<- vQ] at hb';exact h j' hlt i' hb'
   ·have:j'=acc.length:=by omega
    subst this;rw [vQ,u4 (yI _)] at hb';simp only [GS,jY,jE] at hb';obtain ⟨o,h1,h2⟩:=hl 0 ds (by simp);simp only [A2] at h1;rcases zIN acc i' ds 0 hb' with h0 | ⟨e,he,h0⟩
    ·simp at h0
    ·rcases h0 with rfl | h0
     ·exact .one h1 (by rw [h2];exact he)
     ·refine .more (k:=e) h1 (by rw [h2];exact he) ?_;rcases zlg e acc.length with hlt | hge'
      ·exact h e hlt i' h0
      ·simp [List.getD,vH hge'] at h0
def VT (ops:List Oper) (ess:List (List Eff)):Bool :=
 let ms:=OV (ops.map dM) []
 (ops.zipIdx.all fun (o,j)=>(dM o).all fun e=>Nat.blt e j) &&
 ess.zipIdx.all fun (fs,j)=>(ess.take j).zipIdx.all fun (es,i)=>!(zA1 es fs)||(ms.getD j 0).testBit i
theorem zEp {ops:Array Oper} {listed:Array Bool} {j:Nat} (h:j∈Region.ready .any ops listed) :
  j<ops.size/\listed.getD j true=false/\∀ o,ops[j]?=some o->∀ e∈dM o,listed.getD e false=true:=by
 simp only [Region.ready,mG,dD,zba,pH] at h;refine ⟨h.1,h.2.1,fun o ho e he=>?_⟩;have h3:=h.2.2;rw [ho] at h3;simp only [kH,jE] at h3;rw [<- Array.all_toList] at h3;simp only [tC] at h3;simp only [dM,vB,mG] at he;obtain ⟨x,⟨hx,hb⟩,rfl⟩:=he
 have:=h3 x hx
 simpa [hb] using this
def nZ (n:Nat) (listed:Array Bool):List Nat:=(List.range n).filter fun i=>!(listed.getD i true)
theorem zHO {n i:Nat} {listed:Array Bool} (hi:i<n) (hs:listed.size=n) (hl:listed.getD i true=false) :
  ∃ A B,nZ n listed=A++i::B/\(∀ x∈A,x<i/\listed.getD x true=false)/\nZ n (listed.setIfInBounds i true)=A++B:=by
 have hr:List.range n=List.range i++i::(List.range' (i+1) (n - i - 1)):=by
  rw [List.range_eq_range',List.range_eq_range']
  have:n=i+(1+(n - i - 1)):=by omega
  conv=>lhs;rw [this]
  rw [<- List.range'_append,<- List.range'_append];simp
 refine ⟨(List.range i).filter fun x=>!(listed.getD x true),(List.range' (i+1) (n - i - 1)).filter fun x=>!(listed.getD x true),?_,?_,?_⟩
 ·simp only [nZ,hr,List.filter_append,L6,hl];simp
 ·intro x hx;simp only [mG,dD,pH] at hx;exact hx
 ·have hset:∀ x,x≠i->(listed.setIfInBounds i true).getD x true=listed.getD x true:=by
   intro x hx;simp only [bG,QN];rw [if_neg (fun e=>hx e.symm)]
  have hself:(listed.setIfInBounds i true).getD i true=true:=by
   simp [hs,hi]
  simp only [nZ,hr,List.filter_append,L6,hself];simp only [cO,SW,if_false]
  congr 1
  ·apply List.filter_congr;intro x hx;rw [hset x (by have:=dD.1 hx;omega)]
  ·apply List.filter_congr;intro x hx;rw [hset x (by have:=List.mem_range'_1.1 hx;omega)]
theorem zIG {P:Program} {ops:Array Oper} {Q:Exit->Act->World->Prop} {i:Nat} {o:Oper} {K:Act->World->Prop} {a:Act} {w:World} (ho:ops[i]?=some o)
  (h:if Region.wanted o (yielded ops a.tmps)=true then o.wp P a w K Q else K (a.put o.dst undef) w):wpOp P ops Q i K a w:=by
 unfold wpOp;rw [ho];simp only
 split
 ·rename_i hw;rw [if_pos hw] at h;exact .inl h
 ·rename_i hw;rw [if_neg hw] at h;exact h
theorem zJX {P:Program} {N np:Nat} {ops:Array Oper} {G:wQ} {Q:Exit->Act->World->Prop} {ess:List (List Eff)} (hN:G.n=N) (hnp:G.foot.length=np) (hlen:ess.length=ops.size)
  (hloc:∀ (j:Nat) (o:Oper) (es:List Eff),ops[j]?=some o->ess[j]?=some es->RH P N np ops o es)
  (hord:∀ (i j:Nat) (es fs:List Eff),i<j->ess[i]?=some es->ess[j]?=some fs->EA es fs\/Dep ops i j)
  (hback:∀ (j:Nat) (o:Oper),ops[j]?=some o->∀ e∈dM o,e<j) {st':AS} (hQ:∀ a w,vJ G st' a w->Q .normal a w) :
  ∀ (fuel:Nat) (listed:Array Bool) (st:AS) (a:Act) (w:World),listed.size=ops.size->(nZ ops.size listed).length=fuel ->
   (∀ j o,ops[j]?=some o->listed.getD j true=true->∀ e∈dM o,listed.getD e false=true) ->
   gV ((nZ ops.size listed).map fun i=>ess.getD i []) st st'->vJ G st a w->wpAny P .any ops Q fuel listed a w:=by
 -- an operation that is ready has behind it all that it hangs on
 have closed:∀ {listed:Array Bool} {j:Nat},listed.size=ops.size->(∀ j o,ops[j]?=some o->listed.getD j true=true->∀ e∈dM o,listed.getD e false=true) ->
   (∀ o,ops[j]?=some o->∀ e∈dM o,listed.getD e false=true)->∀ i,Dep ops i j->listed.getD i false=true:=by
  intro listed j hs hcl hj i hd
  induction hd with
  | one ho hi=>exact hj _ ho _ hi
  | more ho hk _ ih =>
   refine ih fun o ho' e he=>?_
   have hkl:=hj _ ho _ hk;refine hcl _ o ho' ?_ e he
   rename_i k _ _ _
   have:k<listed.size:=by
    rcases zlg k listed.size with h' | h'
    ·exact h'
    ·simp [fJ h'] at hkl
   simp only [bG,SL this,jE] at hkl ⊢;exact hkl
 have tf:∀ {listed:Array Bool} {j:Nat},listed.getD j false=true->listed.getD j true=true:=by
  intro listed j h;cases hx:listed[j]? with
  | none=>simp [hx] at h
  | some b=>simp [hx] at h ⊢;exact h
 have rem_mem:∀ {listed:Array Bool} {j:Nat},j∈nZ ops.size listed↔j<ops.size/\listed.getD j true=false:=by
  intro listed j;simp [nZ]
 -- the least that is left is ready
 have least:∀ {listed:Array Bool},listed.size=ops.size->Region.ready .any ops listed=[]->nZ ops.size listed=[]:=by
  intro listed hs hr;cases hR:nZ ops.size listed with
  | nil=>rfl
  | cons j r =>
   exfalso
   have hj:j∈nZ ops.size listed:=by rw [hR];simp
   obtain ⟨hjn,hjl⟩:=rem_mem.1 hj
   -- all before j are listed
   have hbefore:∀ e,e<j->listed.getD e true=true:=by
    intro e he;cases hx:listed.getD e true with
    | true=>rfl
    | false =>
     have hem:e∈nZ ops.size listed:=rem_mem.2 ⟨by omega,hx⟩;have hsorted:(nZ ops.size listed).Pairwise (·<·):=by
      unfold nZ;exact List.Pairwise.filter _ (List.pairwise_lt_range)
     rw [hR] at hem hsorted;rw [J1] at hsorted;rcases uA.1 hem with h | h
     ·omega
     ·have:=hsorted.1 e h;omega
   have:j∈Region.ready .any ops listed:=by
    simp only [Region.ready,mG,dD,zba,pH];refine ⟨hjn,hjl,?_⟩;have ho:ops[j]?=some ops[j]:=SL hjn;rw [ho];simp only [kH,jE];rw [<- Array.all_toList];simp only [tC];intro e he;cases hb:Region.binds .any e with
    | false=>simp
    | true =>
     have hd:e.on∈dM ops[j]:=vB.2 ⟨e,mG.2 ⟨he,hb⟩,rfl⟩;have hlt:=hback j _ ho e.on hd;have h1:=hbefore e.on hlt;have hsz:e.on<listed.size:=by omega
     simp only [bG,SL hsz,jE] at h1 ⊢;simp [h1]
   rw [hr] at this;cases this
 intro fuel
 induction fuel with
 | zero =>
  intro listed st a w hs hf hcl hch hR;have hnil:nZ ops.size listed=[]:=cK hf;rw [hnil] at hch;simp only [MB,gV] at hch;subst hch;refine ⟨?_,hQ a w hR⟩;cases hr:Region.ready .any ops listed with
  | nil=>rfl
  | cons j r =>
   exfalso
   have:=zEp (j:=j) (by rw [hr];simp)
   have hm:j∈nZ ops.size listed:=rem_mem.2 ⟨this.1,this.2.1⟩;rw [hnil] at hm;cases hm
 | succ fuel ih =>
  intro listed st a w hs hf hcl hch hR;refine ⟨fun hr=>?_,fun i hi=>?_⟩
  ·have:=least hs hr
   rw [this] at hf;simp at hf
  ·obtain ⟨hin,hil,hdi⟩:=zEp hi;have ho:ops[i]?=some ops[i]:=SL hin;obtain ⟨A,B,hAB,hA,hAB'⟩:=zHO hin hs hil;have hei:ess[i]?=some (ess.getD i []):=by
    have:i<ess.length:=by omega
    simp [List.getD,w7 this]
   rw [hAB,nH,uM] at hch;have hdeps:=closed hs hcl (fun o ho' e he=>hdi o ho' e he);obtain ⟨k1,k2⟩:=zJz (A.map fun i=>ess.getD i []) (B.map fun i=>ess.getD i []) st st' hch (by
    intro x hx;simp only [vB] at hx;obtain ⟨j,hj,rfl⟩:=hx;obtain ⟨hjlt,hjl⟩:=hA j hj;have hej:ess[j]?=some (ess.getD j []):=by
     have:j<ess.length:=by omega
     simp [List.getD,w7 this]
    rcases hord j i _ _ hjlt hej hei with h | h
    ·exact h
    ·have:=hdeps j h
     have:=tf this
     rw [hjl] at this;cases this)
   have hL:=hloc i _ _ ho hei G st a w hN hnp k1 hR;have hnext:∀ a w,vJ G (uX st (ess.getD i [])) a w->wpAny P .any ops Q fuel (listed.setIfInBounds i true) a w:=by
    intro a w hR2;refine ih (listed.setIfInBounds i true) _ a w (by simpa using hs) ?_ ?_ ?_ hR2
    ·rw [hAB'];rw [hAB] at hf;simp at hf ⊢;omega
    ·intro j o ho' hjl e he;have hkeep:∀ e,listed.getD e false=true->(listed.setIfInBounds i true).getD e false=true:=by
      intro e he;simp only [bG,QN] at he ⊢
      split
      ·rename_i h;subst h;rw [if_pos (by omega)];rfl
      ·exact he
     by_cases hji:j=i
     ·subst hji;exact hkeep e (hdi o ho' e he)
     ·refine hkeep e (hcl j o ho' ?_ e he);simp only [bG,QN] at hjl;rw [if_neg (fun e=>hji e.symm)] at hjl;simpa using hjl
    ·rw [hAB',nH];exact k2
   refine zIG ho ?_
   split
   ·rename_i hw;rw [if_pos hw] at hL;exact Oper.wp_mono2 hnext hL
   ·rename_i hw;rw [if_neg hw] at hL;exact hnext _ _ hL
theorem zM5 {ops:List Oper} {ess:List (List Eff)} (h:VT ops ess=true) :
  (∀ (j:Nat) (o:Oper),ops[j]?=some o->∀ e∈dM o,e<j) /\
  ∀ (i j:Nat) (es fs:List Eff),i<j->ess[i]?=some es->ess[j]?=some fs->EA es fs\/Dep ops.toArray i j:=by
 simp only [VT,zba,tC] at h;obtain ⟨h1,h2⟩:=h;refine ⟨fun j o ho e he=>?_,fun i j es fs hij hi hj=>?_⟩
 ·have:=h1 (o,j) (by rw [zBU];exact ho) e he
  simp [Nat.blt] at this;omega
 ·have:=h2 (fs,j) (by rw [zBU];exact hj) (es,i) (by
   rw [zBU];show (ess.take j)[i]?=some es;rw [aY,if_pos hij];exact hi)
  simp only [rJ,pH] at this;rcases this with h | h
  ·exact .inl (zM9 h)
  ·right
   refine zMG (ops:=ops.toArray) (ops.map dM) [] ?_ (fun j hj=>by simp at hj) j i h;intro k ds hk;rw [vD] at hk;cases ho:ops[k]? with
   | none=>rw [ho] at hk;cases hk
   | some o=>rw [ho] at hk;injection hk with hk;exact ⟨o,by simpa using ho,hk⟩
def AW (P:Program) (N np:Nat) (c:Code) (K:Exit->AS->Prop) (st:AS):Prop :=
 ∀ G a w,G.n=N->G.foot.length=np->vJ G st a w->c.wp P (fun e a' w'=>∃ st',K e st'/\vJ G st' a' w') a w
section
variable {P:Program} {N np:Nat} {K:Exit->AS->Prop} {st:AS} {c:Code}
def EI (P:Program) (N np:Nat) (y:Code) (K:Exit->AS->Prop):Exit->AS->Prop
 | .normal,st=>AW P N np y K st
 | e,st=>K e st
def YV (id:Nat) (K:Exit->AS->Prop):Exit->AS->Prop
 | .exit id',st=>bif Nat.beq id' id then K .normal st else K (.exit id') st
 | e,st=>K e st
def Code.l:Code->Code | .seq a _=>a | c=>c
def Code.r:Code->Code | .seq _ b=>b | c=>c
def Code.b:Code->Code | .block _ b=>b | .loop b=>b | c=>c
def Code.t:Code->Code | .cond _ t _=>t | c=>c
def Code.e:Code->Code | .cond _ _ e=>e | c=>c
theorem JN (hc:c=.seq (Code.l c) (Code.r c)) (h:AW P N np (Code.l c) (EI P N np (Code.r c) K) st):AW P N np c K st:=by
 intro G a w hN hnp hR;rw [hc];refine wp_seq (GD ?_ (h G a w hN hnp hR));rintro e a' w' ⟨st',hk,hR'⟩;cases e with
 | normal=>exact hk G a' w' hN hnp hR'
 | _=>exact ⟨st',hk,hR'⟩
theorem zNW (hc:c=.skip) (h:K .normal st):AW P N np c K st:=by
 intro G a w _ _ hR;rw [hc];exact wp_skip ⟨st,h,hR⟩
theorem zMe (hc:c=.ret) (h:K .ret st):AW P N np c K st:=by
 intro G a w _ _ hR;rw [hc];exact wp_ret ⟨st,h,hR⟩
theorem zIs {id:Nat} (hc:c=.exit id) (h:K (.exit id) st):AW P N np c K st:=by
 intro G a w _ _ hR;rw [hc];exact wp_exit ⟨st,h,hR⟩
theorem zHr {id:Nat} (hc:c=.block id (Code.b c)) (h:AW P N np (Code.b c) (YV id K) st):AW P N np c K st:=by
 intro G a w hN hnp hR;rw [hc];refine wp_block (GD ?_ (h G a w hN hnp hR));rintro e a' w' ⟨st',hk,hR'⟩;cases e with
 | exit id' =>
  simp only [YV] at hk;simp only [Exit.inBlock]
  split
  ·rename_i h;rw [h,pX] at hk;exact ⟨st',hk,hR'⟩
  ·rename_i h;rw [wV h] at hk;exact ⟨st',hk,hR'⟩
 | _=>exact ⟨st',hk,hR'⟩
theorem zBL {t:Nat} {b:Bool} (hc:c=.cond (.tmp t) (Code.t c) (Code.e c)) (hs:st.slot t=.bool b) (h1:b=true->AW P N np (Code.t c) K st) (h2:b=false->AW P N np (Code.e c) K st) :
  AW P N np c K st:=by
 intro G a w hN hnp hR;have hR0:=hR;obtain ⟨T,hT⟩:=hR.out;have hr:=hT.slots t;rw [hs] at hr;have he:a.eval (.tmp t)=.bool b:=by
  show a.tmps.getD t undef=.bool b;generalize a.tmps.getD t undef=v at hr;cases hr;rfl
 rw [hc];refine wp_cond_split he (fun hb=>h1 hb G a w hN hnp hR0) (fun hb=>h2 hb G a w hN hnp hR0)
theorem zEL {t:Nat} {l:List AV} (hc:c=.cond (.tmp t) (Code.t c) (Code.e c)) (hs:st.slot t=.nb l) (h1:l=[]->AW P N np (Code.t c) K st) (h2:AW P N np (Code.e c) K st) :
  AW P N np c K st:=by
 intro G a w hN hnp hR;have hR0:=hR;obtain ⟨T,hT⟩:=hR.out;have hr:=hT.slots t;rw [hs] at hr;obtain ⟨b,he,hb⟩:∃ b,a.eval (.tmp t)=.bool b/\(b=true->l=[]):=by
  show ∃ b,a.tmps.getD t undef=.bool b/\_;generalize a.tmps.getD t undef=v at hr;cases hr with
  | nb h=>exact ⟨_,rfl,h⟩
 rw [hc];exact wp_cond_split he (fun h=>h1 (hb h) G a w hN hnp hR0) (fun _=>h2 G a w hN hnp hR0)
theorem zEI (I:Nat->AS->Prop) (n:Nat) (hc:c=.loop (Code.b c)) (h0:I n st)
  (h:∀ n st,I n st->AW P N np (Code.b c) (fun e st'=>match e with | .normal=>∃ m,m<n/\I m st' | e=>K e st') st):AW P N np c K st:=by
 intro G a w hN hnp hR;rw [hc];generalize hb:Code.b c=body at h;intro b k cs;have key:∀ n a w,(∃ st,I n st/\vJ G st a w) ->
   ∃ e a' w',(∃ st',K e st'/\vJ G st' a' w')/\Arrives P (lone (b.at a (.code body::.inLoop body::k)) cs w) b k cs e a' w':=by
  intro n
  induction n using Nat.strongRecOn with
  | _ n ih =>
   rintro a w ⟨st,hI,hR⟩;obtain ⟨e,a₁,w₁,⟨st',hq,hR'⟩,harr⟩:=h n st hI G a w hN hnp hR b (.inLoop body::k) cs;cases e with
   | normal =>
    obtain ⟨m,hlt,hI'⟩:=hq;obtain ⟨e₂,a₂,w₂,hq₂,harr₂⟩:=ih m hlt a₁ w₁ ⟨st',hI',hR'⟩;exact ⟨e₂,a₂,w₂,hq₂,.of_steps (Steps.trans harr (.one step_inLoop)) harr₂⟩
   | exit id=>exact ⟨_,a₁,w₁,⟨st',hq,hR'⟩,.pass (x:=.inLoop body) rfl (fun _ _=>.inl (by simp)) harr⟩
   | goto l=>exact ⟨_,a₁,w₁,⟨st',hq,hR'⟩,.pass (x:=.inLoop body) rfl (fun _ _=>.inl (by simp)) harr⟩
   | ret=>exact ⟨_,a₁,w₁,⟨st',hq,hR'⟩,.pass (x:=.inLoop body) rfl (fun _ _=>.inl (by simp)) harr⟩
   | panic ch=>exact ⟨_,a₁,w₁,⟨st',hq,hR'⟩,.pass (x:=.inLoop body) rfl (fun _ _=>.inl (by simp)) harr⟩
   | outgrown=>exact ⟨_,a₁,w₁,⟨st',hq,hR'⟩,.pass (x:=.inLoop body) rfl (fun _ _=>.inl (by simp)) harr⟩
 obtain ⟨e,a',w',hq,harr⟩:=key n a w ⟨st,h0,hR⟩;exact ⟨e,a',w',hq,.of_steps (.one step_loop) harr⟩
theorem zDt {K':Exit->AS->Prop} (h:AW P N np c K st) (hk:∀ e st,K e st->K' e st):AW P N np c K' st:=by
 intro G a w hN hnp hR;refine GD ?_ (h G a w hN hnp hR);rintro e a' w' ⟨st',h1,h2⟩;exact ⟨st',hk _ _ h1,h2⟩
end
/-! Regions. -/
def mk (sl:List (Nat×AV)) (bx:List (Nat×zR)) (n:Nat):AS :=
 ⟨kF sl,fun i=>yJ bx i (bif Nat.blt i n then .dead else .unused)⟩
def qC:List Prop->Prop
 | []=>True
 | p::r=>p/\qC r
theorem lF {l:List Prop} (h:qC l):∀ p∈l,p:=by
 induction l with
 | nil=>intro p hp;cases hp
 | cons a r ih =>
  intro p hp;cases hp with
  | head=>exact h.1
  | tail _ hp=>exact ih h.2 p hp
def c8 (P:Program) (N np:Nat) (c:Code) (hs:List (Nat×wA)) (sl:List (Nat×AV)) (bx:List (Nat×zR)) (n:Nat) (live bl:List Nat) (n':Nat):Option (List Prop×List AV×List zR) :=
 match c with
 | .region _ ops draw =>
  match HW P N np ops hs ops.toList 0 (mk sl bx n) with
  | some (vcs,st',ess) =>
   bif ((!draw||VT ops.toList ess)&&(Nat.ble n n'&&(bl.all fun i=>Nat.blt i n')))&&((bx.all fun x=>Nat.blt x.1 n)&&ess.all fun es=>(nQ es).all fun i=>Nat.blt i n') then
    some (vcs,live.map st'.slot,bl.map st'.box)
   else none
  | none=>none
 | _=>none
theorem zFM {live:List Nat} {f:Nat->AV} {t:Nat}:kF (live.zip (live.map f)) t=f t\/kF (live.zip (live.map f)) t=.junk:=by
 induction live with
 | nil=>exact .inr rfl
 | cons a r ih =>
  simp only [uM,EG,kF];cases h:Nat.beq t a
  ·exact ih
  ·rw [wT.1 h];exact .inl rfl
theorem zEC {bl:List Nat} {f:Nat->zR} {i:Nat} {d:zR}:(i∈bl/\yJ (bl.zip (bl.map f)) i d=f i)\/(i∉bl/\yJ (bl.zip (bl.map f)) i d=d):=by
 induction bl with
 | nil=>exact .inr ⟨by simp,rfl⟩
 | cons a r ih =>
  simp only [uM,EG,yJ];cases h:Nat.beq i a
  ·simp only [cond_false];have hne:i≠a:=fun e=>by subst e;simp at h
   rcases ih with ⟨h1,h2⟩ | ⟨h1,h2⟩
   ·exact .inl ⟨by simp [h1],h2⟩
   ·exact .inr ⟨by simp [h1,hne],h2⟩
  ·have:=wT.1 h
   subst this;exact .inl ⟨by simp,rfl⟩
theorem Rel.weak {G:wQ} {st st2:AS} {a:Act} {w:World} (h:Rel G st a w) (hs:∀ t,st2.slot t=st.slot t\/st2.slot t=.junk)
  (hb:∀ i,st2.box i=st.box i\/st2.box i=.dead):Rel G st2 a w:=by
 obtain ⟨T,hT⟩:=h;have hlive:∀ i bx,st2.box i=.live bx->st.box i=.live bx:=by
  intro i bx hl;rcases hb i with h | h
  ·rw [<- h];exact hl
  ·rw [h] at hl;cases hl
 have himm:∀ b,imm G st T b->imm G st2 T b:=fun b hb=>⟨hb.1,fun id bx cap hl hTi=>hb.2 id bx cap (hlive id bx hl) hTi⟩
 refine ⟨T,hT.defers,hT.size,?_,?_,?_,?_,?_,hT.foot,hT.kept,hT.pin⟩
 ·intro t;rcases hs t with h | h
  ·rw [h];exact (hT.slots t).mono (yI _) (fun _ _ _=>rfl) (fun b hb _=>himm b hb) (fun _ _ h=>h)
  ·rw [h];exact .junk
 ·intro i bx hl;exact (hT.boxes i bx (hlive i bx hl)).mono (yI _) (fun _ _ _=>rfl) (fun b hb _=>himm b hb) (fun _ _ h=>h) (fun _ _ _ _=>rfl)
 ·intro i hu;rcases hb i with h | h
  ·exact hT.unused i (by rw [<- h];exact hu)
  ·rw [h] at hu;cases hu
 ·intro i1 i2 b1 b2 b c1 c2 h1 h2;exact hT.apart i1 i2 b1 b2 b c1 c2 (hlive _ _ h1) (hlive _ _ h2)
 ·intro i bx b cap hl;exact hT.mine i bx b cap (hlive _ _ hl)
theorem vJ.weak {G:wQ} {st st2:AS} {a:Act} {w:World} (h:vJ G st a w) (hs:∀ t,st2.slot t=st.slot t\/st2.slot t=.junk)
  (hb:∀ i,st2.box i=st.box i\/st2.box i=.dead):vJ G st2 a w :=
 h.lift (fun id f hl=>by rcases hb id with h | h<;>rw [h] at hl<;>first | exact hl | cases hl) fun _ _ _ hR=>hR.weak hs hb
theorem zDu:∀ (ess:List (List Eff)) (st st':AS) (n':Nat),gV ess st st'->(ess.all fun es=>(nQ es).all fun i=>Nat.blt i n')=true->∀ i,n'<=i->st'.box i=st.box i:=by
 intro ess
 induction ess with
 | nil=>intro st st' n' h _ i _;simp only [gV] at h;rw [h]
 | cons es r ih =>
  intro st st' n' h ha i hi;simp only [List.all_cons,zba] at ha;rw [ih _ _ _ h.2 ha.2 i hi];refine mT fun hm=>?_
  have:=tC.1 ha.1 i hm
  simp [Nat.blt] at this;omega
theorem zLc {P:Program} {N np:Nat} {K:Exit->AS->Prop} {c:Code} {sl:List (Nat×AV)} {bx:List (Nat×zR)} {n:Nat} (hs:List (Nat×wA)) (live bl:List Nat) (n':Nat) {vcs:List Prop} {vals:List AV} {bxs:List zR}
  (h:c8 P N np c hs sl bx n live bl n'=some (vcs,vals,bxs)) (hm:P.follows .mixedOrders=true) (hv:qC vcs) (hk:K .normal (mk (live.zip vals) (bl.zip bxs) n')):AW P N np c K (mk sl bx n):=by
 intro G a w hN hnp hR;unfold c8 at h
 split at h
 case h_2=>cases h
 rename_i id ops draw
 split at h
 case h_2=>cases h
 rename_i vcs' st' ess hareg
 replace h:=xM h;obtain ⟨hc,h⟩:=h;simp only [zba,rJ,pH] at hc;obtain ⟨⟨hord,hnn,hbl⟩,hbx,hwb⟩:=hc;simp only [uU,kU] at h;obtain ⟨rfl,rfl,rfl⟩:=h;obtain ⟨k1,k2,k3⟩:=zFx _ _ _ _ hareg (lF hv);simp only at k1 k2 k3;have hfin:∀ a w,vJ G st' a w->∃ st'',K .normal st''/\vJ G st'' a w:=by
  intro a w hR';refine ⟨_,hk,hR'.weak (fun t=>zFM) (fun i=>?_)⟩;have e0:(mk (live.zip (live.map st'.slot)) (bl.zip (bl.map st'.box)) n').box i=yJ (bl.zip (bl.map st'.box)) i (bif Nat.blt i n' then .dead else .unused):=rfl;rw [e0];rcases zEC (bl:=bl) (f:=st'.box) (i:=i) (d:=bif Nat.blt i n' then .dead else .unused) with ⟨_,h⟩ | ⟨_,h⟩
  ·exact .inl h
  ·rw [h];cases hlt:Nat.blt i n'
   ·left
    have hge:n'<=i:=by
     rcases zlg i n' with h' | h'
     ·have:Nat.blt i n'=true:=by simp [Nat.blt];omega
      rw [this] at hlt;cases hlt
     ·exact h'
    have hle:=B4 hnn;rw [zDu ess _ _ n' k1 hwb i hge];simp only [mk];rw [XO]
    ·have:Nat.blt i n=false:=by
      cases h0:Nat.blt i n
      ·rfl
      ·simp [Nat.blt] at h0;omega
     rw [this]
    ·intro hm';simp only [vB] at hm';obtain ⟨x,hx,rfl⟩:=hm'
     have:=tC.1 hbx x hx
     simp [Nat.blt] at this;omega
   ·exact .inr rfl
 cases draw with
 | false =>
  exact wp_region_list (zIW hN hnp ops.toList ess _ st' a w k1 k2 k3 hR hfin)
 | true =>
  have hord':VT ops.toList ess=true:=by
   rcases hord with h | h
   ·cases h
   ·exact h
  obtain ⟨o1,o2⟩:=zM5 hord';have hdrew:vJ G (mk sl bx n) a { w with drawn:=w.drawn+1 }:=by
   refine hR.lift (fun _ _ h=>h) fun G' _ _ hR'=>?_
   obtain ⟨T,hT⟩:=hR';refine ⟨T,hT.defers,hT.size,fun t=>(hT.slots t).mono (yI _) (fun _ _ _=>rfl) (fun _ h _=>h) (fun _ _ h=>h),
    fun i bx hl=>(hT.boxes i bx hl).mono (yI _) (fun _ _ _=>rfl) (fun _ h _=>h) (fun _ _ h=>h) (fun _ _ _ _=>rfl),hT.unused,hT.apart,hT.mine,hT.foot,
    ⟨hT.kept.os,hT.kept.tape,hT.kept.output,hT.kept.size,hT.kept.block⟩,hT.pin⟩
  refine wp_region_any hm ?_;have hrem:nZ ops.size (Array.replicate ops.size false)=List.range ops.size:=by
   unfold nZ;apply zBq.2;intro i hi
   have:=dD.1 hi
   simp [this]
  have hess:(List.range ops.size).map (fun i=>ess.getD i [])=ess:=by
   apply SA;intro i;rw [vD];rcases zlg i ops.size with hlt | hge
   ·have:i<ess.length:=by rw [k2];simpa using hlt
    simp [hlt,List.getD,w7 this]
   ·rw [vH (by simpa using hge),vH (by rw [k2];simpa using hge)];rfl
  refine zJX hN hnp (by rw [k2];simp) ?_ ?_ ?_ hfin ops.size _ (mk sl bx n) a _ (by simp) (by rw [hrem];simp) ?_ (by rw [hrem,hess];exact k1) hdrew
  ·intro j o es hj hj';exact k3 j o es (by rw [k9];exact hj) hj'
  ·intro i j es fs hij hi hj;exact o2 i j es fs hij hi hj
  ·intro j o ho;exact o1 j o (by rw [k9];exact ho)
  ·intro j o ho hl;have hlt:j<ops.size:=by
    rcases zlg j ops.size with h' | h'
    ·exact h'
    ·rw [fJ h'] at ho;cases ho
   simp [hlt] at hl
def Sub (np:Nat) (st st2:AS):Prop:=∀ G a w,G.foot.length=np->vJ G st a w->vJ G st2 a w
theorem wX {P:Program} {N np:Nat} {c:Code} {K:Exit->AS->Prop} {st st2:AS} (hs:Sub np st st2) (h:AW P N np c K st2):AW P N np c K st :=
 fun G a w hN hnp hR=>h G a w hN hnp (hs G a w hnp hR)
def lo1 (x y:AV):List Prop :=
 match x,y with
 | .nilsl,.sl _ _ l=>[l=[]]
 | .nilsl,.part _ _ lo hi=>[lo=hi]
 | .sl f s l,.sl f' s' l'=>[s=s',l=l',(!f'||f)=true]
 | .fm n l,.fm n' l'=>[n=n',l=l']
 | _,.junk=>[]
 | x,y=>[x=y]
def los:List AV->List AV->List Prop
 | [],[]=>[]
 | x::r,y::s=>lo1 x y++los r s
 | _,_=>[False]
def loA (x y:AV):List Prop :=
 match x,y with
 | .agg cs,.agg ds=>los cs ds
 | x,y=>lo1 x y
def o5:List AV->List AV->List Prop
 | [],[]=>[]
 | x::r,y::s=>loA x y++o5 r s
 | _,_=>[False]
def loT (x y:AV):List Prop :=
 match x,y with
 | .tuple cs,.tuple ds=>o5 cs ds
 | x,y=>loA x y
theorem EQ {w:World} {I:Nat->Prop} {T:Tbl} {v:Value} {x y:AV} (h:Rep w I T v x) (hl:∀ p∈lo1 x y,p):Rep w I T v y:=by
 unfold lo1 at hl
 split at hl
 ·rename_i f s l
  have:l=[]:=hl _ (by simp)
  subst this;cases h;exact .sl0 (by simp [maxLen]) (fun _=>rfl)
 ·rename_i lo hi
  have:lo=hi:=hl _ (by simp)
  subst this;cases h;exact .part0 (by simp [maxLen])
 ·rename_i f s l f' s' l'
  have e1:s=s':=hl _ (by simp);have e2:l=l':=hl _ (by simp);have e3:(!f'||f)=true:=hl _ (by simp);subst e1;subst e2;have imp:f'=true->f=true:=by
   intro hf;rw [hf] at e3;simpa using e3
  cases h with
  | sl0 a b=>exact .sl0 a (fun hf=>b (imp hf))
  | sl g h1 h2 h3 h4 h5 h6 h7 h8 h9 h10=>exact .sl g h1 h2 h3 (fun hf=>h4 (imp hf)) h5 h6 h7 h8 h9 h10
 ·rename_i n l n' l'
  have e1:n=n':=hl _ (by simp);have e2:l=l':=hl _ (by simp);rw [<- e1,<- e2];exact h
 ·exact .junk
 ·have:=hl (x=y) (by simp)
  rw [<- this];exact h
theorem QK {xs ys:List AV} (h:∀ p∈los xs ys,p):xs.length=ys.length/\∀ (j:Nat) (x y:AV),xs[j]?=some x->ys[j]?=some y->∀ p∈lo1 x y,p:=by
 induction xs generalizing ys with
 | nil =>
  cases ys with
  | nil=>exact ⟨rfl,fun j x y hj=>by simp at hj⟩
  | cons b s=>exact (h False (by simp [los])).elim
 | cons a r ih =>
  cases ys with
  | nil=>exact (h False (by simp [los])).elim
  | cons b s =>
   simp only [los,wL] at h;obtain ⟨k1,k2⟩:=ih (ys:=s) (fun p hp=>h p (.inr hp));refine ⟨by simp [k1],fun j x y hx hy p hp=>?_⟩;cases j with
   | zero=>simp at hx hy;subst hx;subst hy;exact h p (.inl hp)
   | succ j=>exact k2 j x y (by simpa using hx) (by simpa using hy) p hp
theorem zCF {xs ys:List AV} (h:∀ p∈o5 xs ys,p):xs.length=ys.length/\∀ (j:Nat) (x y:AV),xs[j]?=some x->ys[j]?=some y->∀ p∈loA x y,p:=by
 induction xs generalizing ys with
 | nil =>
  cases ys with
  | nil=>exact ⟨rfl,fun j x y hj=>by simp at hj⟩
  | cons b s=>exact (h False (by simp [o5])).elim
 | cons a r ih =>
  cases ys with
  | nil=>exact (h False (by simp [o5])).elim
  | cons b s =>
   simp only [o5,wL] at h;obtain ⟨k1,k2⟩:=ih (ys:=s) (fun p hp=>h p (.inr hp));refine ⟨by simp [k1],fun j x y hx hy p hp=>?_⟩;cases j with
   | zero=>simp at hx hy;subst hx;subst hy;exact h p (.inl hp)
   | succ j=>exact k2 j x y (by simpa using hx) (by simpa using hy) p hp
def rO:AV->Bool
 | .agg ds=>t7 ds
 | _=>true
def CX:AV->Bool
 | .tuple vs=>vs.all rO
 | v=>rO v
theorem zAi {w:World} {I:Nat->Prop} {T:Tbl} {v:Value} {x y:AV} (h:Rep w I T v x) (hl:∀ p∈loA x y,p) (h1:rO y=true):Rep w I T v y:=by
 unfold loA at hl
 split at hl
 ·rename_i cs ds
  obtain ⟨k1,k2⟩:=QK hl;cases h with
  | agg a b c =>
   refine .agg (by rw [a,k1]) (QO h1) fun j y hy=>?_
   have hlt:j<cs.length:=by
    rw [k1];rcases zlg j ds.length with h' | h'
    ·exact h'
    ·rw [vH h'] at hy;cases hy
   exact EQ (c j _ (w7 hlt)) (k2 j _ y (w7 hlt) hy)
 ·exact EQ h hl
theorem zIw {w:World} {I:Nat->Prop} {T:Tbl} {v:Value} {x y:AV} (h:Rep w I T v x) (hl:∀ p∈loT x y,p) (h1:CX y=true):Rep w I T v y:=by
 unfold loT at hl
 split at hl
 ·rename_i cs ds
  obtain ⟨k1,k2⟩:=zCF hl;simp only [CX,tC] at h1;cases h with
  | tuple a c =>
   refine .tuple (by rw [a,k1]) fun j y hy=>?_
   have hlt:j<cs.length:=by
    rw [k1];rcases zlg j ds.length with h' | h'
    ·exact h'
    ·rw [vH h'] at hy;cases hy
   exact zAi (c j _ (w7 hlt)) (k2 j _ y (w7 hlt) hy) (h1 y (yN hy))
 ·rename_i hno
  by_cases hy:∃ ds,y=.tuple ds
  ·obtain ⟨ds,rfl⟩:=hy;have e:loA x (.tuple ds)=lo1 x (.tuple ds):=by cases x<;>rfl
   rw [e] at hl;exact EQ h hl
  ·refine zAi h hl ?_;cases y<;>first | exact h1 | exact absurd ⟨_,rfl⟩ hy
def zBp (n:Nat):zR->Bool
 | .live b=>gY n b
 | _=>true
def vI (B:Nat->zR) (ids ρ:List Nat) (b:zR) (b2:zR):List Prop :=
 match b,b2 with
 | .live (.var t cs),.live (.var t' ds)=>[t=t',t7 ds=true]++(cs.flatMap (oG B ids)++los (cs.map (gU B ids)) (uns ρ ds))
 | .live (.row e s l),.live (.row e' s' l')=>[e=e',s=s',l=l']
 | .live (.map a k l),.live (.map a' k' l')=>[a=a',k=k',l=l']
 | .live (.rowQ e s l m x),.live (.rowQ e' s' l' m' x')=>[e=e',s=s',l=l',m=m',t7 x'=true]++los x (uns ρ x')
 | .live (.rowI e s l m i x),.live (.rowI e' s' l' m' i' x')=>[e=e',s=s',l=l',m=m',i=i',t7 x'=true]++los x (uns ρ x')
 | .live (.fam f),.live (.fam f')=>[f=f']
 | _,.dead=>[]
 | _,_=>[False]
def ET:List Nat->List Nat->Bool
 | [],[]=>true
 | a::r,b::s=>Nat.beq a b&&ET r s
 | _,_=>false
theorem zMj {a b:List Nat} (h:ET a b=true):a=b:=by
 induction a generalizing b with
 | nil=>cases b<;>simp_all [ET]
 | cons x r ih =>
  cases b with
  | nil=>simp [ET] at h
  | cons y s =>
   simp only [ET,zba] at h;rw [wT.1 h.1,ih h.2]
def EX (np:Nat) (st:AS) (ρ ids:List Nat) (sl2:List (Nat×AV)) (bx2:List (Nat×zR)):Option (List Prop) :=
 bif ((tZ ρ&&ET (ρ.take np) (List.range np))&&(ids.all fun i=>oJ (st.box i)&&Nat.ble np i)) &&
   ((sl2.all fun x=>(qQ ρ.length x.2&&CX x.2)&&rS (frz st.box ids (st.slot x.1))) &&
    (bx2.all fun x=>(Nat.blt x.1 ρ.length&&zBp ρ.length x.2)&&(match x.2 with | .live (.row ..)=>!(ids.any (Nat.beq (ρ.getD x.1 0))) | .unused=>false | _=>true))) then
  some (sl2.flatMap (fun x=>oE st.box ids (st.slot x.1)++loT (frz st.box ids (st.slot x.1)) (un ρ x.2)) ++
   bx2.flatMap (fun x=>vI st.box ids ρ (st.box (ρ.getD x.1 0)) x.2))
 else none
theorem zEb {ρ:List Nat} {cs:List AV}:t7 (uns ρ cs)=t7 cs:=by
 induction cs with
 | nil=>rfl
 | cons a r ih=>simp [uns,t7,zCf,ih]
theorem zKv {ρ:List Nat} {a:AV}:rO (un ρ a)=rO a:=by cases a<;>simp [un,rO,zEb]
theorem zJ2 {ρ:List Nat} {a:AV}:CX (un ρ a)=CX a:=by
 cases a with
 | tuple vs =>
  simp only [un,CX]
  induction vs with
  | nil=>rfl
  | cons x r ih=>simp [uns,zKv,ih]
 | agg cs=>simp [un,CX,rO,zEb]
 | _=>rfl
theorem zKI {sl:List (Nat×AV)} {t:Nat}:kF sl t=.junk\/(t,kF sl t)∈sl:=by
 induction sl with
 | nil=>exact .inl rfl
 | cons x r ih =>
  obtain ⟨k,v⟩:=x;simp only [kF];cases h:Nat.beq t k
  ·rcases ih with h' | h'
   ·exact .inl h'
   ·exact .inr (by simp [h'])
  ·rw [wT.1 h];exact .inr (by simp)
theorem T5 {bx:List (Nat×zR)} {i:Nat} {d:zR}:(i∉bx.map (·.1)/\yJ bx i d=d)\/(i,yJ bx i d)∈bx:=by
 induction bx with
 | nil=>exact .inl ⟨by simp,rfl⟩
 | cons x r ih =>
  obtain ⟨k,v⟩:=x;simp only [yJ];cases h:Nat.beq i k
  ·have hne:i≠k:=fun e=>by subst e;simp at h
   rcases ih with ⟨h1,h2⟩ | h'
   ·exact .inl ⟨by simp only [uM,uA,not_or];exact ⟨hne,h1⟩,h2⟩
   ·exact .inr (by simp [h'])
  ·rw [wT.1 h];exact .inr (by simp)
theorem zI1 {np:Nat} {st:AS} (ρ ids:List Nat) (sl2:List (Nat×AV)) (bx2:List (Nat×zR)) {vcs:List Prop} (h:EX np st ρ ids sl2 bx2=some vcs) (hv:qC vcs)
  {G:wQ} {a:Act} {w:World} {T:Tbl} (hnp:G.foot.length=np) (hpin:∀ i,G.pin i=none) (hT:uF G st T a w):uF G (mk sl2 bx2 ρ.length) (Tc ρ T) a w:=by
 unfold EX at h;replace h:=xM h;obtain ⟨hc,h⟩:=h;simp only [zba,tC] at hc;obtain ⟨⟨⟨hnd,hrange⟩,hids⟩,hsl,hbx⟩:=hc;have hrange:=zMj hrange;simp only [uU] at h;subst h;have hv:=lF hv
 -- boxes of the new state
 have boxOf:∀ i bx,(mk sl2 bx2 ρ.length).box i=.live bx->(i,zR.live bx)∈bx2:=by
  intro i bx hl;simp only [mk] at hl;rcases T5 (bx:=bx2) (i:=i) (d:=bif Nat.blt i ρ.length then zR.dead else .unused) with ⟨_,h⟩ | h
  ·rw [h] at hl;cases hlt:Nat.blt i ρ.length<;>rw [hlt] at hl<;>cases hl
  ·rw [hl] at h;exact h
 have newBox:∀ (i:Nat) (bx:Box),(i,zR.live bx)∈bx2->∃ (id:Nat) (bx0:Box),ρ[i]?=some id/\st.box id=.live bx0/\id∉ids:=by
  intro i bx hm;have h1:=hbx _ hm;have hlt:i<ρ.length:=by have:=h1.1.1;simp [Nat.blt] at this;omega
  have hid:ρ[i]?=some (ρ.getD i 0):=by simp [List.getD,hlt]
  have hvc:∀ p∈vI st.box ids ρ (st.box (ρ.getD i 0)) (.live bx),p:=fun p hp=>hv p (bT _ (aB.2 ⟨_,hm,hp⟩))
  generalize hst:st.box (ρ.getD i 0)=b0 at hvc;cases b0 with
  | unused=>exact (hvc False (by simp [vI])).elim
  | dead=>exact (hvc False (by simp [vI])).elim
  | live bb =>
   refine ⟨_,bb,hid,hst,fun hmem=>?_⟩;cases bb with
   | var t cs=>have:=(hids _ hmem).1;rw [hst] at this;simp [oJ] at this
   | map ag ks l=>have:=(hids _ hmem).1;rw [hst] at this;simp [oJ] at this
   | rowQ e s l m x=>have:=(hids _ hmem).1;rw [hst] at this;simp [oJ] at this
   | rowI e s l m i x=>have:=(hids _ hmem).1;rw [hst] at this;simp [oJ] at this
   | fam f=>have:=(hids _ hmem).1;rw [hst] at this;simp [oJ] at this
   | row e s l =>
    cases bx with
    | var t cs=>exact hvc False (by simp [vI])
    | map ag ks l=>exact hvc False (by simp [vI])
    | rowQ e s l m x=>exact hvc False (by simp [vI])
    | rowI e s l m i x=>exact hvc False (by simp [vI])
    | fam f=>exact hvc False (by simp [vI])
    | row e' s' l' =>
     have h2:=h1.2;simp only [pH] at h2;rw [W1 hmem] at h2;cases h2
 have hlen_np:np<=ρ.length:=by
  have:=congrArg List.length hrange
  simp at this;omega
 have hfirst:∀ i,i<np->ρ[i]?=some i:=by
  intro i hi
  have:=congrArg (·[i]?) hrange
  simp only [aY,if_pos hi,DJ hi] at this;exact this
 have hTc:∀ (i id:Nat),ρ[i]?=some id->Tc ρ T i=T id:=by
  intro i id hi;simp [Tc,hi]
 have himm:∀ b,imm G st T b->imm G (mk sl2 bx2 ρ.length) (Tc ρ T) b:=by
  intro b hb;refine ⟨hb.1,fun i bx cap hl hTi=>?_⟩;obtain ⟨id,bx0,h1,h2,_⟩:=newBox i bx (boxOf i bx hl);rw [hTc i id h1] at hTi;exact hb.2 id bx0 cap h2 hTi
 have hidI:∀ id b cap,id∈ids->T id=some (.at b cap)->imm G (mk sl2 bx2 ρ.length) (Tc ρ T) b:=by
  intro id b cap hmem hTi;have hl:=(hids id hmem).1;obtain ⟨bx0,hb0⟩:∃ bx0,st.box id=.live bx0:=by
   cases hb:st.box id<;>rw [hb] at hl<;>simp [oJ] at hl
   exact ⟨_,rfl⟩
  refine ⟨.inr (hT.mine id bx0 b cap hb0 hTi (by have:=B4 (hids id hmem).2;omega)),fun i bx cap' hl' hTi'=>?_⟩;obtain ⟨id',bx',h1,h2,h3⟩:=newBox i bx (boxOf i bx hl');rw [hTc i id' h1] at hTi'
  have:=hT.apart id id' bx0 bx' b cap cap' hb0 h2 hTi hTi'
  exact h3 (this ▸ hmem)
 refine ⟨hT.defers,hT.size,?_,?_,?_,?_,?_,?_,hT.kept,fun i p hp=>by rw [hpin i] at hp;cases hp⟩
 ·intro t;simp only [mk];rcases zKI (sl:=sl2) (t:=t) with h | h
  ·rw [h];exact .junk
  ·generalize kF sl2 t=av2 at h;have hc:=hsl _ h;have hvc:=fun p hp=>hv p (rM _ (aB.2 ⟨_,h,hp⟩))
   have h1:=ZT hT (B:=st.box) (ids:=ids) (fun _ _=>rfl) (fun b hb=>himm b hb) hidI (hT.slots t) (fun p hp=>hvc p (rM _ hp)) hc.2;have h2:=zIw h1 (fun p hp=>hvc p (bT _ hp)) (by rw [zJ2];exact hc.1.2);exact D0 h2 av2 rfl hc.1.1
 ·intro i bx hl;have hm:=boxOf i bx hl;obtain ⟨id,bx0,h1,h2,h3⟩:=newBox i bx hm;have hc:=hbx _ hm;have hid:ρ.getD i 0=id:=by simp [List.getD,h1]
  have hvc:∀ p∈vI st.box ids ρ (st.box (ρ.getD i 0)) (.live bx),p:=fun p hp=>hv p (bT _ (aB.2 ⟨_,hm,hp⟩))
  rw [hid,h2] at hvc;rw [hTc i id h1];have hok:=hT.boxes id bx0 h2;have hbel:gY ρ.length bx=true:=hc.1.2;refine UE ?_ hbel;cases bx0 with
  | var t cs =>
   cases bx with
   | row e' s' l'=>exact (hvc False (by simp [vI])).elim
   | map ag ks l=>exact (hvc False (by simp [vI])).elim
   | rowQ e s l m x=>exact (hvc False (by simp [vI])).elim
   | rowI e s l m i x=>exact (hvc False (by simp [vI])).elim
   | fam f=>exact (hvc False (by simp [vI])).elim
   | var t' ds =>
    simp only [vI,wL] at hvc;have e1:t=t':=hvc _ (.inl (by simp));have e2:t7 ds=true:=hvc _ (.inl (by simp));subst e1;obtain ⟨k1,k2⟩:=QK (fun p hp=>hvc p (.inr (.inr hp)));obtain ⟨b,C,p1,p2,p3,p4,p5⟩:=hok;refine ⟨b,C,p1,p2,by rw [p3,<- k1];simp,l7.2 (QO e2),fun j c hj=>?_⟩;have hlt:j<cs.length:=by
     have:j<(uns ρ ds).length:=by
      rcases zlg j (uns ρ ds).length with h' | h'
      ·exact h'
      ·rw [vH h'] at hj;cases hj
     rw [<- k1] at this;simpa using this
    have hcj:=w7 hlt;have h1':=zBm hT (B:=st.box) (ids:=ids) (fun _ _=>rfl) (fun b hb=>himm b hb) hidI (p5 j _ hcj) (fun p hp=>hvc p (.inr (.inl (aB.2 ⟨_,yN hcj,hp⟩))));exact EQ h1' (k2 j _ c (by rw [vD,hcj];rfl) hj)
  | row e s l =>
   cases bx with
   | var t' ds=>exact (hvc False (by simp [vI])).elim
   | map ag ks l=>exact (hvc False (by simp [vI])).elim
   | rowQ e s l m x=>exact (hvc False (by simp [vI])).elim
   | rowI e s l m i x=>exact (hvc False (by simp [vI])).elim
   | fam f=>exact (hvc False (by simp [vI])).elim
   | row e' s' l' =>
    have e1:e=e':=hvc _ (by simp [vI]);have e2:s=s':=hvc _ (by simp [vI]);have e3:l=l':=hvc _ (by simp [vI]);subst e1;subst e2;subst e3;exact hok.mono (yI _) (fun _ _ _=>rfl) (fun b hb _=>himm b hb) (fun _ _ h=>h) (fun _ _ _ _=>rfl)
  | map ag ks l =>
   cases bx with
   | var t' ds=>exact (hvc False (by simp [vI])).elim
   | row e s l'=>exact (hvc False (by simp [vI])).elim
   | rowQ e s l m x=>exact (hvc False (by simp [vI])).elim
   | rowI e s l m i x=>exact (hvc False (by simp [vI])).elim
   | fam f=>exact (hvc False (by simp [vI])).elim
   | map ag' ks' l' =>
    have e1:ag=ag':=hvc _ (by simp [vI]);have e2:ks=ks':=hvc _ (by simp [vI]);have e3:l=l':=hvc _ (by simp [vI]);subst e1;subst e2;subst e3;exact hok.mono (yI _) (fun _ _ _=>rfl) (fun b hb _=>himm b hb) (fun _ _ h=>h) (fun _ _ _ _=>rfl)
  | fam f =>
   cases bx with
   | var t' ds=>exact (hvc False (by simp [vI])).elim
   | row e s l'=>exact (hvc False (by simp [vI])).elim
   | map ag ks l=>exact (hvc False (by simp [vI])).elim
   | rowQ e s l m x=>exact (hvc False (by simp [vI])).elim
   | rowI e s l m i x=>exact (hvc False (by simp [vI])).elim
   | fam f'=>exact hok
  | rowQ e s l m x =>
   cases bx with
   | var t' ds=>exact (hvc False (by simp [vI])).elim
   | row e s l'=>exact (hvc False (by simp [vI])).elim
   | map ag ks l=>exact (hvc False (by simp [vI])).elim
   | fam f=>exact (hvc False (by simp [vI])).elim
   | rowI e s l m i x=>exact (hvc False (by simp [vI])).elim
   | rowQ e' s' l' m' x' =>
    simp only [vI,wL] at hvc;have e1:e=e':=hvc _ (.inl (by simp));have e2:s=s':=hvc _ (.inl (by simp));have e3:l=l':=hvc _ (.inl (by simp));have e4:m=m':=hvc _ (.inl (by simp));have e5:t7 x'=true:=hvc _ (.inl (by simp));subst e1;subst e2;subst e3;subst e4;obtain ⟨k1,k2⟩:=QK (fun p hp=>hvc p (.inr hp));rcases hok with h0 | ⟨b,cap,C,p1,p2,p3,p4,p5,p6,p7,p8,p9⟩
    ·exact .inl h0
    ·refine .inr ⟨b,cap,C,p1,p2,p3,p4,p5,p6,p7,fun i av j c hi hj=>(p8 i av j c hi hj).mono (yI _) (fun _ _ _=>rfl) (fun b hb _=>himm b hb) (fun _ _ h=>h),fun hm=>⟨by rw [<- k1];exact (p9 hm).1,l7.2 (QO e5),fun j c hj=>?_⟩⟩;have hlt:j<x.length:=by
      have:j<(uns ρ x').length:=(vO.1 hj).1
      rw [<- k1] at this;exact this
     have hcj:=w7 hlt;have h1':=((p9 hm).2.2 j _ hcj).mono (yI _) (fun _ _ _=>rfl) (fun b hb _=>himm b hb) (fun _ _ h=>h);exact EQ h1' (k2 j _ c hcj hj)
  | rowI e s l m i0 x =>
   cases bx with
   | var t' ds=>exact (hvc False (by simp [vI])).elim
   | row e s l'=>exact (hvc False (by simp [vI])).elim
   | map ag ks l=>exact (hvc False (by simp [vI])).elim
   | fam f=>exact (hvc False (by simp [vI])).elim
   | rowQ e s l m x=>exact (hvc False (by simp [vI])).elim
   | rowI e' s' l' m' i' x' =>
    simp only [vI,wL] at hvc;have e1:e=e':=hvc _ (.inl (by simp));have e2:s=s':=hvc _ (.inl (by simp));have e3:l=l':=hvc _ (.inl (by simp));have e4:m=m':=hvc _ (.inl (by simp));have e5:t7 x'=true:=hvc _ (.inl (by simp));have e6:i0=i':=hvc _ (.inl (by simp));subst e1;subst e2;subst e3;subst e4;subst e6;obtain ⟨k1,k2⟩:=QK (fun p hp=>hvc p (.inr hp));rcases hok with h0 | ⟨b,cap,C,p1,p2,p3,p4,p5,p6,p7,p8,p9⟩
    ·exact .inl h0
    ·refine .inr ⟨b,cap,C,p1,p2,p3,p4,p5,p6,p7,fun i av j c hk hi hj=>(p8 i av j c hk hi hj).mono (yI _) (fun _ _ _=>rfl) (fun b hb _=>himm b hb) (fun _ _ h=>h),fun hm=>⟨(p9 hm).1,by rw [<- k1];exact (p9 hm).2.1,l7.2 (QO e5),fun j c hj=>?_⟩⟩;have hlt:j<x.length:=by
      have:j<(uns ρ x').length:=(vO.1 hj).1
      rw [<- k1] at this;exact this
     have hcj:=w7 hlt;have h1':=((p9 hm).2.2.2 j _ hcj).mono (yI _) (fun _ _ _=>rfl) (fun b hb _=>himm b hb) (fun _ _ h=>h);exact EQ h1' (k2 j _ c hcj hj)
 ·intro i hu;simp only [mk] at hu;rcases T5 (bx:=bx2) (i:=i) (d:=bif Nat.blt i ρ.length then zR.dead else .unused) with ⟨_,h⟩ | h
  ·rw [h] at hu;cases hlt:Nat.blt i ρ.length<;>rw [hlt] at hu
   ·have hge:ρ.length<=i:=by
     rcases zlg i ρ.length with h' | h'
     ·have:Nat.blt i ρ.length=true:=by simp [Nat.blt];omega
      rw [this] at hlt;cases hlt
     ·exact h'
    simp [Tc,vH hge]
   ·cases hu
  ·rw [hu] at h
   have:=(hbx _ h).2
   simp at this
 ·intro i1 i2 b1 b2 b c1 c2 h1 h2 t1 t2;obtain ⟨id1,x1,e1,l1,_⟩:=newBox i1 b1 (boxOf i1 b1 h1);obtain ⟨id2,x2,e2,l2,_⟩:=newBox i2 b2 (boxOf i2 b2 h2);rw [hTc i1 id1 e1] at t1;rw [hTc i2 id2 e2] at t2
  have:=hT.apart id1 id2 x1 x2 b c1 c2 l1 l2 t1 t2
  subst this;exact B6 hnd e1 e2
 ·intro i bx b cap hl hTi hge;obtain ⟨id,x0,e1,l1,_⟩:=newBox i bx (boxOf i bx hl);rw [hTc i id e1] at hTi;refine hT.mine id x0 b cap l1 hTi ?_;rcases zlg id np with h' | h'
  ·have:=B6 hnd (hfirst id h') e1
   omega
  ·omega
 ·intro i p hp;have hi:i<np:=by
   rw [<- hnp];rcases zlg i G.foot.length with h' | h'
   ·exact h'
   ·rw [vH h'] at hp;cases hp
  rw [hTc i i (hfirst i hi)];exact hT.foot i p hp
def wQ.loose (G:wQ):wQ:={ G with pin:=fun _=>none }
theorem jU.loose {G G':wQ} {Hd:Nat->Prop} (L:jU G G' Hd):jU G G'.loose Hd:=⟨L.pin,L.n,L.foot,⟨L.kept.os,L.kept.tape,L.kept.output,L.kept.size,L.kept.block⟩,L.I0,L.gift,L.scr,L.hid⟩
theorem uF.loose {G:wQ} {st:AS} {T:Tbl} {a:Act} {w:World} (h:uF G st T a w):uF G.loose st T a w :=
 ⟨h.defers,h.size,h.slots,h.boxes,h.unused,h.apart,h.mine,h.foot,⟨h.kept.os,h.kept.tape,h.kept.output,h.kept.size,h.kept.block⟩,fun i p hp=>by cases hp⟩
theorem D7.loose {G:wQ} {Hd:Nat->Prop} {f:Fam} (h:D7 G Hd f) (hb:TJ f=true):D7 G.loose Hd f:=by
 cases f with
 | opp=>cases hb
 | hp H pins =>
  have:pins=[]:=by simpa [TJ] using hb
  subst this;exact ⟨h.1,fun x hx=>by cases hx⟩
 | _=>exact h
theorem zGK {np:Nat} {st:AS} {ρ ids:List Nat} {sl2:List (Nat×AV)} {bx2:List (Nat×zR)} {vcs:List Prop} (h:EX np st ρ ids sl2 bx2=some vcs) (hv:qC vcs) {G:wQ} {Hd:Nat->Prop} (F:lX G Hd st) :
  lX G.loose Hd (mk sl2 bx2 ρ.length):=by
 unfold EX at h;replace h:=xM h;obtain ⟨hc,h⟩:=h;simp only [zba,tC] at hc;obtain ⟨⟨⟨hnd,_⟩,_⟩,_,hbx⟩:=hc;simp only [uU] at h;subst h;have hv:=lF hv;have key:∀ i f,(mk sl2 bx2 ρ.length).box i=.live (.fam f)->∃ id,ρ[i]?=some id/\st.box id=.live (.fam f)/\TJ f=true:=by
  intro i f hl;simp only [mk] at hl;have hm:(i,zR.live (.fam f))∈bx2:=by
   rcases T5 (bx:=bx2) (i:=i) (d:=bif Nat.blt i ρ.length then zR.dead else .unused) with ⟨_,h⟩ | h
   ·rw [h] at hl;cases hlt:Nat.blt i ρ.length<;>rw [hlt] at hl<;>cases hl
   ·rw [hl] at h;exact h
  have h1:=hbx _ hm;have hlt:i<ρ.length:=by have:=h1.1.1;simp [Nat.blt] at this;omega
  have hid:ρ[i]?=some (ρ.getD i 0):=by simp [List.getD,hlt]
  have hvc:∀ p∈vI st.box ids ρ (st.box (ρ.getD i 0)) (.live (.fam f)),p:=fun p hp=>hv p (bT _ (aB.2 ⟨_,hm,hp⟩))
  refine ⟨_,hid,?_,h1.1.2⟩;generalize st.box (ρ.getD i 0)=b0 at hvc;cases b0 with
  | unused=>exact (hvc False (by simp [vI])).elim
  | dead=>exact (hvc False (by simp [vI])).elim
  | live bb =>
   cases bb with
   | fam f'=>rw [hvc (f'=f) (by simp [vI])]
   | _=>exact (hvc False (by simp [vI])).elim
 refine ⟨fun i j f g h1 h2=>?_,fun i f h1=>?_⟩
 ·obtain ⟨id,q1,q2,_⟩:=key i f h1;obtain ⟨id',r1,r2,_⟩:=key j g h2
  have:=F.one id id' f g q2 r2
  subst this;exact B6 hnd q1 r1
 ·obtain ⟨id,q1,q2,q3⟩:=key i f h1;exact (F.ok id f q2).loose q3
theorem zMW {np:Nat} {st:AS} (ρ ids:List Nat) (sl2:List (Nat×AV)) (bx2:List (Nat×zR)) {vcs:List Prop} (h:EX np st ρ ids sl2 bx2=some vcs) (hv:qC vcs) :
  Sub np st (mk sl2 bx2 ρ.length):=by
 rintro G a w hnp ⟨G',Hd,L,F,T,hT⟩;refine ⟨G'.loose,Hd,L.loose,zGK h hv F,Tc ρ T,zI1 ρ ids sl2 bx2 h hv (by rw [<- hnp];exact congrArg List.length L.foot) (fun _=>rfl) hT.loose⟩
def B7 (P:Program) (st:AS):ResultVar->Option AV
 | .tmp t=>some (st.slot t)
 | .cell p ty =>
  match st.slot p with
  | .ptr id _ i off =>
   match st.box id with
   | .live (.var _ cs)=>bif (u5 P ty&&GL P ty)&&(Nat.beq i 0&&Nat.beq off 0) then B1 P ty cs 0 else none
   | _=>none
  | _=>none
def o7 (P:Program) (st:AS):List ResultVar->Option (List AV)
 | []=>some []
 | x::r=>match B7 P st x with
  | none=>none
  | some v=>match o7 P st r with
   | none=>none
   | some vs=>some (v::vs)
def AZ:List AV->AV
 | [v]=>v
 | vs=>.tuple vs
def G6 (P:Program) (fn:Func) (n:Nat) (st:AS):Option (AV×List zR) :=
 match o7 P st fn.results.toList with
 | some vs=>bif aU n vs&&((List.range n).all fun i=>zBp n (st.box i)) then some (AZ vs,(List.range n).map st.box) else none
 | none=>none
def Fin (P:Program) (fn:Func) (np:Nat) (post:List Box) (res:AV) (e:Exit) (st:AS):Prop :=
 (e=.normal\/e=.ret)/\(np<=post.length/\G6 P fn post.length st=some (res,post.map zR.live))
def NU (tmps:Array Value):ResultVar->Sem Value
 | .tmp t=>pure (tmps.getD t undef)
 | .cell p t=>do loadVar t (<- asAddr (tmps.getD p undef))
theorem zIm (fn:Func) (tmps:Array Value):results fn tmps=(do
  let vs <- fn.results.mapM (NU tmps)
  pure (if h:vs.size=1 then vs[0] else .tuple vs)):=rfl
theorem zNE {P:Program} {G:wQ} {st:AS} {T:Tbl} {a:Act} {w:World} (hT:uF G st T a w) {x:ResultVar} {av:AV} (h:B7 P st x=some av) :
  ∃ v,(NU a.tmps x).run P w=.ok v w/\Rep w (imm G st T) T v av:=by
 cases x with
 | tmp t=>simp only [B7,uU] at h;subst h;exact ⟨_,rfl,hT.slots t⟩
 | cell p ty =>
  simp only [B7] at h
  split at h
  case h_2=>cases h
  rename_i id sz i off hs
  split at h
  case h_2=>cases h
  rename_i tt cs hb
  replace h:=xM h;obtain ⟨hc,h⟩:=h;simp only [zba] at hc;have z1:=wT.1 hc.2.1;have z2:=wT.1 hc.2.2;have hr:=hT.slots p;rw [hs] at hr;generalize hv:a.tmps.getD p undef=vp at hr;cases hr with
  | ptr hTi ho =>
  rename_i o b cap
  obtain ⟨b',C,hp,hh,h1,h2,h3⟩:=hT.boxes id _ hb;rw [hTi] at hp;injection hp with hp;injection hp with hp1 hp2;subst hp1;obtain ⟨ha,hnn,hsub,hone⟩:=HS h h2;have ho2:o=0:=by rw [ho,z1,z2,hp2,ZQ];omega
  subst ho2;obtain ⟨v,hrun,hrep⟩:=QP (P:=P) (w:=w) (b:=b) (off:=0) (g:=fun j=>C.getD j undef) hc.1.1 ha hnn (fun j c hj=>by
   have hsj:=hsub j c hj;simp only [cQ] at hsj ⊢;have hlt:j<C.size:=by
    rw [h1];rcases zlg j cs.length with h' | h'
    ·exact h'
    ·rw [vH h'] at hsj;cases hsj
   simp [World.cell?,hh,hlt]) (I:=imm G st T) (T:=T) hone (fun j c hj=>by
   have hsj:=hsub j c hj;simp only [cQ] at hsj;exact h3 j c hsj)
  refine ⟨v,?_,hrep⟩;simp only [NU,hv,asAddr,vV,jV,v6,hrun]
theorem zE9 {P:Program} {G:wQ} {st:AS} {T:Tbl} {a:Act} {w:World} (hT:uF G st T a w) {fn:Func} {vs:List AV} (h:o7 P st fn.results.toList=some vs) :
  ∃ v,(results fn a.tmps).run P w=.ok v w/\Rep w (imm G st T) T v (AZ vs):=by
 have key:∀ (l:List ResultVar) (vs:List AV),o7 P st l=some vs->∃ us:List Value,(l.mapM (NU a.tmps)).run P w=.ok us w /\
   us.length=vs.length/\∀ (j:Nat) (c:AV),vs[j]?=some c->Rep w (imm G st T) T (us.getD j undef) c:=by
  intro l
  induction l with
  | nil=>intro vs h;simp [o7] at h;subst h;exact ⟨[],rfl,rfl,fun j c hj=>by simp at hj⟩
  | cons x r ih =>
   intro vs h;simp only [o7] at h
   split at h
   ·cases h
   rename_i av hav
   split at h
   ·cases h
   rename_i vr hvr
   injection h with h;subst h;obtain ⟨v,h1,h2⟩:=zNE hT hav;obtain ⟨us,h3,h4,h5⟩:=ih vr hvr;refine ⟨v::us,?_,by simp [h4],fun j c hj=>?_⟩
   ·rw [List.mapM_cons,vV,h1];simp only [v6,vV,h3,jV]
   ·cases j with
    | zero=>simp at hj;subst hj;simpa using h2
    | succ j=>simpa using h5 j c (by simpa using hj)
 obtain ⟨us,h1,h2,h3⟩:=key _ _ h;have hm:(fn.results.mapM (NU a.tmps)).run P w=.ok us.toArray w:=by
  rw [Array.mapM_eq_mapM_toList];simp [h1]
 have hr:(results fn a.tmps).run P w=.ok (if h:us.toArray.size=1 then us.toArray[0] else .tuple us.toArray) w:=by
  rw [zIm,vV,hm];rfl
 refine ⟨_,hr,?_⟩
 by_cases hl:us.length=1
 ·match us,hl,vs,h2,h3 with
  | [u],_,[v],_,h3 =>
   have:=h3 0 v rfl
   exact this
 ·rw [dif_neg (by simpa using hl)];have hp:AZ vs=.tuple vs:=by
   match vs,h2 with
   | [],_=>rfl
   | [_],h2=>simp at h2;exact absurd h2 hl
   | _::_::_,_=>rfl
  rw [hp];refine .tuple (by simp [h2]) fun j c hj=>?_
  have:=h3 j c hj
  simpa [List.getD] using this
mutual
theorem zCp (n:Nat):∀ (c:AV),qQ n c=true->un (List.range n) c=c
 | .junk,_=>rfl
 | .int ..,_=>rfl
 | .bool _,_=>rfl
 | .str _,_=>rfl
 | .agg cs,h=>by simp only [un];rw [E4 n cs h]
 | .tuple cs,h=>by simp only [un];rw [E4 n cs h]
 | .sl ..,_=>rfl
 | .ref _,_=>rfl
 | .nb _,_=>rfl
 | .raw _,_=>rfl
 | .fm ..,_=>rfl
 | .rawm _,_=>rfl
 | .rawp ..,_=>rfl
 | .mp id,h=>by
  have:id<n:=by simp [qQ,Nat.blt] at h;omega
  simp [un,List.getD,this]
 | .ptr id ..,h=>by
  have:id<n:=by simp [qQ,Nat.blt] at h;omega
  simp [un,List.getD,this]
 | .own id _,h=>by
  have:id<n:=by simp [qQ,Nat.blt] at h;omega
  simp [un,List.getD,this]
 | .part id ..,h=>by
  have:id<n:=by simp [qQ,Nat.blt] at h;omega
  simp [un,List.getD,this]
 | .fn _ cs,h=>by simp only [un];rw [E4 n cs h]
 | .nilp,_=>rfl
 | .nilsl,_=>rfl
theorem E4 (n:Nat):∀ (cs:List AV),aU n cs=true->uns (List.range n) cs=cs
 | [],_=>rfl
 | a::r,h=>by
  simp only [aU,zba] at h;simp only [uns];rw [zCp n a h.1,E4 n r h.2]
end
theorem zKH {n:Nat} {vs:List AV} (h:aU n vs=true):qQ n (AZ vs)=true:=by
 match vs with
 | []=>rfl
 | [v]=>simp [aU] at h;simpa [AZ] using h
 | a::b::r=>simpa [AZ,qQ] using h
def aJ (args:List AV):List (Nat×AV):=args.zipIdx.map fun x=>(x.2,x.1)
def mV (pre:List Box):List (Nat×zR):=pre.zipIdx.map fun x=>(x.2,.live x.1)
theorem zFG {args:List AV}:∀ (s t:Nat),kF ((args.zipIdx s).map fun x=>(x.2,x.1)) t=if s<=t then args.getD (t - s) .junk else .junk:=by
 induction args with
 | nil=>intro s t;simp [kF]
 | cons a r ih =>
  intro s t;simp only [T3,uM,kF];rw [ih]
  by_cases h:t=s
  ·subst h;simp
  ·rw [wV h];simp only [cond_false]
   by_cases h1:s+1<=t
   ·rw [if_pos h1,if_pos (by omega)];obtain ⟨d,hd⟩:∃ d,t - s=d+1:=⟨t - s - 1,by omega⟩;rw [hd,show t - (s+1)=d by omega];simp [List.getD]
   ·rw [if_neg h1,if_neg (by omega)]
theorem zLl {pre:List Box}:∀ (s i:Nat) (d:zR),yJ ((pre.zipIdx s).map fun x=>(x.2,zR.live x.1)) i d=if s<=i then (match pre[i - s]? with | some b=>.live b | none=>d) else d:=by
 induction pre with
 | nil=>intro s i d;simp [yJ]
 | cons a r ih =>
  intro s i d;simp only [T3,uM,yJ];rw [ih]
  by_cases h:i=s
  ·subst h;simp
  ·rw [wV h];simp only [cond_false]
   by_cases h1:s+1<=i
   ·rw [if_pos h1,if_pos (by omega)];obtain ⟨d',hd⟩:∃ d,i - s=d+1:=⟨i - s - 1,by omega⟩;rw [hd,show i - (s+1)=d' by omega];simp
   ·rw [if_neg h1,if_neg (by omega)]
theorem ZS {P:Program} {f:FuncId} {fn:Func} {code:Code} {pre giv:List Box} {args:List AV} {post:List Box} {res:AV} (hf:P.funcs[f]?=some fn) (hb:fn.body=some code) (hl:args.length<=fn.ntmps)
  (h:AW P fn.ntmps pre.length code (Fin P fn pre.length post res) (mk (aJ args) (mV (pre++giv)) (pre++giv).length)) (hnf:(pre++giv).all Box.nf=true:=by kernel_rfl):y9 P f pre giv args post res:=by
 intro w I foot gp vals hfl hgl hIf hap hflt hpre hvs hvals
 let G:wQ:={ w0:=w,I0:=I,foot:=foot,n:=fn.ntmps,gift:=fun b=>∃ cap,zY.at b cap∈gp }
 have hfgl:(foot++gp).length=(pre++giv).length:=by simp [hfl,hgl]
 generalize hpg:pre++giv=pg at h hpre hfgl hnf;have hpgl:pg.length=pre.length+giv.length:=by rw [<- hpg];simp
 have hblk:∀ i,(mk (aJ args) (mV pg) pg.length).box i=match pg[i]? with | some b=>.live b | none=>bif Nat.blt i pg.length then .dead else .unused:=by
  intro i;simp only [mk,mV];rw [zLl 0 i];simp
 have hpre_lt:∀ {i:Nat} {b:Box},pg[i]?=some b->i<pg.length:=by
  intro i b hi;rcases zlg i pg.length with h' | h'
  ·exact h'
  ·rw [vH h'] at hi;cases hi
 have hlive:∀ i bx,(mk (aJ args) (mV pg) pg.length).box i=.live bx->pg[i]?=some bx:=by
  intro i bx hb';rw [hblk] at hb'
  split at hb'
  ·rename_i b hpb;injection hb' with hb';subst hb';exact hpb
  ·cases hlt:Nat.blt i pg.length<;>rw [hlt] at hb'<;>cases hb'
 have hnofam:∀ i f,(mk (aJ args) (mV pg) pg.length).box i≠.live (.fam f):=by
  intro i f hb'
  have:=tC.1 hnf _ (yN (hlive i _ hb'))
  cases this
 have himm:∀ b,I b->imm G (mk (aJ args) (mV pg) pg.length) (fun i=>(foot++gp)[i]?) b:=by
  intro b hb';refine ⟨.inl hb',fun id bx cap hl' hTi=>?_⟩;exact hIf b hb' cap (yN hTi)
 have hrel:Rel G (mk (aJ args) (mV pg) pg.length) { tmps:=vals++Array.replicate (fn.ntmps - vals.size) undef,defers:=[] } w:=by
  refine ⟨fun i=>(foot++gp)[i]?,rfl,?_,?_,?_,?_,?_,?_,fun i p hp=>?_,⟨rfl,rfl,rfl,yI _,fun _ _ _ _=>rfl⟩,fun i p hp=>by cases hp⟩
  ·simp [G];omega
  ·intro t;have e1:(mk (aJ args) (mV pg) pg.length).slot t=args.getD t .junk:=by
    simp only [mk,aJ];rw [zFG 0 t];simp
   rw [e1];cases ha:args[t]? with
   | none=>simp only [List.getD,ha,Option.getD_none];exact .junk
   | some av =>
    have hlt:t<vals.size:=by
     rw [hvs];rcases zlg t args.length with h' | h'
     ·exact h'
     ·rw [vH h'] at ha;cases ha
    have e2:(vals++Array.replicate (fn.ntmps - vals.size) undef).getD t undef=vals.getD t undef:=by
     simp only [bG];rw [LF hlt]
    simp only [List.getD,ha,jE];rw [e2];exact (hvals t av ha).mono (yI _) (fun _ _ _=>rfl) (fun b hb' _=>himm b hb') (fun _ _ h=>h)
  ·intro i bx hl';exact (hpre i bx (hlive i bx hl')).mono (yI _) (fun _ _ _=>rfl) (fun b hb' _=>himm b hb') (fun _ _ h=>h) (fun _ _ _ _=>rfl)
  ·intro i hu;rw [hblk] at hu
   split at hu
   ·cases hu
   ·cases hlt:Nat.blt i pg.length<;>rw [hlt] at hu
    ·have:pg.length<=i:=by
      rcases zlg i pg.length with h' | h'
      ·have:Nat.blt i pg.length=true:=by simp [Nat.blt];omega
       rw [this] at hlt;cases hlt
      ·exact h'
     exact vH (by omega)
    ·cases hu
  ·intro i j bx bx' b c c' _ _ h1 h2;exact hap i j b c c' h1 h2
  ·intro i bx b cap hl' hTi hge;simp only [G] at hge;replace hTi:(foot++gp)[i]?=some (zY.at b cap):=hTi;rw [u4 hge] at hTi;exact .inr ⟨cap,yN hTi⟩
  ·have hlt:i<foot.length:=by
    rcases zlg i foot.length with h' | h'
    ·exact h'
    ·simp only [G] at hp;rw [vH h'] at hp;cases hp
   show (foot++gp)[i]?=some p;rw [uH hlt];exact hp
 refine calls_of_wp hf hb (GD ?_ (h G _ w rfl (by simp [G,hfl]) (vJ.into (fun _=>rfl) hnofam hrel)));rintro e a' w' ⟨st',⟨he,hnp,hfin⟩,hRF⟩;obtain ⟨T',hT'⟩:=hRF.out;have hfinal:a'.defers=[]/\∃ v,(results fn a'.tmps).run P w'=.ok v w'/\(∃ (v':Value) (new:List zY),Ending.returned v=.returned v'/\w'.os=w.os/\w'.tape=w.tape/\w'.output=w.output/\w.heap.size<=w'.heap.size /\
   (∀ b,b<w.heap.size->(∀ cap,zY.at b cap∉foot++gp)->w'.heap[b]?=w.heap[b]?) /\
   pre.length+new.length=post.length/\(∀ b cap,zY.at b cap∈new->w.heap.size<=b\/∃ cap',zY.at b cap'∈gp)/\(∀ (i j b c c':Nat),new[i]?=some (zY.at b c)->new[j]?=some (zY.at b c')->i=j) /\
   Rep w' (kept I w gp new) (fun i=>(foot++new)[i]?) v' res /\
   ∀ (i:Nat) (bx:Box),post[i]?=some bx->uJ w' (kept I w gp new) (fun i=>(foot++new)[i]?) ((foot++new)[i]?) bx):=by
  refine ⟨hT'.defers,?_⟩;unfold G6 at hfin
  split at hfin
  case h_2=>cases hfin
  rename_i vs hvs'
  replace hfin:=xM hfin;obtain ⟨hc,hfin⟩:=hfin;simp only [zba,tC] at hc;simp only [uU,kU] at hfin;obtain ⟨rfl,hposts⟩:=hfin;obtain ⟨v,hrun,hrep⟩:=zE9 hT' hvs';have hpostlt:∀ {i:Nat} {bx:Box},post[i]?=some bx->i<post.length:=by
   intro i bx hbx;rcases zlg i post.length with h' | h'
   ·exact h'
   ·rw [vH h'] at hbx;cases hbx
  have hsb:∀ {i:Nat} {bx:Box},post[i]?=some bx->st'.box i=.live bx:=by
   intro i bx hbx
   have:=congrArg (·[i]?) hposts
   simp only [vD,DJ (hpostlt hbx),kH,hbx] at this;injection this
  have hTi:∀ i,i<post.length->∃ p bx,T' i=some p/\st'.box i=.live bx:=by
   intro i hi;have hb:=hsb (w7 hi);have hok:=hT'.boxes i _ hb;cases hTi:T' i with
   | some p=>exact ⟨p,_,rfl,hb⟩
   | none =>
    rw [hTi] at hok;generalize post[i]=bx at hok;exact hok.no.elim
  let new:List zY:=(List.range (post.length - pre.length)).map fun k=>(T' (pre.length+k)).getD .nil
  have hnl:new.length=post.length - pre.length:=by simp [new]
  have hnewget:∀ k,k<post.length - pre.length->new[k]?=T' (pre.length+k):=by
   intro k hk;obtain ⟨p,_,hp,_⟩:=hTi (pre.length+k) (by omega);simp only [new,vD,DJ hk,kH,hp,jE]
  have hnewmem:∀ b cap,zY.at b cap∈new->∃ k,k<post.length - pre.length/\T' (pre.length+k)=some (.at b cap):=by
   intro b cap hm;obtain ⟨k,hk⟩:=uG.1 hm;have hlt:k<post.length - pre.length:=by
    rw [<- hnl];rcases zlg k new.length with h' | h'
    ·exact h'
    ·rw [vH h'] at hk;cases hk
   exact ⟨k,hlt,by rw [<- hnewget k hlt];exact hk⟩
  have himm':∀ b,imm G st' T' b->kept I w gp new b:=by
   intro b hb';have hnn:∀ cap,zY.at b cap∉new:=fun cap hm=>by
    obtain ⟨k,hk,hTk⟩:=hnewmem b cap hm;obtain ⟨_,bx,_,hb⟩:=hTi (pre.length+k) (by omega);exact hb'.2 _ bx cap hb hTk
   rcases zlg b w.heap.size with hlt | hge
   ·rcases hb'.1 with h0 | h0 | h0
    ·exact .inl ⟨h0,hlt⟩
    ·simp only [G] at h0;omega
    ·exact .inr ⟨.inr h0,hnn⟩
   ·exact .inr ⟨.inl hge,hnn⟩
  have hTc:Tc (List.range post.length) T'=fun i=>(foot++new)[i]?:=by
   funext j
   simp only [Tc];rcases zlg j post.length with h' | h'
   ·rw [DJ h'];simp only;rcases zlg j pre.length with h'' | h''
    ·rw [uH (by omega)];have hfj:foot[j]?=some (foot[j]'(by omega)):=w7 (by omega);rw [hfj];exact hT'.foot j _ hfj
    ·rw [u4 (by omega),hfl,hnewget (j - pre.length) (by omega),show pre.length+(j - pre.length)=j by omega]
   ·rw [vH (by simpa using h'),vH (by rw [zla];omega)]
  refine ⟨v,hrun,v,new,rfl,hT'.kept.os,hT'.kept.tape,hT'.kept.output,hT'.kept.size,fun b hb' hn=>hT'.kept.block b hb' (fun ⟨cap,hm⟩=>hn cap (rM _ hm)) (fun h=>by rcases h with ⟨cap,hm⟩ | h;exact hn cap (bT _ hm);exact h),by omega,?_,?_,?_,?_⟩
  ·intro b cap hm;obtain ⟨k,hk,hTk⟩:=hnewmem b cap hm;obtain ⟨_,bx,_,hb⟩:=hTi (pre.length+k) (by omega);exact hT'.mine _ bx b cap hb hTk (by simp only [G];omega)
  ·intro i j b c c' h1 h2;have lt:∀ {k:Nat} {x:zY},new[k]?=some x->k<post.length - pre.length:=by
    intro k x hk;rw [<- hnl];rcases zlg k new.length with h' | h'
    ·exact h'
    ·rw [vH h'] at hk;cases hk
   have hi:=lt h1;have hj:=lt h2;rw [hnewget i hi] at h1;rw [hnewget j hj] at h2;obtain ⟨_,bx,_,hb⟩:=hTi (pre.length+i) (by omega);obtain ⟨_,bx',_,hb'⟩:=hTi (pre.length+j) (by omega)
   have:=hT'.apart _ _ bx bx' b c c' hb hb' h1 h2
   omega
  ·have hbel:=zKH hc.1
   have:=D0 (foot:=List.range post.length) hrep (AZ vs) (zCp _ _ hbel) (by rw [rQ];exact hbel)
   rw [hTc] at this;exact this.mono (yI _) (fun _ _ _=>rfl) (fun b hb' _=>himm' b hb') (fun _ _ h=>h)
  ·intro i bx hbx;have hi:=hpostlt hbx;have hb:=hsb hbx;have hbel:=hc.2 i (dD.2 hi);rw [hb] at hbel;have hok:=(hT'.boxes i bx hb).mono (I':=kept I w gp new) (T':=T') (yI _) (fun _ _ _=>rfl) (fun b hb' _=>himm' b hb') (fun _ _ h=>h) (fun _ _ _ _=>rfl);have e3:(foot++new)[i]?=T' i:=by
    have:=congrFun hTc i
    simp only [Tc,DJ hi] at this;exact this.symm
   rw [<- e3] at hok;have hun:unB (List.range post.length) bx=bx:=by
    cases bx with
    | var t cs=>simp only [unB];rw [E4 _ cs hbel]
    | row e s l=>rfl
    | map ag ks l=>rfl
    | fam f=>rfl
    | rowQ e s l m x=>simp only [unB];rw [E4 _ x hbel]
    | rowI e s l m i x=>simp only [unB];rw [E4 _ x hbel]
   have hok2:=UE (foot:=List.range post.length) (T:=T') (bx:=bx) (by rw [hun];exact hok) (by rw [rQ];exact hbel);rw [hTc] at hok2;exact hok2
 rcases he with rfl | rfl
 ·exact hfinal
 ·exact hfinal
theorem zL6 {P:Program} {f:FuncId} {fn:Func} {code:Code} {pre:List Box} {args:List AV} {post:List Box} {res:AV} (hf:P.funcs[f]?=some fn) (hb:fn.body=some code) (hl:args.length<=fn.ntmps)
  (h:AW P fn.ntmps pre.length code (Fin P fn pre.length post res) (mk (aJ args) (mV pre) pre.length)) (hnf:pre.all Box.nf=true:=by kernel_rfl):E8 P f pre args post res :=
 ZS hf hb hl (by rw [aE];exact h) (by rw [aE];exact hnf)
abbrev zG (x:Int):Int:=IntKind.i64.wrap x
abbrev zH3 (x:Int):Int:=IntKind.u8.wrap x
abbrev z9 (x:Int):Int:=IntKind.u64.wrap x
def z0 {α:Type} (l:List α) (i:Int):Option α:=if 0<=i then l[i.toNat]? else none
def sub {α:Type} (l:List α) (a b:Int):List α:=(l.take b.toNat).drop a.toNat
def need (p:Prop) [Decidable p]:Option Unit:=if p then some () else none
theorem W4 {p:Prop} [Decidable p] {u:Unit} (h:need p=some u):p:=by
 unfold need at h;split at h
 ·assumption
 ·cases h
theorem zMC {α:Type} {e:α->AV} {l:List α} {i:Int} {x:α} (h:z0 l i=some x):E1 (l.map e) i=some (e x):=by
 unfold z0 at h;unfold E1
 split at h
 ·rename_i h0;rw [if_pos h0,vD,h];rfl
 ·cases h
theorem zFT {α:Type} {e:α->AV} {l:List α} {b:Int} (h:b<=l.length):b<=(l.map e).length:=by rw [vL];exact h
theorem XE {α:Type} {e:α->AV} {l:List α} {b:Nat} (h:b<=l.length):b<=(l.map e).length:=by rw [vL];exact h
theorem zHY {α:Type} {e:α->AV} (l:List α) (a b:Int):(sub l a b).map e=((l.map e).take b.toNat).drop a.toNat:=by simp [sub]
theorem zBW {α:Type} {e:α->AV} (l m:List α):(l++m).map e=l.map e++m.map e:=nH
theorem D8 {α:Type} {e:α->AV} {n:Nat} {x:α}:(List.replicate n x).map e=List.replicate n (e x):=by simp
theorem bR {α:Type} {e:α->AV} (l:List α) (i:Nat) (x:α):(l.set i x).map e=(l.map e).set i (e x):=by simp
theorem aD {α:Type} {e:α->AV} {l:List α} {i:Int} {x:α} (h:z0 l i=some x):(l.map e)[i.toNat]?=some (e x):=by
 unfold z0 at h
 split at h
 ·rw [vD,h];rfl
 ·cases h
theorem qE {α:Type} {l:List α} {i:Int} {x:α} (h:z0 l i=some x):0<=i:=by
 unfold z0 at h;split at h
 ·assumption
 ·cases h
theorem aG {α:Type} {l:List α} {i:Int} {x:α} (h:z0 l i=some x):i<l.length:=by
 unfold z0 at h;split at h
 ·rename_i h0
  rcases zlg i.toNat l.length with h' | h'
  ·omega
  ·rw [vH h'] at h;cases h
 ·cases h
def cpy {α:Type} (L:List α) (lo hi:Nat) (m:List α):List α:=L.take lo++m.take (min m.length (hi - lo))++L.drop (lo+min m.length (hi - lo))
theorem zDO {α:Type} {L m:List α} {lo hi:Nat} (h1:lo<=hi) (h2:hi<=L.length):(cpy L lo hi m).length=L.length:=by
 simp only [cpy,zla,nL,DU];omega
theorem M7 {α β:Type} {x:Option α} {f:α->Option β} {r:β} (h:x.bind f=some r):∃ a,x=some a/\f a=some r:=by
 cases x with
 | none=>cases h
 | some a=>exact ⟨a,rfl,h⟩
theorem SB {α:Type} {b:Bool} {x y z:α} (hb:b=true) (h:(bif b then x else y)=z):x=z:=by rw [hb] at h;exact h
theorem SQ {α:Type} {b:Bool} {x y z:α} (hb:b=false) (h:(bif b then x else y)=z):y=z:=by rw [hb] at h;exact h
def KS (np:Nat) (K:Exit->AS->Prop) (e:Exit) (st:AS):Prop:=∃ st2,Sub np st st2/\K e st2
theorem BP {P:Program} {N np:Nat} {c:Code} {K K1:Exit->AS->Prop} {st:AS} (h:AW P N np c K1 st) (hk:∀ e st,K1 e st->KS np K e st):AW P N np c K st:=by
 intro G a w hN hnp hR;refine GD ?_ (h G a w hN hnp hR);rintro e a' w' ⟨st',h1,h2⟩;obtain ⟨st2,h3,h4⟩:=hk e st' h1;exact ⟨st2,h4,h3 G a' w' hnp h2⟩
theorem xG {P:Program} {N np:Nat} {c:Code} {K:Exit->AS->Prop} {st:AS} (S:AS) (h1:AW P N np c (fun e st'=>e=.normal/\Sub np st' S) st) (h2:K .normal S):AW P N np c K st :=
 BP h1 (by rintro e st' ⟨rfl,hs⟩;exact ⟨S,hs,h2⟩)
theorem Sub.refl (np:Nat) (st:AS):Sub np st st:=fun _ _ _ _ h=>h
theorem xW {P:Program} {N np:Nat} {c:Code} {K:Exit->AS->Prop} {st:AS} (I:Nat->AS->Prop) (n:Nat) (hc:c=.loop (Code.b c)) (h0:I n st) (hz:∀ st,¬ I 0 st)
  (h:∀ n st,I (n+1) st->AW P N np (Code.b c) (fun e st'=>match e with | .normal=>KS np (fun _ s=>I n s) .normal st' | e=>K e st') st):AW P N np c K st:=by
 refine zEI (fun n st=>∃ st2,Sub np st st2/\I n st2) n hc ⟨st,Sub.refl _ _,h0⟩ ?_;rintro n st ⟨st2,hs,hI⟩;cases n with
 | zero=>exact absurd hI (hz st2)
 | succ n =>
  refine wX hs (zDt (h n st2 hI) ?_);intro e st' hk;cases e with
  | normal=>exact ⟨n,Nat.lt_succ_self n,hk⟩
  | _=>exact hk
def BO (f:Func):Code:=match f.body with | some c=>c | none=>.skip
def NY (P:Program) (fn:Func) (np:Nat) (post:List Box) (res:AV) (st:AS):Prop :=
 np<=post.length/\G6 P fn post.length st=some (res,post.map zR.live)
theorem ctr {α:Type} {g:Bool} {v x y:α} (h:g=true) (e:v=x):v=(bif g then x else y):=by rw [h];exact e
theorem cfr {α:Type} {g:Bool} {v x y:α} (h:g=false) (e:v=y):v=(bif g then x else y):=by rw [h];exact e
theorem nD {g v w:Bool} (h:g=true) (e:v=w):v=(g&&w):=by rw [h];simpa using e
theorem gA {g w:Bool} (h:g=false):false=(g&&w):=by rw [h];rfl
theorem ort {g w:Bool} (h:g=true):true=(g||w):=by rw [h];rfl
theorem orf {g v w:Bool} (h:g=false) (e:v=w):v=(g||w):=by rw [h];simpa using e
theorem zGh {α:Type} {e:α->AV} {l:List α} {i:Nat} {x:α} (h:l[i]?=some x):(l.map e)[i]?=some (e x):=by rw [vD,h];rfl
theorem zLY {α:Type} {e:α->AV} (l:List α) (a:Int):(sub l a (((l.length:Nat):Int))).map e=((l.map e).take ((((l.map e).length:Nat):Int)).toNat).drop a.toNat:=by
 simp only [sub,wB,CU,List.map_drop]
theorem zI9 {α:Type} {e:α->AV} (l m:List α) (a b:Nat):(l++(m.take a).drop b).map e=l.map e++((m.map e).take a).drop b:=by rw [nH,List.map_drop,O4]
theorem xS {α:Type} {a:α} {p:Prop} (h:(none:Option α)=some a):p:=by cases h
theorem WY {P:Program} {f:FuncId} {pre giv:List Box} {args args':List AV} {post:List Box} {res:AV} (h:y9 P f pre giv args' post res) (h1:args'.all rO=true) (hl:qC (o5 args args')) :
  y9 P f pre giv args post res:=by
 intro w I foot gp vals a1 a0 a2 a3 a4 a5 a6 a7;obtain ⟨hlen,hr⟩:=zCF (lF hl);refine h w I foot gp vals a1 a0 a2 a3 a4 a5 (a6.trans hlen) ?_;intro j av hj;have hlt:j<args.length:=by
  rw [hlen];rcases zlg j args'.length with h' | h'
  ·exact h'
  ·rw [vH h'] at hj;cases hj
 exact zAi (a7 j _ (w7 hlt)) (hr j _ av (w7 hlt) hj) (tC.1 h1 av (yN hj))
inductive Sh where
 | int (k:IntKind)
 | bool
 | str
 | sl (agg:Bool) (e:List Sh)
abbrev d6:Nat:=140737488355328
inductive Fit:List Sh->List AV->Prop
 | nil:Fit [] []
 | int {k n r b}:k.wrap n=n->Fit r b->Fit (.int k::r) (.int k n::b)
 | bool {v r b}:Fit r b->Fit (.bool::r) (.bool v::b)
 | str {l r b}:(∀ x∈l,0<=x/\x<256)->l.length<=d6->Fit r b->Fit (.str::r) (.str l::b)
 | slA {e l r b} (g:AV->List AV):(∀ a∈l,a=.agg (g a))->(∀ a∈l,Fit e (g a))->l.length<=d6->Fit r b->Fit (.sl true e::r) (.sl false e.length l::b)
 | slC {e l r b}:e.length=1->(∀ a∈l,Fit e [a])->l.length<=d6->Fit r b->Fit (.sl false e::r) (.sl false e.length l::b)
theorem Fit.len {s:List Sh} {a:List AV} (h:Fit s a):a.length=s.length:=by
 induction h with
 | nil=>rfl
 | int _ _ ih=>simp [ih]
 | bool _ ih=>simp [ih]
 | str _ _ _ ih=>simp [ih]
 | slA _ _ _ _ _ _ ih=>simp [ih]
 | slC _ _ _ _ _ ih=>simp [ih]
theorem Fit.append {s s':List Sh} {a a':List AV} (h:Fit s a) (h':Fit s' a'):Fit (s++s') (a++a'):=by
 induction h with
 | nil=>exact h'
 | int x _ ih=>exact .int x ih
 | bool _ ih=>exact .bool ih
 | str x y _ ih=>exact .str x y ih
 | slA g x y z _ _ ih=>exact .slA g x y z ih
 | slC w x z _ _ ih=>exact .slC w x z ih
theorem Fit.one {s:List Sh} {a:List AV} (h:Fit s a):∀ c∈a,c.one=true:=by
 induction h with
 | nil=>intro c hc;cases hc
 | int _ _ ih=>intro c hc;cases hc with | head=>rfl | tail _ hc=>exact ih c hc
 | bool _ ih=>intro c hc;cases hc with | head=>rfl | tail _ hc=>exact ih c hc
 | str _ _ _ ih=>intro c hc;cases hc with | head=>rfl | tail _ hc=>exact ih c hc
 | slA _ _ _ _ _ _ ih=>intro c hc;cases hc with | head=>rfl | tail _ hc=>exact ih c hc
 | slC _ _ _ _ _ ih=>intro c hc;cases hc with | head=>rfl | tail _ hc=>exact ih c hc
def NG (P:Program) (g:TypeId->Option (List Sh)):List Field->Nat->Option (List Sh)
 | [],_=>some []
 | f::r,off =>
  match g f.type with
  | none=>none
  | some a=>match NG P g r (off+P.cellsOf f.type) with
   | none=>none
   | some b=>bif Nat.beq f.offset off&&Nat.beq a.length (P.cellsOf f.type) then some (a++b) else none
def dI (P:Program):Nat->TypeId->Option (List Sh)
 | 0,_=>none
 | n+1,t =>
  match P.underlying t with
  | some (.int k)=>some [.int k]
  | some .bool=>some [.bool]
  | some .string=>some [.str]
  | some (.slice e)=>match dI P n e with
   | some ss=>bif (Nat.beq ss.length (P.cellsOf e)&&!(Nat.beq ss.length 0))&&(uQ P e||Nat.beq ss.length 1)&&Nat.ble 1 (P.bytesOf e) then some [.sl (uQ P e) ss] else none
   | none=>none
  | some (.struct fs)=>match NG P (dI P n) fs.toList 0 with
   | some ss=>bif Nat.beq ss.length (P.cellsOf t) then some ss else none
   | none=>none
  | some (.array m e)=>match dI P n e with
   | some ss=>bif Nat.beq ss.length (P.cellsOf e)&&Nat.beq (m * ss.length) (P.cellsOf t) then some ((List.replicate m ss).flatten) else none
   | none=>none
  | _=>none
theorem zKE {w:World} {a:Addr} {v:Value} (h:w.cell? a=some v):a.block<w.heap.size:=by
 rcases zlg a.block w.heap.size with h' | h'
 ·exact h'
 ·simp [World.cell?,fJ h'] at h
theorem zGb {k:IntKind} {n:Int} (h:(Lit.int k n).wf=true):k.wrap n=n:=by
 simp only [Lit.wf,zba,IntKind.min,IntKind.max] at h;apply GI;obtain ⟨h1,h2⟩:=h;replace h1:=of_decide_eq_true h1;replace h2:=of_decide_eq_true h2
 constructor
 ·exact h1
 ·by_cases hs:k.signed=true
  ·rw [if_pos hs] at h2 ⊢;omega
  ·rw [if_neg hs] at h2 ⊢;omega
theorem Rep.cells_one {c:AV} (h:c.one=true):c.cells=[c]:=by cases c<;>simp_all [AV.one,AV.cells]
theorem zEv {H:Type} {P:Program} {e:TypeId}:∀ {l:List (DataW H)} {d:DataW H},d∈l->∀ k∈d.weights P e,k∈DataW.weightsAll P e l:=by
 intro l
 induction l with
 | nil=>intro d h;cases h
 | cons a r ih =>
  intro d h k hk;simp only [DataW.weightsAll,wL];rcases uA.1 h with rfl | h
  ·exact .inl hk
  ·exact .inr (ih h k hk)
theorem zJ6 {H:Type} {enc:TypeId×Value->H} {P:Program} {w:World} {I:Nat->Prop} (hI:∀ b,b<w.heap.size->I b) {base:Nat} {spare:Nat->Bool} {held:Bool} :
  ∀ (n:Nat) (t:TypeId) (ss:List Sh) (fuel:Nat) (cs:List Value) (x:DataW H×List MemPlace) (T:Tbl),dI P n t=some ss->DataW.trod enc P w base spare held fuel t cs=some x->(∀ k∈x.1.weights P t,k<=d6) ->
   ∃ avs,Fit ss avs/\cs.length=avs.length/\∀ j c,avs[j]?=some c->Rep w I T (cs.getD j undef) c:=by
 intro n
 induction n with
 | zero=>intro t ss fuel cs x T h;simp [dI] at h
 | succ n ih =>
  intro t ss fuel cs x T h hx hw;simp only [dI] at h
  split at h
  ·rename_i k hk
   injection h with h;subst h;obtain ⟨m,rfl,_,hwf⟩:=DataW.trod_int hk hx;refine ⟨[.int k m],.int (zGb hwf) .nil,rfl,?_⟩;intro j c hj
   match j with
   | 0=>simp at hj;subst hj;exact .int (zGb hwf)
   | j+1=>simp at hj
  ·rename_i hk
   injection h with h;subst h;obtain ⟨m,rfl,_⟩:=DataW.trod_bool hk hx;refine ⟨[.bool m],.bool .nil,rfl,?_⟩;intro j c hj
   match j with
   | 0=>simp at hj;subst hj;exact .bool
   | j+1=>simp at hj
  ·rename_i hk
   injection h with h;subst h;obtain ⟨m,rfl,hxe,hm⟩:=DataW.trod_string hk hx;have hl:(bytesOf m).length<=maxLen:=by
    have e:(bytesOf m).length=m.size:=by simp only [bytesOf,vL,oN];rfl
    rw [e];exact hm
   have hl2:(bytesOf m).length<=d6:=by
    have:=hw m.data.toList.length (by rw [hxe];simp [DataW.weights])
    have e:(bytesOf m).length=m.data.toList.length:=by simp only [bytesOf,vL,oN]
    rw [e];exact this
   refine ⟨[.str (bytesOf m)],.str (zB3 m) hl2 .nil,rfl,?_⟩;intro j c hj
   match j with
   | 0 =>
    simp at hj;subst hj
    have:=Rep.str (w:=w) (I:=I) (T:=T) (zB3 m) hl
    rw [zDg] at this;exact this
   | j+1=>simp at hj
  ·rename_i e hk
   split at h
   case h_2=>cases h
   rename_i ss' hss
   replace h:=xM h;obtain ⟨hc,h⟩:=h;simp only [zba,rJ,pH] at hc;obtain ⟨⟨⟨hlen,hne⟩,hagg⟩,hby⟩:=hc;replace hby:=zle hby;have hlen:=wT.1 hlen;have hpos:0<ss'.length:=by
    rcases DD ss'.length with h0 | h0
    ·rw [h0] at hne;simp at hne
    ·exact h0
   injection h with h;subst h;have fin:∀ (l:List AV) (v:Value),l.length<=d6 ->
     (uQ P e=true->∃ g:AV->List AV,(∀ a∈l,a=.agg (g a))/\∀ a∈l,Fit ss' (g a))->(uQ P e=false->∀ a∈l,Fit ss' [a]) ->
     Rep w I T v (.sl false ss'.length l)->∃ avs,Fit [.sl (uQ P e) ss'] avs/\[v].length=avs.length/\∀ j c,avs[j]?=some c->Rep w I T ([v].getD j undef) c:=by
    intro l v hl hA hC hr;refine ⟨[.sl false ss'.length l],?_,rfl,?_⟩
    ·cases ha:uQ P e
     ·refine .slC ?_ (hC ha) hl .nil;rcases hagg with h1 | h1
      ·rw [ha] at h1;cases h1
      ·exact wT.1 h1
     ·obtain ⟨g,h1,h2⟩:=hA ha;exact .slA g h1 h2 hl .nil
    ·intro j c hj
     match j with
     | 0=>simp at hj;subst hj;exact hr
     | j+1=>simp at hj
   rcases DataW.trod_slice hk hx with ⟨rfl,_⟩ | ⟨a,len,cap,elems,rest,m,_,rfl,hxe,_,hlc,hcm,hel,hget,_,_⟩
   ·exact fin [] _ (by simp) (fun _=>⟨fun _=>[],by simp,by simp⟩) (fun _=>by simp) (.sl0 (by decide) (by intro h;cases h))
   have hlenM:len<=d6:=by
    have h1:=hw (((elems.map (·.1)).length+(rest.map (·.1)).length) * P.bytesOf e) (by rw [hxe];simp [DataW.weights,hk]);have h2:(elems.map (·.1)).length+(rest.map (·.1)).length<=((elems.map (·.1)).length+(rest.map (·.1)).length) * P.bytesOf e:=ZX _ hby;rw [vL] at h1 h2;omega
   have hwe:∀ d∈elems,∀ k∈d.1.weights P e,k<=d6:=fun d hd k hk2=>hw k (by
    rw [hxe];simp only [DataW.weights,hk,uA,wL];exact .inr (.inl (zEv (vB.2 ⟨d,hd,rfl⟩) k hk2)))
   have key:∀ i,i<len->∃ (ci:List Value) (avs:List AV),(∀ j,j<ss'.length->w.cell? ((a.add (i * P.cellsOf e)).add j)=ci[j]?)/\ci.length=ss'.length/\Fit ss' avs/\∀ j c,avs[j]?=some c->Rep w I Tbl.empty (ci.getD j undef) c:=by
    intro i hi;have h1:=hget i hi;have h2:elems[i]?=some (elems[i]'(by omega)):=w7 (by omega);rw [h2,JS] at h1;obtain ⟨ci,h3,h4⟩:=h1;obtain ⟨_,h5,h6⟩:=World.cells?_some h3;obtain ⟨avs,h7,h8,h9⟩:=ih e ss' m ci _ Tbl.empty hss h4 (hwe _ (g8 _));exact ⟨ci,avs,fun j hj=>h6 j (by omega),by omega,h7,h9⟩
   rcases DD len with h0 | h0
   ·subst h0;exact fin [] _ (by simp) (fun _=>⟨fun _=>[],by simp,by simp⟩) (fun _=>by simp) (.sl0 hcm (by intro h;cases h))
   have spot:a.spot=none/\a.block<w.heap.size:=by
    obtain ⟨ci,avs,h1,h2,_⟩:=key 0 h0;have h3:=h1 0 hpos;have h4:ci[0]?=some (ci[0]'(by omega)):=w7 (by omega);rw [h4] at h3;have h5:=World.cell?_spot h3;have h6:=zKE h3
    constructor
    ·revert h5;unfold Addr.add;cases ha:a.spot<;>simp [ha]
    ·revert h6;unfold Addr.add;cases a.spot<;>simp
   obtain ⟨b,off,sp⟩:=a;obtain ⟨rfl,hb⟩:=spot;simp only at hb;obtain ⟨C,hC⟩:=Classical.axiomOfChoice (r:=fun i (ci:List Value)=>i<len->∃ (avs:List AV),(∀ j,j<ss'.length->w.cell? (((⟨b,off,none⟩:Addr).add (i * P.cellsOf e)).add j)=ci[j]?)/\ci.length=ss'.length/\Fit ss' avs/\∀ j c,avs[j]?=some c->Rep w I Tbl.empty (ci.getD j undef) c) (fun i=>by
    by_cases hi:i<len
    ·obtain ⟨ci,h⟩:=key i hi;exact ⟨ci,fun _=>h⟩
    ·exact ⟨[],fun h=>absurd h hi⟩)
   obtain ⟨V,hV⟩:=Classical.axiomOfChoice (r:=fun i (avs:List AV)=>i<len->(∀ j,j<ss'.length->w.cell? (((⟨b,off,none⟩:Addr).add (i * P.cellsOf e)).add j)=(C i)[j]?)/\(C i).length=ss'.length/\Fit ss' avs/\∀ j c,avs[j]?=some c->Rep w I Tbl.empty ((C i).getD j undef) c) (fun i=>by
    by_cases hi:i<len
    ·obtain ⟨avs,h⟩:=hC i hi;exact ⟨avs,fun _=>h⟩
    ·exact ⟨[],fun h=>absurd h hi⟩)
   let L:List AV:=(List.range len).map fun i=>bif uQ P e then AV.agg (V i) else (V i).headD .junk
   have hLlen:L.length=len:=by simp [L]
   have hLget:∀ i av,L[i]?=some av->i<len/\av=(bif uQ P e then AV.agg (V i) else (V i).headD .junk):=by
    intro i av hi;simp only [L,vD] at hi;rcases zlg i len with h' | h'
    ·rw [DJ h',kH] at hi;injection hi with hi;exact ⟨h',hi.symm⟩
    ·rw [vH (by simpa using h')] at hi;cases hi
   have hLmem:∀ av∈L,∃ i,i<len/\av=(bif uQ P e then AV.agg (V i) else (V i).headD .junk):=by
    intro av hm;obtain ⟨i,hi⟩:=uG.1 hm;exact ⟨i,hLget i av hi⟩
   have single:uQ P e=false->∀ i,i<len->V i=[(V i).headD .junk]:=by
    intro ha i hi;have h1:=(hV i hi).2.2.1.len;have h2:ss'.length=1:=by
     rcases hagg with h1 | h1
     ·rw [ha] at h1;cases h1
     ·exact wT.1 h1
    rw [h2] at h1
    match hv:V i,h1 with
    | [x],_=>rfl
   have cellsEq:∀ i,i<len->(bif uQ P e then AV.agg (V i) else (V i).headD .junk).cells=V i:=by
    intro i hi;cases ha:uQ P e
    ·have h1:=single ha i hi;simp only [cond_false];have h2:((V i).headD AV.junk).one=true:=(hV i hi).2.2.1.one _ (by rw [h1];simp);rw [Rep.cells_one h2];exact h1.symm
    ·rfl
   refine fin L _ (by omega) (fun ha=>⟨fun a=>a.cells,?_,?_⟩) (fun ha=>?_) ?_
   ·intro av hm;obtain ⟨i,hi,rfl⟩:=hLmem av hm;show _=AV.agg (AV.cells _);rw [cellsEq i hi,ha];rfl
   ·intro av hm;obtain ⟨i,hi,rfl⟩:=hLmem av hm;show Fit ss' (AV.cells _);rw [cellsEq i hi];exact (hV i hi).2.2.1
   ·intro av hm;obtain ⟨i,hi,rfl⟩:=hLmem av hm;rw [ha];simp only [cond_false];rw [<- single ha i hi];exact (hV i hi).2.2.1
   ·refine .sl (fun i j=>(C i).getD j undef) hLlen.symm hlc hcm (by intro h;cases h) ?_ ?_ (hI b hb) hb ?_ ?_
    ·intro av hm;obtain ⟨i,hi,rfl⟩:=hLmem av hm;rw [cellsEq i hi];exact (hV i hi).2.2.1.len
    ·intro av hm;obtain ⟨i,hi,rfl⟩:=hLmem av hm;rw [cellsEq i hi];exact (hV i hi).2.2.1.one
    ·intro i av j c hi hj;replace hi:=hLget i av hi;obtain ⟨hi,rfl⟩:=hi;rw [cellsEq i hi] at hj;have hjl:j<ss'.length:=by
      rw [<- (hV i hi).2.2.1.len];rcases zlg j (V i).length with h' | h'
      ·exact h'
      ·rw [vH h'] at hj;cases hj
     have h1:=(hV i hi).1 j hjl;have h2:=(hV i hi).2.1;rw [mC,mC,<- hlen] at h1;rw [h1,w7 (by omega)];simp [List.getD,w7 (show j<(C i).length by omega)]
    ·intro i av j c hi hj;replace hi:=hLget i av hi;obtain ⟨hi,rfl⟩:=hi;rw [cellsEq i hi] at hj;exact (hV i hi).2.2.2 j c hj
  ·rename_i fs hk
   split at h
   case h_2=>cases h
   rename_i ss' hss
   replace h:=xM h;obtain ⟨hc,h⟩:=h;injection h with h;subst h;obtain ⟨xs,m,_,hxe,hcl,hxl,hget⟩:=DataW.trod_struct hk hx;have key:∀ (l:List Field) (off:Nat) (ss:List Sh),NG P (dI P n) l off=some ss->(∀ f∈l,∃ y,DataW.trod enc P w base spare held m f.type ((cs.drop f.offset).take (P.cellsOf f.type))=some y/\∀ k∈y.1.weights P f.type,k<=d6) ->
     ∃ avs,Fit ss avs/\∀ j c,avs[j]?=some c->Rep w I T (cs.getD (off+j) undef) c:=by
    intro l
    induction l with
    | nil=>intro off ss h _;simp [NG] at h;subst h;exact ⟨[],.nil,fun j c hj=>by simp at hj⟩
    | cons f r ihl =>
     intro off ss h hall;simp only [NG] at h
     split at h
     ·cases h
     rename_i a ha
     split at h
     ·cases h
     rename_i b hb
     replace h:=xM h;obtain ⟨hc,h⟩:=h;simp only [zba] at hc;have hoff:=wT.1 hc.1;have hal:=wT.1 hc.2;injection h with h;subst h;obtain ⟨y,hy,hyw⟩:=hall f (by simp);obtain ⟨av1,f1,l1,r1⟩:=ih f.type a m _ _ T ha hy hyw;obtain ⟨av2,f2,r2⟩:=ihl _ b hb (fun g hg=>hall g (by simp [hg]));refine ⟨av1++av2,f1.append f2,fun j c hj=>?_⟩;have hl1:=f1.len;rcases zlg j av1.length with hlt | hge
     ·rw [uH hlt] at hj
      have:=r1 j c hj
      have e:((cs.drop f.offset).take (P.cellsOf f.type)).getD j undef=cs.getD (off+j) undef:=by
       rw [vQ,vQ,aY,if_pos (by omega),gH,hoff]
      rw [e] at this;exact this
     ·rw [u4 hge] at hj
      have:=r2 _ c hj
      rw [show off+P.cellsOf f.type+(j - av1.length)=off+j by omega] at this;exact this
   obtain ⟨avs,hf,hr⟩:=key fs.toList 0 ss' hss (by
    intro f hf;obtain ⟨i,hi⟩:=uG.1 hf;rw [k9] at hi;have hlt:i<xs.length:=by
     rw [hxl];rcases zlg i fs.size with h' | h'
     ·exact h'
     ·rw [fJ h'] at hi;cases hi
    exact ⟨xs[i],by rw [hget i f hi];exact w7 hlt,fun k hk2=>hw k (by
     rw [hxe];simp only [DataW.weights,hk];exact DataW.weights_mem_each (j:=i) (t:=f.type) (d:=xs[i].1) (by simp [hi]) (by rw [vD,w7 hlt];rfl) k hk2)⟩)
   refine ⟨avs,hf,by rw [hcl,hf.len];exact (wT.1 hc).symm,fun j c hj=>?_⟩
   have:=hr j c hj
   rw [cQ] at this;exact this
  ·rename_i m e hk
   split at h
   case h_2=>cases h
   rename_i ss' hss
   replace h:=xM h;obtain ⟨hc,h⟩:=h;simp only [zba] at hc;have hl:=wT.1 hc.1;injection h with h;subst h;obtain ⟨xs,q,_,hxe,hcl,hxl,hget⟩:=DataW.trod_array hk hx;have key:∀ k,k<=m->∃ avs,Fit (List.replicate k ss').flatten avs/\avs.length=k * ss'.length/\∀ j c,avs[j]?=some c->Rep w I T (cs.getD j undef) c:=by
    intro k
    induction k with
    | zero=>intro _;exact ⟨[],by simpa using Fit.nil,by simp,fun j c hj=>by simp at hj⟩
    | succ k ihk =>
     intro hkm;obtain ⟨av1,f1,l1,r1⟩:=ihk (by omega);have h1:=hget k (by omega);rw [w7 (by omega)] at h1;obtain ⟨av2,f2,l2,r2⟩:=ih e ss' q _ _ T hss h1 (fun j hj=>hw j (by
      rw [hxe];simp only [DataW.weights,hk];exact zEv (vB.2 ⟨_,g8 _,rfl⟩) j hj))
     have hl2:=f2.len;refine ⟨av1++av2,by rw [List.replicate_succ',List.flatten_append];simpa using f1.append f2,by rw [zla,l1,hl2,t6];omega,fun j c hj=>?_⟩;rcases zlg j av1.length with hlt | hge
     ·rw [uH hlt] at hj;exact r1 j c hj
     ·rw [u4 hge] at hj;have hlt2:j - av1.length<av2.length:=by
       rcases zlg (j - av1.length) av2.length with h' | h'
       ·exact h'
       ·rw [vH h'] at hj;cases hj
      have:=r2 _ c hj
      have e:((cs.drop (k * P.cellsOf e)).take (P.cellsOf e)).getD (j - av1.length) undef=cs.getD j undef:=by
       rw [vQ,vQ,aY,if_pos (by omega),gH,<- hl,<- l1,show av1.length+(j - av1.length)=j by omega]
      rw [e] at this;exact this
   obtain ⟨avs,hf,hal,hr⟩:=key m (yI _);exact ⟨avs,hf,by rw [hcl,hal];exact (wT.1 hc.2).symm,hr⟩
  ·cases h
def Enc {α:Type} (sh:List Sh) (c:α->List AV) (ok:α->Prop):Prop:=∀ avs,Fit sh avs->∃ x,avs=c x/\ok x
theorem zIb (k:IntKind):Enc [.int k] (fun n=>[.int k n]) (fun n=>k.wrap n=n):=by
 intro avs h;cases h with
 | int hw hr=>cases hr;exact ⟨_,rfl,hw⟩
theorem zFg {α:Type} {e:α->AV} {ok:α->Prop} {l:List AV} (h:∀ a∈l,∃ x,a=e x/\ok x):∃ L:List α,l=L.map e/\∀ x∈L,ok x:=by
 induction l with
 | nil=>exact ⟨[],rfl,by simp⟩
 | cons a r ih =>
  obtain ⟨x,rfl,hx⟩:=h a (by simp);obtain ⟨L,rfl,hL⟩:=ih fun b hb=>h b (by simp [hb])
  exact ⟨x::L,rfl,by simpa using ⟨hx,hL⟩⟩
theorem zLN {α:Type} {s:Sh} {e:α->AV} {ok:α->Prop} (h:Enc [s] (fun x=>[e x]) ok):Enc [.sl false [s]] (fun l=>[.sl false 1 (l.map e)]) (fun l:List α=>(∀ x∈l,ok x)/\l.length<=d6):=by
 intro avs hf;cases hf with
 | slC _ h1 hl hr =>
  cases hr;obtain ⟨L,rfl,hL⟩:=zFg (e:=e) (ok:=ok) (fun a ha=>by
   obtain ⟨x,hx,ho⟩:=h _ (h1 a ha);injection hx with hx;exact ⟨x,hx,ho⟩)
  exact ⟨L,rfl,hL,by simpa using hl⟩
theorem zIH {α:Type} {ss:List Sh} {c:α->List AV} {ok:α->Prop} (h:Enc ss c ok):Enc [.sl true ss] (fun l=>[.sl false ss.length (l.map fun x=>.agg (c x))]) (fun l:List α=>(∀ x∈l,ok x)/\l.length<=d6):=by
 intro avs hf;cases hf with
 | slA g h1 h2 hl hr =>
  cases hr;obtain ⟨L,rfl,hL⟩:=zFg (e:=fun x=>AV.agg (c x)) (ok:=ok) (fun a ha=>by
   obtain ⟨x,hx,ho⟩:=h _ (h2 a ha);exact ⟨x,by rw [h1 a ha,hx],ho⟩)
  exact ⟨L,rfl,hL,by simpa using hl⟩
theorem Fit.split {s s':List Sh} {avs:List AV} (h:Fit (s++s') avs):∃ a b,avs=a++b/\Fit s a/\Fit s' b:=by
 induction s generalizing avs with
 | nil=>exact ⟨[],avs,rfl,.nil,h⟩
 | cons x r ih =>
  cases h with
  | int h1 hr=>obtain ⟨a,b,rfl,f1,f2⟩:=ih hr;exact ⟨_::a,b,rfl,.int h1 f1,f2⟩
  | bool hr=>obtain ⟨a,b,rfl,f1,f2⟩:=ih hr;exact ⟨_::a,b,rfl,.bool f1,f2⟩
  | str h1 h2 hr=>obtain ⟨a,b,rfl,f1,f2⟩:=ih hr;exact ⟨_::a,b,rfl,.str h1 h2 f1,f2⟩
  | slA g h1 h2 h3 hr=>obtain ⟨a,b,rfl,f1,f2⟩:=ih hr;exact ⟨_::a,b,rfl,.slA g h1 h2 h3 f1,f2⟩
  | slC h0 h1 h3 hr=>obtain ⟨a,b,rfl,f1,f2⟩:=ih hr;exact ⟨_::a,b,rfl,.slC h0 h1 h3 f1,f2⟩
theorem cC {α β:Type} {s s':List Sh} {c:α->List AV} {c':β->List AV} {ok:α->Prop} {ok':β->Prop} (h:Enc s c ok) (h':Enc s' c' ok') :
  Enc (s++s') (fun p:α×β=>c p.1++c' p.2) (fun p=>ok p.1/\ok' p.2):=by
 intro avs hf;obtain ⟨a,b,rfl,f1,f2⟩:=hf.split;obtain ⟨x,rfl,hx⟩:=h a f1;obtain ⟨y,rfl,hy⟩:=h' b f2;exact ⟨(x,y),rfl,hx,hy⟩
theorem S8:Enc [] (fun _:Unit=>[]) (fun _=>True):=by
 intro avs h;cases h;exact ⟨(),rfl,trivial⟩
open Go Go.ChangeShapes Go.RowKit
theorem zJs {H:Type} {enc:TypeId×Value->H} {P:Program} (hl:laidOutB P=true) {W W':World} (hb:Below W.heap.size W W') :
  ∀ {ts:List TypeId} {vs:List Value} {ds:List (DataW H)} {ps:List MemPlace},(∀ t∈ts,P.readableRec t=true/\t<P.types.size)->DataW.TrodAll enc P W 0 (fun _=>true) true ts vs ds ps ->
   (∀ x∈ps,x.block<W.heap.size)->DataW.TrodAll enc P W' 0 (fun b=>decide (b<W.heap.size)) true ts vs ds ps:=by
 intro ts
 induction ts with
 | nil =>
  intro vs ds ps _ h _;obtain ⟨rfl,rfl,rfl⟩:=trodAll_nil h;exact trodAll_mk0
 | cons t r ih =>
  intro vs ds ps hr h hlt;obtain ⟨v,vs',d,ds',p,q,rfl,rfl,rfl,h1,h2⟩:=trodAll_cons h;obtain ⟨k1,k2⟩:=hr t (by simp);exact ⟨p,q,Below.trod hl k1 k2 h1 hb (fun x hx=>hlt x (by simp [hx])),ih (fun u hu=>hr u (by simp [hu])) h2 (fun x hx=>hlt x (by simp [hx])),rfl⟩
theorem zNB {H:Type} {enc:TypeId×Value->H} {P:Program} {fn:Func} {s:ChangeSpec} {W W':World} {args:Array Value} {ds:List (DataW H)} {before:List MemPlace} {tb:TypeId} (hl:laidOutB P=true) (hv:s.vars=[])
  (hp:∀ t∈fn.params.toList,P.readableRec t=true/\t<P.types.size) (hW:DataW.Whole enc P fn.params.toList s.vars false W args.toList ds [] before)
  (hrt:fn.resultTypes=#[tb]) (htb:P.underlying tb=some .bool) (h1:(s.fn H (ds++[])).results=[.lit (.bool true)]) (h2:(s.fn H (ds++[])).args=ds) (h3:(s.fn H (ds++[])).vars=[])
  (hlt:∀ x∈before,x.block<W.heap.size) (hb:Below W.heap.size W W'):s.post enc P fn false true false false W args (.bool true) W':=by
 have hW':=hW;obtain ⟨p,q,hA,hV,rfl,_,_⟩:=hW;rw [hv] at hV;obtain ⟨_,rfl⟩:=trodVars_none hV;refine ⟨ds,[],_,[],p,[],hW',?_,?_,?_,hb.frame _,fun h=>by cases h⟩
 ·rw [h1,hrt];exact ⟨[],[],⟨1,by simp [DataW.trod,htb,Value.cells]⟩,rfl,rfl⟩
 ·rw [h2];exact zJs hl hb hp hA (fun x hx=>hlt x (by simp [hx]))
 ·rw [h3,hv];rfl
theorem zKy {P:Program} {f:FuncId} {args:List AV} (h:E8 P f [] args [] (.bool true)) {W:World} {vals:Array Value} (hs:vals.size=args.length)
  (hr:∀ (j:Nat) (av:AV),args[j]?=some av->Rep W (fun b=>b<W.heap.size) (fun i=>([]:List zY)[i]?) (vals.getD j undef) av) :
  Calls P f vals W fun e W'=>e=.returned (.bool true)/\Below W.heap.size W W':=by
 refine (h W (fun b=>b<W.heap.size) [] [] vals rfl rfl (by simp) (by simp) (by simp) (by simp) hs hr).mono ?_;rintro e w' ⟨v,new,rfl,h1,h2,h3,h4,h5,_,_,_,hrep,_⟩;generalize hv:AV.bool true=av at hrep;cases hrep<;>cases hv
 exact ⟨rfl,h1,h2,h3,h4,fun k hk=>h5 k hk (by simp)⟩
open Go Go.ChangeShapes Go.RowKit Go.WideShapes
def MQ (P:Program) (t:TypeId) (avs:List AV):AV:=bif uQ P t then .agg avs else avs.headD .junk
inductive EZ (P:Program):List TypeId->List (List Sh)->List AV->Prop
 | nil:EZ P [] [] []
 | cons {t ts s ss avs r}:Fit s avs->EZ P ts ss r->EZ P (t::ts) (s::ss) (MQ P t avs::r)
def QI (P:Program) (n:Nat):List TypeId->Option (List (List Sh))
 | []=>some []
 | t::r=>match dI P n t with
  | none=>none
  | some a=>match QI P n r with
   | none=>none
   | some b=>some (a::b)
theorem zIf {P:Program} {w:World} {r:Reach} {base n:Nat} {t:TypeId} {v:Value} {ss:List Sh} (hs:dI P n t=some ss) (h:Value.okWide P w r base t v) :
  (uQ P t=true->∃ cs,v=.agg cs)/\(uQ P t=false->v.cells.toList=[v]/\ss.length=1):=by
 cases n with
 | zero=>simp [dI] at hs
 | succ n =>
  simp only [dI] at hs
  split at hs
  ·rename_i k hk
   injection hs with hs;subst hs;obtain ⟨m,rfl⟩:=okWide_int hk h;simp [uQ,hk,Value.cells]
  ·rename_i hk
   injection hs with hs;subst hs;obtain ⟨m,rfl⟩:=okWide_bool hk h;simp [uQ,hk,Value.cells]
  ·rename_i hk
   injection hs with hs;subst hs;obtain ⟨m,rfl⟩:=okWide_string hk h;simp [uQ,hk,Value.cells]
  ·rename_i e hk
   obtain ⟨a,l,c,rfl⟩:=okWide_slice hk h
   split at hs
   ·replace hs:=xM hs;obtain ⟨_,hs⟩:=hs;injection hs with hs;subst hs;simp [uQ,hk,Value.cells]
   ·cases hs
  ·rename_i fs hk
   obtain ⟨cs,rfl,_⟩:=okWide_struct hk h;simp [uQ,hk]
  ·rename_i m e hk
   simp only [Value.okWide,hk] at h;obtain ⟨cs,rfl,_⟩:=h;simp [uQ,hk]
  ·cases hs
theorem zPc {H:Type} {enc:TypeId×Value->H} {P:Program} {w:World} {I:Nat->Prop} (hI:∀ b,b<w.heap.size->I b) {r:Reach} {b0 base n:Nat} {spare:Nat->Bool} {held:Bool} {t:TypeId} {v:Value} {ss:List Sh} {d:DataW H} {ps:List MemPlace} {T:Tbl}
  (hs:dI P n t=some ss) (h:Value.okWide P w r b0 t v) (hd:DataW.Trod enc P w base spare held t v d ps) (hw:∀ k∈d.weights P t,k<=d6):∃ avs,Fit ss avs/\Rep w I T v (MQ P t avs):=by
 obtain ⟨fuel,hf⟩:=hd;obtain ⟨avs,h1,h2,h3⟩:=zJ6 hI n t ss fuel _ _ T hs hf hw;refine ⟨avs,h1,?_⟩;obtain ⟨hA,hB⟩:=zIf hs h;unfold MQ;cases ha:uQ P t
 ·obtain ⟨hc,hl⟩:=hB ha;simp only [cond_false];have hl2:=h1.len;rw [hl] at hl2
  match avs,hl2 with
  | [x],_ =>
   have:=h3 0 x rfl
   rw [hc] at this;exact this
 ·obtain ⟨cs,rfl⟩:=hA ha;simp only [cond_true];refine .agg (by simpa [Value.cells] using h2) h1.one fun j c hj=>?_
  have:=h3 j c hj
  simpa [Value.cells] using this
theorem zGA {H:Type} {enc:TypeId×Value->H} {P:Program} {w:World} {I:Nat->Prop} (hI:∀ b,b<w.heap.size->I b) {r:Reach} {b0 base n:Nat} {spare:Nat->Bool} {held:Bool} {T:Tbl} :
  ∀ {ts:List TypeId} {sss:List (List Sh)} {vs:List Value} {ds:List (DataW H)} {ps:List MemPlace},QI P n ts=some sss->(∀ (j:Nat) (t:TypeId) (v:Value),ts[j]?=some t->vs[j]?=some v->Value.okWide P w r b0 t v) ->
   DataW.TrodAll enc P w base spare held ts vs ds ps->(∀ k∈DataW.weightsEach P ts ds,k<=d6)->∃ avs,EZ P ts sss avs/\vs.length=avs.length/\∀ (j:Nat) (av:AV),avs[j]?=some av->Rep w I T (vs.getD j undef) av:=by
 intro ts
 induction ts with
 | nil =>
  intro sss vs ds ps hs _ h _;obtain ⟨rfl,_,_⟩:=trodAll_nil h;simp only [QI,uU] at hs;subst hs;exact ⟨[],.nil,rfl,fun j av hj=>by simp at hj⟩
 | cons t ts ih =>
  intro sss vs ds ps hs hok h hw;obtain ⟨v,vs',d,ds',p,q,rfl,rfl,rfl,h1,h2⟩:=trodAll_cons h;simp only [QI] at hs
  split at hs
  ·cases hs
  rename_i a ha
  split at hs
  ·cases hs
  rename_i b hb
  injection hs with hs;subst hs;obtain ⟨av1,f1,r1⟩:=zPc (T:=T) hI ha (hok 0 t v rfl rfl) h1 (fun k hk=>hw k (by simp only [DataW.weightsEach,wL];exact .inl hk));obtain ⟨av2,f2,l2,r2⟩:=ih hb (fun j u x hu hx=>hok (j+1) u x (by simpa using hu) (by simpa using hx)) h2 (fun k hk=>hw k (by simp only [DataW.weightsEach,wL];exact .inr hk));refine ⟨MQ P t av1::av2,.cons f1 f2,by simp [l2],fun j av hj=>?_⟩;cases j with
  | zero=>simp at hj;subst hj;exact r1
  | succ j=>exact r2 j av (by simpa using hj)
theorem zM3 {H:Type} {enc:TypeId×Value->H} {P:Program} {w:World} {base:Nat} {spare:Nat->Bool} {held:Bool}:∀ {ts:List TypeId} {vs:List Value} {ds:List (DataW H)} {ps:List MemPlace},DataW.TrodAll enc P w base spare held ts vs ds ps->ds.length=ts.length:=by
 intro ts
 induction ts with
 | nil=>intro vs ds ps h;obtain ⟨_,rfl,_⟩:=trodAll_nil h;rfl
 | cons t ts ih =>
  intro vs ds ps h;obtain ⟨v,vs',d,ds',p,q,rfl,rfl,rfl,_,h2⟩:=trodAll_cons h;simp [ih h2]
theorem zOd {H:Type} {P:Program}:∀ {ts us:List TypeId} {ds gs:List (DataW H)},∀ k∈DataW.weightsEach P ts ds,k∈DataW.weightsEach P (ts++us) (ds++gs):=by
 intro ts
 induction ts with
 | nil=>intro us ds gs k hk;simp [DataW.weightsEach] at hk
 | cons t r ih =>
  intro us ds gs k hk;cases ds with
  | nil=>simp [DataW.weightsEach] at hk
  | cons d q =>
   simp only [DataW.weightsEach,wL,B9] at hk ⊢;rcases hk with hk | hk
   ·exact .inl hk
   ·exact .inr (ih k hk)
theorem zLu {H:Type} {enc:TypeId×Value->H} {P:Program} {f:FuncId} {fn:Func} {s:ChangeSpec} {tb:TypeId} {n:Nat} {sss:List (List Sh)} (hl:laidOutB P=true) (hv:s.vars=[])
  (hp:(fn.params.toList.all fun t=>P.readableRec t&&decide (t<P.types.size))=true) (hs:QI P n fn.params.toList=some sss) (hrt:fn.resultTypes=#[tb]) (htb:P.underlying tb=some .bool)
  (hfn:∀ ds:List (DataW H),ds.length=fn.params.toList.length->(s.fn H ds).results=[.lit (.bool true)]/\(s.fn H ds).args=ds/\(s.fn H ds).vars=[])
  (key:∀ avs,EZ P fn.params.toList sss avs->E8 P f [] avs [] (.bool true))
  {W:World} {b0:Nat} {args:Array Value} {ds gs:List (DataW H)} {before:List MemPlace}
  (hval:∀ (j:Nat) t v,fn.params[j]?=some t->args[j]?=some v->Value.okWide P W .any b0 t v)
  (hW:DataW.Whole enc P fn.params.toList s.vars false W args.toList ds gs before) {us:List TypeId} (hz:(DataW.weightsEach P (fn.params.toList++us) (ds++gs)).all (·<=reachBytes)=true) :
  Calls P f args W fun e W'=>∃ v,e=.returned v/\s.post enc P fn false true false false W args v W':=by
 have hlt:∀ x∈before,x.block<W.heap.size:=fun x hx=>by simpa using hW.lt x hx
 have hW1:=hW;obtain ⟨p,q,hA,hV,rfl,_,_⟩:=hW;rw [hv] at hV;obtain ⟨rfl,rfl⟩:=trodVars_none hV;obtain ⟨avs,h1,h2,h3⟩:=zGA (I:=fun b=>b<W.heap.size) (T:=fun i=>([]:List zY)[i]?) (fun _ h=>h) hs (fun j t v ht hx=>hval j t v (by simpa using ht) (by simpa using hx)) hA (fun k hk=>by
  have:=tC.1 hz k (zOd k hk)
  have h2:=reachBytes_lt;simp only [decide_eq_true_eq] at this;show k<=140737488355328
  omega)
 have hlen:ds.length=fn.params.toList.length:=zM3 hA;obtain ⟨k1,k2,k3⟩:=hfn ds hlen;refine (zKy (key avs h1) (by simpa using h2) (fun j av hj=>by simpa using h3 j av hj)).mono ?_;rintro e W' ⟨rfl,hb⟩;refine ⟨_,rfl,zNB (ds:=ds) hl hv ?_ hW1 hrt htb (by rw [aE];exact k1) (by rw [aE];exact k2) (by rw [aE];exact k3) hlt hb⟩;intro t ht
 have:=tC.1 hp t ht
 simp only [zba,decide_eq_true_eq] at this;exact this
def zAc {α:Type} (P:Program) (ts:List TypeId) (sss:List (List Sh)) (c:α->List AV) (ok:α->Prop):Prop:=∀ avs,EZ P ts sss avs->∃ x,avs=c x/\ok x
theorem zIh {P:Program}:zAc P [] [] (fun _:Unit=>[]) (fun _=>True):=by
 intro avs h;cases h;exact ⟨(),rfl,trivial⟩
theorem zJG {α β:Type} {P:Program} {t:TypeId} {ts:List TypeId} {s:List Sh} {ss:List (List Sh)} {c:α->List AV} {ok:α->Prop} {c':β->List AV} {ok':β->Prop} (h:Enc s c ok) (h':zAc P ts ss c' ok') :
  zAc P (t::ts) (s::ss) (fun p:α×β=>MQ P t (c p.1)::c' p.2) (fun p=>ok p.1/\ok' p.2):=by
 intro avs hf;cases hf with
 | cons f1 f2 =>
  obtain ⟨x,rfl,hx⟩:=h _ f1;obtain ⟨y,rfl,hy⟩:=h' _ f2;exact ⟨(x,y),rfl,hx,hy⟩
theorem Enc.view {α β:Type} {s:List Sh} {c:α->List AV} {ok:α->Prop} (h:Enc s c ok) (f:α->β) {c':β->List AV} {ok':β->Prop} (hc:∀ x,c x=c' (f x)) (ho:∀ x,ok x->ok' (f x)):Enc s c' ok':=by
 intro avs hf;obtain ⟨x,rfl,hx⟩:=h avs hf;exact ⟨f x,hc x,ho x hx⟩
def cL (n:Int):Prop := -9223372036854775808<=n/\n<=9223372036854775807
def C0 {α:Type} (ok:α->Prop) (l:List α):Prop:=(∀ x∈l,ok x)/\l.length<=140737488355328
theorem zFy {k:IntKind} {n:Int} (h:k.wrap n=n):k.min<=n/\n<=k.max:=by
 rw [<- h];cases k<;>simp only [IntKind.wrap,IntKind.min,IntKind.max,IntKind.signed,IntKind.bits]<;>simp<;>(try split)<;>omega
theorem zIQ {n:Int} (h:IntKind.i64.wrap n=n):cL n:=by
 have:=zFy h;exact this
theorem Enc.weak {α:Type} {s:List Sh} {c:α->List AV} {ok ok':α->Prop} (h:Enc s c ok) (ho:∀ x,ok x->ok' x):Enc s c ok':=by
 intro avs hf;obtain ⟨x,rfl,hx⟩:=h avs hf;exact ⟨x,rfl,ho x hx⟩
theorem d5:Enc [.int .i64] (fun n=>[.int .i64 n]) cL:=(zIb .i64).weak fun _=>zIQ
theorem zB0 {α:Type} {s:Sh} {e:α->AV} {ok:α->Prop} (h:Enc [s] (fun x=>[e x]) ok):Enc [.sl false [s]] (fun l=>[.sl false 1 (l.map e)]) (C0 ok):=zLN h
theorem Z5 {α:Type} {ss:List Sh} {c:α->List AV} {ok:α->Prop} (h:Enc ss c ok):Enc [.sl true ss] (fun l=>[.sl false ss.length (l.map fun x=>.agg (c x))]) (C0 ok):=zIH h
theorem tB {p:Prop} [Decidable p] (h:p):need p=some ():=if_pos h
theorem wE {p:Prop} [Decidable p] (h:p):decide p=true:=decide_eq_true h
theorem xN {p:Prop} [Decidable p] (h:¬p):decide p=false:=decide_eq_false h
theorem qN {a b:Int} (h:a=b):(a==b)=true:=by simpa using h
theorem nK {a b:Int} (h:a≠b):(a==b)=false:=by simpa using h
theorem aN {a b:Int} (h:a≠b):(a != b)=true:=by simpa using h
theorem tV {a b:Int} (h:a=b):(a != b)=false:=by simpa using h
theorem w64 {x:Int} (h1 : -9223372036854775808<=x) (h2:x<=9223372036854775807):zG x=x:=by
 simp only [zG,IntKind.wrap,IntKind.bits,IntKind.signed];simp;split<;>omega
theorem JL {x:Int} (h1:0<=x) (h2:x<=18446744073709551615):z9 x=x:=by
 simp only [z9,IntKind.wrap,IntKind.bits,IntKind.signed];simp;omega
theorem WS {α:Type} {l:List α} {i:Int} (h:0<=i):z0 l i=l[i.toNat]?:=if_pos h
theorem ZD {α:Type} (l:List α) (i:Nat):z0 l (i:Int)=l[i]?:=by simp [z0]
theorem qB {α:Type} {l:List α} {i:Nat} {x:α} {r:List α} (h:l.drop i=x::r):z0 l (i:Int)=some x:=by
 rw [ZD]
 have:=congrArg (·[0]?) h
 simpa using this
theorem fL {α:Type} {l:List α} {i:Nat} {x:α} {r:List α} (h:l.drop i=x::r):i<l.length:=by
 rcases zlg i l.length with h' | h'
 ·exact h'
 ·rw [zBz h'] at h;cases h
theorem nN {α:Type} {l:List α} {i:Nat} {x:α} {r:List α} (h:l.drop i=x::r):l.drop (i+1)=r:=by
 rw [<- List.drop_drop,h];rfl
theorem fM {α:Type} {l:List α} {i:Nat} (h:l.drop i=[]):l.length<=i:=List.drop_eq_nil_iff.1 h
def AX (k:IntKind):Nat:=if k.signed then 2 ^ (k.bits - 1) else 2 ^ k.bits
theorem zEx {k:IntKind} {n:Nat} (h:n<AX k):k.wrap (n:Int)=n:=by
 revert h;cases k<;>simp only [AX,IntKind.wrap,IntKind.bits,IntKind.signed]<;>simp<;>omega
theorem zDj (k:IntKind):AX k<=2 ^ k.bits:=by cases k<;>decide
theorem zF2 {n x:Nat} (h:x<2 ^ n):(BitVec.ofInt n (x:Int)).toNat=x:=by
 simp [UI h]
theorem zMd {k:IntKind} {x y:Nat} (hx:x<AX k) (hy:y<AX k):tS k (x:Int) (y:Int)=((x &&& y:Nat):Int):=by
 unfold tS;rw [BitVec.toNat_and,zF2 (kZ hx (zDj k)),zF2 (kZ hy (zDj k))];exact zEx (HE Nat.and_le_left hx)
theorem zDU {k:IntKind} {x:Int} {s:Nat} (_:0<=x) (hs:s<=k.bits):xX k x (s:Int)=x / 2 ^ s:=by
 unfold xX;rw [wB,DQ hs,Int.fdiv_eq_ediv_of_nonneg _ (by have:(0:Int)<2 ^ s:=Int.pow_pos (by decide);omega)]
theorem zIM {k:IntKind} {x y:Int} (h0:0<=x) (h:x<AX k) (hy:0<=y):pV k x y=x / y:=by
 obtain ⟨m,rfl⟩:=zBb h0;obtain ⟨n,rfl⟩:=zBb hy;unfold pV;have e:(m:Int).tdiv n=((m / n:Nat):Int):=rfl;rw [e];have h2:m<AX k:=by exact_mod_cast h
 rw [zEx (HE (Nat.div_le_self _ _) h2)];simp
theorem zHp {x y:Int} (h0:0<=x):dZ x y=x % y:=by
 unfold dZ;rw [Int.tmod_eq_emod_of_nonneg h0]
theorem zNi {α σ R:Type} {l:List α} (L:Nat->Int->σ->Option R) (G:Nat->List α->σ->R) (Inv:Nat->σ->Prop)
  (he:∀ n i s,l.length<=i->Inv i s->L (n+1) (i:Nat) s=some (G i [] s))
  (hs:∀ n i s x r,l.drop i=x::r->i<l.length->Inv i s->(∀ s',Inv (i+1) s'->L n ((i+1:Nat):Int) s'=some (G (i+1) r s'))->L (n+1) (i:Nat) s=some (G i (x::r) s)) :
  ∀ n i s,Inv i s->(l.drop i).length<n->L n (i:Nat) s=some (G i (l.drop i) s):=by
 intro n
 induction n with
 | zero=>intro i s _ h;omega
 | succ n ih =>
  intro i s hI hn;rcases hd:l.drop i with _ | ⟨x,r⟩
  ·exact he n i s (fM hd) hI
  ·refine hs n i s x r hd (fL hd) hI fun s' hI'=>?_
   have:=ih (i+1) s' hI' (by rw [nN hd];rw [hd] at hn;simp only [zlc] at hn;omega)
   rwa [nN hd] at this
theorem zMo {α σ R:Type} {l:List α} (L:Nat->Int->σ->Option R) (G:Nat->List α->σ->R) (Inv:Nat->σ->Prop)
  (he:∀ n i s,l.length<=i->Inv i s->L (n+1) (i:Nat) s=some (G i [] s))
  (hs:∀ n i s x r,l.drop i=x::r->i<l.length->Inv i s->(∀ s',Inv (i+1) s'->L n ((i+1:Nat):Int) s'=some (G (i+1) r s'))->L (n+1) (i:Nat) s=some (G i (x::r) s))
  {n:Nat} {s:σ} (hI:Inv 0 s) (hn:l.length<n):L n 0 s=some (G 0 l s):=by
 have:=zNi L G Inv he hs n 0 s hI (by simpa using hn)
 simpa using this
theorem j6 {i:Nat} (h:i<9223372036854775807):zG ((i:Int)+1)=((i+1:Nat):Int):=by
 rw [w64 (by omega) (by omega)];omega
theorem OO {α:Type} {l:List α} {i:Nat} {x:α} {r:List α} (h:l.drop i=x::r):x∈l:=bS (h ▸ tK)
theorem zCA {α:Type} {l:List α} {i:Nat} (h0:0<i) (h:i<9223372036854775807):z0 l (zG ((i:Int) - 1))=l[i - 1]?:=by
 rw [w64 (by omega) (by omega),show (i:Int) - 1=((i - 1:Nat):Int) by omega,ZD]
theorem zOg {α:Type} {l:List α} (h0:l.length<9223372036854775807) (h:l≠[]):z0 l (zG ((l.length:Int) - 1))=l.getLast?:=by
 have:0<l.length:=List.length_pos_iff.2 h
 rw [zCA this h0,List.getLast?_eq_getElem?]
def u6 {α:Type} {β:Type} (f:Nat->α->Option β):Nat->List α->Unit⊕β
 | _,[]=>.inl ()
 | i,x::r=>match f i x with
  | none=>u6 f (i+1) r
  | some b=>.inr b
theorem zDp {α β:Type} {f:Nat->α->Option β} {i:Nat} {l:List α} (h:u6 f i l=.inl ()):∀ j x,l[j]?=some x->f (i+j) x=none:=by
 induction l generalizing i with
 | nil=>intro j x hj;simp at hj
 | cons a r ih =>
  intro j x hj;simp only [u6] at h
  split at h
  ·rename_i hf
   cases j with
   | zero=>simp at hj;subst hj;exact hf
   | succ j =>
    have:=ih h j x (by simpa using hj)
    rwa [show i+1+j=i+(j+1) by omega] at this
  ·cases h
theorem zM4 {α β:Type} {f:Nat->α->Option β} {i:Nat} {l:List α} (h:∀ j x,l[j]?=some x->f (i+j) x=none):u6 f i l=.inl ():=by
 induction l generalizing i with
 | nil=>rfl
 | cons a r ih =>
  simp only [u6];rw [show f i a=none from h 0 a rfl];exact ih fun j x hj=>by
   have:=h (j+1) x (by simpa using hj)
   rwa [show i+(j+1)=i+1+j by omega] at this
def mpE {α β:Type} (f:α->AV) (g:β->AV) (p:α×β):AV×AV:=(f p.1,g p.2)
def zV {α β:Type} [DecidableEq α]:List (α×β)->α->Option β
 | [],_=>none
 | p::l,k=>if p.1=k then some p.2 else zV l k
def xC {α β:Type} [DecidableEq α]:List (α×β)->α->β->List (α×β)
 | [],k,v=>[(k,v)]
 | p::l,k,v=>if p.1=k then (k,v)::l else p::xC l k v
section
variable {α β:Type} [DecidableEq α] {f:α->AV} {g:β->AV}
theorem AA {l:List (α×β)} {k:α} (h:zV l k=none):∀ p∈l,p.1≠k:=by
 induction l with
 | nil=>intro p hp;cases hp
 | cons q l ih =>
  unfold zV at h
  split at h
  ·cases h
  ·rename_i hq
   intro p hp;rcases uA.1 hp with rfl | hp
   ·exact hq
   ·exact ih h p hp
theorem NK {l:List (α×β)} {k:α} {v:β} (h:zV l k=some v):∃ (i:Nat) (p:α×β),l[i]?=some p/\p.1=k/\p.2=v/\∀ w,xC l k w=l.set i (k,w):=by
 induction l with
 | nil=>cases h
 | cons q l ih =>
  unfold zV at h
  split at h
  ·rename_i hq
   injection h with h;exact ⟨0,q,rfl,hq,h,fun w=>by simp [xC,hq]⟩
  ·rename_i hq
   obtain ⟨i,p,h1,h2,h3,h4⟩:=ih h;exact ⟨i+1,p,by simpa using h1,h2,h3,fun w=>by simp [xC,hq,h4]⟩
theorem WW {l:List (α×β)} {k:α} (h:∀ p∈l,p.1≠k) (v:β):xC l k v=l++[(k,v)]:=by
 induction l with
 | nil=>rfl
 | cons q l ih =>
  unfold xC;rw [if_neg (h q (tK ..)),ih fun p hp=>h p (qX _ hp)];rfl
theorem kB (hf:∀ a b,f a=f b->a=b) (l:List (α×β)) (k:α) (z:β):u0 (l.map (mpE f g)) (f k) (g z) (g ((zV l k).getD z)) (zV l k).isSome:=by
 cases h:zV l k with
 | none =>
  refine .inr ⟨fun x hx=>?_,rfl,rfl⟩;obtain ⟨p,hp,rfl⟩:=vB.1 hx;exact fun e=>AA h p hp (hf _ _ e)
 | some v =>
  obtain ⟨i,p,h1,h2,h3,_⟩:=NK h;exact .inl ⟨i,mpE f g p,by rw [vD,h1];rfl,by simp [mpE,h2],by simp [mpE,h3],rfl⟩
theorem aO (hf:∀ a b,f a=f b->a=b) (l:List (α×β)) (k:α) (v:β):jS (l.map (mpE f g)) (f k) (g v) ((xC l k v).map (mpE f g)):=by
 cases h:zV l k with
 | none =>
  refine .inr ⟨fun x hx=>?_,?_⟩
  ·obtain ⟨p,hp,rfl⟩:=vB.1 hx;exact fun e=>AA h p hp (hf _ _ e)
  ·rw [WW (AA h)];simp [mpE]
 | some v0 =>
  obtain ⟨i,p,h1,h2,h3,h4⟩:=NK h;exact .inl ⟨i,mpE f g p,by rw [vD,h1];rfl,by simp [mpE,h2],by rw [h4,List.map_set];rfl⟩
omit [DecidableEq α] in
theorem aV {l:List (α×β)} (h:l.length<140737488355328):(l.map (mpE f g)).length<maxLen:=by
 rw [vL,nY];omega
end
theorem D5 {α:Type} [DecidableEq α] {f:α->AV} (hf:∀ a b,f a=f b->a=b) (a b:α):decide (a=b)=true↔f a=f b:=by
 rw [decide_eq_true_iff];exact ⟨fun h=>by rw [h],hf a b⟩
theorem t5 {k:IntKind}:∀ a b:Int,AV.int k a=AV.int k b->a=b:=fun _ _ h=>(AV.int.inj h).2
theorem zFl {k:IntKind} {n:Int} (h:k.wrap n=n):(Lit.int k n).wf=true:=by
 have:=zFy h
 simp only [Lit.wf,zba,decide_eq_true_eq];exact this
theorem zIp {P:Program} {k:TypeId} {q:IntKind} (h:P.underlying k=some (.int q)):wW P k false [.int q]:=by
 refine ⟨Maps.int_keyed h,fun w I T v a hr hm=>?_⟩;cases a<;>simp [uI,kcs,kc] at hm
 subst hm;cases hr with
 | int hw=>exact ⟨_,Maps.keyOf_int_mk h (zFl hw)⟩
def VA (g:TypeId->Option (List KSh)) (cell:TypeId->Nat):Nat->List Field->Option (List KSh)
 | _,[]=>some []
 | o,f::r =>
  match g f.type,VA g cell (o+cell f.type) r with
  | some a, some b => bif Nat.beq f.offset o && (Nat.beq (cell f.type) a.length && (f.name != "_")) then some (a ++ b) else none
  | _,_=>none
def OL (P:Program):Nat->TypeId->Option (List KSh)
 | 0,_=>none
 | d+1,t =>
  match P.underlying t with
  | some .bool=>some [.bool]
  | some (.int q)=>some [.int q]
  | some .string=>some [.str]
  | some (.array n e) =>
   match OL P d e with
   | some ks=>bif Nat.beq (P.cellsOf e) ks.length&&Nat.beq (P.cellsOf t) (n * ks.length) then some (List.replicate n ks).flatten else none
   | none=>none
  | some (.struct fs) =>
   match VA (OL P d) P.cellsOf 0 fs.toList with
   | some ks=>bif Nat.beq (P.cellsOf t) ks.length then some ks else none
   | none=>none
  | _=>none
def vk:KSh->Value->Prop
 | .int q,.int q' n=>q'=q/\(Lit.int q n).wf=true
 | .bool,.bool _=>True
 | .str,.string s=>s.size<=maxLen
 | _,_=>False
inductive VM:List KSh->List Value->Prop
 | nil:VM [] []
 | cons {k v ks vs}:vk k v->VM ks vs->VM (k::ks) (v::vs)
theorem VM.len {ks:List KSh} {cs:List Value} (h:VM ks cs):ks.length=cs.length:=by
 induction h with
 | nil=>rfl
 | cons _ _ ih=>simp [ih]
theorem VM.app {a b:List KSh} {cs:List Value} (h:VM (a++b) cs):VM a (cs.take a.length)/\VM b (cs.drop a.length):=by
 induction a generalizing cs with
 | nil=>exact ⟨by simpa using VM.nil,by simpa using h⟩
 | cons x a ih =>
  cases h with
  | cons h1 h2 =>
   obtain ⟨i1,i2⟩:=ih h2;exact ⟨by simpa using VM.cons h1 i1,by simpa using i2⟩
theorem VM.part {ks:List KSh}:∀ {n:Nat} {cs:List Value} {i:Nat},VM (List.replicate n ks).flatten cs->i<n->VM ks ((cs.drop (i * ks.length)).take ks.length):=by
 intro n
 induction n with
 | zero=>intro cs i _ h;omega
 | succ n ih =>
  intro cs i h hi;rw [zBD,List.flatten_cons] at h;obtain ⟨h1,h2⟩:=h.app;cases i with
  | zero=>simpa using h1
  | succ i =>
   have:=ih (i:=i) h2 (by omega)
   rw [List.drop_drop] at this;rw [t6,Nat.one_mul,Nat.add_comm];exact this
theorem zEQ {α β:Type} {f:α->Option β}:∀ (l:List α),(∀ x∈l,∃ b,f x=some b)->∃ bs,l.mapM f=some bs:=by
 intro l
 induction l with
 | nil=>intro _;exact ⟨[],rfl⟩
 | cons x l ih =>
  intro h;obtain ⟨b,hb⟩:=h x (tK ..);obtain ⟨bs,hbs⟩:=ih fun y hy=>h y (qX _ hy)
  exact ⟨b::bs,by simp [List.mapM_cons,hb,hbs]⟩
theorem zJY {g:TypeId->Option (List KSh)} {cell:TypeId->Nat}:∀ (fs:List Field) (o:Nat) (ks:List KSh) (cs:List Value),VA g cell o fs=some ks->o<=cs.length->VM ks (cs.drop o) ->
  ∀ f ∈ fs, (f.name != "_") = true ∧ ∃ a, g f.type = some a ∧ VM a ((cs.drop f.offset).take (cell f.type)) := by
 intro fs
 induction fs with
 | nil=>intro o ks cs _ _ _ f hf;cases hf
 | cons x r ih =>
  intro o ks cs h ho hv f hf;unfold VA at h
  split at h
  case h_2=>cases h
  rename_i a b ha hb
  replace h:=xM h;obtain ⟨hc,h⟩:=h;simp only [zba] at hc;have e1:=wT.1 hc.1;have e2:=wT.1 hc.2.1;injection h with h;subst h;obtain ⟨v1,v2⟩:=hv.app;rcases uA.1 hf with rfl | hf
  ·exact ⟨hc.2.2,a,ha,by rw [e1,e2];exact v1⟩
  ·have hl:=hv.len;rw [zla,DU] at hl;refine ih (o+cell x.type) b cs hb (by omega) ?_ f hf;rw [List.drop_drop] at v2;rw [e2];exact v2
theorem zKQ {P:Program}:∀ (d:Nat) (t:TypeId) (ks:List KSh) (cs:List Value),OL P d t=some ks->VM ks cs->∃ ls,P.keyLits d t cs=some ls:=by
 intro d
 induction d with
 | zero=>intro t ks cs h;cases h
 | succ d ih =>
  intro t ks cs h hv;unfold OL at h;unfold Program.keyLits
  split at h
  ·rename_i hu
   injection h with h;subst h;cases hv with
   | cons h1 h2=>cases h2;rename_i v;cases v<;>simp [vk] at h1;rw [hu];exact ⟨_,rfl⟩
  ·rename_i q hu
   injection h with h;subst h;cases hv with
   | cons h1 h2=>cases h2;rename_i v;cases v<;>simp [vk] at h1;rw [hu];simp [h1]
  ·rename_i hu
   injection h with h;subst h;cases hv with
   | cons h1 h2=>cases h2;rename_i v;cases v<;>simp [vk] at h1;rw [hu];simp [h1]
  ·rename_i n e hu
   split at h
   case h_2=>cases h
   rename_i ks' hk
   replace h:=xM h;obtain ⟨hc,h⟩:=h;simp only [zba] at hc;have e1:=wT.1 hc.1;have e2:=wT.1 hc.2;injection h with h;subst h;have hl:=hv.len;have hl2:(List.replicate n ks').flatten.length=n * ks'.length:=by simp
   rw [hu];simp only;rw [if_pos (by omega)];obtain ⟨bs,hbs⟩:=zEQ (f:=fun i=>P.keyLits d e ((cs.drop (i * P.cellsOf e)).take (P.cellsOf e))) (List.range n) (fun i hi=>by
    rw [e1];exact ih e ks' _ hk (hv.part (dD.1 hi)))
   rw [hbs];exact ⟨_,rfl⟩
  ·rename_i fs hu
   split at h
   case h_2=>cases h
   rename_i ks' hk
   replace h:=xM h;obtain ⟨hc,h⟩:=h;have e1:=wT.1 hc;injection h with h;subst h;have hl:=hv.len;have hspec:=zJY fs.toList 0 ks' cs hk (by omega) (by simpa using hv);rw [hu];simp only;rw [if_pos ⟨by omega,by rw [<- Array.all_toList];exact tC.2 fun f hf=>(hspec f hf).1⟩];obtain ⟨bs,hbs⟩:=zEQ (f:=fun f:Field=>P.keyLits d f.type ((cs.drop f.offset).take (P.cellsOf f.type))) fs.toList (fun f hf=>by
    obtain ⟨_,a,ha,hva⟩:=hspec f hf;exact ih f.type a _ ha hva)
   rw [hbs];exact ⟨_,rfl⟩
  ·cases h
theorem zGY {w:World} {I:Nat->Prop} {T:Tbl} {v:Value} {a:AV} {k:KSh} (h:Rep w I T v a) (hk:kc k a=true):vk k v:=by
 cases k<;>cases a<;>simp [kc] at hk
 ·subst hk;cases h with
  | int hw=>exact ⟨rfl,zFl hw⟩
 ·cases h;trivial
 ·cases h with
  | str h1 h2=>simpa [vk,kE,ByteArray.size] using h2
theorem zGu {w:World} {I:Nat->Prop} {T:Tbl}:∀ (ks:List KSh) (cs:List AV) (vs:List Value),kcs ks cs=true->vs.length=cs.length->(∀ (j:Nat) (c:AV) (v:Value),cs[j]?=some c->vs[j]?=some v->Rep w I T v c)->VM ks vs:=by
 intro ks
 induction ks with
 | nil=>intro cs vs h hl _;cases cs<;>simp [kcs] at h;simp at hl;subst hl;exact .nil
 | cons k r ih =>
  intro cs vs h hl hr;cases cs with
  | nil=>simp [kcs] at h
  | cons c s =>
   cases vs with
   | nil=>simp at hl
   | cons v u =>
    simp only [kcs,zba] at h;exact .cons (zGY (hr 0 c v rfl rfl) h.1) (ih s u h.2 (by simpa using hl) fun j c' v' hc hv=>hr (j+1) c' v' (by simpa using hc) (by simpa using hv))
def zBS (P:Program) (k:TypeId):Bool:=match P.underlying k with | some (.array _ _) | some (.struct _)=>true | _=>false
theorem EU {P:Program} {k:TypeId} {ks:List KSh} (hl:laidOutB P=true) (hw:zBS P k=true) (hk:(decide (k<P.types.size)&&(P.keyTypeAt 100 k&&(P.keyType k&&Nat.beq (P.cellsOf k) ks.length)))=true) (hs:OL P (P.types.size+1) k=some ks):wW P k true ks:=by
 simp only [zba,decide_eq_true_eq] at hk;obtain ⟨k1,k2,k3,k4⟩:=hk;have k4:=wT.1 k4;refine ⟨Maps.Keyed.of_law (deep_law_laid hl (m:=100) (by omega) k1 k2 hw),fun w I T v a hr hm=>?_⟩
 by_cases ha:∃ cs,a=.agg cs
 ·obtain ⟨cs,rfl⟩:=ha;simp only [uI,zba] at hm;obtain ⟨l1,_⟩:=ZZ hm.2;cases hr with
  | agg s1 o1 r1 =>
   rename_i vs
   have hvm:VM ks vs.toList:=zGu ks cs vs.toList hm.2 (by simpa using s1) fun j c v hc hv=>by
    have:=r1 j c hc
    rw [k9] at hv
    rwa [bG,hv] at this
   obtain ⟨ls,hls⟩:=zKQ _ _ _ _ hs hvm;have hf:(Value.agg vs).formed P k=true:=by
    unfold zBS at hw;unfold Value.formed
    split at hw
    ·rename_i hu;rw [hu];simp;omega
    ·rename_i hu;rw [hu];simp;omega
    ·cases hw
   refine ⟨.string (keyBytes ls),?_⟩;unfold keyOf;unfold zBS at hw
   split at hw
   ·rename_i hu;rw [hu];simp only [k3,hf,Bool.and_self,if_true];simp only [Value.cells];rw [hls];rfl
   ·rename_i hu;rw [hu];simp only [k3,hf,Bool.and_self,if_true];simp only [Value.cells];rw [hls];rfl
   ·cases hw
 ·have:(!true&&kcs ks [a])=true:=by
   cases a<;>first | exact hm | exact absurd ⟨_,rfl⟩ ha
  simp at this
end Go.Ab
