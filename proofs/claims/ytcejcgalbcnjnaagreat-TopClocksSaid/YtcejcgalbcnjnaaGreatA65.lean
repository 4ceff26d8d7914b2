/- Lemmas. No conditions but those that they name. -/
import Derived.Test.YtcejcgalbcnjnaaGreatA37
import Derived.Maps.RangeRun
namespace Go.Ab
open Go
open Go.ChangeMaps (setBlock)
def AS.put (st:AS) (d:Nat) (av:AV):AS:=⟨fun k=>bif Nat.beq k d then av else st.slot k,st.box⟩
theorem AE {P:Program} {ops:Array Oper} {Q:Exit->Act->World->Prop} {rest:List Oper} {o:Oper} {a:Act} {w w':World} {v:Value} (hg:o.guard=none)
  (h:(execOp a.eval o).run P w=.ok (.value v) w') (hk:wpList P ops Q rest (a.put o.dst v) w'):wpList P ops Q (o::rest) a w:=by
 unfold wpList;rw [if_pos (by simp [Region.wanted,hg])];exact .inl (jN h hk)
theorem zGt {E:List MapEntry} {l:List (AV×AV)} (h:E.length=l.length) (p:MapEntry->Bool):((E.zip l).filter fun z=>p z.1).map (·.1)=E.filter p:=by
 induction E generalizing l with
 | nil=>simp
 | cons e E ih =>
  cases l with
  | nil=>simp at h
  | cons x l =>
   simp only [EG,L6]
   have:=ih (l:=l) (by simpa using h)
   split<;>simp [this]
theorem zGx {α β:Type} (f:α->β) (l:List α):∀ i,(l.eraseIdx i).map f=(l.map f).eraseIdx i:=by
 induction l with
 | nil=>intro i;rfl
 | cons a l ih =>
  intro i;cases i with
  | zero=>rfl
  | succ i=>simp [ih i]
theorem zLV {l:List (MapEntry×(AV×AV))} (hn:(l.map fun z=>z.1.born).Nodup) {seen:Array Nat} {i:Nat} {z:MapEntry×(AV×AV)}
  (hi:(l.filter fun z=>!seen.contains z.1.born)[i]?=some z) :
  (l.filter fun y=>!(seen.push z.1.born).contains y.1.born)=(l.filter fun z=>!seen.contains z.1.born).eraseIdx i:=by
 have e1:(l.filter fun y=>!(seen.push z.1.born).contains y.1.born)=(l.filter fun y=>!seen.contains y.1.born).filter fun y=>!(y.1.born==z.1.born):=by
  rw [List.filter_filter];apply List.filter_congr;intro y _;rw [Array.contains_push,Bool.not_or,Bool.and_comm]
 rw [e1];have hn2:((l.filter fun z=>!seen.contains z.1.born).map fun z=>z.1.born).Nodup:=hn.sublist (List.Sublist.map _ List.filter_sublist);generalize l.filter (fun z=>!seen.contains z.1.born)=F at hi hn2
 induction F generalizing i with
 | nil=>simp at hi
 | cons y F ih =>
  simp only [uM,CD] at hn2;cases i with
  | zero =>
   simp at hi;subst hi;rw [List.filter_cons_of_neg (by simp),List.eraseIdx_cons_zero];rw [zBq];intro x hx
   have:x.1.born≠y.1.born:=fun e=>hn2.1 (vB.2 ⟨x,hx,e⟩)
   simpa using this
  | succ i =>
   have hz:F[i]?=some z:=by simpa using hi
   have hne:y.1.born≠z.1.born:=fun e=>hn2.1 (vB.2 ⟨z,yN hz,e.symm⟩)
   rw [List.filter_cons_of_pos (by simpa using hne),zAX,ih hz hn2.2]
def Y3 (o:Oper):Option (Nat×Nat):=match o.op,o.dst,o.guard with | .move (.tmp a),some d,none=>some (d,a) | _,_,_=>none
def YP (o:Oper):Option (Nat×Nat×Nat):=match o.op,o.dst,o.guard with | .range t (.tmp a),some d,none=>some (d,a,t) | _,_,_=>none
def zBK (o:Oper):Option (Nat×Nat):=match o.op,o.dst,o.guard with | .next (.tmp a) false,some d,none=>some (d,a) | _,_,_=>none
def XJ (o:Oper):Option (Nat×Nat×Nat):=match o.op,o.dst,o.guard with | .extract (.tmp a) i,some d,none=>some (d,a,i) | _,_,_=>none
def Y9 (o:Oper):Option (Nat×Nat):=match o.op,o.dst,o.guard with | .entry (.tmp a),some d,none=>some (d,a) | _,_,_=>none
def Z6 (o:Oper):Option (Nat×Nat):=match o.op,o.dst,o.guard with | .assign (.tmp a),some d,none=>some (d,a) | _,_,_=>none
theorem zJ7 {o:Oper} {d a:Nat} (h:Y3 o=some (d,a)):o.op=.move (.tmp a)/\o.dst=some d/\o.guard=none:=by
 unfold Y3 at h;split at h
 ·rename_i h1 h2 h3;simp only [uU,kU] at h;obtain ⟨rfl,rfl⟩:=h;exact ⟨h1,h2,h3⟩
 ·cases h
theorem zLP {o:Oper} {d a t:Nat} (h:YP o=some (d,a,t)):o.op=.range t (.tmp a)/\o.dst=some d/\o.guard=none:=by
 unfold YP at h;split at h
 ·rename_i h1 h2 h3;simp only [uU,kU] at h;obtain ⟨rfl,rfl,rfl⟩:=h;exact ⟨h1,h2,h3⟩
 ·cases h
theorem zIc {o:Oper} {d a:Nat} (h:zBK o=some (d,a)):o.op=.next (.tmp a) false/\o.dst=some d/\o.guard=none:=by
 unfold zBK at h;split at h
 ·rename_i h1 h2 h3;simp only [uU,kU] at h;obtain ⟨rfl,rfl⟩:=h;exact ⟨h1,h2,h3⟩
 ·cases h
theorem zDQ {o:Oper} {d a i:Nat} (h:XJ o=some (d,a,i)):o.op=.extract (.tmp a) i/\o.dst=some d/\o.guard=none:=by
 unfold XJ at h;split at h
 ·rename_i h1 h2 h3;simp only [uU,kU] at h;obtain ⟨rfl,rfl,rfl⟩:=h;exact ⟨h1,h2,h3⟩
 ·cases h
theorem zL1 {o:Oper} {d a:Nat} (h:Y9 o=some (d,a)):o.op=.entry (.tmp a)/\o.dst=some d/\o.guard=none:=by
 unfold Y9 at h;split at h
 ·rename_i h1 h2 h3;simp only [uU,kU] at h;obtain ⟨rfl,rfl⟩:=h;exact ⟨h1,h2,h3⟩
 ·cases h
theorem zJw {o:Oper} {d a:Nat} (h:Z6 o=some (d,a)):o.op=.assign (.tmp a)/\o.dst=some d/\o.guard=none:=by
 unfold Z6 at h;split at h
 ·rename_i h1 h2 h3;simp only [uU,kU] at h;obtain ⟨rfl,rfl⟩:=h;exact ⟨h1,h2,h3⟩
 ·cases h
def zFu (P:Program) (t:TypeId):Bool:=match P.underlying t with | some (.map _ _)=>true | _=>false
theorem AP {a:Act} {d t:Nat} {v:Value} (hd:d<a.tmps.size) (h:t≠d):(a.put (some d) v).tmps.getD t undef=a.tmps.getD t undef:=by rw [KP t hd,if_neg h]
theorem AJ {a:Act} {d:Nat} {v:Value} (hd:d<a.tmps.size):(a.put (some d) v).tmps.getD d undef=v:=by rw [KP d hd,if_pos rfl]
theorem pI {a:Act} {d:Option Nat} {v:Value}:(a.put d v).tmps.size=a.tmps.size:=by cases d<;>simp [Act.put]
def ItQ (r:Nat) (left:List (AV×AV)) (cur:Option (AV×AV)) (Q:List (Option wH)->Prop) (H:List (Option wH)):Prop:=∃ H0,Q H0/\H=some (.at r 0,.iter left cur)::H0
theorem zKb {E:Array MapEntry} {l:List (AV×AV)} (h:E.size=l.length):B0 E l #[]=l:=by
 unfold B0;rw [zBq.2 (by simp),List.map_snd_zip];simp [h]
def zE8 (P:Program) (N:Nat) (c:Code) (t0 ti tm tR:Nat):Bool :=
 match c with
 | .region _ ops false=>match ops.toList with
  | [o1,o2]=>(decide (Y3 o1=some (t0,tm))&&decide (YP o2=some (ti,t0,tR)))&&(zFu P tR&&(Nat.blt t0 N&&(Nat.blt ti N&&!Nat.beq ti t0)))
  | _=>false
 | _=>false
theorem zF6 {st:AS} {G:wQ} {Hd:Nat->Prop} (F:lX G Hd st) {fid:Nat} {f:Fam} (hb:st.box fid=.live (.fam f)) {st2:AS} {f':Fam} (h:∀ id g,st2.box id=.live (.fam g)->(id=fid/\g=f')\/(id≠fid/\st.box id=.live (.fam g))):∀ id g,st2.box id=.live (.fam g)->id=fid/\g=f':=by
 intro id g hl;rcases h id g hl with h | ⟨h1,h2⟩
 ·exact h
 ·exact absurd (F.one id fid g f h2 hb) h1
theorem zMA {P:Program} {N:Nat} {c:Code} {K:Exit->AS->Prop} {st:AS} (t0 ti tm tR fid m:Nat) {ag:Bool} {ks:List KSh} {l:List (AV×AV)} {Q:List (Option wH)->Prop} (hc:zE8 P N c t0 ti tm tR=true)
  (hs:st.slot tm=.mp m) (hm:st.box m=.live (.map ag ks l)) (hb:st.box fid=.live (.fam (.hpx Q)))
  (h:∀ r,K .normal ((((st.put t0 .junk).put ti (.raw r)).setB m .dead).setB fid (.live (.fam (.hpx (ItQ r l none Q)))))):AW P N 0 c K st:=by
 intro G a w hN hnp ⟨G',Hd,L,F,T,hT⟩;have hf:G.foot=[]:=dN.1 hnp;unfold zE8 at hc
 split at hc
 case h_2=>cases hc
 rename_i ops
 split at hc
 case h_2=>cases hc
 rename_i o1 o2 hl
 simp only [zba,decide_eq_true_eq] at hc;obtain ⟨⟨p1,p2⟩,p3,p4,p5,p6⟩:=hc;obtain ⟨o1o,o1d,o1g⟩:=zJ7 p1;obtain ⟨o2o,o2d,o2g⟩:=zLP p2;have lt:∀ {t:Nat},Nat.blt t N=true->t<N:=fun h=>by simp [Nat.blt] at h;omega
 replace p4:=lt p4;replace p5:=lt p5;have p6:ti≠t0:=fun e=>by subst e;simp at p6
 obtain ⟨mk_,me,hmt⟩:∃ k e,P.underlying tR=some (.map k e):=by
  unfold zFu at p3
  split at p3
  ·exact ⟨_,_,by assumption⟩
  ·cases p3
 have hrm:=hT.slots tm;rw [hs] at hrm;obtain ⟨b,hvm,hTid⟩:∃ b,a.tmps.getD tm undef=.map (some b)/\T m=some (.at b 0):=by
  generalize a.tmps.getD tm undef=v at hrm;cases hrm with
  | mp h=>exact ⟨_,rfl,h⟩
 obtain ⟨b',E,clock,hp,hh,hsz,hmax,hst,hkm,hent⟩:=hT.boxes m _ hm;rw [hTid] at hp;injection hp with hp;injection hp with hp _;subst hp;have hblt:b<w.heap.size:=cS hT hm hTid;obtain ⟨H0,hQ0,hH0⟩:=F.ok fid _ hb;have hI:∀ b,uP G' b->b<G'.w0.heap.size->w.heap[b]?=G'.w0.heap[b]?:=fun b hb _=>fZ hT.kept hb
 have hHd:∀ b,Hd b->w.heap[b]?=G'.w0.heap[b]?:=fun b hb=>gX L hT.kept hb
 have hII:∀ b,uP G' b->b<G'.w0.heap.size->imm G' st T b/\b<w.heap.size:=fun b hb _=>gQ L hf hT hb
 have hHp:=hH0.move hT.kept.size hI hII hHd (fun _ h=>h);have hHlt:∀ x,Hd x->x<w.heap.size:=fun x hx=>kZ (L.hid x hx).1 hT.kept.size
 have hw1:(w.alloc (.mapIter (some b) clock #[] clock)).heap.size=w.heap.size+1:=by simp
 have hold1:∀ x,x<w.heap.size->(w.alloc (.mapIter (some b) clock #[] clock)).heap[x]?=w.heap[x]?:=fun x hx=>heap_alloc_old w _ hx
 have hr1:=heap_alloc_new w (.mapIter (some b) clock #[] clock);have hsz0:a.tmps.size=N:=by rw [hT.size,L.n,hN]
 have hnb:¬ Hd b:=nP L hf hT hm hTid;generalize hst2:((((st.put t0 .junk).put ti (.raw w.heap.size)).setB m .dead).setB fid (.live (.fam (.hpx (ItQ w.heap.size l none Q)))))=st2;have hK:K .normal st2:=by rw [<- hst2];exact h _
 have hbox:∀ i,st2.box i=if i=fid then .live (.fam (.hpx (ItQ w.heap.size l none Q))) else if i=m then .dead else st.box i:=by
  intro i;rw [<- hst2,xA,xA];rfl
 have hslot:∀ t,st2.slot t=if t=ti then .raw w.heap.size else if t=t0 then .junk else st.slot t:=by
  intro t;rw [<- hst2];show (bif Nat.beq t ti then _ else (bif Nat.beq t t0 then _ else _))=_
  by_cases e1:t=ti
  ·rw [if_pos e1,e1,pX];rfl
  ·rw [if_neg e1,wV e1]
   by_cases e2:t=t0
   ·rw [if_pos e2,e2,pX];rfl
   ·rw [if_neg e2,wV e2];rfl
 have hmf:m≠fid:=fun e=>by rw [e,hb] at hm;injection hm with hm;cases hm
 have hlive:∀ i bx,st2.box i=.live bx->(i=fid/\bx=.fam (.hpx (ItQ w.heap.size l none Q)))\/(i≠fid/\i≠m/\st.box i=.live bx):=by
  intro i bx hl;rw [hbox] at hl
  by_cases e1:i=fid
  ·rw [if_pos e1] at hl;injection hl with hl;exact .inl ⟨e1,hl.symm⟩
  ·rw [if_neg e1] at hl
   by_cases e2:i=m
   ·rw [if_pos e2] at hl;cases hl
   ·rw [if_neg e2] at hl;exact .inr ⟨e1,e2,hl⟩
 have hTf:∀ b1 c,T fid≠some (.at b1 c):=fun b1 c e=>by have:=hT.boxes fid _ hb;rw [e] at this;cases this
 have hne1:∀ x,(imm G' st T x/\x<w.heap.size)\/x=b->x<w.heap.size:=fun x hx=>hx.elim (·.2) (fun e=>e ▸ hblt)
 have hmono:∀ {T1 T2:Tbl} {v:Value} {av:AV},T1.le T2->Rep w (imm G' st T) T1 v av->Rep (w.alloc (.mapIter (some b) clock #[] clock)) (fun x=>(imm G' st T x/\x<w.heap.size)\/x=b) T2 v av :=
  fun hle hr=>hr.mono (by omega) (fun x _ hlt=>hold1 x hlt) (fun x hx hlt=>.inl ⟨hx,hlt⟩) hle
 obtain ⟨o1,o2,o3⟩:=CK (Hd2:=fun x=>Hd x\/x=w.heap.size) (J:=fun x=>(imm G' st T x/\x<w.heap.size)\/x=b) (st2:=st2) (T2:=T)
  (a2:=(a.put (some t0) (.map (some b))).put (some ti) (.pointer (some ⟨w.heap.size,0,none⟩))) (w2:=w.alloc (.mapIter (some b) clock #[] clock)) (pin:=fun _=>none) L hf hT rfl rfl rfl (by omega) (fun x hx _=>hold1 x hx) hT.defers
  (by rw [pI,pI,hT.size,L.n])
  (by
   intro x hx;have hlt:=hne1 x hx;refine ⟨?_,by omega,?_,?_⟩
   ·rcases hx with hx | rfl
    ·exact (L.imm hx.1).1
    ·exact .inr (L.mine (hT.mine m _ x 0 hm hTid (by rw [L.foot,hf];exact wI _)))
   ·rintro (h1 | h1)
    ·rcases hx with hx | rfl
     ·exact g9 L h1 hx.1
     ·exact hnb h1
    ·omega
   ·intro i bx cap hl hTi;rcases hlive i bx hl with ⟨rfl,_⟩ | ⟨_,e2,h3⟩
    ·exact hTf _ _ hTi
    ·rcases hx with hx | rfl
     ·exact hx.1.2 i bx cap h3 hTi
     ·exact e2 (hT.apart i m bx _ x cap 0 h3 hm hTi hTid))
  (by
   intro t;rw [hslot]
   by_cases e1:t=ti
   ·rw [if_pos e1,e1,AJ (by rw [pI];omega)];exact .raw
   ·rw [if_neg e1,AP (by rw [pI];omega) e1]
    by_cases e2:t=t0
    ·rw [if_pos e2];exact .junk
    ·rw [if_neg e2,AP (by omega) e2];exact hmono (fun _ _ h=>h) (hT.slots t))
  (by
   intro i bx hl;rcases hlive i bx hl with ⟨rfl,rfl⟩ | ⟨_,_,h3⟩
   ·exact hT.boxes _ _ hb
   ·exact (hT.boxes i bx h3).mono (by omega) (fun x _ hlt=>hold1 x hlt) (fun x hx hlt=>.inl ⟨hx,hlt⟩) (fun _ _ h=>h) (fun x _ _ hlt=>hold1 x hlt))
  (by
   intro i hu;rw [hbox] at hu
   by_cases e1:i=fid
   ·rw [if_pos e1] at hu;cases hu
   ·rw [if_neg e1] at hu
    by_cases e2:i=m
    ·rw [if_pos e2] at hu;cases hu
    ·rw [if_neg e2] at hu;exact hT.unused i hu)
  (by
   intro i j x y b1 c c' h1 h2 t1 t2;rcases hlive i x h1 with ⟨rfl,_⟩ | ⟨_,_,l1⟩
   ·exact absurd t1 (hTf _ _)
   ·rcases hlive j y h2 with ⟨rfl,_⟩ | ⟨_,_,l2⟩
    ·exact absurd t2 (hTf _ _)
    ·exact hT.apart i j x y b1 c c' l1 l2 t1 t2)
  (by
   intro i bx b1 cap hl hTi;rcases hlive i bx hl with ⟨rfl,_⟩ | ⟨_,_,h3⟩
   ·exact absurd hTi (hTf _ _)
   ·refine ⟨L.mine (hT.mine i bx b1 cap h3 hTi (by rw [L.foot,hf];exact wI _)),?_⟩;rintro (h4 | h4)
    ·exact nP L hf hT h3 hTi h4
    ·have:=cS hT h3 hTi;omega)
  (fun i p hp=>by cases hp)
  (by
   rintro x (hx | rfl)
   ·exact ⟨by have:=hHlt x hx;omega,(L.hid x hx).2.1⟩
   ·exact ⟨by omega,.inl ((L.keeps hT.kept).size)⟩)
 have key:=zF6 F hb (f':=.hpx (ItQ w.heap.size l none Q)) (st2:=st2) (fun id g hl=>by
  rcases hlive id _ hl with ⟨e1,e2⟩ | ⟨e1,_,h3⟩
  ·injection e2 with e2;exact .inl ⟨e1,e2⟩
  ·exact .inr ⟨e1,h3⟩)
 refine wp_region_list ?_;rw [hl];refine AE (v:=.map (some b)) (w':=w) o1g (by simp [execOp,o1o,Act.eval,hvm]) ?_;rw [o1d];refine AE (v:=.pointer (some ⟨w.heap.size,0,none⟩)) (w':=w.alloc (.mapIter (some b) clock #[] clock)) o2g ?_ ?_
 ·have e:(a.put (some t0) (.map (some b))).eval (.tmp t0)=.map (some b):=AJ (by omega);simp [execOp,o2o,e,run_range_map w tR mk_ me b E clock hmt hh]
 rw [o2d];refine wpList_nil ⟨st2,hK,_,_,o1,⟨fun id id' g g' h1 h2=>(key id g h1).1.trans (key id' g' h2).1.symm,fun id g hg=>?_⟩,T,o2⟩;obtain ⟨_,rfl⟩:=key id g hg;refine ⟨_,⟨H0,hQ0,rfl⟩,⟨fun i p e hi=>?_,fun i j x y b1 c c' h1 h2 t1 t2=>?_⟩⟩
 ·cases i with
  | zero =>
   simp only [jY,uU,kU] at hi;obtain ⟨rfl,rfl⟩:=hi;refine ⟨⟨w.heap.size,b,E,clock,#[],clock,l,rfl,hr1,yI _,o3 b (.inr rfl),by show b<(w.alloc _).heap.size;omega,(hold1 b hblt).trans hh,hst,hsz,fun i x hx=>?_,(zKb hsz).symm,fun c hc=>by cases hc⟩,fun b1 c1 h1=>by injection h1 with h1 _;exact .inr h1.symm⟩;obtain ⟨e,k1,k2,k3⟩:=hent i x hx;exact ⟨e,k1,(hmono (fun _ _ h=>h) k2).mono (yI _) (fun _ _ _=>rfl) (fun x hx _=>o3 x hx) (fun _ _ h=>h),(hmono (fun _ _ h=>h) k3).mono (yI _) (fun _ _ _=>rfl) (fun x hx _=>o3 x hx) (fun _ _ h=>h)⟩
  | succ i =>
   rw [pJ] at hi;obtain ⟨k1,k2⟩:=hHp.1 i p e hi;exact ⟨k1.mono (by show _<=(w.alloc _).heap.size;omega) (fun x hx hlt=>hold1 x hlt) (fun x hx hlt=>o3 x (.inl hx)) (fun b1 c1 hp=>hold1 b1 (hHlt b1 (k2 b1 c1 hp))),fun b1 c1 hp=>.inl (k2 b1 c1 hp)⟩
 ·have hno:∀ (k:Nat) (z:wH) (c1:Nat),H0[k]?=some (some z)->z.1=.at w.heap.size c1->False:=by
   intro k z c1 hk hz
   have:=hHlt _ ((hHp.1 k z.1 z.2 hk).2 _ _ hz);omega
  cases i with
  | zero =>
   rw [jY] at h1;injection h1 with h1;injection h1 with h1;subst h1;injection t1 with t1 _;cases j with
   | zero=>rfl
   | succ j=>rw [pJ] at h2;subst t1;exact (hno j y c' h2 t2).elim
  | succ i =>
   rw [pJ] at h1;cases j with
   | zero =>
    rw [jY] at h2;injection h2 with h2;injection h2 with h2;subst h2;injection t2 with t2 _;subst t2;exact (hno i x c h1 t1).elim
   | succ j=>rw [pJ] at h2;rw [hHp.2 i j x y b1 c c' h1 h2 t1 t2]
def zFH (N:Nat) (c:Code) (tn tok ti:Nat):Bool :=
 match c with
 | .region _ ops false=>match ops.toList with
  | [n1,n2]=>(decide (zBK n1=some (tn,ti))&&decide (XJ n2=some (tok,tn,0)))&&(Nat.blt tn N&&(Nat.blt tok N&&!Nat.beq ti tn))
  | _=>false
 | _=>false
theorem zG3 {E:Array MapEntry} {l:List (AV×AV)} (hsz:E.size=l.length) {clock:Nat} (hst:MapKept.Stamped E clock) {seen:Array Nat} {i:Nat} {z:MapEntry×(AV×AV)} (hi:((E.toList.zip l).filter fun z=>!seen.contains z.1.born)[i]?=some z) :
  B0 E l (seen.push z.1.born)=(B0 E l seen).eraseIdx i:=by
 have e1:((E.toList.zip l).map fun z=>z.1.born)=E.toList.map (·.born):=by
  have:(E.toList.zip l).map (·.1)=E.toList:=by rw [List.map_fst_zip];simp [hsz]
  rw [<- this,QL];simp [this]
 unfold B0;rw [zLV (by rw [e1];exact hst.2.1) hi,zGx]
theorem zCo {E:Array MapEntry} {l:List (AV×AV)} (hsz:E.size=l.length) (seen:Array Nat):(leftOf E seen).toList=((E.toList.zip l).filter fun z=>!seen.contains z.1.born).map (·.1):=by
 have h:=zGt (E:=E.toList) (l:=l) (by simp [hsz]) (fun e=>!seen.contains e.born);rw [h];simp [leftOf]
theorem zHv {P:Program} {N:Nat} {c:Code} {K:Exit->AS->Prop} {st:AS} (tn tok ti fid r:Nat) {left:List (AV×AV)} {cur:Option (AV×AV)} {Q:List (Option wH)->Prop} (hc:zFH N c tn tok ti=true)
  (hs:st.slot ti=.raw r) (hb:st.box fid=.live (.fam (.hpx (ItQ r left cur Q))))
  (h0:left=[]->K .normal ((st.put tn .junk).put tok (.bool false)))
  (h1:∀ (i:Nat) (kv:AV×AV),left[i]?=some kv->K .normal (((st.put tn .junk).put tok (.bool true)).setB fid (.live (.fam (.hpx (ItQ r (left.eraseIdx i) (some kv) Q)))))):AW P N 0 c K st:=by
 intro G a w hN hnp ⟨G',Hd,L,F,T,hT⟩;have hf:G.foot=[]:=dN.1 hnp;unfold zFH at hc
 split at hc
 case h_2=>cases hc
 rename_i ops
 split at hc
 case h_2=>cases hc
 rename_i n1 n2 hl
 simp only [zba,decide_eq_true_eq] at hc;obtain ⟨⟨p1,p2⟩,p4,p5,p6⟩:=hc;obtain ⟨n1o,n1d,n1g⟩:=zIc p1;obtain ⟨n2o,n2d,n2g⟩:=zDQ p2;have lt:∀ {t:Nat},Nat.blt t N=true->t<N:=fun h=>by simp [Nat.blt] at h;omega
 replace p4:=lt p4;replace p5:=lt p5;have hsz0:a.tmps.size=N:=by rw [hT.size,L.n,hN]
 have hti:a.tmps.getD ti undef=.pointer (some ⟨r,0,none⟩):=by
  have:=hT.slots ti
  rw [hs] at this;generalize a.tmps.getD ti undef=v at this;cases this;rfl
 obtain ⟨H,⟨H0,hQ0,rfl⟩,hH⟩:=F.ok fid _ hb;have hI:∀ b,uP G' b->b<G'.w0.heap.size->w.heap[b]?=G'.w0.heap[b]?:=fun b hb _=>fZ hT.kept hb
 have hHd:∀ b,Hd b->w.heap[b]?=G'.w0.heap[b]?:=fun b hb=>gX L hT.kept hb
 have hII:∀ b,uP G' b->b<G'.w0.heap.size->imm G' st T b/\b<w.heap.size:=fun b hb _=>gQ L hf hT hb
 have hHp:=hH.move hT.kept.size hI hII hHd (fun _ h=>h);have hHlt:∀ x,Hd x->x<w.heap.size:=fun x hx=>kZ (L.hid x hx).1 hT.kept.size
 obtain ⟨hit,hrHd⟩:=hHp.1 0 (.at r 0) (.iter left cur) rfl;have hrHd:=hrHd r 0 rfl;obtain ⟨r',b,E,clock,seen,last,l,q1,q2,q3,q4,q5,q6,q7,q8,q9,q10,q11⟩:=hit;injection q1 with q1 _;subst q1;have hTf:∀ b1 c,T fid≠some (.at b1 c):=fun b1 c e=>by have:=hT.boxes fid _ hb;rw [e] at this;cases this
 refine wp_region_list ?_;rw [hl];rcases run_next_at (P:=P) w n1.type r b clock last seen E clock q2 q6 q7.1 q3 with ⟨hz0,hrun⟩ | ⟨e,hemem,w2,hw2,hrun⟩
 ·refine AE (v:=.tuple #[.bool false]) (w':=w) n1g (by
   have e0:a.eval (.tmp ti)=.pointer (some ⟨r,0,none⟩):=hti;simp [execOp,n1o,e0,hrun]) ?_
  rw [n1d];refine AE (v:=.bool false) (w':=w) n2g (by
   have e0:(a.put (some tn) (.tuple #[.bool false])).eval (.tmp tn)=.tuple #[.bool false]:=AJ (by omega);simp [execOp,n2o,e0,Instr.extract]) ?_
  rw [n2d];have hnil:left=[]:=by
   have h2:(leftOf E seen).toList=[]:=by
    rw [<- dN];simpa using hz0
   rw [zCo q8] at h2;rw [q10];unfold B0;rw [YW.1 h2];rfl
  refine wpList_nil ⟨_,h0 hnil,G',Hd,L,⟨F.one,F.ok⟩,T,?_⟩;exact ⟨hT.defers,by rw [pI,pI];exact hT.size,fun t=>by
   show Rep _ _ _ _ (bif Nat.beq t tok then _ else (bif Nat.beq t tn then _ else _))
   by_cases e1:t=tok
   ·rw [e1,pX,AJ (by rw [pI];omega)];exact .bool
   ·rw [wV e1,AP (by rw [pI];omega) e1]
    by_cases e2:t=tn
    ·rw [e2,pX];exact .junk
    ·rw [wV e2,AP (by omega) e2];exact hT.slots t,hT.boxes,hT.unused,hT.apart,hT.mine,hT.foot,hT.kept,hT.pin⟩
 ·have hmem2:e∈((E.toList.zip l).filter fun z=>!seen.contains z.1.born).map (·.1):=by rw [<- zCo q8];exact hemem
  obtain ⟨z,hz,hze⟩:=vB.1 hmem2;obtain ⟨i,hi⟩:=uG.1 hz;subst hze;have hkv:left[i]?=some z.2:=by rw [q10,B0,vD,hi];rfl
  have hzE:z∈E.toList.zip l:=(mG.1 hz).1;obtain ⟨j,hj⟩:=uG.1 hzE;obtain ⟨hjE,hjl⟩:=List.getElem?_zip_eq_some.1 hj;obtain ⟨e',hje',hk1,hk2⟩:=q9 j z.2 hjl;have hee:e'=z.1:=by
   rw [k9] at hjE;rw [hje'] at hjE;injection hjE
  subst hee;have hzin:z.1∈E.toList:=yN hjE;have hhp2:w2.heap=w.heap:=by rcases hw2 with rfl | rfl<;>rfl
  have hlt:=hHlt r hrHd;generalize hw3:setBlock w2 r (.mapIter (some b) clock (seen.push z.1.born) clock)=w3 at hrun;have hw3o:∀ x,x≠r->w3.heap[x]?=w.heap[x]?:=by
   intro x hx;rw [<- hw3];simp only [setBlock,hhp2];rw [Array.getElem?_setIfInBounds_ne (fun e=>hx e.symm)]
  have hw3r:w3.heap[r]?=some (.mapIter (some b) clock (seen.push z.1.born) clock):=by
   rw [<- hw3];simp only [setBlock,hhp2];rw [Array.getElem?_setIfInBounds_self_of_lt hlt]
  have hw3s:w3.heap.size=w.heap.size:=by rw [<- hw3];simp [setBlock,hhp2]
  have himr:∀ x,imm G' st T x->x≠r:=fun x hx e=>g9 L (e ▸ hrHd) hx
  generalize hst2:(((st.put tn .junk).put tok (.bool true)).setB fid (.live (.fam (.hpx (ItQ r (left.eraseIdx i) (some z.2) Q)))))=st2;have hK:K .normal st2:=by rw [<- hst2];exact h1 i z.2 hkv
  have hbox:∀ k,st2.box k=if k=fid then .live (.fam (.hpx (ItQ r (left.eraseIdx i) (some z.2) Q))) else st.box k:=by
   intro k;rw [<- hst2,xA];rfl
  have hslot:∀ t,st2.slot t=if t=tok then .bool true else if t=tn then .junk else st.slot t:=by
   intro t;rw [<- hst2];show (bif Nat.beq t tok then _ else (bif Nat.beq t tn then _ else _))=_
   by_cases e1:t=tok
   ·rw [if_pos e1,e1,pX];rfl
   ·rw [if_neg e1,wV e1]
    by_cases e2:t=tn
    ·rw [if_pos e2,e2,pX];rfl
    ·rw [if_neg e2,wV e2];rfl
  have hlive:∀ k bx,st2.box k=.live bx->(k=fid/\bx=.fam (.hpx (ItQ r (left.eraseIdx i) (some z.2) Q)))\/(k≠fid/\st.box k=.live bx):=by
   intro k bx hl;rw [hbox] at hl
   by_cases e1:k=fid
   ·rw [if_pos e1] at hl;injection hl with hl;exact .inl ⟨e1,hl.symm⟩
   ·rw [if_neg e1] at hl;exact .inr ⟨e1,hl⟩
  have hmono:∀ {T1 T2:Tbl} {v:Value} {av:AV},T1.le T2->Rep w (imm G' st T) T1 v av->Rep w3 (fun x=>imm G' st T x/\x<w.heap.size) T2 v av :=
   fun hle hr=>hr.mono (by omega) (fun x hx _=>hw3o x (himr x hx)) (fun x hx hlt=>⟨hx,hlt⟩) hle
  obtain ⟨o1,o2,o3⟩:=CK (Hd2:=Hd) (J:=fun x=>imm G' st T x/\x<w.heap.size) (st2:=st2) (T2:=T)
   (a2:=(a.put (some tn) (.tuple #[.bool true,z.1.key,z.1.val])).put (some tok) (.bool true)) (w2:=w3) (pin:=fun _=>none) L hf hT
   (by rw [<- hw3];rcases hw2 with rfl | rfl<;>rfl) (by rw [<- hw3];rcases hw2 with rfl | rfl<;>rfl) (by rw [<- hw3];rcases hw2 with rfl | rfl<;>rfl) (by omega) (fun x hx hn=>hw3o x (fun e=>hn (e ▸ hrHd))) hT.defers
   (by rw [pI,pI,hT.size,L.n])
   (by
    intro x hx;refine ⟨(L.imm hx.1).1,by omega,fun h=>g9 L h hx.1,?_⟩;intro k bx cap hl hTi;rcases hlive k bx hl with ⟨rfl,_⟩ | ⟨_,h3⟩
    ·exact hTf _ _ hTi
    ·exact hx.1.2 k bx cap h3 hTi)
   (by
    intro t;rw [hslot]
    by_cases e1:t=tok
    ·rw [if_pos e1,e1,AJ (by rw [pI];omega)];exact .bool
    ·rw [if_neg e1,AP (by rw [pI];omega) e1]
     by_cases e2:t=tn
     ·rw [if_pos e2];exact .junk
     ·rw [if_neg e2,AP (by omega) e2];exact hmono (fun _ _ h=>h) (hT.slots t))
   (by
    intro k bx hl;rcases hlive k bx hl with ⟨rfl,rfl⟩ | ⟨_,h3⟩
    ·exact hT.boxes _ _ hb
    ·exact (hT.boxes k bx h3).mono (by omega) (fun x hx _=>hw3o x (himr x hx)) (fun x hx hlt=>⟨hx,hlt⟩) (fun _ _ h=>h) (fun x cap hp _=>hw3o x (fun e=>nP L hf hT h3 hp (e ▸ hrHd))))
   (by
    intro k hu;rw [hbox] at hu
    by_cases e1:k=fid
    ·rw [if_pos e1] at hu;cases hu
    ·rw [if_neg e1] at hu;exact hT.unused k hu)
   (by
    intro k j x y b1 c c' h1 h2 t1 t2;rcases hlive k x h1 with ⟨rfl,_⟩ | ⟨_,l1⟩
    ·exact absurd t1 (hTf _ _)
    ·rcases hlive j y h2 with ⟨rfl,_⟩ | ⟨_,l2⟩
     ·exact absurd t2 (hTf _ _)
     ·exact hT.apart k j x y b1 c c' l1 l2 t1 t2)
   (by
    intro k bx b1 cap hl hTi;rcases hlive k bx hl with ⟨rfl,_⟩ | ⟨_,h3⟩
    ·exact absurd hTi (hTf _ _)
    ·exact ⟨L.mine (hT.mine k bx b1 cap h3 hTi (by rw [L.foot,hf];exact wI _)),nP L hf hT h3 hTi⟩)
   (fun i p hp=>by cases hp)
   (fun x hx=>⟨by have:=hHlt x hx;omega,(L.hid x hx).2.1⟩)
  have key:=zF6 F hb (f':=.hpx (ItQ r (left.eraseIdx i) (some z.2) Q)) (st2:=st2) (fun id g hl=>by
   rcases hlive id _ hl with ⟨e1,e2⟩ | ⟨e1,h3⟩
   ·injection e2 with e2;exact .inl ⟨e1,e2⟩
   ·exact .inr ⟨e1,h3⟩)
  refine AE (v:=.tuple #[.bool true,z.1.key,z.1.val]) (w':=w3) n1g (by
   have e0:a.eval (.tmp ti)=.pointer (some ⟨r,0,none⟩):=hti;simp [execOp,n1o,e0,hrun]) ?_
  rw [n1d];refine AE (v:=.bool true) (w':=w3) n2g (by
   have e0:(a.put (some tn) (.tuple #[.bool true,z.1.key,z.1.val])).eval (.tmp tn)=.tuple #[.bool true,z.1.key,z.1.val]:=AJ (by omega);simp [execOp,n2o,e0,Instr.extract]) ?_
  rw [n2d];refine wpList_nil ⟨st2,hK,_,_,o1,⟨fun id id' g g' h1 h2=>(key id g h1).1.trans (key id' g' h2).1.symm,fun id g hg=>?_⟩,T,o2⟩;obtain ⟨_,rfl⟩:=key id g hg;have hmv:∀ {v:Value} {av:AV},Rep w (fun x=>imm G' st T x/\x<w.heap.size) Tbl.empty v av->Rep w3 (uP (reb G (fun x=>imm G' st T x/\x<w.heap.size) st2 T w3 (fun _=>none))) Tbl.empty v av :=
   fun hr=>hr.mono (by omega) (fun x hx _=>hw3o x (himr x hx.1)) (fun x hx _=>o3 x hx) (fun _ _ h=>h)
  refine ⟨_,⟨H0,hQ0,rfl⟩,⟨fun k p e hi'=>?_,fun k j x y b1 c c' h1 h2 t1 t2=>?_⟩⟩
  ·cases k with
   | zero =>
    simp only [jY,uU,kU] at hi';obtain ⟨rfl,rfl⟩:=hi';refine ⟨⟨r,b,E,clock,seen.push z.1.born,clock,l,rfl,hw3r,yI _,o3 b q4,by show b<w3.heap.size;omega,(hw3o b (himr b q4.1)).trans q6,q7,q8,fun i x hx=>?_,by rw [zG3 q8 q7 hi,q10],fun c hc=>?_⟩,fun b1 c1 h1=>by injection h1 with h1 _;exact h1 ▸ hrHd⟩
    ·obtain ⟨e,k1,k2,k3⟩:=q9 i x hx;exact ⟨e,k1,hmv k2,hmv k3⟩
    ·injection hc with hc;subst hc;exact ⟨z.1,seen,rfl,hzin,rfl,hmv hk1,hmv hk2⟩
   | succ k =>
    obtain ⟨k1,k2⟩:=hHp.1 (k+1) p e (by rw [pJ] at hi' ⊢;exact hi');exact ⟨k1.mono (by show _<=w3.heap.size;omega) (fun x hx hlt=>hw3o x (himr x hx.1)) (fun x hx hlt=>o3 x hx) (fun b1 c1 hp=>hw3o b1 (fun e=>by
     rw [e] at hp
     have:=hHp.2 0 (k+1) (.at r 0,.iter left cur) _ r 0 c1 rfl (by rw [pJ] at hi' ⊢;exact hi') rfl hp
     omega)),k2⟩
  ·have hcv:∀ (k:Nat) (x:wH),(some (zY.at r 0,qD.iter (left.eraseIdx i) (some z.2))::H0)[k]?=some (some x)->∃ y:wH,(some (zY.at r 0,qD.iter left cur)::H0)[k]?=some (some y)/\y.1=x.1:=by
    intro k x hk;cases k with
    | zero=>simp only [jY,uU] at hk;subst hk;exact ⟨_,rfl,rfl⟩
    | succ k=>exact ⟨x,by rw [pJ] at hk ⊢;exact hk,rfl⟩
   obtain ⟨x',h1',e1⟩:=hcv k x h1;obtain ⟨y',h2',e2⟩:=hcv j y h2;exact hHp.2 k j x' y' b1 c c' h1' h2' (e1.trans t1) (e2.trans t2)
def zER (N:Nat) (c:Code) (te tx ti td:Nat):Bool :=
 match c with
 | .region _ ops false=>match ops.toList with
  | [e1,e2,e3]=>(decide (Y9 e1=some (te,ti))&&(decide (XJ e2=some (tx,te,1))&&decide (Z6 e3=some (td,tx))))&&(Nat.blt te N&&(Nat.blt tx N&&Nat.blt td N))
  | _=>false
 | _=>false
theorem zLT {P:Program} {N:Nat} {c:Code} {K:Exit->AS->Prop} {st:AS} (te tx ti td fid r:Nat) {left:List (AV×AV)} {kv:AV×AV} {Q:List (Option wH)->Prop} (hc:zER N c te tx ti td=true)
  (hs:st.slot ti=.raw r) (hb:st.box fid=.live (.fam (.hpx (ItQ r left (some kv) Q))))
  (h:K .normal (((st.put te .junk).put tx .junk).put td kv.2)):AW P N 0 c K st:=by
 intro G a w hN hnp ⟨G',Hd,L,F,T,hT⟩;have hf:G.foot=[]:=dN.1 hnp;unfold zER at hc
 split at hc
 case h_2=>cases hc
 rename_i ops
 split at hc
 case h_2=>cases hc
 rename_i e1 e2 e3 hl
 simp only [zba,decide_eq_true_eq] at hc;obtain ⟨⟨p1,p2,p3⟩,p4,p5,p6⟩:=hc;obtain ⟨e1o,e1d,e1g⟩:=zL1 p1;obtain ⟨e2o,e2d,e2g⟩:=zDQ p2;obtain ⟨e3o,e3d,e3g⟩:=zJw p3;have lt:∀ {t:Nat},Nat.blt t N=true->t<N:=fun h=>by simp [Nat.blt] at h;omega
 replace p4:=lt p4;replace p5:=lt p5;replace p6:=lt p6;have hsz0:a.tmps.size=N:=by rw [hT.size,L.n,hN]
 have hti:a.tmps.getD ti undef=.pointer (some ⟨r,0,none⟩):=by
  have:=hT.slots ti
  rw [hs] at this;generalize a.tmps.getD ti undef=v at this;cases this;rfl
 obtain ⟨H,⟨H0,hQ0,rfl⟩,hH⟩:=F.ok fid _ hb;have hI:∀ b,uP G' b->b<G'.w0.heap.size->w.heap[b]?=G'.w0.heap[b]?:=fun b hb _=>fZ hT.kept hb
 have hHd:∀ b,Hd b->w.heap[b]?=G'.w0.heap[b]?:=fun b hb=>gX L hT.kept hb
 have hII:∀ b,uP G' b->b<G'.w0.heap.size->imm G' st T b/\b<w.heap.size:=fun b hb _=>gQ L hf hT hb
 have hHp:=hH.move hT.kept.size hI hII hHd (fun _ h=>h);obtain ⟨hit,_⟩:=hHp.1 0 (.at r 0) (.iter left (some kv)) rfl;obtain ⟨r',b,E,clock,seen,last,l,q1,q2,q3,q4,q5,q6,q7,q8,q9,q10,q11⟩:=hit;injection q1 with q1 _;subst q1;obtain ⟨e,s,k0,k1,k2,k3,k4⟩:=q11 kv rfl;subst k0;have hkey:(Instr.entry (.pointer (some ⟨r,0,none⟩))).run P w=.ok (.tuple #[e.key,e.val]) w:=by
  have hf:E.find? (·.born==e.born)=some e:=by rw [<- Array.find?_toList];exact find_born e E.toList q7.2.1 k1
  simp only [Instr.entry,getObj,vV,Sem.run,q2,k2,q6,Result.andThen,Array.back?_push,bne_self_eq_false,SW,if_false,hf];rfl
 refine wp_region_list ?_;rw [hl];refine AE (v:=.tuple #[e.key,e.val]) (w':=w) e1g (by
  have e0:a.eval (.tmp ti)=.pointer (some ⟨r,0,none⟩):=hti;simp [execOp,e1o,e0,hkey]) ?_
 rw [e1d];refine AE (v:=e.val) (w':=w) e2g (by
  have e0:(a.put (some te) (.tuple #[e.key,e.val])).eval (.tmp te)=.tuple #[e.key,e.val]:=AJ (by omega);simp [execOp,e2o,e0,Instr.extract]) ?_
 rw [e2d];refine AE (v:=e.val) (w':=w) e3g (by
  have e0:((a.put (some te) (.tuple #[e.key,e.val])).put (some tx) e.val).eval (.tmp tx)=e.val:=AJ (by rw [pI];omega);simp [execOp,e3o,e0]) ?_
 rw [e3d];refine wpList_nil ⟨_,h,G',Hd,L,⟨F.one,F.ok⟩,T,?_⟩;exact ⟨hT.defers,by rw [pI,pI,pI];exact hT.size,fun t=>by
  show Rep _ _ _ _ (bif Nat.beq t td then _ else (bif Nat.beq t tx then _ else (bif Nat.beq t te then _ else _)))
  by_cases e1:t=td
  ·rw [e1,pX,AJ (by rw [pI,pI];omega)];exact k4.mono (yI _) (fun _ _ _=>rfl) (fun x hx _=>hx.1) (fun i p hp=>by cases hp)
  ·rw [wV e1,AP (by rw [pI,pI];omega) e1]
   by_cases e2:t=tx
   ·rw [e2,pX];exact .junk
   ·rw [wV e2,AP (by rw [pI];omega) e2]
    by_cases e3:t=te
    ·rw [e3,pX];exact .junk
    ·rw [wV e3,AP (by omega) e3];exact hT.slots t,hT.boxes,hT.unused,hT.apart,hT.mine,hT.foot,hT.kept,hT.pin⟩
/-! The order of hidden blocks does not matter. -/
def hpE (w:World) (I Hd:Nat->Prop) (x:Option wH):Prop:=∀ p e,x=some (p,e)->rW w I p e/\∀ b c,p=.at b c->Hd b
def hpR (x y:Option wH):Prop:=∀ p q b c c',x=some p->y=some q->p.1=.at b c->q.1=.at b c'->False
theorem zDS {w:World} {I Hd:Nat->Prop} {H:List (Option wH)}:jO w I Hd H↔(∀ x∈H,hpE w I Hd x)/\H.Pairwise hpR:=by
 constructor
 ·rintro ⟨h1,h2⟩;refine ⟨fun x hx p e hxe=>?_,?_⟩
  ·obtain ⟨i,hi⟩:=uG.1 hx;exact h1 i p e (hxe ▸ hi)
  ·rw [BI];intro i j hi hj hij p q b c c' e1 e2 t1 t2
   have:=h2 i j p q b c c' (by rw [w7 hi,e1]) (by rw [w7 hj,e2]) t1 t2
   omega
 ·rintro ⟨h1,h2⟩;rw [BI] at h2;refine ⟨fun i p e hi=>h1 _ (yN hi) p e rfl,fun i j x y b c c' hi hj t1 t2=>?_⟩;obtain ⟨i1,i2⟩:=vO.1 hi;obtain ⟨j1,j2⟩:=vO.1 hj;rcases DH i j with h | h | h
  ·exact (h2 i j i1 j1 h x y b c c' i2 j2 t1 t2).elim
  ·exact h
  ·exact (h2 j i j1 i1 h y x b c' c j2 i2 t2 t1).elim
theorem WC {H H':List (Option wH)} (h:H.Perm H'):∀ w I Hd,jO w I Hd H->jO w I Hd H':=by
 intro w I Hd hH;rw [zDS] at hH ⊢;exact ⟨fun x hx=>hH.1 x (h.mem_iff.2 hx),(h.pairwise_iff (fun {x y} h p q b c c' e1 e2 t1 t2=>h q p b c' c e2 e1 t2 t1)).1 hH.2⟩
theorem zCU {H H':List (Option wH)} (h:H'.Sublist H):∀ w I Hd,jO w I Hd H->jO w I Hd H':=by
 intro w I Hd hH;rw [zDS] at hH ⊢;exact ⟨fun x hx=>hH.1 x (h.subset hx),hH.2.sublist h⟩
/-! Views and names, for the parts of a region. -/
theorem zJH {P:Program} {N np:Nat} {all:Array Oper} {l:List Oper} {K:AS->Prop} {st:AS} (fid:Nat) {Q:List (Option wH)->Prop} (hb:st.box fid=.live (.fam (.hpx Q)))
  (h:∀ H,Q H->AWL P N np all l K (st.setB fid (.live (.fam (.hp H []))))):AWL P N np all l K st:=by
 rintro Q' G a w hN hnp ⟨G',Hd,L,F,T,hT⟩ hQ';obtain ⟨H,hQ,hH⟩:=F.ok fid _ hb;refine h H hQ Q' G a w hN hnp ⟨G',Hd,L,⟨?_,?_⟩,T,hT.fam hb rfl fun i=>xA _ _ _ _⟩ hQ'
 all_goals
  have key:∀ id f,(st.setB fid (.live (.fam (.hp H [])))).box id=.live (.fam f)->id=fid/\f=.hp H []:=by
   intro id f hl;rw [xA] at hl
   by_cases e:id=fid
   ·rw [if_pos e] at hl;injection hl with hl;injection hl with hl;exact ⟨e,hl.symm⟩
   ·rw [if_neg e] at hl;exact absurd (F.one id fid f _ hl hb) e
 ·exact fun i j f g h1 h2=>(key i f h1).1.trans (key j g h2).1.symm
 ·intro id f h1;obtain ⟨_,rfl⟩:=key id f h1;exact ⟨hH,fun x hx=>by cases hx⟩
theorem zDm {P:Program} {N np:Nat} {all:Array Oper} {l:List Oper} {K:AS->Prop} {st:AS} (fid k:Nat) {H:List (Option wH)} {pins:List (Nat×zY)} (hb:st.box fid=.live (.fam (.hp H pins))) {bx:Box} (hk:st.box k=.live bx)
  (h:∀ p,AWL P N np all l K (st.setB fid (.live (.fam (.hp H ((k,p)::pins)))))):AWL P N np all l K st:=fun Q G a w hN hnp hR hQ=>by
 obtain ⟨p,hR⟩:=zAO fid k hb hk hR;exact h p Q G a w hN hnp hR hQ
theorem ZI {np:Nat} {st:AS} (fid:Nat) {Q Q':List (Option wH)->Prop} (hb:st.box fid=.live (.fam (.hpx Q)))
  (h:∀ H,Q H->∃ H',Q' H'/\∀ w I Hd,jO w I Hd H->jO w I Hd H'):Sub np st (st.setB fid (.live (.fam (.hpx Q')))):=by
 rintro G a w hnp ⟨G',Hd,L,F,T,hT⟩;have key:∀ id f,(st.setB fid (.live (.fam (.hpx Q')))).box id=.live (.fam f)->id=fid/\f=.hpx Q':=by
  intro id f hl;rw [xA] at hl
  by_cases e:id=fid
  ·rw [if_pos e] at hl;injection hl with hl;injection hl with hl;exact ⟨e,hl.symm⟩
  ·rw [if_neg e] at hl;exact absurd (F.one id fid f _ hl hb) e
 refine ⟨G',Hd,L,⟨fun i j f g h1 h2=>(key i f h1).1.trans (key j g h2).1.symm,fun id f h1=>?_⟩,T,hT.fam hb rfl fun i=>xA _ _ _ _⟩;obtain ⟨_,rfl⟩:=key id f h1;obtain ⟨H,hQ,hH⟩:=F.ok fid _ hb;obtain ⟨H',k1,k2⟩:=h H hQ;exact ⟨H',k1,k2 _ _ _ hH⟩
/-! Groups. -/
def mgE (q:zY) (x:Int×List Int):AV×AV:=(.int .i64 x.1,.rawp q x.2.length)
def pR (q:zY) (x:Int×List Int):Option wH:=some (q,.row 3 1 (x.2.map (.int .i64)))
abbrev mgs (P:List zY) (g:List (Int×List Int)):List (AV×AV):=List.zipWith mgE P g
def GrQ (P:List zY) (g:List (Int×List Int)) (Q:List (Option wH)->Prop) (H:List (Option wH)):Prop:=∃ H0,Q H0/\H=List.zipWith pR P g++H0
def gC:List zY->List (Int×List Int)->Int->AV
 | q::P,x::g,d=>if x.1=d then .rawp q x.2.length else gC P g d
 | _,_,_=>.nilsl
theorem zBV:∀ {P:List zY} {g:List (Int×List Int)} {d:Int} {r:List Int},P.length=g.length->zV g d=some r->∃ (j:Nat) (q:zY) (x:Int×List Int),P[j]?=some q/\g[j]?=some x/\x.1=d/\x.2=r/\gC P g d=.rawp q r.length/\∀ v,xC g d v=g.set j (d,v)
 | [],[],_,_,_,h=>by cases h
 | q::P,x::g,d,r,hl,h=>by
  rw [zV] at h
  by_cases e:x.1=d
  ·rw [if_pos e] at h;injection h with h;exact ⟨0,q,x,rfl,rfl,e,h,by rw [gC,if_pos e,h],fun v=>by rw [xC,if_pos e];rfl⟩
  ·rw [if_neg e] at h;obtain ⟨j,q',x',h1,h2,h3,h4,h5,h6⟩:=zBV (P:=P) (g:=g) (by simpa using hl) h;exact ⟨j+1,q',x',h1,h2,h3,h4,by rw [gC,if_neg e];exact h5,fun v=>by rw [xC,if_neg e,h6];rfl⟩
 | [],_::_,_,_,hl,_=>by cases hl
 | _::_,[],_,_,hl,_=>by cases hl
theorem zBu:∀ {P:List zY} {g:List (Int×List Int)} {d:Int},zV g d=none->gC P g d=.nilsl
 | [],_,_,_=>by unfold gC;rfl
 | _::_,[],_,_=>by unfold gC;rfl
 | q::P,x::g,d,h=>by
  rw [zV] at h
  by_cases e:x.1=d
  ·rw [if_pos e] at h;cases h
  ·rw [if_neg e] at h;rw [gC,if_neg e];exact zBu h
theorem zJg {P:List zY} {g:List (Int×List Int)} (hl:P.length=g.length) (d:Int):u0 (mgs P g) (.int .i64 d) .nilsl (gC P g d) (zV g d).isSome:=by
 cases h:zV g d with
 | none =>
  refine .inr ⟨fun y hy=>?_,zBu h,rfl⟩;obtain ⟨i,hi⟩:=uG.1 hy;rw [TG] at hi
  split at hi
  ·rename_i q x h1 h2
   injection hi with hi;subst hi;exact fun e=>AA h x (yN h2) (AV.int.inj e).2
  ·cases hi
 | some r =>
  obtain ⟨j,q,x,h1,h2,h3,h4,h5,h6⟩:=zBV hl h;exact .inl ⟨j,mgE q x,l5 h1 h2,by simp [mgE,h3],by rw [h5];simp [mgE,h4],rfl⟩
theorem zNM {Pr:Program} {N:Nat} {all:Array Oper} {l:List Oper} {K:AS->Prop} {st:AS} (fid t k:Nat) {P:List zY} {g:List (Int×List Int)} {Q:List (Option wH)->Prop} (hl:P.length=g.length) (d:Int)
  (hb:st.box fid=.live (.fam (.hpx (GrQ P g Q)))) (hu:st.box k=.unused) (hs:st.slot t=gC P g d)
  (h:∀ (Hc:List (Option wH)) (j:Nat) (q0:zY),Hc[j]?=some none ->
   (∀ (q:zY) (r:List Int),∃ P':List zY,P'.length=(xC g d r).length/\jS (mgs P g) (.int .i64 d) (.rawp q r.length) (mgs P' (xC g d r)) /\
    ∃ H',GrQ P' (xC g d r) Q H'/\∀ w I Hd,jO w I Hd (Hc.set j (some (q,.row 3 1 (r.map (.int .i64)))))->jO w I Hd H') ->
   AWL Pr N 0 all l K (((st.setB k (.live (.row 3 1 (((zV g d).getD []).map (.int .i64))))).setB fid (.live (.fam (.hp Hc [(k,q0)])))).setS t (.own k ((zV g d).getD []).length))):AWL Pr N 0 all l K st:=by
 have hkf:k≠fid:=fun e=>by rw [e,hb] at hu;cases hu
 refine zJH fid hb ?_;rintro H ⟨H0,hQ,rfl⟩;cases hm:zV g d with
 | some r =>
  obtain ⟨j,q,x,h1,h2,h3,h4,h5,h6⟩:=zBV hl hm;have hj:(List.zipWith pR P g++H0)[j]?=some (some (q,.row 3 1 (r.map (.int .i64)))):=by
   have:=l5 (f:=pR) h1 h2
   rw [uH (vO.1 this).1,this];simp [pR,h4]
  refine r6 (Q5 fid k j (by rw [xA,if_pos rfl]) (by rw [xA,if_neg hkf];exact hu) hj) ?_;refine r6 (zEH fid t k r.length (p:=q) (by rw [xA,if_pos rfl]) (by simp) (by show st.slot t=_;rw [hs,h5])) ?_;have hlt:j<(List.zipWith pR P g).length:=(vO.1 (l5 (f:=pR) h1 h2)).1
  have:=h ((List.zipWith pR P g++H0).set j none) j q (by rw [Q8 (by rw [zla];omega)]) (fun q' r'=>by
   refine ⟨P.set j q',by rw [h6];simpa using hl,.inl ⟨j,mgE q x,l5 h1 h2,by simp [mgE,h3],?_⟩,_,⟨H0,hQ,rfl⟩,fun w I Hd h=>?_⟩
   ·rw [h6,mgs,<- R0 hl];rfl
   ·rw [set_set,YX _ _ hlt] at h;rw [h6,<- R0 hl];exact h)
  rw [hm] at this;refine cast (congrArg (AWL Pr N 0 all l K) ?_) this;show AS.mk _ _=AS.mk _ _
  congr 1
  funext i
  show (AS.setB _ fid _).box i=(AS.setB _ fid _).box i;simp only [xA]
  by_cases e:i=fid
  ·rw [if_pos e,if_pos e]
  ·rw [if_neg e,if_neg e]
   by_cases e2:i=k
   ·rw [if_pos e2,if_pos e2];rfl
   ·rw [if_neg e2,if_neg e2,if_neg e]
 | none =>
  refine r6 (UJ fid (by rw [xA,if_pos rfl])) ?_;have hu':∀ (b1 b2:zR),((st.setB fid b1).setB fid b2).box k=.unused:=fun b1 b2=>by rw [xA,if_neg hkf,xA,if_neg hkf];exact hu
  refine r6 (zIJ t none k 3 1 (by
   unfold zBc;rw [hu'];show (nF .unused&&(match none,st.slot t with | none,.nilsl=>true | some j,.agg cs=>Q3 cs j | _,_=>false))=true;rw [hs,zBu hm];rfl)) ?_
  refine zDm fid k (H:=(List.zipWith pR P g++H0)++[none]) (pins:=[]) (bx:=.row 3 1 []) (by show (bif Nat.beq fid k then _ else _)=_;rw [wV hkf.symm,cond_false,xA,if_pos rfl]) (by show (bif Nat.beq k k then _ else _)=_;rw [pX];rfl) fun q0=>?_
  have:=h ((List.zipWith pR P g++H0)++[none]) (List.zipWith pR P g++H0).length q0 (by rw [u4 (yI _)];simp) (fun q' r'=>by
   have e1:xC g d r'=g++[(d,r')]:=WW (AA hm) r';refine ⟨P++[q'],by rw [e1];simp [hl],.inr ⟨fun y hy=>?_,?_⟩,_,⟨H0,hQ,rfl⟩,fun w I Hd h=>?_⟩
   ·obtain ⟨i,hi⟩:=uG.1 hy;rw [TG] at hi
    split at hi
    ·rename_i q x h1 h2
     injection hi with hi;subst hi;exact fun e=>AA hm x (yN h2) (AV.int.inj e).2
    ·cases hi
   ·rw [e1,mgs,YG hl];rfl
   ·rw [zAK _ _ (yI _),GS,Q9] at h;rw [e1,YG hl];refine WC ?_ w I Hd h;rw [oT,oT];exact List.Perm.append_left _ (WI))
  rw [hm] at this;refine cast (congrArg (AWL Pr N 0 all l K) ?_) this;show AS.mk _ _=AS.mk _ _
  congr 1
  funext i
  show (AS.setB _ fid _).box i=(AS.setB _ fid _).box i;simp only [xA]
  by_cases e2:i=fid
  ·rw [if_pos e2,if_pos e2]
  ·rw [if_neg e2,if_neg e2];show _=(bif Nat.beq i k then _ else _)
   by_cases e:i=k
   ·subst e;rw [if_pos rfl,pX];rfl
   ·rw [wV e,if_neg e,cond_false,xA,if_neg e2,xA,if_neg e2]
theorem zH4 (st:AS) (d:Nat) (av:AV) (i:Nat):(st.setS d av).box i=st.box i:=rfl
theorem zEm {f:zY->(Int×List Int)->Option wH}:∀ {P:List zY} {g:List (Int×List Int)} {i:Nat},(List.zipWith f (P.eraseIdx i) (g.eraseIdx i)).Sublist ((List.zipWith f P g).set i none)
 | [],_,_=>by simp
 | _::_,[],_=>by simp
 | a::P,y::g,0=>by simp only [W3,Q9,List.eraseIdx_cons_zero];exact List.sublist_cons_self _ _
 | a::P,y::g,i+1=>by
  simp only [W3,MU,zAX];exact List.Sublist.cons_cons _ zEm
theorem zIt {Pr:Program} {N:Nat} {c:Code} {K:Exit->AS->Prop} {st:AS} (fid t k i r:Nat) {P:List zY} {g:List (Int×List Int)} {left:List (AV×AV)} {cur:Option (AV×AV)} {Q:List (Option wH)->Prop} {q:zY} {x:Int×List Int}
  (hb:st.box fid=.live (.fam (.hpx (ItQ r left cur (GrQ P g Q))))) (hu:st.box k=.unused) (h1:P[i]?=some q) (h2:g[i]?=some x) (hs:st.slot t=.rawp q x.2.length)
  (h:∀ H0,Q H0->AW Pr N 0 c K (((st.setB k (.live (.row 3 1 (x.2.map (.int .i64))))).setB fid (.live (.fam (.hp (some (.at r 0,.iter left cur)::(List.zipWith pR (P.eraseIdx i) (g.eraseIdx i)++H0)) [(k,q)])))).setS t (.own k x.2.length))):AW Pr N 0 c K st:=by
 have hkf:k≠fid:=fun e=>by rw [e,hb] at hu;cases hu
 refine DY fid hb ?_;rintro H ⟨H1,⟨H0,hQ,rfl⟩,rfl⟩;have hz:=l5 (f:=pR) h1 h2;have hlt:=(vO.1 hz).1;have hj:(some (zY.at r 0,qD.iter left cur)::(List.zipWith pR P g++H0))[i+1]?=some (some (q,.row 3 1 (x.2.map (.int .i64)))):=by
  rw [pJ,uH hlt,hz];rfl
 refine wX (Q5 fid k (i+1) (by rw [xA,if_pos rfl]) (by rw [xA,if_neg hkf];exact hu) hj) ?_;refine wX (zEH fid t k x.2.length (p:=q) (by rw [xA,if_pos rfl]) (by simp) hs) ?_;refine wX (D3 fid (H':=some (.at r 0,.iter left cur)::(List.zipWith pR (P.eraseIdx i) (g.eraseIdx i)++H0)) (pins':=[(k,q)]) (by show (AS.setB _ fid _).box fid=_;rw [xA,if_pos rfl]) (fun w I Hd h=>zCU ?_ w I Hd h) (fun y hy=>hy)) ?_
 ·rw [MU,YX _ _ hlt];exact List.Sublist.cons_cons _ (List.Sublist.append_right zEm _)
 ·refine cast (congrArg (AW Pr N 0 c K) ?_) (h H0 hQ);show AS.mk _ _=AS.mk _ _
  congr 1
  funext i
  show (AS.setB _ fid _).box i=(AS.setB _ fid _).box i;simp only [xA,zH4]
  by_cases e:i=fid
  ·rw [if_pos e,if_pos e]
  ·rw [if_neg e,if_neg e,if_neg e,if_neg e];rfl
theorem WT {sl:List (Nat×AV)} {bx:List (Nat×zR)} {n k:Nat} {b:zR}:(mk sl bx n).setB k b=mk sl ((k,b)::bx) n:=rfl
theorem zDH {sl:List (Nat×AV)} {bx:List (Nat×zR)} {n k:Nat} {v:AV}:(mk sl bx n).setS k v=mk ((k,v)::sl) bx n:=rfl
theorem zCE {sl:List (Nat×AV)} {bx:List (Nat×zR)} {n:Nat} {b:zR}:(mk sl bx n).setB n b=mk sl ((n,b)::bx) (n+1):=by
 show AS.mk _ _=AS.mk _ _
 congr 1
 funext i
 show (bif Nat.beq i n then b else _)=yJ ((n,b)::bx) i _;rw [yJ];cases e:Nat.beq i n with
 | true=>rfl
 | false =>
  simp only [cond_false,mk]
  congr 1
  have:i≠n:=fun h=>by subst h;simp at e
  have:Nat.blt i (n+1)=Nat.blt i n:=by rw [aX,aX];simp;omega
  rw [this]
theorem zGU {P:Program} {N np:Nat} {all:Array Oper} {l:List Oper} {K:AS->Prop} {st:AS} (hl:l=[]) (h:K st):AWL P N np all l K st:=by subst hl;exact zMX h
theorem zOX {P:Program} {N np:Nat} {c:Code} {K:Exit->AS->Prop} {st:AS} (I:Nat->AS->Prop) (n:Nat) (hc:c=.loop (Code.b c)) (h0:I n st)
  (h:∀ n st,I n st->AW P N np (Code.b c) (fun e st'=>match e with | .normal=>∃ m,m<n/\∃ s,Sub np st' s/\I m s | e=>K e st') st):AW P N np c K st:=by
 refine zEI (fun n st=>∃ st2,Sub np st st2/\I n st2) n hc ⟨st,Sub.refl _ _,h0⟩ ?_;rintro n st ⟨st2,hs,hI⟩;refine wX hs (zDt (h n st2 hI) ?_);intro e st' hk;cases e<;>exact hk
theorem zI4 {α:Type} {l:List α} {i:Nat} {x:α} (h:l[i]?=some x):l.Perm (x::l.eraseIdx i):=by
 induction l generalizing i with
 | nil=>cases h
 | cons a l ih =>
  cases i with
  | zero=>injection h with h;subst h;exact SX _
  | succ i=>exact ((ih (i:=i) h).cons a).trans (List.Perm.swap _ _ _)
theorem HD {α β γ:Type} {f:α->β->γ} {l:List α} {m:List β} {k:Nat} {c:γ} (h:(List.zipWith f l m)[k]?=some c):∃ a b,l[k]?=some a/\m[k]?=some b/\c=f a b:=by
 rw [TG] at h
 split at h
 ·rename_i a b h1 h2
  injection h with h;exact ⟨a,b,h1,h2,h.symm⟩
 ·cases h
theorem zGO {P:List zY} {g:List (Int×List Int)} {i:Nat}:(mgs P g).eraseIdx i=mgs (P.eraseIdx i) (g.eraseIdx i):=by
 induction P generalizing g i with
 | nil=>simp
 | cons a P ih =>
  cases g with
  | nil=>simp
  | cons y g =>
   cases i with
   | zero=>rfl
   | succ i=>simp only [mgs,W3,zAX];exact congrArg _ ih
theorem zHn {α β:Type} {l:List α} {m:List β} (h:l.length=m.length) {i:Nat} (hi:i<l.length):(l.eraseIdx i).length=(m.eraseIdx i).length:=by
 rw [zBk hi,zBk (h ▸ hi),h]
def slI (l:List Int):AV:=.sl false 1 (l.map (.int .i64))
theorem zOB {α:Type} (l:List α):List.map (fun _=>AV.nilsl) l=List.replicate l.length .nilsl:=by induction l with | nil=>rfl | cons a l ih=>simp only [uM,zlc,zBD,ih]
theorem zI3 {α:Type} (l:List α):List.replicate l.length ({ r:=[] }:NE)=List.map nxI (List.map (fun _=>([]:List Int)) l):=by induction l with | nil=>rfl | cons a l ih=>simp only [uM,zlc,zBD,ih];rfl
theorem zMP {p:zY} {tn ti:TypeId} {P:List zY} {nx:List (List Int)} (hP:P.length=(nx.map nxI).length) {n:Nat} (hn:n=nx.length) (pre:List AV) :
  Fz (nrH p tn 1 false ti 1 P (nx.map nxI) []) (.ref (.agg (pre++[.rawp p n]))) (.ref (.agg (pre++[.sl false 1 (nx.map slI)]))):=by
 have hP:P.length=nx.length:=by simpa using hP
 refine .ref (by simp [AV.cells]) fun j c c' h1 h2=>?_
 simp only [AV.cells] at h1 h2;rcases zlg j pre.length with hj | hj
 ·rw [uH hj] at h1 h2;rw [h1] at h2;injection h2 with h2;subst h2;exact .same c
 ·rw [u4 hj] at h1 h2;cases hk:j - pre.length with
  | succ m=>rw [hk] at h1;simp at h1
  | zero =>
   rw [hk] at h1 h2;simp at h1 h2;subst h1;subst h2;have hl:(nrC false P (nx.map nxI)).length=n:=by rw [nrC,GA];simp [hP,hn]
   rw [<- hl];refine .row 0 (e:=tn) (sz:=1) (l:=nrC false P (nx.map nxI)) (by rfl) (by rw [hl,hn];simp) (fun k av av' h1 h2=>?_) (fun k av av' h1 h2 j c c' h3 h4=>?_)
   ·obtain ⟨q,x,_,_,rfl⟩:=HD h1;rw [vD] at h2;obtain ⟨l,_,rfl⟩:=NA.1 h2;rfl
   ·obtain ⟨q,x,hq,hx,rfl⟩:=HD h1;rw [vD] at h2 hx;obtain ⟨l,hl1,rfl⟩:=NA.1 h2;rw [hl1] at hx;injection hx with hx;subst hx;cases j with
    | succ j=>simp [NE.el,AV.cells] at h3
    | zero =>
     simp only [NE.el,cond_false,AV.cells,slI,jY,uU] at h3 h4;subst h3;subst h4;refine .row (k+1) (e:=ti) (sz:=1) (l:=(nxI l).r) ?_ (by simp [nxI]) (fun k av av' h1 h2=>?_) (fun k av av' h1 h2 j c c' h3 h4=>?_)
     ·show ((nrR ti 1 P (nx.map nxI))++[])[k]?=_;rw [aE];exact l5 hq (by rw [vD,hl1];rfl)
     ·simp only [nxI] at h1;rw [h1] at h2;injection h2 with h2;rw [h2]
     ·simp only [nxI] at h1;rw [h1] at h2;injection h2 with h2;subst h2;rw [h3] at h4;injection h4 with h4;subst h4;exact .same c
theorem zHK {Pr:Program} {N:Nat} {c:Code} {K:Exit->AS->Prop} {t fid n:Nat} {p:zY} {tn ti:TypeId} {nx:List (List Int)} (hn:n=nx.length) (pre:List AV)
  (h:AW Pr N 0 c K (mk [(t,.ref (.agg (pre++[.sl false 1 (nx.map slI)])))] [] (fid+1))) :
  AW Pr N 0 c K (mk [(t,.ref (.agg (pre++[.rawp p n])))] [(fid,.live (.fam (.hpx (NR p tn 1 false ti 1 (nx.map nxI) []))))] (fid+1)):=by
 refine SR (Q:=NR p tn 1 false ti 1 (nx.map nxI) []) fid (by simp [yJ]) ?_;rintro H ⟨P,hP,rfl⟩;refine wX (U2 fid (H:=nrH p tn 1 false ti 1 P (nx.map nxI) []) (pins:=[]) (jX _ _ _ _ (by simp [yJ])) (fun u=>?_) ?_ (fun id hid=>?_)) h
 ·show Fz _ (kF _ u) (kF _ u);simp only [kF];cases e:Nat.beq u t with
  | true=>exact zMP hP hn pre
  | false=>exact .same _
 ·show yJ [] fid (bif Nat.blt fid (fid+1) then .dead else .unused)=.dead
  have:Nat.blt fid (fid+1)=true:=by rw [aX];simp
  rw [yJ,this];rfl
 ·right
  have hb:∀ x:List (Nat×zR),(∀ y∈x,y.1=fid)->(mk [(t,AV.ref (.agg (pre++[.rawp p n])))] x (fid+1)).box id=bif Nat.blt id (fid+1) then .dead else .unused:=by
   intro x hx;simp only [mk];rw [XO];intro hm;obtain ⟨y,h1,h2⟩:=vB.1 hm;exact hid (h2.symm.trans (hx y h1))
  rw [hb _ (fun y hy=>by simp at hy;rcases hy with rfl | rfl<;>rfl)];refine ⟨?_,fun x hx=>by cases hh:Nat.blt id (fid+1)<;>rw [hh] at hx<;>cases hx⟩;simp only [mk,yJ]
theorem zHA {np:Nat} {st:AS} (fid v k n:Nat) (pre post:List AV) {t:TypeId} {p:zY} {H:List (Option wH)} {pins:List (Nat×zY)} (hb:st.box fid=.live (.fam (.hp H pins))) (hk:(k,p)∈pins)
  (hv:st.box v=.live (.var t (pre++.rawp p n::post))):Sub np st (st.setB v (.live (.var t (pre++.own k n::post)))):=by
 rintro G a w hnp ⟨G',Hd,L,F,T,hT⟩;have hTk:=E6 F hT hb hk;refine ⟨G',Hd,L,F.less (MT (fun f h=>by injection h with h;cases h)),T,hT.swap hv ?_⟩;obtain ⟨b,C,h1,h2,h3,h4,h5⟩:=hT.boxes v _ hv;refine ⟨b,C,h1,h2,by simpa using h3,?_,?_⟩
 ·intro c hc;rcases wL.1 hc with h | h
  ·exact h4 c (by simp [h])
  ·rcases uA.1 h with rfl | h
   ·rfl
   ·exact h4 c (by simp [h])
 ·intro j c hj;rcases K0 hj with ⟨e1,rfl⟩ | ⟨_,e2⟩
  ·exact T4 hTk (h5 j (.rawp p n) (by rw [e1];simp))
  ·exact h5 j c (e2 _)
theorem zI0 {Pr:Program} {N:Nat} {c:Code} {K:Exit->AS->Prop} {sl:List (Nat×AV)} {bx:List (Nat×zR)} {n:Nat} (fid v m:Nat) (pre post:List AV) {t tn ti:TypeId} {p:zY} {nx:List (List Int)} (hb:yJ bx fid .dead=.live (.fam (.hpx (NR p tn 1 false ti 1 (nx.map nxI) []))))
  (hv:yJ bx v .dead=.live (.var t (pre++.rawp p m::post))) (hm:m=nx.length) (hbx:(bx.all fun y=>Nat.blt y.1 n)=true) (hf:Nat.blt fid n=true)
  (h:AW Pr N 0 c K (mk sl ((fid,.dead)::(n,.live (.row tn 1 (nx.map slI)))::(v,.live (.var t (pre++.own n m::post)))::bx) (n+1))):AW Pr N 0 c K (mk sl bx n):=by
 have hvn:v≠n:=fun e=>by rw [e,AF bx hbx n _ (yI _)] at hv;cases hv
 have hfn:fid≠n:=fun e=>by rw [e,AF bx hbx n _ (yI _)] at hb;cases hb
 have hfv:fid≠v:=fun e=>by rw [e,hv] at hb;injection hb with hb;cases hb
 have hun:(mk sl bx n).box n=.unused:=by
  simp only [mk];rw [AF bx hbx n _ (yI _),aX,decide_eq_false (Nat.lt_irrefl _)];rfl
 refine DY fid (jX _ _ _ _ hb) ?_;rintro H ⟨P,hP,rfl⟩;refine wX (Q5 fid n 0 (p:=p) (e:=.row tn 1 (nrC false P (nx.map nxI))) (by rw [xA,if_pos rfl]) (by rw [xA,if_neg hfn.symm];exact hun) rfl) ?_;refine wX (zHA fid v n m pre post (p:=p) (by rw [xA,if_pos rfl]) (by simp) (by rw [xA,if_neg hfv.symm,xA,if_neg hvn,xA,if_neg hfv.symm];exact jX _ _ _ _ hv)) ?_;refine wX (U2 fid (st2:=mk sl ((fid,.dead)::(n,.live (.row tn 1 (nx.map slI)))::(v,.live (.var t (pre++.own n m::post)))::bx) (n+1)) (H:=(nrH p tn 1 false ti 1 P (nx.map nxI) []).set 0 none) (pins:=[(n,p)]) (by rw [xA,if_neg hfv,xA,if_pos rfl]) (fun u=>.same _) (by simp [mk,yJ]) (fun id hid=>?_)) h;have e1:(mk sl ((fid,.dead)::(n,.live (.row tn 1 (nx.map slI)))::(v,.live (.var t (pre++.own n m::post)))::bx) (n+1)).box id=if id=n then .live (.row tn 1 (nx.map slI)) else if id=v then .live (.var t (pre++.own n m::post)) else (mk sl bx n).box id:=by
  simp only [mk,yJ,wV hid,cond_false]
  by_cases e1:id=n
  ·rw [if_pos e1,e1,pX];rfl
  ·rw [if_neg e1,wV e1,cond_false]
   by_cases e2:id=v
   ·rw [if_pos e2,e2,pX];rfl
   ·rw [if_neg e2,wV e2,cond_false]
    congr 1
    have:Nat.blt id (n+1)=Nat.blt id n:=by rw [aX,aX];simp;omega
    rw [this]
 rw [e1];simp only [xA,if_neg hid]
 by_cases e1:id=n
 ·rw [if_pos e1,if_neg (e1 ▸ hvn.symm),if_pos e1];refine .inl ⟨_,_,rfl,rfl,?_⟩;have hP:P.length=nx.length:=by simpa using hP
  refine .row (by rw [nrC,GA];simp [hP]) (fun k av av' h1 h2=>?_) (fun k av av' h1 h2 j c c' h3 h4=>?_)
  ·obtain ⟨q,x,_,_,rfl⟩:=HD h1;rw [vD] at h2;obtain ⟨l,_,rfl⟩:=NA.1 h2;rfl
  ·obtain ⟨q,x,hq,hx,rfl⟩:=HD h1;rw [vD] at h2 hx;obtain ⟨l,hl1,rfl⟩:=NA.1 h2;rw [hl1] at hx;injection hx with hx;subst hx;cases j with
   | succ j=>simp [NE.el,AV.cells] at h3
   | zero =>
    simp only [NE.el,cond_false,AV.cells,slI,jY,uU] at h3 h4;subst h3;subst h4;refine .row (k+1) (e:=ti) (sz:=1) (l:=(nxI l).r) ?_ (by simp [nxI]) (fun k av av' h1 h2=>?_) (fun k av av' h1 h2 j c c' h3 h4=>?_)
    ·show ((nrR ti 1 P (nx.map nxI))++[])[k]?=_;rw [aE];exact l5 hq (by rw [vD,hl1];rfl)
    ·simp only [nxI] at h1;rw [h1] at h2;injection h2 with h2;rw [h2]
    ·simp only [nxI] at h1;rw [h1] at h2;injection h2 with h2;subst h2;rw [h3] at h4;injection h4 with h4;subst h4;exact .same c
 ·by_cases e2:id=v
  ·simp only [if_neg e1,if_pos e2];exact .inl ⟨_,_,rfl,rfl,.same _⟩
  ·simp only [if_neg e1,if_neg e2];cases hx:(mk sl bx n).box id with
   | live x=>exact .inl ⟨x,x,rfl,rfl,.same x⟩
   | dead=>exact .inr ⟨by trivial,fun x hx=>by cases hx⟩
   | unused=>exact .inr ⟨by trivial,fun x hx=>by cases hx⟩
section
variable {α:Type} {f:α->NE} {e:α->AV} {p:zY} {tn:TypeId} {osz:Nat} {ti:TypeId} {sz:Nat} {xs:List α}
theorem zF1 (he:∀ x,e x=.agg ((f x).pre++.sl false sz (f x).r::(f x).post)) {P:List zY} (hP:P.length=(xs.map f).length) :
  (xs.map e).length=(nrC true P (xs.map f)).length/\(∀ (k:Nat) (av av':AV),(nrC true P (xs.map f))[k]?=some av->(xs.map e)[k]?=some av'->av'.cells.length=av.cells.length) /\
  ∀ (H:List (Option wH)),(∀ (k:Nat) (x:Option wH),(nrR ti sz P (xs.map f))[k]?=some x->∃ i:Nat,H[i]?=some x)->∀ (k:Nat) (av av':AV),(nrC true P (xs.map f))[k]?=some av->(xs.map e)[k]?=some av'->∀ (j:Nat) (c c':AV),av.cells[j]?=some c->av'.cells[j]?=some c'->Fz H c c':=by
 have hP:P.length=xs.length:=by simpa using hP
 have key:∀ {k:Nat} {av av':AV},(nrC true P (xs.map f))[k]?=some av->(xs.map e)[k]?=some av'->∃ q x,P[k]?=some q/\xs[k]?=some x/\av=.agg ((f x).pre++.rawp q (f x).r.length::(f x).post)/\av'=.agg ((f x).pre++.sl false sz (f x).r::(f x).post):=by
  intro k av av' h1 h2;obtain ⟨q,y,hq,hy,rfl⟩:=HD h1;rw [vD] at h2 hy;obtain ⟨x,hx,rfl⟩:=NA.1 h2;rw [hx] at hy;injection hy with hy;subst hy;exact ⟨q,x,hq,hx,rfl,he x⟩
 refine ⟨by rw [nrC,GA];simp [hP],fun k av av' h1 h2=>?_,fun H hH k av av' h1 h2 j c c' h3 h4=>?_⟩
 ·obtain ⟨q,x,_,_,rfl,rfl⟩:=key h1 h2;simp [AV.cells]
 ·obtain ⟨q,x,hq,hx,rfl,rfl⟩:=key h1 h2;simp only [AV.cells] at h3 h4;rcases K0 h3 with ⟨e1,rfl⟩ | ⟨_,e2⟩
  ·rw [e1] at h4;simp at h4;subst h4;obtain ⟨i,hi⟩:=hH k _ (l5 hq (by rw [vD,hx];rfl));refine .row i (e:=ti) (sz:=sz) (l:=(f x).r) hi rfl (fun k av av' h1 h2=>?_) (fun k av av' h1 h2 j c c' h3 h4=>?_)
   ·rw [h1] at h2;injection h2 with h2;rw [h2]
   ·rw [h1] at h2;injection h2 with h2;subst h2;rw [h3] at h4;injection h4 with h4;subst h4;exact .same c
  ·have:=e2 (.sl false sz (f x).r)
   rw [h4] at this;injection this with this;subst this;exact .same _
theorem zK5 {bx:List (Nat×zR)} {n id:Nat} (h:id≠n):yJ bx id (bif Nat.blt id (n+1) then .dead else .unused)=yJ bx id (bif Nat.blt id n then .dead else .unused):=by
 congr 1
 have:Nat.blt id (n+1)=Nat.blt id n:=by rw [aX,aX];simp;omega
 rw [this]
theorem N3 {Pr:Program} {N:Nat} {c:Code} {K:Exit->AS->Prop} {sl:List (Nat×AV)} {bx:List (Nat×zR)} {n:Nat} (he:∀ x,e x=.agg ((f x).pre++.sl false sz (f x).r::(f x).post)) (fid v m:Nat) (pre post:List AV) {t:TypeId}
  (hb:yJ bx fid .dead=.live (.fam (.hpx (NR p tn osz true ti sz (xs.map f) [])))) (hv:yJ bx v .dead=.live (.var t (pre++.rawp p m::post))) (hm:m=xs.length)
  (h:AW Pr N 0 c K (mk sl ((fid,.dead)::(v,.live (.var t (pre++.sl false osz (xs.map e)::post)))::bx) n)):AW Pr N 0 c K (mk sl bx n):=by
 have hfv:fid≠v:=fun e=>by rw [e,hv] at hb;injection hb with hb;cases hb
 refine DY fid (jX _ _ _ _ hb) ?_;rintro H ⟨P,hP,rfl⟩;obtain ⟨z1,z2,z3⟩:=zF1 (ti:=ti) he hP;refine wX (U2 fid (st2:=mk sl ((fid,.dead)::(v,.live (.var t (pre++.sl false osz (xs.map e)::post)))::bx) n) (H:=nrH p tn osz true ti sz P (xs.map f) []) (pins:=[]) (by rw [xA,if_pos rfl]) (fun u=>.same _) (by simp [mk,yJ]) (fun id hid=>?_)) h;have e1:(mk sl ((fid,.dead)::(v,.live (.var t (pre++.sl false osz (xs.map e)::post)))::bx) n).box id=if id=v then .live (.var t (pre++.sl false osz (xs.map e)::post)) else (mk sl bx n).box id:=by
  simp only [mk,yJ,wV hid,cond_false]
  by_cases e2:id=v
  ·rw [if_pos e2,e2,pX];rfl
  ·rw [if_neg e2,wV e2];rfl
 rw [e1];simp only [xA,if_neg hid]
 by_cases e2:id=v
 ·simp only [if_pos e2];refine .inl ⟨_,_,by rw [e2];exact jX _ _ _ _ hv,rfl,.var (by simp) fun j c c' h3 h4=>?_⟩;rcases K0 h3 with ⟨e1,rfl⟩ | ⟨_,e2⟩
  ·rw [e1] at h4;simp at h4;subst h4;have hlen:m=(nrC true P (xs.map f)).length:=by rw [<- z1];simp [hm]
   rw [hlen];exact .row 0 (e:=tn) (sz:=osz) (l:=nrC true P (xs.map f)) rfl z1 z2 (z3 _ (fun k x hk=>⟨k+1,by
    show ((nrR ti sz P (xs.map f))++[])[k]?=_;rw [aE];exact hk⟩))
  ·have:=e2 (.sl false osz (xs.map e))
   rw [h4] at this;injection this with this;subst this;exact .same _
 ·simp only [if_neg e2];cases hx:(mk sl bx n).box id with
  | live x=>exact .inl ⟨x,x,rfl,rfl,.same x⟩
  | dead=>exact .inr ⟨by trivial,fun x hx=>by cases hx⟩
  | unused=>exact .inr ⟨by trivial,fun x hx=>by cases hx⟩
end
theorem zEw {np:Nat} {sl:List (Nat×AV)} {bx:List (Nat×zR)} {n:Nat} (hbx:(bx.all fun y=>Nat.blt y.1 n)=true) (hno:(bx.all fun x=>x.2.nf)=true) {Q:List (Option wH)->Prop} (hQ:Q []) :
  Sub np (mk sl bx n) (mk sl ((n,.live (.fam (.hpx Q)))::bx) (n+1)):=by
 have hun:(mk sl bx n).box n=.unused:=by
  simp only [mk];rw [AF bx hbx n _ (yI _),aX,decide_eq_false (Nat.lt_irrefl _)];rfl
 have h1:=zEn (np:=np) (st:=mk sl bx n) n hun (XA hno);have h2:=RG (np:=np) (st:=(mk sl bx n).setB n (.live (.fam (.hp [] [])))) n (H:=[]) (pins:=[]) Q (by rw [xA,if_pos rfl]) hQ;refine Sub.trans h1 (Sub.trans h2 ?_);rw [zCE,WT];intro G a w hnp hR;refine cast (congrArg (fun st=>vJ G st a w) ?_) hR;show AS.mk _ _=AS.mk _ _
 congr 1
 funext i
 simp only [yJ];cases e:Nat.beq i n<;>rfl
theorem zEB {np:Nat} {sl:List (Nat×AV)} {bx:List (Nat×zR)} {n:Nat} {α:Type} {f:α->AV} (k:Nat) {e:TypeId} {sz:Nat} {xs:List α} {i:Nat} {new:α} {a:AV} (hb:yJ bx k .dead=.live (.row e sz ((xs.map f).set i a)))
  (h:qC (los a.cells (f new).cells)) (ho:((f new).cells.all AV.one)=true):Sub np (mk sl bx n) (mk sl ((k,.live (.row e sz ((xs.set i new).map f)))::bx) n):=by
 rw [<- WT];rintro G ac w hnp ⟨G',Hd,L,F,T,hT⟩;have hb':(mk sl bx n).box k=.live (.row e sz ((xs.map f).set i a)):=jX _ _ _ _ hb;refine ⟨G',Hd,L,F.less (MT (fun f h=>by injection h with h;cases h)),T,hT.swap hb' ?_⟩;obtain ⟨q1,q2⟩:=QK (lF h);have key:∀ {j:Nat} {av av':AV},((xs.map f).set i a)[j]?=some av->((xs.set i new).map f)[j]?=some av'->av=av'\/(av=a/\av'=f new):=by
  intro j av av' h1 h2;rw [List.map_set] at h2;rw [GG] at h1 h2
  by_cases e1:i=j
  ·rw [if_pos e1] at h1 h2
   split at h1
   ·rename_i hlt
    rw [if_pos hlt] at h2;injection h1 with h1;injection h2 with h2;exact .inr ⟨h1.symm,h2.symm⟩
   ·cases h1
  ·rw [if_neg e1] at h1 h2;rw [h1] at h2;injection h2 with h2;exact .inl h2
 refine UC (hT.boxes k _ hb') (by simp) (fun j av av' h1 h2=>?_) (fun j av av' h1 h2 u c c' h3 h4=>?_) (fun j av av' h1 h2 u c c' h3 h4 v hr=>?_)
 ·rcases key h1 h2 with rfl | ⟨rfl,rfl⟩
  ·rfl
  ·exact q1.symm
 ·rcases key h1 h2 with rfl | ⟨rfl,rfl⟩
  ·rw [h3] at h4;injection h4 with h4;subst h4;exact id
  ·intro _;exact tC.1 ho c' (yN h4)
 ·rcases key h1 h2 with rfl | ⟨rfl,rfl⟩
  ·rw [h3] at h4;injection h4 with h4;subst h4;exact hr
  ·exact EQ hr (q2 u c c' h3 h4)
def zBo (P:Program) (fn:Func) (res:AV) (st:AS):Prop:=∃ st2,Sub 0 st st2/\zF0 P fn (fun _=>True) res .ret st2
theorem zD8 {P:Program} {st st2:AS} (hs:st2.slot=st.slot) (hb:∀ i b,st.box i=.live b->st2.box i=.live b):∀ {l:List ResultVar} {vs:List AV},o7 P st l=some vs->o7 P st2 l=some vs
 | [],vs,h=>h
 | x::r,vs,h=>by
  have h1:∀ v,B7 P st x=some v->B7 P st2 x=some v:=by
   intro v hv;cases x with
   | tmp t=>simp only [B7] at hv ⊢;rw [hs];exact hv
   | cell p ty =>
    simp only [B7] at hv ⊢;rw [hs];generalize st.slot p=q at hv
    split at hv
    ·rename_i id sz i off
     split at hv
     ·rename_i t0 cs hcs
      simp only [hb _ _ hcs];exact hv
     ·cases hv
    ·cases hv
  simp only [o7] at h ⊢
  split at h
  ·cases h
  ·rename_i v hv
   rw [h1 v hv];simp only
   split at h
   ·cases h
   ·rename_i vs' hvs
    rw [zD8 hs hb hvs];exact h
theorem QB {P:Program} {fn:Func} {res:AV} {sl:List (Nat×AV)} {bx:List (Nat×zR)} {n:Nat} (h:NY P fn 0 [] res (mk sl bx n)) (hbx:(bx.all fun y=>Nat.blt y.1 n)=true) (hno:(bx.all fun x=>x.2.nf)=true) (hp:res.pure=true):zBo P fn res (mk sl bx n):=by
 obtain ⟨_,h⟩:=h;unfold G6 at h
 split at h
 ·rename_i vs hvs
  replace h:=xM h;obtain ⟨_,h⟩:=h;injection h with h;injection h with h _;refine ⟨mk sl ((n,.live (.fam (.hpx fun _=>True)))::bx) (n+1),zEw hbx hno trivial,.inr rfl,n,vs,by simp [mk,yJ],zD8 (st:=mk sl bx n) (st2:=mk sl ((n,.live (.fam (.hpx fun _=>True)))::bx) (n+1)) rfl (fun i b hb=>?_) hvs,h,hp⟩;have hne:i≠n:=fun e=>by
   rw [e] at hb;simp only [mk] at hb;rw [AF bx hbx n _ (yI _),aX,decide_eq_false (Nat.lt_irrefl _)] at hb;cases hb
  simp only [mk,yJ,wV hne,cond_false];rw [zK5 hne];exact hb
 ·cases h
def PkQ (P:List zY) (xs:List NE) (H:List (Option wH)):Prop:=P.length=xs.length/\H=nrR 52 6 P xs
theorem zMw:PkQ [] [] []:=⟨rfl,rfl⟩
theorem YR {ag:Bool} {P:List zY} {xs:List NE} (h:P.length=xs.length):(nrC ag P xs).length=xs.length:=by rw [nrC,GA];omega
theorem zNv {P:List zY} {xs:List NE} (h:P.length=xs.length) (q:zY) (x:NE) {m:Nat} (hm:m=x.r.length):nrC true P xs++[.agg (x.pre++.rawp q m::x.post)]=nrC true (P++[q]) (xs++[x]):=by
 rw [hm,nrC,nrC,YG h];rfl
section
variable {Pr:Program} {N:Nat} {c:Code} {K:Exit->AS->Prop} {sl:List (Nat×AV)} {bx:List (Nat×zR)} {n:Nat} {P:List zY} {xs:List NE}
theorem zMa (fid v k m:Nat) (pre post:List AV) {t:TypeId} (x:NE) (hb:yJ bx fid .dead=.live (.fam (.hpx (PkQ P xs)))) (hk:yJ bx k .dead=.live (.row 52 6 x.r)) (hv:yJ bx v .dead=.live (.var t (pre++.own k m::post)))
  (h:∀ q,P.length=xs.length->AW Pr N 0 c K (mk sl ((fid,.live (.fam (.hpx (PkQ (P++[q]) (xs++[x])))))::(k,.dead)::(v,.live (.var t (pre++.rawp q m::post)))::bx) n)):AW Pr N 0 c K (mk sl bx n):=by
 have hfk:fid≠k:=fun e=>by rw [e,hk] at hb;injection hb with hb;cases hb
 have hfv:fid≠v:=fun e=>by rw [e,hv] at hb;injection hb with hb;cases hb
 have hkv:k≠v:=fun e=>by rw [e,hv] at hk;injection hk with hk;cases hk
 refine DY fid (jX _ _ _ _ hb) ?_;rintro H ⟨hP,rfl⟩;refine zAg fid k (H:=nrR 52 6 P xs) (pins:=[]) (by rw [xA,if_pos rfl]) (by rw [xA,if_neg hfk.symm];exact jX _ _ _ _ hk) fun q=>?_
 refine wX (Y6 fid v k m pre post (p:=q) (H:=nrR 52 6 P xs) (pins:=[(k,q)]) (by rw [xA,if_pos rfl]) (by simp) (by rw [xA,if_neg hfv.symm,xA,if_neg hfv.symm];exact jX _ _ _ _ hv)) ?_;refine wX (UJ fid (H:=nrR 52 6 P xs) (pins:=[(k,q)]) (by rw [xA,if_neg hfv,xA,if_pos rfl])) ?_;refine wX (JJ fid k (nrR 52 6 P xs).length (p:=q) (e:=.row 52 6 x.r) (H:=nrR 52 6 P xs++[none]) (pins:=[(k,q)]) (by rw [xA,if_pos rfl]) (by simp)
  (by rw [xA,if_neg hfk.symm,xA,if_neg hkv,xA,if_neg hfk.symm,xA,if_neg hfk.symm];exact jX _ _ _ _ hk) (by rw [u4 (yI _)];simp)) ?_
 refine wX (RG fid (H:=(nrR 52 6 P xs++[none]).set (nrR 52 6 P xs).length (some (q,.row 52 6 x.r))) (pins:=[(k,q)]) (PkQ (P++[q]) (xs++[x])) (by rw [xA,if_pos rfl]) ⟨by simp [hP],by
  rw [zAK _ _ (yI _),GS,Q9,nrR,nrR,YG hP];rfl⟩) ?_
 refine cast (congrArg (AW Pr N 0 c K) ?_) (h q hP);show AS.mk _ _=AS.mk _ _
 congr 1
 funext i
 show yJ _ i _=(AS.setB _ fid _).box i;simp only [xA]
 by_cases e1:i=fid
 ·rw [if_pos e1,e1];simp [yJ]
 rw [if_neg e1,yJ,wV e1,cond_false,if_neg e1]
 by_cases e2:i=k
 ·rw [if_pos e2,e2];simp [yJ]
 rw [if_neg e2,yJ,wV e2,cond_false,if_neg e1]
 by_cases e3:i=v
 ·rw [if_pos e3,e3];simp [yJ]
 rw [if_neg e3,yJ,wV e3,cond_false,if_neg e1,if_neg e1];rfl
theorem zKO (fid v a m:Nat) (pre post:List AV) {t tn:TypeId} {osz:Nat} (hb:yJ bx fid .dead=.live (.fam (.hpx (PkQ P xs)))) (ha:yJ bx a .dead=.live (.row tn osz (nrC true P xs))) (hv:yJ bx v .dead=.live (.var t (pre++.own a m::post)))
  (h:∀ p,P.length=xs.length->AW Pr N 0 c K (mk sl ((fid,.live (.fam (.hp (nrH p tn osz true 52 6 P xs []) [])))::(a,.dead)::(v,.live (.var t (pre++.rawp p m::post)))::bx) n)):AW Pr N 0 c K (mk sl bx n):=by
 have hfk:fid≠a:=fun e=>by rw [e,ha] at hb;injection hb with hb;cases hb
 have hfv:fid≠v:=fun e=>by rw [e,hv] at hb;injection hb with hb;cases hb
 have hkv:a≠v:=fun e=>by rw [e,hv] at ha;injection ha with ha;cases ha
 refine DY fid (jX _ _ _ _ hb) ?_;rintro H ⟨hP,rfl⟩;refine zAg fid a (H:=nrR 52 6 P xs) (pins:=[]) (by rw [xA,if_pos rfl]) (by rw [xA,if_neg hfk.symm];exact jX _ _ _ _ ha) fun q=>?_
 refine wX (Y6 fid v a m pre post (p:=q) (H:=nrR 52 6 P xs) (pins:=[(a,q)]) (by rw [xA,if_pos rfl]) (by simp) (by rw [xA,if_neg hfv.symm,xA,if_neg hfv.symm];exact jX _ _ _ _ hv)) ?_;refine wX (UJ fid (H:=nrR 52 6 P xs) (pins:=[(a,q)]) (by rw [xA,if_neg hfv,xA,if_pos rfl])) ?_;refine wX (JJ fid a (nrR 52 6 P xs).length (p:=q) (e:=.row tn osz (nrC true P xs)) (H:=nrR 52 6 P xs++[none]) (pins:=[(a,q)]) (by rw [xA,if_pos rfl]) (by simp)
  (by rw [xA,if_neg hfk.symm,xA,if_neg hkv,xA,if_neg hfk.symm,xA,if_neg hfk.symm];exact jX _ _ _ _ ha) (by rw [u4 (yI _)];simp)) ?_
 refine wX (D3 fid (H:=(nrR 52 6 P xs++[none]).set (nrR 52 6 P xs).length (some (q,.row tn osz (nrC true P xs)))) (pins:=[(a,q)]) (H':=nrH q tn osz true 52 6 P xs []) (pins':=[]) (by rw [xA,if_pos rfl]) (WC (by
  rw [zAK _ _ (yI _),GS,Q9,nrH,aE];exact WI)) (fun y hy=>by cases hy)) ?_
 refine cast (congrArg (AW Pr N 0 c K) ?_) (h q hP);show AS.mk _ _=AS.mk _ _
 congr 1
 funext i
 show yJ _ i _=(AS.setB _ fid _).box i;simp only [xA]
 by_cases e1:i=fid
 ·rw [if_pos e1,e1];simp [yJ]
 rw [if_neg e1,yJ,wV e1,cond_false,if_neg e1]
 by_cases e2:i=a
 ·rw [if_pos e2,e2];simp [yJ]
 rw [if_neg e2,yJ,wV e2,cond_false,if_neg e1]
 by_cases e3:i=v
 ·rw [if_pos e3,e3];simp [yJ]
 rw [if_neg e3,yJ,wV e3,cond_false,if_neg e1,if_neg e1];rfl
theorem zFt {α:Type} {f:α->NE} {e:α->AV} {ys:List α} (he:∀ x,e x=.agg ((f x).pre++.sl false 6 (f x).r::(f x).post)) (fid a:Nat) {tn:TypeId} {osz:Nat} (hb:yJ bx fid .dead=.live (.fam (.hpx (PkQ P (ys.map f))))) (ha:yJ bx a .dead=.live (.row tn osz (nrC true P (ys.map f))))
  (h:AW Pr N 0 c K (mk sl ((fid,.dead)::(a,.live (.row tn osz (ys.map e)))::bx) n)):AW Pr N 0 c K (mk sl bx n):=by
 have hfv:fid≠a:=fun e=>by rw [e,ha] at hb;injection hb with hb;cases hb
 refine DY fid (jX _ _ _ _ hb) ?_;rintro H ⟨hP,rfl⟩;obtain ⟨z1,z2,z3⟩:=zF1 (ti:=52) he hP;refine wX (U2 fid (st2:=mk sl ((fid,.dead)::(a,.live (.row tn osz (ys.map e)))::bx) n) (H:=nrR 52 6 P (ys.map f)) (pins:=[]) (by rw [xA,if_pos rfl]) (fun u=>.same _) (by simp [mk,yJ]) (fun id hid=>?_)) h;have e1:(mk sl ((fid,.dead)::(a,.live (.row tn osz (ys.map e)))::bx) n).box id=if id=a then .live (.row tn osz (ys.map e)) else (mk sl bx n).box id:=by
  simp only [mk,yJ,wV hid,cond_false]
  by_cases e2:id=a
  ·rw [if_pos e2,e2,pX];rfl
  ·rw [if_neg e2,wV e2];rfl
 rw [e1];simp only [xA,if_neg hid]
 by_cases e2:id=a
 ·simp only [if_pos e2];exact .inl ⟨_,_,by rw [e2];exact jX _ _ _ _ ha,rfl,.row z1 z2 (z3 _ (fun k x hk=>⟨k,hk⟩))⟩
 ·simp only [if_neg e2];cases hx:(mk sl bx n).box id with
  | live x=>exact .inl ⟨x,x,rfl,rfl,.same x⟩
  | dead=>exact .inr ⟨by trivial,fun x hx=>by cases hx⟩
  | unused=>exact .inr ⟨by trivial,fun x hx=>by cases hx⟩
end
abbrev Ss (l:List (List Int)):AV:=.sl false 1 (Ms l)
abbrev Sq {α:Type} (n:Nat) (f:α->AV) (l:List α):AV:=.sl false n (List.map f l)
abbrev Fi:Int->AV:=AV.int .i64
class Mx (P:Program):Prop where
 h:P.follows .mixedOrders=true
structure It where
 hs:List (Nat×wA)->List (Nat×wA)
 vc:List Prop->List Prop
 ok:∀ r,qC r->qC (vc r)
noncomputable def UB (p:Prop) (r:List Prop) (n:Nat):List Prop:=@Nat.rec (fun _=>List Prop) r (fun _ x=>p::x) n
theorem SK {p:Prop} (h:p) {r:List Prop} (hr:qC r):∀ n,qC (UB p r n)
 | 0=>hr
 | n+1=>⟨h,SK h hr n⟩
noncomputable def ihs (l:List It):List (Nat×wA):=@List.rec It (fun _=>List (Nat×wA)) [] (fun x _ r=>x.hs r) l
noncomputable def ivc (l:List It):List Prop:=@List.rec It (fun _=>List Prop) [] (fun x _ r=>x.vc r) l
theorem iok:∀ l:List It,qC (ivc l)
 | []=>trivial
 | x::r=>x.ok _ (iok r)
noncomputable def hgs (r:List (Nat×wA)) (a c:Nat):List (Nat×wA):=@Nat.rec (fun _=>List (Nat×wA)) r (fun i x=>(a+i,Hg)::x) c
def iC {p:Prop} (h:p):It:=⟨fun r=>r,fun r=>p::r,fun _ t=>⟨h,t⟩⟩
def iA {α:Type} (x:α):It:=⟨fun r=>r,fun r=>(x=x)::r,fun _ t=>⟨rfl,t⟩⟩
noncomputable def iX (n:Nat):It:=⟨fun r=>r,fun r=>UB (true=!false) r n,fun _ t=>SK rfl t n⟩
noncomputable def iR (n:Nat) {p:Prop} (h:p):It:=⟨fun r=>r,fun r=>UB p r n,fun _ t=>SK h t n⟩
noncomputable def iQ {α:Type} (n:Nat) (x:α):It:=⟨fun r=>r,fun r=>UB (x=x) r n,fun _ t=>SK rfl t n⟩
def iZ:It:=iC zft
def i0:It:=iC (by decide:(0:Int)<=(0:Int))
def iH (k:Nat) (h:wA):It:=⟨fun r=>(k,h)::r,fun r=>r,fun _ t=>t⟩
noncomputable def iG (a c:Nat):It:=⟨fun r=>hgs r a c,fun r=>r,fun _ t=>t⟩
def iN {α:Type} (k:Nat) (f:α->AV) (l:List α):It:=⟨fun r=>(k,{ n:=l.length })::r,fun r=>((List.map f l).length=l.length)::r,fun _ t=>⟨by simp,t⟩⟩
def iM {α:Type} (f:α->AV) (l:List α):It:=⟨fun r=>r,fun r=>(l.length=(List.map f l).length)::r,fun _ t=>⟨by simp,t⟩⟩
def iF {α:Type} {l:List α} {i:Int} {x:α} (k:Nat) (f:α->AV) (h:z0 l i=some x):It:=⟨fun r=>(k,{ av:=f x })::r,fun r=>(E1 (l.map f) i=some (f x))::r,fun _ t=>⟨zMC h,t⟩⟩
def iV {α:Type} {l:List α} {i:Int} {x:α} (f:α->AV) (h:z0 l i=some x):It:=⟨fun r=>r,fun r=>(0<=i)::(i<((l.length:Nat):Int))::((l.map f)[i.toNat]?=some (f x))::r,fun _ t=>⟨qE h,aG h,aD h,t⟩⟩
def iO {α:Type} {l:List α} {i:Int} {x:α} (k:Nat) (f:α->AV) (h:z0 l i=some x):It:=⟨fun r=>(k,{ av:=f x })::r,fun r=>(0<=i)::(i<((l.length:Nat):Int))::((l.map f)[i.toNat]?=some (f x))::r,fun _ t=>⟨qE h,aG h,aD h,t⟩⟩
def iS {α:Type} (k:Nat) (f:α->AV) (b:List α) (i j:Int) (h0:0<=i) (h1:i<=j) (h2:j<=b.length):It :=
 ⟨fun r=>(k,{ l:=List.map f (sub b i j) })::r,fun r=>(0<=i)::(i<=j)::(j<=(((List.map f b).length:Nat):Int))::((sub b i j).map f=((b.map f).take j.toNat).drop i.toNat)::r,fun _ t=>⟨h0,h1,zFT h2,zHY _ _ _,t⟩⟩
def iT {α:Type} (k:Nat) (f:α->AV) (b:List α) (i:Int) (h0:0<=i) (h1:i<=b.length):It :=
 ⟨fun r=>(k,{ l:=List.map f (sub b i (lN b)) })::r,fun r=>(0<=i)::(i<=(((List.map f b).length:Nat):Int))::((((List.map f b).length:Nat):Int)<=(((List.map f b).length:Nat):Int))::((sub b i (lN b)).map f=((b.map f).take ((((b.map f).length:Nat):Int)).toNat).drop i.toNat)::r,fun _ t=>⟨h0,zFT h1,aH _,zLY _ _,t⟩⟩
def iP {α:Type} (k id:Nat) (f:α->AV) (a b:List α) (w:Nat) (h:(a.length+b.length) * w<=140737488355328):It :=
 ⟨fun r=>(k,{ id:=id,l:=List.map f (a++b),n:=(a++b).length })::r,fun r=>(List.map f (a++b)=List.map f a++List.map f b)::((a++b).length=(List.map f (a++b)).length)::(((List.map f a).length+(List.map f b).length) * w<=140737488355328)::r,fun _ t=>⟨nH,by simp,by simpa using h,t⟩⟩
def iJ {P:Program} {f:FuncId} {pre post:List Box} {l:List AV} {av:AV} (k:Nat) (hx:wA) (x:List AV) (h:y9 P f pre [] l post av):It :=
 ⟨fun r=>(k,{ hx with av:=av,l:=l,pre:=pre,post:=post })::r,fun r=>(x=x)::((pre.map fun b=>zR.live (unB (hx.ids.take pre.length) b))=pre.map fun b=>zR.live (unB (hx.ids.take pre.length) b))::y9 P f pre [] l post av::r,fun _ t=>⟨rfl,rfl,h,t⟩⟩
def iK {P:Program} {f:FuncId} {pre post:List Box} {l:List AV} {av:AV} (k:Nat) (hx:wA) (h:y9 P f pre [] l post av):It:=iJ k hx l h
def iL {P:Program} {f:FuncId} {pre post:List Box} {l':List AV} {av:AV} (k:Nat) (hx:wA) (l:List AV) (h:y9 P f pre [] l' post av) (hl:qC (o5 l l')) (h1:l'.all rO=true:=by kernel_rfl):It:=iJ k hx l (WY h h1 hl)
def ups {α:Type} (l:List (Nat×α)) (d:List Nat) (nw:List (Nat×α)):List (Nat×α) :=
 nw++l.filter fun p=>!(d.any (Nat.beq p.1)||nw.any fun q=>Nat.beq q.1 p.1)
def kys {α:Type} (l:List (Nat×α)):List Nat:=l.map Prod.fst
def vls {α:Type} (l:List (Nat×α)):List α:=l.map Prod.snd
theorem zAY {α:Type}:∀ l:List (Nat×α),(kys l).zip (vls l)=l
 | []=>rfl
 | (a,b)::r=>by
  show (a,b)::(kys r).zip (vls r)=_;rw [zAY r]
section
variable {P:Program} {N np:Nat} {K:Exit->AS->Prop} {c:Code} {st:AS} {sl:List (Nat×AV)} {bx:List (Nat×zR)} {n:Nat} [hm:Mx P]
theorem rgX (its:List It) (sl2:List (Nat×AV)) (bx2:List (Nat×zR)) (n':Nat) (hk:K .normal (mk sl2 bx2 n')) (h:c8 P N np c (ihs its) sl bx n (kys sl2) (kys bx2) n'=some (ivc its,vls sl2,vls bx2)):AW P N np c K (mk sl bx n):=by
 refine zLc (ihs its) (kys sl2) (kys bx2) n' h hm.h (iok its) ?_;rw [zAY,zAY];exact hk
theorem r2 (its:List It) (d:List Nat) (nw:List (Nat×AV)) (db:List Nat) (nb:List (Nat×zR)) (n':Nat) (hk:K .normal (mk (ups sl d nw) (ups bx db nb) n'))
  (h:c8 P N np c (ihs its) sl bx n (kys (ups sl d nw)) (kys (ups bx db nb)) n'=some (ivc its,vls (ups sl d nw),vls (ups bx db nb)):=by kernel_rfl):AW P N np c K (mk sl bx n):=rgX its _ _ n' hk h
theorem r1 (its:List It) (d:List Nat) (nw:List (Nat×AV)) (hk:K .normal (mk (ups sl d nw) bx n))
  (h:c8 P N np c (ihs its) sl bx n (kys (ups sl d nw)) (kys bx) n=some (ivc its,vls (ups sl d nw),vls bx):=by kernel_rfl):AW P N np c K (mk sl bx n):=rgX its _ _ n hk h
theorem r0 (its:List It) (nw:List (Nat×AV)) (hk:K .normal (mk (ups sl [] nw) bx n))
  (h:c8 P N np c (ihs its) sl bx n (kys (ups sl [] nw)) (kys bx) n=some (ivc its,vls (ups sl [] nw),vls bx):=by kernel_rfl):AW P N np c K (mk sl bx n):=rgX its _ _ n hk h
theorem rE (its:List It) (sl2:List (Nat×AV)) (bx2:List (Nat×zR)) (n':Nat) (hk:K .normal (mk sl2 bx2 n'))
  (h:c8 P N np c (ihs its) sl bx n (kys sl2) (kys bx2) n'=some (ivc its,vls sl2,vls bx2):=by kernel_rfl):AW P N np c K (mk sl bx n):=rgX its _ _ n' hk h
theorem s2 (its:List It) (d:List Nat) (nw:List (Nat×AV)) (db:List Nat) (nb:List (Nat×zR)) (n':Nat) (hk:EI P N np (Code.r c) K .normal (mk (ups sl d nw) (ups bx db nb) n'))
  (h:c8 P N np (Code.l c) (ihs its) sl bx n (kys (ups sl d nw)) (kys (ups bx db nb)) n'=some (ivc its,vls (ups sl d nw),vls (ups bx db nb)):=by kernel_rfl) (hc:c=.seq (Code.l c) (Code.r c):=by kernel_rfl):AW P N np c K (mk sl bx n):=JN hc (rgX its _ _ n' hk h)
theorem s1 (its:List It) (d:List Nat) (nw:List (Nat×AV)) (hk:EI P N np (Code.r c) K .normal (mk (ups sl d nw) bx n))
  (h:c8 P N np (Code.l c) (ihs its) sl bx n (kys (ups sl d nw)) (kys bx) n=some (ivc its,vls (ups sl d nw),vls bx):=by kernel_rfl) (hc:c=.seq (Code.l c) (Code.r c):=by kernel_rfl):AW P N np c K (mk sl bx n):=JN hc (rgX its _ _ n hk h)
theorem s0 (its:List It) (nw:List (Nat×AV)) (hk:EI P N np (Code.r c) K .normal (mk (ups sl [] nw) bx n))
  (h:c8 P N np (Code.l c) (ihs its) sl bx n (kys (ups sl [] nw)) (kys bx) n=some (ivc its,vls (ups sl [] nw),vls bx):=by kernel_rfl) (hc:c=.seq (Code.l c) (Code.r c):=by kernel_rfl):AW P N np c K (mk sl bx n):=JN hc (rgX its _ _ n hk h)
theorem sE (its:List It) (sl2:List (Nat×AV)) (bx2:List (Nat×zR)) (n':Nat) (hk:EI P N np (Code.r c) K .normal (mk sl2 bx2 n'))
  (h:c8 P N np (Code.l c) (ihs its) sl bx n (kys sl2) (kys bx2) n'=some (ivc its,vls sl2,vls bx2):=by kernel_rfl) (hc:c=.seq (Code.l c) (Code.r c):=by kernel_rfl):AW P N np c K (mk sl bx n):=JN hc (rgX its _ _ n' hk h)
omit hm in
theorem ch {α:Type} {b:Bool} {x y z:α} (t:Nat) (hf:(bif b then x else y)=z) (h1:b=true->x=z->AW P N np (Code.t c) K st) (h2:b=false->y=z->AW P N np (Code.e c) K st) (hc:c=.cond (.tmp t) (Code.t c) (Code.e c):=by kernel_rfl) (hs:st.slot t=.bool b:=by kernel_rfl):AW P N np c K st :=
 zBL hc hs (fun g=>h1 g (SB g hf)) (fun g=>h2 g (SQ g hf))
omit hm in
theorem ZO {R:Code} {t:Nat} {b:Bool} (h1:b=true->AW P N np (Code.t R) K st) (h2:b=false->AW P N np (Code.e R) K st) (hc:R=.cond (.tmp t) (Code.t R) (Code.e R)) (hs:st.slot t=.bool b):EI P N np R K .normal st :=
 zBL hc hs h1 h2
theorem c0 {α:Type} {b:Bool} {x y z:α} (its:List It) (t:Nat) (hf:(bif b then x else y)=z) (nw:List (Nat×AV)) (h1:b=true->x=z->AW P N np (Code.t (Code.r c)) K (mk (ups sl [] ((t,.bool b)::nw)) bx n)) (h2:b=false->y=z->AW P N np (Code.e (Code.r c)) K (mk (ups sl [] ((t,.bool b)::nw)) bx n))
  (h:c8 P N np (Code.l c) (ihs its) sl bx n (kys (ups sl [] ((t,.bool b)::nw))) (kys bx) n=some (ivc its,vls (ups sl [] ((t,.bool b)::nw)),vls bx):=by kernel_rfl) (hc:c=.seq (Code.l c) (Code.r c):=by kernel_rfl) (hr:Code.r c=.cond (.tmp t) (Code.t (Code.r c)) (Code.e (Code.r c)):=by kernel_rfl)
  (hs:(mk (ups sl [] ((t,.bool b)::nw)) bx n).slot t=.bool b:=by kernel_rfl):AW P N np c K (mk sl bx n) :=
 s0 its _ (ZO (fun g=>h1 g (SB g hf)) (fun g=>h2 g (SQ g hf)) hr hs) h hc
theorem c1 {α:Type} {b:Bool} {x y z:α} (its:List It) (d:List Nat) (t:Nat) (hf:(bif b then x else y)=z) (nw:List (Nat×AV)) (h1:b=true->x=z->AW P N np (Code.t (Code.r c)) K (mk (ups sl d ((t,.bool b)::nw)) bx n)) (h2:b=false->y=z->AW P N np (Code.e (Code.r c)) K (mk (ups sl d ((t,.bool b)::nw)) bx n))
  (h:c8 P N np (Code.l c) (ihs its) sl bx n (kys (ups sl d ((t,.bool b)::nw))) (kys bx) n=some (ivc its,vls (ups sl d ((t,.bool b)::nw)),vls bx):=by kernel_rfl) (hc:c=.seq (Code.l c) (Code.r c):=by kernel_rfl) (hr:Code.r c=.cond (.tmp t) (Code.t (Code.r c)) (Code.e (Code.r c)):=by kernel_rfl)
  (hs:(mk (ups sl d ((t,.bool b)::nw)) bx n).slot t=.bool b:=by kernel_rfl):AW P N np c K (mk sl bx n) :=
 s1 its d _ (ZO (fun g=>h1 g (SB g hf)) (fun g=>h2 g (SQ g hf)) hr hs) h hc
omit hm in
theorem am (t:Nat) (b:Bool) (h1:AW P N np c (fun e st'=>e=.normal/\Sub np st' (mk ((t,.bool b)::sl) bx n)) (mk sl bx n)) (h2:K .normal (mk ((t,.bool b)::sl) bx n)):AW P N np c K (mk sl bx n):=xG _ h1 h2
omit hm in
theorem ad {α:Type} {b:Bool} {x y z:α} (t:Nat) (hf:(bif b then x else y)=z) (h0:AW P N np (Code.l c) (fun e st'=>e=.normal/\Sub np st' (mk ((t,.bool b)::sl) bx n)) (mk sl bx n))
  (h1:b=true->x=z->AW P N np (Code.t (Code.r c)) K (mk ((t,.bool b)::sl) bx n)) (h2:b=false->y=z->AW P N np (Code.e (Code.r c)) K (mk ((t,.bool b)::sl) bx n))
  (hc:c=.seq (Code.l c) (Code.r c):=by kernel_rfl) (hr:Code.r c=.cond (.tmp t) (Code.t (Code.r c)) (Code.e (Code.r c)):=by kernel_rfl) (hs:(mk ((t,.bool b)::sl) bx n).slot t=.bool b:=by kernel_rfl):AW P N np c K (mk sl bx n) :=
 JN hc (xG _ h0 (ZO (fun g=>h1 g (SB g hf)) (fun g=>h2 g (SQ g hf)) hr hs))
theorem rm {t:Nat} {b b':Bool} {sl0:List (Nat×AV)} {bx0:List (Nat×zR)} {n0:Nat} (its:List It) (hb:b=b')
  (h:c8 P N np c (ihs its) sl bx n (t::kys sl0) (kys bx0) n0=some (ivc its,.bool b::vls sl0,vls bx0):=by kernel_rfl):AW P N np c (fun e st'=>e=.normal/\Sub np st' (mk ((t,.bool b')::sl0) bx0 n0)) (mk sl bx n):=by
 subst hb;exact rgX its ((t,.bool b)::sl0) bx0 n0 ⟨rfl,Sub.refl _ _⟩ h
omit hm in
theorem wz (ρ ids sa ba:List Nat) {vcs:List Prop} (sl2:List (Nat×AV)) (bx2:List (Nat×zR)) (hv:qC vcs) (k:AW P N np c K (mk sl2 bx2 ρ.length))
  (h:wkm np st ρ ids (sl2.map fun p=>bif sa.any (Nat.beq p.1) then .a p.1 p.2 else .s p.1) (bx2.map fun p=>bif ba.any (Nat.beq p.1) then .a p.1 p.2 else .s p.1)=some (vcs,sl2,bx2):=by kernel_rfl):AW P N np c K st:=wX (mF ρ ids _ _ h hv) k
omit hm in
theorem w0 (ρ ids:List Nat) (sl2:List (Nat×AV)) (bx2:List (Nat×zR)) (k:AW P N np c K (mk sl2 bx2 ρ.length))
  (h:wkm np st ρ ids (sl2.map fun p=>.s p.1) (bx2.map fun p=>.s p.1)=some ([],sl2,bx2):=by kernel_rfl):AW P N np c K st:=wX (mF ρ ids _ _ h an) k
omit hm in
theorem sZ {sl2:List (Nat×AV)} {bx2:List (Nat×zR)} {m:Nat} (h:wkm np st (List.range m) [] (sl2.map fun p=>.s p.1) ((List.range m).map Bp.s)=some ([],sl2,bx2):=by kernel_rfl):Sub np st (mk sl2 bx2 m):=by
 have:=mF (List.range m) [] _ _ h an
 rwa [rQ] at this
omit hm in
theorem sY {sl2:List (Nat×AV)} {bx2:List (Nat×zR)} {m:Nat} (ρ:List Nat) (h:wkm np st ρ [] (sl2.map fun p=>.s p.1) ((List.range ρ.length).map Bp.s)=some ([],sl2,bx2):=by kernel_rfl) (hm:Nat.beq ρ.length m=true:=by kernel_rfl):Sub np st (mk sl2 bx2 m):=by
 rw [<- Nat.eq_of_beq_eq_true hm];exact mF ρ [] _ _ h an
omit hm in
theorem ab (id:Nat) (h:AW P N np (Code.b c) (YV id K) st) (hc:c=.block id (Code.b c):=by kernel_rfl):AW P N np c K st:=zHr hc h
omit hm in
theorem ae (id:Nat) (h:K (.exit id) st) (hc:c=.exit id:=by kernel_rfl):AW P N np c K st:=zIs hc h
theorem bc {α:Type} {b:Bool} {x y z:α} {p:Prop} (hf:(bif b then x else y)=z) (h1:b=true->x=z->p) (h2:b=false->y=z->p):p:=by
 cases b
 ·exact h2 rfl hf
 ·exact h1 rfl hf
theorem sp {p:Prop} (h:p:=by first | (simp;done) | (simp;omega)):p:=h
omit hm in
theorem rx {fn:Func} {post:List Box} {res:AV} (h1:Nat.ble np post.length=true:=by kernel_rfl) (h2:G6 P fn post.length st=some (res,post.map zR.live):=by kernel_rfl):Fin P fn np post res .ret st :=
 ⟨.inr rfl,zle h1,h2⟩
omit hm in
theorem ry {fn:Func} {post:List Box} {res:AV} (h1:Nat.ble np post.length=true:=by kernel_rfl) (h2:G6 P fn post.length st=some (res,post.map zR.live):=by kernel_rfl):Exit.ret=Exit.ret/\NY P fn np post res st :=
 ⟨rfl,zle h1,h2⟩
end
theorem tI {P:Program} {f:FuncId} {pre:List Box} {args:List AV} {post:List Box} {res:AV} (fn:Func) (h:AW P fn.ntmps pre.length (BO fn) (Fin P fn pre.length post res) (mk (aJ args) (mV pre) pre.length))
  (hf:P.funcs[f]?=some fn:=by kernel_rfl) (hb:fn.body=some (BO fn):=by kernel_rfl) (hl:Nat.ble args.length fn.ntmps=true:=by kernel_rfl) (hnf:pre.all Box.nf=true:=by kernel_rfl):E8 P f pre args post res:=zL6 hf hb (zle hl) h hnf
def kS {α β:Type} (P:Program) (o:α⊕β) (np:Nat) (M:α->AS) (fn:Func) (post:β->List Box) (res:β->AV):Exit->AS->Prop :=
 fun e st'=>match o with
 | .inl q=>e=.normal/\Sub np st' (M q)
 | .inr q=>e=.ret/\NY P fn np (post q) (res q) st'
theorem bE {α β:Type} {x:Option α} {f:α->Option β} {r:β} {G:Prop} (h:x.bind f=some r) (k:∀ a,x=some a->f a=some r->G):G :=
 let ⟨a,h1,h2⟩:=M7 h
 k a h1 h2
theorem nE {β:Type} {p:Prop} [Decidable p] {f:Unit->Option β} {r:β} {G:Prop} (h:(need p).bind f=some r) (k:p->f ()=some r->G):G :=
 let ⟨_,h1,h2⟩:=M7 h
 k (W4 h1) h2
theorem cv {P:Program} {N np:Nat} {c:Code} {K:Exit->AS->Prop} {st:AS} {α β:Type} (o:α⊕β) (M:α->AS) (fn:Func) (post:β->List Box) (res:β->AV) (h0:AW P N np c (kS P o np M fn post res) st)
  (h1:∀ q,o=.inl q->K .normal (M q)) (h2:∀ q,o=.inr q->∀ st1,NY P fn np (post q) (res q) st1->K .ret st1):AW P N np c K st:=by
 refine BP h0 fun e st1 hk=>?_
 rcases o with q | q
 ·obtain ⟨rfl,hs⟩:=hk;exact ⟨_,hs,h1 q rfl⟩
 ·obtain ⟨rfl,hf⟩:=hk;exact ⟨st1,Sub.refl _ _,h2 q rfl st1 hf⟩
theorem zne:([]:List zR)=[]:=rfl
end Go.Ab
