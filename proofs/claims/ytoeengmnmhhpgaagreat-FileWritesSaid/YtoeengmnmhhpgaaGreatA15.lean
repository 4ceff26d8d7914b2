/- A layer over the model: abstract values and states, and the rules by which the printed proofs go. No conditions. -/
import Derived.Test.YtoeengmnmhhpgaaGreatA14
/- Blocks of the call's own given away for reading; calls by what is known of the callee. -/
namespace Go.Ab
open Go
/-! A row of the call's own, seen as a slice that is not written again. -/
def bG (B:Nat->y7) (ids:List Nat):AV->AV
 | .own id n=>bif ids.any (Nat.beq id) then
   match B id with
   | .live (.row _ sz l)=>.sl false sz l
   | _=>.junk
  else .own id n
 | .part id sz lo hi=>bif ids.any (Nat.beq id) then
   match B id with
   | .live (.row _ sz' l)=>bif Nat.beq sz sz' then .sl false sz ((l.take hi).drop lo) else .junk
   | _=>.junk
  else .part id sz lo hi
 | v=>v
def b9 (B:Nat->y7) (ids:List Nat):AV->AV
 | .agg cs=>.agg (cs.map (bG B ids))
 | v=>bG B ids v
def frz (B:Nat->y7) (ids:List Nat):AV->AV
 | .tuple vs=>.tuple (vs.map (b9 B ids))
 | v=>b9 B ids v
def cI (B:Nat->y7) (ids:List Nat):AV->List Prop
 | .own id n=>bif ids.any (Nat.beq id) then
   match B id with
   | .live (.row _ _ l)=>[n=l.length]
   | _=>[]
  else []
 | .part id _ lo hi=>bif ids.any (Nat.beq id) then
   match B id with
   | .live (.row _ _ l)=>[lo<=hi,hi<=l.length]
   | _=>[]
  else []
 | _=>[]
def oB (B:Nat->y7) (ids:List Nat):AV->List Prop
 | .agg cs=>cs.flatMap (cI B ids)
 | v=>cI B ids v
def cE (B:Nat->y7) (ids:List Nat):AV->List Prop
 | .tuple vs=>vs.flatMap (oB B ids)
 | v=>oB B ids v
def zDP (G:tK) (st:AS) (T:Tbl) (ids:List Nat) (b:Nat):Prop :=
 imm G st T b\/∃ id cap,id∈ids/\T id=some (.at b cap)
theorem zA0 {ids:List Nat} {id:Nat} (h:ids.any (Nat.beq id)=true):id∈ids:=by
 simp only [List.any_eq_true] at h;obtain ⟨x,hx,he⟩:=h;rw [w7.1 he];exact hx
theorem LM {ids:List Nat} {id:Nat} (h:id∈ids):ids.any (Nat.beq id)=true:=by
 simp only [List.any_eq_true];exact ⟨id,h,O0 id⟩
theorem W1 {G:tK} {st:AS} {T:Tbl} {a:Act} {w:World} {I:Nat->Prop} (hT:jB G st T a w) {id:Nat} {e:TypeId} {sz:Nat} {l:List AV} (hb:st.box id=.live (.row e sz l))
  (hI:∀ b,imm G st T b->I b) (hid:∀ b cap,T id=some (.at b cap)->I b) {v:Value} {lo n c:Nat} {b cap:Nat} (hTi:T id=some (.at b cap)) (hv:v=.slice (some ⟨b,lo * sz,none⟩) n c) (hn:lo+n<=l.length) (hnc:n<=c) (hc:c<=maxLen) (T':Tbl) :
  Rep w I T' v (.sl false sz ((l.take (lo+n)).drop lo)):=by
 rcases hT.boxes id _ hb with ⟨hp,_⟩ | ⟨b',cap',C,hp,hh,h1,h2,h3,h4,h5,h6⟩
 ·rw [hp] at hTi;cases hTi
 have hp0:=hp;rw [hTi] at hp;injection hp with hp;injection hp with e1 e2;subst e1;subst e2;have hlt:b<w.heap.size:=gW hT hb hTi;subst hv;have hget:∀ i av,((l.take (lo+n)).drop lo)[i]?=some av->l[lo+i]?=some av:=by
  intro i av hi;rw [List.getElem?_drop,List.getElem?_take] at hi
  split at hi
  ·exact hi
  ·cases hi
 have hmem:∀ av∈(l.take (lo+n)).drop lo,av∈l:=fun av hav=>List.mem_of_mem_take (List.mem_of_mem_drop hav)
 refine .sl (fun i j=>C.getD ((lo+i) * sz+j) undef) (by simp;omega) hnc hc (by simp) (fun av hav=>h4 av (hmem av hav)) (fun av hav=>h5 av (hmem av hav)) (hid b cap hTi) hlt ?_ ?_
 ·intro i av j c' hi hj;have hg:=dD h4 (hget i av hi) hj;have hlt':(lo+i) * sz+j<C.size:=by
   have:(lo+i) * sz+j<(vO l).length:=by
    rcases zlg ((lo+i) * sz+j) (vO l).length with h' | h'
    ·exact h'
    ·rw [List.getElem?_eq_none h'] at hg;cases hg
   rw [nB h4] at this
   have:=Nat.mul_le_mul_right sz h2
   omega
  rw [show lo * sz+i * sz+j=(lo+i) * sz+j by rw [Nat.add_mul]];simp [World.cell?,hh,hlt',Array.getD_eq_getD_getElem?]
 ·intro i av j c' hi hj;exact (h6 _ av j c' (hget i av hi) hj).mono (Nat.le_refl _) (fun _ _ _=>rfl) (fun b hb' _=>hI b hb') (fun _ _ h=>h)
theorem XP {w:World} {I:Nat->Prop} {T:Tbl} {a:Option Addr} {c sz:Nat} (hc:c<=maxLen):Rep w I T (.slice a 0 c) (.sl false sz []):=.sl0 hc (by simp)
theorem RN {G:tK} {st:AS} {T:Tbl} {a:Act} {w:World} {I:Nat->Prop} {B:Nat->y7} {ids:List Nat} (hT:jB G st T a w) (hB:∀ id∈ids,st.box id=B id)
  (hI:∀ b,imm G st T b->I b) (hid:∀ id b cap,id∈ids->T id=some (.at b cap)->I b) {v:Value} {av:AV} (h:Rep w (imm G st T) T v av) (hv:∀ p∈cI B ids av,p) :
  Rep w I T v (bG B ids av):=by
 have same:∀ {av},Rep w (imm G st T) T v av->Rep w I T v av:=fun h=>h.mono (Nat.le_refl _) (fun _ _ _=>rfl) (fun b hb _=>hI b hb) (fun _ _ h=>h)
 cases av with
 | own id n =>
  simp only [bG,cI] at hv ⊢;cases hm:ids.any (Nat.beq id)
  ·exact same h
  rw [hm] at hv;simp only [cond_true] at hv ⊢;have hmem:=zA0 hm
  split
  ·rename_i e sz l hBl
   rw [hBl] at hv;have hn:n=l.length:=hv _ (by simp);have hb:=(hB id hmem).trans hBl;cases h with
   | ownNil hTi =>
    have hl:l=[]:=List.eq_nil_of_length_eq_zero hn.symm;subst hl;exact XP (by simp [maxLen])
   | own hTi c1 c2 =>
    rename_i b0 cap0
    have:=W1 hT hb hI (fun b cap hT'=>hid id b cap hmem hT') (v:=.slice (some ⟨b0,0,none⟩) n cap0) (lo:=0) (n:=n) (c:=cap0) hTi (by simp) (by omega) c1 c2 T
    rw [Nat.zero_add,zdz,hn,List.take_length] at this;rw [hn];exact this
  ·exact .junk
 | part id sz lo hi =>
  simp only [bG,cI] at hv ⊢;cases hm:ids.any (Nat.beq id)
  ·exact same h
  rw [hm] at hv;simp only [cond_true] at hv ⊢;have hmem:=zA0 hm
  split
  ·rename_i e sz' l hBl
   rw [hBl] at hv;have hlo:lo<=hi:=hv _ (by simp);have hhi:hi<=l.length:=hv _ (by simp);have hb:=(hB id hmem).trans hBl;cases hs:Nat.beq sz sz'
   ·exact .junk
   have hs:=w7.1 hs;subst hs;simp only [cond_true];cases h with
   | part0 hc=>rw [List.drop_take_self];exact XP hc
   | part hTi p1 p2 p3 p4 p5 p6 =>
    rename_i o0 n0 c0 b0 cap0
    have:=W1 hT hb hI (fun b cap hT'=>hid id b cap hmem hT') (v:=.slice (some ⟨b0,o0,none⟩) (hi - lo) c0) (lo:=lo) (n:=hi - lo) hTi (by rw [p6]) (by omega) (by rw [<- p2];exact p3) (by omega) T
    rw [show lo+(hi - lo)=hi by omega] at this;rw [p2];exact this
  ·exact .junk
 | _=>exact same h
def k8:List AV->Bool
 | []=>true
 | c::r=>c.one&&k8 r
theorem R5 {cs:List AV} (h:k8 cs=true):∀ c∈cs,c.one=true:=by
 induction cs with
 | nil=>simp
 | cons a r ih =>
  simp only [k8,zba] at h;intro c hc;cases hc with
  | head=>exact h.1
  | tail _ hc=>exact ih h.2 c hc
def HZ:AV->Bool
 | .agg cs=>k8 cs
 | _=>true
def lL:AV->Bool
 | .tuple vs=>vs.all HZ
 | v=>HZ v
theorem VK {G:tK} {st:AS} {T:Tbl} {a:Act} {w:World} {I:Nat->Prop} {B:Nat->y7} {ids:List Nat} (hT:jB G st T a w) (hB:∀ id∈ids,st.box id=B id)
  (hI:∀ b,imm G st T b->I b) (hid:∀ id b cap,id∈ids->T id=some (.at b cap)->I b) {v:Value} {av:AV} (h:Rep w (imm G st T) T v av) (hv:∀ p∈oB B ids av,p) (hw:HZ (b9 B ids av)=true) :
  Rep w I T v (b9 B ids av):=by
 by_cases ha:∃ cs,av=.agg cs
 ·obtain ⟨cs,rfl⟩:=ha;simp only [b9,oB,HZ] at *;cases h with
  | agg h1 h2 h3 =>
  refine .agg (by simp [h1]) (R5 hw) ?_;intro j c hj;rw [List.getElem?_map] at hj;cases hcj:cs[j]? with
  | none=>rw [hcj] at hj;cases hj
  | some c0 =>
   rw [hcj] at hj;injection hj with hj;subst hj;exact RN hT hB hI hid (h3 j c0 hcj) (fun p hp=>hv p (List.mem_flatMap.2 ⟨c0,List.mem_of_getElem? hcj,hp⟩))
 ·have e1:b9 B ids av=bG B ids av:=by cases av<;>first | rfl | exact absurd ⟨_,rfl⟩ ha
  have e2:oB B ids av=cI B ids av:=by cases av<;>first | rfl | exact absurd ⟨_,rfl⟩ ha
  rw [e1];rw [e2] at hv;exact RN hT hB hI hid h hv
theorem RL {G:tK} {st:AS} {T:Tbl} {a:Act} {w:World} {I:Nat->Prop} {B:Nat->y7} {ids:List Nat} (hT:jB G st T a w) (hB:∀ id∈ids,st.box id=B id)
  (hI:∀ b,imm G st T b->I b) (hid:∀ id b cap,id∈ids->T id=some (.at b cap)->I b) {v:Value} {av:AV} (h:Rep w (imm G st T) T v av) (hv:∀ p∈cE B ids av,p) (hw:lL (frz B ids av)=true) :
  Rep w I T v (frz B ids av):=by
 by_cases ha:∃ cs,av=.tuple cs
 ·obtain ⟨cs,rfl⟩:=ha;simp only [frz,cE,lL] at *;simp only [List.all_eq_true] at hw;cases h with
  | tuple h1 h2 =>
  refine .tuple (by simp [h1]) ?_;intro j c hj;have hjm:=List.mem_of_getElem? hj;rw [List.getElem?_map] at hj;cases hcj:cs[j]? with
  | none=>rw [hcj] at hj;cases hj
  | some c0 =>
   rw [hcj] at hj;injection hj with hj;subst hj;exact VK hT hB hI hid (h2 j c0 hcj) (fun p hp=>hv p (List.mem_flatMap.2 ⟨c0,List.mem_of_getElem? hcj,hp⟩)) (hw _ hjm)
 ·have e1:frz B ids av=b9 B ids av:=by cases av<;>first | rfl | exact absurd ⟨_,rfl⟩ ha
  have e2:cE B ids av=oB B ids av:=by cases av<;>first | rfl | exact absurd ⟨_,rfl⟩ ha
  have e3:lL (frz B ids av)=HZ (frz B ids av):=by
   rw [e1];cases av with
   | tuple vs=>exact absurd ⟨_,rfl⟩ ha
   | agg cs=>rfl
   | own id n=>simp only [b9,bG];cases ids.any (Nat.beq id)<;>simp only [cond_true,cond_false]<;>(try split)<;>rfl
   | part id sz lo hi =>
    simp only [b9,bG];cases ids.any (Nat.beq id)<;>simp only [cond_true,cond_false]
    ·rfl
    ·split
     ·rename_i sz' l hh
      cases Nat.beq sz sz'<;>rfl
     ·rfl
   | _=>rfl
  rw [e3] at hw;rw [e1] at hw ⊢;rw [e2] at hv;exact VK hT hB hI hid h hv hw
end Go.Ab

/- Calls. -/
namespace Go.Ab
open Go
theorem jB.stepN {G:tK} {st:AS} {T T':Tbl} {a:Act} {w:World} (h:jB G st T a w) {E:Eff} {w':World} {S:Nat->Prop} {dst:Option Tmp} {v:Value}
  (hos:w'.os=w.os) (htape:w'.tape=w.tape) (hout:w'.output=w.output) (hsize:w.heap.size<=w'.heap.size) (hblk:∀ b,b<w.heap.size->¬ S b->w'.heap[b]?=w.heap[b]?)
  (hS:∀ g,S g->∃ id bx cap,st.box id=.live bx/\T id=some (.at g cap)) (hle:T.le T')
  (hlt:∀ id bx b cap,st.box id=.live bx->T id=some (.at b cap)->b<w.heap.size)
  (hb2:∀ id bx,(st.upd E).box id=.live bx->(∃ bx',st.box id=.live bx'/\T' id=T id)\/(st.box id=.unused/\∀ b cap,T' id=some (.at b cap)->w.heap.size<=b \/
   ∃ gid gbx gcap,st.box gid=.live gbx/\T gid=some (.at b gcap)/\G.foot.length<=gid/\∀ bx',(st.upd E).box gid≠.live bx'))
  (hun:∀ id,(st.upd E).box id=.unused->T' id=none)
  (hap:∀ id id' b c c',st.box id=.unused->st.box id'=.unused->T' id=some (.at b c)->T' id'=some (.at b c')->id=id')
  (hdst:dst=E.dst.map (·.1))
  (hd:∀ d av,E.dst=some (d,av)->d<G.n/\Rep w' (imm G (st.upd E) T') T' v av)
  (hbox:∀ id bx,(st.upd E).box id=.live bx->(st.box id=.live bx/\T' id=T id/\∀ g cap,S g->T id≠some (.at g cap))\/kC w' (imm G (st.upd E) T') T' (T' id) bx)
  (hfz:E.fz=[]:=by rfl):Rel G (st.upd E) (a.put dst v) w':=by
 have hi:∀ b,imm G st T b->b<w.heap.size->imm G (st.upd E) T' b:=by
  intro b hI hbl;refine ⟨hI.1,fun i bxi cp hli hTi=>?_⟩;rcases hb2 i bxi hli with ⟨bx',hl',hTe⟩ | ⟨_,hnew⟩
  ·exact hI.2 i bx' cp hl' (by rw [<- hTe];exact hTi)
  ·rcases hnew b cp hTi with h' | ⟨gid,gbx,gcap,g1,g2,_,_⟩
   ·omega
   ·exact hI.2 gid gbx gcap g1 g2
 have hcI:∀ b,imm G st T b->b<w.heap.size->w'.heap[b]?=w.heap[b]?:=fun b hb hlt=>hblk b hlt (fun e=>by
  obtain ⟨id,bx,cap,h1,h2⟩:=hS b e;exact hb.2 id bx cap h1 h2)
 refine ⟨T',?_,?_,?_,?_,hun,?_,?_,fun i p hp=>hle i p (h.foot i p hp),?_⟩
 ·cases dst<;>exact h.defers
 ·cases dst<;>simp [Act.put,h.size]
 ·intro t;subst hdst;cases hE:E.dst with
  | none =>
   simp only [AS.upd,hE,hfz,p8,bX,Option.map_none,Act.put];exact (h.slots t).mono hsize hcI hi hle
  | some x =>
   obtain ⟨d,av⟩:=x;obtain ⟨hlt,hv⟩:=hd d av hE;simp only [AS.upd,hE,hfz,p8,Option.map_some];rw [WF t (by rw [h.size];exact hlt)]
   by_cases ht:t=d
   ·subst ht;rw [if_pos rfl,oC];exact hv
   ·rw [if_neg ht,mH _ _ _ ht];exact (h.slots t).mono hsize hcI hi hle
 ·intro id bx hb;rcases hbox id bx hb with ⟨hold,hTe,hne⟩ | hnew
  ·rw [hTe];exact (h.boxes id bx hold).mono hsize hcI hi hle fun b cap hp hlt=>hblk b hlt fun e=>hne b cap e hp
  ·exact hnew
 ·intro i1 i2 b1 b2 b c1 c2 h1 h2 t1 t2;rcases hb2 i1 b1 h1 with ⟨x1,l1,e1⟩ | ⟨l1,e1⟩<;>rcases hb2 i2 b2 h2 with ⟨x2,l2,e2⟩ | ⟨l2,e2⟩
  ·exact h.apart i1 i2 x1 x2 b c1 c2 l1 l2 (by rw [<- e1];exact t1) (by rw [<- e2];exact t2)
  ·have:=hlt i1 x1 b c1 l1 (by rw [<- e1];exact t1)
   rcases e2 b c2 t2 with h' | ⟨gid,gbx,gcap,g1,g2,_,g3⟩
   ·omega
   ·have:=h.apart i1 gid x1 gbx b c1 gcap l1 g1 (by rw [<- e1];exact t1) g2
    subst this;exact absurd h1 (g3 b1)
  ·have:=hlt i2 x2 b c2 l2 (by rw [<- e2];exact t2)
   rcases e1 b c1 t1 with h' | ⟨gid,gbx,gcap,g1,g2,_,g3⟩
   ·omega
   ·have:=h.apart i2 gid x2 gbx b c2 gcap l2 g1 (by rw [<- e2];exact t2) g2
    subst this;exact absurd h2 (g3 b2)
  ·exact hap i1 i2 b c1 c2 l1 l2 t1 t2
 ·intro id bx b cap hb hTb hge;rcases hb2 id bx hb with ⟨x1,l1,e1⟩ | ⟨l1,e1⟩
  ·exact h.mine id x1 b cap l1 (by rw [<- e1];exact hTb) hge
  ·rcases e1 b cap hTb with h' | ⟨gid,gbx,gcap,g1,g2,g3,_⟩
   ·exact .inl (Nat.le_trans h.kept.size h')
   ·exact h.mine gid gbx b gcap g1 g2 g3
 ·refine ⟨hos.trans h.kept.os,htape.trans h.kept.tape,hout.trans h.kept.output,Nat.le_trans h.kept.size hsize,fun b hb hn hn2=>(hblk b (Nat.lt_of_lt_of_le hb h.kept.size) fun e=>?_).trans (h.kept.block b hb hn hn2)⟩;obtain ⟨id,bx,cap,h1,h2⟩:=hS b e;rcases zlg id G.foot.length with hlt | hge
  ·have:=h.foot id _ (List.getElem?_eq_getElem hlt)
   rw [h2] at this;injection this with this;exact hn ⟨cap,by rw [this];exact List.getElem_mem hlt⟩
  ·rcases h.mine id bx b cap h1 h2 hge with h' | h'
   ·omega
   ·exact hn2 (.inl h')
/-! Names of the callee and of the caller. -/
mutual
def un (foot:List Nat):AV->AV
 | .junk=>.junk
 | .int k n=>.int k n
 | .bool b=>.bool b
 | .str l=>.str l
 | .agg cs=>.agg (uns foot cs)
 | .tuple cs=>.tuple (uns foot cs)
 | .sl f s l=>.sl f s l
 | .ref a=>.ref a
 | .ptr id sz i off=>.ptr (foot.getD id 0) sz i off
 | .own id n=>.own (foot.getD id 0) n
 | .part id sz lo hi=>.part (foot.getD id 0) sz lo hi
 | .fn f cs=>.fn f (uns foot cs)
 | .nilp=>.nilp
 | .nilsl=>.nilsl
 | .nb l=>.nb l
 | .mp id=>.mp (foot.getD id 0)
 | .raw b=>.raw b
 | .fm n l=>.fm n l
def uns (foot:List Nat):List AV->List AV
 | []=>[]
 | a::r=>un foot a::uns foot r
end
mutual
def uS (n:Nat):AV->Bool
 | .junk=>true
 | .int ..=>true
 | .bool _=>true
 | .str _=>true
 | .agg cs=>aR n cs
 | .tuple cs=>aR n cs
 | .sl ..=>true
 | .ref _=>true
 | .ptr id ..=>Nat.blt id n
 | .own id _=>Nat.blt id n
 | .part id ..=>Nat.blt id n
 | .fn _ cs=>aR n cs
 | .nilp=>true
 | .nilsl=>true
 | .nb _=>true
 | .mp id=>Nat.blt id n
 | .raw _=>true
 | .fm ..=>true
def aR (n:Nat):List AV->Bool
 | []=>true
 | a::r=>uS n a&&aR n r
end
theorem lV {foot:List Nat} {cs:List AV} {j:Nat}:(uns foot cs)[j]?=(cs[j]?).map (un foot):=by
 induction cs generalizing j with
 | nil=>simp [uns]
 | cons a r ih =>
  cases j with
  | zero=>simp [uns]
  | succ j=>simp [uns,ih]
theorem fK {foot:List Nat} {cs:List AV}:(uns foot cs).length=cs.length:=by
 induction cs with
 | nil=>rfl
 | cons a r ih=>simp [uns,ih]
theorem BV {n:Nat} {cs:List AV} (h:aR n cs=true) {j:Nat} {c:AV} (hj:cs[j]?=some c):uS n c=true:=by
 induction cs generalizing j with
 | nil=>simp at hj
 | cons a r ih =>
  simp only [aR,zba] at h;cases j with
  | zero=>simp at hj;exact hj ▸ h.1
  | succ j=>exact ih h.2 (by simpa using hj)
theorem YG {foot:List Nat} {c:AV}:(un foot c).one=c.one:=by cases c<;>rfl
theorem HR {foot:List Nat} {cs:List AV}:(∀ c∈uns foot cs,c.one=true)↔∀ c∈cs,c.one=true:=by
 induction cs with
 | nil=>simp [uns]
 | cons a r ih=>simp [uns,YG,ih]
def Tc (foot:List Nat) (T:Tbl):Tbl:=fun i=>match foot[i]? with | some id=>T id | none=>none
theorem cS {foot:List Nat} {T:Tbl} {id:Nat} (h:Nat.blt id foot.length=true):Tc foot T id=T (foot.getD id 0):=by
 have hlt:id<foot.length:=by have:=h;simp [Nat.blt] at this;omega
 simp [Tc,List.getD,hlt]
theorem zAh {w:World} {I:Nat->Prop} {T:Tbl} {foot:List Nat} {v:Value} {av:AV} (h:Rep w I (Tc foot T) v av):uS foot.length av=true->Rep w I T v (un foot av):=by
 generalize hTT:Tc foot T=TT at h
 induction h with
 | junk=>intro _;exact .junk
 | int h=>intro _;exact .int h
 | bool=>intro _;exact .bool
 | str h h'=>intro _;exact .str h h'
 | agg h h1 _ ih =>
  intro hb;refine .agg (by rw [fK];exact h) (HR.2 h1) ?_;intro j c hj;rw [lV] at hj
  rename_i cs _
  cases hc:cs[j]? with
  | none=>rw [hc] at hj;cases hj
  | some c0 =>
   rw [hc] at hj;injection hj with hj;subst hj;exact ih j c0 hc hTT (BV hb hc)
 | tuple h _ ih =>
  intro hb;refine .tuple (by rw [fK];exact h) ?_;intro j c hj;rw [lV] at hj
  rename_i cs _
  cases hc:cs[j]? with
  | none=>rw [hc] at hj;cases hj
  | some c0 =>
   rw [hc] at hj;injection hj with hj;subst hj;exact ih j c0 hc hTT (BV hb hc)
 | sl0 h h'=>intro _;exact .sl0 h h'
 | sl g h1 h2 h3 h4 h5 h6 h7 h8 h9 h10 ih=>intro _;exact .sl g h1 h2 h3 h4 h5 h6 h7 h8 h9 h10
 | ref g h1 h2 h3 h4 h5 ih=>intro _;exact .ref g h1 h2 h3 h4 h5
 | ptr h h'=>intro hb;subst hTT;rw [cS hb] at h;exact .ptr h h'
 | ownNil h=>intro hb;subst hTT;rw [cS hb] at h;exact .ownNil h
 | own h h1 h2=>intro hb;subst hTT;rw [cS hb] at h;exact .own h h1 h2
 | part0 h=>intro _;exact .part0 h
 | part h h1 h2 h3 h4 h5 h6=>intro hb;subst hTT;rw [cS hb] at h;exact .part h h1 h2 h3 h4 h5 h6
 | fn h _ ih =>
  intro hb;refine .fn (by rw [fK];exact h) ?_;intro j c hj;rw [lV] at hj
  rename_i cs _ _
  cases hc:cs[j]? with
  | none=>rw [hc] at hj;cases hj
  | some c0 =>
   rw [hc] at hj;injection hj with hj;subst hj;exact ih j c0 hc hTT (BV hb hc)
 | nilp=>intro _;exact .nilp
 | nilsl=>intro _;exact .nilsl
 | nb h=>intro _;exact .nb h
 | mp h=>intro hb;subst hTT;rw [cS hb] at h;exact .mp h
 | raw=>intro _;exact .raw
 | fm0=>intro _;exact .fm0
 | fm gk gv h1 h2 h3 h4 h5 h6 h7 h8 h9=>intro _;exact .fm gk gv h1 h2 h3 h4 h5 h6 h7 h8 h9
theorem LR {w:World} {I:Nat->Prop} {T:Tbl} {foot:List Nat} {v:Value} {av':AV} (h:Rep w I T v av'):∀ av,un foot av=av'->uS foot.length av=true->Rep w I (Tc foot T) v av:=by
 have nested:∀ {cs cs':List AV} {vs:Array Value} {T:Tbl},uns foot cs=cs'->aR foot.length cs=true ->
   (∀ j c,cs'[j]?=some c->∀ av,un foot av=c->uS foot.length av=true->Rep w I (Tc foot T) (vs.getD j undef) av) ->
   ∀ j c,cs[j]?=some c->Rep w I (Tc foot T) (vs.getD j undef) c:=by
  intro cs cs' vs T he hb ih j c hj;exact ih j (un foot c) (by rw [<- he,lV,hj];rfl) c rfl (BV hb hj)
 induction h with
 | junk=>intro av he hb;cases av<;>simp [un] at he;exact .junk
 | int h=>intro av he hb;cases av<;>simp [un] at he;obtain ⟨rfl,rfl⟩:=he;exact .int h
 | bool=>intro av he hb;cases av<;>simp [un] at he;subst he;exact .bool
 | str h h'=>intro av he hb;cases av<;>simp [un] at he;subst he;exact .str h h'
 | agg h h1 _ ih =>
  intro av he hb;cases av<;>simp [un] at he
  refine .agg (by rw [h,<- he,fK]) (HR.1 (by rw [he];exact h1)) (nested he hb ih)
 | tuple h _ ih =>
  intro av he hb;cases av<;>simp [un] at he
  refine .tuple (by rw [h,<- he,fK]) (nested he hb ih)
 | sl0 h h'=>intro av he hb;cases av<;>simp [un] at he;obtain ⟨rfl,rfl,rfl⟩:=he;exact .sl0 h h'
 | sl g h1 h2 h3 h4 h5 h6 h7 h8 h9 h10 ih=>intro av he hb;cases av<;>simp [un] at he;obtain ⟨rfl,rfl,rfl⟩:=he;exact .sl g h1 h2 h3 h4 h5 h6 h7 h8 h9 h10
 | ref g h1 h2 h3 h4 h5 ih=>intro av he hb;cases av<;>simp [un] at he;subst he;exact .ref g h1 h2 h3 h4 h5
 | ptr h h'=>intro av he hb;cases av<;>simp only [un,AV.ptr.injEq,reduceCtorEq] at he;obtain ⟨rfl,rfl,rfl,rfl⟩:=he;exact .ptr (by rw [cS hb];exact h) h'
 | ownNil h=>intro av he hb;cases av<;>simp only [un,AV.own.injEq,reduceCtorEq] at he;obtain ⟨rfl,rfl⟩:=he;exact .ownNil (by rw [cS hb];exact h)
 | own h h1 h2=>intro av he hb;cases av<;>simp only [un,AV.own.injEq,reduceCtorEq] at he;obtain ⟨rfl,rfl⟩:=he;exact .own (by rw [cS hb];exact h) h1 h2
 | part0 h=>intro av he hb;cases av<;>simp only [un,AV.part.injEq,reduceCtorEq] at he;obtain ⟨rfl,rfl,rfl,rfl⟩:=he;exact .part0 h
 | part h h1 h2 h3 h4 h5 h6=>intro av he hb;cases av<;>simp only [un,AV.part.injEq,reduceCtorEq] at he;obtain ⟨rfl,rfl,rfl,rfl⟩:=he;exact .part (by rw [cS hb];exact h) h1 h2 h3 h4 h5 h6
 | fn h _ ih =>
  intro av he hb;cases av<;>simp [un] at he
  obtain ⟨rfl,he⟩:=he;refine .fn (by rw [h,<- he,fK]) (nested he hb ih)
 | nilp=>intro av he hb;cases av<;>simp [un] at he;exact .nilp
 | nilsl=>intro av he hb;cases av<;>simp [un] at he;exact .nilsl
 | nb h=>intro av he hb;cases av<;>simp [un] at he;subst he;exact .nb h
 | mp h=>intro av he hb;cases av<;>simp only [un,AV.mp.injEq,reduceCtorEq] at he;subst he;exact .mp (by rw [cS hb];exact h)
 | raw=>intro av he hb;cases av<;>simp [un] at he;subst he;exact .raw
 | fm0=>intro av he hb;cases av<;>simp [un] at he;obtain ⟨rfl,rfl⟩:=he;exact .fm0
 | fm gk gv h1 h2 h3 h4 h5 h6 h7 h8 h9=>intro av he hb;cases av<;>simp [un] at he;obtain ⟨rfl,rfl⟩:=he;exact .fm gk gv h1 h2 h3 h4 h5 h6 h7 h8 h9
def unB (foot:List Nat):Box->Box
 | .var t cs=>.var t (uns foot cs)
 | .row e sz l=>.row e sz l
 | .map ag ks l=>.map ag ks l
def AR (n:Nat):Box->Bool
 | .var _ cs=>aR n cs
 | .row ..=>true
 | .map ..=>true
theorem zCA {w:World} {I:Nat->Prop} {T:Tbl} {foot:List Nat} {p:Option vV} {bx:Box} (h:kC w I (Tc foot T) p bx) (hb:AR foot.length bx=true):kC w I T p (unB foot bx):=by
 cases bx with
 | var t cs =>
  obtain ⟨b,C,h1,h2,h3,h4,h5⟩:=h;refine ⟨b,C,h1,h2,by rw [fK];exact h3,HR.2 h4,?_⟩;intro j c hj;rw [lV] at hj;cases hc:cs[j]? with
  | none=>rw [hc] at hj;cases hj
  | some c0 =>
   rw [hc] at hj;injection hj with hj;subst hj;exact zAh (h5 j c0 hc) (BV hb hc)
 | row e sz l=>exact h
 | map ag ks l=>exact h
theorem SN {w:World} {I:Nat->Prop} {T:Tbl} {foot:List Nat} {p:Option vV} {bx:Box} (h:kC w I T p (unB foot bx)) (hb:AR foot.length bx=true):kC w I (Tc foot T) p bx:=by
 cases bx with
 | var t cs =>
  obtain ⟨b,C,h1,h2,h3,h4,h5⟩:=h;refine ⟨b,C,h1,h2,by rw [h3,fK],HR.1 h4,?_⟩;intro j c hj;exact LR (h5 j (un foot c) (by rw [lV,hj];rfl)) c rfl (BV hb hj)
 | row e sz l=>exact h
 | map ag ks l=>exact h
def kept (I:Nat->Prop) (w:World) (gp new:List vV) (b:Nat):Prop:=(I b/\b<w.heap.size)\/((w.heap.size<=b\/∃ cap,vV.at b cap∈gp)/\∀ cap,vV.at b cap∉new)
def yS (P:Program) (f:FuncId) (pre giv:List Box) (args:List AV) (post:List Box) (res:AV):Prop :=
 ∀ (w:World) (I:Nat->Prop) (foot gp:List vV) (vals:Array Value),
  foot.length=pre.length->gp.length=giv.length->(∀ b,I b->∀ cap,vV.at b cap∉foot++gp)->(∀ (i j b c c':Nat),(foot++gp)[i]?=some (vV.at b c)->(foot++gp)[j]?=some (vV.at b c')->i=j) ->
  (∀ b cap,vV.at b cap∈foot++gp->b<w.heap.size) ->
  (∀ (i:Nat) (bx:Box),(pre++giv)[i]?=some bx->kC w I (fun i=>(foot++gp)[i]?) ((foot++gp)[i]?) bx) ->
  vals.size=args.length->(∀ (j:Nat) (av:AV),args[j]?=some av->Rep w I (fun i=>(foot++gp)[i]?) (vals.getD j undef) av) ->
  Calls P f vals w fun e w'=>∃ (v:Value) (new:List vV),e=.returned v/\w'.os=w.os/\w'.tape=w.tape/\w'.output=w.output/\w.heap.size<=w'.heap.size /\
   (∀ b,b<w.heap.size->(∀ cap,vV.at b cap∉foot++gp)->w'.heap[b]?=w.heap[b]?) /\
   pre.length+new.length=post.length/\(∀ b cap,vV.at b cap∈new->w.heap.size<=b\/∃ cap',vV.at b cap'∈gp)/\(∀ (i j b c c':Nat),new[i]?=some (vV.at b c)->new[j]?=some (vV.at b c')->i=j) /\
   Rep w' (kept I w gp new) (fun i=>(foot++new)[i]?) v res /\
   ∀ (i:Nat) (bx:Box),post[i]?=some bx->kC w' (kept I w gp new) (fun i=>(foot++new)[i]?) ((foot++new)[i]?) bx
abbrev DJ (P:Program) (f:FuncId) (pre:List Box) (args:List AV) (post:List Box) (res:AV):Prop:=yS P f pre [] args post res
end Go.Ab
