/- A layer over the model: abstract values and states, and the rules by which the printed proofs go. No conditions. -/
import Derived.Test.YtoeengmnmhhpgaaGreatA11
import Derived.Laws.MakeOwn
/- Rows of the call's own: made, appended to, copied into, read as a string; an array seen as a slice. -/
namespace Go.Ab
open Go
def lF (P:Program) (sz:Nat) (y:AV) (B:Nat->y7):Option (List Prop×List Nat×List AV) :=
 match y with
 | .own id _ =>
  match B id with
  | .live (.row _ sz' l)=>bif Nat.beq sz' sz then some ([],[id],l) else none
  | _=>none
 | .part id sz' lo hi =>
  match B id with
  | .live (.row _ sz'' l)=>bif Nat.beq sz' sz&&Nat.beq sz'' sz then some ([hi<=l.length],[id],(l.take hi).drop lo) else none
  | _=>none
 | y=>match NV P sz y with
  | some m=>some ([],[],m)
  | none=>none
theorem RE {P:Program} {w:World} {I:Nat->Prop} {b cap:Nat} {C:Array Value} {e:TypeId} {sz:Nat} {l m:List AV} {x:Value} {lo n c:Nat}
  (hh:w.heap[b]?=some (.cells C e (0,0))) (hcs:C.size=cap * sz) (hl:l.length<=cap) (hcm:cap<=maxLen) (h4:∀ av∈l,av.cells.length=sz) (h5:∀ av∈l,∀ c∈av.cells,c.one=true)
  (h6:∀ i av j c,l[i]?=some av->av.cells[j]?=some c->Rep w I Tbl.empty (C.getD (i * sz+j) undef) c)
  (hx:x=.slice (some ⟨b,lo * sz,none⟩) n c) (hm:m=(l.take (lo+n)).drop lo) (hn:lo+n<=l.length):∃ news,Src P w I sz x m news:=by
 have hb:b<w.heap.size:=by
  rcases zlg b w.heap.size with h' | h'
  ·exact h'
  ·rw [Array.getElem?_eq_none h'] at hh;cases hh
 have hml:m.length=n:=by rw [hm];simp;omega
 have hmem:∀ av∈m,av∈l:=fun av hav=>by rw [hm] at hav;exact List.mem_of_mem_take (List.mem_of_mem_drop hav)
 have hget:∀ i av,m[i]?=some av->l[lo+i]?=some av:=by
  intro i av hi;rw [hm,List.getElem?_drop,List.getElem?_take] at hi
  split at hi
  ·exact hi
  ·cases hi
 have hwid:∀ av∈m,av.cells.length=sz:=fun av hav=>h4 av (hmem av hav)
 refine ⟨(List.range (n * sz)).map fun k=>C.getD (lo * sz+k) undef,by simp [hml],hwid,fun av hav=>h5 av (hmem av hav),?_,?_,by rw [hml];omega,?_⟩
 ·intro k c hk;obtain ⟨i,j,av,he,g1,g2⟩:=LC hwid hk;have hlt:k<n * sz:=by
   rw [<- hml,<- nB hwid];rcases zlg k (vO m).length with h' | h'
   ·exact h'
   ·rw [List.getElem?_eq_none h'] at hk;cases hk
  rw [Q5 hlt]
  have:=h6 (lo+i) av j c (hget i av g1) g2
  rw [he,<- Nat.add_assoc,<- Nat.add_mul];exact this
 ·intro w2;simp [hx,Builtin.lenOf,hml]
 ·intro q w2 hq hw;simp only [hx,Builtin.firstCells];have hle:q * sz<=n * sz:=Nat.mul_le_mul_right _ (by omega);have hsz:lo * sz+n * sz<=C.size:=by
   rw [hcs,<- Nat.add_mul];exact Nat.mul_le_mul_right _ (by omega)
  rw [run_loadCells (P:=P) w2 ⟨b,lo * sz,none⟩ (q * sz) (fun k=>C.getD (lo * sz+k) undef)]
  ·congr 2
   rw [<- List.map_take,List.take_range,Nat.min_eq_left hle]
  ·intro j hj;rw [bJ];have hlt:lo * sz+j<C.size:=by omega
   rw [LG (hw b hb)];simp [World.cell?,hh,hlt,Array.getD_eq_getD_getElem?]
theorem X6 {P:Program} {w:World} {I:Nat->Prop} {a:Option Addr} {c:Nat} (sz:Nat):Src P w I sz (.slice a 0 c) [] []:=by
 refine ⟨by simp,by simp,by simp,fun k c hk=>by simp [vO] at hk,fun w2=>by simp [Builtin.lenOf],by simp,fun n w2 hn _=>?_⟩
 have:n=0:=by simpa using hn
 subst this;cases a with
 | none=>simp [Builtin.firstCells]
 | some a=>simp [Builtin.firstCells,loadCells,loadCellsFrom]
def iD (y:AV) (m:List AV):Prop:=match y with | .own _ n=>n=m.length | .part _ _ lo hi=>lo<=hi | _=>True
theorem E3 {P:Program} {G:tK} {st:AS} {T:Tbl} {a:Act} {w:World} {v:Value} {sz:Nat} {y:AV} {B:Nat->y7} {r:List Prop×List Nat×List AV}
  (hT:jB G st T a w) (hy:Rep w (imm G st T) T v y) (h:lF P sz y B=some r) (hB:∀ id∈r.2.1,st.box id=B id) (hv:∀ p∈r.1,p) (hlen:iD y r.2.2) :
  ∃ news,Src P w (imm G st T) sz v r.2.2 news:=by
 unfold lF at h
 split at h
 ·rename_i id n
  split at h
  ·rename_i e sz' l hl
   replace h:=x8 h;obtain ⟨hs,h⟩:=h;have hs:=w7.1 hs;subst hs;injection h with h;subst h;have hb:st.box id=.live (.row e sz' l):=(hB id (by simp)).trans hl;have hn:n=l.length:=hlen;rcases hT.boxes id _ hb with ⟨hp,hnil⟩ | ⟨b',cap',C,hp,hh,h1,h2,h3,h4,h5,h6⟩
   ·subst hnil;cases hy with
    | ownNil=>exact ⟨[],X6 _⟩
    | own hTi=>rw [hp] at hTi;cases hTi
   ·cases hy with
    | ownNil hTi=>rw [hp] at hTi;cases hTi
    | own hTi c1 c2 =>
     rename_i b cap
     rw [hp] at hTi;injection hTi with hTi;injection hTi with e1 e2;subst e1;subst e2;exact RE (lo:=0) (n:=n) (c:=cap') hh h1 h2 h3 h4 h5 h6 (by simp) (by simp [hn]) (by omega)
  ·cases h
 ·rename_i id sz' lo hi
  split at h
  ·rename_i e sz'' l hl
   replace h:=x8 h;obtain ⟨hs,h⟩:=h;simp only [zba] at hs;have hs1:=w7.1 hs.1;have hs2:=w7.1 hs.2;subst hs1;subst hs2;injection h with h;subst h;have hb:st.box id=.live (.row e sz'' l):=(hB id (by simp)).trans hl;have hhi:hi<=l.length:=hv _ (by simp);have hlo:lo<=hi:=hlen;cases hy with
   | part0 hc=>simp only [List.drop_take_self];exact ⟨[],X6 _⟩
   | part hTi p1 p2 p3 p4 p5 p6 =>
    rename_i o n c b cap
    rcases hT.boxes id _ hb with ⟨hp,hnil⟩ | ⟨b',cap',C,hp,hh,h1,h2,h3,h4,h5,h6⟩
    ·rw [hp] at hTi;cases hTi
    ·rw [hp] at hTi;injection hTi with hTi;injection hTi with e1 e2;subst e1;subst e2;exact RE (lo:=lo) (n:=n) hh h1 h2 h3 h4 h5 h6 (by rw [p6]) (by rw [p2];simp only [];rw [show lo+(hi - lo)=hi by omega]) (by omega)
  ·cases h
 ·rename_i y' hn1 hn2
  split at h
  ·rename_i m hm
   injection h with h;subst h;exact VD hy hm
  ·cases h
/-! Append to a row of the call's own. -/
theorem zFM {P:Program} {t t2 e tt:TypeId} {i:TypeInfo} {z:Value} {w:World} {ty:TypeId} (ht:i6 P t e i z) (h2:b7 P t2=true)
  {b sLen sCap n:Nat} {C:Array Value} {x:Value} {news:List Value} (hlen:(Builtin.lenOf x).run P w=.ok n w)
  (hfx:(Builtin.firstCells (szT P e) n x).run P w=.ok news.toArray w) (hle:sLen+n<=sCap) (hh:w.heap[b]?=some (.cells C tt (0,0)))
  (hfit:sLen * szT P e+news.length<=C.size) (h1:∀ u∈news,u.oneCell'=true) :
  (Builtin.append_ #[t,t2] ty #[.slice (some ⟨b,0,none⟩) sLen sCap,x]).run P w =
   .ok (.slice (some ⟨b,0,none⟩) (sLen+n) sCap) (w.setRow b (C.toList.take (sLen * szT P e)++news++C.toList.drop (sLen * szT P e+news.length)).toArray):=by
 obtain ⟨d,hd,hnd⟩:=SQ h2;have hst:=run_storeCells_at P b (sLen * szT P e) tt news 0 C w hh (by simpa using hfit) h1;simp only [Nat.add_zero] at hst;simp only [Builtin.append_,List.getElem?_toArray,List.getElem?_cons_zero,List.getElem?_cons_succ,Sem.run_bind,run_underlying ht.und,run_underlying hd,Result.andThen_ok,sizeOf,typeInfo,run_program,
  ht.info,Sem.run_pure]
 simp [hlen,hle,ht.size,hfx,bJ,hst]
def TI (P:Program) (t t2:TypeId) (x y:AV) (B:Nat->y7) (h:wF):Option (List Prop×List Nat×Nat×Box×AV) :=
 match x,cA P t with
 | .own id n,some e =>
  match B id with
  | .live (.row e' sz l) =>
   bif (Nat.beq e e'&&Nat.beq sz (szT P e))&&b7 P t2 then
    match lF P sz y B with
    | some (vc,ids,m) =>
     bif (ids.all fun i=>!(Nat.beq i id))&&!(Nat.beq h.id id) then
      some (vc++[n=l.length,iD y m,h.l=l++m,h.n=h.l.length,(l.length+m.length) * kG P e<=140737488355328],ids,id,.row e sz h.l,.own h.id h.n)
     else none
    | none=>none
   else none
  | _=>none
 | _,_=>none
theorem zE4 {P:Program} {N np:Nat} {o:Oper} {t t2:TypeId} {x y:Operand} {rs:List (Nat×AV)} {hn:wF} {B:Nat->y7} {r:List Prop×List Nat×Nat×Box×AV}
  (ho:o.op=.call { callee:=.builtin .append,args:=#[x,y],argTypes:=#[t,t2] }) (hx:x5 x=true) (hy:x5 y=true)
  (h:TI P t t2 (xZ rs x) (nz (xZ rs y)) B hn=some r) (hv:∀ p∈r.1,p) (hd:tY N o.dst=true) (hid:np<=r.2.2.1) :
  qD P N np o { rs:=rs,rb:=(hn.id,.unused)::(r.2.2.1,B r.2.2.1)::r.2.1.map (fun i=>(i,B i)),dst:=o.dst.map fun d=>(d,r.2.2.2.2),wb:=[(hn.id,.live r.2.2.2.1),(r.2.2.1,.dead)] }:=by
 intro G st a w hN hnp hE ⟨T,hT⟩;have hrx:=uQ hT hE.1 hx;have hry:=nN (uQ hT hE.1 hy);unfold TI at h
 split at h
 case h_2=>cases h
 rename_i id n e hX hrow
 rw [hX] at hrx;obtain ⟨i,z,ht⟩:=gL hrow
 split at h
 case h_2=>cases h
 rename_i e' sz l hB
 replace h:=x8 h;obtain ⟨hc,h⟩:=h;simp only [zba] at hc;obtain ⟨⟨he,hsz⟩,h2⟩:=hc;have he:=w7.1 he;have hsz:=w7.1 hsz;subst he;subst hsz
 split at h
 case h_2=>cases h
 rename_i vc ids m hsrc
 replace h:=x8 h;obtain ⟨hids,h⟩:=h;injection h with h;subst h;simp only at hE hv hid;have hnl:n=l.length:=hv _ (by simp);have hol:iD (nz (xZ rs y)) m:=hv _ (by simp);have hL:hn.l=l++m:=hv _ (by simp);have hN':hn.n=hn.l.length:=hv _ (by simp);have hby:(l.length+m.length) * kG P e<=140737488355328:=hv _ (by simp);have hmax:l.length+m.length<=maxLen:=by
  have:=Nat.le_mul_of_pos_right (l.length+m.length) ht.bpos
  rw [jT];omega
 have hu:st.box hn.id=.unused:=hE.2 (hn.id,.unused) (by simp);have hb:st.box id=.live (.row e (szT P e) l):=(hE.2 (id,B id) (by simp)).trans hB;obtain ⟨news,hs⟩:=E3 hT hry hsrc (fun i hi=>hE.2 (i,B i) (List.mem_cons_of_mem _ (List.mem_cons_of_mem _ (List.mem_map.2 ⟨i,hi,rfl⟩)))) (fun p hp=>hv p (by simp at hp ⊢;exact .inl hp)) hol;replace hs:Src P w (imm G st T) (szT P e) (a.eval y) m news:=hs;have hnewsone:∀ u∈news,u.oneCell'=true:=by
  intro u hu';obtain ⟨k,hk⟩:=List.mem_iff_getElem?.1 hu';have hkl:k<news.length:=by
   rcases zlg k news.length with h' | h'
   ·exact h'
   ·rw [List.getElem?_eq_none h'] at hk;cases hk
  have hkf:k<(vO m).length:=by rw [nB hs.wid,<- hs.len];exact hkl
  have:=hs.rep k _ (List.getElem?_eq_getElem hkf)
  rw [List.getD_eq_getElem?_getD,hk] at this;exact this.oneCell (LD hs.one _ (List.getElem_mem hkf))
 have hrun:∀ (v:Value) (w':World),(Builtin.append_ #[t,t2] o.type #[a.eval x,a.eval y]).run P w=.ok v w'->(execOp a.eval o).run P w=.ok (.value v) w':=fun v w' hv=>by
  simp [execOp,ho,resolve,invoke,builtin,hv]
 have hokl:=hT.boxes id _ hb;have wid_l:∀ av∈l,av.cells.length=szT P e:=by
  rcases hokl with ⟨_,hnil⟩ | ⟨b',cap',C,hp,hh,h1,h2',h3,h4,h5,h6⟩
  ·subst hnil;simp
  ·exact h4
 have one_l:∀ av∈l,∀ c∈av.cells,c.one=true:=by
  rcases hokl with ⟨_,hnil⟩ | ⟨b',cap',C,hp,hh,h1,h2',h3,h4,h5,h6⟩
  ·subst hnil;simp
  ·exact h5
 have hw:∀ av∈hn.l,av.cells.length=szT P e:=by
  intro av hav;rw [hL] at hav;rcases List.mem_append.1 hav with h | h
  ·exact wid_l av h
  ·exact hs.wid av h
 have h1w:∀ av∈hn.l,∀ c∈av.cells,c.one=true:=by
  intro av hav;rw [hL] at hav;rcases List.mem_append.1 hav with h | h
  ·exact one_l av h
  ·exact hs.one av h
 have hLlen:hn.l.length=l.length+m.length:=by rw [hL];simp
 have hfl:=nB wid_l;have hfm:=nB hs.wid
 -- what a new row says
 have rowAt:∀ {w':World} {I:Nat->Prop} {C:Array Value} {olds:List Value},w.heap.size<=w'.heap.size->(∀ b,imm G st T b->b<w.heap.size->w'.heap[b]?=w.heap[b]?) ->
   (∀ b,imm G st T b->b<w.heap.size->I b)->olds.length=l.length * szT P e->(∀ k c,(vO l)[k]?=some c->Rep w (imm G st T) Tbl.empty (olds.getD k undef) c) ->
   (∀ k,k<(olds++news).length->C.getD k undef=(olds++news).getD k undef) ->
   ∀ i av j c,hn.l[i]?=some av->av.cells[j]?=some c->Rep w' I Tbl.empty (C.getD (i * szT P e+j) undef) c:=by
  intro w' I C olds hs' hc hI ho1 ho2 hC i av j c hi hj;have hk:=dD hw hi hj;generalize i * szT P e+j=k at hk;have hln:=hs.len;have hkl:k<(vO hn.l).length:=by
   rcases zlg k (vO hn.l).length with h' | h'
   ·exact h'
   ·rw [List.getElem?_eq_none h'] at hk;cases hk
  rw [hL,O3] at hk hkl;rw [zla,hfl,hfm] at hkl;rw [hC k (by simp only [zla];omega)];have hmono:∀ {v av},Rep w (imm G st T) Tbl.empty v av->Rep w' I Tbl.empty v av:=fun h=>h.mono hs' hc hI (fun _ _ h=>h)
  rcases zlg k (vO l).length with hlt | hge'
  ·rw [List.getElem?_append_left hlt] at hk;rw [List.getD_eq_getElem?_getD,List.getElem?_append_left (by omega),<- List.getD_eq_getElem?_getD];exact hmono (ho2 k c hk)
  ·rw [List.getElem?_append_right hge'] at hk
   have:=hs.rep _ c hk
   rw [List.getD_eq_getElem?_getD,List.getElem?_append_right (by omega),<- List.getD_eq_getElem?_getD];rw [hfl,<- ho1] at this;exact hmono this
 -- a new block is made
 have grow:∀ {base:Option Addr} {cap:Nat} {olds:List Value} {row:Option Nat},a.eval x=.slice base l.length cap->cap<l.length+m.length->olds.length=l.length * szT P e ->
   (∀ k c,(vO l)[k]?=some c->Rep w (imm G st T) Tbl.empty (olds.getD k undef) c) ->
   (∀ w2:World,w2.heap=w.heap->(Builtin.firstCells (szT P e) l.length (.slice base l.length cap)).run P w2=.ok olds.toArray w2) ->
   row=none ->
   o.wp P a w (fun a' w'=>Rel G (st.upd { rs:=rs,rb:=(hn.id,.unused)::(id,B id)::ids.map (fun i=>(i,B i)),dst:=o.dst.map fun d=>(d,.own hn.id hn.n),wb:=[(hn.id,.live (.row e (szT P e) hn.l)),(id,.dead)] }) a' w') (fun _ _ _=>False):=by
  intro base cap olds row hX' hlt ho1 ho2 hfo _;have hnew:=QJ (P:=P) (w:=w) (ty:=o.type) ht h2 (base:=base) (sLen:=l.length) (sCap:=cap) (n:=m.length) (x:=a.eval y) (olds:=olds) (news:=news)
   (hs.lenOf w) (fun w2 hw=>by have:=hs.cells m.length w2 (Nat.le_refl _) (fun b _=>by rw [hw]);rwa [List.take_of_length_le (by rw [hs.len];exact Nat.le_refl _)] at this) hfo hlt hmax hby
  have hge:=grownCap_ge w (l.length+m.length) cap e;have hcm:=grownCap_le_maxLen w (l.length+m.length) cap e hmax;have hex:=hrun _ _ (by rw [hX'];exact hnew);refine qG hex ?_;refine hT.move (p:=.at w.heap.size (grownCap w (l.length+m.length) cap e)) (row:=none) hb hu (by omega) (fun g hg=>by cases hg) ⟨rfl,rfl,rfl,by simp,fun k hk _=>heap_alloc_old w.drew _ k hk⟩ rfl
   (by simp [Option.map_map,Function.comp_def]) (fun b c hp=>by injection hp with hp;exact .inl (by omega)) ?_ ?_
  ·intro I T' hI _;have hz:(Builtin.zeroCells z.cells (grownCap w (l.length+m.length) cap e - (l.length+m.length))).size=(grownCap w (l.length+m.length) cap e - (l.length+m.length)) * szT P e:=by
    rw [size_zeroCells,ht.zsize]
   refine .inr ⟨_,_,_,rfl,heap_alloc_new w.drew _,?_,by omega,hcm,hw,h1w,?_⟩
   ·simp only [Array.size_append,List.size_toArray,ho1,hs.len,hz,<- Nat.add_mul]
    congr 1
    omega
   ·refine rowAt (olds:=olds) (by simp) (fun b _ hlt=>heap_alloc_old w.drew _ b hlt) hI ho1 ho2 ?_;intro k hk;exact QB hk
  ·intro d av he;obtain ⟨hlt',rfl⟩:=tS hd he;refine ⟨by omega,fun I T' hT'=>?_⟩;rw [hN',hLlen];exact .own hT' hge hcm
 rcases hokl with ⟨hp,hnil⟩ | ⟨b',cap',C,hp,hh,h1,h2',h3,h4,h5,h6⟩
 · -- nothing was there
  generalize hXv:a.eval x=vx at hrx;cases hrx with
  | own hTi=>rw [hp] at hTi;cases hTi
  | ownNil hTi =>
   rename_i a0
   by_cases hm:m.length=0
   ·have hm0:m=[]:=List.eq_nil_of_length_eq_zero hm;have h0:=hs.cells 0 w (Nat.zero_le _) (fun _ _=>rfl);simp only [Nat.zero_mul,List.take_zero] at h0;have hlen0:=hs.lenOf w;rw [hm] at hlen0;refine qG (hrun _ _ (by rw [hXv];exact O1 ht h2 hlen0 h0 (Nat.le_refl _))) ?_;refine hT.move (p:=.nil) (row:=none) hb hu (by omega) (fun g hg=>by cases hg) (kY w) rfl (by simp [Option.map_map,Function.comp_def]) (fun b c hp=>by cases hp) ?_ ?_
    ·intro I T' _ _;exact .inl ⟨rfl,by rw [hL,hnil,hm0];rfl⟩
    ·intro d av he;obtain ⟨hlt',rfl⟩:=tS hd he;refine ⟨by omega,fun I T' hT'=>?_⟩
     have:hn.n=0:=by rw [hN',hLlen,hm,hnil];rfl
     rw [this];exact .ownNil hT'
   ·refine grow (base:=a0) (cap:=0) (olds:=[]) (row:=none) (by rw [hXv,hnil];rfl) (by omega) (by rw [hnil];simp) (fun k c hk=>by rw [hnil] at hk;simp [vO] at hk) (fun w2 _=>?_) rfl;rw [hnil];cases a0<;>simp [Builtin.firstCells,loadCells,loadCellsFrom]
 ·generalize hXv:a.eval x=vx at hrx;cases hrx with
  | ownNil hTi=>rw [hp] at hTi;cases hTi
  | own hTi c1 c2 =>
   rename_i b cap
   have hTi0:=hTi;rw [hp] at hTi;injection hTi with hTi;injection hTi with e1 e2;subst e1;subst e2;obtain ⟨olds,hso⟩:=RE (P:=P) (lo:=0) (n:=n) (c:=cap') (m:=l) (x:=.slice (some ⟨b',0,none⟩) n cap') hh h1 h2' h3 h4 h5 h6 (by simp) (by simp [hnl]) (by omega);have hfo:∀ w2:World,w2.heap=w.heap->(Builtin.firstCells (szT P e) l.length (.slice (some ⟨b',0,none⟩) n cap')).run P w2=.ok olds.toArray w2:=fun w2 hw=>by
    have:=hso.cells l.length w2 (Nat.le_refl _) (fun b _=>by rw [hw]);rwa [List.take_of_length_le (by rw [hso.len];exact Nat.le_refl _)] at this
   by_cases hroom:l.length+m.length<=cap'
   ·have hfx:=hs.cells m.length w (Nat.le_refl _) (fun _ _=>rfl);rw [List.take_of_length_le (by rw [hs.len];exact Nat.le_refl _)] at hfx;have hfit:n * szT P e+news.length<=C.size:=by
     rw [hs.len,h1,hnl,<- Nat.add_mul];exact Nat.mul_le_mul_right _ hroom
    have hr:=zFM (P:=P) (w:=w) (ty:=o.type) ht h2 (b:=b') (sLen:=n) (sCap:=cap') (hs.lenOf w) hfx (by omega) hh hfit hnewsone;refine qG (hrun _ _ (by rw [hXv];exact hr)) ?_;refine hT.move (p:=.at b' cap') (row:=some b') hb hu (by omega) (fun g hg=>by injection hg with hg;subst hg;exact ⟨cap',hTi0⟩) LX rfl
     (by simp [Option.map_map,Function.comp_def]) (fun b c hp=>by injection hp with hp1 hp2;subst hp1;exact .inr ⟨cap',hTi0⟩) ?_ ?_
    ·intro I T' hI _;have hne:∀ b,imm G st T b->b≠b':=fun b hb' e=>by subst e;exact hb'.2 id _ cap' hb hTi0
     refine .inr ⟨b',cap',_,rfl,setRow_heap w b' C _ e _ hh,by simp;omega,by omega,h3,hw,h1w,?_⟩;refine rowAt (olds:=olds) (by simp) (fun b hb' _=>setRow_other w b' b _ (hne b hb')) hI hso.len hso.rep ?_;intro k hk;simp only [zla] at hk;rw [NT hfit];have hol:=hso.len
     by_cases k1:k<olds.length
     ·rw [if_neg (by rw [hnl];omega),List.getD_eq_getElem?_getD,List.getElem?_append_left k1,<- List.getD_eq_getElem?_getD]
      -- the old cells as the source read them
      have hk2:k<l.length * szT P e:=by omega
      have hcc:=hso.cells l.length w (Nat.le_refl _) (fun _ _=>rfl);rw [List.take_of_length_le (by rw [hso.len];exact Nat.le_refl _)] at hcc;simp only [Builtin.firstCells] at hcc;rw [run_loadCells (P:=P) w ⟨b',0,none⟩ (l.length * szT P e) (fun k=>C.getD k undef)] at hcc
      ·injection hcc with hcc;have hcc:=congrArg Array.toList hcc;simp only at hcc;rw [<- hcc,Q5 hk2]
      ·intro j hj
       have:j<C.size:=by
        have:=Nat.mul_le_mul_right (szT P e) h2'
        omega
       rw [bJ];simp [World.cell?,hh,this,Array.getD_eq_getD_getElem?]
     ·rw [if_pos (by rw [hnl];omega),List.getD_eq_getElem?_getD (l:=olds++news),List.getElem?_append_right (by omega),<- List.getD_eq_getElem?_getD,hol,hnl]
    ·intro d av he;obtain ⟨hlt',rfl⟩:=tS hd he;refine ⟨by omega,fun I T' hT'=>?_⟩;rw [hN',hLlen,hnl];exact .own hT' hroom h3
   ·refine grow (base:=some ⟨b',0,none⟩) (cap:=cap') (olds:=olds) (row:=none) (by rw [hXv,hnl]) (by omega) hso.len hso.rep (fun w2 hw=>?_) rfl;rw [<- hnl] at *;exact hfo w2 hw
end Go.Ab

/- More on rows: made with a length, made of parts, copied into, an array as a slice, bytes as a string. -/
namespace Go.Ab
open Go
/-! 'append' of a row of the call's own to a slice without room. -/
def S0 (P:Program) (t t2:TypeId) (x y:AV) (B:Nat->y7) (h:wF):Option (List Prop×List Nat×AV) :=
 match cA P t,x with
 | some e,.sl true sz l =>
  bif (Nat.beq sz (szT P e)||l.isEmpty)&&b7 P t2 then
   match lF P (szT P e) y B with
   | some (vc,ids,m)=>some (vc++[iD y m,h.l=l++m,(l.length+m.length) * kG P e<=140737488355328],ids,.sl false (szT P e) h.l)
   | none=>none
  else none
 | _,_=>none
theorem zBP {P:Program} {N np:Nat} {o:Oper} {t t2:TypeId} {x y:Operand} {rs:List (Nat×AV)} {hn:wF} {B:Nat->y7} {r:List Prop×List Nat×AV}
  (ho:o.op=.call { callee:=.builtin .append,args:=#[x,y],argTypes:=#[t,t2] }) (hx:x5 x=true) (hy:x5 y=true)
  (h:S0 P t t2 (nz (xZ rs x)) (nz (xZ rs y)) B hn=some r) (hv:∀ p∈r.1,p) (hd:tY N o.dst=true) :
  qD P N np o { rs:=rs,rb:=r.2.1.map (fun i=>(i,B i)),dst:=o.dst.map fun d=>(d,r.2.2) }:=by
 intro G st a w hN hnp hE ⟨T,hT⟩;have hrx:=nN (uQ hT hE.1 hx);have hry:=nN (uQ hT hE.1 hy);unfold S0 at h
 split at h
 case h_2=>cases h
 rename_i e sz l hrow hX
 rw [hX] at hrx;obtain ⟨i,z,ht⟩:=gL hrow;replace h:=x8 h;obtain ⟨hc,h⟩:=h;simp only [zba,Bool.or_eq_true] at hc;have hx':Rep w (imm G st T) T (a.eval x) (.sl true (szT P e) l):=by
  rcases hc.1 with h1 | h1
  ·rw [<- w7.1 h1];exact hrx
  ·have:l=[]:=by simpa using h1
   subst this;exact R7 _ hrx
 split at h
 case h_2=>cases h
 rename_i vc ids m hsrc
 injection h with h;subst h;simp only at hE hv;obtain ⟨news,hs⟩:=E3 hT hry hsrc (fun i hi=>hE.2 (i,B i) (List.mem_map.2 ⟨i,hi,rfl⟩)) (fun p hp=>hv p (by simp at hp ⊢;exact .inl hp)) (hv _ (by simp));replace hs:Src P w (imm G st T) (szT P e) (a.eval y) m news:=hs;obtain ⟨v,w',hrun,hg,hrep⟩:=XS ho ht hc.2 hx' hs (hv (hn.l=l++m) (by simp)) (hv ((l.length+m.length) * kG P e<=140737488355328) (by simp));refine qG hrun (hT.quiet hg rfl (by simp [Option.map_map,Function.comp_def]) ?_);intro d av he;obtain ⟨hlt,rfl⟩:=tS hd he;exact ⟨by omega,hrep _ _ (fun _ h _=>h) (fun b hb _=>YA hT hb) (fun _ _ h=>h)⟩
/-! Append to a slice without room, of something that is not empty: a new row, the call's own. -/
def R0 (P:Program) (t t2:TypeId) (x y:AV) (B:Nat->y7) (h:wF):Option (List Prop×List Nat×Box×AV) :=
 match cA P t,x with
 | some e,.sl true sz l =>
  bif (Nat.beq sz (szT P e)||l.isEmpty)&&b7 P t2 then
   match lF P (szT P e) y B with
   | some (vc,ids,m)=>bif ids.all (fun i=>!(Nat.beq i h.id)) then some (vc++[iD y m,h.l=l++m,(l.length+m.length) * kG P e<=140737488355328,0<m.length\/l.length=0,h.n=h.l.length],ids,.row e (szT P e) h.l,.own h.id h.n) else none
   | none=>none
  else none
 | _,_=>none
theorem zH6 {P:Program} {N np:Nat} {o:Oper} {t t2:TypeId} {x y:Operand} {rs:List (Nat×AV)} {hn:wF} {B:Nat->y7} {r:List Prop×List Nat×Box×AV}
  (ho:o.op=.call { callee:=.builtin .append,args:=#[x,y],argTypes:=#[t,t2] }) (hx:x5 x=true) (hy:x5 y=true)
  (h:R0 P t t2 (nz (xZ rs x)) (nz (xZ rs y)) B hn=some r) (hv:∀ p∈r.1,p) (hd:tY N o.dst=true) :
  qD P N np o { rs:=rs,rb:=(hn.id,.unused)::r.2.1.map (fun i=>(i,B i)),dst:=o.dst.map fun d=>(d,r.2.2.2),wb:=[(hn.id,.live r.2.2.1)] }:=by
 intro G st a w hN hnp hE ⟨T,hT⟩;have hrx:=nN (uQ hT hE.1 hx);have hry:=nN (uQ hT hE.1 hy);unfold R0 at h
 split at h
 case h_2=>cases h
 rename_i e sz l hrow hX
 rw [hX] at hrx;obtain ⟨i,z,ht⟩:=gL hrow;replace h:=x8 h;obtain ⟨hc,h⟩:=h;simp only [zba,Bool.or_eq_true] at hc;have hx':Rep w (imm G st T) T (a.eval x) (.sl true (szT P e) l):=by
  rcases hc.1 with h1 | h1
  ·rw [<- w7.1 h1];exact hrx
  ·have:l=[]:=by simpa using h1
   subst this;exact R7 _ hrx
 split at h
 case h_2=>cases h
 rename_i vc ids m hsrc
 replace h:=x8 h;obtain ⟨hids,h⟩:=h;injection h with h;subst h;simp only at hE hv;have hu:st.box hn.id=.unused:=hE.2 (hn.id,.unused) (by simp);have hol:iD (nz (xZ rs y)) m:=hv _ (by simp);have hL:hn.l=l++m:=hv _ (by simp);have hb:(l.length+m.length) * kG P e<=140737488355328:=hv _ (by simp);have hm0:0<m.length\/l.length=0:=hv _ (by simp);have hnn:hn.n=hn.l.length:=hv _ (by simp);obtain ⟨news,hs⟩:=E3 hT hry hsrc (fun i hi=>hE.2 (i,B i) (List.mem_cons_of_mem _ (List.mem_map.2 ⟨i,hi,rfl⟩))) (fun p hp=>hv p (by simp at hp ⊢;exact .inl hp)) hol;replace hs:Src P w (imm G st T) (szT P e) (a.eval y) m news:=hs;have hmax:l.length+m.length<=maxLen:=by
  have:=Nat.le_mul_of_pos_right (l.length+m.length) ht.bpos
  rw [jT];omega
 have hrun:∀ (v:Value) (w':World),(Builtin.append_ #[t,t2] o.type #[a.eval x,a.eval y]).run P w=.ok v w'->(execOp a.eval o).run P w=.ok (.value v) w':=fun v w' hv=>by
  simp [execOp,ho,resolve,invoke,builtin,hv]
 obtain ⟨olds,hso⟩:=L7 (P:=P) hx';obtain ⟨base,cap,hXf,_,_,hfull⟩:=NF hx';have hcap:=hfull rfl;subst hcap;rw [hXf] at hso
 by_cases hm:m.length=0
 · -- nothing onto nothing
  have hm1:m=[]:=List.eq_nil_of_length_eq_zero hm;have hl0:l=[]:=List.eq_nil_of_length_eq_zero (by omega);have h0:=hs.cells 0 w (Nat.zero_le _) (fun _ _=>rfl);simp only [Nat.zero_mul,List.take_zero] at h0;have hlen0:=hs.lenOf w;rw [hm] at hlen0;have hn0:hn.n=0:=by rw [hnn,hL,hl0,hm1];rfl
  refine qG (hrun _ _ (by rw [hXf];exact O1 ht hc.2 hlen0 h0 (Nat.le_refl _))) ?_;refine hT.new (p:=.nil) (kY w) rfl hu (by simp [Option.map_map,Function.comp_def]) (fun b c hp=>by cases hp) (.inl ⟨rfl,by rw [hL,hl0,hm1];rfl⟩) ?_;intro d av he;obtain ⟨hlt,rfl⟩:=tS hd he;refine ⟨by omega,?_⟩;rw [hn0,hl0];exact .ownNil (Tbl.put_same _ _ _)
 have hnew:=QJ (P:=P) (w:=w) (ty:=o.type) ht hc.2 (base:=base) (sLen:=l.length) (sCap:=l.length) (n:=m.length) (x:=a.eval y) (olds:=olds) (news:=news)
  (hs.lenOf w) (fun w2 hw=>by have:=hs.cells m.length w2 (Nat.le_refl _) (fun b _=>by rw [hw]);rwa [List.take_of_length_le (by rw [hs.len];exact Nat.le_refl _)] at this)
  (fun w2 hw=>by have:=hso.cells l.length w2 (Nat.le_refl _) (fun b _=>by rw [hw]);rwa [List.take_of_length_le (by rw [hso.len];exact Nat.le_refl _)] at this)
  (by omega) hmax hb
 have hge:=grownCap_ge w (l.length+m.length) l.length e;have hcm:=grownCap_le_maxLen w (l.length+m.length) l.length e hmax;have hex:=hrun _ _ (by rw [hXf];exact hnew);have hLlen:hn.l.length=l.length+m.length:=by rw [hL];simp
 have hw:∀ av∈hn.l,av.cells.length=szT P e:=by
  intro av hav;rw [hL] at hav;rcases List.mem_append.1 hav with h | h
  ·exact hso.wid av h
  ·exact hs.wid av h
 have h1w:∀ av∈hn.l,∀ c∈av.cells,c.one=true:=by
  intro av hav;rw [hL] at hav;rcases List.mem_append.1 hav with h | h
  ·exact hso.one av h
  ·exact hs.one av h
 have hlo:=hso.len;have hln:=hs.len;have hfl:=nB hso.wid;have hfm:=nB hs.wid;refine qG hex ?_;refine hT.new (p:=.at w.heap.size (grownCap w (l.length+m.length) l.length e)) ⟨rfl,rfl,rfl,by simp,fun k hk _=>heap_alloc_old w.drew _ k hk⟩ rfl hu (by simp [Option.map_map,Function.comp_def]) (fun b c hp=>by injection hp with hp;omega) ?_ ?_
 ·refine .inr ⟨_,_,_,rfl,heap_alloc_new w.drew _,?_,by omega,hcm,hw,h1w,?_⟩
  ·have hz:(Builtin.zeroCells z.cells (grownCap w (l.length+m.length) l.length e - (l.length+m.length))).size=(grownCap w (l.length+m.length) l.length e - (l.length+m.length)) * szT P e:=by
    rw [size_zeroCells,ht.zsize]
   simp only [Array.size_append,List.size_toArray,hlo,hln,hz,<- Nat.add_mul]
   congr 1
   omega
  ·intro i' av j c hi hj;have hk:=dD hw hi hj;generalize i' * szT P e+j=k at hk;have hkl:k<(vO hn.l).length:=by
    rcases zlg k (vO hn.l).length with h' | h'
    ·exact h'
    ·rw [List.getElem?_eq_none h'] at hk;cases hk
   rw [hL,O3] at hk hkl;rw [zla,hfl,hfm] at hkl;have hmono:∀ {v av},Rep w (imm G st T) Tbl.empty v av->Rep (w.drew.alloc (.cells (olds.toArray++news.toArray++Builtin.zeroCells z.cells (grownCap w (l.length+m.length) l.length e - (l.length+m.length))) e)) (imm G (st.upd { rs:=rs,rb:=(hn.id,.unused)::ids.map (fun i=>(i,B i)),dst:=o.dst.map fun d=>(d,.own hn.id hn.n),wb:=[(hn.id,.live (.row e (szT P e) hn.l))] }) (T.put hn.id (.at w.heap.size (grownCap w (l.length+m.length) l.length e)))) Tbl.empty v av:=by
    intro v av h;refine h.mono (by simp) (fun b _ hlt=>heap_alloc_old w.drew _ b hlt) (fun b hI hlt=>?_) (fun _ _ h=>h);refine ⟨hI.1,fun id bx cap hl hTi=>?_⟩;rw [fI] at hl;simp only [gZ] at hl
    by_cases e':id=hn.id
    ·subst e';rw [Tbl.put_same] at hTi;injection hTi with hTi;injection hTi with hTi;omega
    ·rw [if_neg e'] at hl;rw [Tbl.put_ne _ _ e'] at hTi;exact hI.2 id bx cap hl hTi
   rw [QB (by simp only [zla];omega)];rcases zlg k (vO l).length with hlt | hge'
   ·rw [List.getElem?_append_left hlt] at hk
    have:=hso.rep k c hk
    rw [List.getD_eq_getElem?_getD,List.getElem?_append_left (by omega),<- List.getD_eq_getElem?_getD];exact hmono this
   ·rw [List.getElem?_append_right hge'] at hk
    have:=hs.rep _ c hk
    rw [List.getD_eq_getElem?_getD,List.getElem?_append_right (by omega),<- List.getD_eq_getElem?_getD];rw [hfl,<- hlo] at this;exact hmono this
 ·intro d av he;obtain ⟨hlt,rfl⟩:=tS hd he;refine ⟨by omega,?_⟩;rw [hnn,hLlen];exact .own (Tbl.put_same _ _ _) hge hcm
/-! vN of a row of the call's own as a string. -/
def UW (P:Program) (src dst:TypeId) (x:AV) (B:Nat->y7) (h:wF):Option (List Prop×List Nat×AV) :=
 match P.underlying src,P.underlying dst with
 | some (.slice e),some .string =>
  bif gS P e then
   match lF P 1 x B with
   | some (vc,ids,m)=>some (vc++[iD x m,m=h.s.map (AV.int .u8)],ids,.str h.s)
   | none=>none
  else none
 | _,_=>none
def N8:AV->Bool
 | .own _ _=>true
 | .part _ _ _ _=>true
 | _=>false
theorem zBL {w:World} {I:Nat->Prop} {T:Tbl} {v:Value} {y:AV} (h:Rep w I T v y) (hy:N8 y=true):∃ a n c,v=.slice a n c:=by
 cases h<;>first | exact ⟨_,_,_,rfl⟩ | simp [N8] at hy
theorem zEt {P:Program} {N np:Nat} {o:Oper} {src dst:TypeId} {x:Operand} {rs:List (Nat×AV)} {hn:wF} {B:Nat->y7} {r:List Prop×List Nat×AV}
  (ho:o.op=.convert src dst x) (hx:x5 x=true) (hxs:N8 (xZ rs x)=true)
  (h:UW P src dst (xZ rs x) B hn=some r) (hv:∀ p∈r.1,p) (hd:tY N o.dst=true) :
  qD P N np o { rs:=rs,rb:=r.2.1.map (fun i=>(i,B i)),dst:=o.dst.map fun d=>(d,r.2.2) }:=by
 intro G st a w hN hnp hE ⟨T,hT⟩;have hrx:=uQ hT hE.1 hx;unfold UW at h
 split at h
 case h_2=>cases h
 rename_i e hs hdd
 replace h:=x8 h;obtain ⟨hu,h⟩:=h
 split at h
 case h_2=>cases h
 rename_i vc ids m hsrc
 injection h with h;subst h;simp only at hE hv;have hm:m=hn.s.map (AV.int .u8):=hv _ (by simp);obtain ⟨news,hs'⟩:=E3 hT hrx hsrc (fun i hi=>hE.2 (i,B i) (List.mem_map.2 ⟨i,hi,rfl⟩)) (fun p hp=>hv p (by simp at hp ⊢;exact .inl hp)) (hv _ (by simp));replace hs':Src P w (imm G st T) 1 (a.eval x) m news:=hs';rw [hm] at hs';obtain ⟨aa,n,c,hform⟩:=zBL hrx hxs;obtain ⟨hrun,hrange⟩:=XM hs' ⟨_,_,_,hform⟩;have hlen:=hs'.max;rw [List.length_map] at hlen;rw [hform] at hrun;refine qG (v:=.string (v8 hn.s)) (w':=w) ?_ (hT.quiet (kY w) rfl (by simp [Option.map_map,Function.comp_def]) ?_)
 ·simp only [execOp,ho,hform,Sem.run_bind,run_convert_bytes_string w src dst e _ _ _ hs (OS hu) hdd,hrun,Result.andThen_ok];rfl
 ·intro d av he;obtain ⟨hlt,rfl⟩:=tS hd he;exact ⟨by omega,.str hrange hlen⟩
/-! An array of the call's own as a slice. -/
def UU (P:Program) (t:TypeId) (A:Operand->AV) (x:Operand) (lo hi mx:Option Operand) (B:Nat->y7):Option (List Prop×Nat×AV) :=
 match H6 P t,A x with
 | some (n,e),.ptr id _ i off =>
  bif ((Nat.beq i 0&&Nat.beq off 0)&&uT P e)&&!(nS mx) then
   match B id,jX A lo 0,jX A hi n with
   | .live (.row _ sz l),some a,some b=>bif Nat.beq sz (szT P e) then some ([0<=a,a<=b,b<=n,n<=l.length],id,.part id sz a.toNat b.toNat) else none
   | _,_,_=>none
  else none
 | _,_=>none
theorem zBB {P:Program} {t:TypeId} {n:Nat} {e:TypeId} (h:H6 P t=some (n,e)):P.underlying t=some (.array n e):=by
 unfold H6 at h;split at h<;>simp_all
theorem zGl {P:Program} {N np:Nat} {o:Oper} {t:TypeId} {x:Operand} {lo hi mx:Option Operand} {rs:List (Nat×AV)} {B:Nat->y7} {r:List Prop×Nat×AV}
  (ho:o.op=.slice t x lo hi mx) (hx:x5 x=true) (hlo:lQ lo=true) (hhi:lQ hi=true)
  (h:UU P t (xZ rs) x lo hi mx B=some r) (hv:∀ p∈r.1,p) (hd:tY N o.dst=true) :
  qD P N np o { rs:=rs,rb:=[(r.2.1,B r.2.1)],dst:=o.dst.map fun d=>(d,r.2.2) }:=by
 intro G st a w hN hnp hE ⟨T,hT⟩;have hrx:=uQ hT hE.1 hx;unfold UU at h
 split at h
 case h_2=>cases h
 rename_i n e id s0 i off ha hX
 have hu:=zBB ha;rw [hX] at hrx;replace h:=x8 h;obtain ⟨hc,h⟩:=h;simp only [zba,Bool.not_eq_true'] at hc;obtain ⟨⟨⟨z1,z2⟩,hk⟩,hm⟩:=hc;have z1:=w7.1 z1;have z2:=w7.1 z2;have hmn:mx=none:=by cases mx with | none=>rfl | some _=>simp [nS] at hm
 subst hmn
 split at h
 case h_2=>cases h
 rename_i e' sz l av bv hB hav hbv
 replace h:=x8 h;obtain ⟨hs,h⟩:=h;have hs:=w7.1 hs;injection h with h;subst h;simp only at hE hv;have h0:0<=av:=hv _ (by simp);have h1:av<=bv:=hv _ (by simp);have h2:bv<=n:=hv _ (by simp);have h3:n<=l.length:=hv _ (by simp);have hb:st.box id=.live (.row e' sz l):=(hE.2 (id,B id) (by simp)).trans hB;generalize he:a.eval x=vx at hrx;cases hrx with
 | ptr hTi ho' =>
 rename_i o' b cap
 rcases hT.boxes id _ hb with ⟨hp,_⟩ | ⟨b',cap',C,hp,hh,c1,c2,c3,c4,c5,c6⟩
 ·rw [hp] at hTi;cases hTi
 have hTi0:=hTi;rw [hp] at hTi;injection hTi with hTi;injection hTi with e1 e2;subst e1;subst e2;have hB':=dA (P:=P) (w:=w) (I:=imm G st T) (T:=T) (ρ:=a.eval) (A:=xZ rs) (lo:=lo) (hi:=hi) (mx:=none) (len:=n) (cap:=n) (isS:=false) (a:=av) (b:=bv) (m:=0)
  (fun y hy=>by
   rcases hy with rfl | rfl | h
   ·exact uQ hT hE.1 hlo
   ·exact uQ hT hE.1 hhi
   ·cases h) hav hbv rfl h0 h1 h2 (.inl rfl)
 have ho2:o'=0:=by rw [ho',z1,z2];omega
 subst ho2;have hrun:(execOp a.eval o).run P w=.ok (.value (.slice (some (if n=av.toNat then ⟨b',0,none⟩ else (⟨b',0,none⟩:Addr).add (av.toNat * szT P e))) (bv.toNat - av.toNat) (n - av.toNat))) w:=by
  simp only [execOp,ho,Instr.sliceAt,Sem.run_bind,run_underlying hu,Result.andThen_ok,he,Instr.sureAddr,Sem.run_pure];simp only [Option.map_none,uF] at hB';simp only [Option.map_none,hB',Result.andThen_ok,kW hk]
 refine qG hrun (hT.quiet (kY w) rfl (by simp [Option.map_map,Function.comp_def]) ?_);intro d av' he';obtain ⟨hlt,rfl⟩:=tS hd he';refine ⟨by omega,?_⟩
 by_cases hab:av.toNat=bv.toNat
 ·rw [<- hab,Nat.sub_self];exact .part0 (by have:=jT;omega)
 ·rw [if_neg (by omega),bJ];exact .part hTi0 (by omega) rfl (by omega) (by omega) c3 (by rw [hs];omega)
/-! A nil slice as a row of the call's own. -/
def N3:Operand->Bool
 | .const (.slice none 0 0)=>true
 | _=>false
theorem U5 {P:Program} {N np:Nat} {o:Oper} {x:Operand} {rs:List (Nat×AV)} {hn:wF} {e:TypeId} {sz:Nat}
  (ho:o.op=.assign x\/o.op=.move x) (hx:N3 x=true) (hd:tY N o.dst=true) :
  qD P N np o { rs:=rs,rb:=[(hn.id,.unused)],dst:=o.dst.map fun d=>(d,.own hn.id 0),wb:=[(hn.id,.live (.row e sz []))] }:=by
 intro G st a w hN hnp hE ⟨T,hT⟩;have hxv:a.eval x=.slice none 0 0:=by
  unfold N3 at hx
  split at hx
  ·rfl
  ·cases hx
 have hu:st.box hn.id=.unused:=hE.2 (hn.id,.unused) (by simp);refine qG (v:=.slice none 0 0) (w':=w) ?_ ?_
 ·rcases ho with ho | ho<;>simp [execOp,ho,hxv]
 ·refine hT.new (p:=.nil) (kY w) rfl hu (by simp [Option.map_map,Function.comp_def]) (fun b c hp=>by cases hp) (.inl ⟨rfl,rfl⟩) ?_;intro d av he;obtain ⟨hlt,rfl⟩:=tS hd he;exact ⟨by omega,.ownNil (Tbl.put_same _ _ _)⟩
/-! 'make' of a slice. -/
def C0 (P:Program) (e:TypeId):Option AV :=
 match DC P e with
 | some cs=>bif (Nat.beq cs.length (szT P e)&&AV.pures cs)&&dQ P e then some (bif uH P e then .agg cs else cs.headD .junk) else none
 | none=>none
theorem zAP {P:Program} {e:TypeId} {av:AV} (h:C0 P e=some av) :
  ∃ cs,DC P e=some cs/\av.cells=cs/\cs.length=szT P e/\AV.pures cs=true:=by
 unfold C0 at h
 split at h
 ·rename_i cs hz
  replace h:=x8 h;obtain ⟨hc,h⟩:=h;simp only [zba] at hc;have hl:=w7.1 hc.1.1;injection h with h;subst h;refine ⟨cs,hz,?_,hl,hc.1.2⟩;cases ha:uH P e
  ·have h1:=OG hc.2 ha;simp only [cond_false];rw [h1] at hl
   match cs,hl with
   | [c],_ =>
    obtain ⟨z,_,hcr,_⟩:=gP (w:=default) (I:=fun _=>True) (T:=Tbl.empty) hz
    have:=hcr.one c (by simp)
    cases c<;>simp_all [AV.one,AV.cells]
  ·rfl
 ·cases h
theorem VS {P:Program} {e:TypeId} {z:Value} {cs:List AV} {av:AV} {w:World} {I:Nat->Prop} {n m:Nat} (hc:oY w I Tbl.empty z.cells cs) (hcl:cs.length=szT P e) (hav:av.cells=cs) (hnm:n<=m) :
  (∀ x∈List.replicate n av,x.cells.length=szT P e)/\(∀ x∈List.replicate n av,∀ c∈x.cells,c.one=true) /\
  ∀ i x j c,(List.replicate n av)[i]?=some x->x.cells[j]?=some c->Rep w I Tbl.empty (((Array.range (m * szT P e)).map (fun i=>z.cells[i % z.cells.size]!)).getD (i * szT P e+j) undef) c:=by
 refine ⟨fun x hx=>?_,fun x hx c hcx=>?_,fun i x j c hi hj=>?_⟩
 ·rw [(List.mem_replicate.1 hx).2,hav,hcl]
 ·rw [(List.mem_replicate.1 hx).2,hav] at hcx;exact hc.one c hcx
 ·have hil:i<n:=by
   rcases zlg i n with h' | h'
   ·exact h'
   ·rw [List.getElem?_eq_none (by simpa using h')] at hi;cases hi
  rw [List.getElem?_replicate,if_pos hil] at hi;injection hi with hi;subst hi;rw [hav] at hj;have hjl:j<szT P e:=by
   rw [<- hcl];rcases zlg j cs.length with h' | h'
   ·exact h'
   ·rw [List.getElem?_eq_none h'] at hj;cases hj
  have hr:=hc.rep j c hj;have hlt:i * szT P e+j<m * szT P e:=by
   have:=Nat.mul_le_mul_right (szT P e) (show i+1<=m by omega)
   rw [Nat.add_mul] at this;omega
  have hmod:(i * szT P e+j) % z.cells.size=j:=by
   rw [hc.size,hcl,Nat.mul_comm,Nat.mul_add_mod,Nat.mod_eq_of_lt hjl]
  have hjz:j<z.cells.size:=by rw [hc.size,hcl];exact hjl
  have:((Array.range (m * szT P e)).map (fun i=>z.cells[i % z.cells.size]!)).getD (i * szT P e+j) undef=z.cells.getD j undef:=by
   simp [Array.getD_eq_getD_getElem?,hlt,hmod,hjz]
  rw [this];exact hr
def T6 (P:Program) (t:TypeId) (l c:AV) (h:wF):Option (List Prop×Box×AV) :=
 match cA P t,l,c with
 | some e,.int _ n,.int _ m =>
  match C0 P e with
  | some av=>some ([n=h.n,m=h.m,h.n<=h.m,h.m * kG P e<=281474976710656,h.l=List.replicate h.n av],.row e (szT P e) h.l,.own h.id h.n)
  | none=>none
 | _,_,_=>none
theorem zHI {P:Program} {N np:Nat} {o:Oper} {t:TypeId} {x y:Operand} {rs:List (Nat×AV)} {hn:wF} {r:List Prop×Box×AV}
  (ho:o.op=.makeSlice t x y) (hx:x5 x=true) (hy:x5 y=true)
  (h:T6 P t (xZ rs x) (xZ rs y) hn=some r) (hv:∀ p∈r.1,p) (hd:tY N o.dst=true) :
  qD P N np o { rs:=rs,rb:=[(hn.id,.unused)],dst:=o.dst.map fun d=>(d,r.2.2),wb:=[(hn.id,.live r.2.1)] }:=by
 intro G st a w hN hnp hE ⟨T,hT⟩;have hrx:=uQ hT hE.1 hx;have hry:=uQ hT hE.1 hy;unfold T6 at h
 split at h
 case h_2=>cases h
 rename_i e k n k' m hrow hX hY
 obtain ⟨i,z,ht⟩:=gL hrow
 split at h
 case h_2=>cases h
 rename_i av hz
 injection h with h;subst h;simp only at hE hv;have e1:n=hn.n:=hv _ (by simp);have e2:m=hn.m:=hv _ (by simp);have e3:hn.n<=hn.m:=hv _ (by simp);have e4:hn.m * kG P e<=281474976710656:=hv _ (by simp);have e5:hn.l=List.replicate hn.n av:=hv _ (by simp);rw [hX] at hrx;rw [hY] at hry;generalize hvx:a.eval x=vx at hrx;generalize hvy:a.eval y=vy at hry;cases hrx with
 | int wn =>
 cases hry with
 | int wm =>
 obtain ⟨cs,hz0,hcells,hcl,hpure⟩:=zAP hz;have hm1:=Nat.le_mul_of_pos_right hn.m ht.bpos;have hu:st.box hn.id=.unused:=hE.2 (hn.id,.unused) (by simp);have hbm:(i.bytes:Int) * m<=281474976710656:=by
  rw [e2,ht.bytes,Int.mul_comm];rw [<- Int.natCast_mul];omega
 have hrun:=run_make (P:=P) w t e i z ht.und ht.info ht.zero k k' n m (by omega) (by omega) hbm (by omega);have n1:n.toNat=hn.n:=by omega
 have n2:m.toNat=hn.m:=by omega
 rw [n1,n2,ht.size] at hrun;refine qG (v:=.slice (some ⟨w.heap.size,0,none⟩) hn.n hn.m) (w':=w.alloc (.cells (madeCells z.cells (hn.m * szT P e)) e)) ?_ ?_
 ·unfold execOp;rw [ho];simp only [];rw [hvx,hvy];rw [Sem.run_bind,hrun];rfl
 ·refine hT.new (p:=.at w.heap.size hn.m) (JZ _ _) rfl hu (by simp [Option.map_map,Function.comp_def]) (fun b c hp=>by injection hp with hp;omega) ?_ ?_
  ·obtain ⟨z',hz1,hc',_⟩:=gP (w:=w.alloc (.cells (madeCells z.cells (hn.m * szT P e)) e)) (I:=imm G (st.upd { rs:=rs,rb:=[(hn.id,.unused)],dst:=o.dst.map fun d=>(d,.own hn.id hn.n),wb:=[(hn.id,.live (.row e (szT P e) hn.l))] }) (T.put hn.id (.at w.heap.size hn.m))) (T:=Tbl.empty) hz0;have hzz:z'=z:=by
    have h1:=hz1;simp only [fN,ht.info,ht.zero] at h1;injection h1 with h1;exact h1.symm
   subst hzz;obtain ⟨f1,f2,f3⟩:=VS hc' hcl hcells e3;rw [<- e5] at f1 f2 f3;refine .inr ⟨_,_,_,rfl,heap_alloc_new w _,by simp [madeCells],by rw [e5];simpa using e3,by rw [jT];omega,f1,f2,?_⟩;intro i' x' j c hi hj;exact f3 i' x' j c hi hj
  ·intro d av he;obtain ⟨hlt,rfl⟩:=tS hd he;exact ⟨by omega,.own (Tbl.put_same _ _ _) e3 (by rw [jT];omega)⟩
end Go.Ab
