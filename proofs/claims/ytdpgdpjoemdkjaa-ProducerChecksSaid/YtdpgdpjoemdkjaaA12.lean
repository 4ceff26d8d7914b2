/- Rows of the call's own: made, appended to, copied into, read as a string; an array seen as a slice. -/
import Derived.Test.YtdpgdpjoemdkjaaA11
namespace Go.Ab
open Go
def zHQ (P:Program) (sz:Nat) (y:AV) (B:Nat→yI):Option (List Prop×List Nat×List AV) :=
 match y with
 | .own id _ =>
  match B id with
  | .live (.row _ sz' l)=>bif Nat.beq sz' sz then some ([],[id],l) else none
  | _=>none
 | .part id sz' lo hi =>
  match B id with
  | .live (.row _ sz'' l)=>bif Nat.beq sz' sz&&Nat.beq sz'' sz then some ([hi≤l.length],[id],(l.take hi).drop lo) else none
  | _=>none
 | y=>match zLc P sz y with
  | some m=>some ([],[],m)
  | none=>none
theorem zJt {P:Program} {w:World} {I:Nat→Prop} {b cap:Nat} {C:Array Value} {e:TypeId} {sz:Nat} {l m:List AV} {x:Value} {lo n c:Nat}
  (hh:w.heap[b]?=some (.cells C e (0,0))) (hcs:C.size=cap * sz) (hl:l.length≤cap) (hcm:cap≤maxLen) (h4:∀ av∈l,av.cells.length=sz) (h5:∀ av∈l,∀ c∈av.cells,c.one=true)
  (h6:∀ i av j c,l[i]?=some av→av.cells[j]?=some c→Rep w I Tbl.empty (C.getD (i * sz+j) undef) c)
  (hx:x=.slice (some ⟨b,lo * sz,none⟩) n c) (hm:m=(l.take (lo+n)).drop lo) (hn:lo+n≤l.length):∃ news,Src P w I sz x m news:=by
 have hb:b<w.heap.size:=by
  rcases Nat.lt_or_ge b w.heap.size with h' | h'
  ·exact h'
  ·rw [Array.getElem?_eq_none h'] at hh;cases hh
 have hml:m.length=n:=by rw [hm];simp;omega
 have hmem:∀ av∈m,av∈l:=fun av hav=>by rw [hm] at hav;exact List.mem_of_mem_take (List.mem_of_mem_drop hav)
 have hget:∀ i av,m[i]?=some av→l[lo+i]?=some av:=by
  intro i av hi
  rw [hm,List.getElem?_drop,List.getElem?_take] at hi
  split at hi
  ·exact hi
  ·cases hi
 have hwid:∀ av∈m,av.cells.length=sz:=fun av hav=>h4 av (hmem av hav)
 refine ⟨(List.range (n * sz)).map fun k=>C.getD (lo * sz+k) undef,by simp [hml],hwid,fun av hav=>h5 av (hmem av hav),?_,?_,by rw [hml];omega,?_⟩
 ·intro k c hk
  obtain ⟨i,j,av,he,g1,g2⟩:=zEK hwid hk
  have hlt:k<n * sz:=by
   rw [← hml,← t4 hwid]
   rcases Nat.lt_or_ge k (wQ m).length with h' | h'
   ·exact h'
   ·rw [List.getElem?_eq_none h'] at hk;cases hk
  rw [zH8 hlt]
  have:=h6 (lo+i) av j c (hget i av g1) g2
  rw [he,← Nat.add_assoc,← Nat.add_mul]
  exact this
 ·intro w2
  simp [hx,Builtin.lenOf,hml]
 ·intro q w2 hq hw
  simp only [hx,Builtin.firstCells]
  have hle:q * sz≤n * sz:=Nat.mul_le_mul_right _ (by omega)
  have hsz:lo * sz+n * sz≤C.size:=by
   rw [hcs,← Nat.add_mul];exact Nat.mul_le_mul_right _ (by omega)
  rw [run_loadCells (P:=P) w2 ⟨b,lo * sz,none⟩ (q * sz) (fun k=>C.getD (lo * sz+k) undef)]
  ·congr 2
   rw [← List.map_take,List.take_range,Nat.min_eq_left hle]
  ·intro j hj
   rw [zAS]
   have hlt:lo * sz+j<C.size:=by omega
   rw [zFg (hw b hb)]
   simp [World.cell?,hh,hlt,Array.getD_eq_getD_getElem?]
theorem zMI {P:Program} {w:World} {I:Nat→Prop} {a:Option Addr} {c:Nat} (sz:Nat):Src P w I sz (.slice a 0 c) [] []:=by
 refine ⟨by simp,by simp,by simp,fun k c hk=>by simp [wQ] at hk,fun w2=>by simp [Builtin.lenOf],by simp,fun n w2 hn _=>?_⟩
 have:n=0:=by simpa using hn
 subst this
 cases a with
 | none=>simp [Builtin.firstCells]
 | some a=>simp [Builtin.firstCells,loadCells,loadCellsFrom]
def zDR (y:AV) (m:List AV):Prop:=match y with | .own _ n=>n=m.length | .part _ _ lo hi=>lo≤hi | _=>True
theorem zD6 {P:Program} {G:v6} {st:AS} {T:Tbl} {a:Act} {w:World} {v:Value} {sz:Nat} {y:AV} {B:Nat→yI} {r:List Prop×List Nat×List AV}
  (hT:jN G st T a w) (hy:Rep w (imm G st T) T v y) (h:zHQ P sz y B=some r) (hB:∀ id∈r.2.1,st.box id=B id) (hv:∀ p∈r.1,p) (hlen:zDR y r.2.2) :
  ∃ news,Src P w (imm G st T) sz v r.2.2 news:=by
 unfold zHQ at h
 split at h
 ·rename_i id n
  split at h
  ·rename_i e sz' l hl
   replace h:=yG h;obtain ⟨hs,h⟩:=h
   have hs:=x6.1 hs
   subst hs
   injection h with h;subst h
   have hb:st.box id=.live (.row e sz' l):=(hB id (by simp)).trans hl
   have hn:n=l.length:=hlen
   rcases hT.boxes id _ hb with ⟨hp,hnil⟩ | ⟨b',cap',C,hp,hh,h1,h2,h3,h4,h5,h6⟩
   ·subst hnil
    cases hy with
    | ownNil=>exact ⟨[],zMI _⟩
    | own hTi=>rw [hp] at hTi;cases hTi
   ·cases hy with
    | ownNil hTi=>rw [hp] at hTi;cases hTi
    | own hTi c1 c2 =>
     rename_i b cap
     rw [hp] at hTi;injection hTi with hTi;injection hTi with e1 e2;subst e1;subst e2
     exact zJt (lo:=0) (n:=n) (c:=cap') hh h1 h2 h3 h4 h5 h6 (by simp) (by simp [hn]) (by omega)
  ·cases h
 ·rename_i id sz' lo hi
  split at h
  ·rename_i e sz'' l hl
   replace h:=yG h;obtain ⟨hs,h⟩:=h
   simp only [Bool.and_eq_true] at hs
   have hs1:=x6.1 hs.1
   have hs2:=x6.1 hs.2
   subst hs1
   subst hs2
   injection h with h;subst h
   have hb:st.box id=.live (.row e sz'' l):=(hB id (by simp)).trans hl
   have hhi:hi≤l.length:=hv _ (by simp)
   have hlo:lo≤hi:=hlen
   cases hy with
   | part0 hc=>simp only [List.drop_take_self];exact ⟨[],zMI _⟩
   | part hTi p1 p2 p3 p4 p5 p6 =>
    rename_i o n c b cap
    rcases hT.boxes id _ hb with ⟨hp,hnil⟩ | ⟨b',cap',C,hp,hh,h1,h2,h3,h4,h5,h6⟩
    ·rw [hp] at hTi;cases hTi
    ·rw [hp] at hTi;injection hTi with hTi;injection hTi with e1 e2;subst e1;subst e2
     exact zJt (lo:=lo) (n:=n) hh h1 h2 h3 h4 h5 h6 (by rw [p6]) (by rw [p2];simp only [];rw [show lo+(hi - lo)=hi by omega]) (by omega)
  ·cases h
 ·rename_i y' hn1 hn2
  split at h
  ·rename_i m hm
   injection h with h;subst h
   exact zIJ hy hm
  ·cases h
/-! Append to a row of the call's own. -/
theorem zHR {P:Program} {t t2 e tt:TypeId} {i:TypeInfo} {z:Value} {w:World} {ty:TypeId} (ht:zGw P t e i z) (h2:zBi P t2=true)
  {b sLen sCap n:Nat} {C:Array Value} {x:Value} {news:List Value} (hlen:(Builtin.lenOf x).run P w=.ok n w)
  (hfx:(Builtin.firstCells (szT P e) n x).run P w=.ok news.toArray w) (hle:sLen+n≤sCap) (hh:w.heap[b]?=some (.cells C tt (0,0)))
  (hfit:sLen * szT P e+news.length≤C.size) (h1:∀ u∈news,u.oneCell'=true) :
  (Builtin.append_ #[t,t2] ty #[.slice (some ⟨b,0,none⟩) sLen sCap,x]).run P w =
   .ok (.slice (some ⟨b,0,none⟩) (sLen+n) sCap) (w.setRow b (C.toList.take (sLen * szT P e)++news++C.toList.drop (sLen * szT P e+news.length)).toArray):=by
 obtain ⟨d,hd,hnd⟩:=zGW h2
 have hst:=run_storeCells_at P b (sLen * szT P e) tt news 0 C w hh (by simpa using hfit) h1
 simp only [Nat.add_zero] at hst
 simp only [Builtin.append_,List.getElem?_toArray,List.getElem?_cons_zero,List.getElem?_cons_succ,Sem.run_bind,run_underlying ht.und,run_underlying hd,Result.andThen_ok,sizeOf,typeInfo,run_program,
  ht.info,Sem.run_pure]
 simp [hlen,hle,ht.size,hfx,zAS,hst]
def zJB (P:Program) (t t2:TypeId) (x y:AV) (B:Nat→yI) (h:xX):Option (List Prop×List Nat×Nat×Box×AV) :=
 match x,zEy P t with
 | .own id n,some e =>
  match B id with
  | .live (.row e' sz l) =>
   bif (Nat.beq e e'&&Nat.beq sz (szT P e))&&zBi P t2 then
    match zHQ P sz y B with
    | some (vc,ids,m) =>
     bif (ids.all fun i=>!(Nat.beq i id))&&!(Nat.beq h.id id) then
      some (vc++[n=l.length,zDR y m,h.l=l++m,h.n=h.l.length,(l.length+m.length) * qE P e≤140737488355328],ids,id,.row e sz h.l,.own h.id h.n)
     else none
    | none=>none
   else none
  | _=>none
 | _,_=>none
theorem zJO {P:Program} {N np:Nat} {o:Oper} {t t2:TypeId} {x y:Operand} {rs:List (Nat×AV)} {hn:xX} {B:Nat→yI} {r:List Prop×List Nat×Nat×Box×AV}
  (ho:o.op=.call { callee:=.builtin .append,args:=#[x,y],argTypes:=#[t,t2] }) (hx:y9 x=true) (hy:y9 y=true)
  (h:zJB P t t2 (yW rs x) (nz (yW rs y)) B hn=some r) (hv:∀ p∈r.1,p) (hd:uN N o.dst=true) (hid:np≤r.2.2.1) :
  vD P N np o { rs:=rs,rb:=(hn.id,.unused)::(r.2.2.1,B r.2.2.1)::r.2.1.map (fun i=>(i,B i)),dst:=o.dst.map fun d=>(d,r.2.2.2.2),wb:=[(hn.id,.live r.2.2.2.1),(r.2.2.1,.dead)] }:=by
 intro G st a w hN hnp hE ⟨T,hT⟩
 have hrx:=xD hT hE.1 hx
 have hry:=pQ (xD hT hE.1 hy)
 unfold zJB at h
 split at h
 case h_2=>cases h
 rename_i id n e hX hrow
 rw [hX] at hrx
 obtain ⟨i,z,ht⟩:=zAq hrow
 split at h
 case h_2=>cases h
 rename_i e' sz l hB
 replace h:=yG h;obtain ⟨hc,h⟩:=h
 simp only [Bool.and_eq_true] at hc
 obtain ⟨⟨he,hsz⟩,h2⟩:=hc
 have he:=x6.1 he
 have hsz:=x6.1 hsz
 subst he
 subst hsz
 split at h
 case h_2=>cases h
 rename_i vc ids m hsrc
 replace h:=yG h;obtain ⟨hids,h⟩:=h
 injection h with h;subst h
 simp only at hE hv hid
 have hnl:n=l.length:=hv _ (by simp)
 have hol:zDR (nz (yW rs y)) m:=hv _ (by simp)
 have hL:hn.l=l++m:=hv _ (by simp)
 have hN':hn.n=hn.l.length:=hv _ (by simp)
 have hby:(l.length+m.length) * qE P e≤140737488355328:=hv _ (by simp)
 have hmax:l.length+m.length≤maxLen:=by
  have:=Nat.le_mul_of_pos_right (l.length+m.length) ht.bpos
  rw [w7];omega
 have hu:st.box hn.id=.unused:=hE.2 (hn.id,.unused) (by simp)
 have hb:st.box id=.live (.row e (szT P e) l):=(hE.2 (id,B id) (by simp)).trans hB
 obtain ⟨news,hs⟩:=zD6 hT hry hsrc (fun i hi=>hE.2 (i,B i) (List.mem_cons_of_mem _ (List.mem_cons_of_mem _ (List.mem_map.2 ⟨i,hi,rfl⟩)))) (fun p hp=>hv p (by simp at hp ⊢;exact .inl hp)) hol
 replace hs:Src P w (imm G st T) (szT P e) (a.eval y) m news:=hs
 have hnewsone:∀ u∈news,u.oneCell'=true:=by
  intro u hu'
  obtain ⟨k,hk⟩:=List.mem_iff_getElem?.1 hu'
  have hkl:k<news.length:=by
   rcases Nat.lt_or_ge k news.length with h' | h'
   ·exact h'
   ·rw [List.getElem?_eq_none h'] at hk;cases hk
  have hkf:k<(wQ m).length:=by rw [t4 hs.wid,← hs.len];exact hkl
  have:=hs.rep k _ (List.getElem?_eq_getElem hkf)
  rw [List.getD_eq_getElem?_getD,hk] at this
  exact this.oneCell (zFM hs.one _ (List.getElem_mem hkf))
 have hrun:∀ (v:Value) (w':World),(Builtin.append_ #[t,t2] o.type #[a.eval x,a.eval y]).run P w=.ok v w'→(execOp a.eval o).run P w=.ok (.value v) w':=fun v w' hv=>by
  simp [execOp,ho,resolve,invoke,builtin,hv]
 have hokl:=hT.boxes id _ hb
 have wid_l:∀ av∈l,av.cells.length=szT P e:=by
  rcases hokl with ⟨_,hnil⟩ | ⟨b',cap',C,hp,hh,h1,h2',h3,h4,h5,h6⟩
  ·subst hnil;simp
  ·exact h4
 have one_l:∀ av∈l,∀ c∈av.cells,c.one=true:=by
  rcases hokl with ⟨_,hnil⟩ | ⟨b',cap',C,hp,hh,h1,h2',h3,h4,h5,h6⟩
  ·subst hnil;simp
  ·exact h5
 have hw:∀ av∈hn.l,av.cells.length=szT P e:=by
  intro av hav;rw [hL] at hav
  rcases List.mem_append.1 hav with h | h
  ·exact wid_l av h
  ·exact hs.wid av h
 have h1w:∀ av∈hn.l,∀ c∈av.cells,c.one=true:=by
  intro av hav;rw [hL] at hav
  rcases List.mem_append.1 hav with h | h
  ·exact one_l av h
  ·exact hs.one av h
 have hLlen:hn.l.length=l.length+m.length:=by rw [hL];simp
 have hfl:=t4 wid_l
 have hfm:=t4 hs.wid
 -- what a new row says
 have rowAt:∀ {w':World} {I:Nat→Prop} {C:Array Value} {olds:List Value},w.heap.size≤w'.heap.size→(∀ b,imm G st T b→b<w.heap.size→w'.heap[b]?=w.heap[b]?) →
   (∀ b,imm G st T b→b<w.heap.size→I b)→olds.length=l.length * szT P e→(∀ k c,(wQ l)[k]?=some c→Rep w (imm G st T) Tbl.empty (olds.getD k undef) c) →
   (∀ k,k<(olds++news).length→C.getD k undef=(olds++news).getD k undef) →
   ∀ i av j c,hn.l[i]?=some av→av.cells[j]?=some c→Rep w' I Tbl.empty (C.getD (i * szT P e+j) undef) c:=by
  intro w' I C olds hs' hc hI ho1 ho2 hC i av j c hi hj
  have hk:=nO hw hi hj
  generalize i * szT P e+j=k at hk
  have hln:=hs.len
  have hkl:k<(wQ hn.l).length:=by
   rcases Nat.lt_or_ge k (wQ hn.l).length with h' | h'
   ·exact h'
   ·rw [List.getElem?_eq_none h'] at hk;cases hk
  rw [hL,zFp] at hk hkl
  rw [List.length_append,hfl,hfm] at hkl
  rw [hC k (by simp only [List.length_append];omega)]
  have hmono:∀ {v av},Rep w (imm G st T) Tbl.empty v av→Rep w' I Tbl.empty v av:=fun h=>h.mono hs' hc hI (fun _ _ h=>h)
  rcases Nat.lt_or_ge k (wQ l).length with hlt | hge'
  ·rw [List.getElem?_append_left hlt] at hk
   rw [List.getD_eq_getElem?_getD,List.getElem?_append_left (by omega),← List.getD_eq_getElem?_getD]
   exact hmono (ho2 k c hk)
  ·rw [List.getElem?_append_right hge'] at hk
   have:=hs.rep _ c hk
   rw [List.getD_eq_getElem?_getD,List.getElem?_append_right (by omega),← List.getD_eq_getElem?_getD]
   rw [hfl,← ho1] at this
   exact hmono this
 -- a new block is made
 have grow:∀ {base:Option Addr} {cap:Nat} {olds:List Value} {row:Option Nat},a.eval x=.slice base l.length cap→cap<l.length+m.length→olds.length=l.length * szT P e →
   (∀ k c,(wQ l)[k]?=some c→Rep w (imm G st T) Tbl.empty (olds.getD k undef) c) →
   (∀ w2:World,w2.heap=w.heap→(Builtin.firstCells (szT P e) l.length (.slice base l.length cap)).run P w2=.ok olds.toArray w2) →
   row=none →
   o.wp P a w (fun a' w'=>Rel G (st.upd { rs:=rs,rb:=(hn.id,.unused)::(id,B id)::ids.map (fun i=>(i,B i)),dst:=o.dst.map fun d=>(d,.own hn.id hn.n),wb:=[(hn.id,.live (.row e (szT P e) hn.l)),(id,.dead)] }) a' w') (fun _ _ _=>False):=by
  intro base cap olds row hX' hlt ho1 ho2 hfo _
  have hnew:=zDB (P:=P) (w:=w) (ty:=o.type) ht h2 (base:=base) (sLen:=l.length) (sCap:=cap) (n:=m.length) (x:=a.eval y) (olds:=olds) (news:=news)
   (hs.lenOf w) (fun w2 hw=>by have:=hs.cells m.length w2 (Nat.le_refl _) (fun b _=>by rw [hw]);rwa [List.take_of_length_le (by rw [hs.len];exact Nat.le_refl _)] at this) hfo hlt hmax hby
  have hge:=grownCap_ge w (l.length+m.length) cap e
  have hcm:=grownCap_le_maxLen w (l.length+m.length) cap e hmax
  have hex:=hrun _ _ (by rw [hX'];exact hnew)
  refine wR hex ?_
  refine hT.move (p:=.at w.heap.size (grownCap w (l.length+m.length) cap e)) (row:=none) hb hu (by omega) (fun g hg=>by cases hg) ⟨rfl,rfl,rfl,by simp,fun k hk _=>heap_alloc_old w.drew _ k hk⟩ rfl
   (by simp [Option.map_map,Function.comp_def]) (fun b c hp=>by injection hp with hp;exact .inl (by omega)) ?_ ?_
  ·intro I T' hI _
   have hz:(Builtin.zeroCells z.cells (grownCap w (l.length+m.length) cap e - (l.length+m.length))).size=(grownCap w (l.length+m.length) cap e - (l.length+m.length)) * szT P e:=by
    rw [size_zeroCells,ht.zsize]
   refine .inr ⟨_,_,_,rfl,heap_alloc_new w.drew _,?_,by omega,hcm,hw,h1w,?_⟩
   ·simp only [Array.size_append,List.size_toArray,ho1,hs.len,hz,← Nat.add_mul]
    congr 1
    omega
   ·refine rowAt (olds:=olds) (by simp) (fun b _ hlt=>heap_alloc_old w.drew _ b hlt) hI ho1 ho2 ?_
    intro k hk
    exact zHN hk
  ·intro d av he
   obtain ⟨hlt',rfl⟩:=vN hd he
   refine ⟨by omega,fun I T' hT'=>?_⟩
   rw [hN',hLlen]
   exact .own hT' hge hcm
 rcases hokl with ⟨hp,hnil⟩ | ⟨b',cap',C,hp,hh,h1,h2',h3,h4,h5,h6⟩
 · -- nothing was there
  generalize hXv:a.eval x=vx at hrx
  cases hrx with
  | own hTi=>rw [hp] at hTi;cases hTi
  | ownNil hTi =>
   rename_i a0
   by_cases hm:m.length=0
   ·have hm0:m=[]:=List.eq_nil_of_length_eq_zero hm
    have h0:=hs.cells 0 w (Nat.zero_le _) (fun _ _=>rfl)
    simp only [Nat.zero_mul,List.take_zero] at h0
    have hlen0:=hs.lenOf w
    rw [hm] at hlen0
    refine wR (hrun _ _ (by rw [hXv];exact zCt ht h2 hlen0 h0 (Nat.le_refl _))) ?_
    refine hT.move (p:=.nil) (row:=none) hb hu (by omega) (fun g hg=>by cases hg) (vY w) rfl (by simp [Option.map_map,Function.comp_def]) (fun b c hp=>by cases hp) ?_ ?_
    ·intro I T' _ _
     exact .inl ⟨rfl,by rw [hL,hnil,hm0];rfl⟩
    ·intro d av he
     obtain ⟨hlt',rfl⟩:=vN hd he
     refine ⟨by omega,fun I T' hT'=>?_⟩
     have:hn.n=0:=by rw [hN',hLlen,hm,hnil];rfl
     rw [this]
     exact .ownNil hT'
   ·refine grow (base:=a0) (cap:=0) (olds:=[]) (row:=none) (by rw [hXv,hnil];rfl) (by omega) (by rw [hnil];simp) (fun k c hk=>by rw [hnil] at hk;simp [wQ] at hk) (fun w2 _=>?_) rfl
    rw [hnil];cases a0<;>simp [Builtin.firstCells,loadCells,loadCellsFrom]
 ·generalize hXv:a.eval x=vx at hrx
  cases hrx with
  | ownNil hTi=>rw [hp] at hTi;cases hTi
  | own hTi c1 c2 =>
   rename_i b cap
   have hTi0:=hTi
   rw [hp] at hTi;injection hTi with hTi;injection hTi with e1 e2;subst e1;subst e2
   obtain ⟨olds,hso⟩:=zJt (P:=P) (lo:=0) (n:=n) (c:=cap') (m:=l) (x:=.slice (some ⟨b',0,none⟩) n cap') hh h1 h2' h3 h4 h5 h6 (by simp) (by simp [hnl]) (by omega)
   have hfo:∀ w2:World,w2.heap=w.heap→(Builtin.firstCells (szT P e) l.length (.slice (some ⟨b',0,none⟩) n cap')).run P w2=.ok olds.toArray w2:=fun w2 hw=>by
    have:=hso.cells l.length w2 (Nat.le_refl _) (fun b _=>by rw [hw]);rwa [List.take_of_length_le (by rw [hso.len];exact Nat.le_refl _)] at this
   by_cases hroom:l.length+m.length≤cap'
   ·have hfx:=hs.cells m.length w (Nat.le_refl _) (fun _ _=>rfl)
    rw [List.take_of_length_le (by rw [hs.len];exact Nat.le_refl _)] at hfx
    have hfit:n * szT P e+news.length≤C.size:=by
     rw [hs.len,h1,hnl,← Nat.add_mul];exact Nat.mul_le_mul_right _ hroom
    have hr:=zHR (P:=P) (w:=w) (ty:=o.type) ht h2 (b:=b') (sLen:=n) (sCap:=cap') (hs.lenOf w) hfx (by omega) hh hfit hnewsone
    refine wR (hrun _ _ (by rw [hXv];exact hr)) ?_
    refine hT.move (p:=.at b' cap') (row:=some b') hb hu (by omega) (fun g hg=>by injection hg with hg;subst hg;exact ⟨cap',hTi0⟩) zCO rfl
     (by simp [Option.map_map,Function.comp_def]) (fun b c hp=>by injection hp with hp1 hp2;subst hp1;exact .inr ⟨cap',hTi0⟩) ?_ ?_
    ·intro I T' hI _
     have hne:∀ b,imm G st T b→b≠b':=fun b hb' e=>by subst e;exact hb'.2 id _ cap' hb hTi0
     refine .inr ⟨b',cap',_,rfl,setRow_heap w b' C _ e _ hh,by simp;omega,by omega,h3,hw,h1w,?_⟩
     refine rowAt (olds:=olds) (by simp) (fun b hb' _=>setRow_other w b' b _ (hne b hb')) hI hso.len hso.rep ?_
     intro k hk
     simp only [List.length_append] at hk
     rw [zDE hfit]
     have hol:=hso.len
     by_cases k1:k<olds.length
     ·rw [if_neg (by rw [hnl];omega),List.getD_eq_getElem?_getD,List.getElem?_append_left k1,← List.getD_eq_getElem?_getD]
      -- the old cells as the source read them
      have hk2:k<l.length * szT P e:=by omega
      have hcc:=hso.cells l.length w (Nat.le_refl _) (fun _ _=>rfl)
      rw [List.take_of_length_le (by rw [hso.len];exact Nat.le_refl _)] at hcc
      simp only [Builtin.firstCells] at hcc
      rw [run_loadCells (P:=P) w ⟨b',0,none⟩ (l.length * szT P e) (fun k=>C.getD k undef)] at hcc
      ·injection hcc with hcc
       have hcc:=congrArg Array.toList hcc
       simp only at hcc
       rw [← hcc,zH8 hk2]
      ·intro j hj
       have:j<C.size:=by
        have:=Nat.mul_le_mul_right (szT P e) h2'
        omega
       rw [zAS]
       simp [World.cell?,hh,this,Array.getD_eq_getD_getElem?]
     ·rw [if_pos (by rw [hnl];omega),List.getD_eq_getElem?_getD (l:=olds++news),List.getElem?_append_right (by omega),← List.getD_eq_getElem?_getD,hol,hnl]
    ·intro d av he
     obtain ⟨hlt',rfl⟩:=vN hd he
     refine ⟨by omega,fun I T' hT'=>?_⟩
     rw [hN',hLlen,hnl]
     exact .own hT' hroom h3
   ·refine grow (base:=some ⟨b',0,none⟩) (cap:=cap') (olds:=olds) (row:=none) (by rw [hXv,hnl]) (by omega) hso.len hso.rep (fun w2 hw=>?_) rfl
    rw [← hnl] at *
    exact hfo w2 hw
end Go.Ab
