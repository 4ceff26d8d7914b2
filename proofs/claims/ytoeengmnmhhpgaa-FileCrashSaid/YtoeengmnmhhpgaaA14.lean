/- A layer over the model: abstract values and states, and the rules by which the printed proofs go. No conditions. -/
import Derived.Test.YtoeengmnmhhpgaaA12
/- A slice made of its parts; 'copy' into a row of the call's own. -/
namespace Go.Ab
open Go
def M7 (P:Program) (t:TypeId) (len:Nat) (A:Operand→AV) (parts:List (Nat×Operand)) (h:xN):Option (Box×AV) :=
 match aZ P t with
 | some e =>
  match r6 P e with
  | some av =>
   bif Nat.ble (len * szT P e) 16777216&&Nat.ble len 9223372036854775807 then
    match cM (fun i=>some (i * szT P e,szT P e)) (wM (List.replicate len av)) (parts.map fun p=>(p.1,A p.2)) with
    | some cs=>bif AV.pures cs then some (.row e (szT P e) (nO (vD P e) (szT P e) len cs),.own h.id len) else none
    | none=>none
   else none
  | none=>none
 | none=>none
theorem zBM {place:Nat→Option (Nat×Nat)} (parts:List (Nat×AV)):∀ cs cs',cM place cs parts=some cs'→cs'.length=cs.length:=by
 induction parts with
 | nil=>intro cs cs' h;simp [cM] at h;rw [h]
 | cons p r ih =>
  intro cs cs' h
  obtain ⟨i,v⟩:=p
  simp only [cM] at h
  split at h
  ·cases h
  ·rename_i off size hp
   replace h:=xJ h;obtain ⟨hc,h⟩:=h
   simp only [zba] at hc
   have hs:=x5.1 hc.1.2
   have hle:=zle hc.2
   rw [ih _ _ h,H8 (by omega)]
theorem zAa {P:Program} {e:TypeId} {av:AV} (h:r6 P e=some av):c9 P e=true:=by
 unfold r6 at h
 split at h
 ·replace h:=xJ h;obtain ⟨hc,h⟩:=h
  simp only [zba] at hc
  exact hc.2
 ·cases h
theorem WV {P:Program} {N np:Nat} {o:Oper} {t:TypeId} {len:Nat} {parts:Array (Nat×Operand)} {rs:List (Nat×AV)} {hn:xN} {r:Box×AV}
  (ho:o.op=.buildSlice t len parts) (hx:∀ p∈parts.toList,xB p.2=true)
  (h:M7 P t len (xA rs) parts.toList hn=some r) (hd:uD N o.dst=true) :
  uO P N np o { rs:=rs,rb:=[(hn.id,.unused)],dst:=o.dst.map fun d=>(d,r.2),wb:=[(hn.id,.live r.1)] }:=by
 intro G st a w hN hnp hE ⟨T,hT⟩
 unfold M7 at h
 split at h
 case h_2=>cases h
 rename_i e hrow
 obtain ⟨i,z,ht⟩:=fC hrow
 split at h
 case h_2=>cases h
 rename_i av hz
 replace h:=xJ h;obtain ⟨hbig,h⟩:=h
 simp only [zba] at hbig
 have hbig1:=zle hbig.1
 have hbig2:=zle hbig.2
 split at h
 case h_2=>cases h
 rename_i cs hf
 replace h:=xJ h;obtain ⟨hpure,h⟩:=h
 injection h with h;subst h
 simp only at hE
 have hu:st.box hn.id=.unused:=hE.2 (hn.id,.unused) (by simp)
 obtain ⟨zc,hz0,hcells,hcl,hzp⟩:=R1 hz
 obtain ⟨z',hz1,hc',hzr⟩:=dX (w:=w) (I:=imm G st T) (T:=Tbl.empty) hz0
 have hzz:z'=z:=by
  have h1:=hz1
  simp only [dJ,ht.info,ht.zero] at h1
  injection h1 with h1;exact h1.symm
 subst hzz
 obtain ⟨f1,f2,f3⟩:=SI (n:=len) (m:=len) hc' hcl hcells (Nat.le_refl _)
 have hfl:=kL f1
 rw [List.length_replicate] at hfl
 have hbase:gY w (imm G st T) T (madeCells z'.cells (len * szT P e)) (wM (List.replicate len av)):=by
  refine ⟨by simp [madeCells,hfl],JB f2,?_⟩
  intro k c hk
  obtain ⟨i',j,x,he,g1,g2⟩:=BK f1 hk
  rw [he]
  exact (f3 i' x j c g1 g2).mono (Nat.le_refl _) (fun _ _ _=>rfl) (fun _ h _=>h) (fun i p hp=>by simp [Tbl.empty] at hp)
 obtain ⟨vs',hfill,hcr⟩:=QO (place:=fun i=>some (i * szT P e,szT P e)) parts.toList _ _ _ hbase (fun p hp=>vO hT hE.1 (hx p hp)) hf
 have hcsl:cs.length=len * szT P e:=by rw [zBM _ _ _ hf,hfl]
 have hwid:=JJ (zAa hz)
 obtain ⟨k1,k2,k3,k4⟩:=OC hwid len cs hcsl hcr.one
 have hparts:(parts.map fun (p:Nat×Operand)=>(p.1,a.eval p.2)).toList=parts.toList.map fun p=>(p.1,a.eval p.2):=by simp
 have hrun:(Instr.buildSlice t len (parts.map fun (i,x)=>(i,a.eval x))).run P w=.ok (.slice (some ⟨w.heap.size,0,none⟩) len len) (w.alloc (.cells vs' e)):=by
  have n1:¬ (2 ^ 24<len * i.size):=by rw [ht.size];omega
  simp only [madeCells] at hfill
  by_cases h0:len * i.size=0
  ·rw [ht.size] at h0
   simp [Instr.buildSlice,run_underlying ht.und,sizeOf,typeInfo,ht.info,ht.size,h0,newRow]
   have:(Array.range (len * szT P e)).map (fun i=>z'.cells[i % z'.cells.size]!)=#[]:=by rw [h0];simp
   rw [this] at hfill
   have h00:(Array.range 0).map (fun _=>(default:Value))=#[]:=by simp
   rw [h00,hfill]
   simp
  ·rw [ht.size] at h0 n1
   simp [Instr.buildSlice,run_underlying ht.und,sizeOf,typeInfo,ht.info,ht.size,h0,newRow,n1,hzr,hfill]
 refine uR (v:=.slice (some ⟨w.heap.size,0,none⟩) len len) (w':=w.alloc (.cells vs' e)) ?_ ?_
 ·unfold execOp
  rw [ho]
  simp only []
  rw [Sem.run_bind,hrun]
  rfl
 ·refine hT.new (p:=.at w.heap.size len) (DE _ _) rfl hu (by simp [Option.map_map,Function.comp_def]) (fun b c hp=>by injection hp with hp;omega) ?_ ?_
  ·refine .inr ⟨_,_,_,rfl,heap_alloc_new w _,by rw [hcr.size,hcsl],by rw [k4];exact Nat.le_refl _,by rw [qC];omega,k2,k3,?_⟩
   intro i' x j c hi hj
   have hfg:=bW k2 hi hj
   rw [k1] at hfg
   have hr:=(hcr.rep _ _ hfg).bare (T':=Tbl.empty) (AV.pures_get hpure hfg)
   refine hr.mono (by simp) (fun b _ hlt=>heap_alloc_old w _ b hlt) (fun b hI hlt=>?_) (fun _ _ h=>h)
   refine ⟨hI.1,fun id bx cap hl hTi=>?_⟩
   rw [cR] at hl
   simp only [dZ] at hl
   by_cases e':id=hn.id
   ·subst e';rw [Tbl.put_same] at hTi;injection hTi with hTi;injection hTi with hTi;omega
   ·rw [if_neg e'] at hl;rw [Tbl.put_ne _ _ e'] at hTi;exact hI.2 id bx cap hl hTi
  ·intro d av' he
   obtain ⟨hlt,rfl⟩:=uH hd he
   exact ⟨by omega,.own (Tbl.put_same _ _ _) (Nat.le_refl _) (by rw [qC];omega)⟩
/-! Copy. -/
def Q8:AV→Option (Nat×Nat×Nat)
 | .own id n=>some (id,0,n)
 | .part id _ lo hi=>some (id,lo,hi)
 | _=>none
def ZO (x:AV) (sz:Nat):Bool:=match x with | .part _ s _ _=>Nat.beq s sz | _=>true
def LR (P:Program) (t:TypeId) (x y:AV) (B:Nat→yA) (h:xN):Option (List Prop×List Nat×Nat×Box×AV) :=
 match aZ P t,Q8 x with
 | some e,some (id,lo,hi) =>
  match B id with
  | .live (.row e' sz l) =>
   bif Nat.beq sz (szT P e)&&ZO x sz then
    match gQ P sz y B with
    | some (vc,ids,m) =>
     some (vc++[fF y m,lo≤hi,hi≤l.length,h.n=min m.length (hi - lo),h.l=l.take lo++m.take h.n++l.drop (lo+h.n)],ids,id,.row e' sz h.l,.int .i64 h.n)
    | none=>none
   else none
  | _=>none
 | _,_=>none
theorem zAr {P:Program} {t t2 e tt:TypeId} {i:TypeInfo} {z:Value} {w:World} {ty:TypeId} (ht:fT P t e i z) {b o dLen dCap n:Nat} {C:Array Value} {x:Value} {news:List Value} {m:Nat}
  (hlen:(Builtin.lenOf x).run P w=.ok m w) (hn:n=min m dLen) (hfx:(Builtin.firstCells (szT P e) n x).run P w=.ok news.toArray w)
  (hh:w.heap[b]?=some (.cells C tt (0,0))) (hfit:o+news.length≤C.size) (h1:∀ u∈news,u.oneCell'=true) :
  (Builtin.copy_ #[t,t2] ty #[.slice (some ⟨b,o,none⟩) dLen dCap,x]).run P w=.ok (goInt n) (w.setRow b (C.toList.take o++news++C.toList.drop (o+news.length)).toArray):=by
 have hst:=run_storeCells_at P b o tt news 0 C w hh (by simpa using hfit) h1
 simp only [Nat.add_zero] at hst
 rw [hn] at hfx
 simp only [Builtin.copy_,List.getElem?_toArray,List.getElem?_cons_zero,List.getElem?_cons_succ,Sem.run_bind,run_underlying ht.und,Result.andThen_ok,sizeOf,typeInfo,run_program,ht.info,Sem.run_pure,ht.size,hlen]
 have:Nat.min m dLen=min m dLen:=rfl
 rw [this,hfx]
 simp [hst,hn]
theorem YE {P:Program} {t t2 e:TypeId} {i:TypeInfo} {z:Value} {w:World} {ty:TypeId} (ht:fT P t e i z) {base:Option Addr} {dCap:Nat} {x:Value} {m:Nat}
  (hlen:(Builtin.lenOf x).run P w=.ok m w) (hfx:(Builtin.firstCells (szT P e) 0 x).run P w=.ok #[] w) :
  (Builtin.copy_ #[t,t2] ty #[.slice base 0 dCap,x]).run P w=.ok (goInt 0) w:=by
 simp only [Builtin.copy_,List.getElem?_toArray,List.getElem?_cons_zero,List.getElem?_cons_succ,Sem.run_bind,run_underlying ht.und,Result.andThen_ok,sizeOf,typeInfo,run_program,ht.info,Sem.run_pure,ht.size,hlen]
 have:Nat.min m 0=0:=Nat.min_zero m
 rw [this,hfx]
 cases base<;>simp [storeCells]
theorem XN {P:Program} {N np:Nat} {o:Oper} {t t2:TypeId} {x y:Operand} {rs:List (Nat×AV)} {hn:xN} {B:Nat→yA} {r:List Prop×List Nat×Nat×Box×AV}
  (ho:o.op=.call { callee:=.builtin .copy,args:=#[x,y],argTypes:=#[t,t2] }) (hx:xB x=true) (hy:xB y=true)
  (h:LR P t (xA rs x) (nz (xA rs y)) B hn=some r) (hv:∀ p∈r.1,p) (hd:uD N o.dst=true) :
  uO P N np o { rs:=rs,rb:=(r.2.2.1,B r.2.2.1)::r.2.1.map (fun i=>(i,B i)),dst:=o.dst.map fun d=>(d,r.2.2.2.2),wb:=[(r.2.2.1,.live r.2.2.2.1)] }:=by
 intro G st a w hN hnp hE ⟨T,hT⟩
 have hrx:=vO hT hE.1 hx
 have hry:=pG (vO hT hE.1 hy)
 unfold LR at h
 split at h
 case h_2=>cases h
 rename_i e id lo hi hrow hX
 obtain ⟨i,z,ht⟩:=fC hrow
 split at h
 case h_2=>cases h
 rename_i e' sz l hB
 replace h:=xJ h;obtain ⟨hc,h⟩:=h
 simp only [zba] at hc
 have hsz:=x5.1 hc.1
 have hps:=hc.2
 split at h
 case h_2=>cases h
 rename_i vc ids m hsrc
 injection h with h;subst h
 simp only at hE hv
 have hlohi:lo≤hi:=hv _ (by simp)
 have hhil:hi≤l.length:=hv _ (by simp)
 have hn':hn.n=min m.length (hi - lo):=hv _ (by simp)
 have hL:hn.l=l.take lo++m.take hn.n++l.drop (lo+hn.n):=hv _ (by simp)
 obtain ⟨news,hs⟩:=BB hT hry hsrc (fun i hi=>hE.2 (i,B i) (List.mem_cons_of_mem _ (List.mem_map.2 ⟨i,hi,rfl⟩))) (fun p hp=>hv p (by simp at hp ⊢;exact .inl hp)) (hv _ (by simp))
 replace hs:Src P w (imm G st T) sz (a.eval y) m news:=hs
 have hb:st.box id=.live (.row e' sz l):=(hE.2 (id,B id) (by simp)).trans hB
 have hrun:∀ (v:Value) (w':World),(Builtin.copy_ #[t,t2] o.type #[a.eval x,a.eval y]).run P w=.ok v w'→(execOp a.eval o).run P w=.ok (.value v) w':=fun v w' hv=>by
  simp [execOp,ho,resolve,invoke,builtin,hv]
 have hmm:=hs.max
 -- nothing to copy
 have nothing:∀ {base:Option Addr} {c:Nat},a.eval x=.slice base 0 c→hi - lo=0 →
   o.wp P a w (fun a' w'=>Rel G (st.upd { rs:=rs,rb:=(id,B id)::ids.map (fun i=>(i,B i)),dst:=o.dst.map fun d=>(d,.int .i64 hn.n),wb:=[(id,.live (.row e' sz hn.l))] }) a' w') (fun _ _ _=>False):=by
  intro base c hxv h0
  have hn0:hn.n=0:=by omega
  have hLl:hn.l=l:=by rw [hL,hn0];simp
  have h0c:=hs.cells 0 w (Nat.zero_le _) (fun _ _=>rfl)
  simp only [Nat.zero_mul,List.take_zero] at h0c
  rw [hsz] at h0c
  refine uR (hrun _ _ (by rw [hxv];exact YE ht (hs.lenOf w) h0c)) ?_
  refine hT.quiet (jN w) ?_ (by simp [Option.map_map,Function.comp_def]) ?_
  ·funext j
   rw [cR]
   simp only [dZ]
   by_cases e1:j=id
   ·subst e1;rw [if_pos rfl,hLl,hb]
   ·rw [if_neg e1]
  ·intro d av he
   obtain ⟨hlt,rfl⟩:=uH hd he
   rw [hn0]
   exact ⟨by omega,.int (by decide)⟩
 -- the copy
 have something:∀ {b o' dl c cap:Nat},a.eval x=.slice (some ⟨b,o',none⟩) dl c→T id=some (.at b cap)→o'=lo * sz→dl=hi - lo →
   o.wp P a w (fun a' w'=>Rel G (st.upd { rs:=rs,rb:=(id,B id)::ids.map (fun i=>(i,B i)),dst:=o.dst.map fun d=>(d,.int .i64 hn.n),wb:=[(id,.live (.row e' sz hn.l))] }) a' w') (fun _ _ _=>False):=by
  intro b o' dl c cap hxv hTi ho' hdl
  have hokl:=hT.boxes id _ hb
  rcases hokl with ⟨hp,_⟩ | ⟨b',cap',C,hp,hh,h1,h2',h3,h4,h5,h6⟩
  ·rw [hp] at hTi;cases hTi
  have hp0:=hp
  rw [hp] at hTi;injection hTi with hTi;injection hTi with e1 e2;subst e1;subst e2
  have hnm:hn.n≤m.length:=by omega
  have hfx:=hs.cells hn.n w hnm (fun _ _=>rfl)
  have hnl:(news.take (hn.n * sz)).length=hn.n * sz:=by
   rw [List.length_take,hs.len]
   exact Nat.min_eq_left (Nat.mul_le_mul_right _ hnm)
  have hfit:o'+(news.take (hn.n * sz)).length≤C.size:=by
   rw [hnl,ho',h1,← Nat.add_mul];exact Nat.mul_le_mul_right _ (by omega)
  have hone:∀ u∈news.take (hn.n * sz),u.oneCell'=true:=by
   intro u hu'
   have hu'':=List.mem_of_mem_take hu'
   obtain ⟨k,hk⟩:=List.mem_iff_getElem?.1 hu''
   have hkl:k<news.length:=by
    rcases zlg k news.length with h' | h'
    ·exact h'
    ·rw [List.getElem?_eq_none h'] at hk;cases hk
   have hkf:k<(wM m).length:=by rw [kL hs.wid,← hs.len];exact hkl
   have:=hs.rep k _ (List.getElem?_eq_getElem hkf)
   rw [List.getD_eq_getElem?_getD,hk] at this
   exact this.oneCell (JB hs.one _ (List.getElem_mem hkf))
  have hr:=zAr (P:=P) (t2:=t2) (w:=w) (ty:=o.type) ht (dLen:=dl) (dCap:=c) (n:=hn.n) (hs.lenOf w) (by rw [hdl];exact hn') (by rw [← hsz];exact hfx) hh hfit hone
  refine uR (hrun _ _ (by rw [hxv];exact hr)) ?_
  have hmem:∀ av∈hn.l,av∈l∨av∈m:=by
   intro av hav
   rw [hL] at hav
   rcases List.mem_append.1 hav with hav | hav
   ·rcases List.mem_append.1 hav with hav | hav
    ·exact .inl (List.mem_of_mem_take hav)
    ·exact .inr (List.mem_of_mem_take hav)
   ·exact .inl (List.mem_of_mem_drop hav)
  have hLlen:hn.l.length=l.length:=by
   rw [hL];simp;omega
  refine hT.write hb hp0 H3 rfl (by simp [Option.map_map,Function.comp_def]) ?_ ?_
  ·have hmono:∀ {v av},Rep w (imm G st T) Tbl.empty v av→Rep (w.setRow b' (C.toList.take o'++news.take (hn.n * sz)++C.toList.drop (o'+(news.take (hn.n * sz)).length)).toArray) (imm G st T) Tbl.empty v av:=fun h =>
    h.mono (by simp) (fun b2 hI _=>setRow_other w b' b2 _ (fun e=>by subst e;exact hI.2 id _ cap' hb hp0)) (fun _ h _=>h) (fun _ _ h=>h)
   refine .inr ⟨b',cap',_,hp0,setRow_heap w b' C _ e' _ hh,by simp [hnl];rw [hnl] at hfit;omega,by rw [hLlen];exact h2',h3,?_,?_,?_⟩
   ·intro av hav
    rcases hmem av hav with h' | h'
    ·exact h4 av h'
    ·exact hs.wid av h'
   ·intro av hav
    rcases hmem av hav with h' | h'
    ·exact h5 av h'
    ·exact hs.one av h'
   ·intro i' av j c' hi' hj
    have hav:=List.mem_of_getElem? hi'
    have hjl:j<sz:=by
     have:av.cells.length=sz:=by
      rcases hmem av hav with h' | h'
      ·exact h4 av h'
      ·exact hs.wid av h'
     rw [← this]
     rcases zlg j av.cells.length with h' | h'
     ·exact h'
     ·rw [List.getElem?_eq_none h'] at hj;cases hj
    rw [JP hfit]
    rw [hL] at hi'
    have hlt0:(l.take lo).length=lo:=by simp;omega
    have hmt:(m.take hn.n).length=hn.n:=by simp;omega
    rcases zlg i' lo with c1 | c1
    ·have hneg:¬ (o'≤i' * sz+j∧i' * sz+j<o'+(news.take (hn.n * sz)).length):=by
      rw [hnl,ho']
      have:=Nat.mul_le_mul_right sz (show i'+1≤lo by omega)
      rw [Nat.add_mul] at this;omega
     rw [if_neg hneg]
     rw [List.append_assoc,List.getElem?_append_left (by omega),List.getElem?_take,if_pos c1] at hi'
     exact hmono (h6 i' av j c' hi' hj)
    ·rcases zlg i' (lo+hn.n) with c2 | c2
     ·have hpos:o'≤i' * sz+j∧i' * sz+j<o'+(news.take (hn.n * sz)).length:=by
       rw [hnl,ho']
       have a1:=Nat.mul_le_mul_right sz c1
       have a2:=Nat.mul_le_mul_right sz (show i'+1≤lo+hn.n by omega)
       rw [Nat.add_mul,Nat.add_mul] at a2;omega
      rw [if_pos hpos]
      rw [List.getElem?_append_left (by simp only [zla];omega),List.getElem?_append_right (by omega),hlt0,List.getElem?_take,if_pos (by omega)] at hi'
      have hfg:=bW hs.wid hi' hj
      have hr:=hs.rep _ _ hfg
      have e3:i' * sz+j - o'=(i' - lo) * sz+j:=by
       rw [Nat.sub_mul,ho']
       have a1:=Nat.mul_le_mul_right sz c1
       omega
      rw [e3]
      have e4:(news.take (hn.n * sz)).getD ((i' - lo) * sz+j) undef=news.getD ((i' - lo) * sz+j) undef:=by
       rw [List.getD_eq_getElem?_getD,List.getElem?_take,if_pos,← List.getD_eq_getElem?_getD]
       have a2:=Nat.mul_le_mul_right sz (show i' - lo+1≤hn.n by omega)
       rw [Nat.add_mul] at a2;omega
      rw [e4]
      exact hmono hr
     ·have hneg:¬ (o'≤i' * sz+j∧i' * sz+j<o'+(news.take (hn.n * sz)).length):=by
       rw [hnl,ho']
       have:=Nat.mul_le_mul_right sz c2
       rw [Nat.add_mul] at this;omega
      rw [if_neg hneg]
      rw [List.getElem?_append_right (by simp only [zla];omega),List.getElem?_drop] at hi'
      simp only [zla,hlt0,hmt] at hi'
      rw [show lo+hn.n+(i' - (lo+hn.n))=i' by omega] at hi'
      exact hmono (h6 i' av j c' hi' hj)
  ·intro d av he
   obtain ⟨hlt,rfl⟩:=uH hd he
   rw [qC] at hmm
   exact ⟨by omega,.int (oB (by omega))⟩
 generalize hXX:xA rs x=X at hrx hX hps
 cases X<;>simp only [Q8,Option.some.injEq,Prod.mk.injEq,reduceCtorEq] at hX
 ·rename_i id' n
  obtain ⟨rfl,rfl,rfl⟩:=hX
  generalize hxv:a.eval x=vx at hrx
  cases hrx with
  | ownNil hTi=>exact nothing hxv rfl
  | own hTi c1 c2=>exact something hxv hTi (by omega) (by omega)
 ·rename_i id' sz' lo' hi'
  obtain ⟨rfl,rfl,rfl⟩:=hX
  generalize hxv:a.eval x=vx at hrx
  cases hrx with
  | part0 hc=>exact nothing hxv (by omega)
  | part hTi p1 p2 p3 p4 p5 p6 =>
   have:sz'=sz:=x5.1 hps
   exact something hxv hTi (by rw [p6,this]) p2
/-! A row of bytes converted to its own type: it is given away. -/
def LK (P:Program) (src dst:TypeId) (x:AV) (B:Nat→yA) (np:Nat):Option (List Prop×Nat×AV) :=
 match x,P.underlying dst with
 | .own id n,some (.slice e) =>
  match B id with
  | .live (.row _ sz l)=>bif (dU P e&&Nat.beq src dst)&&Nat.ble np id then some ([n=l.length,0<n],id,.sl false sz l) else none
  | _=>none
 | _,_=>none
theorem zCL {P:Program} {N np:Nat} {o:Oper} {src dst:TypeId} {x:Operand} {rs:List (Nat×AV)} {B:Nat→yA} {r:List Prop×Nat×AV}
  (ho:o.op=.convert src dst x) (hx:xB x=true) (h:LK P src dst (xA rs x) B np=some r) (hv:∀ p∈r.1,p) (hd:uD N o.dst=true) :
  uO P N np o { rs:=rs,rb:=[(r.2.1,B r.2.1)],dst:=o.dst.map fun d=>(d,r.2.2),wb:=[(r.2.1,.dead)] }:=by
 intro G st a w hN hnp hE ⟨T,hT⟩
 have hrx:=vO hT hE.1 hx
 unfold LK at h
 split at h
 case h_2=>cases h
 rename_i id n e hX hdd
 split at h
 case h_2=>cases h
 rename_i e' sz l hB
 replace h:=xJ h;obtain ⟨hc,h⟩:=h
 simp only [zba] at hc
 injection h with h;subst h
 simp only at hE hv
 have hlen:n=l.length:=hv _ (by simp)
 have hpos:0<n:=hv _ (by simp)
 have he:=E7 hc.1.1
 have hsd:=x5.1 hc.1.2
 subst hsd
 have hnpid:np≤id:=zle hc.2
 have hlive:st.box id=.live (.row e' sz l):=(hE.2 (id,B id) (by simp)).trans hB
 rw [hX] at hrx
 generalize hxv:a.eval x=vx at hrx
 cases hrx with
 | ownNil hTi=>omega
 | own hTi c1 c2 =>
 rename_i b cap
 rcases hT.boxes id _ hlive with ⟨hp,_⟩ | ⟨b',cap',C,hp,hh,k1,k2,k3,k4,k5,k6⟩
 ·rw [hTi] at hp;cases hp
 rw [hTi] at hp;injection hp with hp;injection hp with hp1 hp2;subst hp1;subst hp2
 have hbl:b<w.heap.size:=by
  rcases zlg b w.heap.size with h' | h'
  ·exact h'
  ·rw [Array.getElem?_eq_none h'] at hh;cases hh
 let w2:World:=w.freeze ⟨b,C.size,none⟩ 1
 have hh2:w2.heap[b]?=some (.cells C e' (C.size,C.size+1)):=by
  simp only [w2,World.freeze,Nat.succ_ne_zero,if_false,Array.getElem?_modify,if_true,hh,Option.map_some]
  rfl
 have hh3:∀ c,c≠b→w2.heap[c]?=w.heap[c]?:=by
  intro c hb
  simp only [w2,World.freeze,Nat.succ_ne_zero,if_false,Array.getElem?_modify]
  rw [if_neg (fun e=>hb e.symm)]
 have hg:w.grownBy w2 (some b):=by
  refine ⟨rfl,rfl,rfl,?_,fun k _ hk=>hh3 k fun e=>hk (by rw [e])⟩
  simp [w2,World.freeze]
 have hrun:(execOp a.eval o).run P w=.ok (.value (.slice (some ⟨b,0,none⟩) n cap)) w2:=by
  have hsem:(markStringish ⟨b,0,none⟩).run P w=.ok () w2:=by
   have hshape:w.shape? b=some (e',C.size):=by simp [World.shape?,hh]
   simp only [markStringish,shape,Sem.run_bind,Sem.run,hshape,Result.andThen_ok,freeze]
   rfl
  simp only [execOp,ho,convert,Sem.run_bind,run_underlying hdd,Result.andThen_ok,hxv,beq_self_eq_true,run_underlying he,hsem,Sem.run_pure]
 have hb:∀ i,(st.upd { rs:=rs,rb:=[(id,B id)],dst:=o.dst.map fun d=>(d,AV.sl false sz l),wb:=[(id,.dead)] }).box i=if i=id then .dead else st.box i:=fun i=>by
  rw [cR];exact dZ _ _ _ _
 have hmine:=hT.mine id _ b cap hlive hTi (by omega)
 have himm:∀ c,imm G st T c→imm G (st.upd { rs:=rs,rb:=[(id,B id)],dst:=o.dst.map fun d=>(d,AV.sl false sz l),wb:=[(id,.dead)] }) T c:=by
  intro c hI
  refine ⟨hI.1,fun i bxi cp hli hTi'=>?_⟩
  rw [hb] at hli
  by_cases e:i=id
  ·rw [if_pos e] at hli;cases hli
  ·rw [if_neg e] at hli;exact hI.2 i bxi cp hli hTi'
 have himmb:imm G (st.upd { rs:=rs,rb:=[(id,B id)],dst:=o.dst.map fun d=>(d,AV.sl false sz l),wb:=[(id,.dead)] }) T b:=by
  refine ⟨.inr hmine,fun i bxi cp hli hTi'=>?_⟩
  rw [hb] at hli
  by_cases e:i=id
  ·rw [if_pos e] at hli;cases hli
  ·rw [if_neg e] at hli
   exact e (hT.apart i id bxi _ b cp cap hli hlive hTi' hTi)
 have hcI:∀ c,imm G st T c→c<w.heap.size→w2.heap[c]?=w.heap[c]?:=fun c hc _=>hh3 c fun e=>by
  subst e;exact hc.2 id _ cap hlive hTi
 refine uR hrun (hT.step (row:=some b) hg (fun _ _ h=>h) (fun g hg=>by injection hg with hg;subst hg;exact ⟨id,_,cap,hlive,hTi⟩) (fun c hc _=>himm c hc) (by simp [Option.map_map,Function.comp_def]) ?_ ?_ ?_ ?_)
 ·intro d av hEd
  obtain ⟨hlt,rfl⟩:=uH hd hEd
  refine ⟨by omega,?_⟩
  refine K2 hh2 himmb hlen c1 c2 k4 k5 (by rw [k1];exact Nat.mul_le_mul_right _ k2) ?_
  intro k c hk
  obtain ⟨i,j,av,rfl,hi,hj⟩:=BK k4 hk
  exact (k6 i av j c hi hj).mono hg.size hcI (fun c hc _=>himm c hc) (fun _ _ h=>h)
 ·intro i bxi hli
  rw [hb] at hli
  by_cases e:i=id
  ·rw [if_pos e] at hli;cases hli
  ·rw [if_neg e] at hli
   refine .inl ⟨hli,fun g cp hg hTi'=>?_⟩
   injection hg with hg;subst hg
   exact e (hT.apart i id bxi _ b cp cap hli hlive hTi' hTi)
 ·intro i hu
  rw [hb] at hu
  by_cases e:i=id
  ·rw [if_pos e] at hu;cases hu
  ·rw [if_neg e] at hu;exact hT.unused i hu
 ·intro i1 i2 b1 b2 c d1 d2 h1 h2 t1 t2
  rw [hb] at h1 h2
  by_cases e:i1=id
  ·rw [if_pos e] at h1;cases h1
  ·by_cases e2:i2=id
   ·rw [if_pos e2] at h2;cases h2
   ·rw [if_neg e] at h1;rw [if_neg e2] at h2
    exact hT.apart i1 i2 b1 b2 c d1 d2 h1 h2 t1 t2
end Go.Ab

/- Blocks of the call's own given away for reading; calls by what is known of the callee. -/
namespace Go.Ab
open Go
/-! A row of the call's own, seen as a slice that is not written again. -/
def aJ (B:Nat→yA) (ids:List Nat):AV→AV
 | .own id n=>bif ids.any (Nat.beq id) then
   match B id with
   | .live (.row _ sz l)=>.sl false sz l
   | _=>.junk
  else .own id n
 | .part id sz lo hi=>bif ids.any (Nat.beq id) then
   match B id with
   | .live (.row _ sz' l)=>bif Nat.beq sz sz' then .sl false sz ((l.take hi).drop lo) else .junk
   | _=>.junk
  else .part id sz lo hi
 | v=>v
def aU (B:Nat→yA) (ids:List Nat):AV→AV
 | .agg cs=>.agg (cs.map (aJ B ids))
 | v=>aJ B ids v
def frz (B:Nat→yA) (ids:List Nat):AV→AV
 | .tuple vs=>.tuple (vs.map (aU B ids))
 | v=>aU B ids v
def cE (B:Nat→yA) (ids:List Nat):AV→List Prop
 | .own id n=>bif ids.any (Nat.beq id) then
   match B id with
   | .live (.row _ _ l)=>[n=l.length]
   | _=>[]
  else []
 | .part id _ lo hi=>bif ids.any (Nat.beq id) then
   match B id with
   | .live (.row _ _ l)=>[lo≤hi,hi≤l.length]
   | _=>[]
  else []
 | _=>[]
def gI (B:Nat→yA) (ids:List Nat):AV→List Prop
 | .agg cs=>cs.flatMap (cE B ids)
 | v=>cE B ids v
def bZ (B:Nat→yA) (ids:List Nat):AV→List Prop
 | .tuple vs=>vs.flatMap (gI B ids)
 | v=>gI B ids v
def zDm (G:uA) (st:AS) (T:Tbl) (ids:List Nat) (b:Nat):Prop :=
 imm G st T b∨∃ id cap,id∈ids∧T id=some (.at b cap)
theorem U9 {ids:List Nat} {id:Nat} (h:ids.any (Nat.beq id)=true):id∈ids:=by
 simp only [List.any_eq_true] at h
 obtain ⟨x,hx,he⟩:=h
 rw [x5.1 he];exact hx
theorem EG {ids:List Nat} {id:Nat} (h:id∈ids):ids.any (Nat.beq id)=true:=by
 simp only [List.any_eq_true]
 exact ⟨id,h,HO id⟩
theorem OW {G:uA} {st:AS} {T:Tbl} {a:Act} {w:World} {I:Nat→Prop} (hT:tJ G st T a w) {id:Nat} {e:TypeId} {sz:Nat} {l:List AV} (hb:st.box id=.live (.row e sz l))
  (hI:∀ b,imm G st T b→I b) (hid:∀ b cap,T id=some (.at b cap)→I b) {v:Value} {lo n c:Nat} {b cap:Nat} (hTi:T id=some (.at b cap)) (hv:v=.slice (some ⟨b,lo * sz,none⟩) n c) (hn:lo+n≤l.length) (hnc:n≤c) (hc:c≤maxLen) (T':Tbl) :
  Rep w I T' v (.sl false sz ((l.take (lo+n)).drop lo)):=by
 rcases hT.boxes id _ hb with ⟨hp,_⟩ | ⟨b',cap',C,hp,hh,h1,h2,h3,h4,h5,h6⟩
 ·rw [hp] at hTi;cases hTi
 have hp0:=hp
 rw [hTi] at hp;injection hp with hp;injection hp with e1 e2;subst e1;subst e2
 have hlt:b<w.heap.size:=fW hT hb hTi
 subst hv
 have hget:∀ i av,((l.take (lo+n)).drop lo)[i]?=some av→l[lo+i]?=some av:=by
  intro i av hi
  rw [List.getElem?_drop,List.getElem?_take] at hi
  split at hi
  ·exact hi
  ·cases hi
 have hmem:∀ av∈(l.take (lo+n)).drop lo,av∈l:=fun av hav=>List.mem_of_mem_take (List.mem_of_mem_drop hav)
 refine .sl (fun i j=>C.getD ((lo+i) * sz+j) undef) (by simp;omega) hnc hc (by simp) (fun av hav=>h4 av (hmem av hav)) (fun av hav=>h5 av (hmem av hav)) (hid b cap hTi) hlt ?_ ?_
 ·intro i av j c' hi hj
  have hg:=bW h4 (hget i av hi) hj
  have hlt':(lo+i) * sz+j<C.size:=by
   have:(lo+i) * sz+j<(wM l).length:=by
    rcases zlg ((lo+i) * sz+j) (wM l).length with h' | h'
    ·exact h'
    ·rw [List.getElem?_eq_none h'] at hg;cases hg
   rw [kL h4] at this
   have:=Nat.mul_le_mul_right sz h2
   omega
  rw [show lo * sz+i * sz+j=(lo+i) * sz+j by rw [Nat.add_mul]]
  simp [World.cell?,hh,hlt',Array.getD_eq_getD_getElem?]
 ·intro i av j c' hi hj
  exact (h6 _ av j c' (hget i av hi) hj).mono (Nat.le_refl _) (fun _ _ _=>rfl) (fun b hb' _=>hI b hb') (fun _ _ h=>h)
theorem OS {w:World} {I:Nat→Prop} {T:Tbl} {a:Option Addr} {c sz:Nat} (hc:c≤maxLen):Rep w I T (.slice a 0 c) (.sl false sz []):=.sl0 hc (by simp)
theorem N9 {G:uA} {st:AS} {T:Tbl} {a:Act} {w:World} {I:Nat→Prop} {B:Nat→yA} {ids:List Nat} (hT:tJ G st T a w) (hB:∀ id∈ids,st.box id=B id)
  (hI:∀ b,imm G st T b→I b) (hid:∀ id b cap,id∈ids→T id=some (.at b cap)→I b) {v:Value} {av:AV} (h:Rep w (imm G st T) T v av) (hv:∀ p∈cE B ids av,p) :
  Rep w I T v (aJ B ids av):=by
 have same:∀ {av},Rep w (imm G st T) T v av→Rep w I T v av:=fun h=>h.mono (Nat.le_refl _) (fun _ _ _=>rfl) (fun b hb _=>hI b hb) (fun _ _ h=>h)
 cases av with
 | own id n =>
  simp only [aJ,cE] at hv ⊢
  cases hm:ids.any (Nat.beq id)
  ·exact same h
  rw [hm] at hv
  simp only [cond_true] at hv ⊢
  have hmem:=U9 hm
  split
  ·rename_i e sz l hBl
   rw [hBl] at hv
   have hn:n=l.length:=hv _ (by simp)
   have hb:=(hB id hmem).trans hBl
   cases h with
   | ownNil hTi =>
    have hl:l=[]:=List.eq_nil_of_length_eq_zero hn.symm
    subst hl
    exact OS (by simp [maxLen])
   | own hTi c1 c2 =>
    rename_i b0 cap0
    have:=OW hT hb hI (fun b cap hT'=>hid id b cap hmem hT') (v:=.slice (some ⟨b0,0,none⟩) n cap0) (lo:=0) (n:=n) (c:=cap0) hTi (by simp) (by omega) c1 c2 T
    rw [Nat.zero_add,zdz,hn,List.take_length] at this
    rw [hn];exact this
  ·exact .junk
 | part id sz lo hi =>
  simp only [aJ,cE] at hv ⊢
  cases hm:ids.any (Nat.beq id)
  ·exact same h
  rw [hm] at hv
  simp only [cond_true] at hv ⊢
  have hmem:=U9 hm
  split
  ·rename_i e sz' l hBl
   rw [hBl] at hv
   have hlo:lo≤hi:=hv _ (by simp)
   have hhi:hi≤l.length:=hv _ (by simp)
   have hb:=(hB id hmem).trans hBl
   cases hs:Nat.beq sz sz'
   ·exact .junk
   have hs:=x5.1 hs
   subst hs
   simp only [cond_true]
   cases h with
   | part0 hc=>rw [List.drop_take_self];exact OS hc
   | part hTi p1 p2 p3 p4 p5 p6 =>
    rename_i o0 n0 c0 b0 cap0
    have:=OW hT hb hI (fun b cap hT'=>hid id b cap hmem hT') (v:=.slice (some ⟨b0,o0,none⟩) (hi - lo) c0) (lo:=lo) (n:=hi - lo) hTi (by rw [p6]) (by omega) (by rw [← p2];exact p3) (by omega) T
    rw [show lo+(hi - lo)=hi by omega] at this
    rw [p2];exact this
  ·exact .junk
 | _=>exact same h
def kB:List AV→Bool
 | []=>true
 | c::r=>c.one&&kB r
theorem LG {cs:List AV} (h:kB cs=true):∀ c∈cs,c.one=true:=by
 induction cs with
 | nil=>simp
 | cons a r ih =>
  simp only [kB,zba] at h
  intro c hc
  cases hc with
  | head=>exact h.1
  | tail _ hc=>exact ih h.2 c hc
def C9:AV→Bool
 | .agg cs=>kB cs
 | _=>true
def iY:AV→Bool
 | .tuple vs=>vs.all C9
 | v=>C9 v
theorem RM {G:uA} {st:AS} {T:Tbl} {a:Act} {w:World} {I:Nat→Prop} {B:Nat→yA} {ids:List Nat} (hT:tJ G st T a w) (hB:∀ id∈ids,st.box id=B id)
  (hI:∀ b,imm G st T b→I b) (hid:∀ id b cap,id∈ids→T id=some (.at b cap)→I b) {v:Value} {av:AV} (h:Rep w (imm G st T) T v av) (hv:∀ p∈gI B ids av,p) (hw:C9 (aU B ids av)=true) :
  Rep w I T v (aU B ids av):=by
 by_cases ha:∃ cs,av=.agg cs
 ·obtain ⟨cs,rfl⟩:=ha
  simp only [aU,gI,C9] at *
  cases h with
  | agg h1 h2 h3 =>
  refine .agg (by simp [h1]) (LG hw) ?_
  intro j c hj
  rw [List.getElem?_map] at hj
  cases hcj:cs[j]? with
  | none=>rw [hcj] at hj;cases hj
  | some c0 =>
   rw [hcj] at hj;injection hj with hj;subst hj
   exact N9 hT hB hI hid (h3 j c0 hcj) (fun p hp=>hv p (List.mem_flatMap.2 ⟨c0,List.mem_of_getElem? hcj,hp⟩))
 ·have e1:aU B ids av=aJ B ids av:=by cases av<;>first | rfl | exact absurd ⟨_,rfl⟩ ha
  have e2:gI B ids av=cE B ids av:=by cases av<;>first | rfl | exact absurd ⟨_,rfl⟩ ha
  rw [e1];rw [e2] at hv
  exact N9 hT hB hI hid h hv
theorem NE {G:uA} {st:AS} {T:Tbl} {a:Act} {w:World} {I:Nat→Prop} {B:Nat→yA} {ids:List Nat} (hT:tJ G st T a w) (hB:∀ id∈ids,st.box id=B id)
  (hI:∀ b,imm G st T b→I b) (hid:∀ id b cap,id∈ids→T id=some (.at b cap)→I b) {v:Value} {av:AV} (h:Rep w (imm G st T) T v av) (hv:∀ p∈bZ B ids av,p) (hw:iY (frz B ids av)=true) :
  Rep w I T v (frz B ids av):=by
 by_cases ha:∃ cs,av=.tuple cs
 ·obtain ⟨cs,rfl⟩:=ha
  simp only [frz,bZ,iY] at *
  simp only [List.all_eq_true] at hw
  cases h with
  | tuple h1 h2 =>
  refine .tuple (by simp [h1]) ?_
  intro j c hj
  have hjm:=List.mem_of_getElem? hj
  rw [List.getElem?_map] at hj
  cases hcj:cs[j]? with
  | none=>rw [hcj] at hj;cases hj
  | some c0 =>
   rw [hcj] at hj;injection hj with hj;subst hj
   exact RM hT hB hI hid (h2 j c0 hcj) (fun p hp=>hv p (List.mem_flatMap.2 ⟨c0,List.mem_of_getElem? hcj,hp⟩)) (hw _ hjm)
 ·have e1:frz B ids av=aU B ids av:=by cases av<;>first | rfl | exact absurd ⟨_,rfl⟩ ha
  have e2:bZ B ids av=gI B ids av:=by cases av<;>first | rfl | exact absurd ⟨_,rfl⟩ ha
  have e3:iY (frz B ids av)=C9 (frz B ids av):=by
   rw [e1]
   cases av with
   | tuple vs=>exact absurd ⟨_,rfl⟩ ha
   | agg cs=>rfl
   | own id n=>simp only [aU,aJ];cases ids.any (Nat.beq id)<;>simp only [cond_true,cond_false]<;>(try split)<;>rfl
   | part id sz lo hi =>
    simp only [aU,aJ]
    cases ids.any (Nat.beq id)<;>simp only [cond_true,cond_false]
    ·rfl
    ·split
     ·rename_i sz' l hh
      cases Nat.beq sz sz'<;>rfl
     ·rfl
   | _=>rfl
  rw [e3] at hw
  rw [e1] at hw ⊢;rw [e2] at hv
  exact RM hT hB hI hid h hv hw
end Go.Ab

/- Calls. -/
namespace Go.Ab
open Go
theorem tJ.stepN {G:uA} {st:AS} {T T':Tbl} {a:Act} {w:World} (h:tJ G st T a w) {E:Eff} {w':World} {S:Nat→Prop} {dst:Option Tmp} {v:Value}
  (hos:w'.os=w.os) (htape:w'.tape=w.tape) (hout:w'.output=w.output) (hsize:w.heap.size≤w'.heap.size) (hblk:∀ b,b<w.heap.size→¬ S b→w'.heap[b]?=w.heap[b]?)
  (hS:∀ g,S g→∃ id bx cap,st.box id=.live bx∧T id=some (.at g cap)) (hle:T.le T')
  (hlt:∀ id bx b cap,st.box id=.live bx→T id=some (.at b cap)→b<w.heap.size)
  (hb2:∀ id bx,(st.upd E).box id=.live bx→(∃ bx',st.box id=.live bx'∧T' id=T id)∨(st.box id=.unused∧∀ b cap,T' id=some (.at b cap)→w.heap.size≤b ∨
   ∃ gid gbx gcap,st.box gid=.live gbx∧T gid=some (.at b gcap)∧G.foot.length≤gid∧∀ bx',(st.upd E).box gid≠.live bx'))
  (hun:∀ id,(st.upd E).box id=.unused→T' id=none)
  (hap:∀ id id' b c c',st.box id=.unused→st.box id'=.unused→T' id=some (.at b c)→T' id'=some (.at b c')→id=id')
  (hdst:dst=E.dst.map (·.1))
  (hd:∀ d av,E.dst=some (d,av)→d<G.n∧Rep w' (imm G (st.upd E) T') T' v av)
  (hbox:∀ id bx,(st.upd E).box id=.live bx→(st.box id=.live bx∧T' id=T id∧∀ g cap,S g→T id≠some (.at g cap))∨qK w' (imm G (st.upd E) T') T' (T' id) bx)
  (hfz:E.fz=[]:=by rfl):Rel G (st.upd E) (a.put dst v) w':=by
 have hi:∀ b,imm G st T b→b<w.heap.size→imm G (st.upd E) T' b:=by
  intro b hI hbl
  refine ⟨hI.1,fun i bxi cp hli hTi=>?_⟩
  rcases hb2 i bxi hli with ⟨bx',hl',hTe⟩ | ⟨_,hnew⟩
  ·exact hI.2 i bx' cp hl' (by rw [← hTe];exact hTi)
  ·rcases hnew b cp hTi with h' | ⟨gid,gbx,gcap,g1,g2,_,_⟩
   ·omega
   ·exact hI.2 gid gbx gcap g1 g2
 have hcI:∀ b,imm G st T b→b<w.heap.size→w'.heap[b]?=w.heap[b]?:=fun b hb hlt=>hblk b hlt (fun e=>by
  obtain ⟨id,bx,cap,h1,h2⟩:=hS b e
  exact hb.2 id bx cap h1 h2)
 refine ⟨T',?_,?_,?_,?_,hun,?_,?_,fun i p hp=>hle i p (h.foot i p hp),?_⟩
 ·cases dst<;>exact h.defers
 ·cases dst<;>simp [Act.put,h.size]
 ·intro t
  subst hdst
  cases hE:E.dst with
  | none =>
   simp only [AS.upd,hE,hfz,kV,bB,Option.map_none,Act.put]
   exact (h.slots t).mono hsize hcI hi hle
  | some x =>
   obtain ⟨d,av⟩:=x
   obtain ⟨hlt,hv⟩:=hd d av hE
   simp only [AS.upd,hE,hfz,kV,Option.map_some]
   rw [QN t (by rw [h.size];exact hlt)]
   by_cases ht:t=d
   ·subst ht;rw [if_pos rfl,i5];exact hv
   ·rw [if_neg ht,gV _ _ _ ht];exact (h.slots t).mono hsize hcI hi hle
 ·intro id bx hb
  rcases hbox id bx hb with ⟨hold,hTe,hne⟩ | hnew
  ·rw [hTe]
   exact (h.boxes id bx hold).mono hsize hcI hi hle fun b cap hp hlt=>hblk b hlt fun e=>hne b cap e hp
  ·exact hnew
 ·intro i1 i2 b1 b2 b c1 c2 h1 h2 t1 t2
  rcases hb2 i1 b1 h1 with ⟨x1,l1,e1⟩ | ⟨l1,e1⟩<;>rcases hb2 i2 b2 h2 with ⟨x2,l2,e2⟩ | ⟨l2,e2⟩
  ·exact h.apart i1 i2 x1 x2 b c1 c2 l1 l2 (by rw [← e1];exact t1) (by rw [← e2];exact t2)
  ·have:=hlt i1 x1 b c1 l1 (by rw [← e1];exact t1)
   rcases e2 b c2 t2 with h' | ⟨gid,gbx,gcap,g1,g2,_,g3⟩
   ·omega
   ·have:=h.apart i1 gid x1 gbx b c1 gcap l1 g1 (by rw [← e1];exact t1) g2
    subst this
    exact absurd h1 (g3 b1)
  ·have:=hlt i2 x2 b c2 l2 (by rw [← e2];exact t2)
   rcases e1 b c1 t1 with h' | ⟨gid,gbx,gcap,g1,g2,_,g3⟩
   ·omega
   ·have:=h.apart i2 gid x2 gbx b c2 gcap l2 g1 (by rw [← e2];exact t2) g2
    subst this
    exact absurd h2 (g3 b2)
  ·exact hap i1 i2 b c1 c2 l1 l2 t1 t2
 ·intro id bx b cap hb hTb hge
  rcases hb2 id bx hb with ⟨x1,l1,e1⟩ | ⟨l1,e1⟩
  ·exact h.mine id x1 b cap l1 (by rw [← e1];exact hTb) hge
  ·rcases e1 b cap hTb with h' | ⟨gid,gbx,gcap,g1,g2,g3,_⟩
   ·exact .inl (Nat.le_trans h.kept.size h')
   ·exact h.mine gid gbx b gcap g1 g2 g3
 ·refine ⟨hos.trans h.kept.os,htape.trans h.kept.tape,hout.trans h.kept.output,Nat.le_trans h.kept.size hsize,fun b hb hn hn2=>(hblk b (Nat.lt_of_lt_of_le hb h.kept.size) fun e=>?_).trans (h.kept.block b hb hn hn2)⟩
  obtain ⟨id,bx,cap,h1,h2⟩:=hS b e
  rcases zlg id G.foot.length with hlt | hge
  ·have:=h.foot id _ (List.getElem?_eq_getElem hlt)
   rw [h2] at this
   injection this with this
   exact hn ⟨cap,by rw [this];exact List.getElem_mem hlt⟩
  ·rcases h.mine id bx b cap h1 h2 hge with h' | h'
   ·omega
   ·exact hn2 (.inl h')
/-! Names of the callee and of the caller. -/
mutual
def un (foot:List Nat):AV→AV
 | .junk=>.junk
 | .int k n=>.int k n
 | .bool b=>.bool b
 | .str l=>.str l
 | .agg cs=>.agg (uns foot cs)
 | .tuple cs=>.tuple (uns foot cs)
 | .sl f s l=>.sl f s l
 | .ref a=>.ref a
 | .ptr id sz i off=>.ptr (foot.getD id 0) sz i off
 | .own id n=>.own (foot.getD id 0) n
 | .part id sz lo hi=>.part (foot.getD id 0) sz lo hi
 | .fn f cs=>.fn f (uns foot cs)
 | .nilp=>.nilp
 | .nilsl=>.nilsl
 | .nb l=>.nb l
 | .mp id=>.mp (foot.getD id 0)
 | .raw b=>.raw b
 | .fm n l=>.fm n l
def uns (foot:List Nat):List AV→List AV
 | []=>[]
 | a::r=>un foot a::uns foot r
end
mutual
def wU (n:Nat):AV→Bool
 | .junk=>true
 | .int ..=>true
 | .bool _=>true
 | .str _=>true
 | .agg cs=>nT n cs
 | .tuple cs=>nT n cs
 | .sl ..=>true
 | .ref _=>true
 | .ptr id ..=>Nat.blt id n
 | .own id _=>Nat.blt id n
 | .part id ..=>Nat.blt id n
 | .fn _ cs=>nT n cs
 | .nilp=>true
 | .nilsl=>true
 | .nb _=>true
 | .mp id=>Nat.blt id n
 | .raw _=>true
 | .fm ..=>true
def nT (n:Nat):List AV→Bool
 | []=>true
 | a::r=>wU n a&&nT n r
end
theorem lR {foot:List Nat} {cs:List AV} {j:Nat}:(uns foot cs)[j]?=(cs[j]?).map (un foot):=by
 induction cs generalizing j with
 | nil=>simp [uns]
 | cons a r ih =>
  cases j with
  | zero=>simp [uns]
  | succ j=>simp [uns,ih]
theorem cQ {foot:List Nat} {cs:List AV}:(uns foot cs).length=cs.length:=by
 induction cs with
 | nil=>rfl
 | cons a r ih=>simp [uns,ih]
theorem rU {n:Nat} {cs:List AV} (h:nT n cs=true) {j:Nat} {c:AV} (hj:cs[j]?=some c):wU n c=true:=by
 induction cs generalizing j with
 | nil=>simp at hj
 | cons a r ih =>
  simp only [nT,zba] at h
  cases j with
  | zero=>simp at hj;exact hj ▸ h.1
  | succ j=>exact ih h.2 (by simpa using hj)
theorem QX {foot:List Nat} {c:AV}:(un foot c).one=c.one:=by cases c<;>rfl
theorem D8 {foot:List Nat} {cs:List AV}:(∀ c∈uns foot cs,c.one=true)↔∀ c∈cs,c.one=true:=by
 induction cs with
 | nil=>simp [uns]
 | cons a r ih=>simp [uns,QX,ih]
def Tc (foot:List Nat) (T:Tbl):Tbl:=fun i=>match foot[i]? with | some id=>T id | none=>none
theorem bT {foot:List Nat} {T:Tbl} {id:Nat} (h:Nat.blt id foot.length=true):Tc foot T id=T (foot.getD id 0):=by
 have hlt:id<foot.length:=by have:=h;simp [Nat.blt] at this;omega
 simp [Tc,List.getD,hlt]
theorem S2 {w:World} {I:Nat→Prop} {T:Tbl} {foot:List Nat} {v:Value} {av:AV} (h:Rep w I (Tc foot T) v av):wU foot.length av=true→Rep w I T v (un foot av):=by
 generalize hTT:Tc foot T=TT at h
 induction h with
 | junk=>intro _;exact .junk
 | int h=>intro _;exact .int h
 | bool=>intro _;exact .bool
 | str h h'=>intro _;exact .str h h'
 | agg h h1 _ ih =>
  intro hb
  refine .agg (by rw [cQ];exact h) (D8.2 h1) ?_
  intro j c hj
  rw [lR] at hj
  rename_i cs _
  cases hc:cs[j]? with
  | none=>rw [hc] at hj;cases hj
  | some c0 =>
   rw [hc] at hj;injection hj with hj;subst hj
   exact ih j c0 hc hTT (rU hb hc)
 | tuple h _ ih =>
  intro hb
  refine .tuple (by rw [cQ];exact h) ?_
  intro j c hj
  rw [lR] at hj
  rename_i cs _
  cases hc:cs[j]? with
  | none=>rw [hc] at hj;cases hj
  | some c0 =>
   rw [hc] at hj;injection hj with hj;subst hj
   exact ih j c0 hc hTT (rU hb hc)
 | sl0 h h'=>intro _;exact .sl0 h h'
 | sl g h1 h2 h3 h4 h5 h6 h7 h8 h9 h10 ih=>intro _;exact .sl g h1 h2 h3 h4 h5 h6 h7 h8 h9 h10
 | ref g h1 h2 h3 h4 h5 ih=>intro _;exact .ref g h1 h2 h3 h4 h5
 | ptr h h'=>intro hb;subst hTT;rw [bT hb] at h;exact .ptr h h'
 | ownNil h=>intro hb;subst hTT;rw [bT hb] at h;exact .ownNil h
 | own h h1 h2=>intro hb;subst hTT;rw [bT hb] at h;exact .own h h1 h2
 | part0 h=>intro _;exact .part0 h
 | part h h1 h2 h3 h4 h5 h6=>intro hb;subst hTT;rw [bT hb] at h;exact .part h h1 h2 h3 h4 h5 h6
 | fn h _ ih =>
  intro hb
  refine .fn (by rw [cQ];exact h) ?_
  intro j c hj
  rw [lR] at hj
  rename_i cs _ _
  cases hc:cs[j]? with
  | none=>rw [hc] at hj;cases hj
  | some c0 =>
   rw [hc] at hj;injection hj with hj;subst hj
   exact ih j c0 hc hTT (rU hb hc)
 | nilp=>intro _;exact .nilp
 | nilsl=>intro _;exact .nilsl
 | nb h=>intro _;exact .nb h
 | mp h=>intro hb;subst hTT;rw [bT hb] at h;exact .mp h
 | raw=>intro _;exact .raw
 | fm0=>intro _;exact .fm0
 | fm gk gv h1 h2 h3 h4 h5 h6 h7 h8 h9=>intro _;exact .fm gk gv h1 h2 h3 h4 h5 h6 h7 h8 h9
theorem GP {w:World} {I:Nat→Prop} {T:Tbl} {foot:List Nat} {v:Value} {av':AV} (h:Rep w I T v av'):∀ av,un foot av=av'→wU foot.length av=true→Rep w I (Tc foot T) v av:=by
 have nested:∀ {cs cs':List AV} {vs:Array Value} {T:Tbl},uns foot cs=cs'→nT foot.length cs=true →
   (∀ j c,cs'[j]?=some c→∀ av,un foot av=c→wU foot.length av=true→Rep w I (Tc foot T) (vs.getD j undef) av) →
   ∀ j c,cs[j]?=some c→Rep w I (Tc foot T) (vs.getD j undef) c:=by
  intro cs cs' vs T he hb ih j c hj
  exact ih j (un foot c) (by rw [← he,lR,hj];rfl) c rfl (rU hb hj)
 induction h with
 | junk=>intro av he hb;cases av<;>simp [un] at he;exact .junk
 | int h=>intro av he hb;cases av<;>simp [un] at he;obtain ⟨rfl,rfl⟩:=he;exact .int h
 | bool=>intro av he hb;cases av<;>simp [un] at he;subst he;exact .bool
 | str h h'=>intro av he hb;cases av<;>simp [un] at he;subst he;exact .str h h'
 | agg h h1 _ ih =>
  intro av he hb
  cases av<;>simp [un] at he
  refine .agg (by rw [h,← he,cQ]) (D8.1 (by rw [he];exact h1)) (nested he hb ih)
 | tuple h _ ih =>
  intro av he hb
  cases av<;>simp [un] at he
  refine .tuple (by rw [h,← he,cQ]) (nested he hb ih)
 | sl0 h h'=>intro av he hb;cases av<;>simp [un] at he;obtain ⟨rfl,rfl,rfl⟩:=he;exact .sl0 h h'
 | sl g h1 h2 h3 h4 h5 h6 h7 h8 h9 h10 ih=>intro av he hb;cases av<;>simp [un] at he;obtain ⟨rfl,rfl,rfl⟩:=he;exact .sl g h1 h2 h3 h4 h5 h6 h7 h8 h9 h10
 | ref g h1 h2 h3 h4 h5 ih=>intro av he hb;cases av<;>simp [un] at he;subst he;exact .ref g h1 h2 h3 h4 h5
 | ptr h h'=>intro av he hb;cases av<;>simp only [un,AV.ptr.injEq,reduceCtorEq] at he;obtain ⟨rfl,rfl,rfl,rfl⟩:=he;exact .ptr (by rw [bT hb];exact h) h'
 | ownNil h=>intro av he hb;cases av<;>simp only [un,AV.own.injEq,reduceCtorEq] at he;obtain ⟨rfl,rfl⟩:=he;exact .ownNil (by rw [bT hb];exact h)
 | own h h1 h2=>intro av he hb;cases av<;>simp only [un,AV.own.injEq,reduceCtorEq] at he;obtain ⟨rfl,rfl⟩:=he;exact .own (by rw [bT hb];exact h) h1 h2
 | part0 h=>intro av he hb;cases av<;>simp only [un,AV.part.injEq,reduceCtorEq] at he;obtain ⟨rfl,rfl,rfl,rfl⟩:=he;exact .part0 h
 | part h h1 h2 h3 h4 h5 h6=>intro av he hb;cases av<;>simp only [un,AV.part.injEq,reduceCtorEq] at he;obtain ⟨rfl,rfl,rfl,rfl⟩:=he;exact .part (by rw [bT hb];exact h) h1 h2 h3 h4 h5 h6
 | fn h _ ih =>
  intro av he hb
  cases av<;>simp [un] at he
  obtain ⟨rfl,he⟩:=he
  refine .fn (by rw [h,← he,cQ]) (nested he hb ih)
 | nilp=>intro av he hb;cases av<;>simp [un] at he;exact .nilp
 | nilsl=>intro av he hb;cases av<;>simp [un] at he;exact .nilsl
 | nb h=>intro av he hb;cases av<;>simp [un] at he;subst he;exact .nb h
 | mp h=>intro av he hb;cases av<;>simp only [un,AV.mp.injEq,reduceCtorEq] at he;subst he;exact .mp (by rw [bT hb];exact h)
 | raw=>intro av he hb;cases av<;>simp [un] at he;subst he;exact .raw
 | fm0=>intro av he hb;cases av<;>simp [un] at he;obtain ⟨rfl,rfl⟩:=he;exact .fm0
 | fm gk gv h1 h2 h3 h4 h5 h6 h7 h8 h9=>intro av he hb;cases av<;>simp [un] at he;obtain ⟨rfl,rfl⟩:=he;exact .fm gk gv h1 h2 h3 h4 h5 h6 h7 h8 h9
def unB (foot:List Nat):Box→Box
 | .var t cs=>.var t (uns foot cs)
 | .row e sz l=>.row e sz l
 | .map ag ks l=>.map ag ks l
def o4 (n:Nat):Box→Bool
 | .var _ cs=>nT n cs
 | .row ..=>true
 | .map ..=>true
theorem zDv {w:World} {I:Nat→Prop} {T:Tbl} {foot:List Nat} {p:Option wW} {bx:Box} (h:qK w I (Tc foot T) p bx) (hb:o4 foot.length bx=true):qK w I T p (unB foot bx):=by
 cases bx with
 | var t cs =>
  obtain ⟨b,C,h1,h2,h3,h4,h5⟩:=h
  refine ⟨b,C,h1,h2,by rw [cQ];exact h3,D8.2 h4,?_⟩
  intro j c hj
  rw [lR] at hj
  cases hc:cs[j]? with
  | none=>rw [hc] at hj;cases hj
  | some c0 =>
   rw [hc] at hj;injection hj with hj;subst hj
   exact S2 (h5 j c0 hc) (rU hb hc)
 | row e sz l=>exact h
 | map ag ks l=>exact h
theorem L7 {w:World} {I:Nat→Prop} {T:Tbl} {foot:List Nat} {p:Option wW} {bx:Box} (h:qK w I T p (unB foot bx)) (hb:o4 foot.length bx=true):qK w I (Tc foot T) p bx:=by
 cases bx with
 | var t cs =>
  obtain ⟨b,C,h1,h2,h3,h4,h5⟩:=h
  refine ⟨b,C,h1,h2,by rw [h3,cQ],D8.1 h4,?_⟩
  intro j c hj
  exact GP (h5 j (un foot c) (by rw [lR,hj];rfl)) c rfl (rU hb hj)
 | row e sz l=>exact h
 | map ag ks l=>exact h
def kept (I:Nat→Prop) (w:World) (gp new:List wW) (b:Nat):Prop:=(I b∧b<w.heap.size)∨((w.heap.size≤b∨∃ cap,wW.at b cap∈gp)∧∀ cap,wW.at b cap∉new)
def y5 (P:Program) (f:FuncId) (pre giv:List Box) (args:List AV) (post:List Box) (res:AV):Prop :=
 ∀ (w:World) (I:Nat→Prop) (foot gp:List wW) (vals:Array Value),
  foot.length=pre.length→gp.length=giv.length→(∀ b,I b→∀ cap,wW.at b cap∉foot++gp)→(∀ (i j b c c':Nat),(foot++gp)[i]?=some (wW.at b c)→(foot++gp)[j]?=some (wW.at b c')→i=j) →
  (∀ b cap,wW.at b cap∈foot++gp→b<w.heap.size) →
  (∀ (i:Nat) (bx:Box),(pre++giv)[i]?=some bx→qK w I (fun i=>(foot++gp)[i]?) ((foot++gp)[i]?) bx) →
  vals.size=args.length→(∀ (j:Nat) (av:AV),args[j]?=some av→Rep w I (fun i=>(foot++gp)[i]?) (vals.getD j undef) av) →
  Calls P f vals w fun e w'=>∃ (v:Value) (new:List wW),e=.returned v∧w'.os=w.os∧w'.tape=w.tape∧w'.output=w.output∧w.heap.size≤w'.heap.size ∧
   (∀ b,b<w.heap.size→(∀ cap,wW.at b cap∉foot++gp)→w'.heap[b]?=w.heap[b]?) ∧
   pre.length+new.length=post.length∧(∀ b cap,wW.at b cap∈new→w.heap.size≤b∨∃ cap',wW.at b cap'∈gp)∧(∀ (i j b c c':Nat),new[i]?=some (wW.at b c)→new[j]?=some (wW.at b c')→i=j) ∧
   Rep w' (kept I w gp new) (fun i=>(foot++new)[i]?) v res ∧
   ∀ (i:Nat) (bx:Box),post[i]?=some bx→qK w' (kept I w gp new) (fun i=>(foot++new)[i]?) ((foot++new)[i]?) bx
abbrev oA (P:Program) (f:FuncId) (pre:List Box) (args:List AV) (post:List Box) (res:AV):Prop:=y5 P f pre [] args post res
end Go.Ab
