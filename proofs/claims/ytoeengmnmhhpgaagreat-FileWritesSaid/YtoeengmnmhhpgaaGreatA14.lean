/- A slice made of its parts; 'copy' into a row of the call's own. -/
import Derived.Test.YtoeengmnmhhpgaaGreatA12
namespace Go.Ab
open Go
def R2 (P:Program) (t:TypeId) (len:Nat) (A:Operand->AV) (parts:List (Nat×Operand)) (h:wF):Option (Box×AV) :=
 match cA P t with
 | some e =>
  match C0 P e with
  | some av =>
   bif Nat.ble (len * szT P e) 16777216&&Nat.ble len 9223372036854775807 then
    match fO (fun i=>some (i * szT P e,szT P e)) (vO (List.replicate len av)) (parts.map fun p=>(p.1,A p.2)) with
    | some cs=>bif AV.pures cs then some (.row e (szT P e) (aT (uH P e) (szT P e) len cs),.own h.id len) else none
    | none=>none
   else none
  | none=>none
 | none=>none
theorem zH3 {place:Nat->Option (Nat×Nat)} (parts:List (Nat×AV)):∀ cs cs',fO place cs parts=some cs'->cs'.length=cs.length:=by
 induction parts with
 | nil=>intro cs cs' h;simp [fO] at h;rw [h]
 | cons p r ih =>
  intro cs cs' h;obtain ⟨i,v⟩:=p;simp only [fO] at h
  split at h
  ·cases h
  ·rename_i off size hp
   replace h:=x8 h;obtain ⟨hc,h⟩:=h;simp only [zba] at hc;have hs:=w7.1 hc.1.2;have hle:=zle hc.2;rw [ih _ _ h,ND (by omega)]
theorem zGO {P:Program} {e:TypeId} {av:AV} (h:C0 P e=some av):dQ P e=true:=by
 unfold C0 at h
 split at h
 ·replace h:=x8 h;obtain ⟨hc,h⟩:=h;simp only [zba] at hc;exact hc.2
 ·cases h
theorem zDz {P:Program} {N np:Nat} {o:Oper} {t:TypeId} {len:Nat} {parts:Array (Nat×Operand)} {rs:List (Nat×AV)} {hn:wF} {r:Box×AV}
  (ho:o.op=.buildSlice t len parts) (hx:∀ p∈parts.toList,x5 p.2=true)
  (h:R2 P t len (xZ rs) parts.toList hn=some r) (hd:tY N o.dst=true) :
  qD P N np o { rs:=rs,rb:=[(hn.id,.unused)],dst:=o.dst.map fun d=>(d,r.2),wb:=[(hn.id,.live r.1)] }:=by
 intro G st a w hN hnp hE ⟨T,hT⟩;unfold R2 at h
 split at h
 case h_2=>cases h
 rename_i e hrow
 obtain ⟨i,z,ht⟩:=gL hrow
 split at h
 case h_2=>cases h
 rename_i av hz
 replace h:=x8 h;obtain ⟨hbig,h⟩:=h;simp only [zba] at hbig;have hbig1:=zle hbig.1;have hbig2:=zle hbig.2
 split at h
 case h_2=>cases h
 rename_i cs hf
 replace h:=x8 h;obtain ⟨hpure,h⟩:=h;injection h with h;subst h;simp only at hE;have hu:st.box hn.id=.unused:=hE.2 (hn.id,.unused) (by simp);obtain ⟨zc,hz0,hcells,hcl,hzp⟩:=zAP hz;obtain ⟨z',hz1,hc',hzr⟩:=gP (w:=w) (I:=imm G st T) (T:=Tbl.empty) hz0;have hzz:z'=z:=by
  have h1:=hz1;simp only [fN,ht.info,ht.zero] at h1;injection h1 with h1;exact h1.symm
 subst hzz;obtain ⟨f1,f2,f3⟩:=VS (n:=len) (m:=len) hc' hcl hcells (Nat.le_refl _);have hfl:=nB f1;rw [List.length_replicate] at hfl;have hbase:oY w (imm G st T) T (madeCells z'.cells (len * szT P e)) (vO (List.replicate len av)):=by
  refine ⟨by simp [madeCells,hfl],LD f2,?_⟩;intro k c hk;obtain ⟨i',j,x,he,g1,g2⟩:=LC f1 hk;rw [he];exact (f3 i' x j c g1 g2).mono (Nat.le_refl _) (fun _ _ _=>rfl) (fun _ h _=>h) (fun i p hp=>by simp [Tbl.empty] at hp)
 obtain ⟨vs',hfill,hcr⟩:=WV (place:=fun i=>some (i * szT P e,szT P e)) parts.toList _ _ _ hbase (fun p hp=>uQ hT hE.1 (hx p hp)) hf;have hcsl:cs.length=len * szT P e:=by rw [zH3 _ _ _ hf,hfl]
 have hwid:=OG (zGO hz);obtain ⟨k1,k2,k3,k4⟩:=TB hwid len cs hcsl hcr.one;have hparts:(parts.map fun (p:Nat×Operand)=>(p.1,a.eval p.2)).toList=parts.toList.map fun p=>(p.1,a.eval p.2):=by simp
 have hrun:(Instr.buildSlice t len (parts.map fun (i,x)=>(i,a.eval x))).run P w=.ok (.slice (some ⟨w.heap.size,0,none⟩) len len) (w.alloc (.cells vs' e)):=by
  have n1:¬ (2 ^ 24<len * i.size):=by rw [ht.size];omega
  simp only [madeCells] at hfill
  by_cases h0:len * i.size=0
  ·rw [ht.size] at h0;simp [Instr.buildSlice,run_underlying ht.und,sizeOf,typeInfo,ht.info,ht.size,h0,newRow]
   have:(Array.range (len * szT P e)).map (fun i=>z'.cells[i % z'.cells.size]!)=#[]:=by rw [h0];simp
   rw [this] at hfill;have h00:(Array.range 0).map (fun _=>(default:Value))=#[]:=by simp
   rw [h00,hfill];simp
  ·rw [ht.size] at h0 n1;simp [Instr.buildSlice,run_underlying ht.und,sizeOf,typeInfo,ht.info,ht.size,h0,newRow,n1,hzr,hfill]
 refine qG (v:=.slice (some ⟨w.heap.size,0,none⟩) len len) (w':=w.alloc (.cells vs' e)) ?_ ?_
 ·unfold execOp;rw [ho];simp only [];rw [Sem.run_bind,hrun];rfl
 ·refine hT.new (p:=.at w.heap.size len) (JZ _ _) rfl hu (by simp [Option.map_map,Function.comp_def]) (fun b c hp=>by injection hp with hp;omega) ?_ ?_
  ·refine .inr ⟨_,_,_,rfl,heap_alloc_new w _,by rw [hcr.size,hcsl],by rw [k4];exact Nat.le_refl _,by rw [jT];omega,k2,k3,?_⟩;intro i' x j c hi hj;have hfg:=dD k2 hi hj;rw [k1] at hfg;have hr:=(hcr.rep _ _ hfg).bare (T':=Tbl.empty) (AV.pures_get hpure hfg);refine hr.mono (by simp) (fun b _ hlt=>heap_alloc_old w _ b hlt) (fun b hI hlt=>?_) (fun _ _ h=>h);refine ⟨hI.1,fun id bx cap hl hTi=>?_⟩;rw [fI] at hl;simp only [gZ] at hl
   by_cases e':id=hn.id
   ·subst e';rw [Tbl.put_same] at hTi;injection hTi with hTi;injection hTi with hTi;omega
   ·rw [if_neg e'] at hl;rw [Tbl.put_ne _ _ e'] at hTi;exact hI.2 id bx cap hl hTi
  ·intro d av' he;obtain ⟨hlt,rfl⟩:=tS hd he;exact ⟨by omega,.own (Tbl.put_same _ _ _) (Nat.le_refl _) (by rw [jT];omega)⟩
/-! Copy. -/
def WO:AV->Option (Nat×Nat×Nat)
 | .own id n=>some (id,0,n)
 | .part id _ lo hi=>some (id,lo,hi)
 | _=>none
def zFb (x:AV) (sz:Nat):Bool:=match x with | .part _ s _ _=>Nat.beq s sz | _=>true
def QO (P:Program) (t:TypeId) (x y:AV) (B:Nat->y7) (h:wF):Option (List Prop×List Nat×Nat×Box×AV) :=
 match cA P t,WO x with
 | some e,some (id,lo,hi) =>
  match B id with
  | .live (.row e' sz l) =>
   bif Nat.beq sz (szT P e)&&zFb x sz then
    match lF P sz y B with
    | some (vc,ids,m) =>
     some (vc++[iD y m,lo<=hi,hi<=l.length,h.n=min m.length (hi - lo),h.l=l.take lo++m.take h.n++l.drop (lo+h.n)],ids,id,.row e' sz h.l,.int .i64 h.n)
    | none=>none
   else none
  | _=>none
 | _,_=>none
theorem zHL {P:Program} {t t2 e tt:TypeId} {i:TypeInfo} {z:Value} {w:World} {ty:TypeId} (ht:i6 P t e i z) {b o dLen dCap n:Nat} {C:Array Value} {x:Value} {news:List Value} {m:Nat}
  (hlen:(Builtin.lenOf x).run P w=.ok m w) (hn:n=min m dLen) (hfx:(Builtin.firstCells (szT P e) n x).run P w=.ok news.toArray w)
  (hh:w.heap[b]?=some (.cells C tt (0,0))) (hfit:o+news.length<=C.size) (h1:∀ u∈news,u.oneCell'=true) :
  (Builtin.copy_ #[t,t2] ty #[.slice (some ⟨b,o,none⟩) dLen dCap,x]).run P w=.ok (goInt n) (w.setRow b (C.toList.take o++news++C.toList.drop (o+news.length)).toArray):=by
 have hst:=run_storeCells_at P b o tt news 0 C w hh (by simpa using hfit) h1;simp only [Nat.add_zero] at hst;rw [hn] at hfx;simp only [Builtin.copy_,List.getElem?_toArray,List.getElem?_cons_zero,List.getElem?_cons_succ,Sem.run_bind,run_underlying ht.und,Result.andThen_ok,sizeOf,typeInfo,run_program,ht.info,Sem.run_pure,ht.size,hlen]
 have:Nat.min m dLen=min m dLen:=rfl
 rw [this,hfx];simp [hst,hn]
theorem zEn {P:Program} {t t2 e:TypeId} {i:TypeInfo} {z:Value} {w:World} {ty:TypeId} (ht:i6 P t e i z) {base:Option Addr} {dCap:Nat} {x:Value} {m:Nat}
  (hlen:(Builtin.lenOf x).run P w=.ok m w) (hfx:(Builtin.firstCells (szT P e) 0 x).run P w=.ok #[] w) :
  (Builtin.copy_ #[t,t2] ty #[.slice base 0 dCap,x]).run P w=.ok (goInt 0) w:=by
 simp only [Builtin.copy_,List.getElem?_toArray,List.getElem?_cons_zero,List.getElem?_cons_succ,Sem.run_bind,run_underlying ht.und,Result.andThen_ok,sizeOf,typeInfo,run_program,ht.info,Sem.run_pure,ht.size,hlen]
 have:Nat.min m 0=0:=Nat.min_zero m
 rw [this,hfx];cases base<;>simp [storeCells]
theorem zFi {P:Program} {N np:Nat} {o:Oper} {t t2:TypeId} {x y:Operand} {rs:List (Nat×AV)} {hn:wF} {B:Nat->y7} {r:List Prop×List Nat×Nat×Box×AV}
  (ho:o.op=.call { callee:=.builtin .copy,args:=#[x,y],argTypes:=#[t,t2] }) (hx:x5 x=true) (hy:x5 y=true)
  (h:QO P t (xZ rs x) (nz (xZ rs y)) B hn=some r) (hv:∀ p∈r.1,p) (hd:tY N o.dst=true) :
  qD P N np o { rs:=rs,rb:=(r.2.2.1,B r.2.2.1)::r.2.1.map (fun i=>(i,B i)),dst:=o.dst.map fun d=>(d,r.2.2.2.2),wb:=[(r.2.2.1,.live r.2.2.2.1)] }:=by
 intro G st a w hN hnp hE ⟨T,hT⟩;have hrx:=uQ hT hE.1 hx;have hry:=nN (uQ hT hE.1 hy);unfold QO at h
 split at h
 case h_2=>cases h
 rename_i e id lo hi hrow hX
 obtain ⟨i,z,ht⟩:=gL hrow
 split at h
 case h_2=>cases h
 rename_i e' sz l hB
 replace h:=x8 h;obtain ⟨hc,h⟩:=h;simp only [zba] at hc;have hsz:=w7.1 hc.1;have hps:=hc.2
 split at h
 case h_2=>cases h
 rename_i vc ids m hsrc
 injection h with h;subst h;simp only at hE hv;have hlohi:lo<=hi:=hv _ (by simp);have hhil:hi<=l.length:=hv _ (by simp);have hn':hn.n=min m.length (hi - lo):=hv _ (by simp);have hL:hn.l=l.take lo++m.take hn.n++l.drop (lo+hn.n):=hv _ (by simp);obtain ⟨news,hs⟩:=E3 hT hry hsrc (fun i hi=>hE.2 (i,B i) (List.mem_cons_of_mem _ (List.mem_map.2 ⟨i,hi,rfl⟩))) (fun p hp=>hv p (by simp at hp ⊢;exact .inl hp)) (hv _ (by simp));replace hs:Src P w (imm G st T) sz (a.eval y) m news:=hs;have hb:st.box id=.live (.row e' sz l):=(hE.2 (id,B id) (by simp)).trans hB;have hrun:∀ (v:Value) (w':World),(Builtin.copy_ #[t,t2] o.type #[a.eval x,a.eval y]).run P w=.ok v w'->(execOp a.eval o).run P w=.ok (.value v) w':=fun v w' hv=>by
  simp [execOp,ho,resolve,invoke,builtin,hv]
 have hmm:=hs.max
 -- nothing to copy
 have nothing:∀ {base:Option Addr} {c:Nat},a.eval x=.slice base 0 c->hi - lo=0 ->
   o.wp P a w (fun a' w'=>Rel G (st.upd { rs:=rs,rb:=(id,B id)::ids.map (fun i=>(i,B i)),dst:=o.dst.map fun d=>(d,.int .i64 hn.n),wb:=[(id,.live (.row e' sz hn.l))] }) a' w') (fun _ _ _=>False):=by
  intro base c hxv h0;have hn0:hn.n=0:=by omega
  have hLl:hn.l=l:=by rw [hL,hn0];simp
  have h0c:=hs.cells 0 w (Nat.zero_le _) (fun _ _=>rfl);simp only [Nat.zero_mul,List.take_zero] at h0c;rw [hsz] at h0c;refine qG (hrun _ _ (by rw [hxv];exact zEn ht (hs.lenOf w) h0c)) ?_;refine hT.quiet (kY w) ?_ (by simp [Option.map_map,Function.comp_def]) ?_
  ·funext j
   rw [fI];simp only [gZ]
   by_cases e1:j=id
   ·subst e1;rw [if_pos rfl,hLl,hb]
   ·rw [if_neg e1]
  ·intro d av he;obtain ⟨hlt,rfl⟩:=tS hd he;rw [hn0];exact ⟨by omega,.int (by decide)⟩
 -- the copy
 have something:∀ {b o' dl c cap:Nat},a.eval x=.slice (some ⟨b,o',none⟩) dl c->T id=some (.at b cap)->o'=lo * sz->dl=hi - lo ->
   o.wp P a w (fun a' w'=>Rel G (st.upd { rs:=rs,rb:=(id,B id)::ids.map (fun i=>(i,B i)),dst:=o.dst.map fun d=>(d,.int .i64 hn.n),wb:=[(id,.live (.row e' sz hn.l))] }) a' w') (fun _ _ _=>False):=by
  intro b o' dl c cap hxv hTi ho' hdl;have hokl:=hT.boxes id _ hb;rcases hokl with ⟨hp,_⟩ | ⟨b',cap',C,hp,hh,h1,h2',h3,h4,h5,h6⟩
  ·rw [hp] at hTi;cases hTi
  have hp0:=hp;rw [hp] at hTi;injection hTi with hTi;injection hTi with e1 e2;subst e1;subst e2;have hnm:hn.n<=m.length:=by omega
  have hfx:=hs.cells hn.n w hnm (fun _ _=>rfl);have hnl:(news.take (hn.n * sz)).length=hn.n * sz:=by
   rw [List.length_take,hs.len];exact Nat.min_eq_left (Nat.mul_le_mul_right _ hnm)
  have hfit:o'+(news.take (hn.n * sz)).length<=C.size:=by
   rw [hnl,ho',h1,<- Nat.add_mul];exact Nat.mul_le_mul_right _ (by omega)
  have hone:∀ u∈news.take (hn.n * sz),u.oneCell'=true:=by
   intro u hu';have hu'':=List.mem_of_mem_take hu';obtain ⟨k,hk⟩:=List.mem_iff_getElem?.1 hu'';have hkl:k<news.length:=by
    rcases zlg k news.length with h' | h'
    ·exact h'
    ·rw [List.getElem?_eq_none h'] at hk;cases hk
   have hkf:k<(vO m).length:=by rw [nB hs.wid,<- hs.len];exact hkl
   have:=hs.rep k _ (List.getElem?_eq_getElem hkf)
   rw [List.getD_eq_getElem?_getD,hk] at this;exact this.oneCell (LD hs.one _ (List.getElem_mem hkf))
  have hr:=zHL (P:=P) (t2:=t2) (w:=w) (ty:=o.type) ht (dLen:=dl) (dCap:=c) (n:=hn.n) (hs.lenOf w) (by rw [hdl];exact hn') (by rw [<- hsz];exact hfx) hh hfit hone;refine qG (hrun _ _ (by rw [hxv];exact hr)) ?_;have hmem:∀ av∈hn.l,av∈l\/av∈m:=by
   intro av hav;rw [hL] at hav;rcases List.mem_append.1 hav with hav | hav
   ·rcases List.mem_append.1 hav with hav | hav
    ·exact .inl (List.mem_of_mem_take hav)
    ·exact .inr (List.mem_of_mem_take hav)
   ·exact .inl (List.mem_of_mem_drop hav)
  have hLlen:hn.l.length=l.length:=by
   rw [hL];simp;omega
  refine hT.write hb hp0 LX rfl (by simp [Option.map_map,Function.comp_def]) ?_ ?_
  ·have hmono:∀ {v av},Rep w (imm G st T) Tbl.empty v av->Rep (w.setRow b' (C.toList.take o'++news.take (hn.n * sz)++C.toList.drop (o'+(news.take (hn.n * sz)).length)).toArray) (imm G st T) Tbl.empty v av:=fun h =>
    h.mono (by simp) (fun b2 hI _=>setRow_other w b' b2 _ (fun e=>by subst e;exact hI.2 id _ cap' hb hp0)) (fun _ h _=>h) (fun _ _ h=>h)
   refine .inr ⟨b',cap',_,hp0,setRow_heap w b' C _ e' _ hh,by simp [hnl];rw [hnl] at hfit;omega,by rw [hLlen];exact h2',h3,?_,?_,?_⟩
   ·intro av hav;rcases hmem av hav with h' | h'
    ·exact h4 av h'
    ·exact hs.wid av h'
   ·intro av hav;rcases hmem av hav with h' | h'
    ·exact h5 av h'
    ·exact hs.one av h'
   ·intro i' av j c' hi' hj;have hav:=List.mem_of_getElem? hi';have hjl:j<sz:=by
     have:av.cells.length=sz:=by
      rcases hmem av hav with h' | h'
      ·exact h4 av h'
      ·exact hs.wid av h'
     rw [<- this];rcases zlg j av.cells.length with h' | h'
     ·exact h'
     ·rw [List.getElem?_eq_none h'] at hj;cases hj
    rw [NT hfit];rw [hL] at hi';have hlt0:(l.take lo).length=lo:=by simp;omega
    have hmt:(m.take hn.n).length=hn.n:=by simp;omega
    rcases zlg i' lo with c1 | c1
    ·have hneg:¬ (o'<=i' * sz+j/\i' * sz+j<o'+(news.take (hn.n * sz)).length):=by
      rw [hnl,ho']
      have:=Nat.mul_le_mul_right sz (show i'+1<=lo by omega)
      rw [Nat.add_mul] at this;omega
     rw [if_neg hneg];rw [List.append_assoc,List.getElem?_append_left (by omega),List.getElem?_take,if_pos c1] at hi';exact hmono (h6 i' av j c' hi' hj)
    ·rcases zlg i' (lo+hn.n) with c2 | c2
     ·have hpos:o'<=i' * sz+j/\i' * sz+j<o'+(news.take (hn.n * sz)).length:=by
       rw [hnl,ho'];have a1:=Nat.mul_le_mul_right sz c1;have a2:=Nat.mul_le_mul_right sz (show i'+1<=lo+hn.n by omega);rw [Nat.add_mul,Nat.add_mul] at a2;omega
      rw [if_pos hpos];rw [List.getElem?_append_left (by simp only [zla];omega),List.getElem?_append_right (by omega),hlt0,List.getElem?_take,if_pos (by omega)] at hi';have hfg:=dD hs.wid hi' hj;have hr:=hs.rep _ _ hfg;have e3:i' * sz+j - o'=(i' - lo) * sz+j:=by
       rw [Nat.sub_mul,ho'];have a1:=Nat.mul_le_mul_right sz c1;omega
      rw [e3];have e4:(news.take (hn.n * sz)).getD ((i' - lo) * sz+j) undef=news.getD ((i' - lo) * sz+j) undef:=by
       rw [List.getD_eq_getElem?_getD,List.getElem?_take,if_pos,<- List.getD_eq_getElem?_getD];have a2:=Nat.mul_le_mul_right sz (show i' - lo+1<=hn.n by omega);rw [Nat.add_mul] at a2;omega
      rw [e4];exact hmono hr
     ·have hneg:¬ (o'<=i' * sz+j/\i' * sz+j<o'+(news.take (hn.n * sz)).length):=by
       rw [hnl,ho']
       have:=Nat.mul_le_mul_right sz c2
       rw [Nat.add_mul] at this;omega
      rw [if_neg hneg];rw [List.getElem?_append_right (by simp only [zla];omega),List.getElem?_drop] at hi';simp only [zla,hlt0,hmt] at hi';rw [show lo+hn.n+(i' - (lo+hn.n))=i' by omega] at hi';exact hmono (h6 i' av j c' hi' hj)
  ·intro d av he;obtain ⟨hlt,rfl⟩:=tS hd he;rw [jT] at hmm;exact ⟨by omega,.int (rS (by omega))⟩
 generalize hXX:xZ rs x=X at hrx hX hps;cases X<;>simp only [WO,Option.some.injEq,Prod.mk.injEq,reduceCtorEq] at hX
 ·rename_i id' n
  obtain ⟨rfl,rfl,rfl⟩:=hX;generalize hxv:a.eval x=vx at hrx;cases hrx with
  | ownNil hTi=>exact nothing hxv rfl
  | own hTi c1 c2=>exact something hxv hTi (by omega) (by omega)
 ·rename_i id' sz' lo' hi'
  obtain ⟨rfl,rfl,rfl⟩:=hX;generalize hxv:a.eval x=vx at hrx;cases hrx with
  | part0 hc=>exact nothing hxv (by omega)
  | part hTi p1 p2 p3 p4 p5 p6 =>
   have:sz'=sz:=w7.1 hps
   exact something hxv hTi (by rw [p6,this]) p2
/-! A row of bytes converted to its own type: it is given away. -/
def RH (P:Program) (src dst:TypeId) (x:AV) (B:Nat->y7) (np:Nat):Option (List Prop×Nat×AV) :=
 match x,P.underlying dst with
 | .own id n,some (.slice e) =>
  match B id with
  | .live (.row _ sz l)=>bif (gS P e&&Nat.beq src dst)&&Nat.ble np id then some ([n=l.length,0<n],id,.sl false sz l) else none
  | _=>none
 | _,_=>none
theorem zHr {P:Program} {N np:Nat} {o:Oper} {src dst:TypeId} {x:Operand} {rs:List (Nat×AV)} {B:Nat->y7} {r:List Prop×Nat×AV}
  (ho:o.op=.convert src dst x) (hx:x5 x=true) (h:RH P src dst (xZ rs x) B np=some r) (hv:∀ p∈r.1,p) (hd:tY N o.dst=true) :
  qD P N np o { rs:=rs,rb:=[(r.2.1,B r.2.1)],dst:=o.dst.map fun d=>(d,r.2.2),wb:=[(r.2.1,.dead)] }:=by
 intro G st a w hN hnp hE ⟨T,hT⟩;have hrx:=uQ hT hE.1 hx;unfold RH at h
 split at h
 case h_2=>cases h
 rename_i id n e hX hdd
 split at h
 case h_2=>cases h
 rename_i e' sz l hB
 replace h:=x8 h;obtain ⟨hc,h⟩:=h;simp only [zba] at hc;injection h with h;subst h;simp only at hE hv;have hlen:n=l.length:=hv _ (by simp);have hpos:0<n:=hv _ (by simp);have he:=OS hc.1.1;have hsd:=w7.1 hc.1.2;subst hsd;have hnpid:np<=id:=zle hc.2;have hlive:st.box id=.live (.row e' sz l):=(hE.2 (id,B id) (by simp)).trans hB;rw [hX] at hrx;generalize hxv:a.eval x=vx at hrx;cases hrx with
 | ownNil hTi=>omega
 | own hTi c1 c2 =>
 rename_i b cap
 rcases hT.boxes id _ hlive with ⟨hp,_⟩ | ⟨b',cap',C,hp,hh,k1,k2,k3,k4,k5,k6⟩
 ·rw [hTi] at hp;cases hp
 rw [hTi] at hp;injection hp with hp;injection hp with hp1 hp2;subst hp1;subst hp2;have hbl:b<w.heap.size:=by
  rcases zlg b w.heap.size with h' | h'
  ·exact h'
  ·rw [Array.getElem?_eq_none h'] at hh;cases hh
 let w2:World:=w.freeze ⟨b,C.size,none⟩ 1
 have hh2:w2.heap[b]?=some (.cells C e' (C.size,C.size+1)):=by
  simp only [w2,World.freeze,Nat.succ_ne_zero,if_false,Array.getElem?_modify,if_true,hh,Option.map_some];rfl
 have hh3:∀ c,c≠b->w2.heap[c]?=w.heap[c]?:=by
  intro c hb;simp only [w2,World.freeze,Nat.succ_ne_zero,if_false,Array.getElem?_modify];rw [if_neg (fun e=>hb e.symm)]
 have hg:w.grownBy w2 (some b):=by
  refine ⟨rfl,rfl,rfl,?_,fun k _ hk=>hh3 k fun e=>hk (by rw [e])⟩;simp [w2,World.freeze]
 have hrun:(execOp a.eval o).run P w=.ok (.value (.slice (some ⟨b,0,none⟩) n cap)) w2:=by
  have hsem:(markStringish ⟨b,0,none⟩).run P w=.ok () w2:=by
   have hshape:w.shape? b=some (e',C.size):=by simp [World.shape?,hh]
   simp only [markStringish,shape,Sem.run_bind,Sem.run,hshape,Result.andThen_ok,freeze];rfl
  simp only [execOp,ho,convert,Sem.run_bind,run_underlying hdd,Result.andThen_ok,hxv,beq_self_eq_true,run_underlying he,hsem,Sem.run_pure]
 have hb:∀ i,(st.upd { rs:=rs,rb:=[(id,B id)],dst:=o.dst.map fun d=>(d,AV.sl false sz l),wb:=[(id,.dead)] }).box i=if i=id then .dead else st.box i:=fun i=>by
  rw [fI];exact gZ _ _ _ _
 have hmine:=hT.mine id _ b cap hlive hTi (by omega);have himm:∀ c,imm G st T c->imm G (st.upd { rs:=rs,rb:=[(id,B id)],dst:=o.dst.map fun d=>(d,AV.sl false sz l),wb:=[(id,.dead)] }) T c:=by
  intro c hI;refine ⟨hI.1,fun i bxi cp hli hTi'=>?_⟩;rw [hb] at hli
  by_cases e:i=id
  ·rw [if_pos e] at hli;cases hli
  ·rw [if_neg e] at hli;exact hI.2 i bxi cp hli hTi'
 have himmb:imm G (st.upd { rs:=rs,rb:=[(id,B id)],dst:=o.dst.map fun d=>(d,AV.sl false sz l),wb:=[(id,.dead)] }) T b:=by
  refine ⟨.inr hmine,fun i bxi cp hli hTi'=>?_⟩;rw [hb] at hli
  by_cases e:i=id
  ·rw [if_pos e] at hli;cases hli
  ·rw [if_neg e] at hli;exact e (hT.apart i id bxi _ b cp cap hli hlive hTi' hTi)
 have hcI:∀ c,imm G st T c->c<w.heap.size->w2.heap[c]?=w.heap[c]?:=fun c hc _=>hh3 c fun e=>by
  subst e;exact hc.2 id _ cap hlive hTi
 refine qG hrun (hT.step (row:=some b) hg (fun _ _ h=>h) (fun g hg=>by injection hg with hg;subst hg;exact ⟨id,_,cap,hlive,hTi⟩) (fun c hc _=>himm c hc) (by simp [Option.map_map,Function.comp_def]) ?_ ?_ ?_ ?_)
 ·intro d av hEd;obtain ⟨hlt,rfl⟩:=tS hd hEd;refine ⟨by omega,?_⟩;refine RJ hh2 himmb hlen c1 c2 k4 k5 (by rw [k1];exact Nat.mul_le_mul_right _ k2) ?_;intro k c hk;obtain ⟨i,j,av,rfl,hi,hj⟩:=LC k4 hk;exact (k6 i av j c hi hj).mono hg.size hcI (fun c hc _=>himm c hc) (fun _ _ h=>h)
 ·intro i bxi hli;rw [hb] at hli
  by_cases e:i=id
  ·rw [if_pos e] at hli;cases hli
  ·rw [if_neg e] at hli;refine .inl ⟨hli,fun g cp hg hTi'=>?_⟩;injection hg with hg;subst hg;exact e (hT.apart i id bxi _ b cp cap hli hlive hTi' hTi)
 ·intro i hu;rw [hb] at hu
  by_cases e:i=id
  ·rw [if_pos e] at hu;cases hu
  ·rw [if_neg e] at hu;exact hT.unused i hu
 ·intro i1 i2 b1 b2 c d1 d2 h1 h2 t1 t2;rw [hb] at h1 h2
  by_cases e:i1=id
  ·rw [if_pos e] at h1;cases h1
  ·by_cases e2:i2=id
   ·rw [if_pos e2] at h2;cases h2
   ·rw [if_neg e] at h1;rw [if_neg e2] at h2;exact hT.apart i1 i2 b1 b2 c d1 d2 h1 h2 t1 t2
end Go.Ab
