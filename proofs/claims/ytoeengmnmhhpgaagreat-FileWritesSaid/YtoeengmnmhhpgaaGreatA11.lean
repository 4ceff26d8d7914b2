/- Operations on the call's own blocks: new k8, loads, stores. -/
import Derived.Test.YtoeengmnmhhpgaaGreatA9
namespace Go.Ab
open Go
def aT (agg:Bool) (sz:Nat):Nat->List AV->List AV
 | 0,_=>[]
 | n+1,cs=>(bif agg then AV.agg (cs.take sz) else cs.headD .junk)::aT agg sz n (cs.drop sz)
theorem TB {agg:Bool} {sz:Nat} (hs:agg=false->sz=1):∀ (n:Nat) (cs:List AV),cs.length=n * sz->(∀ c∈cs,c.one=true) ->
  vO (aT agg sz n cs)=cs/\(∀ av∈aT agg sz n cs,av.cells.length=sz)/\(∀ av∈aT agg sz n cs,∀ c∈av.cells,c.one=true)/\(aT agg sz n cs).length=n:=by
 intro n
 induction n with
 | zero=>intro cs hl _;simp at hl;subst hl;simp [aT,vO]
 | succ n ih =>
  intro cs hl h1;rw [Nat.add_mul,Nat.one_mul] at hl;obtain ⟨e1,e2,e3,e4⟩:=ih (cs.drop sz) (by simp;omega) (fun c hc=>h1 c (List.mem_of_mem_drop hc));have hd:(bif agg then AV.agg (cs.take sz) else cs.headD .junk).cells=cs.take sz/\(bif agg then AV.agg (cs.take sz) else cs.headD .junk).cells.length=sz:=by
   cases agg
   ·have:=hs rfl
    subst this;cases cs with
    | nil=>simp at hl
    | cons a r =>
     have ha:=h1 a (by simp)
     have:a.cells=[a]:=by cases a<;>simp_all [AV.one,AV.cells]
     simp [this]
   ·simp [AV.cells];omega
  refine ⟨?_,?_,?_,by simp [aT,e4]⟩
  ·simp only [aT,vO,List.flatMap_cons] at e1 ⊢;rw [e1,hd.1,List.take_append_drop]
  ·intro av hav;simp only [aT,List.mem_cons] at hav;rcases hav with rfl | hav
   ·exact hd.2
   ·exact e2 av hav
  ·intro av hav c hc;simp only [aT,List.mem_cons] at hav;rcases hav with rfl | hav
   ·rw [hd.1] at hc;exact h1 c (List.mem_of_mem_take hc)
   ·exact e3 av hav c hc
def dQ (P:Program) (e:TypeId):Bool:=uH P e||Nat.beq (szT P e) 1
theorem OG {P:Program} {e:TypeId} (h:dQ P e=true):uH P e=false->szT P e=1:=by
 intro h0;simp only [dQ,h0,Bool.false_or] at h;exact w7.1 h
def H6 (P:Program) (t:TypeId):Option (Nat×TypeId):=match P.underlying t with | some (.array n e)=>some (n,e) | _=>none
def N1 (P:Program) (t:TypeId) (h:wF):Option (Box×Nat) :=
 match DC P t with
 | none=>none
 | some cs =>
  bif h.b then
   match H6 P t with
   | some (n,e)=>bif ((uT P e&&dQ P e)&&(Nat.beq cs.length (n * szT P e)&&AV.pures cs))&&Nat.ble n 9223372036854775807 then some (.row t (szT P e) (aT (uH P e) (szT P e) n cs),n) else none
   | none=>none
  else some (.var t cs,0)
theorem XR {P:Program} {w:World} {t:TypeId} {v:Value}:(newVar t v).run P w=.ok ⟨w.heap.size,0,none⟩ (w.alloc (.cells v.cells t)):=by
 simp [newVar,newRow]
theorem zGt {P:Program} {t:TypeId} {hn:wF} {bx:Box} {cap:Nat} {w:World} (h:N1 P t hn=some (bx,cap)) :
  ∃ z,(zeroValue t).run P w=.ok z w/\∀ I T w',w'.heap[w.heap.size]?=some (.cells z.cells t (0,0))->kC w' I T (some (.at w.heap.size cap)) bx:=by
 unfold N1 at h
 split at h
 ·cases h
 rename_i cs hz
 obtain ⟨z,_,_,hzr⟩:=gP (w:=w) (I:=fun _=>True) (T:=Tbl.empty) hz;refine ⟨z,hzr,fun I T w' hh=>?_⟩;obtain ⟨z',hz1,hc,_⟩:=gP (w:=w') (I:=I) (T:=T) hz;obtain ⟨z'',hz2,hc2,_⟩:=gP (w:=w') (I:=I) (T:=Tbl.empty) hz;have e1:z'=z:=by
  obtain ⟨z3,hz3,_,hr3⟩:=gP (w:=w) (I:=fun _=>True) (T:=Tbl.empty) hz;rw [hzr] at hr3;injection hr3 with hr3;rw [hz1] at hz3;injection hz3 with hz3;rw [hz3,hr3]
 have e2:z''=z:=by rw [hz1] at hz2;injection hz2 with hz2;rw [<- hz2,e1]
 subst e1;subst e2;cases hb:hn.b
 ·rw [hb] at h;simp only [cond_false,Option.some.injEq,Prod.mk.injEq] at h;obtain ⟨rfl,rfl⟩:=h;exact ⟨_,_,rfl,hh,hc.size,hc.one,hc.rep⟩
 ·rw [hb] at h;simp only [cond_true] at h
  split at h
  ·rename_i n e ha
   replace h:=x8 h;obtain ⟨hc',h⟩:=h;simp only [zba] at hc';obtain ⟨⟨⟨hk,hwid⟩,hlen,hp⟩,hmx⟩:=hc';simp only [Option.some.injEq,Prod.mk.injEq] at h;obtain ⟨rfl,rfl⟩:=h;obtain ⟨f1,f2,f3,f4⟩:=TB (OG hwid) n cs (w7.1 hlen) hc.one;refine .inr ⟨_,_,_,rfl,hh,by rw [hc.size];exact w7.1 hlen,by rw [f4];exact Nat.le_refl _,by rw [jT];exact zle hmx,f2,f3,?_⟩;intro i av j c hi hj
   have:=dD f2 hi hj
   rw [f1] at this;exact hc2.rep _ _ this
  ·cases h
theorem zDS {P:Program} {N np:Nat} {o:Oper} {t:TypeId} {rs:List (Nat×AV)} {hn:wF} {bx:Box} {cap:Nat} (ho:o.op=.alloc t) (h:N1 P t hn=some (bx,cap)) (hd:tY N o.dst=true) :
  qD P N np o { rs:=rs,rb:=[(hn.id,.unused)],dst:=o.dst.map fun d=>(d,.ptr hn.id 0 0 0),wb:=[(hn.id,.live bx)] }:=by
 intro G st a w hN hnp hE ⟨T,hT⟩;obtain ⟨z,hzr,hbox⟩:=zGt (w:=w) h;refine qG (v:=.pointer (some ⟨w.heap.size,0,none⟩)) (w':=w.alloc (.cells z.cells t)) ?_ ?_
 ·simp only [execOp,ho,Instr.alloc,Sem.run_bind,hzr,Result.andThen_ok,XR];rfl
 ·have hu:st.box hn.id=.unused:=hE.2 (hn.id,.unused) (by simp);refine hT.new (p:=.at w.heap.size cap) (JZ _ _) rfl hu (by simp [Option.map_map,Function.comp_def]) (fun b c hp=>by injection hp with hp;omega) ?_ ?_
  ·exact hbox _ _ _ (heap_alloc_new w _)
  ·intro d av he;obtain ⟨hlt,rfl⟩:=tS hd he;exact ⟨by omega,.ptr (Tbl.put_same _ _ _) (by omega)⟩
def QK (P:Program) (t:TypeId) (cs:List AV) (h:wF):Option (Box×Nat) :=
 bif h.b then
  match H6 P t with
  | some (n,e)=>bif ((uT P e&&dQ P e)&&(Nat.beq cs.length (n * szT P e)&&AV.pures cs))&&Nat.ble n 9223372036854775807 then some (.row t (szT P e) (aT (uH P e) (szT P e) n cs),n) else none
  | none=>none
 else some (.var t cs,0)
theorem zBf {P:Program} {N np:Nat} {o:Oper} {t:TypeId} {x:Operand} {rs:List (Nat×AV)} {hn:wF} {bx:Box} {cap:Nat} (ho:o.op=.box t x) (hx:x5 x=true) (hc:aC (xZ rs x)=true)
  (hb:QK P t (xZ rs x).cells hn=some (bx,cap)) (hd:tY N o.dst=true) :
  qD P N np o { rs:=rs,rb:=[(hn.id,.unused)],dst:=o.dst.map fun d=>(d,.ptr hn.id 0 0 0),wb:=[(hn.id,.live bx)] }:=by
 intro G st a w hN hnp hE ⟨T,hT⟩;have hrep:=uQ hT hE.1 hx;refine qG (v:=.pointer (some ⟨w.heap.size,0,none⟩)) (w':=w.alloc (.cells (a.eval x).cells t)) ?_ ?_
 ·simp only [execOp,ho,Instr.box,Sem.run_bind,Result.andThen_ok,XR];rfl
 ·have hu:st.box hn.id=.unused:=hE.2 (hn.id,.unused) (by simp);obtain ⟨h1,h2,h3⟩:=ES hrep hc;refine hT.new (p:=.at w.heap.size cap) (JZ _ _) rfl hu (by simp [Option.map_map,Function.comp_def]) (fun b c hp=>by injection hp with hp;omega) ?_ ?_
  ·have hrep':∀ j c,(xZ rs x).cells[j]?=some c->Rep (w.alloc (.cells (a.eval x).cells t)) (imm G (st.upd { rs:=rs,rb:=[(hn.id,.unused)],dst:=o.dst.map fun d=>(d,.ptr hn.id 0 0 0),wb:=[(hn.id,.live bx)] }) (T.put hn.id (.at w.heap.size cap))) (T.put hn.id (.at w.heap.size cap)) ((a.eval x).cells.getD j undef) c:=by
    intro j c hj;refine (h3 j c hj).mono (by simp) (fun b _ hlt=>heap_alloc_old w _ b hlt) (fun b hI hlt=>?_) (Tbl.le_put (hT.unused _ hu));refine ⟨hI.1,fun id bx cap hl hTi=>?_⟩;rw [fI] at hl;simp only [gZ] at hl
    by_cases e:id=hn.id
    ·subst e;rw [Tbl.put_same] at hTi;injection hTi with hTi;injection hTi with hTi;omega
    ·rw [if_neg e] at hl;rw [Tbl.put_ne _ _ e] at hTi;exact hI.2 id bx cap hl hTi
   unfold QK at hb;cases hbb:hn.b
   ·rw [hbb] at hb;simp only [cond_false,Option.some.injEq,Prod.mk.injEq] at hb;obtain ⟨rfl,rfl⟩:=hb;exact ⟨_,_,rfl,heap_alloc_new w _,h1,h2,hrep'⟩
   ·rw [hbb] at hb;simp only [cond_true] at hb
    split at hb
    ·rename_i n e ha
     replace hb:=x8 hb;obtain ⟨hc',hb⟩:=hb;simp only [zba] at hc';obtain ⟨⟨⟨hk,hwid⟩,hlen,hp⟩,hmx⟩:=hc';simp only [Option.some.injEq,Prod.mk.injEq] at hb;obtain ⟨rfl,rfl⟩:=hb;obtain ⟨f1,f2,f3,f4⟩:=TB (OG hwid) n _ (w7.1 hlen) h2;refine .inr ⟨_,_,_,rfl,heap_alloc_new w _,by rw [h1];exact w7.1 hlen,by rw [f4];exact Nat.le_refl _,by rw [jT];exact zle hmx,f2,f3,?_⟩;intro i av j c hi hj;have hfg:=dD f2 hi hj;rw [f1] at hfg;exact (hrep' _ _ hfg).bare (AV.pures_get hp hfg)
    ·cases hb
  ·intro d av he;obtain ⟨hlt,rfl⟩:=tS hd he;exact ⟨by omega,.ptr (Tbl.put_same _ _ _) (by omega)⟩
/-! Loads. -/
def SC (P:Program) (t:TypeId) (x:AV) (B:Nat->y7) (h:wF):Option (List Prop×Nat×AV) :=
 match x with
 | .ptr id sz i off =>
  bif uT P t then
   match B id with
   | .live (.var _ cs) =>
    bif Nat.beq i 0&&dQ P t then
     match bV P t cs off with
     | some av=>some ([],id,av)
     | none=>none
    else none
   | .live (.row _ sz' l) =>
    bif dQ P t then
     bif h.b then
      bif (Nat.beq i 0&&Nat.beq off 0)&&uH P t then some ([vO l=h.l,h.l.length=szT P t],id,.agg h.l) else none
     else
      bif Nat.beq sz sz' then
       match bV P t h.av.cells off with
       | some av=>some ([l[i]?=some h.av],id,av)
       | none=>none
      else none
    else none
   | _=>none
  else none
 | _=>none
theorem zDG {P:Program} {N np:Nat} {o:Oper} {t:TypeId} {x:Operand} {rs:List (Nat×AV)} {hn:wF} {B:Nat->y7} {r:List Prop×Nat×AV} (ho:o.op=.load t x) (hx:x5 x=true)
  (h:SC P t (xZ rs x) B hn=some r) (hv:∀ p∈r.1,p) (hd:tY N o.dst=true) :
  qD P N np o { rs:=rs,rb:=[(r.2.1,B r.2.1)],dst:=o.dst.map fun d=>(d,r.2.2) }:=by
 intro G st a w hN hnp hE ⟨T,hT⟩;have hrep:=uQ hT hE.1 hx;unfold SC at h
 split at h
 case h_2=>cases h
 rename_i id sz i off hX
 rw [hX] at hrep;replace h:=x8 h;obtain ⟨hk,h⟩:=h
 -- the load itself
 have fin:∀ {b o':Nat} {av:AV} {g:Nat->Value},a.eval x=.pointer (some ⟨b,o',none⟩)->(uH P t=true->av=.agg av.cells/\av.cells.length=szT P t)->(uH P t=false->av.cells=[av]) ->
   (∀ c∈av.cells,c.one=true)->(∀ j c,av.cells[j]?=some c->w.cell? ⟨b,o'+j,none⟩=some (g j))->(∀ j c,av.cells[j]?=some c->Rep w (imm G st T) T (g j) c) ->
   o.wp P a w (fun a' w'=>Rel G (st.upd { rs:=rs,rb:=[(id,B id)],dst:=o.dst.map fun d=>(d,av) }) a' w') (fun _ _ _=>False):=by
  intro b o' av g he h1 h2 h3 h4 h5;obtain ⟨v,hrun,hr⟩:=SO hk h1 h2 h4 h3 h5;refine qG (v:=v) (w':=w) ?_ ?_
  ·simp only [execOp,ho,he,Instr.loadAt,Instr.sureAddr,Sem.run_bind,Sem.run_pure,Result.andThen_ok,hrun]
  ·refine hT.quiet (kY w) rfl (by simp [Option.map_map,Function.comp_def]) ?_;intro d av' he';obtain ⟨hlt,rfl⟩:=tS hd he';exact ⟨by omega,hr⟩
 generalize he:a.eval x=vx at hrep;cases hrep with
 | ptr hTi ho' =>
 rename_i o' b cap
 split at h
 ·rename_i tt cs hB
  replace h:=x8 h;obtain ⟨hi,h⟩:=h;simp only [zba] at hi;have hi0:=w7.1 hi.1
  split at h
  ·rename_i av hav
   injection h with h;subst h;simp only at hE hv;have hb:st.box id=.live (.var tt cs):=(hE.2 (id,B id) (by simp)).trans hB;obtain ⟨b',C,hp,hh,h1,h2,h3⟩:=hT.boxes id _ hb;rw [hTi] at hp;injection hp with hp;injection hp with hp1 hp2;subst hp1;obtain ⟨ha,hnn,hsub,hone⟩:=B8 hav h2;refine fin (g:=fun j=>C.getD (off+j) undef) he ha hnn hone ?_ ?_
   ·intro j c hj;have hs:=hsub j c hj;have hlt:off+j<C.size:=by
     rw [h1];rcases zlg (off+j) cs.length with h' | h'
     ·exact h'
     ·rw [List.getElem?_eq_none h'] at hs;cases hs
    rw [ho',hi0];simp [World.cell?,hh,hlt]
   ·intro j c hj;exact h3 _ _ (hsub j c hj)
  ·cases h
 ·rename_i e sz' l hB
  replace h:=x8 h;obtain ⟨hw,h⟩:=h;cases hb2:hn.b
  ·rw [hb2] at h;simp only [cond_false] at h;replace h:=x8 h;obtain ⟨hs,h⟩:=h;have hsz:=w7.1 hs;subst hsz
   split at h
   ·rename_i av hav
    injection h with h;subst h;simp only at hE hv;have hget:l[i]?=some hn.av:=hv _ (by simp);have hb:st.box id=.live (.row e sz l):=(hE.2 (id,B id) (by simp)).trans hB;rcases hT.boxes id _ hb with ⟨hp,_⟩ | ⟨b',cap',C,hp,hh,h1,h2,h3,h4,h5,h6⟩
    ·rw [hTi] at hp;cases hp
    rw [hTi] at hp;injection hp with hp;injection hp with hp1 hp2;subst hp1;obtain ⟨ha,hnn,hsub,hone⟩:=B8 hav (h5 _ (List.mem_of_getElem? hget));refine fin (g:=fun j=>C.getD (i * sz+(off+j)) undef) he ha hnn hone ?_ ?_
    ·intro j c hj;have hs:=dD h4 hget (hsub j c hj);have hlt:i * sz+(off+j)<C.size:=by
      have:i * sz+(off+j)<(vO l).length:=by
       rcases zlg (i * sz+(off+j)) (vO l).length with h' | h'
       ·exact h'
       ·rw [List.getElem?_eq_none h'] at hs;cases hs
      rw [nB h4] at this
      have:=Nat.mul_le_mul_right sz h2
      omega
     rw [ho',Nat.add_assoc];simp [World.cell?,hh,hlt]
    ·intro j c hj;exact (h6 i _ _ c hget (hsub j c hj)).mono (Nat.le_refl _) (fun _ _ _=>rfl) (fun _ h _=>h) (fun i p hp=>by simp [Tbl.empty] at hp)
   ·cases h
  ·rw [hb2] at h;simp only [cond_true] at h;replace h:=x8 h;obtain ⟨hs,h⟩:=h;simp only [zba] at hs;obtain ⟨⟨z1,z2⟩,hagg⟩:=hs;have z1:=w7.1 z1;have z2:=w7.1 z2;injection h with h;subst h;simp only at hE hv;have hfl:vO l=hn.l:=hv _ (by simp);have hln:hn.l.length=szT P t:=hv _ (by simp);have hb:st.box id=.live (.row e sz' l):=(hE.2 (id,B id) (by simp)).trans hB;rcases hT.boxes id _ hb with ⟨hp,_⟩ | ⟨b',cap',C,hp,hh,h1,h2,h3,h4,h5,h6⟩
   ·rw [hTi] at hp;cases hp
   rw [hTi] at hp;injection hp with hp;injection hp with hp1 hp2;subst hp1;refine fin (g:=fun j=>C.getD j undef) he (fun _=>⟨rfl,hln⟩) (by rw [hagg];simp) ?_ ?_ ?_
   ·simp only [AV.cells];rw [<- hfl];exact LD h5
   ·intro j c hj;simp only [AV.cells] at hj;rw [<- hfl] at hj;have hlt:j<C.size:=by
     have:j<(vO l).length:=by
      rcases zlg j (vO l).length with h' | h'
      ·exact h'
      ·rw [List.getElem?_eq_none h'] at hj;cases hj
     rw [nB h4] at this
     have:=Nat.mul_le_mul_right sz' h2
     omega
    rw [ho',z1,z2];simp [World.cell?,hh,hlt]
   ·intro j c hj;simp only [AV.cells] at hj;rw [<- hfl] at hj;obtain ⟨i',j',av,he',g1,g2⟩:=LC h4 hj
    have:=h6 i' av j' c g1 g2
    rw [he'];exact this.mono (Nat.le_refl _) (fun _ _ _=>rfl) (fun _ h _=>h) (fun i p hp=>by simp [Tbl.empty] at hp)
 ·cases h
/-! Stores. -/
def cK (av:AV) (off:Nat) (vs:List AV):AV :=
 match av with
 | .agg cs=>.agg (bK cs off vs)
 | _=>vs.headD .junk
def UQ (P:Program) (t:TypeId) (x v:AV) (B:Nat->y7) (h:wF):Option (List Prop×Nat×Box) :=
 match x with
 | .ptr id sz i off =>
  bif (uT P t&&aC v)&&Nat.beq v.cells.length (szT P t) then
   match B id with
   | .live (.var tt cs)=>bif Nat.beq i 0&&Nat.ble (off+v.cells.length) cs.length then some ([],id,.var tt (bK cs off v.cells)) else none
   | .live (.row e sz' l) =>
    bif ((Nat.beq sz sz'&&v.pure)&&!(Nat.beq v.cells.length 0))&&(Nat.ble (off+v.cells.length) h.av.cells.length&&aC h.av) then
     some ([l[i]?=some h.av,h.l=l.set i (cK h.av off v.cells)],id,.row e sz' h.l)
    else none
   | _=>none
  else none
 | _=>none
theorem zFv {av:AV} {off:Nat} {vs:List AV} (h:aC av=true) (hl:off+vs.length<=av.cells.length) (h1:∀ c∈vs,c.one=true) (hv:0<vs.length) :
  (cK av off vs).cells=bK av.cells off vs:=by
 cases av with
 | agg cs=>rfl
 | _ =>
  simp only [AV.cells,zls] at hl;have e1:off=0:=by omega
  have e2:vs.length=1:=by omega
  subst e1
  match vs,e2 with
  | [a],_ =>
   have:=h1 a (by simp)
   have hc:a.cells=[a]:=by cases a<;>simp_all [AV.one,AV.cells]
   show a.cells=_;rw [hc];rfl
theorem zCj {P:Program} {w:World} {t tt:TypeId} {b off:Nat} {v:Value} {C:Array Value} (hk:uT P t=true) (hs:v.cells.size=szT P t) (hh:w.heap[b]?=some (.cells C tt (0,0)))
  (h1:∀ u∈v.cells.toList,u.oneCell'=true) (hle:off+v.cells.size<=C.size) :
  (storeVar t ⟨b,off,none⟩ v).run P w=.ok () (w.setRow b (C.toList.take off++v.cells.toList++C.toList.drop (off+v.cells.size)).toArray):=by
 have:=run_storeCells_at P b off tt v.cells.toList 0 C w hh (by simpa using hle) h1
 simp only [storeVar,Sem.run_bind,kW hk,Result.andThen_ok,hs,ne_eq,not_true_eq_false,if_false];simpa [hs] using this
theorem LX {w:World} {b:Nat} {C:Array Value}:w.grownBy (w.setRow b C) (some b) :=
 ⟨rfl,rfl,rfl,by simp,fun k _ hk=>setRow_other w b k _ (fun e=>hk (by rw [e]))⟩
theorem NT {C:Array Value} {vs:List Value} {off:Nat} (hle:off+vs.length<=C.size) (k:Nat) :
  ((C.toList.take off++vs++C.toList.drop (off+vs.length)).toArray).getD k undef=if off<=k/\k<off+vs.length then vs.getD (k - off) undef else C.getD k undef:=by
 simp only [Array.getD_eq_getD_getElem?,List.getElem?_toArray,List.getD];have hl:(C.toList.take off).length=off:=by simp;omega
 by_cases h1:k<off
 ·rw [if_neg (by omega),List.append_assoc,List.getElem?_append_left (by omega),List.getElem?_take,if_pos h1];simp
 ·by_cases h2:k<off+vs.length
  ·rw [if_pos ⟨by omega,h2⟩,List.getElem?_append_left (by simp only [zla];omega),List.getElem?_append_right (by omega),hl]
  ·rw [if_neg (by omega),List.getElem?_append_right (by simp only [zla];omega),List.getElem?_drop];simp only [zla,hl,Array.getElem?_toList];rw [show off+vs.length+(k - (off+vs.length))=k by omega]
theorem zDY {P:Program} {N np:Nat} {o:Oper} {t:TypeId} {x y:Operand} {rs:List (Nat×AV)} {hn:wF} {B:Nat->y7} {r:List Prop×Nat×Box} (ho:o.op=.store t x y) (hx:x5 x=true) (hy:x5 y=true)
  (h:UQ P t (xZ rs x) (xZ rs y) B hn=some r) (hv:∀ p∈r.1,p) (hd:o.dst=none) :
  qD P N np o { rs:=rs,rb:=[(r.2.1,B r.2.1)],wb:=[(r.2.1,.live r.2.2)] }:=by
 intro G st a w hN hnp hE ⟨T,hT⟩;have hrx:=uQ hT hE.1 hx;have hry:=uQ hT hE.1 hy;unfold UQ at h
 split at h
 case h_2=>cases h
 rename_i id sz i off hX
 rw [hX] at hrx;replace h:=x8 h;obtain ⟨hc,h⟩:=h;simp only [zba] at hc;obtain ⟨⟨hk,hok⟩,hln⟩:=hc;have hln:=w7.1 hln;obtain ⟨c1,c2,c3⟩:=ES hry hok;have hvs:(a.eval y).cells.size=szT P t:=by rw [c1,hln]
 have hone:∀ u∈(a.eval y).cells.toList,u.oneCell'=true:=by
  intro u hu;obtain ⟨j,hj⟩:=List.mem_iff_getElem?.1 hu;have hjl:j<(a.eval y).cells.size:=by
   rcases zlg j (a.eval y).cells.size with h' | h'
   ·exact h'
   ·rw [List.getElem?_eq_none (by simpa using h')] at hj;cases hj
  have hjc:j<(xZ rs y).cells.length:=by omega
  have:=c3 j _ (List.getElem?_eq_getElem hjc)
  have e:(a.eval y).cells.getD j undef=u:=by
   rw [Array.getElem?_toList] at hj;simp [Array.getD_eq_getD_getElem?,hj]
  rw [e] at this;exact this.oneCell (c2 _ (List.getElem_mem hjc))
 generalize he:a.eval x=vx at hrx;cases hrx with
 | ptr hTi ho' =>
 rename_i o' b cap
 -- the run
 have hexec:∀ {C:Array Value} {tt:TypeId},w.heap[b]?=some (.cells C tt (0,0))->o'+(a.eval y).cells.size<=C.size ->
   (execOp a.eval o).run P w=.ok .skip (w.setRow b (C.toList.take o'++(a.eval y).cells.toList++C.toList.drop (o'+(a.eval y).cells.size)).toArray):=by
  intro C tt hh hle;simp only [execOp,ho,he,Instr.storeAt,Instr.sureAddr,Sem.run_bind,Sem.run_pure,Result.andThen_ok,zCj hk hvs hh hone hle]
 split at h
 ·rename_i tt cs hB
  replace h:=x8 h;obtain ⟨hc',h⟩:=h;simp only [zba] at hc';have hi0:=w7.1 hc'.1;have hle:=zle hc'.2;injection h with h;subst h;simp only at hE hv;have hb:st.box id=.live (.var tt cs):=(hE.2 (id,B id) (by simp)).trans hB;have hokb:=hT.boxes id _ hb;obtain ⟨b',C,hp,hh,h1,h2,h3⟩:=hokb;have hp0:=hp;rw [hTi] at hp;injection hp with hp;injection hp with hp1 hp2;subst hp1;have ho2:o'=off:=by rw [ho',hi0];omega
  subst ho2;have hle2:o'+(a.eval y).cells.size<=C.size:=by omega
  unfold Oper.wp;rw [hexec hh hle2];show Rel G _ (a.put o.dst undef) _;refine hT.write hb hTi LX rfl (by rw [hd];rfl) ?_ (fun d av hE=>by cases hE);refine ⟨b,_,hp0,setRow_heap w b C _ tt _ hh,?_,?_,?_⟩
  ·rw [ND hle];simp;omega
  ·intro c hc;unfold bK at hc;rcases List.mem_append.1 hc with hc | hc
   ·rcases List.mem_append.1 hc with hc | hc
    ·exact h2 c (List.mem_of_mem_take hc)
    ·exact c2 c hc
   ·exact h2 c (List.mem_of_mem_drop hc)
  ·intro j c hj;have hmono:∀ {v av},Rep w (imm G st T) T v av->Rep (w.setRow b (C.toList.take o'++(a.eval y).cells.toList++C.toList.drop (o'+(a.eval y).cells.size)).toArray) (imm G st T) T v av:=fun h =>
    h.mono (by simp) (fun b2 hI _=>setRow_other w b b2 _ (fun e=>by subst e;exact hI.2 id _ cap hb hTi)) (fun _ h _=>h) (fun _ _ h=>h)
   rw [RB hle] at hj;have hsz:(a.eval y).cells.size=(a.eval y).cells.toList.length:=by simp
   rw [hsz,NT (by simpa using hle2)];simp only [Array.length_toList]
   by_cases k1:j<o'
   ·rw [if_pos k1] at hj;rw [if_neg (by omega)];exact hmono (h3 j c hj)
   ·rw [if_neg k1] at hj
    by_cases k2:j<o'+(xZ rs y).cells.length
    ·rw [if_pos k2] at hj;rw [if_pos (by omega)]
     have:=c3 _ c hj
     refine hmono ?_;simpa [List.getD,Array.getD_eq_getD_getElem?] using this
    ·rw [if_neg k2] at hj;rw [if_neg (by omega)];exact hmono (h3 j c hj)
 ·rename_i e sz' l hB
  replace h:=x8 h;obtain ⟨hc',h⟩:=h;simp only [zba] at hc';obtain ⟨⟨⟨hs,hpure⟩,hnz⟩,hle,hoke⟩:=hc';have hs:=w7.1 hs;have hle:=zle hle;injection h with h;subst h;simp only at hE hv;have hget:l[i]?=some hn.av:=hv _ (by simp);have hset:hn.l=l.set i (cK hn.av off (xZ rs y).cells):=hv _ (by simp);have hb:st.box id=.live (.row e sz' l):=(hE.2 (id,B id) (by simp)).trans hB;have hp0:=hT.boxes id _ hb;rcases hp0 with ⟨hp,_⟩ | ⟨b',cap',C,hp,hh,h1,h2,h3,h4,h5,h6⟩
  ·rw [hTi] at hp;cases hp
  have hp0:=hp;rw [hTi] at hp;injection hp with hp;injection hp with hp1 hp2;subst hp1;subst hs;have hil:i<l.length:=by
   rcases zlg i l.length with h' | h'
   ·exact h'
   ·rw [List.getElem?_eq_none h'] at hget;cases hget
  have hwid:=h4 _ (List.mem_of_getElem? hget);have hle2:o'+(a.eval y).cells.size<=C.size:=by
   have:=Nat.mul_le_mul_right sz (show i+1<=cap' by omega)
   rw [Nat.add_mul] at this;omega
  unfold Oper.wp;rw [hexec hh hle2];show Rel G _ (a.put o.dst undef) _;have hmono:∀ {v av},Rep w (imm G st T) Tbl.empty v av->Rep (w.setRow b (C.toList.take o'++(a.eval y).cells.toList++C.toList.drop (o'+(a.eval y).cells.size)).toArray) (imm G st T) Tbl.empty v av:=fun h =>
   h.mono (by simp) (fun b2 hI _=>setRow_other w b b2 _ (fun e=>by subst e;exact hI.2 id _ cap hb hTi)) (fun _ h _=>h) (fun _ _ h=>h)
  refine hT.write hb hTi LX rfl (by rw [hd];rfl) ?_ (fun d av hE=>by cases hE)
  by_cases hz:(xZ rs y).cells.length=0
  ·rw [hz] at hnz;simp at hnz
  have hcells:=zFv hoke hle c2 (Nat.pos_of_ne_zero hz);have hmem:∀ av∈hn.l,av∈l\/av=cK hn.av off (xZ rs y).cells:=by
   intro av hav;rw [hset] at hav;exact List.mem_or_eq_of_mem_set hav
  refine .inr ⟨b,cap',_,hp0,setRow_heap w b C _ e _ hh,?_,by rw [hset];simpa using h2,h3,?_,?_,?_⟩
  ·simp;omega
  ·intro av hav;rcases hmem av hav with h' | h'
   ·exact h4 av h'
   ·rw [h',hcells,ND hle];exact hwid
  ·intro av hav c hc;rcases hmem av hav with h' | h'
   ·exact h5 av h' c hc
   ·rw [h',hcells] at hc;unfold bK at hc;rcases List.mem_append.1 hc with hc | hc
    ·rcases List.mem_append.1 hc with hc | hc
     ·exact h5 _ (List.mem_of_getElem? hget) c (List.mem_of_mem_take hc)
     ·exact c2 c hc
    ·exact h5 _ (List.mem_of_getElem? hget) c (List.mem_of_mem_drop hc)
  ·intro i' av j c hi' hj;have hsz:(a.eval y).cells.size=(a.eval y).cells.toList.length:=by simp
   rw [hsz,NT (by simpa using hle2)];simp only [Array.length_toList];rw [hset,List.getElem?_set] at hi'
   by_cases hii:i=i'
   ·subst hii;rw [if_pos rfl,if_pos hil] at hi';injection hi' with hi';subst hi';rw [hcells,RB hle] at hj
    by_cases k1:j<off
    ·rw [if_pos k1] at hj;rw [if_neg (by omega)];exact hmono (h6 i _ j c hget hj)
    ·rw [if_neg k1] at hj
     by_cases k2:j<off+(xZ rs y).cells.length
     ·rw [if_pos k2] at hj;rw [if_pos (by omega)]
      have:=c3 _ c hj
      have hpc:c.pure=true:=by
       cases hY:xZ rs y with
       | agg cs=>rw [hY] at hj hpure;exact AV.pures_get hpure hj
       | _=>rw [hY] at hj hpure;simp only [AV.cells] at hj;cases hjo:(j - off) with
        | zero=>rw [hjo] at hj;simp at hj;subst hj;exact hpure
        | succ n=>rw [hjo] at hj;simp at hj
      have:=hmono (this.bare hpc)
      rw [show i * sz+j - o'=j - off by omega];simpa [List.getD,Array.getD_eq_getD_getElem?] using this
     ·rw [if_neg k2] at hj;rw [if_neg (by omega)];exact hmono (h6 i _ j c hget hj)
   ·rw [if_neg hii] at hi';have hjl:j<sz:=by
     rw [<- h4 _ (List.mem_of_getElem? hi')];rcases zlg j av.cells.length with h' | h'
     ·exact h'
     ·rw [List.getElem?_eq_none h'] at hj;cases hj
    have hne:¬ (o'<=i' * sz+j/\i' * sz+j<o'+(a.eval y).cells.size):=by
     rw [ho'];rcases Nat.lt_or_gt_of_ne hii with hlt | hgt
     ·have:=Nat.mul_le_mul_right sz (show i+1<=i' by omega)
      rw [Nat.add_mul] at this;omega
     ·have:=Nat.mul_le_mul_right sz (show i'+1<=i by omega)
      rw [Nat.add_mul] at this;omega
    rw [if_neg hne];exact hmono (h6 i' av j c hi' hj)
 ·cases h
end Go.Ab
