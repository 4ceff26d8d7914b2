/- A layer over the model: abstract values and states, and the rules by which the printed proofs go. No conditions. -/
import Derived.Test.YtbifmbdcejggkaaA33
import Derived.DeepKeys4
/- Structs and arrays compared. -/
namespace Go.Ab
open Go

/-- What is asked of a type whose values are compared. -/
structure kP (P:Program) (t:TypeId) (ks:List KSh):Prop where
  key:vU P t true ks
  guard:P.eqGuardType P.depth t=false
  eq:∀ (w:World) (x y:Value) (lx ly:Lit),keyOf P t x=some lx→keyOf P t y=some ly→∃ r:Bool,(Op.equal t x y).run P w=.ok r w∧(r=true↔lx=ly)

theorem zDb {P:Program} {t:TypeId} {ks:List KSh} (K:vU P t true ks) (hk:(P.keyTypeAt 100 t&&!(P.eqGuardType P.depth t))=true)
    (hw:(match P.underlying t with | some (.array _ _) | some (.struct _)=>true | _=>false)=true):kP P t ks:=by
  simp only [Bool.and_eq_true,Bool.not_eq_true'] at hk
  exact ⟨K,hk.2,fun w x y lx ly hx hy=>run_equal_deep w (m:=100) (by omega) hk.1 hw hx hy⟩

def zL4 (P:Program) (op:BinOp) (t:TypeId) (x y:AV) (h:xI):Option (List Prop×AV) :=
  match x,y with
  | .agg cs,.agg ds =>
    bif kcs h.mks cs&&kcs h.mks ds then
      match op with
      | .eql=>some ([kP P t h.mks,(h.b=true↔AV.agg cs=AV.agg ds)],.bool h.b)
      | .neq=>some ([kP P t h.mks,(h.b=true↔AV.agg cs=AV.agg ds)],.bool !h.b)
      | _=>none
    else none
  | _,_=>none

theorem zEH {P:Program} {op:BinOp} {t:TypeId} {x y:Operand} {w:World} {X Y:Array Value} (h:P.eqGuardType P.depth t=false) :
    (eqGuard op t x y (.agg X) (.agg Y)).run P w=.ok () w:=by
  unfold eqGuard
  cases op<;>simp [h]

theorem zHW {P:Program} {N np:Nat} {o:Oper} {op:BinOp} {t yT:TypeId} {x y:Operand} {rs:List (Nat×AV)} {hn:xI} {r:List Prop×AV}
    (ho:o.op=.binOp op t x y yT) (hx:y3 x=true) (hy:y3 y=true)
    (h:zL4 P op t (z9 rs x) (z9 rs y) hn=some r) (hv:∀ p∈r.1,p) (hd:vP N o.dst=true) :
    wU P N np o { rs:=rs,dst:=o.dst.map fun d=>(d,r.2) }:=by
  intro G st a w hN hnp hE ⟨T,hT⟩
  have hrx:=y1 hT hE.1 hx
  have hry:=y1 hT hE.1 hy
  unfold zL4 at h
  split at h
  case h_2=>cases h
  rename_i cs ds hX hY
  rw [hX] at hrx
  rw [hY] at hry
  replace h:=zY h;obtain ⟨hc,h⟩:=h
  simp only [Bool.and_eq_true] at hc
  have m1:uX true hn.mks (.agg cs)=true:=by simp [uX,hc.1]
  have m2:uX true hn.mks (.agg ds)=true:=by simp [uX,hc.2]
  have key:∀ (K:kP P t hn.mks),(hn.b=true↔AV.agg cs=AV.agg ds)→∃ X Y,a.eval x=.agg X∧a.eval y=.agg Y∧(Op.equal t (a.eval x) (a.eval y)).run P w=.ok hn.b w:=by
    intro K hb
    obtain ⟨lx,hlx⟩:=K.key.reads _ _ _ _ _ hrx m1
    obtain ⟨ly,hly⟩:=K.key.reads _ _ _ _ _ hry m2
    obtain ⟨q,hq,hiff⟩:=K.eq w _ _ lx ly hlx hly
    have e:q=hn.b:=by
      rw [Bool.eq_iff_iff,hiff,hb,← kD hrx hry m1 m2]
      constructor
      · intro h;subst h;exact K.key.keyed.inj hlx hly
      · intro h;rw [h,hly] at hlx;injection hlx with hlx;exact hlx.symm
    generalize hvx:a.eval x=vx at *
    generalize hvy:a.eval y=vy at *
    cases hrx with
    | agg _ _ _ =>
      cases hry with
      | agg _ _ _=>exact ⟨_,_,rfl,rfl,e ▸ hq⟩
  split at h
  · injection h with h;subst h
    have K:kP P t hn.mks:=hv _ (by simp)
    obtain ⟨X,Y,e1,e2,hrun⟩:=key K (hv _ (by simp))
    rw [e1,e2] at hrun
    refine wL (uM (v:=.bool hn.b) ho e1 e2 (zEH K.guard) (by simp [binOp,hrun,Result.andThen])) (hT.quiet (w9 w) rfl (by simp [Option.map_map,Function.comp_def]) ?_)
    intro d av' he'
    obtain ⟨hlt,rfl⟩:=wZ hd he'
    exact ⟨by omega,.bool⟩
  · injection h with h;subst h
    have K:kP P t hn.mks:=hv _ (by simp)
    obtain ⟨X,Y,e1,e2,hrun⟩:=key K (hv _ (by simp))
    rw [e1,e2] at hrun
    refine wL (uM (v:=.bool !hn.b) ho e1 e2 (zEH K.guard) (by simp [binOp,hrun,Result.andThen])) (hT.quiet (w9 w) rfl (by simp [Option.map_map,Function.comp_def]) ?_)
    intro d av' he'
    obtain ⟨hlt,rfl⟩:=wZ hd he'
    exact ⟨by omega,.bool⟩
  · cases h
end Go.Ab

/- The last element of a row whose last element holds a row of the call's own: read and written. -/
namespace Go.Ab
open Go

def zIu (P:Program) (t:TypeId) (x:AV) (B:Nat→zN):Option (List Prop×Nat×AV) :=
  match x with
  | .ptr id sz i off =>
    bif wG P t then
      match B id with
      | .live (.rowQ _ sz' l m x') =>
        bif Nat.beq sz sz' then
          match zAb P t x' off with
          | some av=>some ([i=l.length,m=true],id,av)
          | none=>none
        else none
      | _=>none
    else none
  | _=>none

theorem zHl {P:Program} {N np:Nat} {o:Oper} {t:TypeId} {x:Operand} {rs:List (Nat×AV)} {B:Nat→zN} {r:List Prop×Nat×AV} (ho:o.op=.load t x) (hx:y3 x=true)
    (h:zIu P t (z9 rs x) B=some r) (hv:∀ p∈r.1,p) (hd:vP N o.dst=true) :
    wU P N np o { rs:=rs,rb:=[(r.2.1,B r.2.1)],dst:=o.dst.map fun d=>(d,r.2.2) }:=by
  intro G st a w hN hnp hE ⟨T,hT⟩
  have hrep:=y1 hT hE.1 hx
  unfold zIu at h
  split at h
  case h_2=>cases h
  rename_i id sz i off hX
  rw [hX] at hrep
  replace h:=zY h;obtain ⟨hk,h⟩:=h
  generalize he:a.eval x=vx at hrep
  cases hrep with
  | ptr hTi ho' =>
  rename_i o' b cap
  split at h
  case h_2=>cases h
  rename_i e sz' l m x' hB
  replace h:=zY h;obtain ⟨hs,h⟩:=h
  have hs:=xM.1 hs
  subst hs
  split at h
  case h_2=>cases h
  rename_i av hav
  injection h with h;subst h
  simp only at hE hv
  have hi:i=l.length:=hv _ (by simp)
  have hm:m=true:=hv _ (by simp)
  have hb:st.box id=.live (.rowQ e sz l m x'):=(hE.2 (id,B id) (by simp)).trans hB
  rcases hT.boxes id _ hb with ⟨hp,_⟩ | ⟨b',cap',C,hp,hh,h1,h2,h3,h4,h5,h6,h7⟩
  · rw [hTi] at hp;cases hp
  rw [hTi] at hp;injection hp with hp;injection hp with hp1 hp2;subst hp1
  obtain ⟨q1,q2,q3⟩:=h7 hm
  obtain ⟨ha,hnn,hsub,hone⟩:=jT hav q2
  rw [hm] at h2
  simp only [cond_true] at h2
  have hmul:=Nat.mul_le_mul_right sz h2
  rw [Nat.add_mul] at hmul
  have hC:∀ (j:Nat) (c:AV),av.cells[j]?=some c→w.cell? ⟨b,o'+j,none⟩=some (C.getD (l.length * sz+(off+j)) undef):=by
    intro j c hj
    have hs:=hsub j c hj
    have hlt:off+j<sz:=by
      rw [← q1]
      rcases Nat.lt_or_ge (off+j) x'.length with h' | h'
      · exact h'
      · rw [List.getElem?_eq_none h'] at hs;cases hs
    have hlt2:l.length * sz+(off+j)<C.size:=by omega
    have:o'+j=l.length * sz+(off+j):=by rw [ho',hi];omega
    rw [this]
    simp [World.cell?,hh,hlt2]
  obtain ⟨v,hrun,hr⟩:=zA8 hk ha hnn hC hone (fun j c hj=>q3 _ _ (hsub j c hj))
  refine wL (v:=v) (w':=w) ?_ ?_
  · simp only [execOp,ho,he,Instr.loadAt,Instr.sureAddr,Sem.run_bind,Sem.run_pure,Result.andThen_ok,hrun]
  · refine hT.quiet (w9 w) rfl (by simp [Option.map_map,Function.comp_def]) ?_
    intro d av' he'
    obtain ⟨hlt,rfl⟩:=wZ hd he'
    exact ⟨by omega,hr⟩

def zGp (P:Program) (t:TypeId) (x v:AV) (B:Nat→zN):Option (List Prop×Nat×Box) :=
  match x with
  | .ptr id sz i off =>
    bif (wG P t&&tU v)&&Nat.beq v.cells.length (szT P t) then
      match B id with
      | .live (.rowQ e sz' l m x') =>
        bif Nat.beq sz sz'&&Nat.ble (off+v.cells.length) x'.length then some ([i=l.length,m=true],id,.rowQ e sz' l m (jQ x' off v.cells)) else none
      | _=>none
    else none
  | _=>none

theorem zGc {P:Program} {N np:Nat} {o:Oper} {t:TypeId} {x y:Operand} {rs:List (Nat×AV)} {B:Nat→zN} {r:List Prop×Nat×Box} (ho:o.op=.store t x y) (hx:y3 x=true) (hy:y3 y=true)
    (h:zGp P t (z9 rs x) (z9 rs y) B=some r) (hv:∀ p∈r.1,p) (hd:o.dst=none) :
    wU P N np o { rs:=rs,rb:=[(r.2.1,B r.2.1)],wb:=[(r.2.1,.live r.2.2)] }:=by
  intro G st a w hN hnp hE ⟨T,hT⟩
  have hrx:=y1 hT hE.1 hx
  have hry:=y1 hT hE.1 hy
  unfold zGp at h
  split at h
  case h_2=>cases h
  rename_i id sz i off hX
  rw [hX] at hrx
  replace h:=zY h;obtain ⟨hc,h⟩:=h
  simp only [Bool.and_eq_true] at hc
  obtain ⟨⟨hk,hok⟩,hln⟩:=hc
  have hln:=xM.1 hln
  obtain ⟨c1,c2,c3⟩:=zAu hry hok
  have hvs:(a.eval y).cells.size=szT P t:=by rw [c1,hln]
  have hone:∀ u∈(a.eval y).cells.toList,u.oneCell'=true:=by
    intro u hu
    obtain ⟨j,hj⟩:=List.mem_iff_getElem?.1 hu
    have hjl:j<(a.eval y).cells.size:=by
      rcases Nat.lt_or_ge j (a.eval y).cells.size with h' | h'
      · exact h'
      · rw [List.getElem?_eq_none (by simpa using h')] at hj;cases hj
    have hjc:j<(z9 rs y).cells.length:=by omega
    have:=c3 j _ (List.getElem?_eq_getElem hjc)
    have e:(a.eval y).cells.getD j undef=u:=by
      rw [Array.getElem?_toList] at hj
      simp [Array.getD_eq_getD_getElem?,hj]
    rw [e] at this
    exact this.oneCell (c2 _ (List.getElem_mem hjc))
  generalize he:a.eval x=vx at hrx
  cases hrx with
  | ptr hTi ho' =>
  rename_i o' b cap
  have hexec:∀ {C:Array Value} {tt:TypeId},w.heap[b]?=some (.cells C tt (0,0))→o'+(a.eval y).cells.size≤C.size →
      (execOp a.eval o).run P w=.ok .skip (w.setRow b (C.toList.take o'++(a.eval y).cells.toList++C.toList.drop (o'+(a.eval y).cells.size)).toArray):=by
    intro C tt hh hle
    simp only [execOp,ho,he,Instr.storeAt,Instr.sureAddr,Sem.run_bind,Sem.run_pure,Result.andThen_ok,zDT hk hvs hh hone hle]
  split at h
  case h_2=>cases h
  rename_i e sz' l m x' hB
  replace h:=zY h;obtain ⟨hc',h⟩:=h
  simp only [Bool.and_eq_true] at hc'
  have hs:=xM.1 hc'.1
  subst hs
  have hle:=Nat.le_of_ble_eq_true hc'.2
  injection h with h;subst h
  simp only at hE hv
  have hi:i=l.length:=hv _ (by simp)
  have hm:m=true:=hv _ (by simp)
  have hb:st.box id=.live (.rowQ e sz l m x'):=(hE.2 (id,B id) (by simp)).trans hB
  rcases hT.boxes id _ hb with ⟨hp,_⟩ | ⟨b',cap',C,hp,hh,h1,h2,h3,h4,h5,h6,h7⟩
  · rw [hTi] at hp;cases hp
  have hp0:=hp
  rw [hTi] at hp;injection hp with hp;injection hp with hp1 hp2;subst hp1
  obtain ⟨q1,q2,q3⟩:=h7 hm
  have h2':=h2
  rw [hm] at h2'
  simp only [cond_true] at h2'
  have hmul:=Nat.mul_le_mul_right sz h2'
  rw [Nat.add_mul] at hmul
  subst hi
  have hle2:o'+(a.eval y).cells.size≤C.size:=by omega
  unfold Oper.wp
  rw [hexec hh hle2]
  show Rel G _ (a.put o.dst undef) _
  have hmono:∀ {T':Tbl} {v av},Rep w (imm G st T) T' v av→Rep (w.setRow b (C.toList.take o'++(a.eval y).cells.toList++C.toList.drop (o'+(a.eval y).cells.size)).toArray) (imm G st T) T' v av:=fun h =>
    h.mono (by simp) (fun b2 hI _=>setRow_other w b b2 _ (fun e=>by subst e;exact hI.2 id _ cap hb hTi)) (fun _ h _=>h) (fun _ _ h=>h)
  refine hT.write hb hTi pF rfl (by rw [hd];rfl) ?_ (fun d av hE=>by cases hE)
  have hsz:(a.eval y).cells.size=(a.eval y).cells.toList.length:=by simp
  refine .inr ⟨b,cap',_,hp0,setRow_heap w b C _ e _ hh,?_,h2,h3,h4,h5,?_,fun _=>⟨by rw [zAx hle];exact q1,?_,?_⟩⟩
  · simp;omega
  · intro i' av j c hi' hj
    rw [hsz,pA (by simpa using hle2)]
    simp only [Array.length_toList]
    have hil:i'<l.length:=(List.getElem?_eq_some_iff.1 hi').1
    have hjl:j<sz:=by
      rw [← h4 _ (List.mem_of_getElem? hi')]
      exact (List.getElem?_eq_some_iff.1 hj).1
    have:=Nat.mul_le_mul_right sz (show i'+1≤l.length by omega)
    rw [Nat.add_mul] at this
    rw [if_neg (by omega)]
    exact hmono (h6 i' av j c hi' hj)
  · intro c hc
    unfold jQ at hc
    rcases List.mem_append.1 hc with hc | hc
    · rcases List.mem_append.1 hc with hc | hc
      · exact q2 c (List.mem_of_mem_take hc)
      · exact c2 c hc
    · exact q2 c (List.mem_of_mem_drop hc)
  · intro j c hj
    rw [zBy hle] at hj
    rw [hsz,pA (by simpa using hle2)]
    simp only [Array.length_toList]
    by_cases k1:j<off
    · rw [if_pos k1] at hj;rw [if_neg (by omega)];exact hmono (q3 j c hj)
    · rw [if_neg k1] at hj
      by_cases k2:j<off+(z9 rs y).cells.length
      · rw [if_pos k2] at hj;rw [if_pos (by omega)]
        have:=c3 _ c hj
        refine hmono ?_
        rw [show l.length * sz+j - o'=j - off by omega]
        simpa [List.getD,Array.getD_eq_getD_getElem?] using this
      · rw [if_neg k2] at hj;rw [if_neg (by omega)];exact hmono (q3 j c hj)
end Go.Ab

/- Further operations: the capacity of a nil slice, a nil slice cut, zeros appended to a nil slice, a row of the call's own cut short. -/
namespace Go.Ab
open Go

def zFB (P:Program) (t:TypeId):Bool:=match P.underlying t with | some (.int _)=>true | _=>false
def zAg (P:Program) (t:TypeId):Bool:=match P.underlying t with | some (.slice e)=>wG P e | _=>false
theorem zBt {P:Program} {t:TypeId} (h:zAg P t=true):∃ e,P.underlying t=some (.slice e)∧wG P e=true:=by
  unfold zAg at h
  split at h
  · exact ⟨_,by assumption,h⟩
  · cases h

def xop (P:Program) (o:Oper) (rs:List (Nat×AV)) (B:Nat→zN) (h:xI):Option (List Prop×Eff) :=
  match o.op with
  | .call { callee:=.builtin b,args:=args,argTypes:=ts } =>
    match b,args.toList,ts.toList with
    | .cap,[x],[t] =>
      bif y3 x&&zAg P t then
        match z9 rs x with
        | .nilsl=>some ([],{ rs:=rs,dst:=o.dst.map fun d=>(d,.int .i64 0) })
        | _=>none
      else none
    | .append,[x,y],[t,t2] =>
      bif (y3 x&&y3 y)&&(uE (B h.id)&&zFB P t2) then
        match z9 rs x,z9 rs y,zB3 P t with
        | .nilsl,.int _ n,some e=>some ([n=h.n,0<h.n,h.n * uZ P e≤140737488355328],
            { rs:=rs,rb:=[(h.id,.unused)],dst:=o.dst.map fun d=>(d,.own h.id h.n),wb:=[(h.id,.live (.row e (szT P e) []))] })
        | _,_,_=>none
      else none
    | _,_,_=>none
  | .slice t x none (some y) none =>
    bif (y3 x&&y3 y)&&zAg P t then
      match z9 rs x,z9 rs y with
      | .nilsl,.int _ n=>some ([n=0],{ rs:=rs,dst:=o.dst.map fun d=>(d,.nilsl) })
      | .own id n,.int _ m =>
        match B id with
        | .live (.row e sz l)=>some ([m=h.n,h.n≤n,h.l=l.take h.n],{ rs:=rs,rb:=[(id,B id)],dst:=o.dst.map fun d=>(d,.own id h.n),wb:=[(id,.live (.row e sz h.l))] })
        | _=>none
      | _,_=>none
    else none
  | .load t x =>
    bif y3 x then
      match zIu P t (z9 rs x) B with
      | some (vc,id,av)=>some (vc,{ rs:=rs,rb:=[(id,B id)],dst:=o.dst.map fun d=>(d,av) })
      | none=>none
    else none
  | .store t x y =>
    bif (y3 x&&y3 y)&&o.dst.isNone then
      match zGp P t (z9 rs x) (z9 rs y) B with
      | some (vc,id,bx)=>some (vc,{ rs:=rs,rb:=[(id,B id)],wb:=[(id,.live bx)] })
      | none=>none
    else none
  | _=>none

theorem zIG {P:Program} {N np:Nat} {o:Oper} {x:Operand} {t:TypeId} {rs:List (Nat×AV)}
    (ho:o.op=.call { callee:=.builtin .cap,args:=#[x],argTypes:=#[t] }) (hx:y3 x=true) (ht:zAg P t=true) (hX:z9 rs x=.nilsl) (hd:vP N o.dst=true) :
    wU P N np o { rs:=rs,dst:=o.dst.map fun d=>(d,.int .i64 0) }:=by
  intro G st a w hN hnp hE ⟨T,hT⟩
  have hrx:=y1 hT hE.1 hx
  rw [hX] at hrx
  generalize hvx:a.eval x=vx at hrx
  cases hrx with
  | nilsl =>
  obtain ⟨e,he,_⟩:=zBt ht
  refine wL (v:=.int .i64 0) (w':=w) ?_ ?_
  · simp [execOp,ho,resolve,invoke,builtin,hvx,Builtin.cap_,run_underlying he,goInt]
  · refine hT.quiet (w9 w) rfl (by simp [Option.map_map,Function.comp_def]) ?_
    intro d av hE'
    obtain ⟨hlt,rfl⟩:=wZ hd hE'
    exact ⟨by omega,.int rfl⟩

theorem zFI {P:Program} {N np:Nat} {o:Oper} {x y:Operand} {t:TypeId} {rs:List (Nat×AV)} {k:IntKind} {n:Int}
    (ho:o.op=.slice t x none (some y) none) (hx:y3 x=true) (hy:y3 y=true) (ht:zAg P t=true) (hX:z9 rs x=.nilsl) (hY:z9 rs y=.int k n) (hn:n=0) (hd:vP N o.dst=true) :
    wU P N np o { rs:=rs,dst:=o.dst.map fun d=>(d,.nilsl) }:=by
  intro G st a w hN hnp hE ⟨T,hT⟩
  have hrx:=y1 hT hE.1 hx
  have hry:=y1 hT hE.1 hy
  rw [hX] at hrx
  rw [hY] at hry
  generalize hvx:a.eval x=vx at hrx
  generalize hvy:a.eval y=vy at hry
  cases hrx with
  | nilsl =>
  cases hry with
  | int wn =>
  obtain ⟨e,he,hk⟩:=zBt ht
  subst hn
  refine wL (v:=.slice none 0 0) (w':=w) (vX ho (by rw [he];simp) (by rw [he];simp) ?_) ?_
  · simp only [hvx,hvy,Instr.slice,Sem.run_bind,run_underlying he,Result.andThen_ok,Option.map_none,Option.map_some,Instr.sliceBounds,Sem.run_pure,w3 hk]
    rw [t6 (P:=P) (w:=w) (y:=0) rfl (Int.le_refl 0) (Int.le_refl 0)]
    simp only [Result.andThen_ok]
    rfl
  · refine hT.quiet (w9 w) rfl (by simp [Option.map_map,Function.comp_def]) ?_
    intro d av hE'
    obtain ⟨hlt,rfl⟩:=wZ hd hE'
    exact ⟨by omega,.nilsl⟩

theorem zJz {P:Program} {t t2 e:TypeId} {i:TypeInfo} {z:Value} {w:World} {ty:TypeId} (ht:zEf P t e i z) {q:IntKind} (h2:P.underlying t2=some (.int q)) {k:IntKind} {n:Nat}
    (h0:0<n) (hb:n * uZ P e≤140737488355328) :
    (Builtin.append_ #[t,t2] ty #[.slice none 0 0,.int k (n:Int)]).run P w =
      .ok (.slice (some ⟨w.heap.size,0,none⟩) n (grownCap w n 0 e))
        (w.drew.alloc (.cells (Builtin.zeroCells z.cells n++Builtin.zeroCells z.cells (grownCap w n 0 e - n)) e)):=by
  have hm:=Nat.le_mul_of_pos_right n ht.bpos
  have hw:IntKind.i64.wrap (n:Int)=n:=by
    simp only [IntKind.wrap,IntKind.bits,IntKind.signed];simp;split<;>omega
  have h1:¬ ((n:Int)<0):=by omega
  have h3:¬ (281474976710656<(n:Int) * (i.bytes:Int)):=by rw [ht.bytes,← Int.natCast_mul];omega
  have h4:¬ (n=0):=by omega
  have h5:¬ (9223372036854775807:Int)<(n:Int):=by omega
  have h6:¬ (n * szT P e=0):=by have:=Nat.mul_pos h0 ht.pos;omega
  have hg:=growslice_fits (need:=n) (old:=0) (bytes:=uZ P e) (by omega) hb
  rw [← ht.bytes] at hg
  have h48':¬ (281474976710656<Builtin.nextslicecap n 0 * i.bytes):=by omega
  rw [← ht.size] at h6
  simp only [Builtin.append_,List.getElem?_toArray,List.getElem?_cons_zero,List.getElem?_cons_succ,Sem.run_bind,run_underlying ht.und,run_underlying h2,Result.andThen_ok,sizeOf,typeInfo,run_program,
    ht.info,Sem.run_pure,asInt,asIntOf]
  simp [h1,h3,h4,h5,h48',h6,hw,Question.forced,newRow,grownCap,zeroValue,typeInfo,ht.info,ht.zero,Builtin.firstCells]

theorem zJu {P:Program} {t:TypeId} (h:zFB P t=true):∃ q,P.underlying t=some (.int q):=by
  unfold zFB at h
  split at h
  · exact ⟨_,by assumption⟩
  · cases h

theorem zHx {P:Program} {N np:Nat} {o:Oper} {x y:Operand} {t t2 e:TypeId} {rs:List (Nat×AV)} {k:IntKind} {n:Int} {id m:Nat}
    (ho:o.op=.call { callee:=.builtin .append,args:=#[x,y],argTypes:=#[t,t2] }) (hx:y3 x=true) (hy:y3 y=true) (ht2:zFB P t2=true) (hrow:zB3 P t=some e)
    (hX:z9 rs x=.nilsl) (hY:z9 rs y=.int k n) (hn:n=m) (h0:0<m) (hb:m * uZ P e≤140737488355328) (hd:vP N o.dst=true) :
    wU P N np o { rs:=rs,rb:=[(id,.unused)],dst:=o.dst.map fun d=>(d,.own id m),wb:=[(id,.live (.row e (szT P e) []))] }:=by
  intro G st a w hN hnp hE ⟨T,hT⟩
  have hrx:=y1 hT hE.1 hx
  have hry:=y1 hT hE.1 hy
  obtain ⟨i,z,ht⟩:=kH hrow
  obtain ⟨q,hq⟩:=zJu ht2
  rw [hX] at hrx
  rw [hY] at hry
  generalize hvx:a.eval x=vx at hrx
  generalize hvy:a.eval y=vy at hry
  cases hrx with
  | nilsl =>
  cases hry with
  | int wn =>
  subst hn
  have hu:st.box id=.unused:=hE.2 (id,.unused) (by simp)
  have hm:=Nat.le_mul_of_pos_right m ht.bpos
  have hmax:m≤maxLen:=by rw [wW];omega
  have hge:=grownCap_ge w m 0 e
  have hcm:=grownCap_le_maxLen w m 0 e hmax
  have hrun:=zJz (P:=P) (w:=w) (ty:=o.type) ht hq (k:=k) h0 hb
  refine wL (v:=.slice (some ⟨w.heap.size,0,none⟩) m (grownCap w m 0 e)) (w':=w.drew.alloc (.cells (Builtin.zeroCells z.cells m++Builtin.zeroCells z.cells (grownCap w m 0 e - m)) e)) ?_ ?_
  · simp [execOp,ho,resolve,invoke,builtin,hvx,hvy,hrun]
  · refine hT.new (p:=.at w.heap.size (grownCap w m 0 e)) ⟨rfl,rfl,rfl,by simp,fun k hk _=>heap_alloc_old w.drew _ k hk⟩ rfl hu (by simp [Option.map_map,Function.comp_def]) (fun b c hp=>by injection hp with hp;omega) ?_ ?_
    · refine .inr ⟨_,_,_,rfl,heap_alloc_new w.drew _,?_,by simp,hcm,by simp,by simp,fun i' av j c hi=>by simp at hi⟩
      rw [Array.size_append,size_zeroCells,size_zeroCells,ht.zsize,← Nat.add_mul]
      congr 1;omega
    · intro d av hE'
      obtain ⟨hlt,rfl⟩:=wZ hd hE'
      exact ⟨by omega,.own (Tbl.put_same _ _ _) hge hcm⟩

theorem zGl {P:Program} {N np:Nat} {o:Oper} {x y:Operand} {t:TypeId} {rs:List (Nat×AV)} {B:Nat→zN} {k:IntKind} {n:Int} {id m hm:Nat} {e sz:Nat} {l:List AV}
    (ho:o.op=.slice t x none (some y) none) (hx:y3 x=true) (hy:y3 y=true) (ht:zAg P t=true) (hX:z9 rs x=.own id m) (hY:z9 rs y=.int k n)
    (hB:B id=.live (.row e sz l)) (hn:n=hm) (hle:hm≤m) (hd:vP N o.dst=true) :
    wU P N np o { rs:=rs,rb:=[(id,B id)],dst:=o.dst.map fun d=>(d,.own id hm),wb:=[(id,.live (.row e sz (l.take hm)))] }:=by
  intro G st a w hN hnp hE ⟨T,hT⟩
  have hrx:=y1 hT hE.1 hx
  have hry:=y1 hT hE.1 hy
  rw [hX] at hrx
  rw [hY] at hry
  have hb:st.box id=.live (.row e sz l):=(hE.2 (id,B id) (by simp)).trans hB
  generalize hvx:a.eval x=vx at hrx
  generalize hvy:a.eval y=vy at hry
  cases hry with
  | int wn =>
  obtain ⟨e',he,hk⟩:=zBt ht
  subst hn
  have hboxes:=hT.boxes id _ hb
  have hrun:∀ (base:Option Addr) (cap:Nat),hm≤cap→(Instr.slice t (.slice base m cap) none (some (.int k (hm:Int))) none).run P w=.ok (.slice (if cap=0 then base else base.map (·.add 0)) hm cap) w:=by
    intro base cap hc
    simp only [Instr.slice,Sem.run_bind,run_underlying he,Result.andThen_ok,Instr.sliceBounds,Sem.run_pure,w3 hk]
    rw [t6 (P:=P) (w:=w) (y:=cap) rfl (by omega) (by omega)]
    simp only [Result.andThen_ok,Int.toNat_natCast,Nat.zero_mul,Nat.sub_zero]
  cases hrx with
  | ownNil hTi =>
    rename_i a0
    have h0:hm=0:=by omega
    subst h0
    refine wL (vX ho (by rw [he];simp) (by rw [he];simp) (by simp only [hvx,hvy,Option.map_none,Option.map_some];exact hrun a0 0 (Nat.le_refl _))) ?_
    have hnil:l=[]:=by
      rcases hboxes with ⟨_,h⟩ | ⟨b,cap,C,hp,_⟩
      · exact h
      · rw [hTi] at hp;cases hp
    subst hnil
    have hst:(st.upd { rs:=rs,rb:=[(id,B id)],dst:=o.dst.map fun d=>(d,.own id 0),wb:=[(id,.live (.row e sz (([]:List AV).take 0)))] }).box=st.box:=by
      funext i
      rw [p0]
      simp only [zBn,List.take_zero]
      by_cases hi:i=id
      · rw [if_pos hi,hi,hb]
      · rw [if_neg hi]
    refine hT.quiet (w9 w) hst (by simp [Option.map_map,Function.comp_def]) ?_
    intro d av hE'
    obtain ⟨hlt,rfl⟩:=wZ hd hE'
    exact ⟨by omega,.ownNil hTi⟩
  | own hTi h1 h2 =>
    rename_i b cap
    refine wL (vX ho (by rw [he];simp) (by rw [he];simp) (by simp only [hvx,hvy,Option.map_none,Option.map_some];exact hrun _ cap (by omega))) ?_
    refine hT.write (bx':=.row e sz (l.take hm)) (b:=b) (cap:=cap) hb hTi ⟨rfl,rfl,rfl,Nat.le_refl _,fun _ _ _=>rfl⟩ rfl (by simp [Option.map_map,Function.comp_def]) ?_ ?_
    · rcases hboxes with ⟨hp,h⟩ | ⟨b',cap',C,hp,hh,k1,k2,k3,k4,k5,k6⟩
      · exact .inl ⟨hp,by rw [h];simp⟩
      · refine .inr ⟨b',cap',C,hp,hh,k1,by rw [List.length_take];omega,k3,fun av hav=>k4 av (List.mem_of_mem_take hav),fun av hav=>k5 av (List.mem_of_mem_take hav),fun i av j c hi hj=>k6 i av j c ?_ hj⟩
        rw [List.getElem?_take] at hi
        split at hi
        · exact hi
        · cases hi
    · intro d av hE'
      obtain ⟨hlt,rfl⟩:=wZ hd hE'
      refine ⟨by omega,?_⟩
      have:(if cap=0 then some (⟨b,0,none⟩:Addr) else (some (⟨b,0,none⟩:Addr)).map (·.add 0))=some ⟨b,0,none⟩:=by
        split
        · rfl
        · simp [Addr.add]
      rw [this]
      exact .own hTi (by omega) h2

theorem zLu {P:Program} {N np:Nat} {o:Oper} {rs:List (Nat×AV)} {st:AS} {hn:xI} {r:List Prop×Eff} (h:xop P o rs st.box hn=some r) (hr:∀ x∈rs,st.slot x.1=x.2)
    (hv:∀ p∈r.1,p) (hd:vP N o.dst=true):r.2.holds st∧wU P N np o r.2:=by
  unfold xop at h
  split at h
  · rename_i b args ts ho
    split at h
    · rename_i x t ha ht
      rw [zGg ha,zGg ht] at ho
      replace h:=zY h;obtain ⟨hu,h⟩:=h
      simp only [Bool.and_eq_true] at hu
      split at h
      · rename_i hX
        injection h with h;subst h
        exact ⟨⟨hr,fun x hx=>by simp at hx⟩,zIG ho hu.1 hu.2 hX hd⟩
      · cases h
    · rename_i x y t t2 ha ht
      rw [zAU ha,zAU ht] at ho
      replace h:=zY h;obtain ⟨hu,h⟩:=h
      simp only [Bool.and_eq_true] at hu
      split at h
      · rename_i k n e hX hY hrow
        injection h with h;subst h
        exact ⟨⟨hr,fun x hx=>by simp at hx;subst hx;exact vH hu.2.1⟩,zHx ho hu.1.1 hu.1.2 hu.2.2 hrow hX hY (hv _ (by simp)) (hv _ (by simp)) (hv _ (by simp)) hd⟩
      · cases h
    · cases h
  · rename_i t x y ho
    replace h:=zY h;obtain ⟨hu,h⟩:=h
    simp only [Bool.and_eq_true] at hu
    split at h
    · rename_i k n hX hY
      injection h with h;subst h
      exact ⟨⟨hr,fun x hx=>by simp at hx⟩,zFI ho hu.1.1 hu.1.2 hu.2 hX hY (hv _ (by simp)) hd⟩
    · rename_i id m k n hX hY
      split at h
      · rename_i e sz l hB
        injection h with h;subst h
        have e1:hn.l=l.take hn.n:=hv _ (by simp)
        refine ⟨⟨hr,fun x hx=>by simp at hx;subst hx;rfl⟩,?_⟩
        simp only [e1]
        exact zGl ho hu.1.1 hu.1.2 hu.2 hX hY hB (hv _ (by simp)) (hv _ (by simp)) hd
      · cases h
    · cases h
  · rename_i t x ho
    replace h:=zY h;obtain ⟨hu,h⟩:=h
    split at h
    · rename_i vc id av hb
      injection h with h;subst h
      exact ⟨⟨hr,fun x hx=>by simp at hx;subst hx;rfl⟩,zHl ho hu hb hv hd⟩
    · cases h
  · rename_i t x y ho
    replace h:=zY h;obtain ⟨hu,h⟩:=h
    simp only [Bool.and_eq_true,Option.isNone_iff_eq_none] at hu
    split at h
    · rename_i vc id bx hb
      injection h with h;subst h
      exact ⟨⟨hr,fun x hx=>by simp at hx;subst hx;rfl⟩,zGc ho hu.1.1 hu.1.2 hb hv hu.2⟩
    · cases h
  · cases h
end Go.Ab
