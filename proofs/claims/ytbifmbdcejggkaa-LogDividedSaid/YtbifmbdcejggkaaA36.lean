/- A layer over the model: abstract values and states, and the rules by which the printed proofs go. No conditions. -/
import Derived.Test.YtbifmbdcejggkaaA33
import Derived.DeepKeys4
/- Structs and arrays compared. -/
namespace Go.Ab
open Go

/-- What is asked of a type whose values are compared. -/
structure jU (P:Program) (t:TypeId) (ks:List KSh):Prop where
  key:vK P t true ks
  guard:P.eqGuardType P.depth t=false
  eq:∀ (w:World) (x y:Value) (lx ly:Lit),keyOf P t x=some lx→keyOf P t y=some ly→∃ r:Bool,(Op.equal t x y).run P w=.ok r w∧(r=true↔lx=ly)

theorem zCH {P:Program} {t:TypeId} {ks:List KSh} (K:vK P t true ks) (hk:(P.keyTypeAt 100 t&&!(P.eqGuardType P.depth t))=true)
    (hw:(match P.underlying t with | some (.array _ _) | some (.struct _)=>true | _=>false)=true):jU P t ks:=by
  simp only [Bool.and_eq_true,Bool.not_eq_true'] at hk
  exact ⟨K,hk.2,fun w x y lx ly hx hy=>run_equal_deep w (m:=100) (by omega) hk.1 hw hx hy⟩

def zLk (P:Program) (op:BinOp) (t:TypeId) (x y:AV) (h:xC):Option (List Prop×AV) :=
  match x,y with
  | .agg cs,.agg ds =>
    bif kcs h.mks cs&&kcs h.mks ds then
      match op with
      | .eql=>some ([jU P t h.mks,(h.b=true↔AV.agg cs=AV.agg ds)],.bool h.b)
      | .neq=>some ([jU P t h.mks,(h.b=true↔AV.agg cs=AV.agg ds)],.bool !h.b)
      | _=>none
    else none
  | _,_=>none

theorem zD2 {P:Program} {op:BinOp} {t:TypeId} {x y:Operand} {w:World} {X Y:Array Value} (h:P.eqGuardType P.depth t=false) :
    (eqGuard op t x y (.agg X) (.agg Y)).run P w=.ok () w:=by
  unfold eqGuard
  cases op<;>simp [h]

theorem zHu {P:Program} {N np:Nat} {o:Oper} {op:BinOp} {t yT:TypeId} {x y:Operand} {rs:List (Nat×AV)} {hn:xC} {r:List Prop×AV}
    (ho:o.op=.binOp op t x y yT) (hx:yX x=true) (hy:yX y=true)
    (h:zLk P op t (z6 rs x) (z6 rs y) hn=some r) (hv:∀ p∈r.1,p) (hd:vG N o.dst=true) :
    wN P N np o { rs:=rs,dst:=o.dst.map fun d=>(d,r.2) }:=by
  intro G st a w hN hnp hE ⟨T,hT⟩
  have hrx:=yV hT hE.1 hx
  have hry:=yV hT hE.1 hy
  unfold zLk at h
  split at h
  case h_2=>cases h
  rename_i cs ds hX hY
  rw [hX] at hrx
  rw [hY] at hry
  replace h:=zY h;obtain ⟨hc,h⟩:=h
  simp only [Bool.and_eq_true] at hc
  have m1:uQ true hn.mks (.agg cs)=true:=by simp [uQ,hc.1]
  have m2:uQ true hn.mks (.agg ds)=true:=by simp [uQ,hc.2]
  have key:∀ (K:jU P t hn.mks),(hn.b=true↔AV.agg cs=AV.agg ds)→∃ X Y,a.eval x=.agg X∧a.eval y=.agg Y∧(Op.equal t (a.eval x) (a.eval y)).run P w=.ok hn.b w:=by
    intro K hb
    obtain ⟨lx,hlx⟩:=K.key.reads _ _ _ _ _ hrx m1
    obtain ⟨ly,hly⟩:=K.key.reads _ _ _ _ _ hry m2
    obtain ⟨q,hq,hiff⟩:=K.eq w _ _ lx ly hlx hly
    have e:q=hn.b:=by
      rw [Bool.eq_iff_iff,hiff,hb,← jC hrx hry m1 m2]
      constructor
      · intro h;subst h;exact K.key.keyed.inj hlx hly
      · intro h;rw [h,hly] at hlx;injection hlx with hlx;exact hlx.symm
    generalize hvx:a.eval x=vx at *
    generalize hvy:a.eval y=vy at *
    cases hrx with
    | agg _ _ _ =>
      cases hry with
      | agg _ _ _=>exact ⟨_,_,rfl,rfl,e ▸ hq⟩
  split at h
  · injection h with h;subst h
    have K:jU P t hn.mks:=hv _ (by simp)
    obtain ⟨X,Y,e1,e2,hrun⟩:=key K (hv _ (by simp))
    rw [e1,e2] at hrun
    refine wC (uA (v:=.bool hn.b) ho e1 e2 (zD2 K.guard) (by simp [binOp,hrun,Result.andThen])) (hT.quiet (wW w) rfl (by simp [Option.map_map,Function.comp_def]) ?_)
    intro d av' he'
    obtain ⟨hlt,rfl⟩:=wQ hd he'
    exact ⟨by omega,.bool⟩
  · injection h with h;subst h
    have K:jU P t hn.mks:=hv _ (by simp)
    obtain ⟨X,Y,e1,e2,hrun⟩:=key K (hv _ (by simp))
    rw [e1,e2] at hrun
    refine wC (uA (v:=.bool !hn.b) ho e1 e2 (zD2 K.guard) (by simp [binOp,hrun,Result.andThen])) (hT.quiet (wW w) rfl (by simp [Option.map_map,Function.comp_def]) ?_)
    intro d av' he'
    obtain ⟨hlt,rfl⟩:=wQ hd he'
    exact ⟨by omega,.bool⟩
  · cases h
end Go.Ab

/- The last element of a row whose last element holds a row of the call's own: read and written. -/
namespace Go.Ab
open Go

def zH1 (P:Program) (t:TypeId) (x:AV) (B:Nat→zM):Option (List Prop×Nat×AV) :=
  match x with
  | .ptr id sz i off =>
    bif x7 P t then
      match B id with
      | .live (.rowQ _ sz' l m x') =>
        bif Nat.beq sz sz' then
          match pS P t x' off with
          | some av=>some ([i=l.length,m=true],id,av)
          | none=>none
        else none
      | _=>none
    else none
  | _=>none

theorem zGU {P:Program} {N np:Nat} {o:Oper} {t:TypeId} {x:Operand} {rs:List (Nat×AV)} {B:Nat→zM} {r:List Prop×Nat×AV} (ho:o.op=.load t x) (hx:yX x=true)
    (h:zH1 P t (z6 rs x) B=some r) (hv:∀ p∈r.1,p) (hd:vG N o.dst=true) :
    wN P N np o { rs:=rs,rb:=[(r.2.1,B r.2.1)],dst:=o.dst.map fun d=>(d,r.2.2) }:=by
  intro G st a w hN hnp hE ⟨T,hT⟩
  have hrep:=yV hT hE.1 hx
  unfold zH1 at h
  split at h
  case h_2=>cases h
  rename_i id sz i off hX
  rw [hX] at hrep
  replace h:=zY h;obtain ⟨hk,h⟩:=h
  generalize he:a.eval x=vx at hrep
  cases hrep with
  | ptr hTi ho' =>
  rename_i o' b cap
  split at h
  case h_2=>cases h
  rename_i e sz' l m x' hB
  replace h:=zY h;obtain ⟨hs,h⟩:=h
  have hs:=xF.1 hs
  subst hs
  split at h
  case h_2=>cases h
  rename_i av hav
  injection h with h;subst h
  simp only at hE hv
  have hi:i=l.length:=hv _ (by simp)
  have hm:m=true:=hv _ (by simp)
  have hb:st.box id=.live (.rowQ e sz l m x'):=(hE.2 (id,B id) (by simp)).trans hB
  rcases hT.boxes id _ hb with ⟨hp,_⟩ | ⟨b',cap',C,hp,hh,h1,h2,h3,h4,h5,h6,h7⟩
  · rw [hTi] at hp;cases hp
  rw [hTi] at hp;injection hp with hp;injection hp with hp1 hp2;subst hp1
  obtain ⟨q1,q2,q3⟩:=h7 hm
  obtain ⟨ha,hnn,hsub,hone⟩:=qU hav q2
  rw [hm] at h2
  simp only [cond_true] at h2
  have hmul:=Nat.mul_le_mul_right sz h2
  rw [Nat.add_mul] at hmul
  have hC:∀ (j:Nat) (c:AV),av.cells[j]?=some c→w.cell? ⟨b,o'+j,none⟩=some (C.getD (l.length * sz+(off+j)) undef):=by
    intro j c hj
    have hs:=hsub j c hj
    have hlt:off+j<sz:=by
      rw [← q1]
      rcases Nat.lt_or_ge (off+j) x'.length with h' | h'
      · exact h'
      · rw [List.getElem?_eq_none h'] at hs;cases hs
    have hlt2:l.length * sz+(off+j)<C.size:=by omega
    have:o'+j=l.length * sz+(off+j):=by rw [ho',hi];omega
    rw [this]
    simp [World.cell?,hh,hlt2]
  obtain ⟨v,hrun,hr⟩:=zAC hk ha hnn hC hone (fun j c hj=>q3 _ _ (hsub j c hj))
  refine wC (v:=v) (w':=w) ?_ ?_
  · simp only [execOp,ho,he,Instr.loadAt,Instr.sureAddr,Sem.run_bind,Sem.run_pure,Result.andThen_ok,hrun]
  · refine hT.quiet (wW w) rfl (by simp [Option.map_map,Function.comp_def]) ?_
    intro d av' he'
    obtain ⟨hlt,rfl⟩:=wQ hd he'
    exact ⟨by omega,hr⟩

def zFE (P:Program) (t:TypeId) (x v:AV) (B:Nat→zM):Option (List Prop×Nat×Box) :=
  match x with
  | .ptr id sz i off =>
    bif (x7 P t&&tD v)&&Nat.beq v.cells.length (szT P t) then
      match B id with
      | .live (.rowQ e sz' l m x') =>
        bif Nat.beq sz sz'&&Nat.ble (off+v.cells.length) x'.length then some ([i=l.length,m=true],id,.rowQ e sz' l m (qL x' off v.cells)) else none
      | _=>none
    else none
  | _=>none

theorem zFM {P:Program} {N np:Nat} {o:Oper} {t:TypeId} {x y:Operand} {rs:List (Nat×AV)} {B:Nat→zM} {r:List Prop×Nat×Box} (ho:o.op=.store t x y) (hx:yX x=true) (hy:yX y=true)
    (h:zFE P t (z6 rs x) (z6 rs y) B=some r) (hv:∀ p∈r.1,p) (hd:o.dst=none) :
    wN P N np o { rs:=rs,rb:=[(r.2.1,B r.2.1)],wb:=[(r.2.1,.live r.2.2)] }:=by
  intro G st a w hN hnp hE ⟨T,hT⟩
  have hrx:=yV hT hE.1 hx
  have hry:=yV hT hE.1 hy
  unfold zFE at h
  split at h
  case h_2=>cases h
  rename_i id sz i off hX
  rw [hX] at hrx
  replace h:=zY h;obtain ⟨hc,h⟩:=h
  simp only [Bool.and_eq_true] at hc
  obtain ⟨⟨hk,hok⟩,hln⟩:=hc
  have hln:=xF.1 hln
  obtain ⟨c1,c2,c3⟩:=nN hry hok
  have hvs:(a.eval y).cells.size=szT P t:=by rw [c1,hln]
  have hone:∀ u∈(a.eval y).cells.toList,u.oneCell'=true:=by
    intro u hu
    obtain ⟨j,hj⟩:=List.mem_iff_getElem?.1 hu
    have hjl:j<(a.eval y).cells.size:=by
      rcases Nat.lt_or_ge j (a.eval y).cells.size with h' | h'
      · exact h'
      · rw [List.getElem?_eq_none (by simpa using h')] at hj;cases hj
    have hjc:j<(z6 rs y).cells.length:=by omega
    have:=c3 j _ (List.getElem?_eq_getElem hjc)
    have e:(a.eval y).cells.getD j undef=u:=by
      rw [Array.getElem?_toList] at hj
      simp [Array.getD_eq_getD_getElem?,hj]
    rw [e] at this
    exact this.oneCell (c2 _ (List.getElem_mem hjc))
  generalize he:a.eval x=vx at hrx
  cases hrx with
  | ptr hTi ho' =>
  rename_i o' b cap
  have hexec:∀ {C:Array Value} {tt:TypeId},w.heap[b]?=some (.cells C tt (0,0))→o'+(a.eval y).cells.size≤C.size →
      (execOp a.eval o).run P w=.ok .skip (w.setRow b (C.toList.take o'++(a.eval y).cells.toList++C.toList.drop (o'+(a.eval y).cells.size)).toArray):=by
    intro C tt hh hle
    simp only [execOp,ho,he,Instr.storeAt,Instr.sureAddr,Sem.run_bind,Sem.run_pure,Result.andThen_ok,zDt hk hvs hh hone hle]
  split at h
  case h_2=>cases h
  rename_i e sz' l m x' hB
  replace h:=zY h;obtain ⟨hc',h⟩:=h
  simp only [Bool.and_eq_true] at hc'
  have hs:=xF.1 hc'.1
  subst hs
  have hle:=Nat.le_of_ble_eq_true hc'.2
  injection h with h;subst h
  simp only at hE hv
  have hi:i=l.length:=hv _ (by simp)
  have hm:m=true:=hv _ (by simp)
  have hb:st.box id=.live (.rowQ e sz l m x'):=(hE.2 (id,B id) (by simp)).trans hB
  rcases hT.boxes id _ hb with ⟨hp,_⟩ | ⟨b',cap',C,hp,hh,h1,h2,h3,h4,h5,h6,h7⟩
  · rw [hTi] at hp;cases hp
  have hp0:=hp
  rw [hTi] at hp;injection hp with hp;injection hp with hp1 hp2;subst hp1
  obtain ⟨q1,q2,q3⟩:=h7 hm
  have h2':=h2
  rw [hm] at h2'
  simp only [cond_true] at h2'
  have hmul:=Nat.mul_le_mul_right sz h2'
  rw [Nat.add_mul] at hmul
  subst hi
  have hle2:o'+(a.eval y).cells.size≤C.size:=by omega
  unfold Oper.wp
  rw [hexec hh hle2]
  show Rel G _ (a.put o.dst undef) _
  have hmono:∀ {T':Tbl} {v av},Rep w (imm G st T) T' v av→Rep (w.setRow b (C.toList.take o'++(a.eval y).cells.toList++C.toList.drop (o'+(a.eval y).cells.size)).toArray) (imm G st T) T' v av:=fun h =>
    h.mono (by simp) (fun b2 hI _=>setRow_other w b b2 _ (fun e=>by subst e;exact hI.2 id _ cap hb hTi)) (fun _ h _=>h) (fun _ _ h=>h)
  refine hT.write hb hTi kH rfl (by rw [hd];rfl) ?_ (fun d av hE=>by cases hE)
  have hsz:(a.eval y).cells.size=(a.eval y).cells.toList.length:=by simp
  refine .inr ⟨b,cap',_,hp0,setRow_heap w b C _ e _ hh,?_,h2,h3,h4,h5,?_,fun _=>⟨by rw [nP hle];exact q1,?_,?_⟩⟩
  · simp;omega
  · intro i' av j c hi' hj
    rw [hsz,kD (by simpa using hle2)]
    simp only [Array.length_toList]
    have hil:i'<l.length:=(List.getElem?_eq_some_iff.1 hi').1
    have hjl:j<sz:=by
      rw [← h4 _ (List.mem_of_getElem? hi')]
      exact (List.getElem?_eq_some_iff.1 hj).1
    have:=Nat.mul_le_mul_right sz (show i'+1≤l.length by omega)
    rw [Nat.add_mul] at this
    rw [if_neg (by omega)]
    exact hmono (h6 i' av j c hi' hj)
  · intro c hc
    unfold qL at hc
    rcases List.mem_append.1 hc with hc | hc
    · rcases List.mem_append.1 hc with hc | hc
      · exact q2 c (List.mem_of_mem_take hc)
      · exact c2 c hc
    · exact q2 c (List.mem_of_mem_drop hc)
  · intro j c hj
    rw [zAZ hle] at hj
    rw [hsz,kD (by simpa using hle2)]
    simp only [Array.length_toList]
    by_cases k1:j<off
    · rw [if_pos k1] at hj;rw [if_neg (by omega)];exact hmono (q3 j c hj)
    · rw [if_neg k1] at hj
      by_cases k2:j<off+(z6 rs y).cells.length
      · rw [if_pos k2] at hj;rw [if_pos (by omega)]
        have:=c3 _ c hj
        refine hmono ?_
        rw [show l.length * sz+j - o'=j - off by omega]
        simpa [List.getD,Array.getD_eq_getD_getElem?] using this
      · rw [if_neg k2] at hj;rw [if_neg (by omega)];exact hmono (q3 j c hj)
end Go.Ab
