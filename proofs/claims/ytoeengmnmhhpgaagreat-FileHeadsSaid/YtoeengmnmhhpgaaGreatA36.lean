/- A layer over the model: abstract values and states, and the rules by which the printed proofs go. No conditions. -/
import Derived.Test.YtoeengmnmhhpgaaGreatA33
import Derived.DeepKeys4
/- Structs and arrays compared. -/
namespace Go.Ab
open Go

/-- What is asked of a type whose values are compared. -/
structure qK (P:Program) (t:TypeId) (ks:List KSh):Prop where
  key:v9 P t true ks
  guard:P.eqGuardType P.depth t=false
  eq:∀ (w:World) (x y:Value) (lx ly:Lit),keyOf P t x=some lx→keyOf P t y=some ly→∃ r:Bool,(Op.equal t x y).run P w=.ok r w∧(r=true↔lx=ly)

theorem mN {P:Program} {t:TypeId} {ks:List KSh} (K:v9 P t true ks) (hk:(P.keyTypeAt 100 t&&!(P.eqGuardType P.depth t))=true)
    (hw:(match P.underlying t with | some (.array _ _) | some (.struct _)=>true | _=>false)=true):qK P t ks:=by
  simp only [Bool.and_eq_true,Bool.not_eq_true'] at hk
  exact ⟨K,hk.2,fun w x y lx ly hx hy=>run_equal_deep w (m:=100) (by omega) hk.1 hw hx hy⟩

def C2 (P:Program) (op:BinOp) (t:TypeId) (x y:AV) (h:xC):Option (List Prop×AV) :=
  match x,y with
  | .agg cs,.agg ds =>
    bif kcs h.mks cs&&kcs h.mks ds then
      match op with
      | .eql=>some ([qK P t h.mks,(h.b=true↔AV.agg cs=AV.agg ds)],.bool h.b)
      | .neq=>some ([qK P t h.mks,(h.b=true↔AV.agg cs=AV.agg ds)],.bool !h.b)
      | _=>none
    else none
  | _,_=>none

theorem KF {P:Program} {op:BinOp} {t:TypeId} {x y:Operand} {w:World} {X Y:Array Value} (h:P.eqGuardType P.depth t=false) :
    (eqGuard op t x y (.agg X) (.agg Y)).run P w=.ok () w:=by
  unfold eqGuard
  cases op<;>simp [h]

theorem NR {P:Program} {N np:Nat} {o:Oper} {op:BinOp} {t yT:TypeId} {x y:Operand} {rs:List (Nat×AV)} {hn:xC} {r:List Prop×AV}
    (ho:o.op=.binOp op t x y yT) (hx:y3 x=true) (hy:y3 y=true)
    (h:C2 P op t (y1 rs x) (y1 rs y) hn=some r) (hv:∀ p∈r.1,p) (hd:vK N o.dst=true) :
    vR P N np o { rs:=rs,dst:=o.dst.map fun d=>(d,r.2) }:=by
  intro G st a w hN hnp hE ⟨T,hT⟩
  have hrx:=wY hT hE.1 hx
  have hry:=wY hT hE.1 hy
  unfold C2 at h
  split at h
  case h_2=>cases h
  rename_i cs ds hX hY
  rw [hX] at hrx
  rw [hY] at hry
  replace h:=y7 h;obtain ⟨hc,h⟩:=h
  simp only [Bool.and_eq_true] at hc
  have m1:vQ true hn.mks (.agg cs)=true:=by simp [vQ,hc.1]
  have m2:vQ true hn.mks (.agg ds)=true:=by simp [vQ,hc.2]
  have key:∀ (K:qK P t hn.mks),(hn.b=true↔AV.agg cs=AV.agg ds)→∃ X Y,a.eval x=.agg X∧a.eval y=.agg Y∧(Op.equal t (a.eval x) (a.eval y)).run P w=.ok hn.b w:=by
    intro K hb
    obtain ⟨lx,hlx⟩:=K.key.reads _ _ _ _ _ hrx m1
    obtain ⟨ly,hly⟩:=K.key.reads _ _ _ _ _ hry m2
    obtain ⟨q,hq,hiff⟩:=K.eq w _ _ lx ly hlx hly
    have e:q=hn.b:=by
      rw [Bool.eq_iff_iff,hiff,hb,← b6 hrx hry m1 m2]
      constructor
      · intro h;subst h;exact K.key.keyed.inj hlx hly
      · intro h;rw [h,hly] at hlx;injection hlx with hlx;exact hlx.symm
    generalize hvx:a.eval x=vx at *
    generalize hvy:a.eval y=vy at *
    cases hrx with
    | agg _ _ _ =>
      cases hry with
      | agg _ _ _=>exact ⟨_,_,rfl,rfl,e ▸ hq⟩
  split at h
  · injection h with h;subst h
    have K:qK P t hn.mks:=hv _ (by simp)
    obtain ⟨X,Y,e1,e2,hrun⟩:=key K (hv _ (by simp))
    rw [e1,e2] at hrun
    refine vV (qQ (v:=.bool hn.b) ho e1 e2 (KF K.guard) (by simp [binOp,hrun,Result.andThen])) (hT.quiet (tA w) rfl (by simp [Option.map_map,Function.comp_def]) ?_)
    intro d av' he'
    obtain ⟨hlt,rfl⟩:=vL hd he'
    exact ⟨by omega,.bool⟩
  · injection h with h;subst h
    have K:qK P t hn.mks:=hv _ (by simp)
    obtain ⟨X,Y,e1,e2,hrun⟩:=key K (hv _ (by simp))
    rw [e1,e2] at hrun
    refine vV (qQ (v:=.bool !hn.b) ho e1 e2 (KF K.guard) (by simp [binOp,hrun,Result.andThen])) (hT.quiet (tA w) rfl (by simp [Option.map_map,Function.comp_def]) ?_)
    intro d av' he'
    obtain ⟨hlt,rfl⟩:=vL hd he'
    exact ⟨by omega,.bool⟩
  · cases h
end Go.Ab

/- Further operations: the capacity of a nil slice, a nil slice cut, zeros appended to a nil slice, a row of the call's own cut short. -/
namespace Go.Ab
open Go

def i4 (P:Program) (t:TypeId):Bool:=match P.underlying t with | some (.int _)=>true | _=>false
def bL (P:Program) (t:TypeId):Bool:=match P.underlying t with | some (.slice e)=>wZ P e | _=>false
theorem GF {P:Program} {t:TypeId} (h:bL P t=true):∃ e,P.underlying t=some (.slice e)∧wZ P e=true:=by
  unfold bL at h
  split at h
  · exact ⟨_,by assumption,h⟩
  · cases h

def xop (P:Program) (o:Oper) (rs:List (Nat×AV)) (B:Nat→z9) (h:xC):Option (List Prop×Eff) :=
  match o.op with
  | .call { callee:=.builtin b,args:=args,argTypes:=ts } =>
    match b,args.toList,ts.toList with
    | .cap,[x],[t] =>
      bif y3 x&&bL P t then
        match y1 rs x with
        | .nilsl=>some ([],{ rs:=rs,dst:=o.dst.map fun d=>(d,.int .i64 0) })
        | _=>none
      else none
    | .append,[x,y],[t,t2] =>
      bif (y3 x&&y3 y)&&(qO (B h.id)&&i4 P t2) then
        match y1 rs x,y1 rs y,jW P t with
        | .nilsl,.int _ n,some e=>some ([n=h.n,0<h.n,h.n * uY P e≤140737488355328],
            { rs:=rs,rb:=[(h.id,.unused)],dst:=o.dst.map fun d=>(d,.own h.id h.n),wb:=[(h.id,.live (.row e (szT P e) []))] })
        | _,_,_=>none
      else none
    | _,_,_=>none
  | .slice t x none (some y) none =>
    bif (y3 x&&y3 y)&&bL P t then
      match y1 rs x,y1 rs y with
      | .nilsl,.int _ n=>some ([n=0],{ rs:=rs,dst:=o.dst.map fun d=>(d,.nilsl) })
      | .own id n,.int _ m =>
        match B id with
        | .live (.row e sz l)=>some ([m=h.n,h.n≤n,h.l=l.take h.n],{ rs:=rs,rb:=[(id,B id)],dst:=o.dst.map fun d=>(d,.own id h.n),wb:=[(id,.live (.row e sz h.l))] })
        | _=>none
      | _,_=>none
    else none
  | .binOp .eql t x y _ =>
    bif (y3 x&&y3 y)&&c8 P t then
      match y1 rs x,y1 rs y with
      | .own id _,.nilsl =>
        match B id with
        | .live (.row _ _ l)=>some ([],{ rs:=rs,rb:=[(id,B id)],dst:=o.dst.map fun d=>(d,.nb l) })
        | _=>none
      | _,_=>none
    else none
  | _=>none

/-- A row of the call's own against nil. -/
theorem WP {P:Program} {N np:Nat} {o:Oper} {x y:Operand} {t t2:TypeId} {rs:List (Nat×AV)} {B:Nat→z9} {id m e sz:Nat} {l:List AV}
    (ho:o.op=.binOp .eql t x y t2) (hx:y3 x=true) (hy:y3 y=true) (ht:c8 P t=true) (hX:y1 rs x=.own id m) (hY:y1 rs y=.nilsl) (hB:B id=.live (.row e sz l)) (hd:vK N o.dst=true) :
    vR P N np o { rs:=rs,rb:=[(id,B id)],dst:=o.dst.map fun d=>(d,.nb l) }:=by
  intro G st a w hN hnp hE ⟨T,hT⟩
  have hrx:=wY hT hE.1 hx
  have hry:=wY hT hE.1 hy
  rw [hX] at hrx
  rw [hY] at hry
  have hb:st.box id=.live (.row e sz l):=(hE.2 (id,B id) (by simp)).trans hB
  have hbox:=hT.boxes id _ hb
  generalize hvx:a.eval x=vx at hrx
  generalize hvy:a.eval y=vy at hry
  obtain ⟨e',he⟩:=JL ht
  have hy':vy=.slice none 0 0:=by
    generalize hn:AV.nilsl=n at hry
    cases hry<;>first | rfl | cases hn
  subst hy'
  have fin:∀ q:Bool,(q=true→l=[])→(execOp a.eval o).run P w=.ok (.value (.bool q)) w→o.wp P a w (fun a' w'=>Rel G (st.upd { rs:=rs,rb:=[(id,B id)],dst:=o.dst.map fun d=>(d,.nb l) }) a' w') (fun _ _ _=>False):=by
    intro q hq hrun
    refine vV hrun ?_
    refine hT.quiet (tA w) rfl (by simp [Option.map_map,Function.comp_def]) ?_
    intro d av hE'
    obtain ⟨hlt,rfl⟩:=vL hd hE'
    exact ⟨by omega,.nb hq⟩
  cases hrx with
  | ownNil hTi =>
    have hnil:l=[]:=by
      rcases hbox with ⟨_,h⟩ | ⟨b,cap,C,hp,_⟩
      · exact h
      · rw [hTi] at hp;cases hp
    exact fin _ (fun _=>hnil) (qQ ho hvx hvy (jF trivial) (Lib.run_eql_slice_nil w t e' _ _ _ _ _ he))
  | own hTi h1 h2=>exact fin _ (fun h=>by cases h) (qQ ho hvx hvy (jF trivial) (Lib.run_eql_slice_nil w t e' _ _ _ _ _ he))

theorem W5 {P:Program} {N np:Nat} {o:Oper} {x:Operand} {t:TypeId} {rs:List (Nat×AV)}
    (ho:o.op=.call { callee:=.builtin .cap,args:=#[x],argTypes:=#[t] }) (hx:y3 x=true) (ht:bL P t=true) (hX:y1 rs x=.nilsl) (hd:vK N o.dst=true) :
    vR P N np o { rs:=rs,dst:=o.dst.map fun d=>(d,.int .i64 0) }:=by
  intro G st a w hN hnp hE ⟨T,hT⟩
  have hrx:=wY hT hE.1 hx
  rw [hX] at hrx
  generalize hvx:a.eval x=vx at hrx
  cases hrx with
  | nilsl =>
  obtain ⟨e,he,_⟩:=GF ht
  refine vV (v:=.int .i64 0) (w':=w) ?_ ?_
  · simp [execOp,ho,resolve,invoke,builtin,hvx,Builtin.cap_,run_underlying he,goInt]
  · refine hT.quiet (tA w) rfl (by simp [Option.map_map,Function.comp_def]) ?_
    intro d av hE'
    obtain ⟨hlt,rfl⟩:=vL hd hE'
    exact ⟨by omega,.int rfl⟩

theorem NH {P:Program} {N np:Nat} {o:Oper} {x y:Operand} {t:TypeId} {rs:List (Nat×AV)} {k:IntKind} {n:Int}
    (ho:o.op=.slice t x none (some y) none) (hx:y3 x=true) (hy:y3 y=true) (ht:bL P t=true) (hX:y1 rs x=.nilsl) (hY:y1 rs y=.int k n) (hn:n=0) (hd:vK N o.dst=true) :
    vR P N np o { rs:=rs,dst:=o.dst.map fun d=>(d,.nilsl) }:=by
  intro G st a w hN hnp hE ⟨T,hT⟩
  have hrx:=wY hT hE.1 hx
  have hry:=wY hT hE.1 hy
  rw [hX] at hrx
  rw [hY] at hry
  generalize hvx:a.eval x=vx at hrx
  generalize hvy:a.eval y=vy at hry
  cases hrx with
  | nilsl =>
  cases hry with
  | int wn =>
  obtain ⟨e,he,hk⟩:=GF ht
  subst hn
  refine vV (v:=.slice none 0 0) (w':=w) (jE ho (by rw [he];simp) (by rw [he];simp) ?_) ?_
  · simp only [hvx,hvy,Instr.slice,Sem.run_bind,run_underlying he,Result.andThen_ok,Option.map_none,Option.map_some,Instr.sliceBounds,Sem.run_pure,u5 hk]
    rw [j6 (P:=P) (w:=w) (y:=0) rfl (Int.le_refl 0) (Int.le_refl 0)]
    simp only [Result.andThen_ok]
    rfl
  · refine hT.quiet (tA w) rfl (by simp [Option.map_map,Function.comp_def]) ?_
    intro d av hE'
    obtain ⟨hlt,rfl⟩:=vL hd hE'
    exact ⟨by omega,.nilsl⟩

theorem WO {P:Program} {t t2 e:TypeId} {i:TypeInfo} {z:Value} {w:World} {ty:TypeId} (ht:pS P t e i z) {q:IntKind} (h2:P.underlying t2=some (.int q)) {k:IntKind} {n:Nat}
    (h0:0<n) (hb:n * uY P e≤140737488355328) :
    (Builtin.append_ #[t,t2] ty #[.slice none 0 0,.int k (n:Int)]).run P w =
      .ok (.slice (some ⟨w.heap.size,0,none⟩) n (grownCap w n 0 e))
        (w.drew.alloc (.cells (Builtin.zeroCells z.cells n++Builtin.zeroCells z.cells (grownCap w n 0 e - n)) e)):=by
  have hm:=Nat.le_mul_of_pos_right n ht.bpos
  have hw:IntKind.i64.wrap (n:Int)=n:=by
    simp only [IntKind.wrap,IntKind.bits,IntKind.signed];simp;split<;>omega
  have h1:¬ ((n:Int)<0):=by omega
  have h3:¬ (281474976710656<(n:Int) * (i.bytes:Int)):=by rw [ht.bytes,← Int.natCast_mul];omega
  have h4:¬ (n=0):=by omega
  have h5:¬ (9223372036854775807:Int)<(n:Int):=by omega
  have h6:¬ (n * szT P e=0):=by have:=Nat.mul_pos h0 ht.pos;omega
  have hg:=growslice_fits (need:=n) (old:=0) (bytes:=uY P e) (by omega) hb
  rw [← ht.bytes] at hg
  have h48':¬ (281474976710656<Builtin.nextslicecap n 0 * i.bytes):=by omega
  rw [← ht.size] at h6
  simp only [Builtin.append_,List.getElem?_toArray,List.getElem?_cons_zero,List.getElem?_cons_succ,Sem.run_bind,run_underlying ht.und,run_underlying h2,Result.andThen_ok,sizeOf,typeInfo,run_program,
    ht.info,Sem.run_pure,asInt,asIntOf]
  simp [h1,h3,h4,h5,h48',h6,hw,Question.forced,newRow,grownCap,zeroValue,typeInfo,ht.info,ht.zero,Builtin.firstCells]

theorem NA {P:Program} {t:TypeId} (h:i4 P t=true):∃ q,P.underlying t=some (.int q):=by
  unfold i4 at h
  split at h
  · exact ⟨_,by assumption⟩
  · cases h

theorem WY {P:Program} {N np:Nat} {o:Oper} {x y:Operand} {t t2 e:TypeId} {rs:List (Nat×AV)} {k:IntKind} {n:Int} {id m:Nat}
    (ho:o.op=.call { callee:=.builtin .append,args:=#[x,y],argTypes:=#[t,t2] }) (hx:y3 x=true) (hy:y3 y=true) (ht2:i4 P t2=true) (hrow:jW P t=some e)
    (hX:y1 rs x=.nilsl) (hY:y1 rs y=.int k n) (hn:n=m) (h0:0<m) (hb:m * uY P e≤140737488355328) (hd:vK N o.dst=true) :
    vR P N np o { rs:=rs,rb:=[(id,.unused)],dst:=o.dst.map fun d=>(d,.own id m),wb:=[(id,.live (.row e (szT P e) []))] }:=by
  intro G st a w hN hnp hE ⟨T,hT⟩
  have hrx:=wY hT hE.1 hx
  have hry:=wY hT hE.1 hy
  obtain ⟨i,z,ht⟩:=pX hrow
  obtain ⟨q,hq⟩:=NA ht2
  rw [hX] at hrx
  rw [hY] at hry
  generalize hvx:a.eval x=vx at hrx
  generalize hvy:a.eval y=vy at hry
  cases hrx with
  | nilsl =>
  cases hry with
  | int wn =>
  subst hn
  have hu:st.box id=.unused:=hE.2 (id,.unused) (by simp)
  have hm:=Nat.le_mul_of_pos_right m ht.bpos
  have hmax:m≤maxLen:=by rw [uM];omega
  have hge:=grownCap_ge w m 0 e
  have hcm:=grownCap_le_maxLen w m 0 e hmax
  have hrun:=WO (P:=P) (w:=w) (ty:=o.type) ht hq (k:=k) h0 hb
  refine vV (v:=.slice (some ⟨w.heap.size,0,none⟩) m (grownCap w m 0 e)) (w':=w.drew.alloc (.cells (Builtin.zeroCells z.cells m++Builtin.zeroCells z.cells (grownCap w m 0 e - m)) e)) ?_ ?_
  · simp [execOp,ho,resolve,invoke,builtin,hvx,hvy,hrun]
  · refine hT.new (p:=.at w.heap.size (grownCap w m 0 e)) ⟨rfl,rfl,rfl,by simp,fun k hk _=>heap_alloc_old w.drew _ k hk⟩ rfl hu (by simp [Option.map_map,Function.comp_def]) (fun b c hp=>by injection hp with hp;omega) ?_ ?_
    · refine .inr ⟨_,_,_,rfl,heap_alloc_new w.drew _,?_,by simp,hcm,by simp,by simp,fun i' av j c hi=>by simp at hi⟩
      rw [Array.size_append,size_zeroCells,size_zeroCells,ht.zsize,← Nat.add_mul]
      congr 1;omega
    · intro d av hE'
      obtain ⟨hlt,rfl⟩:=vL hd hE'
      exact ⟨by omega,.own (Tbl.put_same _ _ _) hge hcm⟩

theorem NX {P:Program} {N np:Nat} {o:Oper} {x y:Operand} {t:TypeId} {rs:List (Nat×AV)} {B:Nat→z9} {k:IntKind} {n:Int} {id m hm:Nat} {e sz:Nat} {l:List AV}
    (ho:o.op=.slice t x none (some y) none) (hx:y3 x=true) (hy:y3 y=true) (ht:bL P t=true) (hX:y1 rs x=.own id m) (hY:y1 rs y=.int k n)
    (hB:B id=.live (.row e sz l)) (hn:n=hm) (hle:hm≤m) (hd:vK N o.dst=true) :
    vR P N np o { rs:=rs,rb:=[(id,B id)],dst:=o.dst.map fun d=>(d,.own id hm),wb:=[(id,.live (.row e sz (l.take hm)))] }:=by
  intro G st a w hN hnp hE ⟨T,hT⟩
  have hrx:=wY hT hE.1 hx
  have hry:=wY hT hE.1 hy
  rw [hX] at hrx
  rw [hY] at hry
  have hb:st.box id=.live (.row e sz l):=(hE.2 (id,B id) (by simp)).trans hB
  generalize hvx:a.eval x=vx at hrx
  generalize hvy:a.eval y=vy at hry
  cases hry with
  | int wn =>
  obtain ⟨e',he,hk⟩:=GF ht
  subst hn
  have hboxes:=hT.boxes id _ hb
  have hrun:∀ (base:Option Addr) (cap:Nat),hm≤cap→(Instr.slice t (.slice base m cap) none (some (.int k (hm:Int))) none).run P w=.ok (.slice (if cap=0 then base else base.map (·.add 0)) hm cap) w:=by
    intro base cap hc
    simp only [Instr.slice,Sem.run_bind,run_underlying he,Result.andThen_ok,Instr.sliceBounds,Sem.run_pure,u5 hk]
    rw [j6 (P:=P) (w:=w) (y:=cap) rfl (by omega) (by omega)]
    simp only [Result.andThen_ok,Int.toNat_natCast,Nat.zero_mul,Nat.sub_zero]
  cases hrx with
  | ownNil hTi =>
    rename_i a0
    have h0:hm=0:=by omega
    subst h0
    refine vV (jE ho (by rw [he];simp) (by rw [he];simp) (by simp only [hvx,hvy,Option.map_none,Option.map_some];exact hrun a0 0 (Nat.le_refl _))) ?_
    have hnil:l=[]:=by
      rcases hboxes with ⟨_,h⟩ | ⟨b,cap,C,hp,_⟩
      · exact h
      · rw [hTi] at hp;cases hp
    subst hnil
    have hst:(st.upd { rs:=rs,rb:=[(id,B id)],dst:=o.dst.map fun d=>(d,.own id 0),wb:=[(id,.live (.row e sz (([]:List AV).take 0)))] }).box=st.box:=by
      funext i
      rw [pB]
      simp only [pW,List.take_zero]
      by_cases hi:i=id
      · rw [if_pos hi,hi,hb]
      · rw [if_neg hi]
    refine hT.quiet (tA w) hst (by simp [Option.map_map,Function.comp_def]) ?_
    intro d av hE'
    obtain ⟨hlt,rfl⟩:=vL hd hE'
    exact ⟨by omega,.ownNil hTi⟩
  | own hTi h1 h2 =>
    rename_i b cap
    refine vV (jE ho (by rw [he];simp) (by rw [he];simp) (by simp only [hvx,hvy,Option.map_none,Option.map_some];exact hrun _ cap (by omega))) ?_
    refine hT.write (bx':=.row e sz (l.take hm)) (b:=b) (cap:=cap) hb hTi ⟨rfl,rfl,rfl,Nat.le_refl _,fun _ _ _=>rfl⟩ rfl (by simp [Option.map_map,Function.comp_def]) ?_ ?_
    · rcases hboxes with ⟨hp,h⟩ | ⟨b',cap',C,hp,hh,k1,k2,k3,k4,k5,k6⟩
      · exact .inl ⟨hp,by rw [h];simp⟩
      · refine .inr ⟨b',cap',C,hp,hh,k1,by rw [List.length_take];omega,k3,fun av hav=>k4 av (List.mem_of_mem_take hav),fun av hav=>k5 av (List.mem_of_mem_take hav),fun i av j c hi hj=>k6 i av j c ?_ hj⟩
        rw [List.getElem?_take] at hi
        split at hi
        · exact hi
        · cases hi
    · intro d av hE'
      obtain ⟨hlt,rfl⟩:=vL hd hE'
      refine ⟨by omega,?_⟩
      have:(if cap=0 then some (⟨b,0,none⟩:Addr) else (some (⟨b,0,none⟩:Addr)).map (·.add 0))=some ⟨b,0,none⟩:=by
        split
        · rfl
        · simp [Addr.add]
      rw [this]
      exact .own hTi (by omega) h2

theorem UD {P:Program} {N np:Nat} {o:Oper} {rs:List (Nat×AV)} {st:AS} {hn:xC} {r:List Prop×Eff} (h:xop P o rs st.box hn=some r) (hr:∀ x∈rs,st.slot x.1=x.2)
    (hv:∀ p∈r.1,p) (hd:vK N o.dst=true):r.2.holds st∧vR P N np o r.2:=by
  unfold xop at h
  split at h
  · rename_i b args ts ho
    split at h
    · rename_i x t ha ht
      rw [cT ha,cT ht] at ho
      replace h:=y7 h;obtain ⟨hu,h⟩:=h
      simp only [Bool.and_eq_true] at hu
      split at h
      · rename_i hX
        injection h with h;subst h
        exact ⟨⟨hr,fun x hx=>by simp at hx⟩,W5 ho hu.1 hu.2 hX hd⟩
      · cases h
    · rename_i x y t t2 ha ht
      rw [jC ha,jC ht] at ho
      replace h:=y7 h;obtain ⟨hu,h⟩:=h
      simp only [Bool.and_eq_true] at hu
      split at h
      · rename_i k n e hX hY hrow
        injection h with h;subst h
        exact ⟨⟨hr,fun x hx=>by simp at hx;subst hx;exact jD hu.2.1⟩,WY ho hu.1.1 hu.1.2 hu.2.2 hrow hX hY (hv _ (by simp)) (hv _ (by simp)) (hv _ (by simp)) hd⟩
      · cases h
    · cases h
  · rename_i t x y ho
    replace h:=y7 h;obtain ⟨hu,h⟩:=h
    simp only [Bool.and_eq_true] at hu
    split at h
    · rename_i k n hX hY
      injection h with h;subst h
      exact ⟨⟨hr,fun x hx=>by simp at hx⟩,NH ho hu.1.1 hu.1.2 hu.2 hX hY (hv _ (by simp)) hd⟩
    · rename_i id m k n hX hY
      split at h
      · rename_i e sz l hB
        injection h with h;subst h
        have e1:hn.l=l.take hn.n:=hv _ (by simp)
        refine ⟨⟨hr,fun x hx=>by simp at hx;subst hx;rfl⟩,?_⟩
        simp only [e1]
        exact NX ho hu.1.1 hu.1.2 hu.2 hX hY hB (hv _ (by simp)) (hv _ (by simp)) hd
      · cases h
    · cases h
  · rename_i t x y t2 ho
    replace h:=y7 h;obtain ⟨hu,h⟩:=h
    simp only [Bool.and_eq_true] at hu
    split at h
    · rename_i id n hX hY
      split at h
      · rename_i e sz l hB
        injection h with h;subst h
        exact ⟨⟨hr,fun x hx=>by simp at hx;subst hx;rfl⟩,WP ho hu.1.1 hu.1.2 hu.2 hX hY hB hd⟩
      · cases h
    · cases h
  · cases h
end Go.Ab
