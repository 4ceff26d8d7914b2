/- Further operations: the capacity of a nil slice, a nil slice cut, zeros appended to a nil slice, a row of the call's own cut short. -/
import Derived.Test.YtbifmbdcejggkaaA36
namespace Go.Ab
open Go

def zFp (P:Program) (t:TypeId):Bool:=match P.underlying t with | some (.int _)=>true | _=>false
def pZ (P:Program) (t:TypeId):Bool:=match P.underlying t with | some (.slice e)=>x7 P e | _=>false
theorem zAU {P:Program} {t:TypeId} (h:pZ P t=true):∃ e,P.underlying t=some (.slice e)∧x7 P e=true:=by
  unfold pZ at h
  split at h
  · exact ⟨_,by assumption,h⟩
  · cases h

def xop (P:Program) (o:Oper) (rs:List (Nat×AV)) (B:Nat→zM) (h:xC):Option (List Prop×Eff) :=
  match o.op with
  | .call { callee:=.builtin b,args:=args,argTypes:=ts } =>
    match b,args.toList,ts.toList with
    | .cap,[x],[t] =>
      bif yX x&&pZ P t then
        match z6 rs x with
        | .nilsl=>some ([],{ rs:=rs,dst:=o.dst.map fun d=>(d,.int .i64 0) })
        | _=>none
      else none
    | .append,[x,y],[t,t2] =>
      bif (yX x&&yX y)&&(v3 (B h.id)&&zFp P t2) then
        match z6 rs x,z6 rs y,zBg P t with
        | .nilsl,.int _ n,some e=>some ([n=h.n,0<h.n,h.n * uO P e≤140737488355328],
            { rs:=rs,rb:=[(h.id,.unused)],dst:=o.dst.map fun d=>(d,.own h.id h.n),wb:=[(h.id,.live (.row e (szT P e) []))] })
        | _,_,_=>none
      else none
    | _,_,_=>none
  | .slice t x none (some y) none =>
    bif (yX x&&yX y)&&pZ P t then
      match z6 rs x,z6 rs y with
      | .nilsl,.int _ n=>some ([n=0],{ rs:=rs,dst:=o.dst.map fun d=>(d,.nilsl) })
      | .own id n,.int _ m =>
        match B id with
        | .live (.row e sz l)=>some ([m=h.n,h.n≤n,h.l=l.take h.n],{ rs:=rs,rb:=[(id,B id)],dst:=o.dst.map fun d=>(d,.own id h.n),wb:=[(id,.live (.row e sz h.l))] })
        | _=>none
      | _,_=>none
    else none
  | .load t x =>
    bif yX x then
      match zH1 P t (z6 rs x) B with
      | some (vc,id,av)=>some (vc,{ rs:=rs,rb:=[(id,B id)],dst:=o.dst.map fun d=>(d,av) })
      | none=>none
    else none
  | .store t x y =>
    bif (yX x&&yX y)&&o.dst.isNone then
      match zFE P t (z6 rs x) (z6 rs y) B with
      | some (vc,id,bx)=>some (vc,{ rs:=rs,rb:=[(id,B id)],wb:=[(id,.live bx)] })
      | none=>none
    else none
  | _=>none

theorem zHF {P:Program} {N np:Nat} {o:Oper} {x:Operand} {t:TypeId} {rs:List (Nat×AV)}
    (ho:o.op=.call { callee:=.builtin .cap,args:=#[x],argTypes:=#[t] }) (hx:yX x=true) (ht:pZ P t=true) (hX:z6 rs x=.nilsl) (hd:vG N o.dst=true) :
    wN P N np o { rs:=rs,dst:=o.dst.map fun d=>(d,.int .i64 0) }:=by
  intro G st a w hN hnp hE ⟨T,hT⟩
  have hrx:=yV hT hE.1 hx
  rw [hX] at hrx
  generalize hvx:a.eval x=vx at hrx
  cases hrx with
  | nilsl =>
  obtain ⟨e,he,_⟩:=zAU ht
  refine wC (v:=.int .i64 0) (w':=w) ?_ ?_
  · simp [execOp,ho,resolve,invoke,builtin,hvx,Builtin.cap_,run_underlying he,goInt]
  · refine hT.quiet (wW w) rfl (by simp [Option.map_map,Function.comp_def]) ?_
    intro d av hE'
    obtain ⟨hlt,rfl⟩:=wQ hd hE'
    exact ⟨by omega,.int rfl⟩

theorem zFm {P:Program} {N np:Nat} {o:Oper} {x y:Operand} {t:TypeId} {rs:List (Nat×AV)} {k:IntKind} {n:Int}
    (ho:o.op=.slice t x none (some y) none) (hx:yX x=true) (hy:yX y=true) (ht:pZ P t=true) (hX:z6 rs x=.nilsl) (hY:z6 rs y=.int k n) (hn:n=0) (hd:vG N o.dst=true) :
    wN P N np o { rs:=rs,dst:=o.dst.map fun d=>(d,.nilsl) }:=by
  intro G st a w hN hnp hE ⟨T,hT⟩
  have hrx:=yV hT hE.1 hx
  have hry:=yV hT hE.1 hy
  rw [hX] at hrx
  rw [hY] at hry
  generalize hvx:a.eval x=vx at hrx
  generalize hvy:a.eval y=vy at hry
  cases hrx with
  | nilsl =>
  cases hry with
  | int wn =>
  obtain ⟨e,he,hk⟩:=zAU ht
  subst hn
  refine wC (v:=.slice none 0 0) (w':=w) (vM ho (by rw [he];simp) (by rw [he];simp) ?_) ?_
  · simp only [hvx,hvy,Instr.slice,Sem.run_bind,run_underlying he,Result.andThen_ok,Option.map_none,Option.map_some,Instr.sliceBounds,Sem.run_pure,wR hk]
    rw [tN (P:=P) (w:=w) (y:=0) rfl (Int.le_refl 0) (Int.le_refl 0)]
    simp only [Result.andThen_ok]
    rfl
  · refine hT.quiet (wW w) rfl (by simp [Option.map_map,Function.comp_def]) ?_
    intro d av hE'
    obtain ⟨hlt,rfl⟩:=wQ hd hE'
    exact ⟨by omega,.nilsl⟩

theorem zIy {P:Program} {t t2 e:TypeId} {i:TypeInfo} {z:Value} {w:World} {ty:TypeId} (ht:zDA P t e i z) {q:IntKind} (h2:P.underlying t2=some (.int q)) {k:IntKind} {n:Nat}
    (h0:0<n) (hb:n * uO P e≤140737488355328) :
    (Builtin.append_ #[t,t2] ty #[.slice none 0 0,.int k (n:Int)]).run P w =
      .ok (.slice (some ⟨w.heap.size,0,none⟩) n (grownCap w n 0 e))
        (w.drew.alloc (.cells (Builtin.zeroCells z.cells n++Builtin.zeroCells z.cells (grownCap w n 0 e - n)) e)):=by
  have hm:=Nat.le_mul_of_pos_right n ht.bpos
  have hw:IntKind.i64.wrap (n:Int)=n:=by
    simp only [IntKind.wrap,IntKind.bits,IntKind.signed];simp;split<;>omega
  have h1:¬ ((n:Int)<0):=by omega
  have h3:¬ (281474976710656<(n:Int) * (i.bytes:Int)):=by rw [ht.bytes,← Int.natCast_mul];omega
  have h4:¬ (n=0):=by omega
  have h5:¬ (9223372036854775807:Int)<(n:Int):=by omega
  have h6:¬ (n * szT P e=0):=by have:=Nat.mul_pos h0 ht.pos;omega
  have hg:=growslice_fits (need:=n) (old:=0) (bytes:=uO P e) (by omega) hb
  rw [← ht.bytes] at hg
  have h48':¬ (281474976710656<Builtin.nextslicecap n 0 * i.bytes):=by omega
  rw [← ht.size] at h6
  simp only [Builtin.append_,List.getElem?_toArray,List.getElem?_cons_zero,List.getElem?_cons_succ,Sem.run_bind,run_underlying ht.und,run_underlying h2,Result.andThen_ok,sizeOf,typeInfo,run_program,
    ht.info,Sem.run_pure,asInt,asIntOf]
  simp [h1,h3,h4,h5,h48',h6,hw,Question.forced,newRow,grownCap,zeroValue,typeInfo,ht.info,ht.zero,Builtin.firstCells]

theorem zID {P:Program} {t:TypeId} (h:zFp P t=true):∃ q,P.underlying t=some (.int q):=by
  unfold zFp at h
  split at h
  · exact ⟨_,by assumption⟩
  · cases h

theorem zGQ {P:Program} {N np:Nat} {o:Oper} {x y:Operand} {t t2 e:TypeId} {rs:List (Nat×AV)} {k:IntKind} {n:Int} {id m:Nat}
    (ho:o.op=.call { callee:=.builtin .append,args:=#[x,y],argTypes:=#[t,t2] }) (hx:yX x=true) (hy:yX y=true) (ht2:zFp P t2=true) (hrow:zBg P t=some e)
    (hX:z6 rs x=.nilsl) (hY:z6 rs y=.int k n) (hn:n=m) (h0:0<m) (hb:m * uO P e≤140737488355328) (hd:vG N o.dst=true) :
    wN P N np o { rs:=rs,rb:=[(id,.unused)],dst:=o.dst.map fun d=>(d,.own id m),wb:=[(id,.live (.row e (szT P e) []))] }:=by
  intro G st a w hN hnp hE ⟨T,hT⟩
  have hrx:=yV hT hE.1 hx
  have hry:=yV hT hE.1 hy
  obtain ⟨i,z,ht⟩:=jP hrow
  obtain ⟨q,hq⟩:=zID ht2
  rw [hX] at hrx
  rw [hY] at hry
  generalize hvx:a.eval x=vx at hrx
  generalize hvy:a.eval y=vy at hry
  cases hrx with
  | nilsl =>
  cases hry with
  | int wn =>
  subst hn
  have hu:st.box id=.unused:=hE.2 (id,.unused) (by simp)
  have hm:=Nat.le_mul_of_pos_right m ht.bpos
  have hmax:m≤maxLen:=by rw [wO];omega
  have hge:=grownCap_ge w m 0 e
  have hcm:=grownCap_le_maxLen w m 0 e hmax
  have hrun:=zIy (P:=P) (w:=w) (ty:=o.type) ht hq (k:=k) h0 hb
  refine wC (v:=.slice (some ⟨w.heap.size,0,none⟩) m (grownCap w m 0 e)) (w':=w.drew.alloc (.cells (Builtin.zeroCells z.cells m++Builtin.zeroCells z.cells (grownCap w m 0 e - m)) e)) ?_ ?_
  · simp [execOp,ho,resolve,invoke,builtin,hvx,hvy,hrun]
  · refine hT.new (p:=.at w.heap.size (grownCap w m 0 e)) ⟨rfl,rfl,rfl,by simp,fun k hk _=>heap_alloc_old w.drew _ k hk⟩ rfl hu (by simp [Option.map_map,Function.comp_def]) (fun b c hp=>by injection hp with hp;omega) ?_ ?_
    · refine .inr ⟨_,_,_,rfl,heap_alloc_new w.drew _,?_,by simp,hcm,by simp,by simp,fun i' av j c hi=>by simp at hi⟩
      rw [Array.size_append,size_zeroCells,size_zeroCells,ht.zsize,← Nat.add_mul]
      congr 1;omega
    · intro d av hE'
      obtain ⟨hlt,rfl⟩:=wQ hd hE'
      exact ⟨by omega,.own (Tbl.put_same _ _ _) hge hcm⟩

theorem zFy {P:Program} {N np:Nat} {o:Oper} {x y:Operand} {t:TypeId} {rs:List (Nat×AV)} {B:Nat→zM} {k:IntKind} {n:Int} {id m hm:Nat} {e sz:Nat} {l:List AV}
    (ho:o.op=.slice t x none (some y) none) (hx:yX x=true) (hy:yX y=true) (ht:pZ P t=true) (hX:z6 rs x=.own id m) (hY:z6 rs y=.int k n)
    (hB:B id=.live (.row e sz l)) (hn:n=hm) (hle:hm≤m) (hd:vG N o.dst=true) :
    wN P N np o { rs:=rs,rb:=[(id,B id)],dst:=o.dst.map fun d=>(d,.own id hm),wb:=[(id,.live (.row e sz (l.take hm)))] }:=by
  intro G st a w hN hnp hE ⟨T,hT⟩
  have hrx:=yV hT hE.1 hx
  have hry:=yV hT hE.1 hy
  rw [hX] at hrx
  rw [hY] at hry
  have hb:st.box id=.live (.row e sz l):=(hE.2 (id,B id) (by simp)).trans hB
  generalize hvx:a.eval x=vx at hrx
  generalize hvy:a.eval y=vy at hry
  cases hry with
  | int wn =>
  obtain ⟨e',he,hk⟩:=zAU ht
  subst hn
  have hboxes:=hT.boxes id _ hb
  have hrun:∀ (base:Option Addr) (cap:Nat),hm≤cap→(Instr.slice t (.slice base m cap) none (some (.int k (hm:Int))) none).run P w=.ok (.slice (if cap=0 then base else base.map (·.add 0)) hm cap) w:=by
    intro base cap hc
    simp only [Instr.slice,Sem.run_bind,run_underlying he,Result.andThen_ok,Instr.sliceBounds,Sem.run_pure,wR hk]
    rw [tN (P:=P) (w:=w) (y:=cap) rfl (by omega) (by omega)]
    simp only [Result.andThen_ok,Int.toNat_natCast,Nat.zero_mul,Nat.sub_zero]
  cases hrx with
  | ownNil hTi =>
    rename_i a0
    have h0:hm=0:=by omega
    subst h0
    refine wC (vM ho (by rw [he];simp) (by rw [he];simp) (by simp only [hvx,hvy,Option.map_none,Option.map_some];exact hrun a0 0 (Nat.le_refl _))) ?_
    have hnil:l=[]:=by
      rcases hboxes with ⟨_,h⟩ | ⟨b,cap,C,hp,_⟩
      · exact h
      · rw [hTi] at hp;cases hp
    subst hnil
    have hst:(st.upd { rs:=rs,rb:=[(id,B id)],dst:=o.dst.map fun d=>(d,.own id 0),wb:=[(id,.live (.row e sz (([]:List AV).take 0)))] }).box=st.box:=by
      funext i
      rw [k0]
      simp only [zAL,List.take_zero]
      by_cases hi:i=id
      · rw [if_pos hi,hi,hb]
      · rw [if_neg hi]
    refine hT.quiet (wW w) hst (by simp [Option.map_map,Function.comp_def]) ?_
    intro d av hE'
    obtain ⟨hlt,rfl⟩:=wQ hd hE'
    exact ⟨by omega,.ownNil hTi⟩
  | own hTi h1 h2 =>
    rename_i b cap
    refine wC (vM ho (by rw [he];simp) (by rw [he];simp) (by simp only [hvx,hvy,Option.map_none,Option.map_some];exact hrun _ cap (by omega))) ?_
    refine hT.write (bx':=.row e sz (l.take hm)) (b:=b) (cap:=cap) hb hTi ⟨rfl,rfl,rfl,Nat.le_refl _,fun _ _ _=>rfl⟩ rfl (by simp [Option.map_map,Function.comp_def]) ?_ ?_
    · rcases hboxes with ⟨hp,h⟩ | ⟨b',cap',C,hp,hh,k1,k2,k3,k4,k5,k6⟩
      · exact .inl ⟨hp,by rw [h];simp⟩
      · refine .inr ⟨b',cap',C,hp,hh,k1,by rw [List.length_take];omega,k3,fun av hav=>k4 av (List.mem_of_mem_take hav),fun av hav=>k5 av (List.mem_of_mem_take hav),fun i av j c hi hj=>k6 i av j c ?_ hj⟩
        rw [List.getElem?_take] at hi
        split at hi
        · exact hi
        · cases hi
    · intro d av hE'
      obtain ⟨hlt,rfl⟩:=wQ hd hE'
      refine ⟨by omega,?_⟩
      have:(if cap=0 then some (⟨b,0,none⟩:Addr) else (some (⟨b,0,none⟩:Addr)).map (·.add 0))=some ⟨b,0,none⟩:=by
        split
        · rfl
        · simp [Addr.add]
      rw [this]
      exact .own hTi (by omega) h2

theorem zK2 {P:Program} {N np:Nat} {o:Oper} {rs:List (Nat×AV)} {st:AS} {hn:xC} {r:List Prop×Eff} (h:xop P o rs st.box hn=some r) (hr:∀ x∈rs,st.slot x.1=x.2)
    (hv:∀ p∈r.1,p) (hd:vG N o.dst=true):r.2.holds st∧wN P N np o r.2:=by
  unfold xop at h
  split at h
  · rename_i b args ts ho
    split at h
    · rename_i x t ha ht
      rw [zFY ha,zFY ht] at ho
      replace h:=zY h;obtain ⟨hu,h⟩:=h
      simp only [Bool.and_eq_true] at hu
      split at h
      · rename_i hX
        injection h with h;subst h
        exact ⟨⟨hr,fun x hx=>by simp at hx⟩,zHF ho hu.1 hu.2 hX hd⟩
      · cases h
    · rename_i x y t t2 ha ht
      rw [zAk ha,zAk ht] at ho
      replace h:=zY h;obtain ⟨hu,h⟩:=h
      simp only [Bool.and_eq_true] at hu
      split at h
      · rename_i k n e hX hY hrow
        injection h with h;subst h
        exact ⟨⟨hr,fun x hx=>by simp at hx;subst hx;exact w9 hu.2.1⟩,zGQ ho hu.1.1 hu.1.2 hu.2.2 hrow hX hY (hv _ (by simp)) (hv _ (by simp)) (hv _ (by simp)) hd⟩
      · cases h
    · cases h
  · rename_i t x y ho
    replace h:=zY h;obtain ⟨hu,h⟩:=h
    simp only [Bool.and_eq_true] at hu
    split at h
    · rename_i k n hX hY
      injection h with h;subst h
      exact ⟨⟨hr,fun x hx=>by simp at hx⟩,zFm ho hu.1.1 hu.1.2 hu.2 hX hY (hv _ (by simp)) hd⟩
    · rename_i id m k n hX hY
      split at h
      · rename_i e sz l hB
        injection h with h;subst h
        have e1:hn.l=l.take hn.n:=hv _ (by simp)
        refine ⟨⟨hr,fun x hx=>by simp at hx;subst hx;rfl⟩,?_⟩
        simp only [e1]
        exact zFy ho hu.1.1 hu.1.2 hu.2 hX hY hB (hv _ (by simp)) (hv _ (by simp)) hd
      · cases h
    · cases h
  · rename_i t x ho
    replace h:=zY h;obtain ⟨hu,h⟩:=h
    split at h
    · rename_i vc id av hb
      injection h with h;subst h
      exact ⟨⟨hr,fun x hx=>by simp at hx;subst hx;rfl⟩,zGU ho hu hb hv hd⟩
    · cases h
  · rename_i t x y ho
    replace h:=zY h;obtain ⟨hu,h⟩:=h
    simp only [Bool.and_eq_true,Option.isNone_iff_eq_none] at hu
    split at h
    · rename_i vc id bx hb
      injection h with h;subst h
      exact ⟨⟨hr,fun x hx=>by simp at hx;subst hx;rfl⟩,zFM ho hu.1.1 hu.1.2 hb hv hu.2⟩
    · cases h
  · cases h
end Go.Ab
