/- More on rows: made with a length, made of parts, copied into, an array as a slice, bytes as a string. -/
import Derived.Test.YtdpgdpjoemdkjaaA12
import Derived.Laws.MakeOwn
namespace Go.Ab
open Go
/-! 'append' of a row of the call's own to a slice without x5. -/
def zFm (P:Program) (t t2:TypeId) (x y:AV) (B:Nat→yI) (h:xX):Option (List Prop×List Nat×AV) :=
 match zEy P t,x with
 | some e,.sl true sz l =>
  bif (Nat.beq sz (szT P e)||l.isEmpty)&&zBi P t2 then
   match zHQ P (szT P e) y B with
   | some (vc,ids,m)=>some (vc++[zDR y m,h.l=l++m,(l.length+m.length) * qE P e≤140737488355328],ids,.sl false (szT P e) h.l)
   | none=>none
  else none
 | _,_=>none
theorem zGN {P:Program} {N np:Nat} {o:Oper} {t t2:TypeId} {x y:Operand} {rs:List (Nat×AV)} {hn:xX} {B:Nat→yI} {r:List Prop×List Nat×AV}
  (ho:o.op=.call { callee:=.builtin .append,args:=#[x,y],argTypes:=#[t,t2] }) (hx:y9 x=true) (hy:y9 y=true)
  (h:zFm P t t2 (nz (yW rs x)) (nz (yW rs y)) B hn=some r) (hv:∀ p∈r.1,p) (hd:uN N o.dst=true) :
  vD P N np o { rs:=rs,rb:=r.2.1.map (fun i=>(i,B i)),dst:=o.dst.map fun d=>(d,r.2.2) }:=by
 intro G st a w hN hnp hE ⟨T,hT⟩
 have hrx:=pQ (xD hT hE.1 hx)
 have hry:=pQ (xD hT hE.1 hy)
 unfold zFm at h
 split at h
 case h_2=>cases h
 rename_i e sz l hrow hX
 rw [hX] at hrx
 obtain ⟨i,z,ht⟩:=zAq hrow
 replace h:=yG h;obtain ⟨hc,h⟩:=h
 simp only [Bool.and_eq_true,Bool.or_eq_true] at hc
 have hx':Rep w (imm G st T) T (a.eval x) (.sl true (szT P e) l):=by
  rcases hc.1 with h1 | h1
  ·rw [← x6.1 h1];exact hrx
  ·have:l=[]:=by simpa using h1
   subst this
   exact zJN _ hrx
 split at h
 case h_2=>cases h
 rename_i vc ids m hsrc
 injection h with h;subst h
 simp only at hE hv
 obtain ⟨news,hs⟩:=zD6 hT hry hsrc (fun i hi=>hE.2 (i,B i) (List.mem_map.2 ⟨i,hi,rfl⟩)) (fun p hp=>hv p (by simp at hp ⊢;exact .inl hp)) (hv _ (by simp))
 replace hs:Src P w (imm G st T) (szT P e) (a.eval y) m news:=hs
 obtain ⟨v,w',hrun,hg,hrep⟩:=zGt ho ht hc.2 hx' hs (hv (hn.l=l++m) (by simp)) (hv ((l.length+m.length) * qE P e≤140737488355328) (by simp))
 refine wR hrun (hT.quiet hg rfl (by simp [Option.map_map,Function.comp_def]) ?_)
 intro d av he
 obtain ⟨hlt,rfl⟩:=vN hd he
 exact ⟨by omega,hrep _ _ (fun _ h _=>h) (fun b hb _=>zKq hT hb) (fun _ _ h=>h)⟩
/-! Append to a slice without x5, of something that is not empty: a new row, the call's own. -/
def zGe (P:Program) (t t2:TypeId) (x y:AV) (B:Nat→yI) (h:xX):Option (List Prop×List Nat×Box×AV) :=
 match zEy P t,x with
 | some e,.sl true sz l =>
  bif (Nat.beq sz (szT P e)||l.isEmpty)&&zBi P t2 then
   match zHQ P (szT P e) y B with
   | some (vc,ids,m)=>bif ids.all (fun i=>!(Nat.beq i h.id)) then some (vc++[zDR y m,h.l=l++m,(l.length+m.length) * qE P e≤140737488355328,0<m.length∨l.length=0,h.n=h.l.length],ids,.row e (szT P e) h.l,.own h.id h.n) else none
   | none=>none
  else none
 | _,_=>none
theorem zHj {P:Program} {N np:Nat} {o:Oper} {t t2:TypeId} {x y:Operand} {rs:List (Nat×AV)} {hn:xX} {B:Nat→yI} {r:List Prop×List Nat×Box×AV}
  (ho:o.op=.call { callee:=.builtin .append,args:=#[x,y],argTypes:=#[t,t2] }) (hx:y9 x=true) (hy:y9 y=true)
  (h:zGe P t t2 (nz (yW rs x)) (nz (yW rs y)) B hn=some r) (hv:∀ p∈r.1,p) (hd:uN N o.dst=true) :
  vD P N np o { rs:=rs,rb:=(hn.id,.unused)::r.2.1.map (fun i=>(i,B i)),dst:=o.dst.map fun d=>(d,r.2.2.2),wb:=[(hn.id,.live r.2.2.1)] }:=by
 intro G st a w hN hnp hE ⟨T,hT⟩
 have hrx:=pQ (xD hT hE.1 hx)
 have hry:=pQ (xD hT hE.1 hy)
 unfold zGe at h
 split at h
 case h_2=>cases h
 rename_i e sz l hrow hX
 rw [hX] at hrx
 obtain ⟨i,z,ht⟩:=zAq hrow
 replace h:=yG h;obtain ⟨hc,h⟩:=h
 simp only [Bool.and_eq_true,Bool.or_eq_true] at hc
 have hx':Rep w (imm G st T) T (a.eval x) (.sl true (szT P e) l):=by
  rcases hc.1 with h1 | h1
  ·rw [← x6.1 h1];exact hrx
  ·have:l=[]:=by simpa using h1
   subst this
   exact zJN _ hrx
 split at h
 case h_2=>cases h
 rename_i vc ids m hsrc
 replace h:=yG h;obtain ⟨hids,h⟩:=h
 injection h with h;subst h
 simp only at hE hv
 have hu:st.box hn.id=.unused:=hE.2 (hn.id,.unused) (by simp)
 have hol:zDR (nz (yW rs y)) m:=hv _ (by simp)
 have hL:hn.l=l++m:=hv _ (by simp)
 have hb:(l.length+m.length) * qE P e≤140737488355328:=hv _ (by simp)
 have hm0:0<m.length∨l.length=0:=hv _ (by simp)
 have hnn:hn.n=hn.l.length:=hv _ (by simp)
 obtain ⟨news,hs⟩:=zD6 hT hry hsrc (fun i hi=>hE.2 (i,B i) (List.mem_cons_of_mem _ (List.mem_map.2 ⟨i,hi,rfl⟩))) (fun p hp=>hv p (by simp at hp ⊢;exact .inl hp)) hol
 replace hs:Src P w (imm G st T) (szT P e) (a.eval y) m news:=hs
 have hmax:l.length+m.length≤maxLen:=by
  have:=Nat.le_mul_of_pos_right (l.length+m.length) ht.bpos
  rw [w7];omega
 have hrun:∀ (v:Value) (w':World),(Builtin.append_ #[t,t2] o.type #[a.eval x,a.eval y]).run P w=.ok v w'→(execOp a.eval o).run P w=.ok (.value v) w':=fun v w' hv=>by
  simp [execOp,ho,resolve,invoke,builtin,hv]
 obtain ⟨olds,hso⟩:=zJn (P:=P) hx'
 obtain ⟨base,cap,hXf,_,_,hfull⟩:=zDF hx'
 have hcap:=hfull rfl
 subst hcap
 rw [hXf] at hso
 by_cases hm:m.length=0
 · -- nothing onto nothing
  have hm1:m=[]:=List.eq_nil_of_length_eq_zero hm
  have hl0:l=[]:=List.eq_nil_of_length_eq_zero (by omega)
  have h0:=hs.cells 0 w (Nat.zero_le _) (fun _ _=>rfl)
  simp only [Nat.zero_mul,List.take_zero] at h0
  have hlen0:=hs.lenOf w
  rw [hm] at hlen0
  have hn0:hn.n=0:=by rw [hnn,hL,hl0,hm1];rfl
  refine wR (hrun _ _ (by rw [hXf];exact zCt ht hc.2 hlen0 h0 (Nat.le_refl _))) ?_
  refine hT.new (p:=.nil) (vY w) rfl hu (by simp [Option.map_map,Function.comp_def]) (fun b c hp=>by cases hp) (.inl ⟨rfl,by rw [hL,hl0,hm1];rfl⟩) ?_
  intro d av he
  obtain ⟨hlt,rfl⟩:=vN hd he
  refine ⟨by omega,?_⟩
  rw [hn0,hl0]
  exact .ownNil (Tbl.put_same _ _ _)
 have hnew:=zDB (P:=P) (w:=w) (ty:=o.type) ht hc.2 (base:=base) (sLen:=l.length) (sCap:=l.length) (n:=m.length) (x:=a.eval y) (olds:=olds) (news:=news)
  (hs.lenOf w) (fun w2 hw=>by have:=hs.cells m.length w2 (Nat.le_refl _) (fun b _=>by rw [hw]);rwa [List.take_of_length_le (by rw [hs.len];exact Nat.le_refl _)] at this)
  (fun w2 hw=>by have:=hso.cells l.length w2 (Nat.le_refl _) (fun b _=>by rw [hw]);rwa [List.take_of_length_le (by rw [hso.len];exact Nat.le_refl _)] at this)
  (by omega) hmax hb
 have hge:=grownCap_ge w (l.length+m.length) l.length e
 have hcm:=grownCap_le_maxLen w (l.length+m.length) l.length e hmax
 have hex:=hrun _ _ (by rw [hXf];exact hnew)
 have hLlen:hn.l.length=l.length+m.length:=by rw [hL];simp
 have hw:∀ av∈hn.l,av.cells.length=szT P e:=by
  intro av hav;rw [hL] at hav
  rcases List.mem_append.1 hav with h | h
  ·exact hso.wid av h
  ·exact hs.wid av h
 have h1w:∀ av∈hn.l,∀ c∈av.cells,c.one=true:=by
  intro av hav;rw [hL] at hav
  rcases List.mem_append.1 hav with h | h
  ·exact hso.one av h
  ·exact hs.one av h
 have hlo:=hso.len
 have hln:=hs.len
 have hfl:=t4 hso.wid
 have hfm:=t4 hs.wid
 refine wR hex ?_
 refine hT.new (p:=.at w.heap.size (grownCap w (l.length+m.length) l.length e)) ⟨rfl,rfl,rfl,by simp,fun k hk _=>heap_alloc_old w.drew _ k hk⟩ rfl hu (by simp [Option.map_map,Function.comp_def]) (fun b c hp=>by injection hp with hp;omega) ?_ ?_
 ·refine .inr ⟨_,_,_,rfl,heap_alloc_new w.drew _,?_,by omega,hcm,hw,h1w,?_⟩
  ·have hz:(Builtin.zeroCells z.cells (grownCap w (l.length+m.length) l.length e - (l.length+m.length))).size=(grownCap w (l.length+m.length) l.length e - (l.length+m.length)) * szT P e:=by
    rw [size_zeroCells,ht.zsize]
   simp only [Array.size_append,List.size_toArray,hlo,hln,hz,← Nat.add_mul]
   congr 1
   omega
  ·intro i' av j c hi hj
   have hk:=nO hw hi hj
   generalize i' * szT P e+j=k at hk
   have hkl:k<(wQ hn.l).length:=by
    rcases Nat.lt_or_ge k (wQ hn.l).length with h' | h'
    ·exact h'
    ·rw [List.getElem?_eq_none h'] at hk;cases hk
   rw [hL,zFp] at hk hkl
   rw [List.length_append,hfl,hfm] at hkl
   have hmono:∀ {v av},Rep w (imm G st T) Tbl.empty v av→Rep (w.drew.alloc (.cells (olds.toArray++news.toArray++Builtin.zeroCells z.cells (grownCap w (l.length+m.length) l.length e - (l.length+m.length))) e)) (imm G (st.upd { rs:=rs,rb:=(hn.id,.unused)::ids.map (fun i=>(i,B i)),dst:=o.dst.map fun d=>(d,.own hn.id hn.n),wb:=[(hn.id,.live (.row e (szT P e) hn.l))] }) (T.put hn.id (.at w.heap.size (grownCap w (l.length+m.length) l.length e)))) Tbl.empty v av:=by
    intro v av h
    refine h.mono (by simp) (fun b _ hlt=>heap_alloc_old w.drew _ b hlt) (fun b hI hlt=>?_) (fun _ _ h=>h)
    refine ⟨hI.1,fun id bx cap hl hTi=>?_⟩
    rw [zBs] at hl
    simp only [zD3] at hl
    by_cases e':id=hn.id
    ·subst e';rw [Tbl.put_same] at hTi;injection hTi with hTi;injection hTi with hTi;omega
    ·rw [if_neg e'] at hl;rw [Tbl.put_ne _ _ e'] at hTi;exact hI.2 id bx cap hl hTi
   rw [zHN (by simp only [List.length_append];omega)]
   rcases Nat.lt_or_ge k (wQ l).length with hlt | hge'
   ·rw [List.getElem?_append_left hlt] at hk
    have:=hso.rep k c hk
    rw [List.getD_eq_getElem?_getD,List.getElem?_append_left (by omega),← List.getD_eq_getElem?_getD]
    exact hmono this
   ·rw [List.getElem?_append_right hge'] at hk
    have:=hs.rep _ c hk
    rw [List.getD_eq_getElem?_getD,List.getElem?_append_right (by omega),← List.getD_eq_getElem?_getD]
    rw [hfl,← hlo] at this
    exact hmono this
 ·intro d av he
  obtain ⟨hlt,rfl⟩:=vN hd he
  refine ⟨by omega,?_⟩
  rw [hnn,hLlen]
  exact .own (Tbl.put_same _ _ _) hge hcm
/-! Bytes of a row of the call's own as a string. -/
def zOi (P:Program) (src dst:TypeId) (x:AV) (B:Nat→yI) (h:xX):Option (List Prop×List Nat×AV) :=
 match P.underlying src,P.underlying dst with
 | some (.slice e),some .string =>
  bif zGP P e then
   match zHQ P 1 x B with
   | some (vc,ids,m)=>some (vc++[zDR x m,m=h.s.map (AV.int .u8)],ids,.str h.s)
   | none=>none
  else none
 | _,_=>none
def zK9:AV→Bool
 | .own _ _=>true
 | .part _ _ _ _=>true
 | _=>false
theorem zPy {w:World} {I:Nat→Prop} {T:Tbl} {v:Value} {y:AV} (h:Rep w I T v y) (hy:zK9 y=true):∃ a n c,v=.slice a n c:=by
 cases h<;>first | exact ⟨_,_,_,rfl⟩ | simp [zK9] at hy
theorem zMS {P:Program} {N np:Nat} {o:Oper} {src dst:TypeId} {x:Operand} {rs:List (Nat×AV)} {hn:xX} {B:Nat→yI} {r:List Prop×List Nat×AV}
  (ho:o.op=.convert src dst x) (hx:y9 x=true) (hxs:zK9 (yW rs x)=true)
  (h:zOi P src dst (yW rs x) B hn=some r) (hv:∀ p∈r.1,p) (hd:uN N o.dst=true) :
  vD P N np o { rs:=rs,rb:=r.2.1.map (fun i=>(i,B i)),dst:=o.dst.map fun d=>(d,r.2.2) }:=by
 intro G st a w hN hnp hE ⟨T,hT⟩
 have hrx:=xD hT hE.1 hx
 unfold zOi at h
 split at h
 case h_2=>cases h
 rename_i e hs hdd
 replace h:=yG h;obtain ⟨hu,h⟩:=h
 split at h
 case h_2=>cases h
 rename_i vc ids m hsrc
 injection h with h;subst h
 simp only at hE hv
 have hm:m=hn.s.map (AV.int .u8):=hv _ (by simp)
 obtain ⟨news,hs'⟩:=zD6 hT hrx hsrc (fun i hi=>hE.2 (i,B i) (List.mem_map.2 ⟨i,hi,rfl⟩)) (fun p hp=>hv p (by simp at hp ⊢;exact .inl hp)) (hv _ (by simp))
 replace hs':Src P w (imm G st T) 1 (a.eval x) m news:=hs'
 rw [hm] at hs'
 obtain ⟨aa,n,c,hform⟩:=zPy hrx hxs
 obtain ⟨hrun,hrange⟩:=zGf hs' ⟨_,_,_,hform⟩
 have hlen:=hs'.max
 rw [List.length_map] at hlen
 rw [hform] at hrun
 refine wR (v:=.string (vI hn.s)) (w':=w) ?_ (hT.quiet (vY w) rfl (by simp [Option.map_map,Function.comp_def]) ?_)
 ·simp only [execOp,ho,hform,Sem.run_bind,run_convert_bytes_string w src dst e _ _ _ hs (zHd hu) hdd,hrun,Result.andThen_ok]
  rfl
 ·intro d av he
  obtain ⟨hlt,rfl⟩:=vN hd he
  exact ⟨by omega,.str hrange hlen⟩
/-! An array of the call's own as a slice. -/
def zLB (P:Program) (t:TypeId) (A:Operand→AV) (x:Operand) (lo hi mx:Option Operand) (B:Nat→yI):Option (List Prop×Nat×AV) :=
 match zMN P t,A x with
 | some (n,e),.ptr id _ i off =>
  bif ((Nat.beq i 0&&Nat.beq off 0)&&wE P e)&&!(zAv mx) then
   match B id,uF A lo 0,uF A hi n with
   | .live (.row _ sz l),some a,some b=>bif Nat.beq sz (szT P e) then some ([0≤a,a≤b,b≤n,n≤l.length],id,.part id sz a.toNat b.toNat) else none
   | _,_,_=>none
  else none
 | _,_=>none
theorem zQ9 {P:Program} {t:TypeId} {n:Nat} {e:TypeId} (h:zMN P t=some (n,e)):P.underlying t=some (.array n e):=by
 unfold zMN at h;split at h<;>simp_all
theorem zKF {P:Program} {N np:Nat} {o:Oper} {t:TypeId} {x:Operand} {lo hi mx:Option Operand} {rs:List (Nat×AV)} {B:Nat→yI} {r:List Prop×Nat×AV}
  (ho:o.op=.slice t x lo hi mx) (hx:y9 x=true) (hlo:zF8 lo=true) (hhi:zF8 hi=true)
  (h:zLB P t (yW rs) x lo hi mx B=some r) (hv:∀ p∈r.1,p) (hd:uN N o.dst=true) :
  vD P N np o { rs:=rs,rb:=[(r.2.1,B r.2.1)],dst:=o.dst.map fun d=>(d,r.2.2) }:=by
 intro G st a w hN hnp hE ⟨T,hT⟩
 have hrx:=xD hT hE.1 hx
 unfold zLB at h
 split at h
 case h_2=>cases h
 rename_i n e id s0 i off ha hX
 have hu:=zQ9 ha
 rw [hX] at hrx
 replace h:=yG h;obtain ⟨hc,h⟩:=h
 simp only [Bool.and_eq_true,Bool.not_eq_true'] at hc
 obtain ⟨⟨⟨z1,z2⟩,hk⟩,hm⟩:=hc
 have z1:=x6.1 z1
 have z2:=x6.1 z2
 have hmn:mx=none:=by cases mx with | none=>rfl | some _=>simp [zAv] at hm
 subst hmn
 split at h
 case h_2=>cases h
 rename_i e' sz l av bv hB hav hbv
 replace h:=yG h;obtain ⟨hs,h⟩:=h
 have hs:=x6.1 hs
 injection h with h;subst h
 simp only at hE hv
 have h0:0≤av:=hv _ (by simp)
 have h1:av≤bv:=hv _ (by simp)
 have h2:bv≤n:=hv _ (by simp)
 have h3:n≤l.length:=hv _ (by simp)
 have hb:st.box id=.live (.row e' sz l):=(hE.2 (id,B id) (by simp)).trans hB
 generalize he:a.eval x=vx at hrx
 cases hrx with
 | ptr hTi ho' =>
 rename_i o' b cap
 rcases hT.boxes id _ hb with ⟨hp,_⟩ | ⟨b',cap',C,hp,hh,c1,c2,c3,c4,c5,c6⟩
 ·rw [hp] at hTi;cases hTi
 have hTi0:=hTi
 rw [hp] at hTi;injection hTi with hTi;injection hTi with e1 e2;subst e1;subst e2
 have hB':=uH (P:=P) (w:=w) (I:=imm G st T) (T:=T) (ρ:=a.eval) (A:=yW rs) (lo:=lo) (hi:=hi) (mx:=none) (len:=n) (cap:=n) (isS:=false) (a:=av) (b:=bv) (m:=0)
  (fun y hy=>by
   rcases hy with rfl | rfl | h
   ·exact xD hT hE.1 hlo
   ·exact xD hT hE.1 hhi
   ·cases h) hav hbv rfl h0 h1 h2 (.inl rfl)
 have ho2:o'=0:=by rw [ho',z1,z2];omega
 subst ho2
 have hrun:(execOp a.eval o).run P w=.ok (.value (.slice (some (if n=av.toNat then ⟨b',0,none⟩ else (⟨b',0,none⟩:Addr).add (av.toNat * szT P e))) (bv.toNat - av.toNat) (n - av.toNat))) w:=by
  simp only [execOp,ho,Instr.sliceAt,Sem.run_bind,run_underlying hu,Result.andThen_ok,he,Instr.sureAddr,Sem.run_pure]
  simp only [Option.map_none,wN] at hB'
  simp only [Option.map_none,hB',Result.andThen_ok,vC hk]
 refine wR hrun (hT.quiet (vY w) rfl (by simp [Option.map_map,Function.comp_def]) ?_)
 intro d av' he'
 obtain ⟨hlt,rfl⟩:=vN hd he'
 refine ⟨by omega,?_⟩
 by_cases hab:av.toNat=bv.toNat
 ·rw [← hab,Nat.sub_self]
  exact .part0 (by have:=w7;omega)
 ·rw [if_neg (by omega),zAS]
  exact .part hTi0 (by omega) rfl (by omega) (by omega) c3 (by rw [hs];omega)
/-! A nil slice as a row of the call's own. -/
def zEf:Operand→Bool
 | .const (.slice none 0 0)=>true
 | _=>false
theorem zFu {P:Program} {N np:Nat} {o:Oper} {x:Operand} {rs:List (Nat×AV)} {hn:xX} {e:TypeId} {sz:Nat}
  (ho:o.op=.assign x∨o.op=.move x) (hx:zEf x=true) (hd:uN N o.dst=true) :
  vD P N np o { rs:=rs,rb:=[(hn.id,.unused)],dst:=o.dst.map fun d=>(d,.own hn.id 0),wb:=[(hn.id,.live (.row e sz []))] }:=by
 intro G st a w hN hnp hE ⟨T,hT⟩
 have hxv:a.eval x=.slice none 0 0:=by
  unfold zEf at hx
  split at hx
  ·rfl
  ·cases hx
 have hu:st.box hn.id=.unused:=hE.2 (hn.id,.unused) (by simp)
 refine wR (v:=.slice none 0 0) (w':=w) ?_ ?_
 ·rcases ho with ho | ho<;>simp [execOp,ho,hxv]
 ·refine hT.new (p:=.nil) (vY w) rfl hu (by simp [Option.map_map,Function.comp_def]) (fun b c hp=>by cases hp) (.inl ⟨rfl,rfl⟩) ?_
  intro d av he
  obtain ⟨hlt,rfl⟩:=vN hd he
  exact ⟨by omega,.ownNil (Tbl.put_same _ _ _)⟩
/-! 'make' of a slice. -/
def zDg (P:Program) (e:TypeId):Option AV :=
 match zGZ P e with
 | some cs=>bif (Nat.beq cs.length (szT P e)&&AV.pures cs)&&zBp P e then some (bif x7 P e then .agg cs else cs.headD .junk) else none
 | none=>none
theorem zFz {P:Program} {e:TypeId} {av:AV} (h:zDg P e=some av) :
  ∃ cs,zGZ P e=some cs∧av.cells=cs∧cs.length=szT P e∧AV.pures cs=true:=by
 unfold zDg at h
 split at h
 ·rename_i cs hz
  replace h:=yG h;obtain ⟨hc,h⟩:=h
  simp only [Bool.and_eq_true] at hc
  have hl:=x6.1 hc.1.1
  injection h with h;subst h
  refine ⟨cs,hz,?_,hl,hc.1.2⟩
  cases ha:x7 P e
  ·have h1:=zEd hc.2 ha
   simp only [cond_false]
   rw [h1] at hl
   match cs,hl with
   | [c],_ =>
    obtain ⟨z,_,hcr,_⟩:=nJ (w:=default) (I:=fun _=>True) (T:=Tbl.empty) hz
    have:=hcr.one c (by simp)
    cases c<;>simp_all [AV.one,AV.cells]
  ·rfl
 ·cases h
theorem zKt {P:Program} {e:TypeId} {z:Value} {cs:List AV} {av:AV} {w:World} {I:Nat→Prop} {n m:Nat} (hc:zCr w I Tbl.empty z.cells cs) (hcl:cs.length=szT P e) (hav:av.cells=cs) (hnm:n≤m) :
  (∀ x∈List.replicate n av,x.cells.length=szT P e)∧(∀ x∈List.replicate n av,∀ c∈x.cells,c.one=true) ∧
  ∀ i x j c,(List.replicate n av)[i]?=some x→x.cells[j]?=some c→Rep w I Tbl.empty (((Array.range (m * szT P e)).map (fun i=>z.cells[i % z.cells.size]!)).getD (i * szT P e+j) undef) c:=by
 refine ⟨fun x hx=>?_,fun x hx c hcx=>?_,fun i x j c hi hj=>?_⟩
 ·rw [(List.mem_replicate.1 hx).2,hav,hcl]
 ·rw [(List.mem_replicate.1 hx).2,hav] at hcx;exact hc.one c hcx
 ·have hil:i<n:=by
   rcases Nat.lt_or_ge i n with h' | h'
   ·exact h'
   ·rw [List.getElem?_eq_none (by simpa using h')] at hi;cases hi
  rw [List.getElem?_replicate,if_pos hil] at hi
  injection hi with hi;subst hi
  rw [hav] at hj
  have hjl:j<szT P e:=by
   rw [← hcl]
   rcases Nat.lt_or_ge j cs.length with h' | h'
   ·exact h'
   ·rw [List.getElem?_eq_none h'] at hj;cases hj
  have hr:=hc.rep j c hj
  have hlt:i * szT P e+j<m * szT P e:=by
   have:=Nat.mul_le_mul_right (szT P e) (show i+1≤m by omega)
   rw [Nat.add_mul] at this;omega
  have hmod:(i * szT P e+j) % z.cells.size=j:=by
   rw [hc.size,hcl,Nat.mul_comm,Nat.mul_add_mod,Nat.mod_eq_of_lt hjl]
  have hjz:j<z.cells.size:=by rw [hc.size,hcl];exact hjl
  have:((Array.range (m * szT P e)).map (fun i=>z.cells[i % z.cells.size]!)).getD (i * szT P e+j) undef=z.cells.getD j undef:=by
   simp [Array.getD_eq_getD_getElem?,hlt,hmod,hjz]
  rw [this];exact hr
def zOy (P:Program) (t:TypeId) (l c:AV) (h:xX):Option (List Prop×Box×AV) :=
 match zEy P t,l,c with
 | some e,.int _ n,.int _ m =>
  match zDg P e with
  | some av=>some ([n=h.n,m=h.m,h.n≤h.m,h.m * qE P e≤281474976710656,h.l=List.replicate h.n av],.row e (szT P e) h.l,.own h.id h.n)
  | none=>none
 | _,_,_=>none
theorem zMD {P:Program} {N np:Nat} {o:Oper} {t:TypeId} {x y:Operand} {rs:List (Nat×AV)} {hn:xX} {r:List Prop×Box×AV}
  (ho:o.op=.makeSlice t x y) (hx:y9 x=true) (hy:y9 y=true)
  (h:zOy P t (yW rs x) (yW rs y) hn=some r) (hv:∀ p∈r.1,p) (hd:uN N o.dst=true) :
  vD P N np o { rs:=rs,rb:=[(hn.id,.unused)],dst:=o.dst.map fun d=>(d,r.2.2),wb:=[(hn.id,.live r.2.1)] }:=by
 intro G st a w hN hnp hE ⟨T,hT⟩
 have hrx:=xD hT hE.1 hx
 have hry:=xD hT hE.1 hy
 unfold zOy at h
 split at h
 case h_2=>cases h
 rename_i e k n k' m hrow hX hY
 obtain ⟨i,z,ht⟩:=zAq hrow
 split at h
 case h_2=>cases h
 rename_i av hz
 injection h with h;subst h
 simp only at hE hv
 have e1:n=hn.n:=hv _ (by simp)
 have e2:m=hn.m:=hv _ (by simp)
 have e3:hn.n≤hn.m:=hv _ (by simp)
 have e4:hn.m * qE P e≤281474976710656:=hv _ (by simp)
 have e5:hn.l=List.replicate hn.n av:=hv _ (by simp)
 rw [hX] at hrx
 rw [hY] at hry
 generalize hvx:a.eval x=vx at hrx
 generalize hvy:a.eval y=vy at hry
 cases hrx with
 | int wn =>
 cases hry with
 | int wm =>
 obtain ⟨cs,hz0,hcells,hcl,hpure⟩:=zFz hz
 have hm1:=Nat.le_mul_of_pos_right hn.m ht.bpos
 have hu:st.box hn.id=.unused:=hE.2 (hn.id,.unused) (by simp)
 have hbm:(i.bytes:Int) * m≤281474976710656:=by
  rw [e2,ht.bytes,Int.mul_comm]
  rw [← Int.natCast_mul]
  omega
 have hrun:=run_make (P:=P) w t e i z ht.und ht.info ht.zero k k' n m (by omega) (by omega) hbm (by omega)
 have n1:n.toNat=hn.n:=by omega
 have n2:m.toNat=hn.m:=by omega
 rw [n1,n2,ht.size] at hrun
 refine wR (v:=.slice (some ⟨w.heap.size,0,none⟩) hn.n hn.m) (w':=w.alloc (.cells (madeCells z.cells (hn.m * szT P e)) e)) ?_ ?_
 ·unfold execOp
  rw [ho]
  simp only []
  rw [hvx,hvy]
  rw [Sem.run_bind,hrun]
  rfl
 ·refine hT.new (p:=.at w.heap.size hn.m) (zCb _ _) rfl hu (by simp [Option.map_map,Function.comp_def]) (fun b c hp=>by injection hp with hp;omega) ?_ ?_
  ·obtain ⟨z',hz1,hc',_⟩:=nJ (w:=w.alloc (.cells (madeCells z.cells (hn.m * szT P e)) e)) (I:=imm G (st.upd { rs:=rs,rb:=[(hn.id,.unused)],dst:=o.dst.map fun d=>(d,.own hn.id hn.n),wb:=[(hn.id,.live (.row e (szT P e) hn.l))] }) (T.put hn.id (.at w.heap.size hn.m))) (T:=Tbl.empty) hz0
   have hzz:z'=z:=by
    have h1:=hz1
    simp only [zEi,ht.info,ht.zero] at h1
    injection h1 with h1;exact h1.symm
   subst hzz
   obtain ⟨f1,f2,f3⟩:=zKt hc' hcl hcells e3
   rw [← e5] at f1 f2 f3
   refine .inr ⟨_,_,_,rfl,heap_alloc_new w _,by simp [madeCells],by rw [e5];simpa using e3,by rw [w7];omega,f1,f2,?_⟩
   intro i' x' j c hi hj
   exact f3 i' x' j c hi hj
  ·intro d av he
   obtain ⟨hlt,rfl⟩:=vN hd he
   exact ⟨by omega,.own (Tbl.put_same _ _ _) e3 (by rw [w7];omega)⟩
end Go.Ab
