/- A layer over the model: abstract values and states, and the rules by which the printed proofs go. No conditions. -/
import Derived.Test.YtbifmbdcejggkaaA47
/- Operations beside hidden blocks. -/
namespace Go.Ab
open Go

def zMk (P:Program) (N np:Nat) (o:Oper) (E:Eff):Prop :=
  ∀ G st a w,G.n=N→G.foot.length=np→E.holds st→vL G st a w→o.wp P a w (fun a' w'=>vL G (st.upd E) a' w') (fun _ _ _=>False)

def zJE (E:Eff):Bool:=E.wb.all fun x=>x.2.nf
theorem zFi {E:Eff} (h:zJE E=true) (st:AS):∀ id f,(st.upd E).box id=.live (.fam f)→st.box id=.live (.fam f):=by
  intro id f hb
  have hb:xJ E.wb id (st.box id)=.live (.fam f):=hb
  rcases zFt (wb:=E.wb) (i:=id) (d:=st.box id) with h1 | h1
  · rw [← h1];exact hb
  · rw [hb] at h1
    have:=List.all_eq_true.1 h _ h1
    cases this

/-- Look-ups and stores in maps with hidden blocks. -/
def fop (P:Program) (o:Oper) (rs:List (Nat×AV)) (B:Nat→zO) (h:xK):Option (List Prop×Eff) :=
  match B h.n,o.op with
  | .live (.fam f),.lookup t x y ok =>
    bif y3 x&&y3 y then
      match zJI P t (z7 rs x) (z7 rs y) ok B f h with
      | some (vc,wb,av,f')=>some (vc,{ rs:=rs,rb:=(h.n,B h.n)::wb.map (fun x=>(x.1,B x.1)),dst:=o.dst.map fun d=>(d,av),wb:=wb++[(h.n,.live (.fam f'))] })
      | none=>none
    else none
  | .live (.fam f),.mapUpdate t x y z =>
    bif (y3 x&&(y3 y&&y3 z))&&o.dst.isNone then
      match zGl P t (z7 rs x) (z7 rs y) (z7 rs z) B f h with
      | some (vc,wb,f')=>some (vc,{ rs:=rs,rb:=(h.n,B h.n)::wb.map (fun x=>(x.1,B x.1)),wb:=wb++[(h.n,.live (.fam f'))] })
      | none=>none
    else none
  | _,_=>none

def zHf (P:Program) (N np:Nat) (o:Oper) (h:xK) (st:AS):Option (List Prop×Eff) :=
  bif h.x&&h.dep then
    bif Nat.beq np 0&&vT N o.dst then fop P o (j7 st (vR o.op)) st.box h else none
  else
    match zJD P N np o h st with
    | some (vc,E)=>bif zJE E then some (vc,E) else none
    | none=>none

theorem zEf {P:Program} {N np:Nat} {o:Oper} {st:AS} {hn:xK} {r:List Prop×Eff} (h:zHf P N np o hn st=some r) (hv:∀ p∈r.1,p):r.2.holds st∧zMk P N np o r.2:=by
  unfold zHf at h
  cases hm:(hn.x&&hn.dep)
  · rw [hm] at h
    simp only [cond_false] at h
    split at h
    case h_2=>cases h
    rename_i vc E hE
    replace h:=zY h;obtain ⟨hnf,h⟩:=h
    injection h with h;subst h
    obtain ⟨k1,k2⟩:=zJW hE hv
    refine ⟨k1,fun G st2 a w hN hnp hh hR=>hR.liftOp (zFi hnf st2) fun G' h1 h2 hR'=>?_⟩
    exact k2 G' st2 a w (h1.trans hN) (by rw [h2];exact hnp) hh hR'
  · rw [hm] at h
    simp only [cond_true] at h
    replace h:=zY h;obtain ⟨hc,h⟩:=h
    simp only [Bool.and_eq_true] at hc
    have hnp0:=xO.1 hc.1
    have hd:=hc.2
    have hr:=zCZ st (vR o.op)
    unfold fop at h
    split at h
    · rename_i f t x y ok hB ho
      replace h:=zY h;obtain ⟨hu,h⟩:=h
      simp only [Bool.and_eq_true] at hu
      split at h
      case h_2=>cases h
      rename_i vc wb av f' hl
      injection h with h;subst h
      refine ⟨⟨hr,fun z hz=>?_⟩,fun G st2 a w hN hnp hh hR=>?_⟩
      · simp only [List.mem_cons,List.mem_map] at hz
        rcases hz with rfl | ⟨i,_,rfl⟩<;>rfl
      · refine zIT (B:=st.box) (fid:=hn.n) (st2:=st2.upd _) ho hu.1 hu.2 hl hv hd (List.eq_nil_of_length_eq_zero (hnp.trans hnp0)) hN hh.1 (fun i hi=>?_) ((hh.2 (hn.n,st.box hn.n) (by simp)).trans hB) ?_ (fun i=>rfl) hR
        · obtain ⟨x,hx,rfl⟩:=List.mem_map.1 hi
          exact hh.2 (x.1,st.box x.1) (by simp only [List.mem_cons,List.mem_map];exact .inr ⟨x,hx,rfl⟩)
        · rfl
    · rename_i f t x y z hB ho
      replace h:=zY h;obtain ⟨hu,h⟩:=h
      simp only [Bool.and_eq_true,Option.isNone_iff_eq_none] at hu
      split at h
      case h_2=>cases h
      rename_i vc wb f' hl
      injection h with h;subst h
      refine ⟨⟨hr,fun z hz=>?_⟩,fun G st2 a w hN hnp hh hR=>?_⟩
      · simp only [List.mem_cons,List.mem_map] at hz
        rcases hz with rfl | ⟨i,_,rfl⟩<;>rfl
      · refine zJJ (B:=st.box) (fid:=hn.n) (st2:=st2.upd _) ho hu.1.1 hu.1.2.1 hu.1.2.2 hl hv hu.2 (List.eq_nil_of_length_eq_zero (hnp.trans hnp0)) hN hh.1 (fun i hi=>?_) ((hh.2 (hn.n,st.box hn.n) (by simp)).trans hB) ?_ (fun i=>rfl) hR
        · obtain ⟨x,hx,rfl⟩:=List.mem_map.1 hi
          exact hh.2 (x.1,st.box x.1) (by simp only [List.mem_cons,List.mem_map];exact .inr ⟨x,hx,rfl⟩)
        · rfl
    · cases h
end Go.Ab

/- A region: its operations one behind the other; in whatever order its edges allow. -/
namespace Go.Ab
open Go

def uB (st:AS):List Eff→AS
  | []=>st
  | E::r=>uB (st.upd E) r

def jQ (st:AS):List Eff→Prop
  | []=>True
  | E::r=>E.holds st∧jQ (st.upd E) r

/-- One operation, with its guard. -/
def zJK (P:Program) (N np:Nat) (ops:Array Oper) (o:Oper) (es:List Eff):Prop :=
  ∀ G st a w,G.n=N→G.foot.length=np→jQ st es→vL G st a w →
    if Region.wanted o (yielded ops a.tmps)=true then o.wp P a w (fun a' w'=>vL G (uB st es) a' w') (fun _ _ _=>False) else vL G (uB st es) (a.put o.dst undef) w

/-! Rows given away ahead of an operation. -/
def pJ:zO→Bool
  | .live (.row ..)=>true
  | _=>false

/-- A nil slice is an empty one; whether there is room does not matter. -/
def ln1:Nat→AV→AV
  | k,.nilsl=>.sl false k []
  | _,.sl _ sz l=>.sl false sz l
  | _,v=>v
def lnL:List Nat→List AV→List AV
  | k::ks,c::cs=>ln1 k c::lnL ks cs
  | _,cs=>cs
def ln (ks:List Nat):AV→AV
  | .agg cs=>.agg (lnL ks cs)
  | .nilsl=>ln1 (ks.headD 0) .nilsl
  | .sl f sz l=>bif ks.isEmpty then .sl f sz l else .sl false sz l
  | v=>v
def zFS:List (Nat×List Nat)→Nat→List Nat
  | [],_=>[]
  | (k,l)::r,i=>bif Nat.beq i k then l else zFS r i
theorem zMv {k:Nat} {c:AV} (h:c.one=true):(ln1 k c).one=true:=by cases c<;>simp_all [ln1,AV.one]
theorem zMI (ks:List Nat) (cs:List AV):(lnL ks cs).length=cs.length:=by
  induction cs generalizing ks with
  | nil=>cases ks<;>rfl
  | cons c r ih=>cases ks<;>simp [lnL,ih]
theorem zJl {ks:List Nat} {cs:List AV} {j:Nat} {c:AV} (h:(lnL ks cs)[j]?=some c):∃ c0,cs[j]?=some c0∧(c=c0∨∃ k,c=ln1 k c0):=by
  induction cs generalizing ks j with
  | nil=>cases ks<;>simp [lnL] at h
  | cons x r ih =>
    cases ks with
    | nil=>exact ⟨c,h,.inl rfl⟩
    | cons k ks =>
      cases j with
      | zero=>simp [lnL] at h;exact ⟨x,rfl,.inr ⟨k,h.symm⟩⟩
      | succ j=>simp only [lnL,List.getElem?_cons_succ] at h ⊢;exact ih h
theorem zFT {w:World} {I:Nat→Prop} {T:Tbl} {v:Value} {c:AV} {k:Nat} (h:Rep w I T v c):Rep w I T v (ln1 k c):=by
  by_cases hn:c=.nilsl
  · subst hn
    generalize hc:AV.nilsl=c at h
    cases h<;>cases hc
    exact .sl0 (by decide) (by intro h;cases h)
  · by_cases hs:∃ f sz l,c=.sl f sz l
    · obtain ⟨f,sz,l,rfl⟩:=hs
      cases f
      · exact h
      · exact zGy h
    · have:ln1 k c=c:=by
        cases c<;>first | rfl | exact absurd rfl hn | exact absurd ⟨_,_,_,rfl⟩ hs
      rw [this];exact h
theorem zNq {w:World} {I:Nat→Prop} {T:Tbl} {v:Value} {c:AV} {ks:List Nat} (h:Rep w I T v c):Rep w I T v (ln ks c):=by
  by_cases ha:∃ cs,c=.agg cs
  · obtain ⟨cs,rfl⟩:=ha
    cases h with
    | agg h1 h2 h3 =>
    refine .agg (by rw [zMI];exact h1) ?_ ?_
    · intro c hc
      obtain ⟨j,hj⟩:=List.mem_iff_getElem?.1 hc
      obtain ⟨c0,h0,h⟩:=zJl hj
      have:=h2 c0 (List.mem_of_getElem? h0)
      rcases h with rfl | ⟨k,rfl⟩
      · exact this
      · exact zMv this
    · intro j c hj
      obtain ⟨c0,h0,h⟩:=zJl hj
      have:=h3 j c0 h0
      rcases h with rfl | ⟨k,rfl⟩
      · exact this
      · exact zFT this
  · by_cases hn:c=.nilsl
    · subst hn;exact zFT h
    · by_cases hs:∃ f sz l,c=.sl f sz l
      · obtain ⟨f,sz,l,rfl⟩:=hs
        simp only [ln]
        cases ks.isEmpty
        · exact zFT (k:=0) h
        · exact h
      · have:ln ks c=c:=by
          cases c<;>first | rfl | exact absurd rfl hn | exact absurd ⟨_,rfl⟩ ha | exact absurd ⟨_,_,_,rfl⟩ hs
        rw [this];exact h

def zDs (N np:Nat) (o:Oper) (h:xK) (st:AS):Option (List Prop×Eff) :=
  let rs:=j7 st (vR o.op)
  bif (h.frz.all fun i=>pJ (st.box i)&&Nat.ble np i)&&(rs.all fun x=>zB5 (frz st.box h.frz x.2)&&Nat.blt x.1 N) then
    some (rs.flatMap (fun x=>zAR st.box h.frz x.2),{ rs:=rs,rb:=h.frz.map (fun i=>(i,st.box i)),wb:=h.frz.map (fun i=>(i,.dead)),fz:=rs.map fun x=>(x.1,ln (zFS h.lo x.1) (frz st.box h.frz x.2)) })
  else none

theorem zJy {l:List (Nat×AV)} {t:Nat} {d:AV}:jI l t d=d∨∃ v,(t,v)∈l∧jI l t d=v:=by
  induction l with
  | nil=>exact .inl rfl
  | cons x r ih =>
    obtain ⟨k,v⟩:=x
    simp only [jI]
    cases hb:Nat.beq t k
    · rcases ih with h | ⟨v',h1,h2⟩
      · exact .inl h
      · exact .inr ⟨v',by simp [h1],h2⟩
    · have:=xO.1 hb
      subst this
      exact .inr ⟨v,by simp,rfl⟩

theorem zKi {ids:List Nat} {i:Nat} {d:zO}:xJ (ids.map fun i=>(i,zO.dead)) i d=if i∈ids then .dead else d:=by
  induction ids with
  | nil=>simp [xJ]
  | cons x r ih =>
    simp only [List.map_cons,xJ]
    by_cases h:i=x
    · subst h;simp
    · rw [xQ h];simp [ih,h]

theorem zLJ {st:AS} {N np:Nat} {o:Oper} {hn:xK} {r:List Prop×Eff}
    (h:zDs N np o hn st=some r) (hv:∀ p∈r.1,p):r.2.holds st∧∀ G st2,G.foot.length=np→r.2.holds st2→∀ a w,Rel G st2 a w→Rel G (st2.upd r.2) a w:=by
  unfold zDs at h
  replace h:=zY h;obtain ⟨hc,h⟩:=h
  simp only [Bool.and_eq_true,List.all_eq_true] at hc
  injection h with h;subst h
  simp only at hv
  refine ⟨⟨zCZ st _,fun x hx=>by simp only [List.mem_map] at hx;obtain ⟨i,_,rfl⟩:=hx;rfl⟩,?_⟩
  rintro G st2 hnp ⟨hs2,hb2⟩ a w ⟨T,hT⟩
  have hbx:∀ i∈hn.frz,st2.box i=st.box i:=fun i hi=>hb2 (i,st.box i) (List.mem_map.2 ⟨i,hi,rfl⟩)
  have hbox:∀ i,(st2.upd { rs:=j7 st (vR o.op),rb:=hn.frz.map (fun i=>(i,st.box i)),wb:=hn.frz.map (fun i=>(i,.dead)),fz:=(j7 st (vR o.op)).map fun x=>(x.1,ln (zFS hn.lo x.1) (frz st.box hn.frz x.2)) }).box i =
      if i∈hn.frz then .dead else st2.box i:=fun i=>zKi
  have himm:∀ b,imm G st2 T b→imm G (st2.upd { rs:=j7 st (vR o.op),rb:=hn.frz.map (fun i=>(i,st.box i)),wb:=hn.frz.map (fun i=>(i,.dead)),fz:=(j7 st (vR o.op)).map fun x=>(x.1,ln (zFS hn.lo x.1) (frz st.box hn.frz x.2)) }) T b:=by
    intro b hb
    refine ⟨hb.1,fun id bx cap hl hTi=>?_⟩
    rw [hbox] at hl
    by_cases hi:id∈hn.frz
    · rw [if_pos hi] at hl;cases hl
    · rw [if_neg hi] at hl;exact hb.2 id bx cap hl hTi
  have hid:∀ id b cap,id∈hn.frz→T id=some (.at b cap)→imm G (st2.upd { rs:=j7 st (vR o.op),rb:=hn.frz.map (fun i=>(i,st.box i)),wb:=hn.frz.map (fun i=>(i,.dead)),fz:=(j7 st (vR o.op)).map fun x=>(x.1,ln (zFS hn.lo x.1) (frz st.box hn.frz x.2)) }) T b:=by
    intro id b cap hi hTi
    have hlive:∃ bx,st2.box id=.live bx:=by
      have:=(hc.1 id hi).1
      rw [hbx id hi]
      cases hb:st.box id<;>rw [hb] at this<;>simp [pJ] at this
      exact ⟨_,rfl⟩
    obtain ⟨bx,hl⟩:=hlive
    refine ⟨.inr (hT.mine id bx b cap hl hTi (by have:=zDw (hc.1 id hi).2;omega)),fun id' bx' cap' hl' hT'=>?_⟩
    rw [hbox] at hl'
    by_cases hi':id'∈hn.frz
    · rw [if_pos hi'] at hl';cases hl'
    · rw [if_neg hi'] at hl'
      have:=hT.apart id id' bx bx' b cap cap' hl hl' hTi hT'
      exact hi' (this ▸ hi)
  refine ⟨T,hT.defers,hT.size,?_,?_,?_,?_,?_,hT.foot,hT.kept,hT.pin⟩
  · intro t
    simp only [AS.upd,zAF]
    rcases zJy (l:=(j7 st (vR o.op)).map fun x=>(x.1,ln (zFS hn.lo x.1) (frz st.box hn.frz x.2))) (t:=t) (d:=st2.slot t) with h | ⟨v,h1,h2⟩
    · rw [h]
      exact (hT.slots t).mono (Nat.le_refl _) (fun _ _ _=>rfl) (fun b hb _=>himm b hb) (fun _ _ h=>h)
    · rw [h2]
      simp only [List.mem_map,Prod.mk.injEq] at h1
      obtain ⟨x,hx,rfl,rfl⟩:=h1
      have hsl:=hs2 x hx
      have hrep:=hT.slots x.1
      rw [hsl] at hrep
      exact zNq (zF5 hT hbx himm hid hrep (fun p hp=>hv p (List.mem_flatMap.2 ⟨x,hx,hp⟩)) (hc.2 x hx).1)
  · intro id bx hl
    rw [hbox] at hl
    by_cases hi:id∈hn.frz
    · rw [if_pos hi] at hl;cases hl
    · rw [if_neg hi] at hl
      exact (hT.boxes id bx hl).mono (Nat.le_refl _) (fun _ _ _=>rfl) (fun b hb _=>himm b hb) (fun _ _ h=>h) (fun _ _ _ _=>rfl)
  · intro id hl
    rw [hbox] at hl
    by_cases hi:id∈hn.frz
    · rw [if_pos hi] at hl;cases hl
    · rw [if_neg hi] at hl;exact hT.unused id hl
  · intro i1 i2 b1 b2 b c1 c2 h1 h2
    rw [hbox] at h1 h2
    by_cases k1:i1∈hn.frz
    · rw [if_pos k1] at h1;cases h1
    · by_cases k2:i2∈hn.frz
      · rw [if_pos k2] at h2;cases h2
      · rw [if_neg k1] at h1;rw [if_neg k2] at h2
        exact hT.apart i1 i2 b1 b2 b c1 c2 h1 h2
  · intro id bx b cap hl
    rw [hbox] at hl
    by_cases hi:id∈hn.frz
    · rw [if_pos hi] at hl;cases hl
    · rw [if_neg hi] at hl;exact hT.mine id bx b cap hl

theorem zLa {st:AS} {N np:Nat} {o:Oper} {hn:xK} {r:List Prop×Eff}
    (h:zDs N np o hn st=some r) (hv:∀ p∈r.1,p):r.2.holds st∧∀ G st2,G.foot.length=np→r.2.holds st2→∀ a w,vL G st2 a w→vL G (st2.upd r.2) a w:=by
  obtain ⟨k1,k2⟩:=zLJ h hv
  refine ⟨k1,fun G st2 hnp hh a w hR=>hR.lift (zFi ?_ st2) fun G' _ h2 hR'=>k2 G' st2 (by rw [h2];exact hnp) hh a w hR'⟩
  unfold zDs at h
  replace h:=zY h;obtain ⟨_,h⟩:=h
  injection h with h;subst h
  simp only [zJE,List.all_map,List.all_eq_true]
  intro i _;rfl

def zHi (P:Program) (N np:Nat) (o:Oper) (h:xK) (st:AS):Option (List Prop×List Eff) :=
  bif jK h.frz&&jK h.lo then
    match zHf P N np o h st with
    | some (vc,E)=>some (vc,[E])
    | none=>none
  else
    match zDs N np o h st with
    | some (vc0,E0) =>
      match zHf P N np o h (st.upd E0) with
      | some (vc,E)=>some (vc0++vc,[E0,E])
      | none=>none
    | none=>none

/-- An operation with its guard. -/
def zJ6 (P:Program) (N np:Nat) (ops:Array Oper) (o:Oper) (h:xK) (st:AS):Option (List Prop×List Eff) :=
  match o.guard with
  | none=>zHi P N np o h st
  | some (j,want) =>
    match (ops[j]?).bind (·.dst) with
    | none=>none
    | some d =>
      match st.slot d with
      | .bool b =>
        bif h.g then
          match zHi P N np o h st with
          | some (vc,es)=>some ((b=want)::vc,{ rs:=[(d,.bool b)] }::es)
          | none=>none
        else bif vT N o.dst then some ([b=!want],[{ rs:=[(d,.bool b)],dst:=o.dst.map fun d=>(d,.tuple []) }]) else none
      | .tuple []=>bif vT N o.dst then some ([],[{ rs:=[(d,.tuple [])],dst:=o.dst.map fun d=>(d,.tuple []) }]) else none
      | _=>none

/-- No operation panics here: the post for other ends does not matter. -/
theorem _root_.Go.Oper.wp_mono2 {P:Program} {o:Oper} {a:Act} {w:World} {K K':Act→World→Prop} {Q:Exit→Act→World→Prop} (h:∀ a w,K a w→K' a w)
    (hh:o.wp P a w K (fun _ _ _=>False)):o.wp P a w K' Q:=by
  unfold Oper.wp at *
  generalize (execOp a.eval o).run P w=r at *
  cases r with
  | ok n w' =>
    cases n<;>simp only [Oper.upon] at hh ⊢ <;>
      first
        | exact h _ _ hh
        | exact Calls.mono hh (fun e w'' he=>by cases e<;>first | exact h _ _ he | exact he.elim | (obtain ⟨_,_,he⟩:=he;exact he.elim))
        | exact Rows.mono hh (fun _ _ he=>h _ _ he)
  | halt x w'=>cases x<;>simp only [Oper.upon] at hh ⊢

theorem zD8 {P:Program} {N np:Nat} {o:Oper} {st:AS} {hn:xK} {r:List Prop×List Eff} (h:zHi P N np o hn st=some r) (hv:∀ p∈r.1,p) :
    jQ st r.2∧∀ G st2 a w,G.n=N→G.foot.length=np→jQ st2 r.2→vL G st2 a w→o.wp P a w (fun a' w'=>vL G (uB st2 r.2) a' w') (fun _ _ _=>False):=by
  unfold zHi at h
  cases hf:jK hn.frz&&jK hn.lo
  · rw [hf] at h
    simp only [cond_false] at h
    split at h
    · rename_i vc0 E0 hE0
      split at h
      · rename_i vc E hE
        injection h with h;subst h
        obtain ⟨k1,k2⟩:=zLa hE0 (fun p hp=>hv p (by simp [hp]))
        obtain ⟨k3,k4⟩:=zEf hE (fun p hp=>hv p (by simp [hp]))
        refine ⟨⟨k1,k3,trivial⟩,fun G st2 a w hN hnp hh hRR=>?_⟩
        obtain ⟨hh1,hh2,_⟩:=hh
        exact k4 G _ a w hN hnp hh2 (k2 G st2 hnp hh1 a w hRR)
      · cases h
    · cases h
  · rw [hf] at h
    simp only [cond_true] at h
    split at h
    · rename_i vc E hE
      injection h with h;subst h
      obtain ⟨k3,k4⟩:=zEf hE hv
      exact ⟨⟨k3,trivial⟩,fun G st2 a w hN hnp hh hRR=>k4 G st2 a w hN hnp hh.1 hRR⟩
    · cases h

theorem zFo {G:xE} {st:AS} {a:Act} {w:World} {ops:Array Oper} {j d:Nat} {b:Bool} (hR:Rel G st a w) (hd:(ops[j]?).bind (·.dst)=some d) (hs:st.slot d=.bool b) :
    yielded ops a.tmps j=some b:=by
  obtain ⟨T,hT⟩:=hR
  have hr:=hT.slots d
  rw [hs] at hr
  generalize hv:a.tmps.getD d undef=v at hr
  cases hr with
  | bool =>
  have:a.tmps[d]?=some (.bool b):=by
    rw [Array.getD_eq_getD_getElem?] at hv
    cases hd:a.tmps[d]? with
    | none=>rw [hd] at hv;simp [undef] at hv
    | some x=>rw [hd] at hv;simp at hv;rw [hv]
  simp [yielded,hd,this]

theorem zG5 {G:xE} {st:AS} {a:Act} {w:World} {ops:Array Oper} {j d:Nat} (hR:Rel G st a w) (hd:(ops[j]?).bind (·.dst)=some d) (hs:st.slot d=.tuple []) :
    yielded ops a.tmps j=none:=by
  obtain ⟨T,hT⟩:=hR
  have hr:=hT.slots d
  rw [hs] at hr
  generalize hv:a.tmps.getD d undef=v at hr
  cases hr with
  | tuple h1 h2 =>
  rw [Array.getD_eq_getD_getElem?] at hv
  cases hd':a.tmps[d]? with
  | none=>simp [yielded,hd,hd']
  | some x=>rw [hd'] at hv;simp at hv;subst hv;simp [yielded,hd,hd']

theorem zGS {w:World} {I:Nat→Prop} {T:Tbl}:Rep w I T undef (.tuple []):=by
  refine .tuple (by rfl) ?_
  intro j c h;simp at h

theorem zJa {P:Program} {N np:Nat} {ops:Array Oper} {o:Oper} {st:AS} {hn:xK} {r:List Prop×List Eff} (h:zJ6 P N np ops o hn st=some r) (hv:∀ p∈r.1,p) :
    jQ st r.2∧zJK P N np ops o r.2:=by
  unfold zJ6 at h
  split at h
  · rename_i hg
    obtain ⟨k1,k2⟩:=zD8 h hv
    refine ⟨k1,fun G st2 a w hN hnp hh hRR=>?_⟩
    rw [if_pos (by simp [Region.wanted,hg])]
    exact k2 G st2 a w hN hnp hh hRR
  · rename_i j want hg
    split at h
    · cases h
    rename_i d hd
    split at h
    · rename_i b hb
      cases hgg:hn.g
      · rw [hgg] at h
        simp only [cond_false] at h
        replace h:=zY h;obtain ⟨hdst,h⟩:=h
        injection h with h;subst h
        have hbw:b=!want:=hv _ (by simp)
        refine ⟨⟨⟨fun x hx=>by simp at hx;subst hx;exact hb,fun x hx=>by simp at hx⟩,trivial⟩,fun G st2 a w hN hnp hh hRR=>?_⟩
        have hs2:st2.slot d=.bool b:=hh.1.1 (d,.bool b) (by simp)
        have hy:=zFo hRR.out hd hs2
        rw [if_neg (by simp [Region.wanted,hg,hy,hbw])]
        refine hRR.lift (zFi (by rfl) st2) fun G' h1 h2 hR'=>?_
        obtain ⟨T,hT⟩:=hR'
        refine hT.quiet (vF w) rfl (by simp [Option.map_map,Function.comp_def]) ?_
        intro d' av he
        obtain ⟨hlt,rfl⟩:=w9 hdst he
        exact ⟨by omega,zGS⟩
      · rw [hgg] at h
        simp only [cond_true] at h
        split at h
        · rename_i vc es hc
          injection h with h;subst h
          have hbw:b=want:=hv _ (by simp)
          obtain ⟨k1,k2⟩:=zD8 hc (fun p hp=>hv p (by simp [hp]))
          refine ⟨⟨⟨fun x hx=>by simp at hx;subst hx;exact hb,fun x hx=>by simp at hx⟩,k1⟩,fun G st2 a w hN hnp hh hRR=>?_⟩
          have hs2:st2.slot d=.bool b:=hh.1.1 (d,.bool b) (by simp)
          have hy:=zFo hRR.out hd hs2
          rw [if_pos (by simp [Region.wanted,hg,hy,hbw])]
          exact k2 G st2 a w hN hnp hh.2 hRR
        · cases h
    · rename_i hb
      replace h:=zY h;obtain ⟨hdst,h⟩:=h
      injection h with h;subst h
      refine ⟨⟨⟨fun x hx=>by simp at hx;subst hx;exact hb,fun x hx=>by simp at hx⟩,trivial⟩,fun G st2 a w hN hnp hh hRR=>?_⟩
      have hs2:st2.slot d=.tuple []:=hh.1.1 (d,.tuple []) (by simp)
      have hy:=zG5 hRR.out hd hs2
      rw [if_neg (by simp [Region.wanted,hg,hy])]
      refine hRR.lift (zFi (by rfl) st2) fun G' h1 h2 hR'=>?_
      obtain ⟨T,hT⟩:=hR'
      refine hT.quiet (vF w) rfl (by simp [Option.map_map,Function.comp_def]) ?_
      intro d' av he
      obtain ⟨hlt,rfl⟩:=w9 hdst he
      exact ⟨by omega,zGS⟩
    · cases h

def zMr:List (Nat×xK)→Nat→xK
  | [],_=>{}
  | (k,h)::r,i=>bif Nat.beq i k then h else zMr r i

/-- The operations of a region, one behind the other. -/
def zHu (P:Program) (N np:Nat) (all:Array Oper) (hs:List (Nat×xK)):List Oper→Nat→AS→Option (List Prop×AS×List (List Eff))
  | [],_,st=>some ([],st,[])
  | o::r,i,st =>
    match zJ6 P N np all o (zMr hs i) st with
    | none=>none
    | some (vc,es) =>
      match zHu P N np all hs r (i+1) (uB st es) with
      | none=>none
      | some (vcs,st',ess)=>some (vc++vcs,st',es::ess)

def zAP:List (List Eff)→AS→AS→Prop
  | [],st,st'=>st=st'
  | es::r,st,st'=>jQ st es∧zAP r (uB st es) st'

theorem zJQ {P:Program} {N np:Nat} {all:Array Oper} {hs:List (Nat×xK)}:∀ (l:List Oper) (i:Nat) (st:AS) (r:List Prop×AS×List (List Eff)),
    zHu P N np all hs l i st=some r→(∀ p∈r.1,p)→zAP r.2.2 st r.2.1∧r.2.2.length=l.length∧∀ (j:Nat) (o:Oper) (es:List Eff),l[j]?=some o→r.2.2[j]?=some es→zJK P N np all o es:=by
  intro l
  induction l with
  | nil=>intro i st r h _;simp [zHu] at h;subst h;exact ⟨rfl,rfl,fun j o es hj=>by simp at hj⟩
  | cons o rest ih =>
    intro i st r h hv
    simp only [zHu] at h
    split at h
    · cases h
    rename_i vc es hs1
    split at h
    · cases h
    rename_i vcs st' ess hs2
    injection h with h;subst h
    obtain ⟨k1,k2⟩:=zJa hs1 (fun p hp=>hv p (by simp [hp]))
    obtain ⟨k3,k4,k5⟩:=ih _ _ _ hs2 (fun p hp=>hv p (by simp [hp]))
    refine ⟨⟨k1,k3⟩,by simpa using k4,?_⟩
    intro j o' es' hj hj'
    cases j with
    | zero=>simp at hj hj';subst hj;subst hj';exact k2
    | succ j=>exact k5 j o' es' (by simpa using hj) (by simpa using hj')

/-- In the text's order. -/
theorem zHZ {P:Program} {N np:Nat} {all:Array Oper} {G:xE} {Q:Exit→Act→World→Prop} (hN:G.n=N) (hnp:G.foot.length=np):∀ (l:List Oper) (ess:List (List Eff)) (st st':AS) (a:Act) (w:World),
    zAP ess st st'→ess.length=l.length→(∀ (j:Nat) (o:Oper) (es:List Eff),l[j]?=some o→ess[j]?=some es→zJK P N np all o es)→vL G st a w →
    (∀ a w,vL G st' a w→Q .normal a w)→wpList P all Q l a w:=by
  intro l
  induction l with
  | nil =>
    intro ess st st' a w hc hl _ hR hQ
    cases ess with
    | nil=>simp only [zAP] at hc;subst hc;exact hQ a w hR
    | cons _ _=>simp at hl
  | cons o rest ih =>
    intro ess st st' a w hc hl hloc hR hQ
    cases ess with
    | nil=>simp at hl
    | cons es r =>
      obtain ⟨hh,hc⟩:=hc
      have hL:=hloc 0 o es (by simp) (by simp) G st a w hN hnp hh hR
      refine wpList_step fun K hK=>?_
      have hnext:∀ a w,vL G (uB st es) a w→K a w:=fun a w hR2=>hK a w (ih r (uB st es) st' a w hc (by simpa using hl) (fun j o' es' hj hj'=>hloc (j+1) o' es' (by simpa using hj) (by simpa using hj')) hR2 hQ)
      split
      · rename_i hw
        rw [if_pos hw] at hL
        exact Oper.wp_mono2 hnext hL
      · rename_i hw
        rw [if_neg hw] at hL
        exact hnext _ _ hL
end Go.Ab
