/- A region in whatever order its edges allow. -/
import Derived.Test.YtoeengmnmhhpgaaGreatA18
namespace Go.Ab
open Go

def cW (es:List Eff):List Nat:=es.flatMap fun E=>E.rs.map (·.1)
def qB (es:List Eff):List Nat:=es.flatMap fun E=>(E.dst.map (·.1)).toList++E.fz.map (·.1)
def cR (es:List Eff):List Nat:=es.flatMap fun E=>E.rb.map (·.1)
def tN (es:List Eff):List Nat:=es.flatMap fun E=>E.wb.map (·.1)

def pH (a b:List Nat):Bool:=a.any fun x=>b.any (Nat.beq x)

/-- Two operations that may not change places. -/
def mT (es fs:List Eff):Bool :=
  (pH (qB es) (cW fs)||pH (qB es) (qB fs))||(pH (cW es) (qB fs) ||
    ((pH (tN es) (cR fs)||pH (tN es) (tN fs))||pH (cR es) (tN fs)))

structure bN (es fs:List Eff):Prop where
  ws_rs:∀ t∈qB es,t∉cW fs
  ws_ws:∀ t∈qB es,t∉qB fs
  rs_ws:∀ t∈cW es,t∉qB fs
  wb_rb:∀ t∈tN es,t∉cR fs
  wb_wb:∀ t∈tN es,t∉tN fs
  rb_wb:∀ t∈cR es,t∉tN fs

theorem cP {a b:List Nat} (h:pH a b=false):∀ t∈a,t∉b:=by
  intro t ht hb
  have:pH a b=true:=by
    simp only [pH,List.any_eq_true]
    exact ⟨t,ht,t,hb,d9 t⟩
  rw [h] at this;cases this

theorem T9 {es fs:List Eff} (h:mT es fs=false):bN es fs:=by
  simp only [mT,Bool.or_eq_false_iff] at h
  obtain ⟨⟨h1,h2⟩,h3,⟨h4,h5⟩,h6⟩:=h
  exact ⟨cP h1,cP h2,cP h3,cP h4,cP h5,cP h6⟩

theorem W1 {l:List (Nat×AV)} {t:Nat} {d:AV} (h:t∉l.map (·.1)):qA l t d=d:=by
  induction l with
  | nil=>rfl
  | cons x r ih =>
    obtain ⟨k,v⟩:=x
    simp only [List.map_cons,List.mem_cons,not_or] at h
    simp only [qA,uZ h.1,cond_false]
    exact ih h.2

theorem MB {l:List (Nat×z9)} {t:Nat} {d:z9} (h:t∉l.map (·.1)):wT l t d=d:=by
  induction l with
  | nil=>rfl
  | cons x r ih =>
    obtain ⟨k,v⟩:=x
    simp only [List.map_cons,List.mem_cons,not_or] at h
    simp only [wT,uZ h.1,cond_false]
    exact ih h.2

theorem LK {l:List (Nat×AV)} {t:Nat} (h:t∈l.map (·.1)) (d d':AV):qA l t d=qA l t d':=by
  induction l with
  | nil=>simp at h
  | cons x r ih =>
    obtain ⟨k,v⟩:=x
    simp only [qA]
    cases hb:Nat.beq t k
    · simp only [cond_false]
      simp only [List.map_cons,List.mem_cons] at h
      rcases h with h | h
      · rw [h] at hb;simp at hb
      · exact ih h
    · rfl

theorem R7 {l:List (Nat×z9)} {t:Nat} (h:t∈l.map (·.1)) (d d':z9):wT l t d=wT l t d':=by
  induction l with
  | nil=>simp at h
  | cons x r ih =>
    obtain ⟨k,v⟩:=x
    simp only [wT]
    cases hb:Nat.beq t k
    · simp only [cond_false]
      simp only [List.map_cons,List.mem_cons] at h
      rcases h with h | h
      · rw [h] at hb;simp at hb
      · exact ih h
    · rfl

/-- What a row of summaries does to a slot: nothing, or always the same. -/
theorem pL {es:List Eff} {st:AS} {t:Nat} (h:t∉qB es):(vB st es).slot t=st.slot t:=by
  induction es generalizing st with
  | nil=>rfl
  | cons E r ih =>
    simp only [qB,List.flatMap_cons,List.mem_append,not_or] at h
    simp only [vB]
    rw [ih h.2]
    simp only [AS.upd]
    have h2:=W1 (d:=st.slot t) h.1.2
    cases hE:E.dst with
    | none=>simp only [jZ];exact h2
    | some x =>
      obtain ⟨d,av⟩:=x
      rw [bR _ _ _ (by have:=h.1.1;rw [hE] at this;simpa using this)]
      exact h2

theorem K8 {es:List Eff} {st st':AS} {t:Nat} (h:t∈qB es):(vB st es).slot t=(vB st' es).slot t:=by
  induction es generalizing st st' with
  | nil=>simp [qB] at h
  | cons E r ih =>
    simp only [vB]
    by_cases hr:t∈qB r
    · exact ih hr
    · rw [pL hr,pL hr]
      simp only [qB,List.flatMap_cons,List.mem_append] at h
      rcases h with (h | h) | h
      · cases hE:E.dst with
        | none=>rw [hE] at h;simp at h
        | some x =>
          obtain ⟨d,av⟩:=x
          rw [hE] at h
          simp at h
          subst h
          simp only [AS.upd,hE,aA]
      · cases hE:E.dst with
        | none=>simp only [AS.upd,hE,jZ];exact LK h _ _
        | some x =>
          obtain ⟨d,av⟩:=x
          simp only [AS.upd,hE]
          by_cases hd:t=d
          · subst hd;rw [aA,aA]
          · rw [bR _ _ _ hd,bR _ _ _ hd];exact LK h _ _
      · exact absurd h hr

theorem kQ {es:List Eff} {st:AS} {t:Nat} (h:t∉tN es):(vB st es).box t=st.box t:=by
  induction es generalizing st with
  | nil=>rfl
  | cons E r ih =>
    simp only [tN,List.flatMap_cons,List.mem_append,not_or] at h
    simp only [vB]
    rw [ih h.2]
    exact MB h.1

theorem MK {es:List Eff} {st st':AS} {t:Nat} (h:t∈tN es):(vB st es).box t=(vB st' es).box t:=by
  induction es generalizing st st' with
  | nil=>simp [tN] at h
  | cons E r ih =>
    simp only [vB]
    by_cases hr:t∈tN r
    · exact ih hr
    · rw [kQ hr,kQ hr]
      simp only [tN,List.flatMap_cons,List.mem_append] at h
      rcases h with h | h
      · exact R7 h _ _
      · exact absurd h hr

theorem R9 {es fs:List Eff} (h:bN es fs) (st:AS):vB (vB st es) fs=vB (vB st fs) es:=by
  have hs:(vB (vB st es) fs).slot=(vB (vB st fs) es).slot:=by
    funext t
    by_cases h1:t∈qB es
    · have h2:=h.ws_ws t h1
      rw [pL h2];exact K8 h1
    · rw [pL h1]
      by_cases h2:t∈qB fs
      · exact K8 h2
      · rw [pL h2,pL h2,pL h1]
  have hb:(vB (vB st es) fs).box=(vB (vB st fs) es).box:=by
    funext t
    by_cases h1:t∈tN es
    · have h2:=h.wb_wb t h1
      rw [kQ h2];exact MK h1
    · rw [kQ h1]
      by_cases h2:t∈tN fs
      · exact MK h2
      · rw [kQ h2,kQ h2,kQ h1]
  cases hx:vB (vB st es) fs with
  | mk s b =>
    cases hy:vB (vB st fs) es with
    | mk s' b' =>
      rw [hx,hy] at hs hb
      simp only at hs hb
      rw [hs,hb]

/-- Two states that agree on all that is read: the same summaries hold. -/
theorem JC {es:List Eff} {st st':AS} (hs:∀ t∈cW es,st'.slot t=st.slot t) (hb:∀ t∈cR es,st'.box t=st.box t) (h:jH st es):jH st' es:=by
  induction es generalizing st st' with
  | nil=>trivial
  | cons E r ih =>
    obtain ⟨⟨h1,h2⟩,h3⟩:=h
    simp only [cW,cR,List.flatMap_cons,List.mem_append] at hs hb
    refine ⟨⟨fun x hx=>?_,fun x hx=>?_⟩,ih (fun t ht=>?_) (fun t ht=>?_) h3⟩
    · rw [hs x.1 (.inl (List.mem_map.2 ⟨x,hx,rfl⟩))];exact h1 x hx
    · rw [hb x.1 (.inl (List.mem_map.2 ⟨x,hx,rfl⟩))];exact h2 x hx
    · have e:=hs t (.inr ht)
      have l1:qA E.fz t (st'.slot t)=qA E.fz t (st.slot t):=by rw [e]
      simp only [AS.upd]
      cases hE:E.dst with
      | none=>simp only [jZ];exact l1
      | some x =>
        obtain ⟨d,av⟩:=x
        by_cases hd:t=d
        · subst hd;rw [aA,aA]
        · rw [bR _ _ _ hd,bR _ _ _ hd];exact l1
    · have e:=hb t (.inr ht)
      show wT E.wb t (st'.box t)=wT E.wb t (st.box t)
      rw [e]

theorem RE {es fs:List Eff} (h:bN es fs) {st:AS} (hf:jH (vB st es) fs):jH st fs :=
  JC (fun t ht=>(pL (fun hw=>h.ws_rs t hw ht)).symm) (fun t ht=>(kQ (fun hw=>h.wb_rb t hw ht)).symm) hf

theorem WQ {es fs:List Eff} (h:bN es fs) {st:AS} (he:jH st es):jH (vB st fs) es :=
  JC (fun t ht=>pL (fun hw=>h.rs_ws t ht hw)) (fun t ht=>kQ (fun hw=>h.rb_wb t ht hw)) he

/-- An operation goes ahead of all those that it does not mT with. -/
theorem T0 {es:List Eff}:∀ (A B:List (List Eff)) (st st':AS),kB (A++es::B) st st'→(∀ x∈A,bN x es)→jH st es∧kB (A++B) (vB st es) st':=by
  intro A
  induction A with
  | nil=>intro B st st' h _;exact h
  | cons x r ih =>
    intro B st st' h hi
    obtain ⟨h1,h2⟩:=h
    obtain ⟨k1,k2⟩:=ih B _ _ h2 (fun y hy=>hi y (by simp [hy]))
    have hix:=hi x (by simp)
    refine ⟨RE hix k1,WQ hix h1,?_⟩
    rw [← R9 hix]
    exact k2

/-! Which operations stand ahead of which. -/
def qZ (o:Oper):List Nat:=(o.after.toList.filter (Region.binds .any)).map (·.on)

inductive Dep (ops:Array Oper):Nat→Nat→Prop
  | one {i j o}:ops[j]?=some o→i∈qZ o→Dep ops i j
  | more {i k j o}:ops[j]?=some o→k∈qZ o→Dep ops i k→Dep ops i j

def L4 (acc:List Nat) (ds:List Nat):Nat:=ds.foldl (fun m e=>m ||| (2 ^ e ||| acc.getD e 0)) 0

def dI:List (List Nat)→List Nat→List Nat
  | [],acc=>acc
  | ds::r,acc=>dI r (acc++[L4 acc ds])

theorem QJ (acc:List Nat) (i:Nat):∀ (ds:List Nat) (m:Nat),(ds.foldl (fun m e=>m ||| (2 ^ e ||| acc.getD e 0)) m).testBit i=true→m.testBit i=true∨∃ e∈ds,e=i∨(acc.getD e 0).testBit i=true:=by
  intro ds
  induction ds with
  | nil=>intro m h;exact .inl h
  | cons e r ih =>
    intro m h
    simp only [List.foldl_cons] at h
    rcases ih _ h with h | ⟨e',he',h⟩
    · simp only [Nat.testBit_or,Bool.or_eq_true] at h
      rcases h with h | h | h
      · exact .inl h
      · rw [Nat.testBit_two_pow] at h
        exact .inr ⟨e,by simp,.inl (by simpa using h)⟩
      · exact .inr ⟨e,by simp,.inr h⟩
    · exact .inr ⟨e',by simp [he'],h⟩

theorem N4 {ops:Array Oper}:∀ (l:List (List Nat)) (acc:List Nat),(∀ (k:Nat) (ds:List Nat),l[k]?=some ds→∃ o,ops[acc.length+k]?=some o∧qZ o=ds) →
    (∀ j,j<acc.length→∀ i,(acc.getD j 0).testBit i=true→Dep ops i j)→∀ j i,((dI l acc).getD j 0).testBit i=true→Dep ops i j:=by
  intro l
  induction l with
  | nil =>
    intro acc _ h j i hb
    rcases Nat.lt_or_ge j acc.length with hj | hj
    · exact h j hj i hb
    · simp [dI,List.getD,List.getElem?_eq_none hj] at hb
  | cons ds r ih =>
    intro acc hl h j i hb
    simp only [dI] at hb
    refine ih (acc++[L4 acc ds]) ?_ ?_ j i hb
    · intro k ds' hk
      obtain ⟨o,h1,h2⟩:=hl (k+1) ds' (by simpa using hk)
      exact ⟨o,by rw [← h1];simp only [List.length_append,List.length_singleton];congr 1;omega,h2⟩
    · intro j' hj' i' hb'
      rw [List.length_append,List.length_singleton] at hj'
      rcases Nat.lt_or_ge j' acc.length with hlt | hge
      · rw [List.getD_eq_getElem?_getD,List.getElem?_append_left hlt,← List.getD_eq_getElem?_getD] at hb'
        exact h j' hlt i' hb'
      · have:j'=acc.length:=by omega
        subst this
        rw [List.getD_eq_getElem?_getD,List.getElem?_append_right (Nat.le_refl _)] at hb'
        simp only [Nat.sub_self,List.getElem?_cons_zero,Option.getD_some] at hb'
        obtain ⟨o,h1,h2⟩:=hl 0 ds (by simp)
        simp only [Nat.add_zero] at h1
        rcases QJ acc i' ds 0 hb' with h0 | ⟨e,he,h0⟩
        · simp at h0
        · rcases h0 with rfl | h0
          · exact .one h1 (by rw [h2];exact he)
          · refine .more (k:=e) h1 (by rw [h2];exact he) ?_
            rcases Nat.lt_or_ge e acc.length with hlt | hge'
            · exact h e hlt i' h0
            · simp [List.getD,List.getElem?_eq_none hge'] at h0

/-- Clashing operations are held in order by the edges; edges point backwards. -/
def rR (ops:List Oper) (ess:List (List Eff)):Bool :=
  let ms:=dI (ops.map qZ) []
  (ops.zipIdx.all fun (o,j)=>(qZ o).all fun e=>Nat.blt e j) &&
  ess.zipIdx.all fun (fs,j)=>(ess.take j).zipIdx.all fun (es,i)=>!(mT es fs)||(ms.getD j 0).testBit i

theorem H6 {ops:Array Oper} {listed:Array Bool} {j:Nat} (h:j∈Region.ready .any ops listed) :
    j<ops.size∧listed.getD j true=false∧∀ o,ops[j]?=some o→∀ e∈qZ o,listed.getD e false=true:=by
  simp only [Region.ready,List.mem_filter,List.mem_range,Bool.and_eq_true,Bool.not_eq_true'] at h
  refine ⟨h.1,h.2.1,fun o ho e he=>?_⟩
  have h3:=h.2.2
  rw [ho] at h3
  simp only [Option.map_some,Option.getD_some] at h3
  rw [← Array.all_toList] at h3
  simp only [List.all_eq_true] at h3
  simp only [qZ,List.mem_map,List.mem_filter] at he
  obtain ⟨x,⟨hx,hb⟩,rfl⟩:=he
  have:=h3 x hx
  simpa [hb] using this

def tJ (n:Nat) (listed:Array Bool):List Nat:=(List.range n).filter fun i=>!(listed.getD i true)

theorem SM {n i:Nat} {listed:Array Bool} (hi:i<n) (hs:listed.size=n) (hl:listed.getD i true=false) :
    ∃ A B,tJ n listed=A++i::B∧(∀ x∈A,x<i∧listed.getD x true=false)∧tJ n (listed.setIfInBounds i true)=A++B:=by
  have hr:List.range n=List.range i++i::(List.range' (i+1) (n - i - 1)):=by
    rw [List.range_eq_range',List.range_eq_range']
    have:n=i+(1+(n - i - 1)):=by omega
    conv=>lhs;rw [this]
    rw [← List.range'_append,← List.range'_append]
    simp
  refine ⟨(List.range i).filter fun x=>!(listed.getD x true),(List.range' (i+1) (n - i - 1)).filter fun x=>!(listed.getD x true),?_,?_,?_⟩
  · simp only [tJ,hr,List.filter_append,List.filter_cons,hl]
    simp
  · intro x hx
    simp only [List.mem_filter,List.mem_range,Bool.not_eq_true'] at hx
    exact hx
  · have hset:∀ x,x≠i→(listed.setIfInBounds i true).getD x true=listed.getD x true:=by
      intro x hx
      simp only [Array.getD_eq_getD_getElem?,Array.getElem?_setIfInBounds]
      rw [if_neg (fun e=>hx e.symm)]
    have hself:(listed.setIfInBounds i true).getD i true=true:=by
      simp [Array.getD_eq_getD_getElem?,hs,hi]
    simp only [tJ,hr,List.filter_append,List.filter_cons,hself]
    simp only [Bool.not_true,Bool.false_eq_true,if_false]
    congr 1
    · apply List.filter_congr
      intro x hx
      rw [hset x (by have:=List.mem_range.1 hx;omega)]
    · apply List.filter_congr
      intro x hx
      rw [hset x (by have:=List.mem_range'_1.1 hx;omega)]

theorem Q9 {P:Program} {ops:Array Oper} {Q:Exit→Act→World→Prop} {i:Nat} {o:Oper} {K:Act→World→Prop} {a:Act} {w:World} (ho:ops[i]?=some o)
    (h:if Region.wanted o (yielded ops a.tmps)=true then o.wp P a w K Q else K (a.put o.dst undef) w):wpOp P ops Q i K a w:=by
  unfold wpOp
  rw [ho]
  simp only
  split
  · rename_i hw;rw [if_pos hw] at h;exact .inl h
  · rename_i hw;rw [if_neg hw] at h;exact h

theorem OA {P:Program} {N np:Nat} {ops:Array Oper} {G:vI} {Q:Exit→Act→World→Prop} {ess:List (List Eff)} (hN:G.n=N) (hnp:G.foot.length=np) (hlen:ess.length=ops.size)
    (hloc:∀ (j:Nat) (o:Oper) (es:List Eff),ops[j]?=some o→ess[j]?=some es→mE P N np ops o es)
    (hord:∀ (i j:Nat) (es fs:List Eff),i<j→ess[i]?=some es→ess[j]?=some fs→bN es fs∨Dep ops i j)
    (hback:∀ (j:Nat) (o:Oper),ops[j]?=some o→∀ e∈qZ o,e<j) {st':AS} (hQ:∀ a w,Rel G st' a w→Q .normal a w) :
    ∀ (fuel:Nat) (listed:Array Bool) (st:AS) (a:Act) (w:World),listed.size=ops.size→(tJ ops.size listed).length=fuel →
      (∀ j o,ops[j]?=some o→listed.getD j true=true→∀ e∈qZ o,listed.getD e false=true) →
      kB ((tJ ops.size listed).map fun i=>ess.getD i []) st st'→Rel G st a w→wpAny P .any ops Q fuel listed a w:=by
  -- an operation that is ready has behind it all that it hangs on
  have closed:∀ {listed:Array Bool} {j:Nat},listed.size=ops.size→(∀ j o,ops[j]?=some o→listed.getD j true=true→∀ e∈qZ o,listed.getD e false=true) →
      (∀ o,ops[j]?=some o→∀ e∈qZ o,listed.getD e false=true)→∀ i,Dep ops i j→listed.getD i false=true:=by
    intro listed j hs hcl hj i hd
    induction hd with
    | one ho hi=>exact hj _ ho _ hi
    | more ho hk _ ih =>
      refine ih fun o ho' e he=>?_
      have hkl:=hj _ ho _ hk
      refine hcl _ o ho' ?_ e he
      rename_i k _ _ _
      have:k<listed.size:=by
        rcases Nat.lt_or_ge k listed.size with h' | h'
        · exact h'
        · simp [Array.getD_eq_getD_getElem?,Array.getElem?_eq_none h'] at hkl
      simp only [Array.getD_eq_getD_getElem?,Array.getElem?_eq_getElem this,Option.getD_some] at hkl ⊢
      exact hkl
  have tf:∀ {listed:Array Bool} {j:Nat},listed.getD j false=true→listed.getD j true=true:=by
    intro listed j h
    cases hx:listed[j]? with
    | none=>simp [Array.getD_eq_getD_getElem?,hx] at h
    | some b=>simp [Array.getD_eq_getD_getElem?,hx] at h ⊢;exact h
  have rem_mem:∀ {listed:Array Bool} {j:Nat},j∈tJ ops.size listed↔j<ops.size∧listed.getD j true=false:=by
    intro listed j
    simp [tJ]
  -- the least that is left is ready
  have least:∀ {listed:Array Bool},listed.size=ops.size→Region.ready .any ops listed=[]→tJ ops.size listed=[]:=by
    intro listed hs hr
    cases hR:tJ ops.size listed with
    | nil=>rfl
    | cons j r =>
      exfalso
      have hj:j∈tJ ops.size listed:=by rw [hR];simp
      obtain ⟨hjn,hjl⟩:=rem_mem.1 hj
      -- all before j are listed
      have hbefore:∀ e,e<j→listed.getD e true=true:=by
        intro e he
        cases hx:listed.getD e true with
        | true=>rfl
        | false =>
          have hem:e∈tJ ops.size listed:=rem_mem.2 ⟨by omega,hx⟩
          have hsorted:(tJ ops.size listed).Pairwise (·<·):=by
            unfold tJ
            exact List.Pairwise.filter _ (List.pairwise_lt_range)
          rw [hR] at hem hsorted
          rw [List.pairwise_cons] at hsorted
          rcases List.mem_cons.1 hem with h | h
          · omega
          · have:=hsorted.1 e h;omega
      have:j∈Region.ready .any ops listed:=by
        simp only [Region.ready,List.mem_filter,List.mem_range,Bool.and_eq_true,Bool.not_eq_true']
        refine ⟨hjn,hjl,?_⟩
        have ho:ops[j]?=some ops[j]:=Array.getElem?_eq_getElem hjn
        rw [ho]
        simp only [Option.map_some,Option.getD_some]
        rw [← Array.all_toList]
        simp only [List.all_eq_true]
        intro e he
        cases hb:Region.binds .any e with
        | false=>simp
        | true =>
          have hd:e.on∈qZ ops[j]:=List.mem_map.2 ⟨e,List.mem_filter.2 ⟨he,hb⟩,rfl⟩
          have hlt:=hback j _ ho e.on hd
          have h1:=hbefore e.on hlt
          have hsz:e.on<listed.size:=by omega
          simp only [Array.getD_eq_getD_getElem?,Array.getElem?_eq_getElem hsz,Option.getD_some] at h1 ⊢
          simp [h1]
      rw [hr] at this;cases this
  intro fuel
  induction fuel with
  | zero =>
    intro listed st a w hs hf hcl hch hR
    have hnil:tJ ops.size listed=[]:=List.eq_nil_of_length_eq_zero hf
    rw [hnil] at hch
    simp only [List.map_nil,kB] at hch
    subst hch
    refine ⟨?_,hQ a w hR⟩
    cases hr:Region.ready .any ops listed with
    | nil=>rfl
    | cons j r =>
      exfalso
      have:=H6 (j:=j) (by rw [hr];simp)
      have hm:j∈tJ ops.size listed:=rem_mem.2 ⟨this.1,this.2.1⟩
      rw [hnil] at hm;cases hm
  | succ fuel ih =>
    intro listed st a w hs hf hcl hch hR
    refine ⟨fun hr=>?_,fun i hi=>?_⟩
    · have:=least hs hr
      rw [this] at hf;simp at hf
    · obtain ⟨hin,hil,hdi⟩:=H6 hi
      have ho:ops[i]?=some ops[i]:=Array.getElem?_eq_getElem hin
      obtain ⟨A,B,hAB,hA,hAB'⟩:=SM hin hs hil
      have hei:ess[i]?=some (ess.getD i []):=by
        have:i<ess.length:=by omega
        simp [List.getD,List.getElem?_eq_getElem this]
      rw [hAB,List.map_append,List.map_cons] at hch
      have hdeps:=closed hs hcl (fun o ho' e he=>hdi o ho' e he)
      obtain ⟨k1,k2⟩:=T0 (A.map fun i=>ess.getD i []) (B.map fun i=>ess.getD i []) st st' hch (by
        intro x hx
        simp only [List.mem_map] at hx
        obtain ⟨j,hj,rfl⟩:=hx
        obtain ⟨hjlt,hjl⟩:=hA j hj
        have hej:ess[j]?=some (ess.getD j []):=by
          have:j<ess.length:=by omega
          simp [List.getD,List.getElem?_eq_getElem this]
        rcases hord j i _ _ hjlt hej hei with h | h
        · exact h
        · have:=hdeps j h
          have:=tf this
          rw [hjl] at this;cases this)
      have hL:=hloc i _ _ ho hei G st a w hN hnp k1 hR
      have hnext:∀ a w,Rel G (vB st (ess.getD i [])) a w→wpAny P .any ops Q fuel (listed.setIfInBounds i true) a w:=by
        intro a w hR2
        refine ih (listed.setIfInBounds i true) _ a w (by simpa using hs) ?_ ?_ ?_ hR2
        · rw [hAB'];rw [hAB] at hf;simp at hf ⊢;omega
        · intro j o ho' hjl e he
          have hkeep:∀ e,listed.getD e false=true→(listed.setIfInBounds i true).getD e false=true:=by
            intro e he
            simp only [Array.getD_eq_getD_getElem?,Array.getElem?_setIfInBounds] at he ⊢
            split
            · rename_i h;subst h;rw [if_pos (by omega)];rfl
            · exact he
          by_cases hji:j=i
          · subst hji;exact hkeep e (hdi o ho' e he)
          · refine hkeep e (hcl j o ho' ?_ e he)
            simp only [Array.getD_eq_getD_getElem?,Array.getElem?_setIfInBounds] at hjl
            rw [if_neg (fun e=>hji e.symm)] at hjl
            simpa [Array.getD_eq_getD_getElem?] using hjl
        · rw [hAB',List.map_append];exact k2
      refine Q9 ho ?_
      split
      · rename_i hw;rw [if_pos hw] at hL;exact Oper.wp_mono2 hnext hL
      · rename_i hw;rw [if_neg hw] at hL;exact hnext _ _ hL

theorem M8 {ops:List Oper} {ess:List (List Eff)} (h:rR ops ess=true) :
    (∀ (j:Nat) (o:Oper),ops[j]?=some o→∀ e∈qZ o,e<j) ∧
    ∀ (i j:Nat) (es fs:List Eff),i<j→ess[i]?=some es→ess[j]?=some fs→bN es fs∨Dep ops.toArray i j:=by
  simp only [rR,Bool.and_eq_true,List.all_eq_true] at h
  obtain ⟨h1,h2⟩:=h
  refine ⟨fun j o ho e he=>?_,fun i j es fs hij hi hj=>?_⟩
  · have:=h1 (o,j) (by rw [List.mem_zipIdx_iff_getElem?];exact ho) e he
    simp [Nat.blt] at this;omega
  · have:=h2 (fs,j) (by rw [List.mem_zipIdx_iff_getElem?];exact hj) (es,i) (by
      rw [List.mem_zipIdx_iff_getElem?]
      show (ess.take j)[i]?=some es
      rw [List.getElem?_take,if_pos hij];exact hi)
    simp only [Bool.or_eq_true,Bool.not_eq_true'] at this
    rcases this with h | h
    · exact .inl (T9 h)
    · right
      refine N4 (ops:=ops.toArray) (ops.map qZ) [] ?_ (fun j hj=>by simp at hj) j i h
      intro k ds hk
      rw [List.getElem?_map] at hk
      cases ho:ops[k]? with
      | none=>rw [ho] at hk;cases hk
      | some o=>rw [ho] at hk;injection hk with hk;exact ⟨o,by simpa using ho,hk⟩
end Go.Ab
