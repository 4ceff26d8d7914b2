/- A region in whatever order its edges allow. -/
import Derived.Test.YtbifmbdcejggkaaA48
namespace Go.Ab
open Go

def zCQ (es:List Eff):List Nat:=es.flatMap fun E=>E.rs.map (·.1)
def qO (es:List Eff):List Nat:=es.flatMap fun E=>(E.dst.map (·.1)).toList++E.fz.map (·.1)
def zCH (es:List Eff):List Nat:=es.flatMap fun E=>E.rb.map (·.1)
def tQ (es:List Eff):List Nat:=es.flatMap fun E=>E.wb.map (·.1)

def zBx (a b:List Nat):Bool:=a.any fun x=>b.any (Nat.beq x)

/-- Two operations that may not change places. -/
def zHA (es fs:List Eff):Bool :=
  (zBx (qO es) (zCQ fs)||zBx (qO es) (qO fs))||(zBx (zCQ es) (qO fs) ||
    ((zBx (tQ es) (zCH fs)||zBx (tQ es) (tQ fs))||zBx (zCH es) (tQ fs)))

structure zC5 (es fs:List Eff):Prop where
  ws_rs:∀ t∈qO es,t∉zCQ fs
  ws_ws:∀ t∈qO es,t∉qO fs
  rs_ws:∀ t∈zCQ es,t∉qO fs
  wb_rb:∀ t∈tQ es,t∉zCH fs
  wb_wb:∀ t∈tQ es,t∉tQ fs
  rb_wb:∀ t∈zCH es,t∉tQ fs

theorem k9 {a b:List Nat} (h:zBx a b=false):∀ t∈a,t∉b:=by
  intro t ht hb
  have:zBx a b=true:=by
    simp only [zBx,List.any_eq_true]
    exact ⟨t,ht,t,hb,zCc t⟩
  rw [h] at this;cases this

theorem zMa {es fs:List Eff} (h:zHA es fs=false):zC5 es fs:=by
  simp only [zHA,Bool.or_eq_false_iff] at h
  obtain ⟨⟨h1,h2⟩,h3,⟨h4,h5⟩,h6⟩:=h
  exact ⟨k9 h1,k9 h2,k9 h3,k9 h4,k9 h5,k9 h6⟩

theorem zJm {l:List (Nat×AV)} {t:Nat} {d:AV} (h:t∉l.map (·.1)):jZ l t d=d:=by
  induction l with
  | nil=>rfl
  | cons x r ih =>
    obtain ⟨k,v⟩:=x
    simp only [List.map_cons,List.mem_cons,not_or] at h
    simp only [jZ,xS h.1,cond_false]
    exact ih h.2

theorem zEJ {l:List (Nat×zN)} {t:Nat} {d:zN} (h:t∉l.map (·.1)):xH l t d=d:=by
  induction l with
  | nil=>rfl
  | cons x r ih =>
    obtain ⟨k,v⟩:=x
    simp only [List.map_cons,List.mem_cons,not_or] at h
    simp only [xH,xS h.1,cond_false]
    exact ih h.2

theorem zG5 {l:List (Nat×AV)} {t:Nat} (h:t∈l.map (·.1)) (d d':AV):jZ l t d=jZ l t d':=by
  induction l with
  | nil=>simp at h
  | cons x r ih =>
    obtain ⟨k,v⟩:=x
    simp only [jZ]
    cases hb:Nat.beq t k
    · simp only [cond_false]
      simp only [List.map_cons,List.mem_cons] at h
      rcases h with h | h
      · rw [h] at hb;simp at hb
      · exact ih h
    · rfl

theorem zKW {l:List (Nat×zN)} {t:Nat} (h:t∈l.map (·.1)) (d d':zN):xH l t d=xH l t d':=by
  induction l with
  | nil=>simp at h
  | cons x r ih =>
    obtain ⟨k,v⟩:=x
    simp only [xH]
    cases hb:Nat.beq t k
    · simp only [cond_false]
      simp only [List.map_cons,List.mem_cons] at h
      rcases h with h | h
      · rw [h] at hb;simp at hb
      · exact ih h
    · rfl

/-- What a row of summaries does to a slot: nothing, or always the same. -/
theorem qQ {es:List Eff} {st:AS} {t:Nat} (h:t∉qO es):(v9 st es).slot t=st.slot t:=by
  induction es generalizing st with
  | nil=>rfl
  | cons E r ih =>
    simp only [qO,List.flatMap_cons,List.mem_append,not_or] at h
    simp only [v9]
    rw [ih h.2]
    simp only [AS.upd]
    have h2:=zJm (d:=st.slot t) h.1.2
    cases hE:E.dst with
    | none=>simp only [zA4];exact h2
    | some x =>
      obtain ⟨d,av⟩:=x
      rw [zAp _ _ _ (by have:=h.1.1;rw [hE] at this;simpa using this)]
      exact h2

theorem zJS {es:List Eff} {st st':AS} {t:Nat} (h:t∈qO es):(v9 st es).slot t=(v9 st' es).slot t:=by
  induction es generalizing st st' with
  | nil=>simp [qO] at h
  | cons E r ih =>
    simp only [v9]
    by_cases hr:t∈qO r
    · exact ih hr
    · rw [qQ hr,qQ hr]
      simp only [qO,List.flatMap_cons,List.mem_append] at h
      rcases h with (h | h) | h
      · cases hE:E.dst with
        | none=>rw [hE] at h;simp at h
        | some x =>
          obtain ⟨d,av⟩:=x
          rw [hE] at h
          simp at h
          subst h
          simp only [AS.upd,hE,kK]
      · cases hE:E.dst with
        | none=>simp only [AS.upd,hE,zA4];exact zG5 h _ _
        | some x =>
          obtain ⟨d,av⟩:=x
          simp only [AS.upd,hE]
          by_cases hd:t=d
          · subst hd;rw [kK,kK]
          · rw [zAp _ _ _ hd,zAp _ _ _ hd];exact zG5 h _ _
      · exact absurd h hr

theorem qS {es:List Eff} {st:AS} {t:Nat} (h:t∉tQ es):(v9 st es).box t=st.box t:=by
  induction es generalizing st with
  | nil=>rfl
  | cons E r ih =>
    simp only [tQ,List.flatMap_cons,List.mem_append,not_or] at h
    simp only [v9]
    rw [ih h.2]
    exact zEJ h.1

theorem zLK {es:List Eff} {st st':AS} {t:Nat} (h:t∈tQ es):(v9 st es).box t=(v9 st' es).box t:=by
  induction es generalizing st st' with
  | nil=>simp [tQ] at h
  | cons E r ih =>
    simp only [v9]
    by_cases hr:t∈tQ r
    · exact ih hr
    · rw [qS hr,qS hr]
      simp only [tQ,List.flatMap_cons,List.mem_append] at h
      rcases h with h | h
      · exact zKW h _ _
      · exact absurd h hr

theorem zLJ {es fs:List Eff} (h:zC5 es fs) (st:AS):v9 (v9 st es) fs=v9 (v9 st fs) es:=by
  have hs:(v9 (v9 st es) fs).slot=(v9 (v9 st fs) es).slot:=by
    funext t
    by_cases h1:t∈qO es
    · have h2:=h.ws_ws t h1
      rw [qQ h2];exact zJS h1
    · rw [qQ h1]
      by_cases h2:t∈qO fs
      · exact zJS h2
      · rw [qQ h2,qQ h2,qQ h1]
  have hb:(v9 (v9 st es) fs).box=(v9 (v9 st fs) es).box:=by
    funext t
    by_cases h1:t∈tQ es
    · have h2:=h.wb_wb t h1
      rw [qS h2];exact zLK h1
    · rw [qS h1]
      by_cases h2:t∈tQ fs
      · exact zLK h2
      · rw [qS h2,qS h2,qS h1]
  cases hx:v9 (v9 st es) fs with
  | mk s b =>
    cases hy:v9 (v9 st fs) es with
    | mk s' b' =>
      rw [hx,hy] at hs hb
      simp only at hs hb
      rw [hs,hb]

/-- Two states that agree on all that is read: the same summaries hold. -/
theorem zEA {es:List Eff} {st st':AS} (hs:∀ t∈zCQ es,st'.slot t=st.slot t) (hb:∀ t∈zCH es,st'.box t=st.box t) (h:kA st es):kA st' es:=by
  induction es generalizing st st' with
  | nil=>trivial
  | cons E r ih =>
    obtain ⟨⟨h1,h2⟩,h3⟩:=h
    simp only [zCQ,zCH,List.flatMap_cons,List.mem_append] at hs hb
    refine ⟨⟨fun x hx=>?_,fun x hx=>?_⟩,ih (fun t ht=>?_) (fun t ht=>?_) h3⟩
    · rw [hs x.1 (.inl (List.mem_map.2 ⟨x,hx,rfl⟩))];exact h1 x hx
    · rw [hb x.1 (.inl (List.mem_map.2 ⟨x,hx,rfl⟩))];exact h2 x hx
    · have e:=hs t (.inr ht)
      have l1:jZ E.fz t (st'.slot t)=jZ E.fz t (st.slot t):=by rw [e]
      simp only [AS.upd]
      cases hE:E.dst with
      | none=>simp only [zA4];exact l1
      | some x =>
        obtain ⟨d,av⟩:=x
        by_cases hd:t=d
        · subst hd;rw [kK,kK]
        · rw [zAp _ _ _ hd,zAp _ _ _ hd];exact l1
    · have e:=hb t (.inr ht)
      show xH E.wb t (st'.box t)=xH E.wb t (st.box t)
      rw [e]

theorem zIb {es fs:List Eff} (h:zC5 es fs) {st:AS} (hf:kA (v9 st es) fs):kA st fs :=
  zEA (fun t ht=>(qQ (fun hw=>h.ws_rs t hw ht)).symm) (fun t ht=>(qS (fun hw=>h.wb_rb t hw ht)).symm) hf

theorem zHR {es fs:List Eff} (h:zC5 es fs) {st:AS} (he:kA st es):kA (v9 st fs) es :=
  zEA (fun t ht=>qQ (fun hw=>h.rs_ws t ht hw)) (fun t ht=>qS (fun hw=>h.rb_wb t ht hw)) he

/-- An operation goes ahead of all those that it does not zHA with. -/
theorem zJr {es:List Eff}:∀ (A B:List (List Eff)) (st st':AS),zBa (A++es::B) st st'→(∀ x∈A,zC5 x es)→kA st es∧zBa (A++B) (v9 st es) st':=by
  intro A
  induction A with
  | nil=>intro B st st' h _;exact h
  | cons x r ih =>
    intro B st st' h hi
    obtain ⟨h1,h2⟩:=h
    obtain ⟨k1,k2⟩:=ih B _ _ h2 (fun y hy=>hi y (by simp [hy]))
    have hix:=hi x (by simp)
    refine ⟨zIb hix k1,zHR hix h1,?_⟩
    rw [← zLJ hix]
    exact k2

/-! Which operations stand ahead of which. -/
def jM (o:Oper):List Nat:=(o.after.toList.filter (Region.binds .any)).map (·.on)

inductive Dep (ops:Array Oper):Nat→Nat→Prop
  | one {i j o}:ops[j]?=some o→i∈jM o→Dep ops i j
  | more {i k j o}:ops[j]?=some o→k∈jM o→Dep ops i k→Dep ops i j

def zLs (acc:List Nat) (ds:List Nat):Nat:=ds.foldl (fun m e=>m ||| (2 ^ e ||| acc.getD e 0)) 0

def zFS:List (List Nat)→List Nat→List Nat
  | [],acc=>acc
  | ds::r,acc=>zFS r (acc++[zLs acc ds])

theorem zIc (acc:List Nat) (i:Nat):∀ (ds:List Nat) (m:Nat),(ds.foldl (fun m e=>m ||| (2 ^ e ||| acc.getD e 0)) m).testBit i=true→m.testBit i=true∨∃ e∈ds,e=i∨(acc.getD e 0).testBit i=true:=by
  intro ds
  induction ds with
  | nil=>intro m h;exact .inl h
  | cons e r ih =>
    intro m h
    simp only [List.foldl_cons] at h
    rcases ih _ h with h | ⟨e',he',h⟩
    · simp only [Nat.testBit_or,Bool.or_eq_true] at h
      rcases h with h | h | h
      · exact .inl h
      · rw [Nat.testBit_two_pow] at h
        exact .inr ⟨e,by simp,.inl (by simpa using h)⟩
      · exact .inr ⟨e,by simp,.inr h⟩
    · exact .inr ⟨e',by simp [he'],h⟩

theorem zLO {ops:Array Oper}:∀ (l:List (List Nat)) (acc:List Nat),(∀ (k:Nat) (ds:List Nat),l[k]?=some ds→∃ o,ops[acc.length+k]?=some o∧jM o=ds) →
    (∀ j,j<acc.length→∀ i,(acc.getD j 0).testBit i=true→Dep ops i j)→∀ j i,((zFS l acc).getD j 0).testBit i=true→Dep ops i j:=by
  intro l
  induction l with
  | nil =>
    intro acc _ h j i hb
    rcases Nat.lt_or_ge j acc.length with hj | hj
    · exact h j hj i hb
    · simp [zFS,List.getD,List.getElem?_eq_none hj] at hb
  | cons ds r ih =>
    intro acc hl h j i hb
    simp only [zFS] at hb
    refine ih (acc++[zLs acc ds]) ?_ ?_ j i hb
    · intro k ds' hk
      obtain ⟨o,h1,h2⟩:=hl (k+1) ds' (by simpa using hk)
      exact ⟨o,by rw [← h1];simp only [List.length_append,List.length_singleton];congr 1;omega,h2⟩
    · intro j' hj' i' hb'
      rw [List.length_append,List.length_singleton] at hj'
      rcases Nat.lt_or_ge j' acc.length with hlt | hge
      · rw [List.getD_eq_getElem?_getD,List.getElem?_append_left hlt,← List.getD_eq_getElem?_getD] at hb'
        exact h j' hlt i' hb'
      · have:j'=acc.length:=by omega
        subst this
        rw [List.getD_eq_getElem?_getD,List.getElem?_append_right (Nat.le_refl _)] at hb'
        simp only [Nat.sub_self,List.getElem?_cons_zero,Option.getD_some] at hb'
        obtain ⟨o,h1,h2⟩:=hl 0 ds (by simp)
        simp only [Nat.add_zero] at h1
        rcases zIc acc i' ds 0 hb' with h0 | ⟨e,he,h0⟩
        · simp at h0
        · rcases h0 with rfl | h0
          · exact .one h1 (by rw [h2];exact he)
          · refine .more (k:=e) h1 (by rw [h2];exact he) ?_
            rcases Nat.lt_or_ge e acc.length with hlt | hge'
            · exact h e hlt i' h0
            · simp [List.getD,List.getElem?_eq_none hge'] at h0

/-- Clashing operations are held in order by the edges; edges point backwards. -/
def zEm (ops:List Oper) (ess:List (List Eff)):Bool :=
  let ms:=zFS (ops.map jM) []
  (ops.zipIdx.all fun (o,j)=>(jM o).all fun e=>Nat.blt e j) &&
  ess.zipIdx.all fun (fs,j)=>(ess.take j).zipIdx.all fun (es,i)=>!(zHA es fs)||(ms.getD j 0).testBit i

theorem zEe {ops:Array Oper} {listed:Array Bool} {j:Nat} (h:j∈Region.ready .any ops listed) :
    j<ops.size∧listed.getD j true=false∧∀ o,ops[j]?=some o→∀ e∈jM o,listed.getD e false=true:=by
  simp only [Region.ready,List.mem_filter,List.mem_range,Bool.and_eq_true,Bool.not_eq_true'] at h
  refine ⟨h.1,h.2.1,fun o ho e he=>?_⟩
  have h3:=h.2.2
  rw [ho] at h3
  simp only [Option.map_some,Option.getD_some] at h3
  rw [← Array.all_toList] at h3
  simp only [List.all_eq_true] at h3
  simp only [jM,List.mem_map,List.mem_filter] at he
  obtain ⟨x,⟨hx,hb⟩,rfl⟩:=he
  have:=h3 x hx
  simpa [hb] using this

def vS (n:Nat) (listed:Array Bool):List Nat:=(List.range n).filter fun i=>!(listed.getD i true)

theorem zFG {n i:Nat} {listed:Array Bool} (hi:i<n) (hs:listed.size=n) (hl:listed.getD i true=false) :
    ∃ A B,vS n listed=A++i::B∧(∀ x∈A,x<i∧listed.getD x true=false)∧vS n (listed.setIfInBounds i true)=A++B:=by
  have hr:List.range n=List.range i++i::(List.range' (i+1) (n - i - 1)):=by
    rw [List.range_eq_range',List.range_eq_range']
    have:n=i+(1+(n - i - 1)):=by omega
    conv=>lhs;rw [this]
    rw [← List.range'_append,← List.range'_append]
    simp
  refine ⟨(List.range i).filter fun x=>!(listed.getD x true),(List.range' (i+1) (n - i - 1)).filter fun x=>!(listed.getD x true),?_,?_,?_⟩
  · simp only [vS,hr,List.filter_append,List.filter_cons,hl]
    simp
  · intro x hx
    simp only [List.mem_filter,List.mem_range,Bool.not_eq_true'] at hx
    exact hx
  · have hset:∀ x,x≠i→(listed.setIfInBounds i true).getD x true=listed.getD x true:=by
      intro x hx
      simp only [Array.getD_eq_getD_getElem?,Array.getElem?_setIfInBounds]
      rw [if_neg (fun e=>hx e.symm)]
    have hself:(listed.setIfInBounds i true).getD i true=true:=by
      simp [Array.getD_eq_getD_getElem?,hs,hi]
    simp only [vS,hr,List.filter_append,List.filter_cons,hself]
    simp only [Bool.not_true,Bool.false_eq_true,if_false]
    congr 1
    · apply List.filter_congr
      intro x hx
      rw [hset x (by have:=List.mem_range.1 hx;omega)]
    · apply List.filter_congr
      intro x hx
      rw [hset x (by have:=List.mem_range'_1.1 hx;omega)]

theorem zNq {P:Program} {ops:Array Oper} {Q:Exit→Act→World→Prop} {i:Nat} {o:Oper} {K:Act→World→Prop} {a:Act} {w:World} (ho:ops[i]?=some o)
    (h:if Region.wanted o (yielded ops a.tmps)=true then o.wp P a w K Q else K (a.put o.dst undef) w):wpOp P ops Q i K a w:=by
  unfold wpOp
  rw [ho]
  simp only
  split
  · rename_i hw;rw [if_pos hw] at h;exact .inl h
  · rename_i hw;rw [if_neg hw] at h;exact h

theorem zJk {P:Program} {N np:Nat} {ops:Array Oper} {G:xD} {Q:Exit→Act→World→Prop} {ess:List (List Eff)} (hN:G.n=N) (hnp:G.foot.length=np) (hlen:ess.length=ops.size)
    (hloc:∀ (j:Nat) (o:Oper) (es:List Eff),ops[j]?=some o→ess[j]?=some es→zJ5 P N np ops o es)
    (hord:∀ (i j:Nat) (es fs:List Eff),i<j→ess[i]?=some es→ess[j]?=some fs→zC5 es fs∨Dep ops i j)
    (hback:∀ (j:Nat) (o:Oper),ops[j]?=some o→∀ e∈jM o,e<j) {st':AS} (hQ:∀ a w,vC G st' a w→Q .normal a w) :
    ∀ (fuel:Nat) (listed:Array Bool) (st:AS) (a:Act) (w:World),listed.size=ops.size→(vS ops.size listed).length=fuel →
      (∀ j o,ops[j]?=some o→listed.getD j true=true→∀ e∈jM o,listed.getD e false=true) →
      zBa ((vS ops.size listed).map fun i=>ess.getD i []) st st'→vC G st a w→wpAny P .any ops Q fuel listed a w:=by
  -- an operation that is ready has behind it all that it hangs on
  have closed:∀ {listed:Array Bool} {j:Nat},listed.size=ops.size→(∀ j o,ops[j]?=some o→listed.getD j true=true→∀ e∈jM o,listed.getD e false=true) →
      (∀ o,ops[j]?=some o→∀ e∈jM o,listed.getD e false=true)→∀ i,Dep ops i j→listed.getD i false=true:=by
    intro listed j hs hcl hj i hd
    induction hd with
    | one ho hi=>exact hj _ ho _ hi
    | more ho hk _ ih =>
      refine ih fun o ho' e he=>?_
      have hkl:=hj _ ho _ hk
      refine hcl _ o ho' ?_ e he
      rename_i k _ _ _
      have:k<listed.size:=by
        rcases Nat.lt_or_ge k listed.size with h' | h'
        · exact h'
        · simp [Array.getD_eq_getD_getElem?,Array.getElem?_eq_none h'] at hkl
      simp only [Array.getD_eq_getD_getElem?,Array.getElem?_eq_getElem this,Option.getD_some] at hkl ⊢
      exact hkl
  have tf:∀ {listed:Array Bool} {j:Nat},listed.getD j false=true→listed.getD j true=true:=by
    intro listed j h
    cases hx:listed[j]? with
    | none=>simp [Array.getD_eq_getD_getElem?,hx] at h
    | some b=>simp [Array.getD_eq_getD_getElem?,hx] at h ⊢;exact h
  have rem_mem:∀ {listed:Array Bool} {j:Nat},j∈vS ops.size listed↔j<ops.size∧listed.getD j true=false:=by
    intro listed j
    simp [vS]
  -- the least that is left is ready
  have least:∀ {listed:Array Bool},listed.size=ops.size→Region.ready .any ops listed=[]→vS ops.size listed=[]:=by
    intro listed hs hr
    cases hR:vS ops.size listed with
    | nil=>rfl
    | cons j r =>
      exfalso
      have hj:j∈vS ops.size listed:=by rw [hR];simp
      obtain ⟨hjn,hjl⟩:=rem_mem.1 hj
      -- all before j are listed
      have hbefore:∀ e,e<j→listed.getD e true=true:=by
        intro e he
        cases hx:listed.getD e true with
        | true=>rfl
        | false =>
          have hem:e∈vS ops.size listed:=rem_mem.2 ⟨by omega,hx⟩
          have hsorted:(vS ops.size listed).Pairwise (·<·):=by
            unfold vS
            exact List.Pairwise.filter _ (List.pairwise_lt_range)
          rw [hR] at hem hsorted
          rw [List.pairwise_cons] at hsorted
          rcases List.mem_cons.1 hem with h | h
          · omega
          · have:=hsorted.1 e h;omega
      have:j∈Region.ready .any ops listed:=by
        simp only [Region.ready,List.mem_filter,List.mem_range,Bool.and_eq_true,Bool.not_eq_true']
        refine ⟨hjn,hjl,?_⟩
        have ho:ops[j]?=some ops[j]:=Array.getElem?_eq_getElem hjn
        rw [ho]
        simp only [Option.map_some,Option.getD_some]
        rw [← Array.all_toList]
        simp only [List.all_eq_true]
        intro e he
        cases hb:Region.binds .any e with
        | false=>simp
        | true =>
          have hd:e.on∈jM ops[j]:=List.mem_map.2 ⟨e,List.mem_filter.2 ⟨he,hb⟩,rfl⟩
          have hlt:=hback j _ ho e.on hd
          have h1:=hbefore e.on hlt
          have hsz:e.on<listed.size:=by omega
          simp only [Array.getD_eq_getD_getElem?,Array.getElem?_eq_getElem hsz,Option.getD_some] at h1 ⊢
          simp [h1]
      rw [hr] at this;cases this
  intro fuel
  induction fuel with
  | zero =>
    intro listed st a w hs hf hcl hch hR
    have hnil:vS ops.size listed=[]:=List.eq_nil_of_length_eq_zero hf
    rw [hnil] at hch
    simp only [List.map_nil,zBa] at hch
    subst hch
    refine ⟨?_,hQ a w hR⟩
    cases hr:Region.ready .any ops listed with
    | nil=>rfl
    | cons j r =>
      exfalso
      have:=zEe (j:=j) (by rw [hr];simp)
      have hm:j∈vS ops.size listed:=rem_mem.2 ⟨this.1,this.2.1⟩
      rw [hnil] at hm;cases hm
  | succ fuel ih =>
    intro listed st a w hs hf hcl hch hR
    refine ⟨fun hr=>?_,fun i hi=>?_⟩
    · have:=least hs hr
      rw [this] at hf;simp at hf
    · obtain ⟨hin,hil,hdi⟩:=zEe hi
      have ho:ops[i]?=some ops[i]:=Array.getElem?_eq_getElem hin
      obtain ⟨A,B,hAB,hA,hAB'⟩:=zFG hin hs hil
      have hei:ess[i]?=some (ess.getD i []):=by
        have:i<ess.length:=by omega
        simp [List.getD,List.getElem?_eq_getElem this]
      rw [hAB,List.map_append,List.map_cons] at hch
      have hdeps:=closed hs hcl (fun o ho' e he=>hdi o ho' e he)
      obtain ⟨k1,k2⟩:=zJr (A.map fun i=>ess.getD i []) (B.map fun i=>ess.getD i []) st st' hch (by
        intro x hx
        simp only [List.mem_map] at hx
        obtain ⟨j,hj,rfl⟩:=hx
        obtain ⟨hjlt,hjl⟩:=hA j hj
        have hej:ess[j]?=some (ess.getD j []):=by
          have:j<ess.length:=by omega
          simp [List.getD,List.getElem?_eq_getElem this]
        rcases hord j i _ _ hjlt hej hei with h | h
        · exact h
        · have:=hdeps j h
          have:=tf this
          rw [hjl] at this;cases this)
      have hL:=hloc i _ _ ho hei G st a w hN hnp k1 hR
      have hnext:∀ a w,vC G (v9 st (ess.getD i [])) a w→wpAny P .any ops Q fuel (listed.setIfInBounds i true) a w:=by
        intro a w hR2
        refine ih (listed.setIfInBounds i true) _ a w (by simpa using hs) ?_ ?_ ?_ hR2
        · rw [hAB'];rw [hAB] at hf;simp at hf ⊢;omega
        · intro j o ho' hjl e he
          have hkeep:∀ e,listed.getD e false=true→(listed.setIfInBounds i true).getD e false=true:=by
            intro e he
            simp only [Array.getD_eq_getD_getElem?,Array.getElem?_setIfInBounds] at he ⊢
            split
            · rename_i h;subst h;rw [if_pos (by omega)];rfl
            · exact he
          by_cases hji:j=i
          · subst hji;exact hkeep e (hdi o ho' e he)
          · refine hkeep e (hcl j o ho' ?_ e he)
            simp only [Array.getD_eq_getD_getElem?,Array.getElem?_setIfInBounds] at hjl
            rw [if_neg (fun e=>hji e.symm)] at hjl
            simpa [Array.getD_eq_getD_getElem?] using hjl
        · rw [hAB',List.map_append];exact k2
      refine zNq ho ?_
      split
      · rename_i hw;rw [if_pos hw] at hL;exact Oper.wp_mono2 hnext hL
      · rename_i hw;rw [if_neg hw] at hL;exact hnext _ _ hL

theorem zJb {ops:List Oper} {ess:List (List Eff)} (h:zEm ops ess=true) :
    (∀ (j:Nat) (o:Oper),ops[j]?=some o→∀ e∈jM o,e<j) ∧
    ∀ (i j:Nat) (es fs:List Eff),i<j→ess[i]?=some es→ess[j]?=some fs→zC5 es fs∨Dep ops.toArray i j:=by
  simp only [zEm,Bool.and_eq_true,List.all_eq_true] at h
  obtain ⟨h1,h2⟩:=h
  refine ⟨fun j o ho e he=>?_,fun i j es fs hij hi hj=>?_⟩
  · have:=h1 (o,j) (by rw [List.mem_zipIdx_iff_getElem?];exact ho) e he
    simp [Nat.blt] at this;omega
  · have:=h2 (fs,j) (by rw [List.mem_zipIdx_iff_getElem?];exact hj) (es,i) (by
      rw [List.mem_zipIdx_iff_getElem?]
      show (ess.take j)[i]?=some es
      rw [List.getElem?_take,if_pos hij];exact hi)
    simp only [Bool.or_eq_true,Bool.not_eq_true'] at this
    rcases this with h | h
    · exact .inl (zMa h)
    · right
      refine zLO (ops:=ops.toArray) (ops.map jM) [] ?_ (fun j hj=>by simp at hj) j i h
      intro k ds hk
      rw [List.getElem?_map] at hk
      cases ho:ops[k]? with
      | none=>rw [ho] at hk;cases hk
      | some o=>rw [ho] at hk;injection hk with hk;exact ⟨o,by simpa using ho,hk⟩
end Go.Ab
