/- A region in whatever order its edges allow. -/
import Derived.Test.YtbifmbdcejggkaaA48
namespace Go.Ab
open Go

def zCp (es:List Eff):List Nat:=es.flatMap fun E=>E.rs.map (·.1)
def qC (es:List Eff):List Nat:=es.flatMap fun E=>(E.dst.map (·.1)).toList++E.fz.map (·.1)
def zCy (es:List Eff):List Nat:=es.flatMap fun E=>E.rb.map (·.1)
def tP (es:List Eff):List Nat:=es.flatMap fun E=>E.wb.map (·.1)

def zBn (a b:List Nat):Bool:=a.any fun x=>b.any (Nat.beq x)

/-- Two operations that may not change places. -/
def zHj (es fs:List Eff):Bool :=
  (zBn (qC es) (zCp fs)||zBn (qC es) (qC fs))||(zBn (zCp es) (qC fs) ||
    ((zBn (tP es) (zCy fs)||zBn (tP es) (tP fs))||zBn (zCy es) (tP fs)))

structure zCI (es fs:List Eff):Prop where
  ws_rs:∀ t∈qC es,t∉zCp fs
  ws_ws:∀ t∈qC es,t∉qC fs
  rs_ws:∀ t∈zCp es,t∉qC fs
  wb_rb:∀ t∈tP es,t∉zCy fs
  wb_wb:∀ t∈tP es,t∉tP fs
  rb_wb:∀ t∈zCy es,t∉tP fs

theorem kL {a b:List Nat} (h:zBn a b=false):∀ t∈a,t∉b:=by
  intro t ht hb
  have:zBn a b=true:=by
    simp only [zBn,List.any_eq_true]
    exact ⟨t,ht,t,hb,zA4 t⟩
  rw [h] at this;cases this

theorem zMi {es fs:List Eff} (h:zHj es fs=false):zCI es fs:=by
  simp only [zHj,Bool.or_eq_false_iff] at h
  obtain ⟨⟨h1,h2⟩,h3,⟨h4,h5⟩,h6⟩:=h
  exact ⟨kL h1,kL h2,kL h3,kL h4,kL h5,kL h6⟩

theorem zI2 {l:List (Nat×AV)} {t:Nat} {d:AV} (h:t∉l.map (·.1)):jI l t d=d:=by
  induction l with
  | nil=>rfl
  | cons x r ih =>
    obtain ⟨k,v⟩:=x
    simp only [List.map_cons,List.mem_cons,not_or] at h
    simp only [jI,xQ h.1,cond_false]
    exact ih h.2

theorem zEa {l:List (Nat×zO)} {t:Nat} {d:zO} (h:t∉l.map (·.1)):xJ l t d=d:=by
  induction l with
  | nil=>rfl
  | cons x r ih =>
    obtain ⟨k,v⟩:=x
    simp only [List.map_cons,List.mem_cons,not_or] at h
    simp only [xJ,xQ h.1,cond_false]
    exact ih h.2

theorem zGN {l:List (Nat×AV)} {t:Nat} (h:t∈l.map (·.1)) (d d':AV):jI l t d=jI l t d':=by
  induction l with
  | nil=>simp at h
  | cons x r ih =>
    obtain ⟨k,v⟩:=x
    simp only [jI]
    cases hb:Nat.beq t k
    · simp only [cond_false]
      simp only [List.map_cons,List.mem_cons] at h
      rcases h with h | h
      · rw [h] at hb;simp at hb
      · exact ih h
    · rfl

theorem zLh {l:List (Nat×zO)} {t:Nat} (h:t∈l.map (·.1)) (d d':zO):xJ l t d=xJ l t d':=by
  induction l with
  | nil=>simp at h
  | cons x r ih =>
    obtain ⟨k,v⟩:=x
    simp only [xJ]
    cases hb:Nat.beq t k
    · simp only [cond_false]
      simp only [List.map_cons,List.mem_cons] at h
      rcases h with h | h
      · rw [h] at hb;simp at hb
      · exact ih h
    · rfl

/-- What a row of summaries does to a slot: nothing, or always the same. -/
theorem qI {es:List Eff} {st:AS} {t:Nat} (h:t∉qC es):(uB st es).slot t=st.slot t:=by
  induction es generalizing st with
  | nil=>rfl
  | cons E r ih =>
    simp only [qC,List.flatMap_cons,List.mem_append,not_or] at h
    simp only [uB]
    rw [ih h.2]
    simp only [AS.upd]
    have h2:=zI2 (d:=st.slot t) h.1.2
    cases hE:E.dst with
    | none=>simp only [zAF];exact h2
    | some x =>
      obtain ⟨d,av⟩:=x
      rw [nU _ _ _ (by have:=h.1.1;rw [hE] at this;simpa using this)]
      exact h2

theorem zJd {es:List Eff} {st st':AS} {t:Nat} (h:t∈qC es):(uB st es).slot t=(uB st' es).slot t:=by
  induction es generalizing st st' with
  | nil=>simp [qC] at h
  | cons E r ih =>
    simp only [uB]
    by_cases hr:t∈qC r
    · exact ih hr
    · rw [qI hr,qI hr]
      simp only [qC,List.flatMap_cons,List.mem_append] at h
      rcases h with (h | h) | h
      · cases hE:E.dst with
        | none=>rw [hE] at h;simp at h
        | some x =>
          obtain ⟨d,av⟩:=x
          rw [hE] at h
          simp at h
          subst h
          simp only [AS.upd,hE,jZ]
      · cases hE:E.dst with
        | none=>simp only [AS.upd,hE,zAF];exact zGN h _ _
        | some x =>
          obtain ⟨d,av⟩:=x
          simp only [AS.upd,hE]
          by_cases hd:t=d
          · subst hd;rw [jZ,jZ]
          · rw [nU _ _ _ hd,nU _ _ _ hd];exact zGN h _ _
      · exact absurd h hr

theorem qJ {es:List Eff} {st:AS} {t:Nat} (h:t∉tP es):(uB st es).box t=st.box t:=by
  induction es generalizing st with
  | nil=>rfl
  | cons E r ih =>
    simp only [tP,List.flatMap_cons,List.mem_append,not_or] at h
    simp only [uB]
    rw [ih h.2]
    exact zEa h.1

theorem zK8 {es:List Eff} {st st':AS} {t:Nat} (h:t∈tP es):(uB st es).box t=(uB st' es).box t:=by
  induction es generalizing st st' with
  | nil=>simp [tP] at h
  | cons E r ih =>
    simp only [uB]
    by_cases hr:t∈tP r
    · exact ih hr
    · rw [qJ hr,qJ hr]
      simp only [tP,List.flatMap_cons,List.mem_append] at h
      rcases h with h | h
      · exact zLh h _ _
      · exact absurd h hr

theorem zKr {es fs:List Eff} (h:zCI es fs) (st:AS):uB (uB st es) fs=uB (uB st fs) es:=by
  have hs:(uB (uB st es) fs).slot=(uB (uB st fs) es).slot:=by
    funext t
    by_cases h1:t∈qC es
    · have h2:=h.ws_ws t h1
      rw [qI h2];exact zJd h1
    · rw [qI h1]
      by_cases h2:t∈qC fs
      · exact zJd h2
      · rw [qI h2,qI h2,qI h1]
  have hb:(uB (uB st es) fs).box=(uB (uB st fs) es).box:=by
    funext t
    by_cases h1:t∈tP es
    · have h2:=h.wb_wb t h1
      rw [qJ h2];exact zK8 h1
    · rw [qJ h1]
      by_cases h2:t∈tP fs
      · exact zK8 h2
      · rw [qJ h2,qJ h2,qJ h1]
  cases hx:uB (uB st es) fs with
  | mk s b =>
    cases hy:uB (uB st fs) es with
    | mk s' b' =>
      rw [hx,hy] at hs hb
      simp only at hs hb
      rw [hs,hb]

/-- Two states that agree on all that is read: the same summaries hold. -/
theorem zEl {es:List Eff} {st st':AS} (hs:∀ t∈zCp es,st'.slot t=st.slot t) (hb:∀ t∈zCy es,st'.box t=st.box t) (h:jQ st es):jQ st' es:=by
  induction es generalizing st st' with
  | nil=>trivial
  | cons E r ih =>
    obtain ⟨⟨h1,h2⟩,h3⟩:=h
    simp only [zCp,zCy,List.flatMap_cons,List.mem_append] at hs hb
    refine ⟨⟨fun x hx=>?_,fun x hx=>?_⟩,ih (fun t ht=>?_) (fun t ht=>?_) h3⟩
    · rw [hs x.1 (.inl (List.mem_map.2 ⟨x,hx,rfl⟩))];exact h1 x hx
    · rw [hb x.1 (.inl (List.mem_map.2 ⟨x,hx,rfl⟩))];exact h2 x hx
    · have e:=hs t (.inr ht)
      have l1:jI E.fz t (st'.slot t)=jI E.fz t (st.slot t):=by rw [e]
      simp only [AS.upd]
      cases hE:E.dst with
      | none=>simp only [zAF];exact l1
      | some x =>
        obtain ⟨d,av⟩:=x
        by_cases hd:t=d
        · subst hd;rw [jZ,jZ]
        · rw [nU _ _ _ hd,nU _ _ _ hd];exact l1
    · have e:=hb t (.inr ht)
      show xJ E.wb t (st'.box t)=xJ E.wb t (st.box t)
      rw [e]

theorem zHr {es fs:List Eff} (h:zCI es fs) {st:AS} (hf:jQ (uB st es) fs):jQ st fs :=
  zEl (fun t ht=>(qI (fun hw=>h.ws_rs t hw ht)).symm) (fun t ht=>(qJ (fun hw=>h.wb_rb t hw ht)).symm) hf

theorem zHs {es fs:List Eff} (h:zCI es fs) {st:AS} (he:jQ st es):jQ (uB st fs) es :=
  zEl (fun t ht=>qI (fun hw=>h.rs_ws t ht hw)) (fun t ht=>qJ (fun hw=>h.rb_wb t ht hw)) he

/-- An operation goes ahead of all those that it does not zHj with. -/
theorem zIZ {es:List Eff}:∀ (A B:List (List Eff)) (st st':AS),zAP (A++es::B) st st'→(∀ x∈A,zCI x es)→jQ st es∧zAP (A++B) (uB st es) st':=by
  intro A
  induction A with
  | nil=>intro B st st' h _;exact h
  | cons x r ih =>
    intro B st st' h hi
    obtain ⟨h1,h2⟩:=h
    obtain ⟨k1,k2⟩:=ih B _ _ h2 (fun y hy=>hi y (by simp [hy]))
    have hix:=hi x (by simp)
    refine ⟨zHr hix k1,zHs hix h1,?_⟩
    rw [← zKr hix]
    exact k2

/-! Which operations stand ahead of which. -/
def q6 (o:Oper):List Nat:=(o.after.toList.filter (Region.binds .any)).map (·.on)

inductive Dep (ops:Array Oper):Nat→Nat→Prop
  | one {i j o}:ops[j]?=some o→i∈q6 o→Dep ops i j
  | more {i k j o}:ops[j]?=some o→k∈q6 o→Dep ops i k→Dep ops i j

def zLn (acc:List Nat) (ds:List Nat):Nat:=ds.foldl (fun m e=>m ||| (2 ^ e ||| acc.getD e 0)) 0

def zEZ:List (List Nat)→List Nat→List Nat
  | [],acc=>acc
  | ds::r,acc=>zEZ r (acc++[zLn acc ds])

theorem zIj (acc:List Nat) (i:Nat):∀ (ds:List Nat) (m:Nat),(ds.foldl (fun m e=>m ||| (2 ^ e ||| acc.getD e 0)) m).testBit i=true→m.testBit i=true∨∃ e∈ds,e=i∨(acc.getD e 0).testBit i=true:=by
  intro ds
  induction ds with
  | nil=>intro m h;exact .inl h
  | cons e r ih =>
    intro m h
    simp only [List.foldl_cons] at h
    rcases ih _ h with h | ⟨e',he',h⟩
    · simp only [Nat.testBit_or,Bool.or_eq_true] at h
      rcases h with h | h | h
      · exact .inl h
      · rw [Nat.testBit_two_pow] at h
        exact .inr ⟨e,by simp,.inl (by simpa using h)⟩
      · exact .inr ⟨e,by simp,.inr h⟩
    · exact .inr ⟨e',by simp [he'],h⟩

theorem zKR {ops:Array Oper}:∀ (l:List (List Nat)) (acc:List Nat),(∀ (k:Nat) (ds:List Nat),l[k]?=some ds→∃ o,ops[acc.length+k]?=some o∧q6 o=ds) →
    (∀ j,j<acc.length→∀ i,(acc.getD j 0).testBit i=true→Dep ops i j)→∀ j i,((zEZ l acc).getD j 0).testBit i=true→Dep ops i j:=by
  intro l
  induction l with
  | nil =>
    intro acc _ h j i hb
    rcases Nat.lt_or_ge j acc.length with hj | hj
    · exact h j hj i hb
    · simp [zEZ,List.getD,List.getElem?_eq_none hj] at hb
  | cons ds r ih =>
    intro acc hl h j i hb
    simp only [zEZ] at hb
    refine ih (acc++[zLn acc ds]) ?_ ?_ j i hb
    · intro k ds' hk
      obtain ⟨o,h1,h2⟩:=hl (k+1) ds' (by simpa using hk)
      exact ⟨o,by rw [← h1];simp only [List.length_append,List.length_singleton];congr 1;omega,h2⟩
    · intro j' hj' i' hb'
      rw [List.length_append,List.length_singleton] at hj'
      rcases Nat.lt_or_ge j' acc.length with hlt | hge
      · rw [List.getD_eq_getElem?_getD,List.getElem?_append_left hlt,← List.getD_eq_getElem?_getD] at hb'
        exact h j' hlt i' hb'
      · have:j'=acc.length:=by omega
        subst this
        rw [List.getD_eq_getElem?_getD,List.getElem?_append_right (Nat.le_refl _)] at hb'
        simp only [Nat.sub_self,List.getElem?_cons_zero,Option.getD_some] at hb'
        obtain ⟨o,h1,h2⟩:=hl 0 ds (by simp)
        simp only [Nat.add_zero] at h1
        rcases zIj acc i' ds 0 hb' with h0 | ⟨e,he,h0⟩
        · simp at h0
        · rcases h0 with rfl | h0
          · exact .one h1 (by rw [h2];exact he)
          · refine .more (k:=e) h1 (by rw [h2];exact he) ?_
            rcases Nat.lt_or_ge e acc.length with hlt | hge'
            · exact h e hlt i' h0
            · simp [List.getD,List.getElem?_eq_none hge'] at h0

/-- Clashing operations are held in order by the edges; edges point backwards. -/
def zDW (ops:List Oper) (ess:List (List Eff)):Bool :=
  let ms:=zEZ (ops.map q6) []
  (ops.zipIdx.all fun (o,j)=>(q6 o).all fun e=>Nat.blt e j) &&
  ess.zipIdx.all fun (fs,j)=>(ess.take j).zipIdx.all fun (es,i)=>!(zHj es fs)||(ms.getD j 0).testBit i

theorem zDQ {ops:Array Oper} {listed:Array Bool} {j:Nat} (h:j∈Region.ready .any ops listed) :
    j<ops.size∧listed.getD j true=false∧∀ o,ops[j]?=some o→∀ e∈q6 o,listed.getD e false=true:=by
  simp only [Region.ready,List.mem_filter,List.mem_range,Bool.and_eq_true,Bool.not_eq_true'] at h
  refine ⟨h.1,h.2.1,fun o ho e he=>?_⟩
  have h3:=h.2.2
  rw [ho] at h3
  simp only [Option.map_some,Option.getD_some] at h3
  rw [← Array.all_toList] at h3
  simp only [List.all_eq_true] at h3
  simp only [q6,List.mem_map,List.mem_filter] at he
  obtain ⟨x,⟨hx,hb⟩,rfl⟩:=he
  have:=h3 x hx
  simpa [hb] using this

def vX (n:Nat) (listed:Array Bool):List Nat:=(List.range n).filter fun i=>!(listed.getD i true)

theorem zE0 {n i:Nat} {listed:Array Bool} (hi:i<n) (hs:listed.size=n) (hl:listed.getD i true=false) :
    ∃ A B,vX n listed=A++i::B∧(∀ x∈A,x<i∧listed.getD x true=false)∧vX n (listed.setIfInBounds i true)=A++B:=by
  have hr:List.range n=List.range i++i::(List.range' (i+1) (n - i - 1)):=by
    rw [List.range_eq_range',List.range_eq_range']
    have:n=i+(1+(n - i - 1)):=by omega
    conv=>lhs;rw [this]
    rw [← List.range'_append,← List.range'_append]
    simp
  refine ⟨(List.range i).filter fun x=>!(listed.getD x true),(List.range' (i+1) (n - i - 1)).filter fun x=>!(listed.getD x true),?_,?_,?_⟩
  · simp only [vX,hr,List.filter_append,List.filter_cons,hl]
    simp
  · intro x hx
    simp only [List.mem_filter,List.mem_range,Bool.not_eq_true'] at hx
    exact hx
  · have hset:∀ x,x≠i→(listed.setIfInBounds i true).getD x true=listed.getD x true:=by
      intro x hx
      simp only [Array.getD_eq_getD_getElem?,Array.getElem?_setIfInBounds]
      rw [if_neg (fun e=>hx e.symm)]
    have hself:(listed.setIfInBounds i true).getD i true=true:=by
      simp [Array.getD_eq_getD_getElem?,hs,hi]
    simp only [vX,hr,List.filter_append,List.filter_cons,hself]
    simp only [Bool.not_true,Bool.false_eq_true,if_false]
    congr 1
    · apply List.filter_congr
      intro x hx
      rw [hset x (by have:=List.mem_range.1 hx;omega)]
    · apply List.filter_congr
      intro x hx
      rw [hset x (by have:=List.mem_range'_1.1 hx;omega)]

theorem zMY {P:Program} {ops:Array Oper} {Q:Exit→Act→World→Prop} {i:Nat} {o:Oper} {K:Act→World→Prop} {a:Act} {w:World} (ho:ops[i]?=some o)
    (h:if Region.wanted o (yielded ops a.tmps)=true then o.wp P a w K Q else K (a.put o.dst undef) w):wpOp P ops Q i K a w:=by
  unfold wpOp
  rw [ho]
  simp only
  split
  · rename_i hw;rw [if_pos hw] at h;exact .inl h
  · rename_i hw;rw [if_neg hw] at h;exact h

theorem zI6 {P:Program} {N np:Nat} {ops:Array Oper} {G:xE} {Q:Exit→Act→World→Prop} {ess:List (List Eff)} (hN:G.n=N) (hnp:G.foot.length=np) (hlen:ess.length=ops.size)
    (hloc:∀ (j:Nat) (o:Oper) (es:List Eff),ops[j]?=some o→ess[j]?=some es→zJK P N np ops o es)
    (hord:∀ (i j:Nat) (es fs:List Eff),i<j→ess[i]?=some es→ess[j]?=some fs→zCI es fs∨Dep ops i j)
    (hback:∀ (j:Nat) (o:Oper),ops[j]?=some o→∀ e∈q6 o,e<j) {st':AS} (hQ:∀ a w,vL G st' a w→Q .normal a w) :
    ∀ (fuel:Nat) (listed:Array Bool) (st:AS) (a:Act) (w:World),listed.size=ops.size→(vX ops.size listed).length=fuel →
      (∀ j o,ops[j]?=some o→listed.getD j true=true→∀ e∈q6 o,listed.getD e false=true) →
      zAP ((vX ops.size listed).map fun i=>ess.getD i []) st st'→vL G st a w→wpAny P .any ops Q fuel listed a w:=by
  -- an operation that is ready has behind it all that it hangs on
  have closed:∀ {listed:Array Bool} {j:Nat},listed.size=ops.size→(∀ j o,ops[j]?=some o→listed.getD j true=true→∀ e∈q6 o,listed.getD e false=true) →
      (∀ o,ops[j]?=some o→∀ e∈q6 o,listed.getD e false=true)→∀ i,Dep ops i j→listed.getD i false=true:=by
    intro listed j hs hcl hj i hd
    induction hd with
    | one ho hi=>exact hj _ ho _ hi
    | more ho hk _ ih =>
      refine ih fun o ho' e he=>?_
      have hkl:=hj _ ho _ hk
      refine hcl _ o ho' ?_ e he
      rename_i k _ _ _
      have:k<listed.size:=by
        rcases Nat.lt_or_ge k listed.size with h' | h'
        · exact h'
        · simp [Array.getD_eq_getD_getElem?,Array.getElem?_eq_none h'] at hkl
      simp only [Array.getD_eq_getD_getElem?,Array.getElem?_eq_getElem this,Option.getD_some] at hkl ⊢
      exact hkl
  have tf:∀ {listed:Array Bool} {j:Nat},listed.getD j false=true→listed.getD j true=true:=by
    intro listed j h
    cases hx:listed[j]? with
    | none=>simp [Array.getD_eq_getD_getElem?,hx] at h
    | some b=>simp [Array.getD_eq_getD_getElem?,hx] at h ⊢;exact h
  have rem_mem:∀ {listed:Array Bool} {j:Nat},j∈vX ops.size listed↔j<ops.size∧listed.getD j true=false:=by
    intro listed j
    simp [vX]
  -- the least that is left is ready
  have least:∀ {listed:Array Bool},listed.size=ops.size→Region.ready .any ops listed=[]→vX ops.size listed=[]:=by
    intro listed hs hr
    cases hR:vX ops.size listed with
    | nil=>rfl
    | cons j r =>
      exfalso
      have hj:j∈vX ops.size listed:=by rw [hR];simp
      obtain ⟨hjn,hjl⟩:=rem_mem.1 hj
      -- all before j are listed
      have hbefore:∀ e,e<j→listed.getD e true=true:=by
        intro e he
        cases hx:listed.getD e true with
        | true=>rfl
        | false =>
          have hem:e∈vX ops.size listed:=rem_mem.2 ⟨by omega,hx⟩
          have hsorted:(vX ops.size listed).Pairwise (·<·):=by
            unfold vX
            exact List.Pairwise.filter _ (List.pairwise_lt_range)
          rw [hR] at hem hsorted
          rw [List.pairwise_cons] at hsorted
          rcases List.mem_cons.1 hem with h | h
          · omega
          · have:=hsorted.1 e h;omega
      have:j∈Region.ready .any ops listed:=by
        simp only [Region.ready,List.mem_filter,List.mem_range,Bool.and_eq_true,Bool.not_eq_true']
        refine ⟨hjn,hjl,?_⟩
        have ho:ops[j]?=some ops[j]:=Array.getElem?_eq_getElem hjn
        rw [ho]
        simp only [Option.map_some,Option.getD_some]
        rw [← Array.all_toList]
        simp only [List.all_eq_true]
        intro e he
        cases hb:Region.binds .any e with
        | false=>simp
        | true =>
          have hd:e.on∈q6 ops[j]:=List.mem_map.2 ⟨e,List.mem_filter.2 ⟨he,hb⟩,rfl⟩
          have hlt:=hback j _ ho e.on hd
          have h1:=hbefore e.on hlt
          have hsz:e.on<listed.size:=by omega
          simp only [Array.getD_eq_getD_getElem?,Array.getElem?_eq_getElem hsz,Option.getD_some] at h1 ⊢
          simp [h1]
      rw [hr] at this;cases this
  intro fuel
  induction fuel with
  | zero =>
    intro listed st a w hs hf hcl hch hR
    have hnil:vX ops.size listed=[]:=List.eq_nil_of_length_eq_zero hf
    rw [hnil] at hch
    simp only [List.map_nil,zAP] at hch
    subst hch
    refine ⟨?_,hQ a w hR⟩
    cases hr:Region.ready .any ops listed with
    | nil=>rfl
    | cons j r =>
      exfalso
      have:=zDQ (j:=j) (by rw [hr];simp)
      have hm:j∈vX ops.size listed:=rem_mem.2 ⟨this.1,this.2.1⟩
      rw [hnil] at hm;cases hm
  | succ fuel ih =>
    intro listed st a w hs hf hcl hch hR
    refine ⟨fun hr=>?_,fun i hi=>?_⟩
    · have:=least hs hr
      rw [this] at hf;simp at hf
    · obtain ⟨hin,hil,hdi⟩:=zDQ hi
      have ho:ops[i]?=some ops[i]:=Array.getElem?_eq_getElem hin
      obtain ⟨A,B,hAB,hA,hAB'⟩:=zE0 hin hs hil
      have hei:ess[i]?=some (ess.getD i []):=by
        have:i<ess.length:=by omega
        simp [List.getD,List.getElem?_eq_getElem this]
      rw [hAB,List.map_append,List.map_cons] at hch
      have hdeps:=closed hs hcl (fun o ho' e he=>hdi o ho' e he)
      obtain ⟨k1,k2⟩:=zIZ (A.map fun i=>ess.getD i []) (B.map fun i=>ess.getD i []) st st' hch (by
        intro x hx
        simp only [List.mem_map] at hx
        obtain ⟨j,hj,rfl⟩:=hx
        obtain ⟨hjlt,hjl⟩:=hA j hj
        have hej:ess[j]?=some (ess.getD j []):=by
          have:j<ess.length:=by omega
          simp [List.getD,List.getElem?_eq_getElem this]
        rcases hord j i _ _ hjlt hej hei with h | h
        · exact h
        · have:=hdeps j h
          have:=tf this
          rw [hjl] at this;cases this)
      have hL:=hloc i _ _ ho hei G st a w hN hnp k1 hR
      have hnext:∀ a w,vL G (uB st (ess.getD i [])) a w→wpAny P .any ops Q fuel (listed.setIfInBounds i true) a w:=by
        intro a w hR2
        refine ih (listed.setIfInBounds i true) _ a w (by simpa using hs) ?_ ?_ ?_ hR2
        · rw [hAB'];rw [hAB] at hf;simp at hf ⊢;omega
        · intro j o ho' hjl e he
          have hkeep:∀ e,listed.getD e false=true→(listed.setIfInBounds i true).getD e false=true:=by
            intro e he
            simp only [Array.getD_eq_getD_getElem?,Array.getElem?_setIfInBounds] at he ⊢
            split
            · rename_i h;subst h;rw [if_pos (by omega)];rfl
            · exact he
          by_cases hji:j=i
          · subst hji;exact hkeep e (hdi o ho' e he)
          · refine hkeep e (hcl j o ho' ?_ e he)
            simp only [Array.getD_eq_getD_getElem?,Array.getElem?_setIfInBounds] at hjl
            rw [if_neg (fun e=>hji e.symm)] at hjl
            simpa [Array.getD_eq_getD_getElem?] using hjl
        · rw [hAB',List.map_append];exact k2
      refine zMY ho ?_
      split
      · rename_i hw;rw [if_pos hw] at hL;exact Oper.wp_mono2 hnext hL
      · rename_i hw;rw [if_neg hw] at hL;exact hnext _ _ hL

theorem zHO {ops:List Oper} {ess:List (List Eff)} (h:zDW ops ess=true) :
    (∀ (j:Nat) (o:Oper),ops[j]?=some o→∀ e∈q6 o,e<j) ∧
    ∀ (i j:Nat) (es fs:List Eff),i<j→ess[i]?=some es→ess[j]?=some fs→zCI es fs∨Dep ops.toArray i j:=by
  simp only [zDW,Bool.and_eq_true,List.all_eq_true] at h
  obtain ⟨h1,h2⟩:=h
  refine ⟨fun j o ho e he=>?_,fun i j es fs hij hi hj=>?_⟩
  · have:=h1 (o,j) (by rw [List.mem_zipIdx_iff_getElem?];exact ho) e he
    simp [Nat.blt] at this;omega
  · have:=h2 (fs,j) (by rw [List.mem_zipIdx_iff_getElem?];exact hj) (es,i) (by
      rw [List.mem_zipIdx_iff_getElem?]
      show (ess.take j)[i]?=some es
      rw [List.getElem?_take,if_pos hij];exact hi)
    simp only [Bool.or_eq_true,Bool.not_eq_true'] at this
    rcases this with h | h
    · exact .inl (zMi h)
    · right
      refine zKR (ops:=ops.toArray) (ops.map q6) [] ?_ (fun j hj=>by simp at hj) j i h
      intro k ds hk
      rw [List.getElem?_map] at hk
      cases ho:ops[k]? with
      | none=>rw [ho] at hk;cases hk
      | some o=>rw [ho] at hk;injection hk with hk;exact ⟨o,by simpa using ho,hk⟩
end Go.Ab
