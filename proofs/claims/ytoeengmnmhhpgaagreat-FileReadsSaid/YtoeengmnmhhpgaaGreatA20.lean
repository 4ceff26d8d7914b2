/- A region in whatever order its edges allow. -/
import Derived.Test.YtoeengmnmhhpgaaGreatA18
namespace Go.Ab
open Go
def BF (es:List Eff):List Nat:=es.flatMap fun E=>E.rs.map (·.1)
def pH (es:List Eff):List Nat:=es.flatMap fun E=>(E.dst.map (·.1)).toList++E.fz.map (·.1)
def CB (es:List Eff):List Nat:=es.flatMap fun E=>E.rb.map (·.1)
def kT (es:List Eff):List Nat:=es.flatMap fun E=>E.wb.map (·.1)
def dU (a b:List Nat):Bool:=a.any fun x=>b.any (Nat.beq x)
def QS (es fs:List Eff):Bool :=
 (dU (pH es) (BF fs)||dU (pH es) (pH fs))||(dU (BF es) (pH fs) ||
  ((dU (kT es) (CB fs)||dU (kT es) (kT fs))||dU (CB es) (kT fs)))
structure oI (es fs:List Eff):Prop where
 ws_rs:∀ t∈pH es,t∉BF fs
 ws_ws:∀ t∈pH es,t∉pH fs
 rs_ws:∀ t∈BF es,t∉pH fs
 wb_rb:∀ t∈kT es,t∉CB fs
 wb_wb:∀ t∈kT es,t∉kT fs
 rb_wb:∀ t∈CB es,t∉kT fs
theorem r8 {a b:List Nat} (h:dU a b=false):∀ t∈a,t∉b:=by
 intro t ht hb
 have:dU a b=true:=by
  simp only [dU,List.any_eq_true]
  exact ⟨t,ht,t,hb,EF t⟩
 rw [h] at this;cases this
theorem zFI {es fs:List Eff} (h:QS es fs=false):oI es fs:=by
 simp only [QS,Bool.or_eq_false_iff] at h
 obtain ⟨⟨h1,h2⟩,h3,⟨h4,h5⟩,h6⟩:=h
 exact ⟨r8 h1,r8 h2,r8 h3,r8 h4,r8 h5,r8 h6⟩
theorem zF6 {l:List (Nat×AV)} {t:Nat} {d:AV} (h:t∉l.map (·.1)):pK l t d=d:=by
 induction l with
 | nil=>rfl
 | cons x r ih =>
  obtain ⟨k,v⟩:=x
  simp only [List.map_cons,List.mem_cons,not_or] at h
  simp only [pK,jV h.1,cond_false]
  exact ih h.2
theorem T5 {l:List (Nat×y0)} {t:Nat} {d:y0} (h:t∉l.map (·.1)):uC l t d=d:=by
 induction l with
 | nil=>rfl
 | cons x r ih =>
  obtain ⟨k,v⟩:=x
  simp only [List.map_cons,List.mem_cons,not_or] at h
  simp only [uC,jV h.1,cond_false]
  exact ih h.2
theorem UG {l:List (Nat×AV)} {t:Nat} (h:t∈l.map (·.1)) (d d':AV):pK l t d=pK l t d':=by
 induction l with
 | nil=>simp at h
 | cons x r ih =>
  obtain ⟨k,v⟩:=x
  simp only [pK]
  cases hb:Nat.beq t k
  ·simp only [cond_false]
   simp only [List.map_cons,List.mem_cons] at h
   rcases h with h | h
   ·rw [h] at hb;simp at hb
   ·exact ih h
  ·rfl
theorem zEB {l:List (Nat×y0)} {t:Nat} (h:t∈l.map (·.1)) (d d':y0):uC l t d=uC l t d':=by
 induction l with
 | nil=>simp at h
 | cons x r ih =>
  obtain ⟨k,v⟩:=x
  simp only [uC]
  cases hb:Nat.beq t k
  ·simp only [cond_false]
   simp only [List.map_cons,List.mem_cons] at h
   rcases h with h | h
   ·rw [h] at hb;simp at hb
   ·exact ih h
  ·rfl
theorem c9 {es:List Eff} {st:AS} {t:Nat} (h:t∉pH es):(uW st es).slot t=st.slot t:=by
 induction es generalizing st with
 | nil=>rfl
 | cons E r ih =>
  simp only [pH,List.flatMap_cons,List.mem_append,not_or] at h
  simp only [uW]
  rw [ih h.2]
  simp only [AS.upd]
  have h2:=zF6 (d:=st.slot t) h.1.2
  cases hE:E.dst with
  | none=>simp only [aW];exact h2
  | some x =>
   obtain ⟨d,av⟩:=x
   rw [mW _ _ _ (by have:=h.1.1;rw [hE] at this;simpa using this)]
   exact h2
theorem VE {es:List Eff} {st st':AS} {t:Nat} (h:t∈pH es):(uW st es).slot t=(uW st' es).slot t:=by
 induction es generalizing st st' with
 | nil=>simp [pH] at h
 | cons E r ih =>
  simp only [uW]
  by_cases hr:t∈pH r
  ·exact ih hr
  ·rw [c9 hr,c9 hr]
   simp only [pH,List.flatMap_cons,List.mem_append] at h
   rcases h with (h | h) | h
   ·cases hE:E.dst with
    | none=>rw [hE] at h;simp at h
    | some x =>
     obtain ⟨d,av⟩:=x
     rw [hE] at h
     simp at h
     subst h
     simp only [AS.upd,hE,lR]
   ·cases hE:E.dst with
    | none=>simp only [AS.upd,hE,aW];exact UG h _ _
    | some x =>
     obtain ⟨d,av⟩:=x
     simp only [AS.upd,hE]
     by_cases hd:t=d
     ·subst hd;rw [lR,lR]
     ·rw [mW _ _ _ hd,mW _ _ _ hd];exact UG h _ _
   ·exact absurd h hr
theorem bS {es:List Eff} {st:AS} {t:Nat} (h:t∉kT es):(uW st es).box t=st.box t:=by
 induction es generalizing st with
 | nil=>rfl
 | cons E r ih =>
  simp only [kT,List.flatMap_cons,List.mem_append,not_or] at h
  simp only [uW]
  rw [ih h.2]
  exact T5 h.1
theorem TP {es:List Eff} {st st':AS} {t:Nat} (h:t∈kT es):(uW st es).box t=(uW st' es).box t:=by
 induction es generalizing st st' with
 | nil=>simp [kT] at h
 | cons E r ih =>
  simp only [uW]
  by_cases hr:t∈kT r
  ·exact ih hr
  ·rw [bS hr,bS hr]
   simp only [kT,List.flatMap_cons,List.mem_append] at h
   rcases h with h | h
   ·exact zEB h _ _
   ·exact absurd h hr
theorem zCc {es fs:List Eff} (h:oI es fs) (st:AS):uW (uW st es) fs=uW (uW st fs) es:=by
 have hs:(uW (uW st es) fs).slot=(uW (uW st fs) es).slot:=by
  funext t
  by_cases h1:t∈pH es
  ·have h2:=h.ws_ws t h1
   rw [c9 h2];exact VE h1
  ·rw [c9 h1]
   by_cases h2:t∈pH fs
   ·exact VE h2
   ·rw [c9 h2,c9 h2,c9 h1]
 have hb:(uW (uW st es) fs).box=(uW (uW st fs) es).box:=by
  funext t
  by_cases h1:t∈kT es
  ·have h2:=h.wb_wb t h1
   rw [bS h2];exact TP h1
  ·rw [bS h1]
   by_cases h2:t∈kT fs
   ·exact TP h2
   ·rw [bS h2,bS h2,bS h1]
 cases hx:uW (uW st es) fs with
 | mk s b =>
  cases hy:uW (uW st fs) es with
  | mk s' b' =>
   rw [hx,hy] at hs hb
   simp only at hs hb
   rw [hs,hb]
theorem SS {es:List Eff} {st st':AS} (hs:∀ t∈BF es,st'.slot t=st.slot t) (hb:∀ t∈CB es,st'.box t=st.box t) (h:n9 st es):n9 st' es:=by
 induction es generalizing st st' with
 | nil=>trivial
 | cons E r ih =>
  obtain ⟨⟨h1,h2⟩,h3⟩:=h
  simp only [BF,CB,List.flatMap_cons,List.mem_append] at hs hb
  refine ⟨⟨fun x hx=>?_,fun x hx=>?_⟩,ih (fun t ht=>?_) (fun t ht=>?_) h3⟩
  ·rw [hs x.1 (.inl (List.mem_map.2 ⟨x,hx,rfl⟩))];exact h1 x hx
  ·rw [hb x.1 (.inl (List.mem_map.2 ⟨x,hx,rfl⟩))];exact h2 x hx
  ·have e:=hs t (.inr ht)
   have l1:pK E.fz t (st'.slot t)=pK E.fz t (st.slot t):=by rw [e]
   simp only [AS.upd]
   cases hE:E.dst with
   | none=>simp only [aW];exact l1
   | some x =>
    obtain ⟨d,av⟩:=x
    by_cases hd:t=d
    ·subst hd;rw [lR,lR]
    ·rw [mW _ _ _ hd,mW _ _ _ hd];exact l1
  ·have e:=hb t (.inr ht)
   show uC E.wb t (st'.box t)=uC E.wb t (st.box t)
   rw [e]
theorem zAb {es fs:List Eff} (h:oI es fs) {st:AS} (hf:n9 (uW st es) fs):n9 st fs :=
 SS (fun t ht=>(c9 (fun hw=>h.ws_rs t hw ht)).symm) (fun t ht=>(bS (fun hw=>h.wb_rb t hw ht)).symm) hf
theorem zEN {es fs:List Eff} (h:oI es fs) {st:AS} (he:n9 st es):n9 (uW st fs) es :=
 SS (fun t ht=>c9 (fun hw=>h.rs_ws t ht hw)) (fun t ht=>bS (fun hw=>h.rb_wb t ht hw)) he
theorem zGw {es:List Eff}:∀ (A B:List (List Eff)) (st st':AS),bM (A++es::B) st st'→(∀ x∈A,oI x es)→n9 st es∧bM (A++B) (uW st es) st':=by
 intro A
 induction A with
 | nil=>intro B st st' h _;exact h
 | cons x r ih =>
  intro B st st' h hi
  obtain ⟨h1,h2⟩:=h
  obtain ⟨k1,k2⟩:=ih B _ _ h2 (fun y hy=>hi y (by simp [hy]))
  have hix:=hi x (by simp)
  refine ⟨zAb hix k1,zEN hix h1,?_⟩
  rw [← zCc hix]
  exact k2
/-! Which operations stand ahead of which. -/
def nF (o:Oper):List Nat:=(o.after.toList.filter (Region.binds .any)).map (·.on)
inductive Dep (ops:Array Oper):Nat→Nat→Prop
 | one {i j o}:ops[j]?=some o→i∈nF o→Dep ops i j
 | more {i k j o}:ops[j]?=some o→k∈nF o→Dep ops i k→Dep ops i j
def VO (acc:List Nat) (ds:List Nat):Nat:=ds.foldl (fun m e=>m ||| (2 ^ e ||| acc.getD e 0)) 0
def HZ:List (List Nat)→List Nat→List Nat
 | [],acc=>acc
 | ds::r,acc=>HZ r (acc++[VO acc ds])
theorem zAB (acc:List Nat) (i:Nat):∀ (ds:List Nat) (m:Nat),(ds.foldl (fun m e=>m ||| (2 ^ e ||| acc.getD e 0)) m).testBit i=true→m.testBit i=true∨∃ e∈ds,e=i∨(acc.getD e 0).testBit i=true:=by
 intro ds
 induction ds with
 | nil=>intro m h;exact .inl h
 | cons e r ih =>
  intro m h
  simp only [List.foldl_cons] at h
  rcases ih _ h with h | ⟨e',he',h⟩
  ·simp only [Nat.testBit_or,Bool.or_eq_true] at h
   rcases h with h | h | h
   ·exact .inl h
   ·rw [Nat.testBit_two_pow] at h
    exact .inr ⟨e,by simp,.inl (by simpa using h)⟩
   ·exact .inr ⟨e,by simp,.inr h⟩
  ·exact .inr ⟨e',by simp [he'],h⟩
theorem zCe {ops:Array Oper}:∀ (l:List (List Nat)) (acc:List Nat),(∀ (k:Nat) (ds:List Nat),l[k]?=some ds→∃ o,ops[acc.length+k]?=some o∧nF o=ds) →
  (∀ j,j<acc.length→∀ i,(acc.getD j 0).testBit i=true→Dep ops i j)→∀ j i,((HZ l acc).getD j 0).testBit i=true→Dep ops i j:=by
 intro l
 induction l with
 | nil =>
  intro acc _ h j i hb
  rcases Nat.lt_or_ge j acc.length with hj | hj
  ·exact h j hj i hb
  ·simp [HZ,List.getD,List.getElem?_eq_none hj] at hb
 | cons ds r ih =>
  intro acc hl h j i hb
  simp only [HZ] at hb
  refine ih (acc++[VO acc ds]) ?_ ?_ j i hb
  ·intro k ds' hk
   obtain ⟨o,h1,h2⟩:=hl (k+1) ds' (by simpa using hk)
   exact ⟨o,by rw [← h1];simp only [List.length_append,List.length_singleton];congr 1;omega,h2⟩
  ·intro j' hj' i' hb'
   rw [List.length_append,List.length_singleton] at hj'
   rcases Nat.lt_or_ge j' acc.length with hlt | hge
   ·rw [List.getD_eq_getElem?_getD,List.getElem?_append_left hlt,← List.getD_eq_getElem?_getD] at hb'
    exact h j' hlt i' hb'
   ·have:j'=acc.length:=by omega
    subst this
    rw [List.getD_eq_getElem?_getD,List.getElem?_append_right (Nat.le_refl _)] at hb'
    simp only [Nat.sub_self,List.getElem?_cons_zero,Option.getD_some] at hb'
    obtain ⟨o,h1,h2⟩:=hl 0 ds (by simp)
    simp only [Nat.add_zero] at h1
    rcases zAB acc i' ds 0 hb' with h0 | ⟨e,he,h0⟩
    ·simp at h0
    ·rcases h0 with rfl | h0
     ·exact .one h1 (by rw [h2];exact he)
     ·refine .more (k:=e) h1 (by rw [h2];exact he) ?_
      rcases Nat.lt_or_ge e acc.length with hlt | hge'
      ·exact h e hlt i' h0
      ·simp [List.getD,List.getElem?_eq_none hge'] at h0
def LL (ops:List Oper) (ess:List (List Eff)):Bool :=
 let ms:=HZ (ops.map nF) []
 (ops.zipIdx.all fun (o,j)=>(nF o).all fun e=>Nat.blt e j) &&
 ess.zipIdx.all fun (fs,j)=>(ess.take j).zipIdx.all fun (es,i)=>!(QS es fs)||(ms.getD j 0).testBit i
theorem VZ {ops:Array Oper} {listed:Array Bool} {j:Nat} (h:j∈Region.ready .any ops listed) :
  j<ops.size∧listed.getD j true=false∧∀ o,ops[j]?=some o→∀ e∈nF o,listed.getD e false=true:=by
 simp only [Region.ready,List.mem_filter,List.mem_range,Bool.and_eq_true,Bool.not_eq_true'] at h
 refine ⟨h.1,h.2.1,fun o ho e he=>?_⟩
 have h3:=h.2.2
 rw [ho] at h3
 simp only [Option.map_some,Option.getD_some] at h3
 rw [← Array.all_toList] at h3
 simp only [List.all_eq_true] at h3
 simp only [nF,List.mem_map,List.mem_filter] at he
 obtain ⟨x,⟨hx,hb⟩,rfl⟩:=he
 have:=h3 x hx
 simpa [hb] using this
def kP (n:Nat) (listed:Array Bool):List Nat:=(List.range n).filter fun i=>!(listed.getD i true)
theorem ZF {n i:Nat} {listed:Array Bool} (hi:i<n) (hs:listed.size=n) (hl:listed.getD i true=false) :
  ∃ A B,kP n listed=A++i::B∧(∀ x∈A,x<i∧listed.getD x true=false)∧kP n (listed.setIfInBounds i true)=A++B:=by
 have hr:List.range n=List.range i++i::(List.range' (i+1) (n - i - 1)):=by
  rw [List.range_eq_range',List.range_eq_range']
  have:n=i+(1+(n - i - 1)):=by omega
  conv=>lhs;rw [this]
  rw [← List.range'_append,← List.range'_append]
  simp
 refine ⟨(List.range i).filter fun x=>!(listed.getD x true),(List.range' (i+1) (n - i - 1)).filter fun x=>!(listed.getD x true),?_,?_,?_⟩
 ·simp only [kP,hr,List.filter_append,List.filter_cons,hl]
  simp
 ·intro x hx
  simp only [List.mem_filter,List.mem_range,Bool.not_eq_true'] at hx
  exact hx
 ·have hset:∀ x,x≠i→(listed.setIfInBounds i true).getD x true=listed.getD x true:=by
   intro x hx
   simp only [Array.getD_eq_getD_getElem?,Array.getElem?_setIfInBounds]
   rw [if_neg (fun e=>hx e.symm)]
  have hself:(listed.setIfInBounds i true).getD i true=true:=by
   simp [Array.getD_eq_getD_getElem?,hs,hi]
  simp only [kP,hr,List.filter_append,List.filter_cons,hself]
  simp only [Bool.not_true,Bool.false_eq_true,if_false]
  congr 1
  ·apply List.filter_congr
   intro x hx
   rw [hset x (by have:=List.mem_range.1 hx;omega)]
  ·apply List.filter_congr
   intro x hx
   rw [hset x (by have:=List.mem_range'_1.1 hx;omega)]
theorem zD5 {P:Program} {ops:Array Oper} {Q:Exit→Act→World→Prop} {i:Nat} {o:Oper} {K:Act→World→Prop} {a:Act} {w:World} (ho:ops[i]?=some o)
  (h:if Region.wanted o (yielded ops a.tmps)=true then o.wp P a w K Q else K (a.put o.dst undef) w):wpOp P ops Q i K a w:=by
 unfold wpOp
 rw [ho]
 simp only
 split
 ·rename_i hw;rw [if_pos hw] at h;exact .inl h
 ·rename_i hw;rw [if_neg hw] at h;exact h
theorem zE6 {P:Program} {N np:Nat} {ops:Array Oper} {G:u9} {Q:Exit→Act→World→Prop} {ess:List (List Eff)} (hN:G.n=N) (hnp:G.foot.length=np) (hlen:ess.length=ops.size)
  (hloc:∀ (j:Nat) (o:Oper) (es:List Eff),ops[j]?=some o→ess[j]?=some es→L9 P N np ops o es)
  (hord:∀ (i j:Nat) (es fs:List Eff),i<j→ess[i]?=some es→ess[j]?=some fs→oI es fs∨Dep ops i j)
  (hback:∀ (j:Nat) (o:Oper),ops[j]?=some o→∀ e∈nF o,e<j) {st':AS} (hQ:∀ a w,Rel G st' a w→Q .normal a w) :
  ∀ (fuel:Nat) (listed:Array Bool) (st:AS) (a:Act) (w:World),listed.size=ops.size→(kP ops.size listed).length=fuel →
   (∀ j o,ops[j]?=some o→listed.getD j true=true→∀ e∈nF o,listed.getD e false=true) →
   bM ((kP ops.size listed).map fun i=>ess.getD i []) st st'→Rel G st a w→wpAny P .any ops Q fuel listed a w:=by
 -- an operation that is ready has behind it all that it hangs on
 have closed:∀ {listed:Array Bool} {j:Nat},listed.size=ops.size→(∀ j o,ops[j]?=some o→listed.getD j true=true→∀ e∈nF o,listed.getD e false=true) →
   (∀ o,ops[j]?=some o→∀ e∈nF o,listed.getD e false=true)→∀ i,Dep ops i j→listed.getD i false=true:=by
  intro listed j hs hcl hj i hd
  induction hd with
  | one ho hi=>exact hj _ ho _ hi
  | more ho hk _ ih =>
   refine ih fun o ho' e he=>?_
   have hkl:=hj _ ho _ hk
   refine hcl _ o ho' ?_ e he
   rename_i k _ _ _
   have:k<listed.size:=by
    rcases Nat.lt_or_ge k listed.size with h' | h'
    ·exact h'
    ·simp [Array.getD_eq_getD_getElem?,Array.getElem?_eq_none h'] at hkl
   simp only [Array.getD_eq_getD_getElem?,Array.getElem?_eq_getElem this,Option.getD_some] at hkl ⊢
   exact hkl
 have tf:∀ {listed:Array Bool} {j:Nat},listed.getD j false=true→listed.getD j true=true:=by
  intro listed j h
  cases hx:listed[j]? with
  | none=>simp [Array.getD_eq_getD_getElem?,hx] at h
  | some b=>simp [Array.getD_eq_getD_getElem?,hx] at h ⊢;exact h
 have rem_mem:∀ {listed:Array Bool} {j:Nat},j∈kP ops.size listed↔j<ops.size∧listed.getD j true=false:=by
  intro listed j
  simp [kP]
 -- the least that is left is ready
 have least:∀ {listed:Array Bool},listed.size=ops.size→Region.ready .any ops listed=[]→kP ops.size listed=[]:=by
  intro listed hs hr
  cases hR:kP ops.size listed with
  | nil=>rfl
  | cons j r =>
   exfalso
   have hj:j∈kP ops.size listed:=by rw [hR];simp
   obtain ⟨hjn,hjl⟩:=rem_mem.1 hj
   -- all before j are listed
   have hbefore:∀ e,e<j→listed.getD e true=true:=by
    intro e he
    cases hx:listed.getD e true with
    | true=>rfl
    | false =>
     have hem:e∈kP ops.size listed:=rem_mem.2 ⟨by omega,hx⟩
     have hsorted:(kP ops.size listed).Pairwise (·<·):=by
      unfold kP
      exact List.Pairwise.filter _ (List.pairwise_lt_range)
     rw [hR] at hem hsorted
     rw [List.pairwise_cons] at hsorted
     rcases List.mem_cons.1 hem with h | h
     ·omega
     ·have:=hsorted.1 e h;omega
   have:j∈Region.ready .any ops listed:=by
    simp only [Region.ready,List.mem_filter,List.mem_range,Bool.and_eq_true,Bool.not_eq_true']
    refine ⟨hjn,hjl,?_⟩
    have ho:ops[j]?=some ops[j]:=Array.getElem?_eq_getElem hjn
    rw [ho]
    simp only [Option.map_some,Option.getD_some]
    rw [← Array.all_toList]
    simp only [List.all_eq_true]
    intro e he
    cases hb:Region.binds .any e with
    | false=>simp
    | true =>
     have hd:e.on∈nF ops[j]:=List.mem_map.2 ⟨e,List.mem_filter.2 ⟨he,hb⟩,rfl⟩
     have hlt:=hback j _ ho e.on hd
     have h1:=hbefore e.on hlt
     have hsz:e.on<listed.size:=by omega
     simp only [Array.getD_eq_getD_getElem?,Array.getElem?_eq_getElem hsz,Option.getD_some] at h1 ⊢
     simp [h1]
   rw [hr] at this;cases this
 intro fuel
 induction fuel with
 | zero =>
  intro listed st a w hs hf hcl hch hR
  have hnil:kP ops.size listed=[]:=List.eq_nil_of_length_eq_zero hf
  rw [hnil] at hch
  simp only [List.map_nil,bM] at hch
  subst hch
  refine ⟨?_,hQ a w hR⟩
  cases hr:Region.ready .any ops listed with
  | nil=>rfl
  | cons j r =>
   exfalso
   have:=VZ (j:=j) (by rw [hr];simp)
   have hm:j∈kP ops.size listed:=rem_mem.2 ⟨this.1,this.2.1⟩
   rw [hnil] at hm;cases hm
 | succ fuel ih =>
  intro listed st a w hs hf hcl hch hR
  refine ⟨fun hr=>?_,fun i hi=>?_⟩
  ·have:=least hs hr
   rw [this] at hf;simp at hf
  ·obtain ⟨hin,hil,hdi⟩:=VZ hi
   have ho:ops[i]?=some ops[i]:=Array.getElem?_eq_getElem hin
   obtain ⟨A,B,hAB,hA,hAB'⟩:=ZF hin hs hil
   have hei:ess[i]?=some (ess.getD i []):=by
    have:i<ess.length:=by omega
    simp [List.getD,List.getElem?_eq_getElem this]
   rw [hAB,List.map_append,List.map_cons] at hch
   have hdeps:=closed hs hcl (fun o ho' e he=>hdi o ho' e he)
   obtain ⟨k1,k2⟩:=zGw (A.map fun i=>ess.getD i []) (B.map fun i=>ess.getD i []) st st' hch (by
    intro x hx
    simp only [List.mem_map] at hx
    obtain ⟨j,hj,rfl⟩:=hx
    obtain ⟨hjlt,hjl⟩:=hA j hj
    have hej:ess[j]?=some (ess.getD j []):=by
     have:j<ess.length:=by omega
     simp [List.getD,List.getElem?_eq_getElem this]
    rcases hord j i _ _ hjlt hej hei with h | h
    ·exact h
    ·have:=hdeps j h
     have:=tf this
     rw [hjl] at this;cases this)
   have hL:=hloc i _ _ ho hei G st a w hN hnp k1 hR
   have hnext:∀ a w,Rel G (uW st (ess.getD i [])) a w→wpAny P .any ops Q fuel (listed.setIfInBounds i true) a w:=by
    intro a w hR2
    refine ih (listed.setIfInBounds i true) _ a w (by simpa using hs) ?_ ?_ ?_ hR2
    ·rw [hAB'];rw [hAB] at hf;simp at hf ⊢;omega
    ·intro j o ho' hjl e he
     have hkeep:∀ e,listed.getD e false=true→(listed.setIfInBounds i true).getD e false=true:=by
      intro e he
      simp only [Array.getD_eq_getD_getElem?,Array.getElem?_setIfInBounds] at he ⊢
      split
      ·rename_i h;subst h;rw [if_pos (by omega)];rfl
      ·exact he
     by_cases hji:j=i
     ·subst hji;exact hkeep e (hdi o ho' e he)
     ·refine hkeep e (hcl j o ho' ?_ e he)
      simp only [Array.getD_eq_getD_getElem?,Array.getElem?_setIfInBounds] at hjl
      rw [if_neg (fun e=>hji e.symm)] at hjl
      simpa [Array.getD_eq_getD_getElem?] using hjl
    ·rw [hAB',List.map_append];exact k2
   refine zD5 ho ?_
   split
   ·rename_i hw;rw [if_pos hw] at hL;exact Oper.wp_mono2 hnext hL
   ·rename_i hw;rw [if_neg hw] at hL;exact hnext _ _ hL
theorem zAF {ops:List Oper} {ess:List (List Eff)} (h:LL ops ess=true) :
  (∀ (j:Nat) (o:Oper),ops[j]?=some o→∀ e∈nF o,e<j) ∧
  ∀ (i j:Nat) (es fs:List Eff),i<j→ess[i]?=some es→ess[j]?=some fs→oI es fs∨Dep ops.toArray i j:=by
 simp only [LL,Bool.and_eq_true,List.all_eq_true] at h
 obtain ⟨h1,h2⟩:=h
 refine ⟨fun j o ho e he=>?_,fun i j es fs hij hi hj=>?_⟩
 ·have:=h1 (o,j) (by rw [List.mem_zipIdx_iff_getElem?];exact ho) e he
  simp [Nat.blt] at this;omega
 ·have:=h2 (fs,j) (by rw [List.mem_zipIdx_iff_getElem?];exact hj) (es,i) (by
   rw [List.mem_zipIdx_iff_getElem?]
   show (ess.take j)[i]?=some es
   rw [List.getElem?_take,if_pos hij];exact hi)
  simp only [Bool.or_eq_true,Bool.not_eq_true'] at this
  rcases this with h | h
  ·exact .inl (zFI h)
  ·right
   refine zCe (ops:=ops.toArray) (ops.map nF) [] ?_ (fun j hj=>by simp at hj) j i h
   intro k ds hk
   rw [List.getElem?_map] at hk
   cases ho:ops[k]? with
   | none=>rw [ho] at hk;cases hk
   | some o=>rw [ho] at hk;injection hk with hk;exact ⟨o,by simpa using ho,hk⟩
end Go.Ab
