/- A layer over the model: abstract values and states, and the rules by which the printed proofs go. No conditions. -/
import Derived.Test.YtoeengmnmhhpgaaA18
/- A region in whatever order its edges allow. -/
namespace Go.Ab
open Go
def oD (es:List Eff):List Nat:=es.flatMap fun E=>E.rs.map (·.1)
def kW (es:List Eff):List Nat:=es.flatMap fun E=>(E.dst.map (·.1)).toList++E.fz.map (·.1)
def mL (es:List Eff):List Nat:=es.flatMap fun E=>E.rb.map (·.1)
def jW (es:List Eff):List Nat:=es.flatMap fun E=>E.wb.map (·.1)
def dD (a b:List Nat):Bool:=a.any fun x=>b.any (Nat.beq x)
def L5 (es fs:List Eff):Bool :=
 (dD (kW es) (oD fs)||dD (kW es) (kW fs))||(dD (oD es) (kW fs) ||
  ((dD (jW es) (mL fs)||dD (jW es) (jW fs))||dD (mL es) (jW fs)))
structure iW (es fs:List Eff):Prop where
 ws_rs:∀ t∈kW es,t∉oD fs
 ws_ws:∀ t∈kW es,t∉kW fs
 rs_ws:∀ t∈oD es,t∉kW fs
 wb_rb:∀ t∈jW es,t∉mL fs
 wb_wb:∀ t∈jW es,t∉jW fs
 rb_wb:∀ t∈mL es,t∉jW fs
theorem AB {a b:List Nat} (h:dD a b=false):∀ t∈a,t∉b:=by
 intro t ht hb
 have:dD a b=true:=by
  simp only [dD,List.any_eq_true]
  exact ⟨t,ht,t,hb,HO t⟩
 rw [h] at this;cases this
theorem zBn {es fs:List Eff} (h:L5 es fs=false):iW es fs:=by
 simp only [L5,Bool.or_eq_false_iff] at h
 obtain ⟨⟨h1,h2⟩,h3,⟨h4,h5⟩,h6⟩:=h
 exact ⟨AB h1,AB h2,AB h3,AB h4,AB h5,AB h6⟩
theorem zBi {l:List (Nat×AV)} {t:Nat} {d:AV} (h:t∉l.map (·.1)):kV l t d=d:=by
 induction l with
 | nil=>rfl
 | cons x r ih =>
  obtain ⟨k,v⟩:=x
  simp only [List.map_cons,List.mem_cons,not_or] at h
  simp only [kV,q8 h.1,cond_false]
  exact ih h.2
theorem TP {l:List (Nat×yA)} {t:Nat} {d:yA} (h:t∉l.map (·.1)):vG l t d=d:=by
 induction l with
 | nil=>rfl
 | cons x r ih =>
  obtain ⟨k,v⟩:=x
  simp only [List.map_cons,List.mem_cons,not_or] at h
  simp only [vG,q8 h.1,cond_false]
  exact ih h.2
theorem SJ {l:List (Nat×AV)} {t:Nat} (h:t∈l.map (·.1)) (d d':AV):kV l t d=kV l t d':=by
 induction l with
 | nil=>simp at h
 | cons x r ih =>
  obtain ⟨k,v⟩:=x
  simp only [kV]
  cases hb:Nat.beq t k
  ·simp only [cond_false]
   simp only [List.map_cons,List.mem_cons] at h
   rcases h with h | h
   ·rw [h] at hb;simp at hb
   ·exact ih h
  ·rfl
theorem YM {l:List (Nat×yA)} {t:Nat} (h:t∈l.map (·.1)) (d d':yA):vG l t d=vG l t d':=by
 induction l with
 | nil=>simp at h
 | cons x r ih =>
  obtain ⟨k,v⟩:=x
  simp only [vG]
  cases hb:Nat.beq t k
  ·simp only [cond_false]
   simp only [List.map_cons,List.mem_cons] at h
   rcases h with h | h
   ·rw [h] at hb;simp at hb
   ·exact ih h
  ·rfl
theorem cT {es:List Eff} {st:AS} {t:Nat} (h:t∉kW es):(vZ st es).slot t=st.slot t:=by
 induction es generalizing st with
 | nil=>rfl
 | cons E r ih =>
  simp only [kW,List.flatMap_cons,List.mem_append,not_or] at h
  simp only [vZ]
  rw [ih h.2]
  simp only [AS.upd]
  have h2:=zBi (d:=st.slot t) h.1.2
  cases hE:E.dst with
  | none=>simp only [bB];exact h2
  | some x =>
   obtain ⟨d,av⟩:=x
   rw [gV _ _ _ (by have:=h.1.1;rw [hE] at this;simpa using this)]
   exact h2
theorem S6 {es:List Eff} {st st':AS} {t:Nat} (h:t∈kW es):(vZ st es).slot t=(vZ st' es).slot t:=by
 induction es generalizing st st' with
 | nil=>simp [kW] at h
 | cons E r ih =>
  simp only [vZ]
  by_cases hr:t∈kW r
  ·exact ih hr
  ·rw [cT hr,cT hr]
   simp only [kW,List.flatMap_cons,List.mem_append] at h
   rcases h with (h | h) | h
   ·cases hE:E.dst with
    | none=>rw [hE] at h;simp at h
    | some x =>
     obtain ⟨d,av⟩:=x
     rw [hE] at h
     simp at h
     subst h
     simp only [AS.upd,hE,i5]
   ·cases hE:E.dst with
    | none=>simp only [AS.upd,hE,bB];exact SJ h _ _
    | some x =>
     obtain ⟨d,av⟩:=x
     simp only [AS.upd,hE]
     by_cases hd:t=d
     ·subst hd;rw [i5,i5]
     ·rw [gV _ _ _ hd,gV _ _ _ hd];exact SJ h _ _
   ·exact absurd h hr
theorem bY {es:List Eff} {st:AS} {t:Nat} (h:t∉jW es):(vZ st es).box t=st.box t:=by
 induction es generalizing st with
 | nil=>rfl
 | cons E r ih =>
  simp only [jW,List.flatMap_cons,List.mem_append,not_or] at h
  simp only [vZ]
  rw [ih h.2]
  exact TP h.1
theorem VG {es:List Eff} {st st':AS} {t:Nat} (h:t∈jW es):(vZ st es).box t=(vZ st' es).box t:=by
 induction es generalizing st st' with
 | nil=>simp [jW] at h
 | cons E r ih =>
  simp only [vZ]
  by_cases hr:t∈jW r
  ·exact ih hr
  ·rw [bY hr,bY hr]
   simp only [jW,List.flatMap_cons,List.mem_append] at h
   rcases h with h | h
   ·exact YM h _ _
   ·exact absurd h hr
theorem zEr {es fs:List Eff} (h:iW es fs) (st:AS):vZ (vZ st es) fs=vZ (vZ st fs) es:=by
 have hs:(vZ (vZ st es) fs).slot=(vZ (vZ st fs) es).slot:=by
  funext t
  by_cases h1:t∈kW es
  ·have h2:=h.ws_ws t h1
   rw [cT h2];exact S6 h1
  ·rw [cT h1]
   by_cases h2:t∈kW fs
   ·exact S6 h2
   ·rw [cT h2,cT h2,cT h1]
 have hb:(vZ (vZ st es) fs).box=(vZ (vZ st fs) es).box:=by
  funext t
  by_cases h1:t∈jW es
  ·have h2:=h.wb_wb t h1
   rw [bY h2];exact VG h1
  ·rw [bY h1]
   by_cases h2:t∈jW fs
   ·exact VG h2
   ·rw [bY h2,bY h2,bY h1]
 cases hx:vZ (vZ st es) fs with
 | mk s b =>
  cases hy:vZ (vZ st fs) es with
  | mk s' b' =>
   rw [hx,hy] at hs hb
   simp only at hs hb
   rw [hs,hb]
theorem UX {es:List Eff} {st st':AS} (hs:∀ t∈oD es,st'.slot t=st.slot t) (hb:∀ t∈mL es,st'.box t=st.box t) (h:nK st es):nK st' es:=by
 induction es generalizing st st' with
 | nil=>trivial
 | cons E r ih =>
  obtain ⟨⟨h1,h2⟩,h3⟩:=h
  simp only [oD,mL,List.flatMap_cons,List.mem_append] at hs hb
  refine ⟨⟨fun x hx=>?_,fun x hx=>?_⟩,ih (fun t ht=>?_) (fun t ht=>?_) h3⟩
  ·rw [hs x.1 (.inl (List.mem_map.2 ⟨x,hx,rfl⟩))];exact h1 x hx
  ·rw [hb x.1 (.inl (List.mem_map.2 ⟨x,hx,rfl⟩))];exact h2 x hx
  ·have e:=hs t (.inr ht)
   have l1:kV E.fz t (st'.slot t)=kV E.fz t (st.slot t):=by rw [e]
   simp only [AS.upd]
   cases hE:E.dst with
   | none=>simp only [bB];exact l1
   | some x =>
    obtain ⟨d,av⟩:=x
    by_cases hd:t=d
    ·subst hd;rw [i5,i5]
    ·rw [gV _ _ _ hd,gV _ _ _ hd];exact l1
  ·have e:=hb t (.inr ht)
   show vG E.wb t (st'.box t)=vG E.wb t (st.box t)
   rw [e]
theorem YN {es fs:List Eff} (h:iW es fs) {st:AS} (hf:nK (vZ st es) fs):nK st fs :=
 UX (fun t ht=>(cT (fun hw=>h.ws_rs t hw ht)).symm) (fun t ht=>(bY (fun hw=>h.wb_rb t hw ht)).symm) hf
theorem zBI {es fs:List Eff} (h:iW es fs) {st:AS} (he:nK st es):nK (vZ st fs) es :=
 UX (fun t ht=>cT (fun hw=>h.rs_ws t ht hw)) (fun t ht=>bY (fun hw=>h.rb_wb t ht hw)) he
theorem zBD {es:List Eff}:∀ (A B:List (List Eff)) (st st':AS),bL (A++es::B) st st'→(∀ x∈A,iW x es)→nK st es∧bL (A++B) (vZ st es) st':=by
 intro A
 induction A with
 | nil=>intro B st st' h _;exact h
 | cons x r ih =>
  intro B st st' h hi
  obtain ⟨h1,h2⟩:=h
  obtain ⟨k1,k2⟩:=ih B _ _ h2 (fun y hy=>hi y (by simp [hy]))
  have hix:=hi x (by simp)
  refine ⟨YN hix k1,zBI hix h1,?_⟩
  rw [← zEr hix]
  exact k2
/-! Which operations stand ahead of which. -/
def p7 (o:Oper):List Nat:=(o.after.toList.filter (Region.binds .any)).map (·.on)
inductive Dep (ops:Array Oper):Nat→Nat→Prop
 | one {i j o}:ops[j]?=some o→i∈p7 o→Dep ops i j
 | more {i k j o}:ops[j]?=some o→k∈p7 o→Dep ops i k→Dep ops i j
def VA (acc:List Nat) (ds:List Nat):Nat:=ds.foldl (fun m e=>m ||| (2 ^ e ||| acc.getD e 0)) 0
def C2:List (List Nat)→List Nat→List Nat
 | [],acc=>acc
 | ds::r,acc=>C2 r (acc++[VA acc ds])
theorem XJ (acc:List Nat) (i:Nat):∀ (ds:List Nat) (m:Nat),(ds.foldl (fun m e=>m ||| (2 ^ e ||| acc.getD e 0)) m).testBit i=true→m.testBit i=true∨∃ e∈ds,e=i∨(acc.getD e 0).testBit i=true:=by
 intro ds
 induction ds with
 | nil=>intro m h;exact .inl h
 | cons e r ih =>
  intro m h
  simp only [List.foldl_cons] at h
  rcases ih _ h with h | ⟨e',he',h⟩
  ·simp only [Nat.testBit_or,Bool.or_eq_true] at h
   rcases h with h | h | h
   ·exact .inl h
   ·rw [Nat.testBit_two_pow] at h
    exact .inr ⟨e,by simp,.inl (by simpa using h)⟩
   ·exact .inr ⟨e,by simp,.inr h⟩
  ·exact .inr ⟨e',by simp [he'],h⟩
theorem zCY {ops:Array Oper}:∀ (l:List (List Nat)) (acc:List Nat),(∀ (k:Nat) (ds:List Nat),l[k]?=some ds→∃ o,ops[acc.length+k]?=some o∧p7 o=ds) →
  (∀ j,j<acc.length→∀ i,(acc.getD j 0).testBit i=true→Dep ops i j)→∀ j i,((C2 l acc).getD j 0).testBit i=true→Dep ops i j:=by
 intro l
 induction l with
 | nil =>
  intro acc _ h j i hb
  rcases zlg j acc.length with hj | hj
  ·exact h j hj i hb
  ·simp [C2,List.getD,List.getElem?_eq_none hj] at hb
 | cons ds r ih =>
  intro acc hl h j i hb
  simp only [C2] at hb
  refine ih (acc++[VA acc ds]) ?_ ?_ j i hb
  ·intro k ds' hk
   obtain ⟨o,h1,h2⟩:=hl (k+1) ds' (by simpa using hk)
   exact ⟨o,by rw [← h1];simp only [zla,zls];congr 1;omega,h2⟩
  ·intro j' hj' i' hb'
   rw [zla,zls] at hj'
   rcases zlg j' acc.length with hlt | hge
   ·rw [List.getD_eq_getElem?_getD,List.getElem?_append_left hlt,← List.getD_eq_getElem?_getD] at hb'
    exact h j' hlt i' hb'
   ·have:j'=acc.length:=by omega
    subst this
    rw [List.getD_eq_getElem?_getD,List.getElem?_append_right (Nat.le_refl _)] at hb'
    simp only [Nat.sub_self,List.getElem?_cons_zero,Option.getD_some] at hb'
    obtain ⟨o,h1,h2⟩:=hl 0 ds (by simp)
    simp only [Nat.add_zero] at h1
    rcases XJ acc i' ds 0 hb' with h0 | ⟨e,he,h0⟩
    ·simp at h0
    ·rcases h0 with rfl | h0
     ·exact .one h1 (by rw [h2];exact he)
     ·refine .more (k:=e) h1 (by rw [h2];exact he) ?_
      rcases zlg e acc.length with hlt | hge'
      ·exact h e hlt i' h0
      ·simp [List.getD,List.getElem?_eq_none hge'] at h0
def GL (ops:List Oper) (ess:List (List Eff)):Bool :=
 let ms:=C2 (ops.map p7) []
 (ops.zipIdx.all fun (o,j)=>(p7 o).all fun e=>Nat.blt e j) &&
 ess.zipIdx.all fun (fs,j)=>(ess.take j).zipIdx.all fun (es,i)=>!(L5 es fs)||(ms.getD j 0).testBit i
theorem TZ {ops:Array Oper} {listed:Array Bool} {j:Nat} (h:j∈Region.ready .any ops listed) :
  j<ops.size∧listed.getD j true=false∧∀ o,ops[j]?=some o→∀ e∈p7 o,listed.getD e false=true:=by
 simp only [Region.ready,List.mem_filter,List.mem_range,zba,Bool.not_eq_true'] at h
 refine ⟨h.1,h.2.1,fun o ho e he=>?_⟩
 have h3:=h.2.2
 rw [ho] at h3
 simp only [Option.map_some,Option.getD_some] at h3
 rw [← Array.all_toList] at h3
 simp only [List.all_eq_true] at h3
 simp only [p7,List.mem_map,List.mem_filter] at he
 obtain ⟨x,⟨hx,hb⟩,rfl⟩:=he
 have:=h3 x hx
 simpa [hb] using this
def j6 (n:Nat) (listed:Array Bool):List Nat:=(List.range n).filter fun i=>!(listed.getD i true)
theorem zEC {n i:Nat} {listed:Array Bool} (hi:i<n) (hs:listed.size=n) (hl:listed.getD i true=false) :
  ∃ A B,j6 n listed=A++i::B∧(∀ x∈A,x<i∧listed.getD x true=false)∧j6 n (listed.setIfInBounds i true)=A++B:=by
 have hr:List.range n=List.range i++i::(List.range' (i+1) (n - i - 1)):=by
  rw [List.range_eq_range',List.range_eq_range']
  have:n=i+(1+(n - i - 1)):=by omega
  conv=>lhs;rw [this]
  rw [← List.range'_append,← List.range'_append]
  simp
 refine ⟨(List.range i).filter fun x=>!(listed.getD x true),(List.range' (i+1) (n - i - 1)).filter fun x=>!(listed.getD x true),?_,?_,?_⟩
 ·simp only [j6,hr,List.filter_append,List.filter_cons,hl]
  simp
 ·intro x hx
  simp only [List.mem_filter,List.mem_range,Bool.not_eq_true'] at hx
  exact hx
 ·have hset:∀ x,x≠i→(listed.setIfInBounds i true).getD x true=listed.getD x true:=by
   intro x hx
   simp only [Array.getD_eq_getD_getElem?,Array.getElem?_setIfInBounds]
   rw [if_neg (fun e=>hx e.symm)]
  have hself:(listed.setIfInBounds i true).getD i true=true:=by
   simp [Array.getD_eq_getD_getElem?,hs,hi]
  simp only [j6,hr,List.filter_append,List.filter_cons,hself]
  simp only [Bool.not_true,Bool.false_eq_true,if_false]
  congr 1
  ·apply List.filter_congr
   intro x hx
   rw [hset x (by have:=List.mem_range.1 hx;omega)]
  ·apply List.filter_congr
   intro x hx
   rw [hset x (by have:=List.mem_range'_1.1 hx;omega)]
theorem zC6 {P:Program} {ops:Array Oper} {Q:Exit→Act→World→Prop} {i:Nat} {o:Oper} {K:Act→World→Prop} {a:Act} {w:World} (ho:ops[i]?=some o)
  (h:if Region.wanted o (yielded ops a.tmps)=true then o.wp P a w K Q else K (a.put o.dst undef) w):wpOp P ops Q i K a w:=by
 unfold wpOp
 rw [ho]
 simp only
 split
 ·rename_i hw;rw [if_pos hw] at h;exact .inl h
 ·rename_i hw;rw [if_neg hw] at h;exact h
theorem zEH {P:Program} {N np:Nat} {ops:Array Oper} {G:uA} {Q:Exit→Act→World→Prop} {ess:List (List Eff)} (hN:G.n=N) (hnp:G.foot.length=np) (hlen:ess.length=ops.size)
  (hloc:∀ (j:Nat) (o:Oper) (es:List Eff),ops[j]?=some o→ess[j]?=some es→H9 P N np ops o es)
  (hord:∀ (i j:Nat) (es fs:List Eff),i<j→ess[i]?=some es→ess[j]?=some fs→iW es fs∨Dep ops i j)
  (hback:∀ (j:Nat) (o:Oper),ops[j]?=some o→∀ e∈p7 o,e<j) {st':AS} (hQ:∀ a w,Rel G st' a w→Q .normal a w) :
  ∀ (fuel:Nat) (listed:Array Bool) (st:AS) (a:Act) (w:World),listed.size=ops.size→(j6 ops.size listed).length=fuel →
   (∀ j o,ops[j]?=some o→listed.getD j true=true→∀ e∈p7 o,listed.getD e false=true) →
   bL ((j6 ops.size listed).map fun i=>ess.getD i []) st st'→Rel G st a w→wpAny P .any ops Q fuel listed a w:=by
 -- an operation that is ready has behind it all that it hangs on
 have closed:∀ {listed:Array Bool} {j:Nat},listed.size=ops.size→(∀ j o,ops[j]?=some o→listed.getD j true=true→∀ e∈p7 o,listed.getD e false=true) →
   (∀ o,ops[j]?=some o→∀ e∈p7 o,listed.getD e false=true)→∀ i,Dep ops i j→listed.getD i false=true:=by
  intro listed j hs hcl hj i hd
  induction hd with
  | one ho hi=>exact hj _ ho _ hi
  | more ho hk _ ih =>
   refine ih fun o ho' e he=>?_
   have hkl:=hj _ ho _ hk
   refine hcl _ o ho' ?_ e he
   rename_i k _ _ _
   have:k<listed.size:=by
    rcases zlg k listed.size with h' | h'
    ·exact h'
    ·simp [Array.getD_eq_getD_getElem?,Array.getElem?_eq_none h'] at hkl
   simp only [Array.getD_eq_getD_getElem?,Array.getElem?_eq_getElem this,Option.getD_some] at hkl ⊢
   exact hkl
 have tf:∀ {listed:Array Bool} {j:Nat},listed.getD j false=true→listed.getD j true=true:=by
  intro listed j h
  cases hx:listed[j]? with
  | none=>simp [Array.getD_eq_getD_getElem?,hx] at h
  | some b=>simp [Array.getD_eq_getD_getElem?,hx] at h ⊢;exact h
 have rem_mem:∀ {listed:Array Bool} {j:Nat},j∈j6 ops.size listed↔j<ops.size∧listed.getD j true=false:=by
  intro listed j
  simp [j6]
 -- the least that is left is ready
 have least:∀ {listed:Array Bool},listed.size=ops.size→Region.ready .any ops listed=[]→j6 ops.size listed=[]:=by
  intro listed hs hr
  cases hR:j6 ops.size listed with
  | nil=>rfl
  | cons j r =>
   exfalso
   have hj:j∈j6 ops.size listed:=by rw [hR];simp
   obtain ⟨hjn,hjl⟩:=rem_mem.1 hj
   -- all before j are listed
   have hbefore:∀ e,e<j→listed.getD e true=true:=by
    intro e he
    cases hx:listed.getD e true with
    | true=>rfl
    | false =>
     have hem:e∈j6 ops.size listed:=rem_mem.2 ⟨by omega,hx⟩
     have hsorted:(j6 ops.size listed).Pairwise (·<·):=by
      unfold j6
      exact List.Pairwise.filter _ (List.pairwise_lt_range)
     rw [hR] at hem hsorted
     rw [List.pairwise_cons] at hsorted
     rcases List.mem_cons.1 hem with h | h
     ·omega
     ·have:=hsorted.1 e h;omega
   have:j∈Region.ready .any ops listed:=by
    simp only [Region.ready,List.mem_filter,List.mem_range,zba,Bool.not_eq_true']
    refine ⟨hjn,hjl,?_⟩
    have ho:ops[j]?=some ops[j]:=Array.getElem?_eq_getElem hjn
    rw [ho]
    simp only [Option.map_some,Option.getD_some]
    rw [← Array.all_toList]
    simp only [List.all_eq_true]
    intro e he
    cases hb:Region.binds .any e with
    | false=>simp
    | true =>
     have hd:e.on∈p7 ops[j]:=List.mem_map.2 ⟨e,List.mem_filter.2 ⟨he,hb⟩,rfl⟩
     have hlt:=hback j _ ho e.on hd
     have h1:=hbefore e.on hlt
     have hsz:e.on<listed.size:=by omega
     simp only [Array.getD_eq_getD_getElem?,Array.getElem?_eq_getElem hsz,Option.getD_some] at h1 ⊢
     simp [h1]
   rw [hr] at this;cases this
 intro fuel
 induction fuel with
 | zero =>
  intro listed st a w hs hf hcl hch hR
  have hnil:j6 ops.size listed=[]:=List.eq_nil_of_length_eq_zero hf
  rw [hnil] at hch
  simp only [List.map_nil,bL] at hch
  subst hch
  refine ⟨?_,hQ a w hR⟩
  cases hr:Region.ready .any ops listed with
  | nil=>rfl
  | cons j r =>
   exfalso
   have:=TZ (j:=j) (by rw [hr];simp)
   have hm:j∈j6 ops.size listed:=rem_mem.2 ⟨this.1,this.2.1⟩
   rw [hnil] at hm;cases hm
 | succ fuel ih =>
  intro listed st a w hs hf hcl hch hR
  refine ⟨fun hr=>?_,fun i hi=>?_⟩
  ·have:=least hs hr
   rw [this] at hf;simp at hf
  ·obtain ⟨hin,hil,hdi⟩:=TZ hi
   have ho:ops[i]?=some ops[i]:=Array.getElem?_eq_getElem hin
   obtain ⟨A,B,hAB,hA,hAB'⟩:=zEC hin hs hil
   have hei:ess[i]?=some (ess.getD i []):=by
    have:i<ess.length:=by omega
    simp [List.getD,List.getElem?_eq_getElem this]
   rw [hAB,List.map_append,List.map_cons] at hch
   have hdeps:=closed hs hcl (fun o ho' e he=>hdi o ho' e he)
   obtain ⟨k1,k2⟩:=zBD (A.map fun i=>ess.getD i []) (B.map fun i=>ess.getD i []) st st' hch (by
    intro x hx
    simp only [List.mem_map] at hx
    obtain ⟨j,hj,rfl⟩:=hx
    obtain ⟨hjlt,hjl⟩:=hA j hj
    have hej:ess[j]?=some (ess.getD j []):=by
     have:j<ess.length:=by omega
     simp [List.getD,List.getElem?_eq_getElem this]
    rcases hord j i _ _ hjlt hej hei with h | h
    ·exact h
    ·have:=hdeps j h
     have:=tf this
     rw [hjl] at this;cases this)
   have hL:=hloc i _ _ ho hei G st a w hN hnp k1 hR
   have hnext:∀ a w,Rel G (vZ st (ess.getD i [])) a w→wpAny P .any ops Q fuel (listed.setIfInBounds i true) a w:=by
    intro a w hR2
    refine ih (listed.setIfInBounds i true) _ a w (by simpa using hs) ?_ ?_ ?_ hR2
    ·rw [hAB'];rw [hAB] at hf;simp at hf ⊢;omega
    ·intro j o ho' hjl e he
     have hkeep:∀ e,listed.getD e false=true→(listed.setIfInBounds i true).getD e false=true:=by
      intro e he
      simp only [Array.getD_eq_getD_getElem?,Array.getElem?_setIfInBounds] at he ⊢
      split
      ·rename_i h;subst h;rw [if_pos (by omega)];rfl
      ·exact he
     by_cases hji:j=i
     ·subst hji;exact hkeep e (hdi o ho' e he)
     ·refine hkeep e (hcl j o ho' ?_ e he)
      simp only [Array.getD_eq_getD_getElem?,Array.getElem?_setIfInBounds] at hjl
      rw [if_neg (fun e=>hji e.symm)] at hjl
      simpa [Array.getD_eq_getD_getElem?] using hjl
    ·rw [hAB',List.map_append];exact k2
   refine zC6 ho ?_
   split
   ·rename_i hw;rw [if_pos hw] at hL;exact Oper.wp_mono2 hnext hL
   ·rename_i hw;rw [if_neg hw] at hL;exact hnext _ _ hL
theorem zC9 {ops:List Oper} {ess:List (List Eff)} (h:GL ops ess=true) :
  (∀ (j:Nat) (o:Oper),ops[j]?=some o→∀ e∈p7 o,e<j) ∧
  ∀ (i j:Nat) (es fs:List Eff),i<j→ess[i]?=some es→ess[j]?=some fs→iW es fs∨Dep ops.toArray i j:=by
 simp only [GL,zba,List.all_eq_true] at h
 obtain ⟨h1,h2⟩:=h
 refine ⟨fun j o ho e he=>?_,fun i j es fs hij hi hj=>?_⟩
 ·have:=h1 (o,j) (by rw [List.mem_zipIdx_iff_getElem?];exact ho) e he
  simp [Nat.blt] at this;omega
 ·have:=h2 (fs,j) (by rw [List.mem_zipIdx_iff_getElem?];exact hj) (es,i) (by
   rw [List.mem_zipIdx_iff_getElem?]
   show (ess.take j)[i]?=some es
   rw [List.getElem?_take,if_pos hij];exact hi)
  simp only [Bool.or_eq_true,Bool.not_eq_true'] at this
  rcases this with h | h
  ·exact .inl (zBn h)
  ·right
   refine zCY (ops:=ops.toArray) (ops.map p7) [] ?_ (fun j hj=>by simp at hj) j i h
   intro k ds hk
   rw [List.getElem?_map] at hk
   cases ho:ops[k]? with
   | none=>rw [ho] at hk;cases hk
   | some o=>rw [ho] at hk;injection hk with hk;exact ⟨o,by simpa using ho,hk⟩
end Go.Ab

/- The rules for code. -/
namespace Go.Ab
open Go
def AW (P:Program) (N np:Nat) (c:Code) (K:Exit→AS→Prop) (st:AS):Prop :=
 ∀ G a w,G.n=N→G.foot.length=np→Rel G st a w→c.wp P (fun e a' w'=>∃ st',K e st'∧Rel G st' a' w') a w
section
variable {P:Program} {N np:Nat} {K:Exit→AS→Prop} {st:AS} {c:Code}
def fP (P:Program) (N np:Nat) (y:Code) (K:Exit→AS→Prop):Exit→AS→Prop
 | .normal,st=>AW P N np y K st
 | e,st=>K e st
def RW (id:Nat) (K:Exit→AS→Prop):Exit→AS→Prop
 | .exit id',st=>bif Nat.beq id' id then K .normal st else K (.exit id') st
 | e,st=>K e st
def Code.l:Code→Code | .seq a _=>a | c=>c
def Code.r:Code→Code | .seq _ b=>b | c=>c
def Code.b:Code→Code | .block _ b=>b | .loop b=>b | c=>c
def Code.t:Code→Code | .cond _ t _=>t | c=>c
def Code.e:Code→Code | .cond _ _ e=>e | c=>c
theorem lW (hc:c=.seq (Code.l c) (Code.r c)) (h:AW P N np (Code.l c) (fP P N np (Code.r c) K) st):AW P N np c K st:=by
 intro G a w hN hnp hR
 rw [hc]
 refine wp_seq (Code.wp_mono ?_ (h G a w hN hnp hR))
 rintro e a' w' ⟨st',hk,hR'⟩
 cases e with
 | normal=>exact hk G a' w' hN hnp hR'
 | _=>exact ⟨st',hk,hR'⟩
theorem YI (hc:c=.skip) (h:K .normal st):AW P N np c K st:=by
 intro G a w _ _ hR;rw [hc];exact wp_skip ⟨st,h,hR⟩
theorem zEe (hc:c=.ret) (h:K .ret st):AW P N np c K st:=by
 intro G a w _ _ hR;rw [hc];exact wp_ret ⟨st,h,hR⟩
theorem wQ {id:Nat} (hc:c=.exit id) (h:K (.exit id) st):AW P N np c K st:=by
 intro G a w _ _ hR;rw [hc];exact wp_exit ⟨st,h,hR⟩
theorem y7 {id:Nat} (hc:c=.block id (Code.b c)) (h:AW P N np (Code.b c) (RW id K) st):AW P N np c K st:=by
 intro G a w hN hnp hR
 rw [hc]
 refine wp_block (Code.wp_mono ?_ (h G a w hN hnp hR))
 rintro e a' w' ⟨st',hk,hR'⟩
 cases e with
 | exit id' =>
  simp only [RW] at hk
  simp only [Exit.inBlock]
  split
  ·rename_i h;rw [h,HO] at hk;exact ⟨st',hk,hR'⟩
  ·rename_i h;rw [q8 h] at hk;exact ⟨st',hk,hR'⟩
 | _=>exact ⟨st',hk,hR'⟩
theorem JY {t:Nat} {b:Bool} (hc:c=.cond (.tmp t) (Code.t c) (Code.e c)) (hs:st.slot t=.bool b) (h1:b=true→AW P N np (Code.t c) K st) (h2:b=false→AW P N np (Code.e c) K st) :
  AW P N np c K st:=by
 intro G a w hN hnp hR
 have hR0:=hR
 obtain ⟨T,hT⟩:=hR
 have hr:=hT.slots t
 rw [hs] at hr
 have he:a.eval (.tmp t)=.bool b:=by
  show a.tmps.getD t undef=.bool b
  generalize a.tmps.getD t undef=v at hr
  cases hr;rfl
 rw [hc]
 refine wp_cond_split he (fun hb=>h1 hb G a w hN hnp hR0) (fun hb=>h2 hb G a w hN hnp hR0)
theorem CP {t:Nat} {l:List AV} (hc:c=.cond (.tmp t) (Code.t c) (Code.e c)) (hs:st.slot t=.nb l) (h1:l=[]→AW P N np (Code.t c) K st) (h2:AW P N np (Code.e c) K st) :
  AW P N np c K st:=by
 intro G a w hN hnp hR
 have hR0:=hR
 obtain ⟨T,hT⟩:=hR
 have hr:=hT.slots t
 rw [hs] at hr
 obtain ⟨b,he,hb⟩:∃ b,a.eval (.tmp t)=.bool b∧(b=true→l=[]):=by
  show ∃ b,a.tmps.getD t undef=.bool b∧_
  generalize a.tmps.getD t undef=v at hr
  cases hr with
  | nb h=>exact ⟨_,rfl,h⟩
 rw [hc]
 exact wp_cond_split he (fun h=>h1 (hb h) G a w hN hnp hR0) (fun _=>h2 G a w hN hnp hR0)
theorem YZ (I:Nat→AS→Prop) (n:Nat) (hc:c=.loop (Code.b c)) (h0:I n st)
  (h:∀ n st,I n st→AW P N np (Code.b c) (fun e st'=>match e with | .normal=>∃ m,m<n∧I m st' | e=>K e st') st):AW P N np c K st:=by
 intro G a w hN hnp hR
 rw [hc]
 generalize hb:Code.b c=body at h
 intro b k cs
 have key:∀ n a w,(∃ st,I n st∧Rel G st a w) →
   ∃ e a' w',(∃ st',K e st'∧Rel G st' a' w')∧Arrives P (lone (b.at a (.code body::.inLoop body::k)) cs w) b k cs e a' w':=by
  intro n
  induction n using Nat.strongRecOn with
  | _ n ih =>
   rintro a w ⟨st,hI,hR⟩
   obtain ⟨e,a₁,w₁,⟨st',hq,hR'⟩,harr⟩:=h n st hI G a w hN hnp hR b (.inLoop body::k) cs
   cases e with
   | normal =>
    obtain ⟨m,hlt,hI'⟩:=hq
    obtain ⟨e₂,a₂,w₂,hq₂,harr₂⟩:=ih m hlt a₁ w₁ ⟨st',hI',hR'⟩
    exact ⟨e₂,a₂,w₂,hq₂,.of_steps (Steps.trans harr (.one step_inLoop)) harr₂⟩
   | exit id=>exact ⟨_,a₁,w₁,⟨st',hq,hR'⟩,.pass (x:=.inLoop body) rfl (fun _ _=>.inl (by simp)) harr⟩
   | goto l=>exact ⟨_,a₁,w₁,⟨st',hq,hR'⟩,.pass (x:=.inLoop body) rfl (fun _ _=>.inl (by simp)) harr⟩
   | ret=>exact ⟨_,a₁,w₁,⟨st',hq,hR'⟩,.pass (x:=.inLoop body) rfl (fun _ _=>.inl (by simp)) harr⟩
   | panic ch=>exact ⟨_,a₁,w₁,⟨st',hq,hR'⟩,.pass (x:=.inLoop body) rfl (fun _ _=>.inl (by simp)) harr⟩
   | outgrown=>exact ⟨_,a₁,w₁,⟨st',hq,hR'⟩,.pass (x:=.inLoop body) rfl (fun _ _=>.inl (by simp)) harr⟩
 obtain ⟨e,a',w',hq,harr⟩:=key n a w ⟨st,h0,hR⟩
 exact ⟨e,a',w',hq,.of_steps (.one step_loop) harr⟩
theorem zCB {K':Exit→AS→Prop} (h:AW P N np c K st) (hk:∀ e st,K e st→K' e st):AW P N np c K' st:=by
 intro G a w hN hnp hR
 refine Code.wp_mono ?_ (h G a w hN hnp hR)
 rintro e a' w' ⟨st',h1,h2⟩
 exact ⟨st',hk _ _ h1,h2⟩
end
/-! Regions. -/
def mk (sl:List (Nat×AV)) (bx:List (Nat×yA)) (n:Nat):AS :=
 ⟨kC sl,fun i=>vG bx i (bif Nat.blt i n then .dead else .unused)⟩
def tG:List Prop→Prop
 | []=>True
 | p::r=>p∧tG r
theorem HL {l:List Prop} (h:tG l):∀ p∈l,p:=by
 induction l with
 | nil=>intro p hp;cases hp
 | cons a r ih =>
  intro p hp
  cases hp with
  | head=>exact h.1
  | tail _ hp=>exact ih h.2 p hp
def kX (P:Program) (N np:Nat) (c:Code) (hs:List (Nat×xN)) (sl:List (Nat×AV)) (bx:List (Nat×yA)) (n:Nat) (live bl:List Nat) (n':Nat):Option (List Prop×List AV×List yA) :=
 match c with
 | .region _ ops draw =>
  match AG P N np ops hs ops.toList 0 (mk sl bx n) with
  | some (vcs,st',ess) =>
   bif ((!draw||GL ops.toList ess)&&(Nat.ble n n'&&(bl.all fun i=>Nat.blt i n')))&&((bx.all fun x=>Nat.blt x.1 n)&&ess.all fun es=>(jW es).all fun i=>Nat.blt i n') then
    some (vcs,live.map st'.slot,bl.map st'.box)
   else none
  | none=>none
 | _=>none
theorem zDn {live:List Nat} {f:Nat→AV} {t:Nat}:kC (live.zip (live.map f)) t=f t∨kC (live.zip (live.map f)) t=.junk:=by
 induction live with
 | nil=>exact .inr rfl
 | cons a r ih =>
  simp only [List.map_cons,List.zip_cons_cons,kC]
  cases h:Nat.beq t a
  ·exact ih
  ·rw [x5.1 h];exact .inl rfl
theorem XX {bl:List Nat} {f:Nat→yA} {i:Nat} {d:yA}:(i∈bl∧vG (bl.zip (bl.map f)) i d=f i)∨(i∉bl∧vG (bl.zip (bl.map f)) i d=d):=by
 induction bl with
 | nil=>exact .inr ⟨by simp,rfl⟩
 | cons a r ih =>
  simp only [List.map_cons,List.zip_cons_cons,vG]
  cases h:Nat.beq i a
  ·simp only [cond_false]
   have hne:i≠a:=fun e=>by subst e;simp at h
   rcases ih with ⟨h1,h2⟩ | ⟨h1,h2⟩
   ·exact .inl ⟨by simp [h1],h2⟩
   ·exact .inr ⟨by simp [h1,hne],h2⟩
  ·have:=x5.1 h
   subst this
   exact .inl ⟨by simp,rfl⟩
theorem Rel.weak {G:uA} {st st2:AS} {a:Act} {w:World} (h:Rel G st a w) (hs:∀ t,st2.slot t=st.slot t∨st2.slot t=.junk)
  (hb:∀ i,st2.box i=st.box i∨st2.box i=.dead):Rel G st2 a w:=by
 obtain ⟨T,hT⟩:=h
 have hlive:∀ i bx,st2.box i=.live bx→st.box i=.live bx:=by
  intro i bx hl
  rcases hb i with h | h
  ·rw [← h];exact hl
  ·rw [h] at hl;cases hl
 have himm:∀ b,imm G st T b→imm G st2 T b:=fun b hb=>⟨hb.1,fun id bx cap hl hTi=>hb.2 id bx cap (hlive id bx hl) hTi⟩
 refine ⟨T,hT.defers,hT.size,?_,?_,?_,?_,?_,hT.foot,hT.kept⟩
 ·intro t
  rcases hs t with h | h
  ·rw [h];exact (hT.slots t).mono (Nat.le_refl _) (fun _ _ _=>rfl) (fun b hb _=>himm b hb) (fun _ _ h=>h)
  ·rw [h];exact .junk
 ·intro i bx hl
  exact (hT.boxes i bx (hlive i bx hl)).mono (Nat.le_refl _) (fun _ _ _=>rfl) (fun b hb _=>himm b hb) (fun _ _ h=>h) (fun _ _ _ _=>rfl)
 ·intro i hu
  rcases hb i with h | h
  ·exact hT.unused i (by rw [← h];exact hu)
  ·rw [h] at hu;cases hu
 ·intro i1 i2 b1 b2 b c1 c2 h1 h2
  exact hT.apart i1 i2 b1 b2 b c1 c2 (hlive _ _ h1) (hlive _ _ h2)
 ·intro i bx b cap hl
  exact hT.mine i bx b cap (hlive _ _ hl)
theorem X0:∀ (ess:List (List Eff)) (st st':AS) (n':Nat),bL ess st st'→(ess.all fun es=>(jW es).all fun i=>Nat.blt i n')=true→∀ i,n'≤i→st'.box i=st.box i:=by
 intro ess
 induction ess with
 | nil=>intro st st' n' h _ i _;simp only [bL] at h;rw [h]
 | cons es r ih =>
  intro st st' n' h ha i hi
  simp only [List.all_cons,zba] at ha
  rw [ih _ _ _ h.2 ha.2 i hi]
  refine bY fun hm=>?_
  have:=List.all_eq_true.1 ha.1 i hm
  simp [Nat.blt] at this;omega
theorem LV {P:Program} {N np:Nat} {K:Exit→AS→Prop} {c:Code} {sl:List (Nat×AV)} {bx:List (Nat×yA)} {n:Nat} (hs:List (Nat×xN)) (live bl:List Nat) (n':Nat) {vcs:List Prop} {vals:List AV} {bxs:List yA}
  (h:kX P N np c hs sl bx n live bl n'=some (vcs,vals,bxs)) (hm:P.follows .mixedOrders=true) (hv:tG vcs) (hk:K .normal (mk (live.zip vals) (bl.zip bxs) n')):AW P N np c K (mk sl bx n):=by
 intro G a w hN hnp hR
 unfold kX at h
 split at h
 case h_2=>cases h
 rename_i id ops draw
 split at h
 case h_2=>cases h
 rename_i vcs' st' ess hareg
 replace h:=xJ h;obtain ⟨hc,h⟩:=h
 simp only [zba,Bool.or_eq_true,Bool.not_eq_true'] at hc
 obtain ⟨⟨hord,hnn,hbl⟩,hbx,hwb⟩:=hc
 simp only [Option.some.injEq,Prod.mk.injEq] at h
 obtain ⟨rfl,rfl,rfl⟩:=h
 obtain ⟨k1,k2,k3⟩:=zCI _ _ _ _ hareg (HL hv)
 simp only at k1 k2 k3
 have hfin:∀ a w,Rel G st' a w→∃ st'',K .normal st''∧Rel G st'' a w:=by
  intro a w hR'
  refine ⟨_,hk,hR'.weak (fun t=>zDn) (fun i=>?_)⟩
  have e0:(mk (live.zip (live.map st'.slot)) (bl.zip (bl.map st'.box)) n').box i=vG (bl.zip (bl.map st'.box)) i (bif Nat.blt i n' then .dead else .unused):=rfl
  rw [e0]
  rcases XX (bl:=bl) (f:=st'.box) (i:=i) (d:=bif Nat.blt i n' then .dead else .unused) with ⟨_,h⟩ | ⟨_,h⟩
  ·exact .inl h
  ·rw [h]
   cases hlt:Nat.blt i n'
   ·left
    have hge:n'≤i:=by
     rcases zlg i n' with h' | h'
     ·have:Nat.blt i n'=true:=by simp [Nat.blt];omega
      rw [this] at hlt;cases hlt
     ·exact h'
    have hle:=AN hnn
    rw [X0 ess _ _ n' k1 hwb i hge]
    simp only [mk]
    rw [TP]
    ·have:Nat.blt i n=false:=by
      cases h0:Nat.blt i n
      ·rfl
      ·simp [Nat.blt] at h0;omega
     rw [this]
    ·intro hm'
     simp only [List.mem_map] at hm'
     obtain ⟨x,hx,rfl⟩:=hm'
     have:=List.all_eq_true.1 hbx x hx
     simp [Nat.blt] at this;omega
   ·exact .inr rfl
 cases draw with
 | false =>
  exact wp_region_list (zDx hN hnp ops.toList ess _ st' a w k1 k2 k3 hR hfin)
 | true =>
  have hord':GL ops.toList ess=true:=by
   rcases hord with h | h
   ·cases h
   ·exact h
  obtain ⟨o1,o2⟩:=zC9 hord'
  have hdrew:Rel G (mk sl bx n) a { w with drawn:=w.drawn+1 }:=by
   obtain ⟨T,hT⟩:=hR
   refine ⟨T,hT.defers,hT.size,fun t=>(hT.slots t).mono (Nat.le_refl _) (fun _ _ _=>rfl) (fun _ h _=>h) (fun _ _ h=>h),
    fun i bx hl=>(hT.boxes i bx hl).mono (Nat.le_refl _) (fun _ _ _=>rfl) (fun _ h _=>h) (fun _ _ h=>h) (fun _ _ _ _=>rfl),hT.unused,hT.apart,hT.mine,hT.foot,
    ⟨hT.kept.os,hT.kept.tape,hT.kept.output,hT.kept.size,hT.kept.block⟩⟩
  refine wp_region_any hm ?_
  have hrem:j6 ops.size (Array.replicate ops.size false)=List.range ops.size:=by
   unfold j6
   apply List.filter_eq_self.2
   intro i hi
   have:=List.mem_range.1 hi
   simp [Array.getD_eq_getD_getElem?,this]
  have hess:(List.range ops.size).map (fun i=>ess.getD i [])=ess:=by
   apply List.ext_getElem?
   intro i
   rw [List.getElem?_map]
   rcases zlg i ops.size with hlt | hge
   ·have:i<ess.length:=by rw [k2];simpa using hlt
    simp [hlt,List.getD,List.getElem?_eq_getElem this]
   ·rw [List.getElem?_eq_none (by simpa using hge),List.getElem?_eq_none (by rw [k2];simpa using hge)]
    rfl
  refine zEH hN hnp (by rw [k2];simp) ?_ ?_ ?_ hfin ops.size _ (mk sl bx n) a _ (by simp) (by rw [hrem];simp) ?_ (by rw [hrem,hess];exact k1) hdrew
  ·intro j o es hj hj'
   exact k3 j o es (by rw [Array.getElem?_toList];exact hj) hj'
  ·intro i j es fs hij hi hj
   exact o2 i j es fs hij hi hj
  ·intro j o ho
   exact o1 j o (by rw [Array.getElem?_toList];exact ho)
  ·intro j o ho hl
   have hlt:j<ops.size:=by
    rcases zlg j ops.size with h' | h'
    ·exact h'
    ·rw [Array.getElem?_eq_none h'] at ho;cases ho
   simp [Array.getD_eq_getD_getElem?,hlt] at hl
end Go.Ab

/- A state seen otherwise: less known, other names, rows given away. -/
namespace Go.Ab
open Go
def Sub (np:Nat) (st st2:AS):Prop:=∀ G a w,G.foot.length=np→Rel G st a w→Rel G st2 a w
theorem t7 {P:Program} {N np:Nat} {c:Code} {K:Exit→AS→Prop} {st st2:AS} (hs:Sub np st st2) (h:AW P N np c K st2):AW P N np c K st :=
 fun G a w hN hnp hR=>h G a w hN hnp (hs G a w hnp hR)
def lo1 (x y:AV):List Prop :=
 match x,y with
 | .nilsl,.sl _ _ l=>[l=[]]
 | .sl f s l,.sl f' s' l'=>[s=s',l=l',(!f'||f)=true]
 | .fm n l,.fm n' l'=>[n=n',l=l']
 | _,.junk=>[]
 | x,y=>[x=y]
def los:List AV→List AV→List Prop
 | [],[]=>[]
 | x::r,y::s=>lo1 x y++los r s
 | _,_=>[False]
def loA (x y:AV):List Prop :=
 match x,y with
 | .agg cs,.agg ds=>los cs ds
 | x,y=>lo1 x y
def bX:List AV→List AV→List Prop
 | [],[]=>[]
 | x::r,y::s=>loA x y++bX r s
 | _,_=>[False]
def loT (x y:AV):List Prop :=
 match x,y with
 | .tuple cs,.tuple ds=>bX cs ds
 | x,y=>loA x y
theorem GD {w:World} {I:Nat→Prop} {T:Tbl} {v:Value} {x y:AV} (h:Rep w I T v x) (hl:∀ p∈lo1 x y,p):Rep w I T v y:=by
 unfold lo1 at hl
 split at hl
 ·rename_i f s l
  have:l=[]:=hl _ (by simp)
  subst this
  cases h
  exact .sl0 (by simp [maxLen]) (fun _=>rfl)
 ·rename_i f s l f' s' l'
  have e1:s=s':=hl _ (by simp)
  have e2:l=l':=hl _ (by simp)
  have e3:(!f'||f)=true:=hl _ (by simp)
  subst e1;subst e2
  have imp:f'=true→f=true:=by
   intro hf;rw [hf] at e3;simpa using e3
  cases h with
  | sl0 a b=>exact .sl0 a (fun hf=>b (imp hf))
  | sl g h1 h2 h3 h4 h5 h6 h7 h8 h9 h10=>exact .sl g h1 h2 h3 (fun hf=>h4 (imp hf)) h5 h6 h7 h8 h9 h10
 ·rename_i n l n' l'
  have e1:n=n':=hl _ (by simp)
  have e2:l=l':=hl _ (by simp)
  rw [← e1,← e2];exact h
 ·exact .junk
 ·have:=hl (x=y) (by simp)
  rw [← this];exact h
theorem RF {xs ys:List AV} (h:∀ p∈los xs ys,p):xs.length=ys.length∧∀ (j:Nat) (x y:AV),xs[j]?=some x→ys[j]?=some y→∀ p∈lo1 x y,p:=by
 induction xs generalizing ys with
 | nil =>
  cases ys with
  | nil=>exact ⟨rfl,fun j x y hj=>by simp at hj⟩
  | cons b s=>exact (h False (by simp [los])).elim
 | cons a r ih =>
  cases ys with
  | nil=>exact (h False (by simp [los])).elim
  | cons b s =>
   simp only [los,List.mem_append] at h
   obtain ⟨k1,k2⟩:=ih (ys:=s) (fun p hp=>h p (.inr hp))
   refine ⟨by simp [k1],fun j x y hx hy p hp=>?_⟩
   cases j with
   | zero=>simp at hx hy;subst hx;subst hy;exact h p (.inl hp)
   | succ j=>exact k2 j x y (by simpa using hx) (by simpa using hy) p hp
theorem VK {xs ys:List AV} (h:∀ p∈bX xs ys,p):xs.length=ys.length∧∀ (j:Nat) (x y:AV),xs[j]?=some x→ys[j]?=some y→∀ p∈loA x y,p:=by
 induction xs generalizing ys with
 | nil =>
  cases ys with
  | nil=>exact ⟨rfl,fun j x y hj=>by simp at hj⟩
  | cons b s=>exact (h False (by simp [bX])).elim
 | cons a r ih =>
  cases ys with
  | nil=>exact (h False (by simp [bX])).elim
  | cons b s =>
   simp only [bX,List.mem_append] at h
   obtain ⟨k1,k2⟩:=ih (ys:=s) (fun p hp=>h p (.inr hp))
   refine ⟨by simp [k1],fun j x y hx hy p hp=>?_⟩
   cases j with
   | zero=>simp at hx hy;subst hx;subst hy;exact h p (.inl hp)
   | succ j=>exact k2 j x y (by simpa using hx) (by simpa using hy) p hp
def cS:AV→Bool
 | .agg ds=>kB ds
 | _=>true
def d8:AV→Bool
 | .tuple vs=>vs.all cS
 | v=>cS v
theorem MC {w:World} {I:Nat→Prop} {T:Tbl} {v:Value} {x y:AV} (h:Rep w I T v x) (hl:∀ p∈loA x y,p) (h1:cS y=true):Rep w I T v y:=by
 unfold loA at hl
 split at hl
 ·rename_i cs ds
  obtain ⟨k1,k2⟩:=RF hl
  cases h with
  | agg a b c =>
   refine .agg (by rw [a,k1]) (LG h1) fun j y hy=>?_
   have hlt:j<cs.length:=by
    rw [k1]
    rcases zlg j ds.length with h' | h'
    ·exact h'
    ·rw [List.getElem?_eq_none h'] at hy;cases hy
   exact GD (c j _ (List.getElem?_eq_getElem hlt)) (k2 j _ y (List.getElem?_eq_getElem hlt) hy)
 ·exact GD h hl
theorem zAf {w:World} {I:Nat→Prop} {T:Tbl} {v:Value} {x y:AV} (h:Rep w I T v x) (hl:∀ p∈loT x y,p) (h1:d8 y=true):Rep w I T v y:=by
 unfold loT at hl
 split at hl
 ·rename_i cs ds
  obtain ⟨k1,k2⟩:=VK hl
  simp only [d8,List.all_eq_true] at h1
  cases h with
  | tuple a c =>
   refine .tuple (by rw [a,k1]) fun j y hy=>?_
   have hlt:j<cs.length:=by
    rw [k1]
    rcases zlg j ds.length with h' | h'
    ·exact h'
    ·rw [List.getElem?_eq_none h'] at hy;cases hy
   exact MC (c j _ (List.getElem?_eq_getElem hlt)) (k2 j _ y (List.getElem?_eq_getElem hlt) hy) (h1 y (List.mem_of_getElem? hy))
 ·rename_i hno
  by_cases hy:∃ ds,y=.tuple ds
  ·obtain ⟨ds,rfl⟩:=hy
   have e:loA x (.tuple ds)=lo1 x (.tuple ds):=by cases x<;>rfl
   rw [e] at hl
   exact GD h hl
  ·refine MC h hl ?_
   cases y<;>first | exact h1 | exact absurd ⟨_,rfl⟩ hy
def J3 (n:Nat):yA→Bool
 | .live b=>o4 n b
 | _=>true
def tV (B:Nat→yA) (ids ρ:List Nat) (b:yA) (b2:yA):List Prop :=
 match b,b2 with
 | .live (.var t cs),.live (.var t' ds)=>[t=t',kB ds=true]++(cs.flatMap (cE B ids)++los (cs.map (aJ B ids)) (uns ρ ds))
 | .live (.row e s l),.live (.row e' s' l')=>[e=e',s=s',l=l']
 | .live (.map a k l),.live (.map a' k' l')=>[a=a',k=k',l=l']
 | _,.dead=>[]
 | _,_=>[False]
def lH:List Nat→List Nat→Bool
 | [],[]=>true
 | a::r,b::s=>Nat.beq a b&&lH r s
 | _,_=>false
theorem zDL {a b:List Nat} (h:lH a b=true):a=b:=by
 induction a generalizing b with
 | nil=>cases b<;>simp_all [lH]
 | cons x r ih =>
  cases b with
  | nil=>simp [lH] at h
  | cons y s =>
   simp only [lH,zba] at h
   rw [x5.1 h.1,ih h.2]
def AY (np:Nat) (st:AS) (ρ ids:List Nat) (sl2:List (Nat×AV)) (bx2:List (Nat×yA)):Option (List Prop) :=
 bif ((jD ρ&&lH (ρ.take np) (List.range np))&&(ids.all fun i=>iI (st.box i)&&Nat.ble np i)) &&
   ((sl2.all fun x=>(wU ρ.length x.2&&d8 x.2)&&iY (frz st.box ids (st.slot x.1))) &&
    (bx2.all fun x=>(Nat.blt x.1 ρ.length&&J3 ρ.length x.2)&&(match x.2 with | .live (.row ..)=>!(ids.any (Nat.beq (ρ.getD x.1 0))) | .unused=>false | _=>true))) then
  some (sl2.flatMap (fun x=>bZ st.box ids (st.slot x.1)++loT (frz st.box ids (st.slot x.1)) (un ρ x.2)) ++
   bx2.flatMap (fun x=>tV st.box ids ρ (st.box (ρ.getD x.1 0)) x.2))
 else none
theorem TL {ρ:List Nat} {cs:List AV}:kB (uns ρ cs)=kB cs:=by
 induction cs with
 | nil=>rfl
 | cons a r ih=>simp [uns,kB,QX,ih]
theorem V2 {ρ:List Nat} {a:AV}:cS (un ρ a)=cS a:=by cases a<;>simp [un,cS,TL]
theorem zD6 {ρ:List Nat} {a:AV}:d8 (un ρ a)=d8 a:=by
 cases a with
 | tuple vs =>
  simp only [un,d8]
  induction vs with
  | nil=>rfl
  | cons x r ih=>simp [uns,V2,ih]
 | agg cs=>simp [un,d8,cS,TL]
 | _=>rfl
theorem zAF {sl:List (Nat×AV)} {t:Nat}:kC sl t=.junk∨(t,kC sl t)∈sl:=by
 induction sl with
 | nil=>exact .inl rfl
 | cons x r ih =>
  obtain ⟨k,v⟩:=x
  simp only [kC]
  cases h:Nat.beq t k
  ·rcases ih with h' | h'
   ·exact .inl h'
   ·exact .inr (by simp [h'])
  ·rw [x5.1 h];exact .inr (by simp)
theorem UH {bx:List (Nat×yA)} {i:Nat} {d:yA}:(i∉bx.map (·.1)∧vG bx i d=d)∨(i,vG bx i d)∈bx:=by
 induction bx with
 | nil=>exact .inl ⟨by simp,rfl⟩
 | cons x r ih =>
  obtain ⟨k,v⟩:=x
  simp only [vG]
  cases h:Nat.beq i k
  ·have hne:i≠k:=fun e=>by subst e;simp at h
   rcases ih with ⟨h1,h2⟩ | h'
   ·exact .inl ⟨by simp only [List.map_cons,List.mem_cons,not_or];exact ⟨hne,h1⟩,h2⟩
   ·exact .inr (by simp [h'])
  ·rw [x5.1 h];exact .inr (by simp)
theorem zDE {np:Nat} {st:AS} (ρ ids:List Nat) (sl2:List (Nat×AV)) (bx2:List (Nat×yA)) {vcs:List Prop} (h:AY np st ρ ids sl2 bx2=some vcs) (hv:tG vcs)
  {G:uA} {a:Act} {w:World} {T:Tbl} (hnp:G.foot.length=np) (hT:tJ G st T a w):tJ G (mk sl2 bx2 ρ.length) (Tc ρ T) a w:=by
 unfold AY at h
 replace h:=xJ h;obtain ⟨hc,h⟩:=h
 simp only [zba,List.all_eq_true] at hc
 obtain ⟨⟨⟨hnd,hrange⟩,hids⟩,hsl,hbx⟩:=hc
 have hrange:=zDL hrange
 simp only [Option.some.injEq] at h
 subst h
 have hv:=HL hv
 -- boxes of the new state
 have boxOf:∀ i bx,(mk sl2 bx2 ρ.length).box i=.live bx→(i,yA.live bx)∈bx2:=by
  intro i bx hl
  simp only [mk] at hl
  rcases UH (bx:=bx2) (i:=i) (d:=bif Nat.blt i ρ.length then yA.dead else .unused) with ⟨_,h⟩ | h
  ·rw [h] at hl
   cases hlt:Nat.blt i ρ.length<;>rw [hlt] at hl<;>cases hl
  ·rw [hl] at h;exact h
 have newBox:∀ (i:Nat) (bx:Box),(i,yA.live bx)∈bx2→∃ (id:Nat) (bx0:Box),ρ[i]?=some id∧st.box id=.live bx0∧id∉ids:=by
  intro i bx hm
  have h1:=hbx _ hm
  have hlt:i<ρ.length:=by have:=h1.1.1;simp [Nat.blt] at this;omega
  have hid:ρ[i]?=some (ρ.getD i 0):=by simp [List.getD,hlt]
  have hvc:∀ p∈tV st.box ids ρ (st.box (ρ.getD i 0)) (.live bx),p:=fun p hp=>hv p (List.mem_append_right _ (List.mem_flatMap.2 ⟨_,hm,hp⟩))
  generalize hst:st.box (ρ.getD i 0)=b0 at hvc
  cases b0 with
  | unused=>exact (hvc False (by simp [tV])).elim
  | dead=>exact (hvc False (by simp [tV])).elim
  | live bb =>
   refine ⟨_,bb,hid,hst,fun hmem=>?_⟩
   cases bb with
   | var t cs=>have:=(hids _ hmem).1;rw [hst] at this;simp [iI] at this
   | map ag ks l=>have:=(hids _ hmem).1;rw [hst] at this;simp [iI] at this
   | row e s l =>
    cases bx with
    | var t cs=>exact hvc False (by simp [tV])
    | map ag ks l=>exact hvc False (by simp [tV])
    | row e' s' l' =>
     have h2:=h1.2
     simp only [Bool.not_eq_true'] at h2
     rw [EG hmem] at h2;cases h2
 have hlen_np:np≤ρ.length:=by
  have:=congrArg List.length hrange
  simp at this;omega
 have hfirst:∀ i,i<np→ρ[i]?=some i:=by
  intro i hi
  have:=congrArg (·[i]?) hrange
  simp only [List.getElem?_take,if_pos hi,List.getElem?_range hi] at this
  exact this
 have hTc:∀ (i id:Nat),ρ[i]?=some id→Tc ρ T i=T id:=by
  intro i id hi
  simp [Tc,hi]
 have himm:∀ b,imm G st T b→imm G (mk sl2 bx2 ρ.length) (Tc ρ T) b:=by
  intro b hb
  refine ⟨hb.1,fun i bx cap hl hTi=>?_⟩
  obtain ⟨id,bx0,h1,h2,_⟩:=newBox i bx (boxOf i bx hl)
  rw [hTc i id h1] at hTi
  exact hb.2 id bx0 cap h2 hTi
 have hidI:∀ id b cap,id∈ids→T id=some (.at b cap)→imm G (mk sl2 bx2 ρ.length) (Tc ρ T) b:=by
  intro id b cap hmem hTi
  have hl:=(hids id hmem).1
  obtain ⟨bx0,hb0⟩:∃ bx0,st.box id=.live bx0:=by
   cases hb:st.box id<;>rw [hb] at hl<;>simp [iI] at hl
   exact ⟨_,rfl⟩
  refine ⟨.inr (hT.mine id bx0 b cap hb0 hTi (by have:=AN (hids id hmem).2;omega)),fun i bx cap' hl' hTi'=>?_⟩
  obtain ⟨id',bx',h1,h2,h3⟩:=newBox i bx (boxOf i bx hl')
  rw [hTc i id' h1] at hTi'
  have:=hT.apart id id' bx0 bx' b cap cap' hb0 h2 hTi hTi'
  exact h3 (this ▸ hmem)
 refine ⟨hT.defers,hT.size,?_,?_,?_,?_,?_,?_,hT.kept⟩
 ·intro t
  simp only [mk]
  rcases zAF (sl:=sl2) (t:=t) with h | h
  ·rw [h];exact .junk
  ·generalize kC sl2 t=av2 at h
   have hc:=hsl _ h
   have hvc:=fun p hp=>hv p (List.mem_append_left _ (List.mem_flatMap.2 ⟨_,h,hp⟩))
   have h1:=NE hT (B:=st.box) (ids:=ids) (fun _ _=>rfl) (fun b hb=>himm b hb) hidI (hT.slots t) (fun p hp=>hvc p (List.mem_append_left _ hp)) hc.2
   have h2:=zAf h1 (fun p hp=>hvc p (List.mem_append_right _ hp)) (by rw [zD6];exact hc.1.2)
   exact GP h2 av2 rfl hc.1.1
 ·intro i bx hl
  have hm:=boxOf i bx hl
  obtain ⟨id,bx0,h1,h2,h3⟩:=newBox i bx hm
  have hc:=hbx _ hm
  have hid:ρ.getD i 0=id:=by simp [List.getD,h1]
  have hvc:∀ p∈tV st.box ids ρ (st.box (ρ.getD i 0)) (.live bx),p:=fun p hp=>hv p (List.mem_append_right _ (List.mem_flatMap.2 ⟨_,hm,hp⟩))
  rw [hid,h2] at hvc
  rw [hTc i id h1]
  have hok:=hT.boxes id bx0 h2
  have hbel:o4 ρ.length bx=true:=hc.1.2
  refine L7 ?_ hbel
  cases bx0 with
  | var t cs =>
   cases bx with
   | row e' s' l'=>exact (hvc False (by simp [tV])).elim
   | map ag ks l=>exact (hvc False (by simp [tV])).elim
   | var t' ds =>
    simp only [tV,List.mem_append] at hvc
    have e1:t=t':=hvc _ (.inl (by simp))
    have e2:kB ds=true:=hvc _ (.inl (by simp))
    subst e1
    obtain ⟨k1,k2⟩:=RF (fun p hp=>hvc p (.inr (.inr hp)))
    obtain ⟨b,C,p1,p2,p3,p4,p5⟩:=hok
    refine ⟨b,C,p1,p2,by rw [p3,← k1];simp,D8.2 (LG e2),fun j c hj=>?_⟩
    have hlt:j<cs.length:=by
     have:j<(uns ρ ds).length:=by
      rcases zlg j (uns ρ ds).length with h' | h'
      ·exact h'
      ·rw [List.getElem?_eq_none h'] at hj;cases hj
     rw [← k1] at this;simpa using this
    have hcj:=List.getElem?_eq_getElem hlt
    have h1':=N9 hT (B:=st.box) (ids:=ids) (fun _ _=>rfl) (fun b hb=>himm b hb) hidI (p5 j _ hcj) (fun p hp=>hvc p (.inr (.inl (List.mem_flatMap.2 ⟨_,List.mem_of_getElem? hcj,hp⟩))))
    exact GD h1' (k2 j _ c (by rw [List.getElem?_map,hcj];rfl) hj)
  | row e s l =>
   cases bx with
   | var t' ds=>exact (hvc False (by simp [tV])).elim
   | map ag ks l=>exact (hvc False (by simp [tV])).elim
   | row e' s' l' =>
    have e1:e=e':=hvc _ (by simp [tV])
    have e2:s=s':=hvc _ (by simp [tV])
    have e3:l=l':=hvc _ (by simp [tV])
    subst e1;subst e2;subst e3
    exact hok.mono (Nat.le_refl _) (fun _ _ _=>rfl) (fun b hb _=>himm b hb) (fun _ _ h=>h) (fun _ _ _ _=>rfl)
  | map ag ks l =>
   cases bx with
   | var t' ds=>exact (hvc False (by simp [tV])).elim
   | row e s l'=>exact (hvc False (by simp [tV])).elim
   | map ag' ks' l' =>
    have e1:ag=ag':=hvc _ (by simp [tV])
    have e2:ks=ks':=hvc _ (by simp [tV])
    have e3:l=l':=hvc _ (by simp [tV])
    subst e1;subst e2;subst e3
    exact hok.mono (Nat.le_refl _) (fun _ _ _=>rfl) (fun b hb _=>himm b hb) (fun _ _ h=>h) (fun _ _ _ _=>rfl)
 ·intro i hu
  simp only [mk] at hu
  rcases UH (bx:=bx2) (i:=i) (d:=bif Nat.blt i ρ.length then yA.dead else .unused) with ⟨_,h⟩ | h
  ·rw [h] at hu
   cases hlt:Nat.blt i ρ.length<;>rw [hlt] at hu
   ·have hge:ρ.length≤i:=by
     rcases zlg i ρ.length with h' | h'
     ·have:Nat.blt i ρ.length=true:=by simp [Nat.blt];omega
      rw [this] at hlt;cases hlt
     ·exact h'
    simp [Tc,List.getElem?_eq_none hge]
   ·cases hu
  ·rw [hu] at h
   have:=(hbx _ h).2
   simp at this
 ·intro i1 i2 b1 b2 b c1 c2 h1 h2 t1 t2
  obtain ⟨id1,x1,e1,l1,_⟩:=newBox i1 b1 (boxOf i1 b1 h1)
  obtain ⟨id2,x2,e2,l2,_⟩:=newBox i2 b2 (boxOf i2 b2 h2)
  rw [hTc i1 id1 e1] at t1
  rw [hTc i2 id2 e2] at t2
  have:=hT.apart id1 id2 x1 x2 b c1 c2 l1 l2 t1 t2
  subst this
  exact AZ hnd e1 e2
 ·intro i bx b cap hl hTi hge
  obtain ⟨id,x0,e1,l1,_⟩:=newBox i bx (boxOf i bx hl)
  rw [hTc i id e1] at hTi
  refine hT.mine id x0 b cap l1 hTi ?_
  rcases zlg id np with h' | h'
  ·have:=AZ hnd (hfirst id h') e1
   omega
  ·omega
 ·intro i p hp
  have hi:i<np:=by
   rw [← hnp]
   rcases zlg i G.foot.length with h' | h'
   ·exact h'
   ·rw [List.getElem?_eq_none h'] at hp;cases hp
  rw [hTc i i (hfirst i hi)]
  exact hT.foot i p hp
theorem zCD {np:Nat} {st:AS} (ρ ids:List Nat) (sl2:List (Nat×AV)) (bx2:List (Nat×yA)) {vcs:List Prop} (h:AY np st ρ ids sl2 bx2=some vcs) (hv:tG vcs) :
  Sub np st (mk sl2 bx2 ρ.length):=by
 rintro G a w hnp ⟨T,hT⟩
 exact ⟨Tc ρ T,zDE ρ ids sl2 bx2 h hv hnp hT⟩
end Go.Ab
