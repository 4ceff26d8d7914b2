/- A region in whatever order its edges allow. -/
import Derived.Test.YtbifmbdcejggkaaA48
namespace Go.Ab
open Go
def zEa (es:List Eff):List Nat:=es.flatMap fun E=>E.rs.map (·.1)
def jM (es:List Eff):List Nat:=es.flatMap fun E=>(E.dst.map (·.1)).toList++E.fz.map (·.1)
def zD4 (es:List Eff):List Nat:=es.flatMap fun E=>E.rb.map (·.1)
def qQ (es:List Eff):List Nat:=es.flatMap fun E=>E.wb.map (·.1)
def zCQ (a b:List Nat):Bool:=a.any fun x=>b.any (Nat.beq x)
def zMw (es fs:List Eff):Bool :=
 (zCQ (jM es) (zEa fs)||zCQ (jM es) (jM fs))||(zCQ (zEa es) (jM fs) ||
  ((zCQ (qQ es) (zD4 fs)||zCQ (qQ es) (qQ fs))||zCQ (zD4 es) (qQ fs)))
structure zEM (es fs:List Eff):Prop where
 ws_rs:∀ t∈jM es,t∉zEa fs
 ws_ws:∀ t∈jM es,t∉jM fs
 rs_ws:∀ t∈zEa es,t∉jM fs
 wb_rb:∀ t∈qQ es,t∉zD4 fs
 wb_wb:∀ t∈qQ es,t∉qQ fs
 rb_wb:∀ t∈zD4 es,t∉qQ fs
theorem nX {a b:List Nat} (h:zCQ a b=false):∀ t∈a,t∉b:=by
 intro t ht hb
 have:zCQ a b=true:=by
  simp only [zCQ,List.any_eq_true]
  exact ⟨t,ht,t,hb,zDz t⟩
 rw [h] at this;cases this
theorem zO5 {es fs:List Eff} (h:zMw es fs=false):zEM es fs:=by
 simp only [zMw,Bool.or_eq_false_iff] at h
 obtain ⟨⟨h1,h2⟩,h3,⟨h4,h5⟩,h6⟩:=h
 exact ⟨nX h1,nX h2,nX h3,nX h4,nX h5,nX h6⟩
theorem zLo {l:List (Nat×AV)} {t:Nat} {d:AV} (h:t∉l.map (·.1)):k8 l t d=d:=by
 induction l with
 | nil=>rfl
 | cons x r ih =>
  obtain ⟨k,v⟩:=x
  simp only [List.map_cons,List.mem_cons,not_or] at h
  simp only [k8,x9 h.1,cond_false]
  exact ih h.2
theorem zGs {l:List (Nat×zW)} {t:Nat} {d:zW} (h:t∉l.map (·.1)):x4 l t d=d:=by
 induction l with
 | nil=>rfl
 | cons x r ih =>
  obtain ⟨k,v⟩:=x
  simp only [List.map_cons,List.mem_cons,not_or] at h
  simp only [x4,x9 h.1,cond_false]
  exact ih h.2
theorem zIW {l:List (Nat×AV)} {t:Nat} (h:t∈l.map (·.1)) (d d':AV):k8 l t d=k8 l t d':=by
 induction l with
 | nil=>simp at h
 | cons x r ih =>
  obtain ⟨k,v⟩:=x
  simp only [k8]
  cases hb:Nat.beq t k
  ·simp only [cond_false]
   simp only [List.map_cons,List.mem_cons] at h
   rcases h with h | h
   ·rw [h] at hb;simp at hb
   ·exact ih h
  ·rfl
theorem zNI {l:List (Nat×zW)} {t:Nat} (h:t∈l.map (·.1)) (d d':zW):x4 l t d=x4 l t d':=by
 induction l with
 | nil=>simp at h
 | cons x r ih =>
  obtain ⟨k,v⟩:=x
  simp only [x4]
  cases hb:Nat.beq t k
  ·simp only [cond_false]
   simp only [List.map_cons,List.mem_cons] at h
   rcases h with h | h
   ·rw [h] at hb;simp at hb
   ·exact ih h
  ·rfl
theorem jQ {es:List Eff} {st:AS} {t:Nat} (h:t∉jM es):(uP st es).slot t=st.slot t:=by
 induction es generalizing st with
 | nil=>rfl
 | cons E r ih =>
  simp only [jM,List.flatMap_cons,List.mem_append,not_or] at h
  simp only [uP]
  rw [ih h.2]
  simp only [AS.upd]
  have h2:=zLo (d:=st.slot t) h.1.2
  cases hE:E.dst with
  | none=>simp only [zB1];exact h2
  | some x =>
   obtain ⟨d,av⟩:=x
   rw [zBi _ _ _ (by have:=h.1.1;rw [hE] at this;simpa using this)]
   exact h2
theorem zLZ {es:List Eff} {st st':AS} {t:Nat} (h:t∈jM es):(uP st es).slot t=(uP st' es).slot t:=by
 induction es generalizing st st' with
 | nil=>simp [jM] at h
 | cons E r ih =>
  simp only [uP]
  by_cases hr:t∈jM r
  ·exact ih hr
  ·rw [jQ hr,jQ hr]
   simp only [jM,List.flatMap_cons,List.mem_append] at h
   rcases h with (h | h) | h
   ·cases hE:E.dst with
    | none=>rw [hE] at h;simp at h
    | some x =>
     obtain ⟨d,av⟩:=x
     rw [hE] at h
     simp at h
     subst h
     simp only [AS.upd,hE,pY]
   ·cases hE:E.dst with
    | none=>simp only [AS.upd,hE,zB1];exact zIW h _ _
    | some x =>
     obtain ⟨d,av⟩:=x
     simp only [AS.upd,hE]
     by_cases hd:t=d
     ·subst hd;rw [pY,pY]
     ·rw [zBi _ _ _ hd,zBi _ _ _ hd];exact zIW h _ _
   ·exact absurd h hr
theorem jR {es:List Eff} {st:AS} {t:Nat} (h:t∉qQ es):(uP st es).box t=st.box t:=by
 induction es generalizing st with
 | nil=>rfl
 | cons E r ih =>
  simp only [qQ,List.flatMap_cons,List.mem_append,not_or] at h
  simp only [uP]
  rw [ih h.2]
  exact zGs h.1
theorem zNG {es:List Eff} {st st':AS} {t:Nat} (h:t∈qQ es):(uP st es).box t=(uP st' es).box t:=by
 induction es generalizing st st' with
 | nil=>simp [qQ] at h
 | cons E r ih =>
  simp only [uP]
  by_cases hr:t∈qQ r
  ·exact ih hr
  ·rw [jR hr,jR hr]
   simp only [qQ,List.flatMap_cons,List.mem_append] at h
   rcases h with h | h
   ·exact zNI h _ _
   ·exact absurd h hr
theorem zN7 {es fs:List Eff} (h:zEM es fs) (st:AS):uP (uP st es) fs=uP (uP st fs) es:=by
 have hs:(uP (uP st es) fs).slot=(uP (uP st fs) es).slot:=by
  funext t
  by_cases h1:t∈jM es
  ·have h2:=h.ws_ws t h1
   rw [jQ h2];exact zLZ h1
  ·rw [jQ h1]
   by_cases h2:t∈jM fs
   ·exact zLZ h2
   ·rw [jQ h2,jQ h2,jQ h1]
 have hb:(uP (uP st es) fs).box=(uP (uP st fs) es).box:=by
  funext t
  by_cases h1:t∈qQ es
  ·have h2:=h.wb_wb t h1
   rw [jR h2];exact zNG h1
  ·rw [jR h1]
   by_cases h2:t∈qQ fs
   ·exact zNG h2
   ·rw [jR h2,jR h2,jR h1]
 cases hx:uP (uP st es) fs with
 | mk s b =>
  cases hy:uP (uP st fs) es with
  | mk s' b' =>
   rw [hx,hy] at hs hb
   simp only at hs hb
   rw [hs,hb]
theorem zGi {es:List Eff} {st st':AS} (hs:∀ t∈zEa es,st'.slot t=st.slot t) (hb:∀ t∈zD4 es,st'.box t=st.box t) (h:pB st es):pB st' es:=by
 induction es generalizing st st' with
 | nil=>trivial
 | cons E r ih =>
  obtain ⟨⟨h1,h2⟩,h3⟩:=h
  simp only [zEa,zD4,List.flatMap_cons,List.mem_append] at hs hb
  refine ⟨⟨fun x hx=>?_,fun x hx=>?_⟩,ih (fun t ht=>?_) (fun t ht=>?_) h3⟩
  ·rw [hs x.1 (.inl (List.mem_map.2 ⟨x,hx,rfl⟩))];exact h1 x hx
  ·rw [hb x.1 (.inl (List.mem_map.2 ⟨x,hx,rfl⟩))];exact h2 x hx
  ·have e:=hs t (.inr ht)
   have l1:k8 E.fz t (st'.slot t)=k8 E.fz t (st.slot t):=by rw [e]
   simp only [AS.upd]
   cases hE:E.dst with
   | none=>simp only [zB1];exact l1
   | some x =>
    obtain ⟨d,av⟩:=x
    by_cases hd:t=d
    ·subst hd;rw [pY,pY]
    ·rw [zBi _ _ _ hd,zBi _ _ _ hd];exact l1
  ·have e:=hb t (.inr ht)
   show x4 E.wb t (st'.box t)=x4 E.wb t (st.box t)
   rw [e]
theorem zJV {es fs:List Eff} (h:zEM es fs) {st:AS} (hf:pB (uP st es) fs):pB st fs :=
 zGi (fun t ht=>(jQ (fun hw=>h.ws_rs t hw ht)).symm) (fun t ht=>(jR (fun hw=>h.wb_rb t hw ht)).symm) hf
theorem zKI {es fs:List Eff} (h:zEM es fs) {st:AS} (he:pB st es):pB (uP st fs) es :=
 zGi (fun t ht=>jQ (fun hw=>h.rs_ws t ht hw)) (fun t ht=>jR (fun hw=>h.rb_wb t ht hw)) he
theorem zLB {es:List Eff}:∀ (A B:List (List Eff)) (st st':AS),zCl (A++es::B) st st'→(∀ x∈A,zEM x es)→pB st es∧zCl (A++B) (uP st es) st':=by
 intro A
 induction A with
 | nil=>intro B st st' h _;exact h
 | cons x r ih =>
  intro B st st' h hi
  obtain ⟨h1,h2⟩:=h
  obtain ⟨k1,k2⟩:=ih B _ _ h2 (fun y hy=>hi y (by simp [hy]))
  have hix:=hi x (by simp)
  refine ⟨zJV hix k1,zKI hix h1,?_⟩
  rw [← zN7 hix]
  exact k2
/-! Which operations stand ahead of which. -/
def kN (o:Oper):List Nat:=(o.after.toList.filter (Region.binds .any)).map (·.on)
inductive Dep (ops:Array Oper):Nat→Nat→Prop
 | one {i j o}:ops[j]?=some o→i∈kN o→Dep ops i j
 | more {i k j o}:ops[j]?=some o→k∈kN o→Dep ops i k→Dep ops i j
def zN0 (acc:List Nat) (ds:List Nat):Nat:=ds.foldl (fun m e=>m ||| (2 ^ e ||| acc.getD e 0)) 0
def zHN:List (List Nat)→List Nat→List Nat
 | [],acc=>acc
 | ds::r,acc=>zHN r (acc++[zN0 acc ds])
theorem zJY (acc:List Nat) (i:Nat):∀ (ds:List Nat) (m:Nat),(ds.foldl (fun m e=>m ||| (2 ^ e ||| acc.getD e 0)) m).testBit i=true→m.testBit i=true∨∃ e∈ds,e=i∨(acc.getD e 0).testBit i=true:=by
 intro ds
 induction ds with
 | nil=>intro m h;exact .inl h
 | cons e r ih =>
  intro m h
  simp only [List.foldl_cons] at h
  rcases ih _ h with h | ⟨e',he',h⟩
  ·simp only [Nat.testBit_or,Bool.or_eq_true] at h
   rcases h with h | h | h
   ·exact .inl h
   ·rw [Nat.testBit_two_pow] at h
    exact .inr ⟨e,by simp,.inl (by simpa using h)⟩
   ·exact .inr ⟨e,by simp,.inr h⟩
  ·exact .inr ⟨e',by simp [he'],h⟩
theorem zNn {ops:Array Oper}:∀ (l:List (List Nat)) (acc:List Nat),(∀ (k:Nat) (ds:List Nat),l[k]?=some ds→∃ o,ops[acc.length+k]?=some o∧kN o=ds) →
  (∀ j,j<acc.length→∀ i,(acc.getD j 0).testBit i=true→Dep ops i j)→∀ j i,((zHN l acc).getD j 0).testBit i=true→Dep ops i j:=by
 intro l
 induction l with
 | nil =>
  intro acc _ h j i hb
  rcases Nat.lt_or_ge j acc.length with hj | hj
  ·exact h j hj i hb
  ·simp [zHN,List.getD,List.getElem?_eq_none hj] at hb
 | cons ds r ih =>
  intro acc hl h j i hb
  simp only [zHN] at hb
  refine ih (acc++[zN0 acc ds]) ?_ ?_ j i hb
  ·intro k ds' hk
   obtain ⟨o,h1,h2⟩:=hl (k+1) ds' (by simpa using hk)
   exact ⟨o,by rw [← h1];simp only [List.length_append,List.length_singleton];congr 1;omega,h2⟩
  ·intro j' hj' i' hb'
   rw [List.length_append,List.length_singleton] at hj'
   rcases Nat.lt_or_ge j' acc.length with hlt | hge
   ·rw [List.getD_eq_getElem?_getD,List.getElem?_append_left hlt,← List.getD_eq_getElem?_getD] at hb'
    exact h j' hlt i' hb'
   ·have:j'=acc.length:=by omega
    subst this
    rw [List.getD_eq_getElem?_getD,List.getElem?_append_right (Nat.le_refl _)] at hb'
    simp only [Nat.sub_self,List.getElem?_cons_zero,Option.getD_some] at hb'
    obtain ⟨o,h1,h2⟩:=hl 0 ds (by simp)
    simp only [Nat.add_zero] at h1
    rcases zJY acc i' ds 0 hb' with h0 | ⟨e,he,h0⟩
    ·simp at h0
    ·rcases h0 with rfl | h0
     ·exact .one h1 (by rw [h2];exact he)
     ·refine .more (k:=e) h1 (by rw [h2];exact he) ?_
      rcases Nat.lt_or_ge e acc.length with hlt | hge'
      ·exact h e hlt i' h0
      ·simp [List.getD,List.getElem?_eq_none hge'] at h0
def zF2 (ops:List Oper) (ess:List (List Eff)):Bool :=
 let ms:=zHN (ops.map kN) []
 (ops.zipIdx.all fun (o,j)=>(kN o).all fun e=>Nat.blt e j) &&
 ess.zipIdx.all fun (fs,j)=>(ess.take j).zipIdx.all fun (es,i)=>!(zMw es fs)||(ms.getD j 0).testBit i
theorem zFH {ops:Array Oper} {listed:Array Bool} {j:Nat} (h:j∈Region.ready .any ops listed) :
  j<ops.size∧listed.getD j true=false∧∀ o,ops[j]?=some o→∀ e∈kN o,listed.getD e false=true:=by
 simp only [Region.ready,List.mem_filter,List.mem_range,Bool.and_eq_true,Bool.not_eq_true'] at h
 refine ⟨h.1,h.2.1,fun o ho e he=>?_⟩
 have h3:=h.2.2
 rw [ho] at h3
 simp only [Option.map_some,Option.getD_some] at h3
 rw [← Array.all_toList] at h3
 simp only [List.all_eq_true] at h3
 simp only [kN,List.mem_map,List.mem_filter] at he
 obtain ⟨x,⟨hx,hb⟩,rfl⟩:=he
 have:=h3 x hx
 simpa [hb] using this
def v8 (n:Nat) (listed:Array Bool):List Nat:=(List.range n).filter fun i=>!(listed.getD i true)
theorem zHf {n i:Nat} {listed:Array Bool} (hi:i<n) (hs:listed.size=n) (hl:listed.getD i true=false) :
  ∃ A B,v8 n listed=A++i::B∧(∀ x∈A,x<i∧listed.getD x true=false)∧v8 n (listed.setIfInBounds i true)=A++B:=by
 have hr:List.range n=List.range i++i::(List.range' (i+1) (n - i - 1)):=by
  rw [List.range_eq_range',List.range_eq_range']
  have:n=i+(1+(n - i - 1)):=by omega
  conv=>lhs;rw [this]
  rw [← List.range'_append,← List.range'_append]
  simp
 refine ⟨(List.range i).filter fun x=>!(listed.getD x true),(List.range' (i+1) (n - i - 1)).filter fun x=>!(listed.getD x true),?_,?_,?_⟩
 ·simp only [v8,hr,List.filter_append,List.filter_cons,hl]
  simp
 ·intro x hx
  simp only [List.mem_filter,List.mem_range,Bool.not_eq_true'] at hx
  exact hx
 ·have hset:∀ x,x≠i→(listed.setIfInBounds i true).getD x true=listed.getD x true:=by
   intro x hx
   simp only [Array.getD_eq_getD_getElem?,Array.getElem?_setIfInBounds]
   rw [if_neg (fun e=>hx e.symm)]
  have hself:(listed.setIfInBounds i true).getD i true=true:=by
   simp [Array.getD_eq_getD_getElem?,hs,hi]
  simp only [v8,hr,List.filter_append,List.filter_cons,hself]
  simp only [Bool.not_true,Bool.false_eq_true,if_false]
  congr 1
  ·apply List.filter_congr
   intro x hx
   rw [hset x (by have:=List.mem_range.1 hx;omega)]
  ·apply List.filter_congr
   intro x hx
   rw [hset x (by have:=List.mem_range'_1.1 hx;omega)]
theorem zPI {P:Program} {ops:Array Oper} {Q:Exit→Act→World→Prop} {i:Nat} {o:Oper} {K:Act→World→Prop} {a:Act} {w:World} (ho:ops[i]?=some o)
  (h:if Region.wanted o (yielded ops a.tmps)=true then o.wp P a w K Q else K (a.put o.dst undef) w):wpOp P ops Q i K a w:=by
 unfold wpOp
 rw [ho]
 simp only
 split
 ·rename_i hw;rw [if_pos hw] at h;exact .inl h
 ·rename_i hw;rw [if_neg hw] at h;exact h
theorem zLH {P:Program} {N np:Nat} {ops:Array Oper} {G:xX} {Q:Exit→Act→World→Prop} {ess:List (List Eff)} (hN:G.n=N) (hnp:G.foot.length=np) (hlen:ess.length=ops.size)
  (hloc:∀ (j:Nat) (o:Oper) (es:List Eff),ops[j]?=some o→ess[j]?=some es→zME P N np ops o es)
  (hord:∀ (i j:Nat) (es fs:List Eff),i<j→ess[i]?=some es→ess[j]?=some fs→zEM es fs∨Dep ops i j)
  (hback:∀ (j:Nat) (o:Oper),ops[j]?=some o→∀ e∈kN o,e<j) {st':AS} (hQ:∀ a w,vN G st' a w→Q .normal a w) :
  ∀ (fuel:Nat) (listed:Array Bool) (st:AS) (a:Act) (w:World),listed.size=ops.size→(v8 ops.size listed).length=fuel →
   (∀ j o,ops[j]?=some o→listed.getD j true=true→∀ e∈kN o,listed.getD e false=true) →
   zCl ((v8 ops.size listed).map fun i=>ess.getD i []) st st'→vN G st a w→wpAny P .any ops Q fuel listed a w:=by
 -- an operation that is ready has behind it all that it hangs on
 have closed:∀ {listed:Array Bool} {j:Nat},listed.size=ops.size→(∀ j o,ops[j]?=some o→listed.getD j true=true→∀ e∈kN o,listed.getD e false=true) →
   (∀ o,ops[j]?=some o→∀ e∈kN o,listed.getD e false=true)→∀ i,Dep ops i j→listed.getD i false=true:=by
  intro listed j hs hcl hj i hd
  induction hd with
  | one ho hi=>exact hj _ ho _ hi
  | more ho hk _ ih =>
   refine ih fun o ho' e he=>?_
   have hkl:=hj _ ho _ hk
   refine hcl _ o ho' ?_ e he
   rename_i k _ _ _
   have:k<listed.size:=by
    rcases Nat.lt_or_ge k listed.size with h' | h'
    ·exact h'
    ·simp [Array.getD_eq_getD_getElem?,Array.getElem?_eq_none h'] at hkl
   simp only [Array.getD_eq_getD_getElem?,Array.getElem?_eq_getElem this,Option.getD_some] at hkl ⊢
   exact hkl
 have tf:∀ {listed:Array Bool} {j:Nat},listed.getD j false=true→listed.getD j true=true:=by
  intro listed j h
  cases hx:listed[j]? with
  | none=>simp [Array.getD_eq_getD_getElem?,hx] at h
  | some b=>simp [Array.getD_eq_getD_getElem?,hx] at h ⊢;exact h
 have rem_mem:∀ {listed:Array Bool} {j:Nat},j∈v8 ops.size listed↔j<ops.size∧listed.getD j true=false:=by
  intro listed j
  simp [v8]
 -- the least that is left is ready
 have least:∀ {listed:Array Bool},listed.size=ops.size→Region.ready .any ops listed=[]→v8 ops.size listed=[]:=by
  intro listed hs hr
  cases hR:v8 ops.size listed with
  | nil=>rfl
  | cons j r =>
   exfalso
   have hj:j∈v8 ops.size listed:=by rw [hR];simp
   obtain ⟨hjn,hjl⟩:=rem_mem.1 hj
   -- all before j are listed
   have hbefore:∀ e,e<j→listed.getD e true=true:=by
    intro e he
    cases hx:listed.getD e true with
    | true=>rfl
    | false =>
     have hem:e∈v8 ops.size listed:=rem_mem.2 ⟨by omega,hx⟩
     have hsorted:(v8 ops.size listed).Pairwise (·<·):=by
      unfold v8
      exact List.Pairwise.filter _ (List.pairwise_lt_range)
     rw [hR] at hem hsorted
     rw [List.pairwise_cons] at hsorted
     rcases List.mem_cons.1 hem with h | h
     ·omega
     ·have:=hsorted.1 e h;omega
   have:j∈Region.ready .any ops listed:=by
    simp only [Region.ready,List.mem_filter,List.mem_range,Bool.and_eq_true,Bool.not_eq_true']
    refine ⟨hjn,hjl,?_⟩
    have ho:ops[j]?=some ops[j]:=Array.getElem?_eq_getElem hjn
    rw [ho]
    simp only [Option.map_some,Option.getD_some]
    rw [← Array.all_toList]
    simp only [List.all_eq_true]
    intro e he
    cases hb:Region.binds .any e with
    | false=>simp
    | true =>
     have hd:e.on∈kN ops[j]:=List.mem_map.2 ⟨e,List.mem_filter.2 ⟨he,hb⟩,rfl⟩
     have hlt:=hback j _ ho e.on hd
     have h1:=hbefore e.on hlt
     have hsz:e.on<listed.size:=by omega
     simp only [Array.getD_eq_getD_getElem?,Array.getElem?_eq_getElem hsz,Option.getD_some] at h1 ⊢
     simp [h1]
   rw [hr] at this;cases this
 intro fuel
 induction fuel with
 | zero =>
  intro listed st a w hs hf hcl hch hR
  have hnil:v8 ops.size listed=[]:=List.eq_nil_of_length_eq_zero hf
  rw [hnil] at hch
  simp only [List.map_nil,zCl] at hch
  subst hch
  refine ⟨?_,hQ a w hR⟩
  cases hr:Region.ready .any ops listed with
  | nil=>rfl
  | cons j r =>
   exfalso
   have:=zFH (j:=j) (by rw [hr];simp)
   have hm:j∈v8 ops.size listed:=rem_mem.2 ⟨this.1,this.2.1⟩
   rw [hnil] at hm;cases hm
 | succ fuel ih =>
  intro listed st a w hs hf hcl hch hR
  refine ⟨fun hr=>?_,fun i hi=>?_⟩
  ·have:=least hs hr
   rw [this] at hf;simp at hf
  ·obtain ⟨hin,hil,hdi⟩:=zFH hi
   have ho:ops[i]?=some ops[i]:=Array.getElem?_eq_getElem hin
   obtain ⟨A,B,hAB,hA,hAB'⟩:=zHf hin hs hil
   have hei:ess[i]?=some (ess.getD i []):=by
    have:i<ess.length:=by omega
    simp [List.getD,List.getElem?_eq_getElem this]
   rw [hAB,List.map_append,List.map_cons] at hch
   have hdeps:=closed hs hcl (fun o ho' e he=>hdi o ho' e he)
   obtain ⟨k1,k2⟩:=zLB (A.map fun i=>ess.getD i []) (B.map fun i=>ess.getD i []) st st' hch (by
    intro x hx
    simp only [List.mem_map] at hx
    obtain ⟨j,hj,rfl⟩:=hx
    obtain ⟨hjlt,hjl⟩:=hA j hj
    have hej:ess[j]?=some (ess.getD j []):=by
     have:j<ess.length:=by omega
     simp [List.getD,List.getElem?_eq_getElem this]
    rcases hord j i _ _ hjlt hej hei with h | h
    ·exact h
    ·have:=hdeps j h
     have:=tf this
     rw [hjl] at this;cases this)
   have hL:=hloc i _ _ ho hei G st a w hN hnp k1 hR
   have hnext:∀ a w,vN G (uP st (ess.getD i [])) a w→wpAny P .any ops Q fuel (listed.setIfInBounds i true) a w:=by
    intro a w hR2
    refine ih (listed.setIfInBounds i true) _ a w (by simpa using hs) ?_ ?_ ?_ hR2
    ·rw [hAB'];rw [hAB] at hf;simp at hf ⊢;omega
    ·intro j o ho' hjl e he
     have hkeep:∀ e,listed.getD e false=true→(listed.setIfInBounds i true).getD e false=true:=by
      intro e he
      simp only [Array.getD_eq_getD_getElem?,Array.getElem?_setIfInBounds] at he ⊢
      split
      ·rename_i h;subst h;rw [if_pos (by omega)];rfl
      ·exact he
     by_cases hji:j=i
     ·subst hji;exact hkeep e (hdi o ho' e he)
     ·refine hkeep e (hcl j o ho' ?_ e he)
      simp only [Array.getD_eq_getD_getElem?,Array.getElem?_setIfInBounds] at hjl
      rw [if_neg (fun e=>hji e.symm)] at hjl
      simpa [Array.getD_eq_getD_getElem?] using hjl
    ·rw [hAB',List.map_append];exact k2
   refine zPI ho ?_
   split
   ·rename_i hw;rw [if_pos hw] at hL;exact Oper.wp_mono2 hnext hL
   ·rename_i hw;rw [if_neg hw] at hL;exact hnext _ _ hL
theorem zKc {ops:List Oper} {ess:List (List Eff)} (h:zF2 ops ess=true) :
  (∀ (j:Nat) (o:Oper),ops[j]?=some o→∀ e∈kN o,e<j) ∧
  ∀ (i j:Nat) (es fs:List Eff),i<j→ess[i]?=some es→ess[j]?=some fs→zEM es fs∨Dep ops.toArray i j:=by
 simp only [zF2,Bool.and_eq_true,List.all_eq_true] at h
 obtain ⟨h1,h2⟩:=h
 refine ⟨fun j o ho e he=>?_,fun i j es fs hij hi hj=>?_⟩
 ·have:=h1 (o,j) (by rw [List.mem_zipIdx_iff_getElem?];exact ho) e he
  simp [Nat.blt] at this;omega
 ·have:=h2 (fs,j) (by rw [List.mem_zipIdx_iff_getElem?];exact hj) (es,i) (by
   rw [List.mem_zipIdx_iff_getElem?]
   show (ess.take j)[i]?=some es
   rw [List.getElem?_take,if_pos hij];exact hi)
  simp only [Bool.or_eq_true,Bool.not_eq_true'] at this
  rcases this with h | h
  ·exact .inl (zO5 h)
  ·right
   refine zNn (ops:=ops.toArray) (ops.map kN) [] ?_ (fun j hj=>by simp at hj) j i h
   intro k ds hk
   rw [List.getElem?_map] at hk
   cases ho:ops[k]? with
   | none=>rw [ho] at hk;cases hk
   | some o=>rw [ho] at hk;injection hk with hk;exact ⟨o,by simpa using ho,hk⟩
end Go.Ab
