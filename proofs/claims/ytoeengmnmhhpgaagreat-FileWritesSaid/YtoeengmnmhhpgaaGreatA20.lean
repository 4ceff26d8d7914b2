/- A region in whatever order its edges allow. -/
import Derived.Test.YtoeengmnmhhpgaaGreatA18
namespace Go.Ab
open Go
def rU (es:List Eff):List Nat:=es.flatMap fun E=>E.rs.map (·.1)
def nJ (es:List Eff):List Nat:=es.flatMap fun E=>(E.dst.map (·.1)).toList++E.fz.map (·.1)
def B9 (es:List Eff):List Nat:=es.flatMap fun E=>E.rb.map (·.1)
def pH (es:List Eff):List Nat:=es.flatMap fun E=>E.wb.map (·.1)
def dR (a b:List Nat):Bool:=a.any fun x=>b.any (Nat.beq x)
def R4 (es fs:List Eff):Bool :=
 (dR (nJ es) (rU fs)||dR (nJ es) (nJ fs))||(dR (rU es) (nJ fs) ||
  ((dR (pH es) (B9 fs)||dR (pH es) (pH fs))||dR (B9 es) (pH fs)))
structure mZ (es fs:List Eff):Prop where
 ws_rs:∀ t∈nJ es,t∉rU fs
 ws_ws:∀ t∈nJ es,t∉nJ fs
 rs_ws:∀ t∈rU es,t∉nJ fs
 wb_rb:∀ t∈pH es,t∉B9 fs
 wb_wb:∀ t∈pH es,t∉pH fs
 rb_wb:∀ t∈B9 es,t∉pH fs
theorem AP {a b:List Nat} (h:dR a b=false):∀ t∈a,t∉b:=by
 intro t ht hb
 have:dR a b=true:=by
  simp only [dR,List.any_eq_true];exact ⟨t,ht,t,hb,O0 t⟩
 rw [h] at this;cases this
theorem zE6 {es fs:List Eff} (h:R4 es fs=false):mZ es fs:=by
 simp only [R4,Bool.or_eq_false_iff] at h;obtain ⟨⟨h1,h2⟩,h3,⟨h4,h5⟩,h6⟩:=h;exact ⟨AP h1,AP h2,AP h3,AP h4,AP h5,AP h6⟩
theorem zBT {l:List (Nat×AV)} {t:Nat} {d:AV} (h:t∉l.map (·.1)):p8 l t d=d:=by
 induction l with
 | nil=>rfl
 | cons x r ih =>
  obtain ⟨k,v⟩:=x;simp only [List.map_cons,List.mem_cons,not_or] at h;simp only [p8,kJ h.1,cond_false];exact ih h.2
theorem zAs {l:List (Nat×y7)} {t:Nat} {d:y7} (h:t∉l.map (·.1)):uJ l t d=d:=by
 induction l with
 | nil=>rfl
 | cons x r ih =>
  obtain ⟨k,v⟩:=x;simp only [List.map_cons,List.mem_cons,not_or] at h;simp only [uJ,kJ h.1,cond_false];exact ih h.2
theorem XN {l:List (Nat×AV)} {t:Nat} (h:t∈l.map (·.1)) (d d':AV):p8 l t d=p8 l t d':=by
 induction l with
 | nil=>simp at h
 | cons x r ih =>
  obtain ⟨k,v⟩:=x;simp only [p8];cases hb:Nat.beq t k
  ·simp only [cond_false];simp only [List.map_cons,List.mem_cons] at h;rcases h with h | h
   ·rw [h] at hb;simp at hb
   ·exact ih h
  ·rfl
theorem zIH {l:List (Nat×y7)} {t:Nat} (h:t∈l.map (·.1)) (d d':y7):uJ l t d=uJ l t d':=by
 induction l with
 | nil=>simp at h
 | cons x r ih =>
  obtain ⟨k,v⟩:=x;simp only [uJ];cases hb:Nat.beq t k
  ·simp only [cond_false];simp only [List.map_cons,List.mem_cons] at h;rcases h with h | h
   ·rw [h] at hb;simp at hb
   ·exact ih h
  ·rfl
theorem dZ {es:List Eff} {st:AS} {t:Nat} (h:t∉nJ es):(tA st es).slot t=st.slot t:=by
 induction es generalizing st with
 | nil=>rfl
 | cons E r ih =>
  simp only [nJ,List.flatMap_cons,List.mem_append,not_or] at h;simp only [tA];rw [ih h.2];simp only [AS.upd];have h2:=zBT (d:=st.slot t) h.1.2;cases hE:E.dst with
  | none=>simp only [bX];exact h2
  | some x =>
   obtain ⟨d,av⟩:=x;rw [mH _ _ _ (by have:=h.1.1;rw [hE] at this;simpa using this)];exact h2
theorem XU {es:List Eff} {st st':AS} {t:Nat} (h:t∈nJ es):(tA st es).slot t=(tA st' es).slot t:=by
 induction es generalizing st st' with
 | nil=>simp [nJ] at h
 | cons E r ih =>
  simp only [tA]
  by_cases hr:t∈nJ r
  ·exact ih hr
  ·rw [dZ hr,dZ hr];simp only [nJ,List.flatMap_cons,List.mem_append] at h;rcases h with (h | h) | h
   ·cases hE:E.dst with
    | none=>rw [hE] at h;simp at h
    | some x =>
     obtain ⟨d,av⟩:=x;rw [hE] at h;simp at h;subst h;simp only [AS.upd,hE,oC]
   ·cases hE:E.dst with
    | none=>simp only [AS.upd,hE,bX];exact XN h _ _
    | some x =>
     obtain ⟨d,av⟩:=x;simp only [AS.upd,hE]
     by_cases hd:t=d
     ·subst hd;rw [oC,oC]
     ·rw [mH _ _ _ hd,mH _ _ _ hd];exact XN h _ _
   ·exact absurd h hr
theorem cM {es:List Eff} {st:AS} {t:Nat} (h:t∉pH es):(tA st es).box t=st.box t:=by
 induction es generalizing st with
 | nil=>rfl
 | cons E r ih =>
  simp only [pH,List.flatMap_cons,List.mem_append,not_or] at h;simp only [tA];rw [ih h.2];exact zAs h.1
theorem WM {es:List Eff} {st st':AS} {t:Nat} (h:t∈pH es):(tA st es).box t=(tA st' es).box t:=by
 induction es generalizing st st' with
 | nil=>simp [pH] at h
 | cons E r ih =>
  simp only [tA]
  by_cases hr:t∈pH r
  ·exact ih hr
  ·rw [cM hr,cM hr];simp only [pH,List.flatMap_cons,List.mem_append] at h;rcases h with h | h
   ·exact zIH h _ _
   ·exact absurd h hr
theorem zBC {es fs:List Eff} (h:mZ es fs) (st:AS):tA (tA st es) fs=tA (tA st fs) es:=by
 have hs:(tA (tA st es) fs).slot=(tA (tA st fs) es).slot:=by
  funext t
  by_cases h1:t∈nJ es
  ·have h2:=h.ws_ws t h1;rw [dZ h2];exact XU h1
  ·rw [dZ h1]
   by_cases h2:t∈nJ fs
   ·exact XU h2
   ·rw [dZ h2,dZ h2,dZ h1]
 have hb:(tA (tA st es) fs).box=(tA (tA st fs) es).box:=by
  funext t
  by_cases h1:t∈pH es
  ·have h2:=h.wb_wb t h1;rw [cM h2];exact WM h1
  ·rw [cM h1]
   by_cases h2:t∈pH fs
   ·exact WM h2
   ·rw [cM h2,cM h2,cM h1]
 cases hx:tA (tA st es) fs with
 | mk s b =>
  cases hy:tA (tA st fs) es with
  | mk s' b' =>
   rw [hx,hy] at hs hb;simp only at hs hb;rw [hs,hb]
theorem zAM {es:List Eff} {st st':AS} (hs:∀ t∈rU es,st'.slot t=st.slot t) (hb:∀ t∈B9 es,st'.box t=st.box t) (h:aI st es):aI st' es:=by
 induction es generalizing st st' with
 | nil=>trivial
 | cons E r ih =>
  obtain ⟨⟨h1,h2⟩,h3⟩:=h;simp only [rU,B9,List.flatMap_cons,List.mem_append] at hs hb;refine ⟨⟨fun x hx=>?_,fun x hx=>?_⟩,ih (fun t ht=>?_) (fun t ht=>?_) h3⟩
  ·rw [hs x.1 (.inl (List.mem_map.2 ⟨x,hx,rfl⟩))];exact h1 x hx
  ·rw [hb x.1 (.inl (List.mem_map.2 ⟨x,hx,rfl⟩))];exact h2 x hx
  ·have e:=hs t (.inr ht);have l1:p8 E.fz t (st'.slot t)=p8 E.fz t (st.slot t):=by rw [e]
   simp only [AS.upd];cases hE:E.dst with
   | none=>simp only [bX];exact l1
   | some x =>
    obtain ⟨d,av⟩:=x
    by_cases hd:t=d
    ·subst hd;rw [oC,oC]
    ·rw [mH _ _ _ hd,mH _ _ _ hd];exact l1
  ·have e:=hb t (.inr ht);show uJ E.wb t (st'.box t)=uJ E.wb t (st.box t);rw [e]
theorem zHY {es fs:List Eff} (h:mZ es fs) {st:AS} (hf:aI (tA st es) fs):aI st fs :=
 zAM (fun t ht=>(dZ (fun hw=>h.ws_rs t hw ht)).symm) (fun t ht=>(cM (fun hw=>h.wb_rb t hw ht)).symm) hf
theorem zFK {es fs:List Eff} (h:mZ es fs) {st:AS} (he:aI st es):aI (tA st fs) es :=
 zAM (fun t ht=>dZ (fun hw=>h.rs_ws t ht hw)) (fun t ht=>cM (fun hw=>h.rb_wb t ht hw)) he
theorem zDN {es:List Eff}:∀ (A B:List (List Eff)) (st st':AS),dG (A++es::B) st st'->(∀ x∈A,mZ x es)->aI st es/\dG (A++B) (tA st es) st':=by
 intro A
 induction A with
 | nil=>intro B st st' h _;exact h
 | cons x r ih =>
  intro B st st' h hi;obtain ⟨h1,h2⟩:=h;obtain ⟨k1,k2⟩:=ih B _ _ h2 (fun y hy=>hi y (by simp [hy]));have hix:=hi x (by simp);refine ⟨zHY hix k1,zFK hix h1,?_⟩;rw [<- zBC hix];exact k2
/-! Which operations stand ahead of which. -/
def n8 (o:Oper):List Nat:=(o.after.toList.filter (Region.binds .any)).map (·.on)
inductive Dep (ops:Array Oper):Nat->Nat->Prop
 | one {i j o}:ops[j]?=some o->i∈n8 o->Dep ops i j
 | more {i k j o}:ops[j]?=some o->k∈n8 o->Dep ops i k->Dep ops i j
def zAx (acc:List Nat) (ds:List Nat):Nat:=ds.foldl (fun m e=>m ||| (2 ^ e ||| acc.getD e 0)) 0
def KZ:List (List Nat)->List Nat->List Nat
 | [],acc=>acc
 | ds::r,acc=>KZ r (acc++[zAx acc ds])
theorem zD8 (acc:List Nat) (i:Nat):∀ (ds:List Nat) (m:Nat),(ds.foldl (fun m e=>m ||| (2 ^ e ||| acc.getD e 0)) m).testBit i=true->m.testBit i=true\/∃ e∈ds,e=i\/(acc.getD e 0).testBit i=true:=by
 intro ds
 induction ds with
 | nil=>intro m h;exact .inl h
 | cons e r ih =>
  intro m h;simp only [List.foldl_cons] at h;rcases ih _ h with h | ⟨e',he',h⟩
  ·simp only [Nat.testBit_or,Bool.or_eq_true] at h;rcases h with h | h | h
   ·exact .inl h
   ·rw [Nat.testBit_two_pow] at h;exact .inr ⟨e,by simp,.inl (by simpa using h)⟩
   ·exact .inr ⟨e,by simp,.inr h⟩
  ·exact .inr ⟨e',by simp [he'],h⟩
theorem zHh {ops:Array Oper}:∀ (l:List (List Nat)) (acc:List Nat),(∀ (k:Nat) (ds:List Nat),l[k]?=some ds->∃ o,ops[acc.length+k]?=some o/\n8 o=ds) ->
  (∀ j,j<acc.length->∀ i,(acc.getD j 0).testBit i=true->Dep ops i j)->∀ j i,((KZ l acc).getD j 0).testBit i=true->Dep ops i j:=by
 intro l
 induction l with
 | nil =>
  intro acc _ h j i hb;rcases zlg j acc.length with hj | hj
  ·exact h j hj i hb
  ·simp [KZ,List.getD,List.getElem?_eq_none hj] at hb
 | cons ds r ih =>
  intro acc hl h j i hb;simp only [KZ] at hb;refine ih (acc++[zAx acc ds]) ?_ ?_ j i hb
  ·intro k ds' hk;obtain ⟨o,h1,h2⟩:=hl (k+1) ds' (by simpa using hk);exact ⟨o,by rw [<- h1];simp only [zla,zls];congr 1;omega,h2⟩
  ·intro j' hj' i' hb';rw [zla,zls] at hj';rcases zlg j' acc.length with hlt | hge
   ·rw [List.getD_eq_getElem?_getD,List.getElem?_append_left hlt,<- List.getD_eq_getElem?_getD] at hb';exact h j' hlt i' hb'
   ·have:j'=acc.length:=by omega
    subst this;rw [List.getD_eq_getElem?_getD,List.getElem?_append_right (Nat.le_refl _)] at hb';simp only [Nat.sub_self,List.getElem?_cons_zero,Option.getD_some] at hb';obtain ⟨o,h1,h2⟩:=hl 0 ds (by simp);simp only [Nat.add_zero] at h1;rcases zD8 acc i' ds 0 hb' with h0 | ⟨e,he,h0⟩
    ·simp at h0
    ·rcases h0 with rfl | h0
     ·exact .one h1 (by rw [h2];exact he)
     ·refine .more (k:=e) h1 (by rw [h2];exact he) ?_;rcases zlg e acc.length with hlt | hge'
      ·exact h e hlt i' h0
      ·simp [List.getD,List.getElem?_eq_none hge'] at h0
def OH (ops:List Oper) (ess:List (List Eff)):Bool :=
 let ms:=KZ (ops.map n8) []
 (ops.zipIdx.all fun (o,j)=>(n8 o).all fun e=>Nat.blt e j) &&
 ess.zipIdx.all fun (fs,j)=>(ess.take j).zipIdx.all fun (es,i)=>!(R4 es fs)||(ms.getD j 0).testBit i
theorem Y9 {ops:Array Oper} {listed:Array Bool} {j:Nat} (h:j∈Region.ready .any ops listed) :
  j<ops.size/\listed.getD j true=false/\∀ o,ops[j]?=some o->∀ e∈n8 o,listed.getD e false=true:=by
 simp only [Region.ready,List.mem_filter,List.mem_range,zba,Bool.not_eq_true'] at h;refine ⟨h.1,h.2.1,fun o ho e he=>?_⟩;have h3:=h.2.2;rw [ho] at h3;simp only [Option.map_some,Option.getD_some] at h3;rw [<- Array.all_toList] at h3;simp only [List.all_eq_true] at h3;simp only [n8,List.mem_map,List.mem_filter] at he;obtain ⟨x,⟨hx,hb⟩,rfl⟩:=he
 have:=h3 x hx
 simpa [hb] using this
def pI (n:Nat) (listed:Array Bool):List Nat:=(List.range n).filter fun i=>!(listed.getD i true)
theorem zBk {n i:Nat} {listed:Array Bool} (hi:i<n) (hs:listed.size=n) (hl:listed.getD i true=false) :
  ∃ A B,pI n listed=A++i::B/\(∀ x∈A,x<i/\listed.getD x true=false)/\pI n (listed.setIfInBounds i true)=A++B:=by
 have hr:List.range n=List.range i++i::(List.range' (i+1) (n - i - 1)):=by
  rw [List.range_eq_range',List.range_eq_range']
  have:n=i+(1+(n - i - 1)):=by omega
  conv=>lhs;rw [this]
  rw [<- List.range'_append,<- List.range'_append];simp
 refine ⟨(List.range i).filter fun x=>!(listed.getD x true),(List.range' (i+1) (n - i - 1)).filter fun x=>!(listed.getD x true),?_,?_,?_⟩
 ·simp only [pI,hr,List.filter_append,List.filter_cons,hl];simp
 ·intro x hx;simp only [List.mem_filter,List.mem_range,Bool.not_eq_true'] at hx;exact hx
 ·have hset:∀ x,x≠i->(listed.setIfInBounds i true).getD x true=listed.getD x true:=by
   intro x hx;simp only [Array.getD_eq_getD_getElem?,Array.getElem?_setIfInBounds];rw [if_neg (fun e=>hx e.symm)]
  have hself:(listed.setIfInBounds i true).getD i true=true:=by
   simp [Array.getD_eq_getD_getElem?,hs,hi]
  simp only [pI,hr,List.filter_append,List.filter_cons,hself];simp only [Bool.not_true,Bool.false_eq_true,if_false]
  congr 1
  ·apply List.filter_congr;intro x hx;rw [hset x (by have:=List.mem_range.1 hx;omega)]
  ·apply List.filter_congr;intro x hx;rw [hset x (by have:=List.mem_range'_1.1 hx;omega)]
theorem zCP {P:Program} {ops:Array Oper} {Q:Exit->Act->World->Prop} {i:Nat} {o:Oper} {K:Act->World->Prop} {a:Act} {w:World} (ho:ops[i]?=some o)
  (h:if Region.wanted o (yielded ops a.tmps)=true then o.wp P a w K Q else K (a.put o.dst undef) w):wpOp P ops Q i K a w:=by
 unfold wpOp;rw [ho];simp only
 split
 ·rename_i hw;rw [if_pos hw] at h;exact .inl h
 ·rename_i hw;rw [if_neg hw] at h;exact h
theorem zIg {P:Program} {N np:Nat} {ops:Array Oper} {G:tK} {Q:Exit->Act->World->Prop} {ess:List (List Eff)} (hN:G.n=N) (hnp:G.foot.length=np) (hlen:ess.length=ops.size)
  (hloc:∀ (j:Nat) (o:Oper) (es:List Eff),ops[j]?=some o->ess[j]?=some es->LW P N np ops o es)
  (hord:∀ (i j:Nat) (es fs:List Eff),i<j->ess[i]?=some es->ess[j]?=some fs->mZ es fs\/Dep ops i j)
  (hback:∀ (j:Nat) (o:Oper),ops[j]?=some o->∀ e∈n8 o,e<j) {st':AS} (hQ:∀ a w,Rel G st' a w->Q .normal a w) :
  ∀ (fuel:Nat) (listed:Array Bool) (st:AS) (a:Act) (w:World),listed.size=ops.size->(pI ops.size listed).length=fuel ->
   (∀ j o,ops[j]?=some o->listed.getD j true=true->∀ e∈n8 o,listed.getD e false=true) ->
   dG ((pI ops.size listed).map fun i=>ess.getD i []) st st'->Rel G st a w->wpAny P .any ops Q fuel listed a w:=by
 -- an operation that is ready has behind it all that it hangs on
 have closed:∀ {listed:Array Bool} {j:Nat},listed.size=ops.size->(∀ j o,ops[j]?=some o->listed.getD j true=true->∀ e∈n8 o,listed.getD e false=true) ->
   (∀ o,ops[j]?=some o->∀ e∈n8 o,listed.getD e false=true)->∀ i,Dep ops i j->listed.getD i false=true:=by
  intro listed j hs hcl hj i hd
  induction hd with
  | one ho hi=>exact hj _ ho _ hi
  | more ho hk _ ih =>
   refine ih fun o ho' e he=>?_
   have hkl:=hj _ ho _ hk;refine hcl _ o ho' ?_ e he
   rename_i k _ _ _
   have:k<listed.size:=by
    rcases zlg k listed.size with h' | h'
    ·exact h'
    ·simp [Array.getD_eq_getD_getElem?,Array.getElem?_eq_none h'] at hkl
   simp only [Array.getD_eq_getD_getElem?,Array.getElem?_eq_getElem this,Option.getD_some] at hkl ⊢;exact hkl
 have tf:∀ {listed:Array Bool} {j:Nat},listed.getD j false=true->listed.getD j true=true:=by
  intro listed j h;cases hx:listed[j]? with
  | none=>simp [Array.getD_eq_getD_getElem?,hx] at h
  | some b=>simp [Array.getD_eq_getD_getElem?,hx] at h ⊢;exact h
 have rem_mem:∀ {listed:Array Bool} {j:Nat},j∈pI ops.size listed↔j<ops.size/\listed.getD j true=false:=by
  intro listed j;simp [pI]
 -- the least that is left is ready
 have least:∀ {listed:Array Bool},listed.size=ops.size->Region.ready .any ops listed=[]->pI ops.size listed=[]:=by
  intro listed hs hr;cases hR:pI ops.size listed with
  | nil=>rfl
  | cons j r =>
   exfalso
   have hj:j∈pI ops.size listed:=by rw [hR];simp
   obtain ⟨hjn,hjl⟩:=rem_mem.1 hj
   -- all before j are listed
   have hbefore:∀ e,e<j->listed.getD e true=true:=by
    intro e he;cases hx:listed.getD e true with
    | true=>rfl
    | false =>
     have hem:e∈pI ops.size listed:=rem_mem.2 ⟨by omega,hx⟩;have hsorted:(pI ops.size listed).Pairwise (·<·):=by
      unfold pI;exact List.Pairwise.filter _ (List.pairwise_lt_range)
     rw [hR] at hem hsorted;rw [List.pairwise_cons] at hsorted;rcases List.mem_cons.1 hem with h | h
     ·omega
     ·have:=hsorted.1 e h;omega
   have:j∈Region.ready .any ops listed:=by
    simp only [Region.ready,List.mem_filter,List.mem_range,zba,Bool.not_eq_true'];refine ⟨hjn,hjl,?_⟩;have ho:ops[j]?=some ops[j]:=Array.getElem?_eq_getElem hjn;rw [ho];simp only [Option.map_some,Option.getD_some];rw [<- Array.all_toList];simp only [List.all_eq_true];intro e he;cases hb:Region.binds .any e with
    | false=>simp
    | true =>
     have hd:e.on∈n8 ops[j]:=List.mem_map.2 ⟨e,List.mem_filter.2 ⟨he,hb⟩,rfl⟩;have hlt:=hback j _ ho e.on hd;have h1:=hbefore e.on hlt;have hsz:e.on<listed.size:=by omega
     simp only [Array.getD_eq_getD_getElem?,Array.getElem?_eq_getElem hsz,Option.getD_some] at h1 ⊢;simp [h1]
   rw [hr] at this;cases this
 intro fuel
 induction fuel with
 | zero =>
  intro listed st a w hs hf hcl hch hR;have hnil:pI ops.size listed=[]:=List.eq_nil_of_length_eq_zero hf;rw [hnil] at hch;simp only [List.map_nil,dG] at hch;subst hch;refine ⟨?_,hQ a w hR⟩;cases hr:Region.ready .any ops listed with
  | nil=>rfl
  | cons j r =>
   exfalso
   have:=Y9 (j:=j) (by rw [hr];simp)
   have hm:j∈pI ops.size listed:=rem_mem.2 ⟨this.1,this.2.1⟩;rw [hnil] at hm;cases hm
 | succ fuel ih =>
  intro listed st a w hs hf hcl hch hR;refine ⟨fun hr=>?_,fun i hi=>?_⟩
  ·have:=least hs hr
   rw [this] at hf;simp at hf
  ·obtain ⟨hin,hil,hdi⟩:=Y9 hi;have ho:ops[i]?=some ops[i]:=Array.getElem?_eq_getElem hin;obtain ⟨A,B,hAB,hA,hAB'⟩:=zBk hin hs hil;have hei:ess[i]?=some (ess.getD i []):=by
    have:i<ess.length:=by omega
    simp [List.getD,List.getElem?_eq_getElem this]
   rw [hAB,List.map_append,List.map_cons] at hch;have hdeps:=closed hs hcl (fun o ho' e he=>hdi o ho' e he);obtain ⟨k1,k2⟩:=zDN (A.map fun i=>ess.getD i []) (B.map fun i=>ess.getD i []) st st' hch (by
    intro x hx;simp only [List.mem_map] at hx;obtain ⟨j,hj,rfl⟩:=hx;obtain ⟨hjlt,hjl⟩:=hA j hj;have hej:ess[j]?=some (ess.getD j []):=by
     have:j<ess.length:=by omega
     simp [List.getD,List.getElem?_eq_getElem this]
    rcases hord j i _ _ hjlt hej hei with h | h
    ·exact h
    ·have:=hdeps j h
     have:=tf this
     rw [hjl] at this;cases this)
   have hL:=hloc i _ _ ho hei G st a w hN hnp k1 hR;have hnext:∀ a w,Rel G (tA st (ess.getD i [])) a w->wpAny P .any ops Q fuel (listed.setIfInBounds i true) a w:=by
    intro a w hR2;refine ih (listed.setIfInBounds i true) _ a w (by simpa using hs) ?_ ?_ ?_ hR2
    ·rw [hAB'];rw [hAB] at hf;simp at hf ⊢;omega
    ·intro j o ho' hjl e he;have hkeep:∀ e,listed.getD e false=true->(listed.setIfInBounds i true).getD e false=true:=by
      intro e he;simp only [Array.getD_eq_getD_getElem?,Array.getElem?_setIfInBounds] at he ⊢
      split
      ·rename_i h;subst h;rw [if_pos (by omega)];rfl
      ·exact he
     by_cases hji:j=i
     ·subst hji;exact hkeep e (hdi o ho' e he)
     ·refine hkeep e (hcl j o ho' ?_ e he);simp only [Array.getD_eq_getD_getElem?,Array.getElem?_setIfInBounds] at hjl;rw [if_neg (fun e=>hji e.symm)] at hjl;simpa [Array.getD_eq_getD_getElem?] using hjl
    ·rw [hAB',List.map_append];exact k2
   refine zCP ho ?_
   split
   ·rename_i hw;rw [if_pos hw] at hL;exact Oper.wp_mono2 hnext hL
   ·rename_i hw;rw [if_neg hw] at hL;exact hnext _ _ hL
theorem zBu {ops:List Oper} {ess:List (List Eff)} (h:OH ops ess=true) :
  (∀ (j:Nat) (o:Oper),ops[j]?=some o->∀ e∈n8 o,e<j) /\
  ∀ (i j:Nat) (es fs:List Eff),i<j->ess[i]?=some es->ess[j]?=some fs->mZ es fs\/Dep ops.toArray i j:=by
 simp only [OH,zba,List.all_eq_true] at h;obtain ⟨h1,h2⟩:=h;refine ⟨fun j o ho e he=>?_,fun i j es fs hij hi hj=>?_⟩
 ·have:=h1 (o,j) (by rw [List.mem_zipIdx_iff_getElem?];exact ho) e he
  simp [Nat.blt] at this;omega
 ·have:=h2 (fs,j) (by rw [List.mem_zipIdx_iff_getElem?];exact hj) (es,i) (by
   rw [List.mem_zipIdx_iff_getElem?];show (ess.take j)[i]?=some es;rw [List.getElem?_take,if_pos hij];exact hi)
  simp only [Bool.or_eq_true,Bool.not_eq_true'] at this;rcases this with h | h
  ·exact .inl (zE6 h)
  ·right
   refine zHh (ops:=ops.toArray) (ops.map n8) [] ?_ (fun j hj=>by simp at hj) j i h;intro k ds hk;rw [List.getElem?_map] at hk;cases ho:ops[k]? with
   | none=>rw [ho] at hk;cases hk
   | some o=>rw [ho] at hk;injection hk with hk;exact ⟨o,by simpa using ho,hk⟩
end Go.Ab
