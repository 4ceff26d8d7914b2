/- Lemmas. No conditions but those that they name. -/
import Derived.Test.YtcejcgalbcnjnaaGreatCtH
namespace Go.Ab
open Go
set_option linter.unusedVariables false
theorem zIY (l:List Int):(pM l).Pairwise (·<=·):=by
 unfold pM
 have:=List.pairwise_mergeSort (le:=fun x y:Int=>decide (x<=y)) (fun a b c h1 h2=>by simp at *;omega) (fun a b=>by simp;omega) l
 exact this.imp fun h=>by simpa using h
theorem zL5 {l:List Int} {x:Int} (h:x∈l):x∈Lib.compact l:=by
 have key:∀ (i:Nat),i<l.length->l.toArray[i]! ∈ Lib.compact l:=by
  intro i
  induction i with
  | zero =>
   intro hi;unfold Lib.compact Lib.compactUpTo;exact vB.mpr ⟨0,mG.mpr ⟨dD.mpr hi,Lib.keeps_lt_one _ 0 (by omega)⟩,rfl⟩
  | succ i ih =>
   intro hi
   by_cases e:l.toArray[i+1]! = l.toArray[i]!
   ·rw [e];exact ih (by omega)
   ·unfold Lib.compact Lib.compactUpTo;exact vB.mpr ⟨i+1,mG.mpr ⟨dD.mpr hi,Lib.keeps_pos (by simpa using e)⟩,rfl⟩
 obtain ⟨i,hi,e⟩:=List.mem_iff_getElem.mp h
 have:=key i hi
 have e2:l.toArray[i]! = x:=by simp [hi,e]
 rw [e2] at this;exact this
def CR (l:List xO) (id x:Int):Prop:=∃ s∈l,(s.A=id/\x=s.Xw)\/(s.B=id/\(x=s.Xp.Lo\/x=s.Xp.Hi))
theorem zLM {l:List xO} (hl:l.length<=1000) (id:Int):Ok (QE FF l id) fun r=>r.length<=3 * l.length/\∀ x,x∈r↔CR l id x:=by
 unfold QE;refine yX (P:=fun r=>r.length<=3 * l.length/\∀ x,x∈r↔CR l id x) ?_ fun r hr=>?_
 ·refine v9 (σ:=Nat×List Int) (fun n s=>MR FF l id n s.1 s.2)
   (fun s=>s.1<=l.length/\s.2.length<=3 * s.1/\∀ x,x∈s.2↔CR (l.take s.1) id x) _ (fun s=>l.length - s.1) ?_ (0,[]) ⟨wI _,yI _,fun x=>⟨fun h=>by (cases h),fun h=>by (obtain ⟨s,h,_⟩:=h;simp at h)⟩⟩
  rintro n ⟨i,r⟩ ⟨h1,h2,h3⟩ ih;simp only at h1 h2 h3 ih ⊢;show Ok (W7 _ _ _ _ _ _) _;unfold W7;refine xV (fun hi=>?_) fun hi=>yB ⟨by omega,by rw [kC (by omega)] at h3;exact h3⟩
  refine vK (by omega) hi fun s hs=>?_
  rw [wB] at hs;rw [w5];have hstep:∀ x,CR (l.take (i+1)) id x↔CR (l.take i) id x\/((s.A=id/\x=s.Xw)\/(s.B=id/\(x=s.Xp.Lo\/x=s.Xp.Hi))):=fun x=>by
   unfold CR;rw [nM,hs]
   constructor
   ·rintro ⟨t,ht,h⟩;rcases wL.mp ht with ht | ht
    ·exact .inl ⟨t,ht,h⟩
    ·simp at ht;subst ht;exact .inr h
   ·rintro (⟨t,ht,h⟩ | h)
    ·exact ⟨t,rM _ ht,h⟩
    ·exact ⟨s,bT _ (by simp),h⟩
  refine yX (P:=fun o=>o.length<=3 * i+1/\∀ x,x∈o↔CR (l.take i) id x\/(s.A=id/\x=s.Xw)) ?_ fun o ho=>?_
  ·refine vZ (fun h=>?_) fun h=>yB ⟨by omega,fun x=>?_⟩
   ·refine wP (by rw [zls];omega) (yB ⟨by rw [zla,zls];omega,fun x=>?_⟩);rw [wL,uO,h3]
    have:=eq_of_beq h
    simp [this]
   ·have:s.A≠id:=by simpa using h
    rw [h3];simp [this]
  ·refine vZ (fun h=>?_) fun h=>?_
   ·refine wP (by simp only [zlc,fC];omega) ?_;refine ih (i+1,_) ⟨by simp only;omega,by simp only [zla,zlc,fC];omega,fun x=>?_⟩ (by simp only;omega);simp only;rw [wL,hstep,ho.2]
    have:=eq_of_beq h
    simp [this,or_assoc]
   ·refine ih (i+1,_) ⟨by simp only;omega,by simp only;omega,fun x=>?_⟩ (by simp only;omega);simp only;rw [hstep,ho.2]
    have:s.B≠id:=by simpa using h
    simp [this]
 ·have h1:=MK r;have h2:=zAm (pM r);unfold slices_Sort_int slices_Compact_int;rw [tB (by omega),zbs,zbs];refine wP h1 ?_;rw [tB (by omega),zbs,zbs];refine yB ⟨by omega,fun x=>?_⟩;exact ⟨fun h=>(hr.2 x).mp ((G8 r x).mp (YL _ _ h)),fun h=>zL5 ((G8 r x).mpr ((hr.2 x).mpr h))⟩
theorem zIa {l:List Int} (hl:l.length<=100000) (a:Int):Ok (NO FF l a) fun r=>r=decide (a∈l):=by
 unfold NO W2;refine yX (P:=fun r:Int=>(0<=r↔a∈l)) ?_ fun r hr=>yB (by rw [decide_eq_decide];exact hr)
 refine yX (P:=fun o:Unit⊕Int=>(o=.inl ()/\a∉l)\/∃ v:Nat,o=.inr v/\a∈l) ?_ ?_
 ·refine v9 (σ:=Nat) (fun n s=>RV FF l a n s) (fun s=>s<=l.length/\a∉l.take s) _ (fun s=>l.length - s) ?_ 0 ⟨wI _,by simp⟩;rintro n i ⟨h1,h2⟩ ih;show Ok (T9 _ _ _ _ _) _;unfold T9;refine xV (fun hi=>?_) fun hi=>yB (.inl ⟨rfl,by rw [kC (by omega)] at h2;exact h2⟩)
  refine vK (by omega) hi fun x hx=>?_
  rw [wB] at hx;refine vZ (fun h=>yB (.inr ⟨i,rfl,?_⟩)) fun h=>?_
  ·rw [eq_of_beq h];exact yN hx
  ·rw [w5];refine ih (i+1) ⟨by omega,?_⟩ (by omega);rw [nM,hx,wL]
   have:a≠x:=by simpa using h
   simp [this,h2]
 ·rintro o (⟨rfl,h⟩ | ⟨v,rfl,h⟩)
  ·exact yB (by simp [h])
  ·exact yB (by simp [h])
theorem zNm {d:List yW} (hd:d.length<=100000) (id:Int):Ok (QY FF d id) fun r=>r=true↔∃ x∈d,x.Id=id:=by
 unfold QY SH;refine yX (P:=fun r:Int=>(0<=r↔∃ x∈d,x.Id=id)) ?_ fun r hr=>yB (by rw [decide_eq_true_iff];exact hr)
 refine yX (P:=fun o:Unit⊕Int=>(o=.inl ()/\¬∃ x∈d,x.Id=id)\/∃ v:Nat,o=.inr v/\∃ x∈d,x.Id=id) ?_ ?_
 ·refine v9 (σ:=Nat) (fun n s=>OG FF d id n s) (fun s=>s<=d.length/\¬∃ x∈d.take s,x.Id=id) _ (fun s=>d.length - s) ?_ 0 ⟨wI _,by simp⟩;rintro n i ⟨h1,h2⟩ ih;show Ok (WV _ _ _ _ _) _;unfold WV U6;refine xV (fun hi=>?_) fun hi=>yB (.inl ⟨rfl,by rw [kC (by omega)] at h2;exact h2⟩)
  refine vK (by omega) hi fun x hx=>?_
  rw [wB] at hx;rw [zbs];refine vZ (fun h=>yB (.inr ⟨i,rfl,x,yN hx,eq_of_beq h⟩)) fun h=>?_
  rw [w5];refine ih (i+1) ⟨by omega,?_⟩ (by omega);rintro ⟨y,hy,e⟩;rw [nM,hx,wL] at hy;rcases hy with hy | hy
  ·exact h2 ⟨y,hy,e⟩
  ·have:x.Id≠id:=by simpa using h
   simp at hy;subst hy;exact this e
 ·rintro o (⟨rfl,h⟩ | ⟨v,rfl,h⟩)
  ·exact yB (by simp [h])
  ·exact yB (by simp [h])
theorem zNO {l:List xO} (hl:l.length<=1000):Ok (NT FF l) fun r=>r.length<=l.length/\∀ x,x∈r↔x∈l:=by
 unfold NT;refine yX (P:=fun r:List xO=>r.length<=l.length/\∀ x,x∈r↔x∈l) ?_ fun r hr=>yB hr
 refine v9 (σ:=Nat×List xO) (fun n s=>RI FF l n s.1 s.2)
  (fun s=>s.1<=l.length/\s.2.length<=s.1/\∀ x,x∈s.2↔x∈l.take s.1) _ (fun s=>l.length - s.1) ?_ (0,[]) ⟨wI _,yI _,fun x=>by simp⟩
 rintro n ⟨i,r⟩ ⟨h1,h2,h3⟩ ih;simp only at h1 h2 h3 ih ⊢;show Ok (YB _ _ _ _ _) _;unfold YB;refine xV (fun hi=>?_) fun hi=>yB ⟨by omega,by rw [kC (by omega)] at h3;exact h3⟩
 refine vK (by omega) hi fun x hx=>wP (by omega) ?_
 rw [wB] at hx;have hsub:sub l 0 i=l.take i:=by unfold sub;rw [wB];simp
 refine yX (P:=fun b=>b=decide (x∈l.take i)) ?_ ?_
 ·refine v9 (σ:=Bool×Nat) (fun n s=>O2 FF l i x n s.1 s.2) (fun s=>s.2<=i/\s.1=decide (x∈l.take s.2)) _ (fun s=>i - s.2) ?_ (false,0) ⟨wI _,by simp⟩;rintro n ⟨b,j⟩ ⟨k1,k2⟩ ih2;simp only at k1 k2 ih2 ⊢;show Ok (WF _ _ _ _ _ _ _) _;unfold WF;rw [hsub];have hli:(l.take i).length=i:=by rw [nL];omega
  refine xV (fun hj=>?_) fun hj=>yB (by rw [k2];congr 2;rw [show j=i by omega])
  refine vK (by omega) hj fun y hy=>?_
  rw [wB,LW (by omega)] at hy;rw [w5];refine ih2 (_,j+1) ⟨by simp only;omega,?_⟩ (by simp only;omega);simp only;rw [k2,nM,hy,WD]
  by_cases h8:x∈l.take j
  ·rw [decide_eq_true h8];simp [h8]
  ·rw [decide_eq_false h8];simp [h8]
 ·rintro _ rfl;rw [w5];have hm:∀ y,y∈l.take (i+1)↔y∈l.take i\/y=x:=fun y=>by rw [nM,hx];simp
  by_cases h:x∈l.take i
  ·rw [decide_eq_true h,cO,cond_false];refine ih (i+1,r) ⟨by simp only;omega,by simp only;omega,fun y=>?_⟩ (by simp only;omega);simp only;rw [hm,h3];exact ⟨.inl,fun h9=>h9.elim id fun e=>e ▸ h⟩
  ·rw [decide_eq_false h,Bool.not_false,cond_true];refine wP (by rw [zls];omega) (ih (i+1,_) ⟨by simp only;omega,by simp only [zla,zls];omega,fun y=>?_⟩ (by simp only;omega));simp only;rw [hm,wL,uO,h3]
theorem zO4 {d:List yW} {l:List xO} (hd:d.length<=100) (hd0:d≠[]) (hl:l.length<=1000) (hc:AB d l=0) {id:Int} (hid:∃ x∈d,x.Id=id) (hB:∀ s∈l,s.B=0) (hk:id=0\/∃ s∈l,s.A=id):Ok (L5 FF d l id) fun r=>r=true:=by
 have hd1:0<d.length:=List.length_pos_iff.mpr hd0;unfold L5;rw [show A4 FF d l=_ from zAb (by omega) (by omega),zbs,hc,tV rfl,cond_false,show AK FF d id=_ from TI (by omega),zbs,zbs];have hf:pK (idP id) d>=0:=(zNb _ _).mpr (by
  obtain ⟨x,hx,e⟩:=hid;exact ⟨x,hx,by unfold idP;simpa using e⟩)
 rw [xN (by omega),cond_false];refine yX (zNO hl) fun r3 h3=>wP (by decide) ?_
 refine yX (P:=fun o:List (Int×Bool)=>zV o 0=some true/\∀ s∈r3,zV o s.A=some true) ?_ fun o ho=>yB ?_
 ·refine v9 (σ:=Nat×List (Int×Bool)) (fun n s=>N5 FF d r3 n s.1 s.2)
   (fun s=>s.1<=d.length/\s.2.length<=1+s.1 * 2000/\zV s.2 0=some true/\(0<s.1->∀ t∈r3,zV s.2 t.A=some true)) _ (fun s=>d.length - s.1) ?_ (0,xC [] 0 true) ⟨wI _,yI _,rfl,fun h=>by simp only at h;omega⟩
  rintro n ⟨i,r⟩ ⟨h1,h2,h4,h5⟩ ih;simp only at h1 h2 h4 h5 ih ⊢;show Ok (S1 _ _ _ _ _ _) _;unfold S1;refine xV (fun hi=>?_) fun hi=>yB ⟨h4,h5 (by omega)⟩
  refine yX (P:=fun o:List (Int×Bool)=>o.length<=1+(i+1) * 2000/\zV o 0=some true/\∀ s∈r3,zV o s.A=some true) ?_ fun o ho=>?_
  ·have h31:=h3.1;refine v9 (σ:=Nat×List (Int×Bool)) (fun n s=>RJ FF r3 n s.1 s.2)
    (fun s=>s.1<=r3.length/\s.2.length<=1+i * 2000+2 * s.1/\zV s.2 0=some true/\∀ t∈r3.take s.1,zV s.2 t.A=some true) _ (fun s=>r3.length - s.1) ?_ (0,r) ⟨wI _,h2,h4,fun t ht=>by simp at ht⟩
   rintro n ⟨j,q⟩ ⟨k1,k2,k3,k4⟩ ih2;simp only at k1 k2 k3 k4 ih2 ⊢;show Ok (XG _ _ _ _ _) _;unfold XG;refine xV (fun hj=>?_) fun hj=>yB ⟨by omega,k3,by rw [kC (by omega)] at k4;exact k4⟩
   refine vK (by omega) hj fun t ht=>?_
   rw [wB] at ht;have htm:t∈l:=(h3.2 t).mp (yN ht);rw [hB t htm,k3,jE,Bool.or_true,cond_true];have m1:=dG q t.A true;have m2:=dG (xC q t.A true) 0 true;refine wP (by omega) (wP (by omega) ?_);rw [w5];have hmono:∀ z,zV q z=some true\/z=t.A->zV (xC (xC q t.A true) 0 true) z=some true:=fun z hz=>by
    rw [dJ,dJ]
    split
    ·rfl
    split
    ·rfl
    ·rename_i e1 e2
     exact hz.elim (fun h=>h) fun e=>absurd e.symm e2
   refine ih2 (j+1,_) ⟨by simp only;omega,by simp only;omega,hmono 0 (.inl k3),fun s hs=>?_⟩ (by simp only;omega);simp only at hs ⊢;rw [nM,ht,wL] at hs;rcases hs with hs | hs
   ·exact hmono _ (.inl (k4 s hs))
   ·simp at hs;subst hs;exact hmono _ (.inr rfl)
  ·rw [w5];exact ih (i+1,o) ⟨by simp only;omega,ho.1,ho.2.1,fun _=>ho.2.2⟩ (by simp only;omega)
 ·rcases hk with rfl | ⟨s,hs,e⟩
  ·rw [ho.1];rfl
  ·rw [<- e,ho.2 s ((h3.2 s).mpr hs)];rfl
end Go.Ab
