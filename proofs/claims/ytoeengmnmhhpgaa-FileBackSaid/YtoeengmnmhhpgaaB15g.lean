/- Plain laws of the functions w6 this seat's, laid anew from another seat's text. No conditions but those that the theorems name. -/
import Derived.Test.YtoeengmnmhhpgaaP15xD
import Derived.Test.YtoeengmnmhhpgaaB15a
import Derived.Test.YtoeengmnmhhpgaaB15b
import Derived.Test.YtoeengmnmhhpgaaB15c
import Derived.Test.YtoeengmnmhhpgaaB15d
import Derived.Test.YtoeengmnmhhpgaaB15e
import Derived.Test.YtoeengmnmhhpgaaB15f
namespace Go.Ab
open Go
set_option linter.unusedVariables false
def pB (c:Bool) (d:Int) (b:List Int) (u f:Int):Int×Int×Int:=if c then vM b u f else (d,u,f)
def ev0:xA:=⟨0,0,[],0,0,[]⟩
def vJ (b:List Int):Int×Int×Int:=vM b 0 0
def kA (b:List Int):Int×Int×Int:=vM b (vJ b).2.1 (vJ b).2.2
def lM (b:List Int):Int:=if (kA b).2.2=0∧((vJ b).1<1∨(vJ b).1>12) then 10 else (kA b).2.2
def tX (b:List Int):Int×Int×Int:=pB (vV (vJ b).1) 0 b (kA b).2.1 (lM b)
def pH (b:List Int):Int×Int×Int:=pB (u7 (vJ b).1) 0 b (tX b).2.1 (tX b).2.2
def pL (b:List Int):Int×Int×Int:=pB (tF (vJ b).1) 0 b (pH b).2.1 (pH b).2.2
def qZ (b:List Int):Int×Int×Int:=pB (uS (vJ b).1) (-1) b (pL b).2.1 (pL b).2.2
def mM (names:List (List Int)) (stacks:List zT) (b:List Int):xA :=
 ⟨(kA b).1,(vJ b).1,if vV (vJ b).1 then (names[(tX b).1.toNat]?).getD [] else [],(pH b).1,(pL b).1,(m6 names stacks (qZ b).1).1⟩
def kR (names:List (List Int)) (stacks:List zT) (b:List Int):xA×Int×Int :=
 if nU names stacks≠0 then (ev0,0,1) else
 if (qZ b).2.2≠0 then (ev0,0,(qZ b).2.2) else
 if vV (vJ b).1=true∧((tX b).1<0∨(tX b).1≥names.length) then (ev0,0,2) else
 if (qZ b).1 < -1∨(qZ b).1≥stacks.length then (ev0,0,2) else
 if evS (mM names stacks b)≠0 then (ev0,0,10) else (mM names stacks b,(qZ b).2.1,0)
theorem EE {c:Bool} {d:Int} {b:List Int} {u f:Int} (hb:∀ x∈b,xO x) (h0:0≤u) (h1:u≤b.length):u≤(pB c d b u f).2.1∧(pB c d b u f).2.1≤b.length:=by
 unfold pB
 split
 ·exact ⟨(nK hb h0 h1).2.1,(nK hb h0 h1).2.2.1⟩
 ·exact ⟨Int.le_refl _,h1⟩
theorem O3 {b:List Int} (hb:∀ x∈b,xO x) :
  (0≤(vJ b).2.1∧(vJ b).2.1≤b.length)∧(0≤(kA b).2.1∧(kA b).2.1≤b.length)∧(0≤(tX b).2.1∧(tX b).2.1≤b.length)∧(0≤(pH b).2.1∧(pH b).2.1≤b.length)∧(0≤(pL b).2.1∧(pL b).2.1≤b.length)∧(0≤(qZ b).2.1∧(qZ b).2.1≤b.length):=by
 have k:=nK (u:=0) (f:=0) hb (by omega) (by omega)
 have a:=nK (u:=(vJ b).2.1) (f:=(vJ b).2.2) hb (by unfold vJ;omega) (by unfold vJ;omega)
 have n1:_:=EE (c:=vV (vJ b).1) (d:=0) (u:=(kA b).2.1) (f:=lM b) hb (by unfold kA;have:=k.2;unfold vJ at *;omega) (by unfold kA;omega)
 have ha:0≤(kA b).2.1:=by unfold kA;have:=k.2.1;unfold vJ at *;omega
 have n2:=EE (c:=u7 (vJ b).1) (d:=0) (u:=(tX b).2.1) (f:=(tX b).2.2) hb (by unfold tX;omega) (by unfold tX;omega)
 have h2:0≤(tX b).2.1:=by unfold tX;omega
 have n3:=EE (c:=tF (vJ b).1) (d:=0) (u:=(pH b).2.1) (f:=(pH b).2.2) hb (by unfold pH;omega) (by unfold pH;omega)
 have h3:0≤(pH b).2.1:=by unfold pH;omega
 have n4:=EE (c:=uS (vJ b).1) (d := -1) (u:=(pL b).2.1) (f:=(pL b).2.2) hb (by unfold pL;omega) (by unfold pL;omega)
 have h4:0≤(pL b).2.1:=by unfold pL;omega
 exact ⟨⟨k.2.1,k.2.2.1⟩,⟨ha,a.2.2.1⟩,⟨h2,n1.2⟩,⟨h3,n2.2⟩,⟨h4,n3.2⟩,⟨by unfold qZ;omega,n4.2⟩⟩
theorem XG {names:List (List Int)} {stacks:List zT} {b:List Int} (hb:∀ x∈b,xO x) (hl:b.length≤100000):DU 281474976710656 names stacks b=some (kR names stacks b):=by
 unfold DU kR
 rw [EU,zbs]
 by_cases hc:nU names stacks≠0
 ·rw [wA hc,if_pos hc];rfl
 rw [x8 (by omega),cond_false,if_neg hc]
 obtain ⟨⟨k0,k1⟩,⟨a0,a1⟩,⟨m0,m1⟩,⟨n0,n1⟩,⟨p0,p1⟩,_⟩:=O3 hb
 rw [ER hb hl (by omega) (by omega),zbs]
 show (nN 281474976710656 ⟨b,(vJ b).2.1,(vJ b).2.2⟩).bind _=_
 rw [ER hb hl k0 k1,zbs]
 have hf:(((bif (((kA b).2.2==(0:Int))&&(decide ((vJ b).1<(1:Int))||decide ((vJ b).1>(12:Int)))) then some (10:Int) else some (kA b).2.2):Option Int))=some (lM b):=by
  unfold lM
  by_cases h1:(kA b).2.2=0
  ·by_cases h2:(vJ b).1<1∨(vJ b).1>12
   ·rw [if_pos ⟨h1,h2⟩,A1 h2,h1];rfl
   ·rw [if_neg (fun h=>h2 h.2),EQ h2,h1];rfl
  ·rw [if_neg (fun h=>h1 h.1),show ((kA b).2.2==(0:Int))=false by simpa using h1];rfl
 refine (congrArg (fun o=>Option.bind o _) hf).trans ?_
 rw [zbs]
 show (some (vV (vJ b).1,u7 (vJ b).1,tF (vJ b).1,uS (vJ b).1)).bind _=_
 rw [zbs]
 have hA:∀ (c:Bool) (d u f:Int),0≤u→u≤b.length→(bif c then (nN 281474976710656 (⟨b,u,f⟩:jN)).bind (fun r_5=>some (r_5.1,r_5.2.b,r_5.2.used,r_5.2.fault)) else some (d,b,u,f))=some ((pB c d b u f).1,b,(pB c d b u f).2.1,(pB c d b u f).2.2):=by
  intro c d u f h0 h1
  cases c
  ·rfl
  ·rw [cond_true,ER hb hl h0 h1,zbs];rfl
 have hB:∀ (c:Bool) (d u f:Int),0≤u→u≤b.length→(bif c then (nN 281474976710656 (⟨b,u,f⟩:jN)).bind (fun r_5=>some (r_5.2.b,r_5.2.used,r_5.2.fault,r_5.1)) else some (b,u,f,d))=some (b,(pB c d b u f).2.1,(pB c d b u f).2.2,(pB c d b u f).1):=by
  intro c d u f h0 h1
  cases c
  ·rfl
  ·rw [cond_true,ER hb hl h0 h1,zbs];rfl
 refine (congrArg (fun o=>Option.bind o _) (hA (vV (vJ b).1) 0 (kA b).2.1 (lM b) a0 a1)).trans ?_
 rw [zbs]
 refine (congrArg (fun o=>Option.bind o _) (hB (u7 (vJ b).1) 0 (tX b).2.1 (tX b).2.2 m0 m1)).trans ?_
 rw [zbs]
 refine (congrArg (fun o=>Option.bind o _) (hB (tF (vJ b).1) 0 (pH b).2.1 (pH b).2.2 n0 n1)).trans ?_
 rw [zbs]
 refine (congrArg (fun o=>Option.bind o _) (hA (uS (vJ b).1) (-1) (pL b).2.1 (pL b).2.2 p0 p1)).trans ?_
 rw [zbs]
 show (Option.bind (bif ((qZ b).2.2 != 0) then _ else (bif (vV (vJ b).1&&(decide ((tX b).1<0)||decide ((tX b).1≥names.length))) then _ else (bif (decide ((qZ b).1 < -1)||decide ((qZ b).1≥stacks.length)) then _ else _))) _)=_
 by_cases h1:(qZ b).2.2≠0
 ·rw [wA h1,if_pos h1];rfl
 rw [x8 (by omega),cond_false,if_neg h1]
 by_cases h2:vV (vJ b).1=true∧((tX b).1<0∨(tX b).1≥names.length)
 ·rw [if_pos h2,h2.1,A1 h2.2];rfl
 rw [if_neg h2,show (vV (vJ b).1&&(decide ((tX b).1<0)||decide ((tX b).1≥names.length)))=false by
  cases hu:vV (vJ b).1
  ·rfl
  ·rw [Bool.true_and];exact EQ (fun h=>h2 ⟨hu,h⟩)]
 rw [cond_false]
 by_cases h3:(qZ b).1 < -1∨(qZ b).1≥stacks.length
 ·rw [if_pos h3,A1 h3];rfl
 rw [if_neg h3,EQ h3,cond_false,zbs]
 have hn:(((bif vV (vJ b).1 then (xG names (tX b).1).bind fun x_1=>some x_1 else some ([]:List Int)):Option (List Int)))=some (if vV (vJ b).1 then (names[(tX b).1.toNat]?).getD [] else []):=by
  cases hu:vV (vJ b).1
  ·rfl
  ·rw [hu] at h2
   simp only [true_and] at h2
   rw [cond_true,zCw (by omega),List.getElem?_eq_getElem (by omega)];rfl
 refine (congrArg (fun o=>Option.bind o _) hn).trans ?_
 rw [zbs]
 show ((oV 281474976710656 names stacks (qZ b).1).bind _)=_
 rw [X0,zbs]
 show ((fO 281474976710656 (mM names stacks b)).bind _)=_
 rw [JP,zbs]
 by_cases h4:evS (mM names stacks b)≠0
 ·rw [wA h4,if_pos h4];rfl
 ·rw [x8 (by omega),if_neg h4];rfl
def f0 (n:List (List Int)) (s:List zT) (e:xA) (L:List Int):Prop :=
 evS e=0∧∃ a st:Int,L=p8 a e st∧(vV e.Kind=true→∃ j:Nat,a=(j:Int)∧n[j]?=some e.Name)∧(uS e.Kind=true→Has n s (-1) e.Stack st∧e.Stack.length≤32)
theorem f0.mono {n n':List (List Int)} {s s':List zT} {e:xA} {L:List Int} (h:f0 n s e L) (hn:n <+: n') (hs:s <+: s'):f0 n' s' e L:=by
 obtain ⟨h0,a,st,h1,h2,h3⟩:=h
 exact ⟨h0,a,st,h1,fun u=>let ⟨j,e,g⟩:=h2 u;⟨j,e,fM hn g⟩,fun u=>⟨(h3 u).1.mono hn hs,(h3 u).2⟩⟩
theorem RW {n:List (List Int)} {s:List zT} {e:xA} :
  ((jS n s e).2.2.2≠0∧jS n s e=([],[],[],(jS n s e).2.2.2)) ∨
  ((jS n s e).2.2.2=0∧vX n s∧vX (jS n s e).2.1 (jS n s e).2.2.1∧n <+: (jS n s e).2.1∧s <+: (jS n s e).2.2.1 ∧
   ∃ L,(jS n s e).1=yQ L∧f0 (jS n s e).2.1 (jS n s e).2.2.1 e L):=by
 unfold jS
 by_cases hc:nU n s≠0
 ·rw [if_pos hc];exact .inl ⟨by simp,rfl⟩
 rw [if_neg hc]
 have g:vX n s:=G1.1 (by omega)
 by_cases he:evS e≠0
 ·rw [if_pos he];exact .inl ⟨he,rfl⟩
 rw [if_neg he]
 have he0:evS e=0:=by omega
 obtain ⟨_,_,_,_,_,ht,_⟩:=J3 he0
 have hN:(tG n e).2.2≠0∨(tG n e).2.2=0∧vX (tG n e).2.1 s∧n <+: (tG n e).2.1∧(vV e.Kind=true→∃ j:Nat,(tG n e).1=(j:Int)∧(tG n e).2.1[j]?=some e.Name):=by
  unfold tG
  cases hu:vV e.Kind
  ·exact .inr ⟨rfl,g,List.prefix_refl _,fun h=>by cases h⟩
  ·unfold cG at ht
   rw [hu] at ht
   rcases QZ g (x:=e.Name) (by simpa using ht) with h | h
   ·exact .inl (by simp [h.1])
   ·exact .inr ⟨h.1,h.2.2.1,h.2.2.2.1,fun _=>h.2.1⟩
 rcases hN with hN | ⟨h1,h2,h3,h4⟩
 ·rw [if_pos hN];exact .inl ⟨hN,rfl⟩
 rw [if_neg (by omega)]
 have hT:(qW (tG n e).2.1 s e).2.2.2≠0∨(qW (tG n e).2.1 s e).2.2.2=0∧vX (qW (tG n e).2.1 s e).2.1 (qW (tG n e).2.1 s e).2.2.1∧(tG n e).2.1 <+: (qW (tG n e).2.1 s e).2.1∧s <+: (qW (tG n e).2.1 s e).2.2.1 ∧
   (uS e.Kind=true→Has (qW (tG n e).2.1 s e).2.1 (qW (tG n e).2.1 s e).2.2.1 (-1) e.Stack (qW (tG n e).2.1 s e).1∧e.Stack.length≤32):=by
  unfold qW
  cases hu:uS e.Kind
  ·exact .inr ⟨rfl,h2,List.prefix_refl _,List.prefix_refl _,fun h=>by cases h⟩
  ·rcases VS (l:=e.Stack) h2 with h | h
   ·exact .inl h.1
   ·exact .inr ⟨h.1,h.2.2.2.1,h.2.2.2.2.1,h.2.2.2.2.2.1,fun _=>⟨h.2.2.2.2.2.2.1,h.2.1⟩⟩
 rcases hT with hT | ⟨k1,k2,k3,k4,k5⟩
 ·rw [if_pos hT];exact .inl ⟨hT,rfl⟩
 rw [if_neg (by omega)]
 exact .inr ⟨rfl,g,k2,h3.trans k3,k4,_,rfl,he0,_,_,rfl,fun u=>let ⟨j,e,g⟩:=h4 u;⟨j,e,fM k3 g⟩,k5⟩
theorem Has.idx {n:List (List Int)} {s:List zT}:∀ {l:List (List Int)} {at_ i:Int},Has n s at_ l i → -1≤at_→at_<s.length → -1≤i∧i<s.length:=by
 intro l
 induction l with
 | nil=>intro at_ i h h0 h1;simp only [Has] at h;omega
 | cons x r ih =>
  rintro at_ i ⟨a,b,h1,h2,h3⟩ _ _
  have:=(List.getElem?_eq_some_iff.1 h2).1
  exact ih h3 (by omega) (by omega)
theorem L8 {pre post more:List Int} {x:Int} (hx:yU x):vM (yQ (pre++x::post)++more) ((yQ pre).length:Int) 0=(x,((yQ (pre++[x])).length:Int),0):=by
 unfold vM
 rw [if_neg (by simp)]
 have:(yQ (pre++x::post)++more).drop ((yQ pre).length:Int).toNat=wI 9 (wB x)++(yQ post++more):=by
  rw [Int.toNat_natCast,show yQ (pre++x::post)=yQ pre++(wI 9 (wB x)++yQ post) by simp [yQ],List.append_assoc,List.drop_left,List.append_assoc]
 rw [this,GS hx,BV]
 simp
theorem HI {pre post more:List Int} {x d:Int} {c:Bool} (hx:c=true→yU x):pB c d (yQ (pre++(if c then [x] else [])++post)++more) ((yQ pre).length:Int) 0=(if c then x else d,((yQ (pre++if c then [x] else [])).length:Int),0):=by
 cases c
 ·simp [pB]
 ·have:=L8 (pre:=pre) (post:=post) (more:=more) (hx rfl)
  simp only [pB,if_true,List.append_assoc,List.singleton_append] at *
  exact this
theorem Z6 {n:List (List Int)} {s:List zT} {e:xA} {L more:List Int} (g:vX n s) (h:f0 n s e L):kR n s (yQ L++more)=(e,((yQ L).length:Int),0):=by
 obtain ⟨h0,a,st,rfl,hn,hs⟩:=h
 obtain ⟨r1,r2,r3,r4⟩:=JJ h0
 obtain ⟨_,_,k1,k2,hb,_,_⟩:=J3 h0
 have hg1:=g.n1
 have hg2:=g.s1
 have ea:vV e.Kind=true→yU a:=fun u=>by
  obtain ⟨j,rfl,hj⟩:=hn u
  have:=(List.getElem?_eq_some_iff.1 hj).1
  unfold yU;omega
 have es:uS e.Kind=true→yU st:=fun u=>by
  have:=(hs u).1.idx (by omega) (by omega)
  unfold yU;omega
 generalize hB:yQ (p8 a e st)++more=B
 have hK:vJ B=(e.Kind,((yQ [e.Kind]).length:Int),0):=by
  rw [← hB];exact L8 (pre:=[]) r2
 have hA:kA B=(e.At,((yQ [e.Kind,e.At]).length:Int),0):=by
  unfold kA;rw [hK,← hB];exact L8 (pre:=[e.Kind]) r1
 have hF:lM B=0:=by unfold lM;rw [hA,hK,if_neg (by simp only;omega)]
 have hNm:tX B=(if vV e.Kind then a else 0,((yQ ([e.Kind,e.At]++if vV e.Kind then [a] else [])).length:Int),0):=by
  unfold tX;rw [hA,hK,hF,← hB]
  unfold p8
  have:=HI (d:=0) (pre:=[e.Kind,e.At]) (post:=(if u7 e.Kind then [e.N] else [])++(if tF e.Kind then [e.M] else [])++(if uS e.Kind then [st] else [])) (more:=more) ea
  simp only [List.append_assoc] at this ⊢
  exact this
 have hN:pH B=(if u7 e.Kind then e.N else 0,((yQ ([e.Kind,e.At]++(if vV e.Kind then [a] else [])++if u7 e.Kind then [e.N] else [])).length:Int),0):=by
  unfold pH;rw [hNm,hK,← hB]
  unfold p8
  have:=HI (d:=0) (pre:=[e.Kind,e.At]++(if vV e.Kind then [a] else [])) (post:=(if tF e.Kind then [e.M] else [])++(if uS e.Kind then [st] else [])) (more:=more) (c:=u7 e.Kind) (fun _=>r3)
  simp only [List.append_assoc] at this ⊢
  exact this
 have hM:pL B=(if tF e.Kind then e.M else 0,((yQ ([e.Kind,e.At]++(if vV e.Kind then [a] else [])++(if u7 e.Kind then [e.N] else [])++if tF e.Kind then [e.M] else [])).length:Int),0):=by
  unfold pL;rw [hN,hK,← hB]
  unfold p8
  have:=HI (d:=0) (pre:=[e.Kind,e.At]++(if vV e.Kind then [a] else [])++(if u7 e.Kind then [e.N] else [])) (post:=(if uS e.Kind then [st] else [])) (more:=more) (c:=tF e.Kind) (fun _=>r4)
  simp only [List.append_assoc] at this ⊢
  exact this
 have hS:qZ B=(if uS e.Kind then st else -1,((yQ (p8 a e st)).length:Int),0):=by
  unfold qZ;rw [hM,hK,← hB]
  unfold p8
  have:=HI (d := -1) (pre:=[e.Kind,e.At]++(if vV e.Kind then [a] else [])++(if u7 e.Kind then [e.N] else [])++(if tF e.Kind then [e.M] else [])) (post:=[]) (more:=more) es
  simp only [List.append_assoc,List.append_nil] at this ⊢
  exact this
 rw [Q3] at hb
 simp only [Bool.or_eq_false_iff,Bool.and_eq_false_iff,Bool.not_eq_false',decide_eq_false_iff_not,bne_eq_false_iff_eq,beq_iff_eq] at hb
 obtain ⟨b1,b2,b3,b4⟩:=hb
 have hchk:nU n s=0:=G1.2 g
 have hst : -1≤(qZ B).1∧(qZ B).1<s.length∧(m6 n s (qZ B).1).1=e.Stack:=by
  rw [hS];simp only
  cases hu:uS e.Kind
  ·refine ⟨by simp,by simp;omega,?_⟩
   rw [hu] at b4
   have:e.Stack=[]:=List.eq_nil_of_length_eq_zero (by simp at b4;simpa using b4)
   unfold m6
   rw [if_neg (by omega),if_neg (by simp;omega),this]
   simp [SZ]
  ·have hi:=(hs hu).1.idx (by omega) (by omega)
   refine ⟨hi.1,hi.2,?_⟩
   unfold m6
   rw [if_neg (by omega),if_neg (by simp;omega)]
   exact (hs hu).1.list (hs hu).2
 have hE:mM n s B=e:=by
  unfold mM
  rw [hst.2.2,hA,hK,hN,hM,hNm]
  obtain ⟨eA,eK,eNm,eN,eM,eS⟩:=e
  simp only at *
  congr 1
  ·cases hu:vV eK
   ·rw [hu] at b1;simpa using b1.symm
   ·obtain ⟨j,rfl,hj⟩:=hn hu
    simp [hj]
  ·cases hu:u7 eK
   ·rw [hu] at b2;simpa using b2.elim (fun h=>by cases h) Eq.symm
   ·rfl
  ·cases hu:tF eK
   ·rw [hu] at b3;simpa using b3.elim (fun h=>by cases h) Eq.symm
   ·rfl
 unfold kR
 rw [if_neg (by omega),if_neg (by rw [hS];simp),if_neg,if_neg (by omega),hE,if_neg (by omega),hS]
 rintro ⟨hu,hr⟩
 rw [hK] at hu
 obtain ⟨j,rfl,hj⟩:=hn hu
 have:=(List.getElem?_eq_some_iff.1 hj).1
 rw [hNm] at hr
 simp only [hu,if_true] at hr
 omega
theorem M3 {n:List (List Int)} {s:List zT} {e:xA} {L:List Int} (g:vX n s) (h:f0 n s e L):(∀ x∈yQ L,xO x)∧2≤(yQ L).length∧(yQ L).length≤50:=by
 obtain ⟨h0,a,st,rfl,hn,hs⟩:=h
 obtain ⟨r1,r2,r3,r4⟩:=JJ h0
 have hg1:=g.n1
 have hg2:=g.s1
 have ea:vV e.Kind=true→yU a:=fun u=>by
  obtain ⟨j,rfl,hj⟩:=hn u
  have:=(List.getElem?_eq_some_iff.1 hj).1
  unfold yU;omega
 have es:uS e.Kind=true→yU st:=fun u=>by
  have:=(hs u).1.idx (by omega) (by omega)
  unfold yU;omega
 refine ⟨BO ?_,?_⟩
 ·intro x hx
  unfold p8 at hx
  simp only [List.mem_append] at hx
  rcases hx with ((((hx | hx) | hx) | hx))
  ·rcases hx with hx | hx
   ·simp at hx;rcases hx with rfl | rfl<;>assumption
   ·split at hx
    ·simp at hx;subst hx;exact ea (by assumption)
    ·cases hx
  ·split at hx
   ·simp at hx;subst hx;exact r3
   ·cases hx
  ·split at hx
   ·simp at hx;subst hx;exact r4
   ·cases hx
  ·split at hx
   ·simp at hx;subst hx;exact es (by assumption)
   ·cases hx
 ·have:=aG (p8 a e st)
  have hl:2≤(p8 a e st).length∧(p8 a e st).length≤5:=by
   have:=T6 e.Kind
   unfold p8
   cases h1:vV e.Kind<;>cases h2:u7 e.Kind<;>cases h3:tF e.Kind<;>cases h4:uS e.Kind<;>simp_all
  omega
end Go.Ab
