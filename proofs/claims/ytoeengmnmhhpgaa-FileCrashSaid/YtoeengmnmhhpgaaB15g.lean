/- Plain laws of the functions wU this seat's, laid anew from another seat's text. No conditions but those that the theorems name. -/
import Derived.Test.YtoeengmnmhhpgaaP15xD
import Derived.Test.YtoeengmnmhhpgaaB15a
import Derived.Test.YtoeengmnmhhpgaaB15b
import Derived.Test.YtoeengmnmhhpgaaB15c
import Derived.Test.YtoeengmnmhhpgaaB15d
import Derived.Test.YtoeengmnmhhpgaaB15e
import Derived.Test.YtoeengmnmhhpgaaB15f
namespace Go.Ab
open Go
set_option linter.unusedVariables false
def kM (c:Bool) (d:Int) (b:List Int) (u f:Int):Int×Int×Int:=if c then vI b u f else (d,u,f)
def ev0:y6:=⟨0,0,[],0,0,[]⟩
def vF (b:List Int):Int×Int×Int:=vI b 0 0
def j5 (b:List Int):Int×Int×Int:=vI b (vF b).2.1 (vF b).2.2
def gM (b:List Int):Int:=if (j5 b).2.2=0∧((vF b).1<1∨(vF b).1>12) then 10 else (j5 b).2.2
def tW (b:List Int):Int×Int×Int:=kM (vX (vF b).1) 0 b (j5 b).2.1 (gM b)
def pO (b:List Int):Int×Int×Int:=kM (u4 (vF b).1) 0 b (tW b).2.1 (tW b).2.2
def pJ (b:List Int):Int×Int×Int:=kM (tH (vF b).1) 0 b (pO b).2.1 (pO b).2.2
def qT (b:List Int):Int×Int×Int:=kM (uS (vF b).1) (-1) b (pJ b).2.1 (pJ b).2.2
def rO (names:List (List Int)) (stacks:List zS) (b:List Int):y6 :=
 ⟨(j5 b).1,(vF b).1,if vX (vF b).1 then (names[(tW b).1.toNat]?).getD [] else [],(pO b).1,(pJ b).1,(mO names stacks (qT b).1).1⟩
def kR (names:List (List Int)) (stacks:List zS) (b:List Int):y6×Int×Int :=
 if n6 names stacks≠0 then (ev0,0,1) else
 if (qT b).2.2≠0 then (ev0,0,(qT b).2.2) else
 if vX (vF b).1=true∧((tW b).1<0∨(tW b).1≥names.length) then (ev0,0,2) else
 if (qT b).1 < -1∨(qT b).1≥stacks.length then (ev0,0,2) else
 if evS (rO names stacks b)≠0 then (ev0,0,10) else (rO names stacks b,(qT b).2.1,0)
theorem G4 {c:Bool} {d:Int} {b:List Int} {u f:Int} (hb:∀ x∈b,xO x) (h0:0≤u) (h1:u≤b.length):u≤(kM c d b u f).2.1∧(kM c d b u f).2.1≤b.length:=by
 unfold kM
 split
 ·exact ⟨(nP hb h0 h1).2.1,(nP hb h0 h1).2.2.1⟩
 ·exact ⟨Int.le_refl _,h1⟩
theorem VD {b:List Int} (hb:∀ x∈b,xO x) :
  (0≤(vF b).2.1∧(vF b).2.1≤b.length)∧(0≤(j5 b).2.1∧(j5 b).2.1≤b.length)∧(0≤(tW b).2.1∧(tW b).2.1≤b.length)∧(0≤(pO b).2.1∧(pO b).2.1≤b.length)∧(0≤(pJ b).2.1∧(pJ b).2.1≤b.length)∧(0≤(qT b).2.1∧(qT b).2.1≤b.length):=by
 have k:=nP (u:=0) (f:=0) hb (by omega) (by omega)
 have a:=nP (u:=(vF b).2.1) (f:=(vF b).2.2) hb (by unfold vF;omega) (by unfold vF;omega)
 have n1:_:=G4 (c:=vX (vF b).1) (d:=0) (u:=(j5 b).2.1) (f:=gM b) hb (by unfold j5;have:=k.2;unfold vF at *;omega) (by unfold j5;omega)
 have ha:0≤(j5 b).2.1:=by unfold j5;have:=k.2.1;unfold vF at *;omega
 have n2:=G4 (c:=u4 (vF b).1) (d:=0) (u:=(tW b).2.1) (f:=(tW b).2.2) hb (by unfold tW;omega) (by unfold tW;omega)
 have h2:0≤(tW b).2.1:=by unfold tW;omega
 have n3:=G4 (c:=tH (vF b).1) (d:=0) (u:=(pO b).2.1) (f:=(pO b).2.2) hb (by unfold pO;omega) (by unfold pO;omega)
 have h3:0≤(pO b).2.1:=by unfold pO;omega
 have n4:=G4 (c:=uS (vF b).1) (d := -1) (u:=(pJ b).2.1) (f:=(pJ b).2.2) hb (by unfold pJ;omega) (by unfold pJ;omega)
 have h4:0≤(pJ b).2.1:=by unfold pJ;omega
 exact ⟨⟨k.2.1,k.2.2.1⟩,⟨ha,a.2.2.1⟩,⟨h2,n1.2⟩,⟨h3,n2.2⟩,⟨h4,n3.2⟩,⟨by unfold qT;omega,n4.2⟩⟩
theorem V5 {names:List (List Int)} {stacks:List zS} {b:List Int} (hb:∀ x∈b,xO x) (hl:b.length≤100000):BZ 281474976710656 names stacks b=some (kR names stacks b):=by
 unfold BZ kR
 rw [JC,zbs]
 by_cases hc:n6 names stacks≠0
 ·rw [wA hc,if_pos hc];rfl
 rw [x8 (by omega),cond_false,if_neg hc]
 obtain ⟨⟨k0,k1⟩,⟨a0,a1⟩,⟨m0,m1⟩,⟨n0,n1⟩,⟨p0,p1⟩,_⟩:=VD hb
 rw [EC hb hl (by omega) (by omega),zbs]
 show (nR 281474976710656 ⟨b,(vF b).2.1,(vF b).2.2⟩).bind _=_
 rw [EC hb hl k0 k1,zbs]
 have hf:(((bif (((j5 b).2.2==(0:Int))&&(decide ((vF b).1<(1:Int))||decide ((vF b).1>(12:Int)))) then some (10:Int) else some (j5 b).2.2):Option Int))=some (gM b):=by
  unfold gM
  by_cases h1:(j5 b).2.2=0
  ·by_cases h2:(vF b).1<1∨(vF b).1>12
   ·rw [if_pos ⟨h1,h2⟩,AI h2,h1];rfl
   ·rw [if_neg (fun h=>h2 h.2),G3 h2,h1];rfl
  ·rw [if_neg (fun h=>h1 h.1),show ((j5 b).2.2==(0:Int))=false by simpa using h1];rfl
 refine (congrArg (fun o=>Option.bind o _) hf).trans ?_
 rw [zbs]
 show (some (vX (vF b).1,u4 (vF b).1,tH (vF b).1,uS (vF b).1)).bind _=_
 rw [zbs]
 have hA:∀ (c:Bool) (d u f:Int),0≤u→u≤b.length→(bif c then (nR 281474976710656 (⟨b,u,f⟩:jM)).bind (fun r_5=>some (r_5.1,r_5.2.b,r_5.2.used,r_5.2.fault)) else some (d,b,u,f))=some ((kM c d b u f).1,b,(kM c d b u f).2.1,(kM c d b u f).2.2):=by
  intro c d u f h0 h1
  cases c
  ·rfl
  ·rw [cond_true,EC hb hl h0 h1,zbs];rfl
 have hB:∀ (c:Bool) (d u f:Int),0≤u→u≤b.length→(bif c then (nR 281474976710656 (⟨b,u,f⟩:jM)).bind (fun r_5=>some (r_5.2.b,r_5.2.used,r_5.2.fault,r_5.1)) else some (b,u,f,d))=some (b,(kM c d b u f).2.1,(kM c d b u f).2.2,(kM c d b u f).1):=by
  intro c d u f h0 h1
  cases c
  ·rfl
  ·rw [cond_true,EC hb hl h0 h1,zbs];rfl
 refine (congrArg (fun o=>Option.bind o _) (hA (vX (vF b).1) 0 (j5 b).2.1 (gM b) a0 a1)).trans ?_
 rw [zbs]
 refine (congrArg (fun o=>Option.bind o _) (hB (u4 (vF b).1) 0 (tW b).2.1 (tW b).2.2 m0 m1)).trans ?_
 rw [zbs]
 refine (congrArg (fun o=>Option.bind o _) (hB (tH (vF b).1) 0 (pO b).2.1 (pO b).2.2 n0 n1)).trans ?_
 rw [zbs]
 refine (congrArg (fun o=>Option.bind o _) (hA (uS (vF b).1) (-1) (pJ b).2.1 (pJ b).2.2 p0 p1)).trans ?_
 rw [zbs]
 show (Option.bind (bif ((qT b).2.2 != 0) then _ else (bif (vX (vF b).1&&(decide ((tW b).1<0)||decide ((tW b).1≥names.length))) then _ else (bif (decide ((qT b).1 < -1)||decide ((qT b).1≥stacks.length)) then _ else _))) _)=_
 by_cases h1:(qT b).2.2≠0
 ·rw [wA h1,if_pos h1];rfl
 rw [x8 (by omega),cond_false,if_neg h1]
 by_cases h2:vX (vF b).1=true∧((tW b).1<0∨(tW b).1≥names.length)
 ·rw [if_pos h2,h2.1,AI h2.2];rfl
 rw [if_neg h2,show (vX (vF b).1&&(decide ((tW b).1<0)||decide ((tW b).1≥names.length)))=false by
  cases hu:vX (vF b).1
  ·rfl
  ·rw [Bool.true_and];exact G3 (fun h=>h2 ⟨hu,h⟩)]
 rw [cond_false]
 by_cases h3:(qT b).1 < -1∨(qT b).1≥stacks.length
 ·rw [if_pos h3,AI h3];rfl
 rw [if_neg h3,G3 h3,cond_false,zbs]
 have hn:(((bif vX (vF b).1 then (xI names (tW b).1).bind fun x_1=>some x_1 else some ([]:List Int)):Option (List Int)))=some (if vX (vF b).1 then (names[(tW b).1.toNat]?).getD [] else []):=by
  cases hu:vX (vF b).1
  ·rfl
  ·rw [hu] at h2
   simp only [true_and] at h2
   rw [cond_true,zDQ (by omega),List.getElem?_eq_getElem (by omega)];rfl
 refine (congrArg (fun o=>Option.bind o _) hn).trans ?_
 rw [zbs]
 show ((rP 281474976710656 names stacks (qT b).1).bind _)=_
 rw [zCz,zbs]
 show ((fI 281474976710656 (rO names stacks b)).bind _)=_
 rw [MF,zbs]
 by_cases h4:evS (rO names stacks b)≠0
 ·rw [wA h4,if_pos h4];rfl
 ·rw [x8 (by omega),if_neg h4];rfl
def g6 (n:List (List Int)) (s:List zS) (e:y6) (L:List Int):Prop :=
 evS e=0∧∃ a st:Int,L=nC a e st∧(vX e.Kind=true→∃ j:Nat,a=(j:Int)∧n[j]?=some e.Name)∧(uS e.Kind=true→Has n s (-1) e.Stack st∧e.Stack.length≤32)
theorem g6.mono {n n':List (List Int)} {s s':List zS} {e:y6} {L:List Int} (h:g6 n s e L) (hn:n <+: n') (hs:s <+: s'):g6 n' s' e L:=by
 obtain ⟨h0,a,st,h1,h2,h3⟩:=h
 exact ⟨h0,a,st,h1,fun u=>let ⟨j,e,g⟩:=h2 u;⟨j,e,fG hn g⟩,fun u=>⟨(h3 u).1.mono hn hs,(h3 u).2⟩⟩
theorem VH {n:List (List Int)} {s:List zS} {e:y6} :
  ((qP n s e).2.2.2≠0∧qP n s e=([],[],[],(qP n s e).2.2.2)) ∨
  ((qP n s e).2.2.2=0∧vW n s∧vW (qP n s e).2.1 (qP n s e).2.2.1∧n <+: (qP n s e).2.1∧s <+: (qP n s e).2.2.1 ∧
   ∃ L,(qP n s e).1=yP L∧g6 (qP n s e).2.1 (qP n s e).2.2.1 e L):=by
 unfold qP
 by_cases hc:n6 n s≠0
 ·rw [if_pos hc];exact .inl ⟨by simp,rfl⟩
 rw [if_neg hc]
 have g:vW n s:=GG.1 (by omega)
 by_cases he:evS e≠0
 ·rw [if_pos he];exact .inl ⟨he,rfl⟩
 rw [if_neg he]
 have he0:evS e=0:=by omega
 obtain ⟨_,_,_,_,_,ht,_⟩:=LZ he0
 have hN:(uU n e).2.2≠0∨(uU n e).2.2=0∧vW (uU n e).2.1 s∧n <+: (uU n e).2.1∧(vX e.Kind=true→∃ j:Nat,(uU n e).1=(j:Int)∧(uU n e).2.1[j]?=some e.Name):=by
  unfold uU
  cases hu:vX e.Kind
  ·exact .inr ⟨rfl,g,List.prefix_refl _,fun h=>by cases h⟩
  ·unfold bC at ht
   rw [hu] at ht
   rcases OK g (x:=e.Name) (by simpa using ht) with h | h
   ·exact .inl (by simp [h.1])
   ·exact .inr ⟨h.1,h.2.2.1,h.2.2.2.1,fun _=>h.2.1⟩
 rcases hN with hN | ⟨h1,h2,h3,h4⟩
 ·rw [if_pos hN];exact .inl ⟨hN,rfl⟩
 rw [if_neg (by omega)]
 have hT:(t8 (uU n e).2.1 s e).2.2.2≠0∨(t8 (uU n e).2.1 s e).2.2.2=0∧vW (t8 (uU n e).2.1 s e).2.1 (t8 (uU n e).2.1 s e).2.2.1∧(uU n e).2.1 <+: (t8 (uU n e).2.1 s e).2.1∧s <+: (t8 (uU n e).2.1 s e).2.2.1 ∧
   (uS e.Kind=true→Has (t8 (uU n e).2.1 s e).2.1 (t8 (uU n e).2.1 s e).2.2.1 (-1) e.Stack (t8 (uU n e).2.1 s e).1∧e.Stack.length≤32):=by
  unfold t8
  cases hu:uS e.Kind
  ·exact .inr ⟨rfl,h2,List.prefix_refl _,List.prefix_refl _,fun h=>by cases h⟩
  ·rcases XM (l:=e.Stack) h2 with h | h
   ·exact .inl h.1
   ·exact .inr ⟨h.1,h.2.2.2.1,h.2.2.2.2.1,h.2.2.2.2.2.1,fun _=>⟨h.2.2.2.2.2.2.1,h.2.1⟩⟩
 rcases hT with hT | ⟨k1,k2,k3,k4,k5⟩
 ·rw [if_pos hT];exact .inl ⟨hT,rfl⟩
 rw [if_neg (by omega)]
 exact .inr ⟨rfl,g,k2,h3.trans k3,k4,_,rfl,he0,_,_,rfl,fun u=>let ⟨j,e,g⟩:=h4 u;⟨j,e,fG k3 g⟩,k5⟩
theorem Has.idx {n:List (List Int)} {s:List zS}:∀ {l:List (List Int)} {at_ i:Int},Has n s at_ l i → -1≤at_→at_<s.length → -1≤i∧i<s.length:=by
 intro l
 induction l with
 | nil=>intro at_ i h h0 h1;simp only [Has] at h;omega
 | cons x r ih =>
  rintro at_ i ⟨a,b,h1,h2,h3⟩ _ _
  have:=(List.getElem?_eq_some_iff.1 h2).1
  exact ih h3 (by omega) (by omega)
theorem MT {pre post more:List Int} {x:Int} (hx:yS x):vI (yP (pre++x::post)++more) ((yP pre).length:Int) 0=(x,((yP (pre++[x])).length:Int),0):=by
 unfold vI
 rw [if_neg (by simp)]
 have:(yP (pre++x::post)++more).drop ((yP pre).length:Int).toNat=wK 9 (wF x)++(yP post++more):=by
  rw [Int.toNat_natCast,show yP (pre++x::post)=yP pre++(wK 9 (wF x)++yP post) by simp [yP],List.append_assoc,List.drop_left,List.append_assoc]
 rw [this,G7 hx,BU]
 simp
theorem EF {pre post more:List Int} {x d:Int} {c:Bool} (hx:c=true→yS x):kM c d (yP (pre++(if c then [x] else [])++post)++more) ((yP pre).length:Int) 0=(if c then x else d,((yP (pre++if c then [x] else [])).length:Int),0):=by
 cases c
 ·simp [kM]
 ·have:=MT (pre:=pre) (post:=post) (more:=more) (hx rfl)
  simp only [kM,if_true,List.append_assoc,List.singleton_append] at *
  exact this
theorem zEi {n:List (List Int)} {s:List zS} {e:y6} {L more:List Int} (g:vW n s) (h:g6 n s e L):kR n s (yP L++more)=(e,((yP L).length:Int),0):=by
 obtain ⟨h0,a,st,rfl,hn,hs⟩:=h
 obtain ⟨r1,r2,r3,r4⟩:=MN h0
 obtain ⟨_,_,k1,k2,hb,_,_⟩:=LZ h0
 have hg1:=g.n1
 have hg2:=g.s1
 have ea:vX e.Kind=true→yS a:=fun u=>by
  obtain ⟨j,rfl,hj⟩:=hn u
  have:=(List.getElem?_eq_some_iff.1 hj).1
  unfold yS;omega
 have es:uS e.Kind=true→yS st:=fun u=>by
  have:=(hs u).1.idx (by omega) (by omega)
  unfold yS;omega
 generalize hB:yP (nC a e st)++more=B
 have hK:vF B=(e.Kind,((yP [e.Kind]).length:Int),0):=by
  rw [← hB];exact MT (pre:=[]) r2
 have hA:j5 B=(e.At,((yP [e.Kind,e.At]).length:Int),0):=by
  unfold j5;rw [hK,← hB];exact MT (pre:=[e.Kind]) r1
 have hF:gM B=0:=by unfold gM;rw [hA,hK,if_neg (by simp only;omega)]
 have hNm:tW B=(if vX e.Kind then a else 0,((yP ([e.Kind,e.At]++if vX e.Kind then [a] else [])).length:Int),0):=by
  unfold tW;rw [hA,hK,hF,← hB]
  unfold nC
  have:=EF (d:=0) (pre:=[e.Kind,e.At]) (post:=(if u4 e.Kind then [e.N] else [])++(if tH e.Kind then [e.M] else [])++(if uS e.Kind then [st] else [])) (more:=more) ea
  simp only [List.append_assoc] at this ⊢
  exact this
 have hN:pO B=(if u4 e.Kind then e.N else 0,((yP ([e.Kind,e.At]++(if vX e.Kind then [a] else [])++if u4 e.Kind then [e.N] else [])).length:Int),0):=by
  unfold pO;rw [hNm,hK,← hB]
  unfold nC
  have:=EF (d:=0) (pre:=[e.Kind,e.At]++(if vX e.Kind then [a] else [])) (post:=(if tH e.Kind then [e.M] else [])++(if uS e.Kind then [st] else [])) (more:=more) (c:=u4 e.Kind) (fun _=>r3)
  simp only [List.append_assoc] at this ⊢
  exact this
 have hM:pJ B=(if tH e.Kind then e.M else 0,((yP ([e.Kind,e.At]++(if vX e.Kind then [a] else [])++(if u4 e.Kind then [e.N] else [])++if tH e.Kind then [e.M] else [])).length:Int),0):=by
  unfold pJ;rw [hN,hK,← hB]
  unfold nC
  have:=EF (d:=0) (pre:=[e.Kind,e.At]++(if vX e.Kind then [a] else [])++(if u4 e.Kind then [e.N] else [])) (post:=(if uS e.Kind then [st] else [])) (more:=more) (c:=tH e.Kind) (fun _=>r4)
  simp only [List.append_assoc] at this ⊢
  exact this
 have hS:qT B=(if uS e.Kind then st else -1,((yP (nC a e st)).length:Int),0):=by
  unfold qT;rw [hM,hK,← hB]
  unfold nC
  have:=EF (d := -1) (pre:=[e.Kind,e.At]++(if vX e.Kind then [a] else [])++(if u4 e.Kind then [e.N] else [])++(if tH e.Kind then [e.M] else [])) (post:=[]) (more:=more) es
  simp only [List.append_assoc,List.append_nil] at this ⊢
  exact this
 rw [OH] at hb
 simp only [Bool.or_eq_false_iff,Bool.and_eq_false_iff,Bool.not_eq_false',decide_eq_false_iff_not,bne_eq_false_iff_eq,beq_iff_eq] at hb
 obtain ⟨b1,b2,b3,b4⟩:=hb
 have hchk:n6 n s=0:=GG.2 g
 have hst : -1≤(qT B).1∧(qT B).1<s.length∧(mO n s (qT B).1).1=e.Stack:=by
  rw [hS];simp only
  cases hu:uS e.Kind
  ·refine ⟨by simp,by simp;omega,?_⟩
   rw [hu] at b4
   have:e.Stack=[]:=List.eq_nil_of_length_eq_zero (by simp at b4;simpa using b4)
   unfold mO
   rw [if_neg (by omega),if_neg (by simp;omega),this]
   simp [UA]
  ·have hi:=(hs hu).1.idx (by omega) (by omega)
   refine ⟨hi.1,hi.2,?_⟩
   unfold mO
   rw [if_neg (by omega),if_neg (by simp;omega)]
   exact (hs hu).1.list (hs hu).2
 have hE:rO n s B=e:=by
  unfold rO
  rw [hst.2.2,hA,hK,hN,hM,hNm]
  obtain ⟨eA,eK,eNm,eN,eM,eS⟩:=e
  simp only at *
  congr 1
  ·cases hu:vX eK
   ·rw [hu] at b1;simpa using b1.symm
   ·obtain ⟨j,rfl,hj⟩:=hn hu
    simp [hj]
  ·cases hu:u4 eK
   ·rw [hu] at b2;simpa using b2.elim (fun h=>by cases h) Eq.symm
   ·rfl
  ·cases hu:tH eK
   ·rw [hu] at b3;simpa using b3.elim (fun h=>by cases h) Eq.symm
   ·rfl
 unfold kR
 rw [if_neg (by omega),if_neg (by rw [hS];simp),if_neg,if_neg (by omega),hE,if_neg (by omega),hS]
 rintro ⟨hu,hr⟩
 rw [hK] at hu
 obtain ⟨j,rfl,hj⟩:=hn hu
 have:=(List.getElem?_eq_some_iff.1 hj).1
 rw [hNm] at hr
 simp only [hu,if_true] at hr
 omega
theorem JT {n:List (List Int)} {s:List zS} {e:y6} {L:List Int} (g:vW n s) (h:g6 n s e L):(∀ x∈yP L,xO x)∧2≤(yP L).length∧(yP L).length≤50:=by
 obtain ⟨h0,a,st,rfl,hn,hs⟩:=h
 obtain ⟨r1,r2,r3,r4⟩:=MN h0
 have hg1:=g.n1
 have hg2:=g.s1
 have ea:vX e.Kind=true→yS a:=fun u=>by
  obtain ⟨j,rfl,hj⟩:=hn u
  have:=(List.getElem?_eq_some_iff.1 hj).1
  unfold yS;omega
 have es:uS e.Kind=true→yS st:=fun u=>by
  have:=(hs u).1.idx (by omega) (by omega)
  unfold yS;omega
 refine ⟨B0 ?_,?_⟩
 ·intro x hx
  unfold nC at hx
  simp only [List.mem_append] at hx
  rcases hx with ((((hx | hx) | hx) | hx))
  ·rcases hx with hx | hx
   ·simp at hx;rcases hx with rfl | rfl<;>assumption
   ·split at hx
    ·simp at hx;subst hx;exact ea (by assumption)
    ·cases hx
  ·split at hx
   ·simp at hx;subst hx;exact r3
   ·cases hx
  ·split at hx
   ·simp at hx;subst hx;exact r4
   ·cases hx
  ·split at hx
   ·simp at hx;subst hx;exact es (by assumption)
   ·cases hx
 ·have:=aL (nC a e st)
  have hl:2≤(nC a e st).length∧(nC a e st).length≤5:=by
   have:=S3 e.Kind
   unfold nC
   cases h1:vX e.Kind<;>cases h2:u4 e.Kind<;>cases h3:tH e.Kind<;>cases h4:uS e.Kind<;>simp_all
  omega
end Go.Ab
