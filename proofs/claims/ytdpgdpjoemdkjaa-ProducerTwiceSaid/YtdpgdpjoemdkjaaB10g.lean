/- Plain laws of the functions uI this seat's, laid anew from another seat's text. No conditions but those that the theorems name. -/
import Derived.Test.YtdpgdpjoemdkjaaP10xD
import Derived.Test.YtdpgdpjoemdkjaaB10a
import Derived.Test.YtdpgdpjoemdkjaaB10b
import Derived.Test.YtdpgdpjoemdkjaaB10c
import Derived.Test.YtdpgdpjoemdkjaaB10d
import Derived.Test.YtdpgdpjoemdkjaaB10e
import Derived.Test.YtdpgdpjoemdkjaaB10f
namespace Go.Ab
open Go
set_option linter.unusedVariables false
def zA5 (n:List (List Int)) (s:List zJ) (e:zE) (L:List Int):Prop :=
 evS e=0∧∃ a st:Int,L=vR a e st∧(y9 e.Kind=true→∃ j:Nat,a=(j:Int)∧n[j]?=some e.Name)∧(xM e.Kind=true→Has n s (-1) e.Stack st∧e.Stack.length≤32)
theorem zA5.mono {n n':List (List Int)} {s s':List zJ} {e:zE} {L:List Int} (h:zA5 n s e L) (hn:n <+: n') (hs:s <+: s'):zA5 n' s' e L:=by
 obtain ⟨h0,a,st,h1,h2,h3⟩:=h
 exact ⟨h0,a,st,h1,fun u=>let ⟨j,e,g⟩:=h2 u;⟨j,e,zAS hn g⟩,fun u=>⟨(h3 u).1.mono hn hs,(h3 u).2⟩⟩
theorem zDX {n:List (List Int)} {s:List zJ} {e:zE} :
  ((wN n s e).2.2.2≠0∧wN n s e=([],[],[],(wN n s e).2.2.2)) ∨
  ((wN n s e).2.2.2=0∧vB n s∧vB (wN n s e).2.1 (wN n s e).2.2.1∧n <+: (wN n s e).2.1∧s <+: (wN n s e).2.2.1 ∧
   ∃ L,(wN n s e).1=xL L∧zA5 (wN n s e).2.1 (wN n s e).2.2.1 e L):=by
 unfold wN
 by_cases hc:jN n s≠0
 ·rw [if_pos hc];exact .inl ⟨by simp,rfl⟩
 rw [if_neg hc]
 have g:vB n s:=zAP.1 (by omega)
 by_cases he:evS e≠0
 ·rw [if_pos he];exact .inl ⟨he,rfl⟩
 rw [if_neg he]
 have he0:evS e=0:=by omega
 obtain ⟨_,_,_,_,_,ht,_⟩:=zDz he0
 have hN:(t4 n e).2.2≠0∨(t4 n e).2.2=0∧vB (t4 n e).2.1 s∧n <+: (t4 n e).2.1∧(y9 e.Kind=true→∃ j:Nat,(t4 n e).1=(j:Int)∧(t4 n e).2.1[j]?=some e.Name):=by
  unfold t4
  cases hu:y9 e.Kind
  ·exact .inr ⟨rfl,g,List.prefix_refl _,fun h=>by cases h⟩
  ·unfold zCJ at ht
   rw [hu] at ht
   rcases zEW g (x:=e.Name) (by simpa using ht) with h | h
   ·exact .inl (by simp [h.1])
   ·exact .inr ⟨h.1,h.2.2.1,h.2.2.2.1,fun _=>h.2.1⟩
 rcases hN with hN | ⟨h1,h2,h3,h4⟩
 ·rw [if_pos hN];exact .inl ⟨hN,rfl⟩
 rw [if_neg (by omega)]
 have hT:(jY (t4 n e).2.1 s e).2.2.2≠0∨(jY (t4 n e).2.1 s e).2.2.2=0∧vB (jY (t4 n e).2.1 s e).2.1 (jY (t4 n e).2.1 s e).2.2.1∧(t4 n e).2.1 <+: (jY (t4 n e).2.1 s e).2.1∧s <+: (jY (t4 n e).2.1 s e).2.2.1 ∧
   (xM e.Kind=true→Has (jY (t4 n e).2.1 s e).2.1 (jY (t4 n e).2.1 s e).2.2.1 (-1) e.Stack (jY (t4 n e).2.1 s e).1∧e.Stack.length≤32):=by
  unfold jY
  cases hu:xM e.Kind
  ·exact .inr ⟨rfl,h2,List.prefix_refl _,List.prefix_refl _,fun h=>by cases h⟩
  ·rcases zG9 (l:=e.Stack) h2 with h | h
   ·exact .inl h.1
   ·exact .inr ⟨h.1,h.2.2.2.1,h.2.2.2.2.1,h.2.2.2.2.2.1,fun _=>⟨h.2.2.2.2.2.2.1,h.2.1⟩⟩
 rcases hT with hT | ⟨k1,k2,k3,k4,k5⟩
 ·rw [if_pos hT];exact .inl ⟨hT,rfl⟩
 rw [if_neg (by omega)]
 exact .inr ⟨rfl,g,k2,h3.trans k3,k4,_,rfl,he0,_,_,rfl,fun u=>let ⟨j,e,g⟩:=h4 u;⟨j,e,zAS k3 g⟩,k5⟩
theorem zNn {n:List (List Int)} {s:List zJ} {e:zE}:(wN n s e).2.1.length≤1000∧(wN n s e).2.2.1.length≤1000:=by
 rcases zDX (n:=n) (s:=s) (e:=e) with ⟨_,h⟩ | ⟨_,_,g,_⟩
 ·rw [h];simp
 ·exact ⟨g.n1,g.s1⟩
theorem Has.idx {n:List (List Int)} {s:List zJ}:∀ {l:List (List Int)} {at_ i:Int},Has n s at_ l i → -1≤at_→at_<s.length → -1≤i∧i<s.length:=by
 intro l
 induction l with
 | nil=>intro at_ i h h0 h1;simp only [Has] at h;omega
 | cons x r ih =>
  rintro at_ i ⟨a,b,h1,h2,h3⟩ _ _
  have:=(List.getElem?_eq_some_iff.1 h2).1
  exact ih h3 (by omega) (by omega)
theorem Has.snoc {n:List (List Int)} {s:List zJ} {x:List Int} {a b:Nat} {c:Int} (ha:n[a]?=some x) (hb:s[b]?=some ⟨c,(a:Int)⟩):∀ {l:List (List Int)} {at_:Int},Has n s at_ l c→Has n s at_ (l++[x]) (b:Int):=by
 intro l
 induction l with
 | nil=>intro at_ h;simp only [Has] at h;subst h;exact ⟨a,b,ha,hb,rfl⟩
 | cons y r ih =>
  rintro at_ ⟨a2,b2,h1,h2,h3⟩
  exact ⟨a2,b2,h1,h2,ih h3⟩
theorem vB.path {n:List (List Int)} {s:List zJ} (g:vB n s):∀ (k:Nat) (i:Int), -1≤i→i<s.length→dOf (dsF s) i≤k→Has n s (-1) (kZ n s k i).reverse i:=by
 intro k
 induction k with
 | zero =>
  intro i h0 h1 hd
  have:=g.depth0 h0 h1
  have hi:i = -1:=by omega
  subst hi;rfl
 | succ k ih =>
  intro i h0 h1 hd
  by_cases hi:i<0
  ·have hi:i = -1:=by omega
   subst hi;rfl
  obtain ⟨j,rfl⟩:=Int.eq_ofNat_of_zero_le (show 0≤i by omega)
  have hj:j<s.length:=by omega
  have hp:=List.getElem?_eq_getElem hj
  obtain ⟨q1,q2,q3,q4,q5,q6,_⟩:=g.pair hp
  simp only [kZ]
  rw [if_neg hi,Int.toNat_natCast,hp]
  simp only [List.reverse_cons]
  have h:=ih (s[j]).c0 q1 (by omega) (by omega)
  have hn:n[(s[j]).c1.toNat]?=some ((n[(s[j]).c1.toNat]?).getD []):=by rw [List.getElem?_eq_getElem (by omega)];rfl
  refine Has.snoc hn ?_ h
  rw [hp,Int.toNat_of_nonneg q3]
theorem zG2 {pre post more:List Int} {x:Int} (hx:yS x):pB (xL (pre++x::post)++more) ((xL pre).length:Int) 0=(x,((xL (pre++[x])).length:Int),0):=by
 unfold pB
 rw [if_neg (by simp)]
 have:(xL (pre++x::post)++more).drop ((xL pre).length:Int).toNat=wT 9 (wF x)++(xL post++more):=by
  rw [Int.toNat_natCast,show xL (pre++x::post)=xL pre++(wT 9 (wF x)++xL post) by simp [xL],List.append_assoc,List.drop_left,List.append_assoc]
 rw [this,zKc hx,zAR]
 simp
theorem zEB {pre post more:List Int} {x d:Int} {c:Bool} (hx:c=true→yS x):j5 c d (xL (pre++(if c then [x] else [])++post)++more) ((xL pre).length:Int) 0=(if c then x else d,((xL (pre++if c then [x] else [])).length:Int),0):=by
 cases c
 ·simp [j5]
 ·have:=zG2 (pre:=pre) (post:=post) (more:=more) (hx rfl)
  simp only [j5,if_true,List.append_assoc,List.singleton_append] at *
  exact this
theorem zLx {n:List (List Int)} {s:List zJ} {e:zE} {L more:List Int} (g:vB n s) (h:zA5 n s e L):j0 n s (xL L++more)=(e,((xL L).length:Int),0):=by
 obtain ⟨h0,a,st,rfl,hn,hs⟩:=h
 obtain ⟨r1,r2,r3,r4⟩:=zEo h0
 obtain ⟨_,_,k1,k2,hb,_,_⟩:=zDz h0
 have hg1:=g.n1
 have hg2:=g.s1
 have ea:y9 e.Kind=true→yS a:=fun u=>by
  obtain ⟨j,rfl,hj⟩:=hn u
  have:=(List.getElem?_eq_some_iff.1 hj).1
  unfold yS;omega
 have es:xM e.Kind=true→yS st:=fun u=>by
  have:=(hs u).1.idx (by omega) (by omega)
  unfold yS;omega
 generalize hB:xL (vR a e st)++more=B
 have hK:wD B=(e.Kind,((xL [e.Kind]).length:Int),0):=by
  rw [← hB];exact zG2 (pre:=[]) r2
 have hA:kT B=(e.At,((xL [e.Kind,e.At]).length:Int),0):=by
  unfold kT;rw [hK,← hB];exact zG2 (pre:=[e.Kind]) r1
 have hF:zDM B=0:=by unfold zDM;rw [hA,hK,if_neg (by simp only;omega)]
 have hNm:vY B=(if y9 e.Kind then a else 0,((xL ([e.Kind,e.At]++if y9 e.Kind then [a] else [])).length:Int),0):=by
  unfold vY;rw [hA,hK,hF,← hB]
  unfold vR
  have:=zEB (d:=0) (pre:=[e.Kind,e.At]) (post:=(if tY e.Kind then [e.N] else [])++(if qO e.Kind then [e.M] else [])++(if xM e.Kind then [st] else [])) (more:=more) ea
  simp only [List.append_assoc] at this ⊢
  exact this
 have hN:zAc B=(if tY e.Kind then e.N else 0,((xL ([e.Kind,e.At]++(if y9 e.Kind then [a] else [])++if tY e.Kind then [e.N] else [])).length:Int),0):=by
  unfold zAc;rw [hNm,hK,← hB]
  unfold vR
  have:=zEB (d:=0) (pre:=[e.Kind,e.At]++(if y9 e.Kind then [a] else [])) (post:=(if qO e.Kind then [e.M] else [])++(if xM e.Kind then [st] else [])) (more:=more) (c:=tY e.Kind) (fun _=>r3)
  simp only [List.append_assoc] at this ⊢
  exact this
 have hM:n9 B=(if qO e.Kind then e.M else 0,((xL ([e.Kind,e.At]++(if y9 e.Kind then [a] else [])++(if tY e.Kind then [e.N] else [])++if qO e.Kind then [e.M] else [])).length:Int),0):=by
  unfold n9;rw [hN,hK,← hB]
  unfold vR
  have:=zEB (d:=0) (pre:=[e.Kind,e.At]++(if y9 e.Kind then [a] else [])++(if tY e.Kind then [e.N] else [])) (post:=(if xM e.Kind then [st] else [])) (more:=more) (c:=qO e.Kind) (fun _=>r4)
  simp only [List.append_assoc] at this ⊢
  exact this
 have hS:v7 B=(if xM e.Kind then st else -1,((xL (vR a e st)).length:Int),0):=by
  unfold v7;rw [hM,hK,← hB]
  unfold vR
  have:=zEB (d := -1) (pre:=[e.Kind,e.At]++(if y9 e.Kind then [a] else [])++(if tY e.Kind then [e.N] else [])++(if qO e.Kind then [e.M] else [])) (post:=[]) (more:=more) es
  simp only [List.append_assoc,List.append_nil] at this ⊢
  exact this
 rw [zJq] at hb
 simp only [Bool.or_eq_false_iff,Bool.and_eq_false_iff,Bool.not_eq_false',decide_eq_false_iff_not,bne_eq_false_iff_eq,beq_iff_eq] at hb
 obtain ⟨b1,b2,b3,b4⟩:=hb
 have hchk:jN n s=0:=zAP.2 g
 have hst : -1≤(v7 B).1∧(v7 B).1<s.length∧(zA8 n s (v7 B).1).1=e.Stack:=by
  rw [hS];simp only
  cases hu:xM e.Kind
  ·refine ⟨by simp,by simp;omega,?_⟩
   rw [hu] at b4
   have:e.Stack=[]:=List.eq_nil_of_length_eq_zero (by simp at b4;simpa using b4)
   unfold zA8
   rw [if_neg (by omega),if_neg (by simp;omega),this]
   simp [zF4]
  ·have hi:=(hs hu).1.idx (by omega) (by omega)
   refine ⟨hi.1,hi.2,?_⟩
   unfold zA8
   rw [if_neg (by omega),if_neg (by simp;omega)]
   exact (hs hu).1.list (hs hu).2
 have hE:zDa n s B=e:=by
  unfold zDa
  rw [hst.2.2,hA,hK,hN,hM,hNm]
  obtain ⟨eA,eK,eNm,eN,eM,eS⟩:=e
  simp only at *
  congr 1
  ·cases hu:y9 eK
   ·rw [hu] at b1;simpa using b1.symm
   ·obtain ⟨j,rfl,hj⟩:=hn hu
    simp [hj]
  ·cases hu:tY eK
   ·rw [hu] at b2;simpa using b2.elim (fun h=>by cases h) Eq.symm
   ·rfl
  ·cases hu:qO eK
   ·rw [hu] at b3;simpa using b3.elim (fun h=>by cases h) Eq.symm
   ·rfl
 unfold j0
 rw [if_neg (by omega),if_neg (by rw [hS];simp),if_neg,if_neg (by omega),hE,if_neg (by omega),hS]
 rintro ⟨hu,hr⟩
 rw [hK] at hu
 obtain ⟨j,rfl,hj⟩:=hn hu
 have:=(List.getElem?_eq_some_iff.1 hj).1
 rw [hNm] at hr
 simp only [hu,if_true] at hr
 omega
theorem zM1 {n:List (List Int)} {s:List zJ} {e:zE} {L:List Int} (g:vB n s) (h:zA5 n s e L):wN n s e=(xL L,n,s,0):=by
 obtain ⟨h0,a,st,rfl,hn,hs⟩:=h
 have eN:t4 n e=(if y9 e.Kind then a else 0,n,0):=by
  unfold t4
  cases hu:y9 e.Kind
  ·rfl
  ·obtain ⟨j,rfl,hj⟩:=hn hu
   have hv:=g.valid (List.mem_of_getElem? hj)
   simp only [if_true]
   unfold wQ
   rw [if_neg (by omega),zFr (zHn g.nodup) hj,if_pos (by omega)]
 have eT:jY n s e=(if xM e.Kind then st else 0,n,s,0):=by
  unfold jY
  cases hu:xM e.Kind
  ·rfl
  ·simp only [if_true]
   unfold wM
   rw [zCH.2 ⟨(hs hu).2,fun x hx=>g.valid ((hs hu).1.names x hx)⟩,if_neg (by decide)]
   exact zFh g _ _ _ (hs hu).1
 unfold wN
 rw [if_neg (by rw [zAP.2 g];simp),if_neg (by omega),eN]
 simp only
 rw [if_neg (by simp),eT]
 simp only
 rw [if_neg (by simp)]
 unfold vR
 cases y9 e.Kind<;>cases xM e.Kind<;>rfl
def zGM (b L:List Int) (u:Int):Prop:=u=((xL L).length:Int)∧b.take (xL L).length=xL L
theorem zFe {b L:List Int} {u f:Int} (hb:∀ x∈b,xJ x) (h:zGM b L u) (hf:(pB b u f).2.2=0):f=0∧zGM b (L++[(pB b u f).1]) (pB b u f).2.1:=by
 obtain ⟨rfl,h2⟩:=h
 have hf0:f=0:=by
  by_cases h:f=0
  ·exact h
  ·rw [zDQ h] at hf;exact absurd hf h
 subst hf0
 refine ⟨rfl,?_⟩
 unfold pB at *
 rw [if_neg (by simp)] at *
 simp only [Int.toNat_natCast] at *
 have hd:=zHi hb (xL L).length
 obtain ⟨v,h0,_,hv,h3,h4⟩:=zGi hd (i:=0) (u:=0) (by omega) (by omega) (by simp) hf
 have hr:=(zAg hd (i:=0) (u:=0) (by omega) (by omega) (by simp)).2.1 hf
 simp only [Int.zero_add,Nat.mul_zero,Int.pow_zero,Int.mul_one] at h3 hv
 have hz:wF (vrd (List.drop (xL L).length b) 0 0).1=v:=by rw [h3];exact zHm h0
 have hl:(wT 9 v).length=(vrd (List.drop (xL L).length b) 0 0).2.1.toNat:=by
  have:=congrArg List.length h4
  rw [List.length_take] at this
  simp at this hr ⊢
  omega
 unfold zGM
 rw [zAR,hz,List.length_append,hl]
 refine ⟨by omega,?_⟩
 rw [List.take_add,h2]
 congr 1
 simpa using h4
theorem zDC {b L:List Int} {c:Bool} {d u f:Int} (hb:∀ x∈b,xJ x) (h:zGM b L u) (hf:(j5 c d b u f).2.2=0):f=0∧zGM b (L++if c then [(j5 c d b u f).1] else []) (j5 c d b u f).2.1:=by
 cases c
 ·simp only [j5,Bool.false_eq_true,if_false,List.append_nil] at *
  exact ⟨hf,h⟩
 ·exact zFe hb h hf
theorem zJu {n:List (List Int)} {s:List zJ} {b:List Int} (hb:∀ x∈b,xJ x) (h:(j0 n s b).2.2=0) :
  vB n s∧∃ L,zA5 n s (j0 n s b).1 L∧(j0 n s b).2.1=((xL L).length:Int)∧b.take (xL L).length=xL L:=by
 unfold j0 at *
 by_cases hc:jN n s≠0
 ·rw [if_pos hc] at h;simp at h
 rw [if_neg hc] at *
 by_cases hs:(v7 b).2.2≠0
 ·rw [if_pos hs] at h;exact absurd h hs
 rw [if_neg hs] at *
 by_cases hn:y9 (wD b).1=true∧((vY b).1<0∨(vY b).1≥n.length)
 ·rw [if_pos hn] at h;simp at h
 rw [if_neg hn] at *
 by_cases ht:(v7 b).1 < -1∨(v7 b).1≥s.length
 ·rw [if_pos ht] at h;simp at h
 rw [if_neg ht] at *
 by_cases he:evS (zDa n s b)≠0
 ·rw [if_pos he] at h;simp at h
 rw [if_neg he] at *
 have g:vB n s:=zAP.1 (by omega)
 have z4:(n9 b).2.2=0:=zCW (show (v7 b).2.2=0 by omega)
 have z3:(zAc b).2.2=0:=zCW z4
 have z2:(vY b).2.2=0:=zCW z3
 have z1:zDM b=0:=zCW z2
 have za:(kT b).2.2=0:=by
  unfold zDM at z1
  split at z1
  ·simp at z1
  ·exact z1
 have p0:zGM b [] 0:=⟨rfl,rfl⟩
 have zk:(wD b).2.2=0:=by
  by_cases hk:(wD b).2.2=0
  ·exact hk
  ·unfold kT at za;rw [zDQ hk] at za;exact za
 have p1:=(zFe hb p0 zk).2
 have p2:=(zFe hb p1 za).2
 have p3:=(zDC hb p2 z2).2
 have p4:=(zDC hb p3 z3).2
 have p5:=(zDC hb p4 z4).2
 have p6:=(zDC hb p5 (show (v7 b).2.2=0 by omega)).2
 refine ⟨g,zOg b,⟨by simpa using he,(vY b).1,(v7 b).1,rfl,fun u=>?_,fun u=>?_⟩,p6.1,p6.2⟩
 ·simp only [zDa] at u
  rw [u] at hn
  simp only [true_and] at hn
  refine ⟨(vY b).1.toNat,by omega,?_⟩
  simp only [zDa,u,if_true]
  rw [List.getElem?_eq_getElem (by omega)];rfl
 ·have hd:=(g.depth0 (c:=(v7 b).1) (by omega) (by omega)).2.1
  have:=g.path 32 (v7 b).1 (by omega) (by omega) (by omega)
  simp only [zDa,zA8]
  rw [if_neg (by omega),if_neg (by omega)]
  exact ⟨this,by simpa using zEh n s 32 _⟩
theorem zIE {n:List (List Int)} {s:List zJ} {e:zE} {L:List Int} (g:vB n s) (h:zA5 n s e L):(∀ x∈xL L,xJ x)∧2≤(xL L).length∧(xL L).length≤50:=by
 obtain ⟨h0,a,st,rfl,hn,hs⟩:=h
 obtain ⟨r1,r2,r3,r4⟩:=zEo h0
 have hg1:=g.n1
 have hg2:=g.s1
 have ea:y9 e.Kind=true→yS a:=fun u=>by
  obtain ⟨j,rfl,hj⟩:=hn u
  have:=(List.getElem?_eq_some_iff.1 hj).1
  unfold yS;omega
 have es:xM e.Kind=true→yS st:=fun u=>by
  have:=(hs u).1.idx (by omega) (by omega)
  unfold yS;omega
 refine ⟨zNz ?_,?_⟩
 ·intro x hx
  unfold vR at hx
  simp only [List.mem_append] at hx
  rcases hx with ((((hx | hx) | hx) | hx))
  ·rcases hx with hx | hx
   ·simp at hx;rcases hx with rfl | rfl<;>assumption
   ·split at hx
    ·simp at hx;subst hx;exact ea (by assumption)
    ·cases hx
  ·split at hx
   ·simp at hx;subst hx;exact r3
   ·cases hx
  ·split at hx
   ·simp at hx;subst hx;exact r4
   ·cases hx
  ·split at hx
   ·simp at hx;subst hx;exact es (by assumption)
   ·cases hx
 ·have:=zDY (vR a e st)
  have hl:2≤(vR a e st).length∧(vR a e st).length≤5:=by
   have:=zL4 e.Kind
   unfold vR
   cases h1:y9 e.Kind<;>cases h2:tY e.Kind<;>cases h3:qO e.Kind<;>cases h4:xM e.Kind<;>simp_all
  omega
end Go.Ab
