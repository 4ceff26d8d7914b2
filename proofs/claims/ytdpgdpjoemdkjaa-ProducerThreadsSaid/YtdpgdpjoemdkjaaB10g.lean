/- Plain laws of the functions wP this seat's, laid anew from another seat's text. No conditions but those that the theorems name. -/
import Derived.Test.YtdpgdpjoemdkjaaP10xD
import Derived.Test.YtdpgdpjoemdkjaaB10a
import Derived.Test.YtdpgdpjoemdkjaaB10b
import Derived.Test.YtdpgdpjoemdkjaaB10c
import Derived.Test.YtdpgdpjoemdkjaaB10d
import Derived.Test.YtdpgdpjoemdkjaaB10e
import Derived.Test.YtdpgdpjoemdkjaaB10f
namespace Go.Ab
open Go
set_option linter.unusedVariables false
def zAK (n:List (List Int)) (s:List zI) (e:zF) (L:List Int):Prop :=
 evS e=0∧∃ a st:Int,L=uZ a e st∧(yQ e.Kind=true→∃ j:Nat,a=(j:Int)∧n[j]?=some e.Name)∧(y3 e.Kind=true→Has n s (-1) e.Stack st∧e.Stack.length≤32)
theorem zAK.mono {n n':List (List Int)} {s s':List zI} {e:zF} {L:List Int} (h:zAK n s e L) (hn:n <+: n') (hs:s <+: s'):zAK n' s' e L:=by
 obtain ⟨h0,a,st,h1,h2,h3⟩:=h
 exact ⟨h0,a,st,h1,fun u=>let ⟨j,e,g⟩:=h2 u;⟨j,e,pJ hn g⟩,fun u=>⟨(h3 u).1.mono hn hs,(h3 u).2⟩⟩
theorem zB1 {n:List (List Int)} {s:List zI} {e:zF} :
  ((xN n s e).2.2.2≠0∧xN n s e=([],[],[],(xN n s e).2.2.2)) ∨
  ((xN n s e).2.2.2=0∧xQ n s∧xQ (xN n s e).2.1 (xN n s e).2.2.1∧n <+: (xN n s e).2.1∧s <+: (xN n s e).2.2.1 ∧
   ∃ L,(xN n s e).1=xD L∧zAK (xN n s e).2.1 (xN n s e).2.2.1 e L):=by
 unfold xN
 by_cases hc:tC n s≠0
 ·rw [if_pos hc];exact .inl ⟨by simp,rfl⟩
 rw [if_neg hc]
 have g:xQ n s:=nH.1 (by omega)
 by_cases he:evS e≠0
 ·rw [if_pos he];exact .inl ⟨he,rfl⟩
 rw [if_neg he]
 have he0:evS e=0:=by omega
 obtain ⟨_,_,_,_,_,ht,_⟩:=zBX he0
 have hN:(uP n e).2.2≠0∨(uP n e).2.2=0∧xQ (uP n e).2.1 s∧n <+: (uP n e).2.1∧(yQ e.Kind=true→∃ j:Nat,(uP n e).1=(j:Int)∧(uP n e).2.1[j]?=some e.Name):=by
  unfold uP
  cases hu:yQ e.Kind
  ·exact .inr ⟨rfl,g,List.prefix_refl _,fun h=>by cases h⟩
  ·unfold zAS at ht
   rw [hu] at ht
   rcases zDi g (x:=e.Name) (by simpa using ht) with h | h
   ·exact .inl (by simp [h.1])
   ·exact .inr ⟨h.1,h.2.2.1,h.2.2.2.1,fun _=>h.2.1⟩
 rcases hN with hN | ⟨h1,h2,h3,h4⟩
 ·rw [if_pos hN];exact .inl ⟨hN,rfl⟩
 rw [if_neg (by omega)]
 have hT:(pF (uP n e).2.1 s e).2.2.2≠0∨(pF (uP n e).2.1 s e).2.2.2=0∧xQ (pF (uP n e).2.1 s e).2.1 (pF (uP n e).2.1 s e).2.2.1∧(uP n e).2.1 <+: (pF (uP n e).2.1 s e).2.1∧s <+: (pF (uP n e).2.1 s e).2.2.1 ∧
   (y3 e.Kind=true→Has (pF (uP n e).2.1 s e).2.1 (pF (uP n e).2.1 s e).2.2.1 (-1) e.Stack (pF (uP n e).2.1 s e).1∧e.Stack.length≤32):=by
  unfold pF
  cases hu:y3 e.Kind
  ·exact .inr ⟨rfl,h2,List.prefix_refl _,List.prefix_refl _,fun h=>by cases h⟩
  ·rcases zFh (l:=e.Stack) h2 with h | h
   ·exact .inl h.1
   ·exact .inr ⟨h.1,h.2.2.2.1,h.2.2.2.2.1,h.2.2.2.2.2.1,fun _=>⟨h.2.2.2.2.2.2.1,h.2.1⟩⟩
 rcases hT with hT | ⟨k1,k2,k3,k4,k5⟩
 ·rw [if_pos hT];exact .inl ⟨hT,rfl⟩
 rw [if_neg (by omega)]
 exact .inr ⟨rfl,g,k2,h3.trans k3,k4,_,rfl,he0,_,_,rfl,fun u=>let ⟨j,e,g⟩:=h4 u;⟨j,e,pJ k3 g⟩,k5⟩
theorem zLo {n:List (List Int)} {s:List zI} {e:zF}:(xN n s e).2.1.length≤1000∧(xN n s e).2.2.1.length≤1000:=by
 rcases zB1 (n:=n) (s:=s) (e:=e) with ⟨_,h⟩ | ⟨_,_,g,_⟩
 ·rw [h];simp
 ·exact ⟨g.n1,g.s1⟩
theorem Has.idx {n:List (List Int)} {s:List zI}:∀ {l:List (List Int)} {at_ i:Int},Has n s at_ l i → -1≤at_→at_<s.length → -1≤i∧i<s.length:=by
 intro l
 induction l with
 | nil=>intro at_ i h h0 h1;simp only [Has] at h;omega
 | cons x r ih =>
  rintro at_ i ⟨a,b,h1,h2,h3⟩ _ _
  have:=(List.getElem?_eq_some_iff.1 h2).1
  exact ih h3 (by omega) (by omega)
theorem Has.snoc {n:List (List Int)} {s:List zI} {x:List Int} {a b:Nat} {c:Int} (ha:n[a]?=some x) (hb:s[b]?=some ⟨c,(a:Int)⟩):∀ {l:List (List Int)} {at_:Int},Has n s at_ l c→Has n s at_ (l++[x]) (b:Int):=by
 intro l
 induction l with
 | nil=>intro at_ h;simp only [Has] at h;subst h;exact ⟨a,b,ha,hb,rfl⟩
 | cons y r ih =>
  rintro at_ ⟨a2,b2,h1,h2,h3⟩
  exact ⟨a2,b2,h1,h2,ih h3⟩
theorem xQ.path {n:List (List Int)} {s:List zI} (g:xQ n s):∀ (k:Nat) (i:Int), -1≤i→i<s.length→dOf (dsF s) i≤k→Has n s (-1) (qG n s k i).reverse i:=by
 intro k
 induction k with
 | zero =>
  intro i h0 h1 hd
  have:=g.depth0 h0 h1
  have hi:i = -1:=by omega
  subst hi;rfl
 | succ k ih =>
  intro i h0 h1 hd
  by_cases hi:i<0
  ·have hi:i = -1:=by omega
   subst hi;rfl
  obtain ⟨j,rfl⟩:=Int.eq_ofNat_of_zero_le (show 0≤i by omega)
  have hj:j<s.length:=by omega
  have hp:=List.getElem?_eq_getElem hj
  obtain ⟨q1,q2,q3,q4,q5,q6,_⟩:=g.pair hp
  simp only [qG]
  rw [if_neg hi,Int.toNat_natCast,hp]
  simp only [List.reverse_cons]
  have h:=ih (s[j]).c0 q1 (by omega) (by omega)
  have hn:n[(s[j]).c1.toNat]?=some ((n[(s[j]).c1.toNat]?).getD []):=by rw [List.getElem?_eq_getElem (by omega)];rfl
  refine Has.snoc hn ?_ h
  rw [hp,Int.toNat_of_nonneg q3]
theorem zFu {pre post more:List Int} {x:Int} (hx:yC x):qR (xD (pre++x::post)++more) ((xD pre).length:Int) 0=(x,((xD (pre++[x])).length:Int),0):=by
 unfold qR
 rw [if_neg (by simp)]
 have:(xD (pre++x::post)++more).drop ((xD pre).length:Int).toNat=wM 9 (vI x)++(xD post++more):=by
  rw [Int.toNat_natCast,show xD (pre++x::post)=xD pre++(wM 9 (vI x)++xD post) by simp [xD],List.append_assoc,List.drop_left,List.append_assoc]
 rw [this,zIp hx,zFy]
 simp
theorem zC5 {pre post more:List Int} {x d:Int} {c:Bool} (hx:c=true→yC x):tE c d (xD (pre++(if c then [x] else [])++post)++more) ((xD pre).length:Int) 0=(if c then x else d,((xD (pre++if c then [x] else [])).length:Int),0):=by
 cases c
 ·simp [tE]
 ·have:=zFu (pre:=pre) (post:=post) (more:=more) (hx rfl)
  simp only [tE,if_true,List.append_assoc,List.singleton_append] at *
  exact this
theorem zJW {n:List (List Int)} {s:List zI} {e:zF} {L more:List Int} (g:xQ n s) (h:zAK n s e L):tF n s (xD L++more)=(e,((xD L).length:Int),0):=by
 obtain ⟨h0,a,st,rfl,hn,hs⟩:=h
 obtain ⟨r1,r2,r3,r4⟩:=zFF h0
 obtain ⟨_,_,k1,k2,hb,_,_⟩:=zBX h0
 have hg1:=g.n1
 have hg2:=g.s1
 have ea:yQ e.Kind=true→yC a:=fun u=>by
  obtain ⟨j,rfl,hj⟩:=hn u
  have:=(List.getElem?_eq_some_iff.1 hj).1
  unfold yC;omega
 have es:y3 e.Kind=true→yC st:=fun u=>by
  have:=(hs u).1.idx (by omega) (by omega)
  unfold yC;omega
 generalize hB:xD (uZ a e st)++more=B
 have hK:y5 B=(e.Kind,((xD [e.Kind]).length:Int),0):=by
  rw [← hB];exact zFu (pre:=[]) r2
 have hA:qA B=(e.At,((xD [e.Kind,e.At]).length:Int),0):=by
  unfold qA;rw [hK,← hB];exact zFu (pre:=[e.Kind]) r1
 have hF:zBY B=0:=by unfold zBY;rw [hA,hK,if_neg (by simp only;omega)]
 have hNm:x4 B=(if yQ e.Kind then a else 0,((xD ([e.Kind,e.At]++if yQ e.Kind then [a] else [])).length:Int),0):=by
  unfold x4;rw [hA,hK,hF,← hB]
  unfold uZ
  have:=zC5 (d:=0) (pre:=[e.Kind,e.At]) (post:=(if jE e.Kind then [e.N] else [])++(if jW e.Kind then [e.M] else [])++(if y3 e.Kind then [st] else [])) (more:=more) ea
  simp only [List.append_assoc] at this ⊢
  exact this
 have hN:j6 B=(if jE e.Kind then e.N else 0,((xD ([e.Kind,e.At]++(if yQ e.Kind then [a] else [])++if jE e.Kind then [e.N] else [])).length:Int),0):=by
  unfold j6;rw [hNm,hK,← hB]
  unfold uZ
  have:=zC5 (d:=0) (pre:=[e.Kind,e.At]++(if yQ e.Kind then [a] else [])) (post:=(if jW e.Kind then [e.M] else [])++(if y3 e.Kind then [st] else [])) (more:=more) (c:=jE e.Kind) (fun _=>r3)
  simp only [List.append_assoc] at this ⊢
  exact this
 have hM:j7 B=(if jW e.Kind then e.M else 0,((xD ([e.Kind,e.At]++(if yQ e.Kind then [a] else [])++(if jE e.Kind then [e.N] else [])++if jW e.Kind then [e.M] else [])).length:Int),0):=by
  unfold j7;rw [hN,hK,← hB]
  unfold uZ
  have:=zC5 (d:=0) (pre:=[e.Kind,e.At]++(if yQ e.Kind then [a] else [])++(if jE e.Kind then [e.N] else [])) (post:=(if y3 e.Kind then [st] else [])) (more:=more) (c:=jW e.Kind) (fun _=>r4)
  simp only [List.append_assoc] at this ⊢
  exact this
 have hS:wB B=(if y3 e.Kind then st else -1,((xD (uZ a e st)).length:Int),0):=by
  unfold wB;rw [hM,hK,← hB]
  unfold uZ
  have:=zC5 (d := -1) (pre:=[e.Kind,e.At]++(if yQ e.Kind then [a] else [])++(if jE e.Kind then [e.N] else [])++(if jW e.Kind then [e.M] else [])) (post:=[]) (more:=more) es
  simp only [List.append_assoc,List.append_nil] at this ⊢
  exact this
 rw [zG4] at hb
 simp only [Bool.or_eq_false_iff,Bool.and_eq_false_iff,Bool.not_eq_false',decide_eq_false_iff_not,bne_eq_false_iff_eq,beq_iff_eq] at hb
 obtain ⟨b1,b2,b3,b4⟩:=hb
 have hchk:tC n s=0:=nH.2 g
 have hst : -1≤(wB B).1∧(wB B).1<s.length∧(pU n s (wB B).1).1=e.Stack:=by
  rw [hS];simp only
  cases hu:y3 e.Kind
  ·refine ⟨by simp,by simp;omega,?_⟩
   rw [hu] at b4
   have:e.Stack=[]:=List.eq_nil_of_length_eq_zero (by simp at b4;simpa using b4)
   unfold pU
   rw [if_neg (by omega),if_neg (by simp;omega),this]
   simp [zEe]
  ·have hi:=(hs hu).1.idx (by omega) (by omega)
   refine ⟨hi.1,hi.2,?_⟩
   unfold pU
   rw [if_neg (by omega),if_neg (by simp;omega)]
   exact (hs hu).1.list (hs hu).2
 have hE:zBr n s B=e:=by
  unfold zBr
  rw [hst.2.2,hA,hK,hN,hM,hNm]
  obtain ⟨eA,eK,eNm,eN,eM,eS⟩:=e
  simp only at *
  congr 1
  ·cases hu:yQ eK
   ·rw [hu] at b1;simpa using b1.symm
   ·obtain ⟨j,rfl,hj⟩:=hn hu
    simp [hj]
  ·cases hu:jE eK
   ·rw [hu] at b2;simpa using b2.elim (fun h=>by cases h) Eq.symm
   ·rfl
  ·cases hu:jW eK
   ·rw [hu] at b3;simpa using b3.elim (fun h=>by cases h) Eq.symm
   ·rfl
 unfold tF
 rw [if_neg (by omega),if_neg (by rw [hS];simp),if_neg,if_neg (by omega),hE,if_neg (by omega),hS]
 rintro ⟨hu,hr⟩
 rw [hK] at hu
 obtain ⟨j,rfl,hj⟩:=hn hu
 have:=(List.getElem?_eq_some_iff.1 hj).1
 rw [hNm] at hr
 simp only [hu,if_true] at hr
 omega
def zE0 (b L:List Int) (u:Int):Prop:=u=((xD L).length:Int)∧b.take (xD L).length=xD L
theorem zDy {b L:List Int} {u f:Int} (hb:∀ x∈b,yP x) (h:zE0 b L u) (hf:(qR b u f).2.2=0):f=0∧zE0 b (L++[(qR b u f).1]) (qR b u f).2.1:=by
 obtain ⟨rfl,h2⟩:=h
 have hf0:f=0:=by
  by_cases h:f=0
  ·exact h
  ·rw [zCl h] at hf;exact absurd hf h
 subst hf0
 refine ⟨rfl,?_⟩
 unfold qR at *
 rw [if_neg (by simp)] at *
 simp only [Int.toNat_natCast] at *
 have hd:=zEV hb (xD L).length
 obtain ⟨v,h0,_,hv,h3,h4⟩:=zEq hd (i:=0) (u:=0) (by omega) (by omega) (by simp) hf
 have hr:=(j4 hd (i:=0) (u:=0) (by omega) (by omega) (by simp)).2.1 hf
 simp only [Int.zero_add,Nat.mul_zero,Int.pow_zero,Int.mul_one] at h3 hv
 have hz:vI (vrd (List.drop (xD L).length b) 0 0).1=v:=by rw [h3];exact zFC h0
 have hl:(wM 9 v).length=(vrd (List.drop (xD L).length b) 0 0).2.1.toNat:=by
  have:=congrArg List.length h4
  rw [List.length_take] at this
  simp at this hr ⊢
  omega
 unfold zE0
 rw [zFy,hz,List.length_append,hl]
 refine ⟨by omega,?_⟩
 rw [List.take_add,h2]
 congr 1
 simpa using h4
theorem zB8 {b L:List Int} {c:Bool} {d u f:Int} (hb:∀ x∈b,yP x) (h:zE0 b L u) (hf:(tE c d b u f).2.2=0):f=0∧zE0 b (L++if c then [(tE c d b u f).1] else []) (tE c d b u f).2.1:=by
 cases c
 ·simp only [tE,Bool.false_eq_true,if_false,List.append_nil] at *
  exact ⟨hf,h⟩
 ·exact zDy hb h hf
theorem zG8 {n:List (List Int)} {s:List zI} {b:List Int} (hb:∀ x∈b,yP x) (h:(tF n s b).2.2=0) :
  xQ n s∧∃ L,zAK n s (tF n s b).1 L∧(tF n s b).2.1=((xD L).length:Int)∧b.take (xD L).length=xD L:=by
 unfold tF at *
 by_cases hc:tC n s≠0
 ·rw [if_pos hc] at h;simp at h
 rw [if_neg hc] at *
 by_cases hs:(wB b).2.2≠0
 ·rw [if_pos hs] at h;exact absurd h hs
 rw [if_neg hs] at *
 by_cases hn:yQ (y5 b).1=true∧((x4 b).1<0∨(x4 b).1≥n.length)
 ·rw [if_pos hn] at h;simp at h
 rw [if_neg hn] at *
 by_cases ht:(wB b).1 < -1∨(wB b).1≥s.length
 ·rw [if_pos ht] at h;simp at h
 rw [if_neg ht] at *
 by_cases he:evS (zBr n s b)≠0
 ·rw [if_pos he] at h;simp at h
 rw [if_neg he] at *
 have g:xQ n s:=nH.1 (by omega)
 have z4:(j7 b).2.2=0:=zBk (show (wB b).2.2=0 by omega)
 have z3:(j6 b).2.2=0:=zBk z4
 have z2:(x4 b).2.2=0:=zBk z3
 have z1:zBY b=0:=zBk z2
 have za:(qA b).2.2=0:=by
  unfold zBY at z1
  split at z1
  ·simp at z1
  ·exact z1
 have p0:zE0 b [] 0:=⟨rfl,rfl⟩
 have zk:(y5 b).2.2=0:=by
  by_cases hk:(y5 b).2.2=0
  ·exact hk
  ·unfold qA at za;rw [zCl hk] at za;exact za
 have p1:=(zDy hb p0 zk).2
 have p2:=(zDy hb p1 za).2
 have p3:=(zB8 hb p2 z2).2
 have p4:=(zB8 hb p3 z3).2
 have p5:=(zB8 hb p4 z4).2
 have p6:=(zB8 hb p5 (show (wB b).2.2=0 by omega)).2
 refine ⟨g,zMs b,⟨by simpa using he,(x4 b).1,(wB b).1,rfl,fun u=>?_,fun u=>?_⟩,p6.1,p6.2⟩
 ·simp only [zBr] at u
  rw [u] at hn
  simp only [true_and] at hn
  refine ⟨(x4 b).1.toNat,by omega,?_⟩
  simp only [zBr,u,if_true]
  rw [List.getElem?_eq_getElem (by omega)];rfl
 ·have hd:=(g.depth0 (c:=(wB b).1) (by omega) (by omega)).2.1
  have:=g.path 32 (wB b).1 (by omega) (by omega) (by omega)
  simp only [zBr,pU]
  rw [if_neg (by omega),if_neg (by omega)]
  exact ⟨this,by simpa using zCv n s 32 _⟩
theorem zK8 {n:List (List Int)} {s:List zI} {e:zF} {L:List Int} (g:xQ n s) (h:zAK n s e L):(∀ x∈xD L,yP x)∧2≤(xD L).length∧(xD L).length≤50:=by
 obtain ⟨h0,a,st,rfl,hn,hs⟩:=h
 obtain ⟨r1,r2,r3,r4⟩:=zFF h0
 have hg1:=g.n1
 have hg2:=g.s1
 have ea:yQ e.Kind=true→yC a:=fun u=>by
  obtain ⟨j,rfl,hj⟩:=hn u
  have:=(List.getElem?_eq_some_iff.1 hj).1
  unfold yC;omega
 have es:y3 e.Kind=true→yC st:=fun u=>by
  have:=(hs u).1.idx (by omega) (by omega)
  unfold yC;omega
 refine ⟨zLQ ?_,?_⟩
 ·intro x hx
  unfold uZ at hx
  simp only [List.mem_append] at hx
  rcases hx with ((((hx | hx) | hx) | hx))
  ·rcases hx with hx | hx
   ·simp at hx;rcases hx with rfl | rfl<;>assumption
   ·split at hx
    ·simp at hx;subst hx;exact ea (by assumption)
    ·cases hx
  ·split at hx
   ·simp at hx;subst hx;exact r3
   ·cases hx
  ·split at hx
   ·simp at hx;subst hx;exact r4
   ·cases hx
  ·split at hx
   ·simp at hx;subst hx;exact es (by assumption)
   ·cases hx
 ·have:=zLs (uZ a e st)
  have hl:2≤(uZ a e st).length∧(uZ a e st).length≤5:=by
   have:=zJL e.Kind
   unfold uZ
   cases h1:yQ e.Kind<;>cases h2:jE e.Kind<;>cases h3:jW e.Kind<;>cases h4:y3 e.Kind<;>simp_all
  omega
end Go.Ab
