/- Plain laws of the functions w9 this seat's, laid anew from another seat's text. No conditions but those that the theorems name. -/
import Derived.Test.YtdpgdpjoemdkjaaP10xD
import Derived.Test.YtdpgdpjoemdkjaaB10a
import Derived.Test.YtdpgdpjoemdkjaaB10b
import Derived.Test.YtdpgdpjoemdkjaaB10c
import Derived.Test.YtdpgdpjoemdkjaaB10d
import Derived.Test.YtdpgdpjoemdkjaaB10e
import Derived.Test.YtdpgdpjoemdkjaaB10f
namespace Go.Ab
open Go
set_option linter.unusedVariables false
def zAM (n:List (List Int)) (s:List zI) (e:zE) (L:List Int):Prop :=
 evS e=0∧∃ a st:Int,L=tE a e st∧(yK e.Kind=true→∃ j:Nat,a=(j:Int)∧n[j]?=some e.Name)∧(yU e.Kind=true→Has n s (-1) e.Stack st∧e.Stack.length≤32)
theorem zAM.mono {n n':List (List Int)} {s s':List zI} {e:zE} {L:List Int} (h:zAM n s e L) (hn:n <+: n') (hs:s <+: s'):zAM n' s' e L:=by
 obtain ⟨h0,a,st,h1,h2,h3⟩:=h
 exact ⟨h0,a,st,h1,fun u=>let ⟨j,e,g⟩:=h2 u;⟨j,e,pM hn g⟩,fun u=>⟨(h3 u).1.mono hn hs,(h3 u).2⟩⟩
theorem zCj {n:List (List Int)} {s:List zI} {e:zE} :
  ((xO n s e).2.2.2≠0∧xO n s e=([],[],[],(xO n s e).2.2.2)) ∨
  ((xO n s e).2.2.2=0∧x7 n s∧x7 (xO n s e).2.1 (xO n s e).2.2.1∧n <+: (xO n s e).2.1∧s <+: (xO n s e).2.2.1 ∧
   ∃ L,(xO n s e).1=yZ L∧zAM (xO n s e).2.1 (xO n s e).2.2.1 e L):=by
 unfold xO
 by_cases hc:tI n s≠0
 ·rw [if_pos hc];exact .inl ⟨by simp,rfl⟩
 rw [if_neg hc]
 have g:x7 n s:=nU.1 (by omega)
 by_cases he:evS e≠0
 ·rw [if_pos he];exact .inl ⟨he,rfl⟩
 rw [if_neg he]
 have he0:evS e=0:=by omega
 obtain ⟨_,_,_,_,_,ht,_⟩:=zCo he0
 have hN:(uX n e).2.2≠0∨(uX n e).2.2=0∧x7 (uX n e).2.1 s∧n <+: (uX n e).2.1∧(yK e.Kind=true→∃ j:Nat,(uX n e).1=(j:Int)∧(uX n e).2.1[j]?=some e.Name):=by
  unfold uX
  cases hu:yK e.Kind
  ·exact .inr ⟨rfl,g,List.prefix_refl _,fun h=>by cases h⟩
  ·unfold zAl at ht
   rw [hu] at ht
   rcases zDr g (x:=e.Name) (by simpa using ht) with h | h
   ·exact .inl (by simp [h.1])
   ·exact .inr ⟨h.1,h.2.2.1,h.2.2.2.1,fun _=>h.2.1⟩
 rcases hN with hN | ⟨h1,h2,h3,h4⟩
 ·rw [if_pos hN];exact .inl ⟨hN,rfl⟩
 rw [if_neg (by omega)]
 have hT:(qP (uX n e).2.1 s e).2.2.2≠0∨(qP (uX n e).2.1 s e).2.2.2=0∧x7 (qP (uX n e).2.1 s e).2.1 (qP (uX n e).2.1 s e).2.2.1∧(uX n e).2.1 <+: (qP (uX n e).2.1 s e).2.1∧s <+: (qP (uX n e).2.1 s e).2.2.1 ∧
   (yU e.Kind=true→Has (qP (uX n e).2.1 s e).2.1 (qP (uX n e).2.1 s e).2.2.1 (-1) e.Stack (qP (uX n e).2.1 s e).1∧e.Stack.length≤32):=by
  unfold qP
  cases hu:yU e.Kind
  ·exact .inr ⟨rfl,h2,List.prefix_refl _,List.prefix_refl _,fun h=>by cases h⟩
  ·rcases zFi (l:=e.Stack) h2 with h | h
   ·exact .inl h.1
   ·exact .inr ⟨h.1,h.2.2.2.1,h.2.2.2.2.1,h.2.2.2.2.2.1,fun _=>⟨h.2.2.2.2.2.2.1,h.2.1⟩⟩
 rcases hT with hT | ⟨k1,k2,k3,k4,k5⟩
 ·rw [if_pos hT];exact .inl ⟨hT,rfl⟩
 rw [if_neg (by omega)]
 exact .inr ⟨rfl,g,k2,h3.trans k3,k4,_,rfl,he0,_,_,rfl,fun u=>let ⟨j,e,g⟩:=h4 u;⟨j,e,pM k3 g⟩,k5⟩
theorem zKY {n:List (List Int)} {s:List zI} {e:zE}:(xO n s e).2.1.length≤1000∧(xO n s e).2.2.1.length≤1000:=by
 rcases zCj (n:=n) (s:=s) (e:=e) with ⟨_,h⟩ | ⟨_,_,g,_⟩
 ·rw [h];simp
 ·exact ⟨g.n1,g.s1⟩
theorem Has.idx {n:List (List Int)} {s:List zI}:∀ {l:List (List Int)} {at_ i:Int},Has n s at_ l i → -1≤at_→at_<s.length → -1≤i∧i<s.length:=by
 intro l
 induction l with
 | nil=>intro at_ i h h0 h1;simp only [Has] at h;omega
 | cons x r ih =>
  rintro at_ i ⟨a,b,h1,h2,h3⟩ _ _
  have:=(List.getElem?_eq_some_iff.1 h2).1
  exact ih h3 (by omega) (by omega)
theorem Has.snoc {n:List (List Int)} {s:List zI} {x:List Int} {a b:Nat} {c:Int} (ha:n[a]?=some x) (hb:s[b]?=some ⟨c,(a:Int)⟩):∀ {l:List (List Int)} {at_:Int},Has n s at_ l c→Has n s at_ (l++[x]) (b:Int):=by
 intro l
 induction l with
 | nil=>intro at_ h;simp only [Has] at h;subst h;exact ⟨a,b,ha,hb,rfl⟩
 | cons y r ih =>
  rintro at_ ⟨a2,b2,h1,h2,h3⟩
  exact ⟨a2,b2,h1,h2,ih h3⟩
theorem x7.path {n:List (List Int)} {s:List zI} (g:x7 n s):∀ (k:Nat) (i:Int), -1≤i→i<s.length→dOf (dsF s) i≤k→Has n s (-1) (qT n s k i).reverse i:=by
 intro k
 induction k with
 | zero =>
  intro i h0 h1 hd
  have:=g.depth0 h0 h1
  have hi:i = -1:=by omega
  subst hi;rfl
 | succ k ih =>
  intro i h0 h1 hd
  by_cases hi:i<0
  ·have hi:i = -1:=by omega
   subst hi;rfl
  obtain ⟨j,rfl⟩:=Int.eq_ofNat_of_zero_le (show 0≤i by omega)
  have hj:j<s.length:=by omega
  have hp:=List.getElem?_eq_getElem hj
  obtain ⟨q1,q2,q3,q4,q5,q6,_⟩:=g.pair hp
  simp only [qT]
  rw [if_neg hi,Int.toNat_natCast,hp]
  simp only [List.reverse_cons]
  have h:=ih (s[j]).c0 q1 (by omega) (by omega)
  have hn:n[(s[j]).c1.toNat]?=some ((n[(s[j]).c1.toNat]?).getD []):=by rw [List.getElem?_eq_getElem (by omega)];rfl
  refine Has.snoc hn ?_ h
  rw [hp,Int.toNat_of_nonneg q3]
theorem zFs {pre post more:List Int} {x:Int} (hx:z8 x):q7 (yZ (pre++x::post)++more) ((yZ pre).length:Int) 0=(x,((yZ (pre++[x])).length:Int),0):=by
 unfold q7
 rw [if_neg (by simp)]
 have:(yZ (pre++x::post)++more).drop ((yZ pre).length:Int).toNat=xI 9 (xB x)++(yZ post++more):=by
  rw [Int.toNat_natCast,show yZ (pre++x::post)=yZ pre++(xI 9 (xB x)++yZ post) by simp [yZ],List.append_assoc,List.drop_left,List.append_assoc]
 rw [this,zIJ hx,pQ]
 simp
theorem zDe {pre post more:List Int} {x d:Int} {c:Bool} (hx:c=true→z8 x):t4 c d (yZ (pre++(if c then [x] else [])++post)++more) ((yZ pre).length:Int) 0=(if c then x else d,((yZ (pre++if c then [x] else [])).length:Int),0):=by
 cases c
 ·simp [t4]
 ·have:=zFs (pre:=pre) (post:=post) (more:=more) (hx rfl)
  simp only [t4,if_true,List.append_assoc,List.singleton_append] at *
  exact this
theorem zKw {n:List (List Int)} {s:List zI} {e:zE} {L more:List Int} (g:x7 n s) (h:zAM n s e L):t7 n s (yZ L++more)=(e,((yZ L).length:Int),0):=by
 obtain ⟨h0,a,st,rfl,hn,hs⟩:=h
 obtain ⟨r1,r2,r3,r4⟩:=zCH h0
 obtain ⟨_,_,k1,k2,hb,_,_⟩:=zCo h0
 have hg1:=g.n1
 have hg2:=g.s1
 have ea:yK e.Kind=true→z8 a:=fun u=>by
  obtain ⟨j,rfl,hj⟩:=hn u
  have:=(List.getElem?_eq_some_iff.1 hj).1
  unfold z8;omega
 have es:yU e.Kind=true→z8 st:=fun u=>by
  have:=(hs u).1.idx (by omega) (by omega)
  unfold z8;omega
 generalize hB:yZ (tE a e st)++more=B
 have hK:y9 B=(e.Kind,((yZ [e.Kind]).length:Int),0):=by
  rw [← hB];exact zFs (pre:=[]) r2
 have hA:qO B=(e.At,((yZ [e.Kind,e.At]).length:Int),0):=by
  unfold qO;rw [hK,← hB];exact zFs (pre:=[e.Kind]) r1
 have hF:zCn B=0:=by unfold zCn;rw [hA,hK,if_neg (by simp only;omega)]
 have hNm:wP B=(if yK e.Kind then a else 0,((yZ ([e.Kind,e.At]++if yK e.Kind then [a] else [])).length:Int),0):=by
  unfold wP;rw [hA,hK,hF,← hB]
  unfold tE
  have:=zDe (d:=0) (pre:=[e.Kind,e.At]) (post:=(if uD e.Kind then [e.N] else [])++(if uI e.Kind then [e.M] else [])++(if yU e.Kind then [st] else [])) (more:=more) ea
  simp only [List.append_assoc] at this ⊢
  exact this
 have hN:kM B=(if uD e.Kind then e.N else 0,((yZ ([e.Kind,e.At]++(if yK e.Kind then [a] else [])++if uD e.Kind then [e.N] else [])).length:Int),0):=by
  unfold kM;rw [hNm,hK,← hB]
  unfold tE
  have:=zDe (d:=0) (pre:=[e.Kind,e.At]++(if yK e.Kind then [a] else [])) (post:=(if uI e.Kind then [e.M] else [])++(if yU e.Kind then [st] else [])) (more:=more) (c:=uD e.Kind) (fun _=>r3)
  simp only [List.append_assoc] at this ⊢
  exact this
 have hM:kL B=(if uI e.Kind then e.M else 0,((yZ ([e.Kind,e.At]++(if yK e.Kind then [a] else [])++(if uD e.Kind then [e.N] else [])++if uI e.Kind then [e.M] else [])).length:Int),0):=by
  unfold kL;rw [hN,hK,← hB]
  unfold tE
  have:=zDe (d:=0) (pre:=[e.Kind,e.At]++(if yK e.Kind then [a] else [])++(if uD e.Kind then [e.N] else [])) (post:=(if yU e.Kind then [st] else [])) (more:=more) (c:=uI e.Kind) (fun _=>r4)
  simp only [List.append_assoc] at this ⊢
  exact this
 have hS:wY B=(if yU e.Kind then st else -1,((yZ (tE a e st)).length:Int),0):=by
  unfold wY;rw [hM,hK,← hB]
  unfold tE
  have:=zDe (d := -1) (pre:=[e.Kind,e.At]++(if yK e.Kind then [a] else [])++(if uD e.Kind then [e.N] else [])++(if uI e.Kind then [e.M] else [])) (post:=[]) (more:=more) es
  simp only [List.append_assoc,List.append_nil] at this ⊢
  exact this
 rw [zHZ] at hb
 simp only [Bool.or_eq_false_iff,Bool.and_eq_false_iff,Bool.not_eq_false',decide_eq_false_iff_not,bne_eq_false_iff_eq,beq_iff_eq] at hb
 obtain ⟨b1,b2,b3,b4⟩:=hb
 have hchk:tI n s=0:=nU.2 g
 have hst : -1≤(wY B).1∧(wY B).1<s.length∧(pW n s (wY B).1).1=e.Stack:=by
  rw [hS];simp only
  cases hu:yU e.Kind
  ·refine ⟨by simp,by simp;omega,?_⟩
   rw [hu] at b4
   have:e.Stack=[]:=List.eq_nil_of_length_eq_zero (by simp at b4;simpa using b4)
   unfold pW
   rw [if_neg (by omega),if_neg (by simp;omega),this]
   simp [zE1]
  ·have hi:=(hs hu).1.idx (by omega) (by omega)
   refine ⟨hi.1,hi.2,?_⟩
   unfold pW
   rw [if_neg (by omega),if_neg (by simp;omega)]
   exact (hs hu).1.list (hs hu).2
 have hE:zBD n s B=e:=by
  unfold zBD
  rw [hst.2.2,hA,hK,hN,hM,hNm]
  obtain ⟨eA,eK,eNm,eN,eM,eS⟩:=e
  simp only at *
  congr 1
  ·cases hu:yK eK
   ·rw [hu] at b1;simpa using b1.symm
   ·obtain ⟨j,rfl,hj⟩:=hn hu
    simp [hj]
  ·cases hu:uD eK
   ·rw [hu] at b2;simpa using b2.elim (fun h=>by cases h) Eq.symm
   ·rfl
  ·cases hu:uI eK
   ·rw [hu] at b3;simpa using b3.elim (fun h=>by cases h) Eq.symm
   ·rfl
 unfold t7
 rw [if_neg (by omega),if_neg (by rw [hS];simp),if_neg,if_neg (by omega),hE,if_neg (by omega),hS]
 rintro ⟨hu,hr⟩
 rw [hK] at hu
 obtain ⟨j,rfl,hj⟩:=hn hu
 have:=(List.getElem?_eq_some_iff.1 hj).1
 rw [hNm] at hr
 simp only [hu,if_true] at hr
 omega
def zFc (b L:List Int) (u:Int):Prop:=u=((yZ L).length:Int)∧b.take (yZ L).length=yZ L
theorem zD4 {b L:List Int} {u f:Int} (hb:∀ x∈b,yW x) (h:zFc b L u) (hf:(q7 b u f).2.2=0):f=0∧zFc b (L++[(q7 b u f).1]) (q7 b u f).2.1:=by
 obtain ⟨rfl,h2⟩:=h
 have hf0:f=0:=by
  by_cases h:f=0
  ·exact h
  ·rw [zCl h] at hf;exact absurd hf h
 subst hf0
 refine ⟨rfl,?_⟩
 unfold q7 at *
 rw [if_neg (by simp)] at *
 simp only [Int.toNat_natCast] at *
 have hd:=zFm hb (yZ L).length
 obtain ⟨v,h0,_,hv,h3,h4⟩:=zEk hd (i:=0) (u:=0) (by omega) (by omega) (by simp) hf
 have hr:=(pN hd (i:=0) (u:=0) (by omega) (by omega) (by simp)).2.1 hf
 simp only [Int.zero_add,Nat.mul_zero,Int.pow_zero,Int.mul_one] at h3 hv
 have hz:xB (vrd (List.drop (yZ L).length b) 0 0).1=v:=by rw [h3];exact zFQ h0
 have hl:(xI 9 v).length=(vrd (List.drop (yZ L).length b) 0 0).2.1.toNat:=by
  have:=congrArg List.length h4
  rw [List.length_take] at this
  simp at this hr ⊢
  omega
 unfold zFc
 rw [pQ,hz,List.length_append,hl]
 refine ⟨by omega,?_⟩
 rw [List.take_add,h2]
 congr 1
 simpa using h4
theorem zCk {b L:List Int} {c:Bool} {d u f:Int} (hb:∀ x∈b,yW x) (h:zFc b L u) (hf:(t4 c d b u f).2.2=0):f=0∧zFc b (L++if c then [(t4 c d b u f).1] else []) (t4 c d b u f).2.1:=by
 cases c
 ·simp only [t4,Bool.false_eq_true,if_false,List.append_nil] at *
  exact ⟨hf,h⟩
 ·exact zD4 hb h hf
theorem zGJ {n:List (List Int)} {s:List zI} {b:List Int} (hb:∀ x∈b,yW x) (h:(t7 n s b).2.2=0) :
  x7 n s∧∃ L,zAM n s (t7 n s b).1 L∧(t7 n s b).2.1=((yZ L).length:Int)∧b.take (yZ L).length=yZ L:=by
 unfold t7 at *
 by_cases hc:tI n s≠0
 ·rw [if_pos hc] at h;simp at h
 rw [if_neg hc] at *
 by_cases hs:(wY b).2.2≠0
 ·rw [if_pos hs] at h;exact absurd h hs
 rw [if_neg hs] at *
 by_cases hn:yK (y9 b).1=true∧((wP b).1<0∨(wP b).1≥n.length)
 ·rw [if_pos hn] at h;simp at h
 rw [if_neg hn] at *
 by_cases ht:(wY b).1 < -1∨(wY b).1≥s.length
 ·rw [if_pos ht] at h;simp at h
 rw [if_neg ht] at *
 by_cases he:evS (zBD n s b)≠0
 ·rw [if_pos he] at h;simp at h
 rw [if_neg he] at *
 have g:x7 n s:=nU.1 (by omega)
 have z4:(kL b).2.2=0:=zBs (show (wY b).2.2=0 by omega)
 have z3:(kM b).2.2=0:=zBs z4
 have z2:(wP b).2.2=0:=zBs z3
 have z1:zCn b=0:=zBs z2
 have za:(qO b).2.2=0:=by
  unfold zCn at z1
  split at z1
  ·simp at z1
  ·exact z1
 have p0:zFc b [] 0:=⟨rfl,rfl⟩
 have zk:(y9 b).2.2=0:=by
  by_cases hk:(y9 b).2.2=0
  ·exact hk
  ·unfold qO at za;rw [zCl hk] at za;exact za
 have p1:=(zD4 hb p0 zk).2
 have p2:=(zD4 hb p1 za).2
 have p3:=(zCk hb p2 z2).2
 have p4:=(zCk hb p3 z3).2
 have p5:=(zCk hb p4 z4).2
 have p6:=(zCk hb p5 (show (wY b).2.2=0 by omega)).2
 refine ⟨g,zMH b,⟨by simpa using he,(wP b).1,(wY b).1,rfl,fun u=>?_,fun u=>?_⟩,p6.1,p6.2⟩
 ·simp only [zBD] at u
  rw [u] at hn
  simp only [true_and] at hn
  refine ⟨(wP b).1.toNat,by omega,?_⟩
  simp only [zBD,u,if_true]
  rw [List.getElem?_eq_getElem (by omega)];rfl
 ·have hd:=(g.depth0 (c:=(wY b).1) (by omega) (by omega)).2.1
  have:=g.path 32 (wY b).1 (by omega) (by omega) (by omega)
  simp only [zBD,pW]
  rw [if_neg (by omega),if_neg (by omega)]
  exact ⟨this,by simpa using zCS n s 32 _⟩
theorem zKX {n:List (List Int)} {s:List zI} {e:zE} {L:List Int} (g:x7 n s) (h:zAM n s e L):(∀ x∈yZ L,yW x)∧2≤(yZ L).length∧(yZ L).length≤50:=by
 obtain ⟨h0,a,st,rfl,hn,hs⟩:=h
 obtain ⟨r1,r2,r3,r4⟩:=zCH h0
 have hg1:=g.n1
 have hg2:=g.s1
 have ea:yK e.Kind=true→z8 a:=fun u=>by
  obtain ⟨j,rfl,hj⟩:=hn u
  have:=(List.getElem?_eq_some_iff.1 hj).1
  unfold z8;omega
 have es:yU e.Kind=true→z8 st:=fun u=>by
  have:=(hs u).1.idx (by omega) (by omega)
  unfold z8;omega
 refine ⟨zLV ?_,?_⟩
 ·intro x hx
  unfold tE at hx
  simp only [List.mem_append] at hx
  rcases hx with ((((hx | hx) | hx) | hx))
  ·rcases hx with hx | hx
   ·simp at hx;rcases hx with rfl | rfl<;>assumption
   ·split at hx
    ·simp at hx;subst hx;exact ea (by assumption)
    ·cases hx
  ·split at hx
   ·simp at hx;subst hx;exact r3
   ·cases hx
  ·split at hx
   ·simp at hx;subst hx;exact r4
   ·cases hx
  ·split at hx
   ·simp at hx;subst hx;exact es (by assumption)
   ·cases hx
 ·have:=zB9 (tE a e st)
  have hl:2≤(tE a e st).length∧(tE a e st).length≤5:=by
   have:=zFD e.Kind
   unfold tE
   cases h1:yK e.Kind<;>cases h2:uD e.Kind<;>cases h3:uI e.Kind<;>cases h4:yU e.Kind<;>simp_all
  omega
end Go.Ab
