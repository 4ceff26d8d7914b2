/- Plain laws of the functions qA this seat's, laid anew from another seat's text. No conditions but those that the theorems name. -/
import Derived.Test.YtdpgdpjoemdkjaaP10xD
import Derived.Test.YtdpgdpjoemdkjaaB10a
import Derived.Test.YtdpgdpjoemdkjaaB10b
import Derived.Test.YtdpgdpjoemdkjaaB10c
import Derived.Test.YtdpgdpjoemdkjaaB10d
import Derived.Test.YtdpgdpjoemdkjaaB10e
import Derived.Test.YtdpgdpjoemdkjaaB10f
namespace Go.Ab
open Go
set_option linter.unusedVariables false
def zEl (n:List (List Int)) (s:List zN) (e:zL) (L:List Int):Prop :=
 evS e=0∧∃ a st:Int,L=kS a e st∧(y5 e.Kind=true→∃ j:Nat,a=(j:Int)∧n[j]?=some e.Name)∧(xM e.Kind=true→Has n s (-1) e.Stack st∧e.Stack.length≤32)
theorem zEl.mono {n n':List (List Int)} {s s':List zN} {e:zL} {L:List Int} (h:zEl n s e L) (hn:n <+: n') (hs:s <+: s'):zEl n' s' e L:=by
 obtain ⟨h0,a,st,h1,h2,h3⟩:=h
 exact ⟨h0,a,st,h1,fun u=>let ⟨j,e,g⟩:=h2 u;⟨j,e,zCG hn g⟩,fun u=>⟨(h3 u).1.mono hn hs,(h3 u).2⟩⟩
theorem zGd {n:List (List Int)} {s:List zN} {e:zL} :
  ((vU n s e).2.2.2≠0∧vU n s e=([],[],[],(vU n s e).2.2.2)) ∨
  ((vU n s e).2.2.2=0∧uM n s∧uM (vU n s e).2.1 (vU n s e).2.2.1∧n <+: (vU n s e).2.1∧s <+: (vU n s e).2.2.1 ∧
   ∃ L,(vU n s e).1=wG L∧zEl (vU n s e).2.1 (vU n s e).2.2.1 e L):=by
 unfold vU
 by_cases hc:uW n s≠0
 ·rw [if_pos hc];exact .inl ⟨by simp,rfl⟩
 rw [if_neg hc]
 have g:uM n s:=zCC.1 (by omega)
 by_cases he:evS e≠0
 ·rw [if_pos he];exact .inl ⟨he,rfl⟩
 rw [if_neg he]
 have he0:evS e=0:=by omega
 obtain ⟨_,_,_,_,_,ht,_⟩:=zDj he0
 have hN:(kP n e).2.2≠0∨(kP n e).2.2=0∧uM (kP n e).2.1 s∧n <+: (kP n e).2.1∧(y5 e.Kind=true→∃ j:Nat,(kP n e).1=(j:Int)∧(kP n e).2.1[j]?=some e.Name):=by
  unfold kP
  cases hu:y5 e.Kind
  ·exact .inr ⟨rfl,g,List.prefix_refl _,fun h=>by cases h⟩
  ·unfold zD5 at ht
   rw [hu] at ht
   rcases zHR g (x:=e.Name) (by simpa using ht) with h | h
   ·exact .inl (by simp [h.1])
   ·exact .inr ⟨h.1,h.2.2.1,h.2.2.2.1,fun _=>h.2.1⟩
 rcases hN with hN | ⟨h1,h2,h3,h4⟩
 ·rw [if_pos hN];exact .inl ⟨hN,rfl⟩
 rw [if_neg (by omega)]
 have hT:(kT (kP n e).2.1 s e).2.2.2≠0∨(kT (kP n e).2.1 s e).2.2.2=0∧uM (kT (kP n e).2.1 s e).2.1 (kT (kP n e).2.1 s e).2.2.1∧(kP n e).2.1 <+: (kT (kP n e).2.1 s e).2.1∧s <+: (kT (kP n e).2.1 s e).2.2.1 ∧
   (xM e.Kind=true→Has (kT (kP n e).2.1 s e).2.1 (kT (kP n e).2.1 s e).2.2.1 (-1) e.Stack (kT (kP n e).2.1 s e).1∧e.Stack.length≤32):=by
  unfold kT
  cases hu:xM e.Kind
  ·exact .inr ⟨rfl,h2,List.prefix_refl _,List.prefix_refl _,fun h=>by cases h⟩
  ·rcases zKc (l:=e.Stack) h2 with h | h
   ·exact .inl h.1
   ·exact .inr ⟨h.1,h.2.2.2.1,h.2.2.2.2.1,h.2.2.2.2.2.1,fun _=>⟨h.2.2.2.2.2.2.1,h.2.1⟩⟩
 rcases hT with hT | ⟨k1,k2,k3,k4,k5⟩
 ·rw [if_pos hT];exact .inl ⟨hT,rfl⟩
 rw [if_neg (by omega)]
 exact .inr ⟨rfl,g,k2,h3.trans k3,k4,_,rfl,he0,_,_,rfl,fun u=>let ⟨j,e,g⟩:=h4 u;⟨j,e,zCG k3 g⟩,k5⟩
theorem zQH {n:List (List Int)} {s:List zN} {e:zL}:(vU n s e).2.1.length≤1000∧(vU n s e).2.2.1.length≤1000:=by
 rcases zGd (n:=n) (s:=s) (e:=e) with ⟨_,h⟩ | ⟨_,_,g,_⟩
 ·rw [h];simp
 ·exact ⟨g.n1,g.s1⟩
theorem Has.idx {n:List (List Int)} {s:List zN}:∀ {l:List (List Int)} {at_ i:Int},Has n s at_ l i → -1≤at_→at_<s.length → -1≤i∧i<s.length:=by
 intro l
 induction l with
 | nil=>intro at_ i h h0 h1;simp only [Has] at h;omega
 | cons x r ih =>
  rintro at_ i ⟨a,b,h1,h2,h3⟩ _ _
  have:=(List.getElem?_eq_some_iff.1 h2).1
  exact ih h3 (by omega) (by omega)
theorem Has.snoc {n:List (List Int)} {s:List zN} {x:List Int} {a b:Nat} {c:Int} (ha:n[a]?=some x) (hb:s[b]?=some ⟨c,(a:Int)⟩):∀ {l:List (List Int)} {at_:Int},Has n s at_ l c→Has n s at_ (l++[x]) (b:Int):=by
 intro l
 induction l with
 | nil=>intro at_ h;simp only [Has] at h;subst h;exact ⟨a,b,ha,hb,rfl⟩
 | cons y r ih =>
  rintro at_ ⟨a2,b2,h1,h2,h3⟩
  exact ⟨a2,b2,h1,h2,ih h3⟩
theorem uM.path {n:List (List Int)} {s:List zN} (g:uM n s):∀ (k:Nat) (i:Int), -1≤i→i<s.length→dOf (dsF s) i≤k→Has n s (-1) (pK n s k i).reverse i:=by
 intro k
 induction k with
 | zero =>
  intro i h0 h1 hd
  have:=g.depth0 h0 h1
  have hi:i = -1:=by omega
  subst hi;rfl
 | succ k ih =>
  intro i h0 h1 hd
  by_cases hi:i<0
  ·have hi:i = -1:=by omega
   subst hi;rfl
  obtain ⟨j,rfl⟩:=Int.eq_ofNat_of_zero_le (show 0≤i by omega)
  have hj:j<s.length:=by omega
  have hp:=List.getElem?_eq_getElem hj
  obtain ⟨q1,q2,q3,q4,q5,q6,_⟩:=g.pair hp
  simp only [pK]
  rw [if_neg hi,Int.toNat_natCast,hp]
  simp only [List.reverse_cons]
  have h:=ih (s[j]).c0 q1 (by omega) (by omega)
  have hn:n[(s[j]).c1.toNat]?=some ((n[(s[j]).c1.toNat]?).getD []):=by rw [List.getElem?_eq_getElem (by omega)];rfl
  refine Has.snoc hn ?_ h
  rw [hp,Int.toNat_of_nonneg q3]
theorem zJ5 {pre post more:List Int} {x:Int} (hx:y2 x):qS (wG (pre++x::post)++more) ((wG pre).length:Int) 0=(x,((wG (pre++[x])).length:Int),0):=by
 unfold qS
 rw [if_neg (by simp)]
 have:(wG (pre++x::post)++more).drop ((wG pre).length:Int).toNat=vV 9 (w8 x)++(wG post++more):=by
  rw [Int.toNat_natCast,show wG (pre++x::post)=wG pre++(vV 9 (w8 x)++wG post) by simp [wG],List.append_assoc,List.drop_left,List.append_assoc]
 rw [this,zOi hx,zBH]
 simp
theorem zHo {pre post more:List Int} {x d:Int} {c:Bool} (hx:c=true→y2 x):jW c d (wG (pre++(if c then [x] else [])++post)++more) ((wG pre).length:Int) 0=(if c then x else d,((wG (pre++if c then [x] else [])).length:Int),0):=by
 cases c
 ·simp [jW]
 ·have:=zJ5 (pre:=pre) (post:=post) (more:=more) (hx rfl)
  simp only [jW,if_true,List.append_assoc,List.singleton_append] at *
  exact this
theorem zPW {n:List (List Int)} {s:List zN} {e:zL} {L more:List Int} (g:uM n s) (h:zEl n s e L):tW n s (wG L++more)=(e,((wG L).length:Int),0):=by
 obtain ⟨h0,a,st,rfl,hn,hs⟩:=h
 obtain ⟨r1,r2,r3,r4⟩:=zFm h0
 obtain ⟨_,_,k1,k2,hb,_,_⟩:=zDj h0
 have hg1:=g.n1
 have hg2:=g.s1
 have ea:y5 e.Kind=true→y2 a:=fun u=>by
  obtain ⟨j,rfl,hj⟩:=hn u
  have:=(List.getElem?_eq_some_iff.1 hj).1
  unfold y2;omega
 have es:xM e.Kind=true→y2 st:=fun u=>by
  have:=(hs u).1.idx (by omega) (by omega)
  unfold y2;omega
 generalize hB:wG (kS a e st)++more=B
 have hK:y0 B=(e.Kind,((wG [e.Kind]).length:Int),0):=by
  rw [← hB];exact zJ5 (pre:=[]) r2
 have hA:uN B=(e.At,((wG [e.Kind,e.At]).length:Int),0):=by
  unfold uN;rw [hK,← hB];exact zJ5 (pre:=[e.Kind]) r1
 have hF:kN B=0:=by unfold kN;rw [hA,hK,if_neg (by simp only;omega)]
 have hNm:vQ B=(if y5 e.Kind then a else 0,((wG ([e.Kind,e.At]++if y5 e.Kind then [a] else [])).length:Int),0):=by
  unfold vQ;rw [hA,hK,hF,← hB]
  unfold kS
  have:=zHo (d:=0) (pre:=[e.Kind,e.At]) (post:=(if vH e.Kind then [e.N] else [])++(if v4 e.Kind then [e.M] else [])++(if xM e.Kind then [st] else [])) (more:=more) ea
  simp only [List.append_assoc] at this ⊢
  exact this
 have hN:pV B=(if vH e.Kind then e.N else 0,((wG ([e.Kind,e.At]++(if y5 e.Kind then [a] else [])++if vH e.Kind then [e.N] else [])).length:Int),0):=by
  unfold pV;rw [hNm,hK,← hB]
  unfold kS
  have:=zHo (d:=0) (pre:=[e.Kind,e.At]++(if y5 e.Kind then [a] else [])) (post:=(if v4 e.Kind then [e.M] else [])++(if xM e.Kind then [st] else [])) (more:=more) (c:=vH e.Kind) (fun _=>r3)
  simp only [List.append_assoc] at this ⊢
  exact this
 have hM:pT B=(if v4 e.Kind then e.M else 0,((wG ([e.Kind,e.At]++(if y5 e.Kind then [a] else [])++(if vH e.Kind then [e.N] else [])++if v4 e.Kind then [e.M] else [])).length:Int),0):=by
  unfold pT;rw [hN,hK,← hB]
  unfold kS
  have:=zHo (d:=0) (pre:=[e.Kind,e.At]++(if y5 e.Kind then [a] else [])++(if vH e.Kind then [e.N] else [])) (post:=(if xM e.Kind then [st] else [])) (more:=more) (c:=v4 e.Kind) (fun _=>r4)
  simp only [List.append_assoc] at this ⊢
  exact this
 have hS:wO B=(if xM e.Kind then st else -1,((wG (kS a e st)).length:Int),0):=by
  unfold wO;rw [hM,hK,← hB]
  unfold kS
  have:=zHo (d := -1) (pre:=[e.Kind,e.At]++(if y5 e.Kind then [a] else [])++(if vH e.Kind then [e.N] else [])++(if v4 e.Kind then [e.M] else [])) (post:=[]) (more:=more) es
  simp only [List.append_assoc,List.append_nil] at this ⊢
  exact this
 rw [zIt] at hb
 simp only [Bool.or_eq_false_iff,Bool.and_eq_false_iff,Bool.not_eq_false',decide_eq_false_iff_not,bne_eq_false_iff_eq,beq_iff_eq] at hb
 obtain ⟨b1,b2,b3,b4⟩:=hb
 have hchk:uW n s=0:=zCC.2 g
 have hst : -1≤(wO B).1∧(wO B).1<s.length∧(nZ n s (wO B).1).1=e.Stack:=by
  rw [hS];simp only
  cases hu:xM e.Kind
  ·refine ⟨by simp,by simp;omega,?_⟩
   rw [hu] at b4
   have:e.Stack=[]:=List.eq_nil_of_length_eq_zero (by simp at b4;simpa using b4)
   unfold nZ
   rw [if_neg (by omega),if_neg (by simp;omega),this]
   simp [zF8]
  ·have hi:=(hs hu).1.idx (by omega) (by omega)
   refine ⟨hi.1,hi.2,?_⟩
   unfold nZ
   rw [if_neg (by omega),if_neg (by simp;omega)]
   exact (hs hu).1.list (hs hu).2
 have hE:zD9 n s B=e:=by
  unfold zD9
  rw [hst.2.2,hA,hK,hN,hM,hNm]
  obtain ⟨eA,eK,eNm,eN,eM,eS⟩:=e
  simp only at *
  congr 1
  ·cases hu:y5 eK
   ·rw [hu] at b1;simpa using b1.symm
   ·obtain ⟨j,rfl,hj⟩:=hn hu
    simp [hj]
  ·cases hu:vH eK
   ·rw [hu] at b2;simpa using b2.elim (fun h=>by cases h) Eq.symm
   ·rfl
  ·cases hu:v4 eK
   ·rw [hu] at b3;simpa using b3.elim (fun h=>by cases h) Eq.symm
   ·rfl
 unfold tW
 rw [if_neg (by omega),if_neg (by rw [hS];simp),if_neg,if_neg (by omega),hE,if_neg (by omega),hS]
 rintro ⟨hu,hr⟩
 rw [hK] at hu
 obtain ⟨j,rfl,hj⟩:=hn hu
 have:=(List.getElem?_eq_some_iff.1 hj).1
 rw [hNm] at hr
 simp only [hu,if_true] at hr
 omega
def zJ3 (b L:List Int) (u:Int):Prop:=u=((wG L).length:Int)∧b.take (wG L).length=wG L
theorem zIj {b L:List Int} {u f:Int} (hb:∀ x∈b,x7 x) (h:zJ3 b L u) (hf:(qS b u f).2.2=0):f=0∧zJ3 b (L++[(qS b u f).1]) (qS b u f).2.1:=by
 obtain ⟨rfl,h2⟩:=h
 have hf0:f=0:=by
  by_cases h:f=0
  ·exact h
  ·rw [zGc h] at hf;exact absurd hf h
 subst hf0
 refine ⟨rfl,?_⟩
 unfold qS at *
 rw [if_neg (by simp)] at *
 simp only [Int.toNat_natCast] at *
 have hd:=zHj hb (wG L).length
 obtain ⟨v,h0,_,hv,h3,h4⟩:=zJn hd (i:=0) (u:=0) (by omega) (by omega) (by simp) hf
 have hr:=(zBE hd (i:=0) (u:=0) (by omega) (by omega) (by simp)).2.1 hf
 simp only [Int.zero_add,Nat.mul_zero,Int.pow_zero,Int.mul_one] at h3 hv
 have hz:w8 (vrd (List.drop (wG L).length b) 0 0).1=v:=by rw [h3];exact zKu h0
 have hl:(vV 9 v).length=(vrd (List.drop (wG L).length b) 0 0).2.1.toNat:=by
  have:=congrArg List.length h4
  rw [List.length_take] at this
  simp at this hr ⊢
  omega
 unfold zJ3
 rw [zBH,hz,List.length_append,hl]
 refine ⟨by omega,?_⟩
 rw [List.take_add,h2]
 congr 1
 simpa using h4
theorem zF4 {b L:List Int} {c:Bool} {d u f:Int} (hb:∀ x∈b,x7 x) (h:zJ3 b L u) (hf:(jW c d b u f).2.2=0):f=0∧zJ3 b (L++if c then [(jW c d b u f).1] else []) (jW c d b u f).2.1:=by
 cases c
 ·simp only [jW,Bool.false_eq_true,if_false,List.append_nil] at *
  exact ⟨hf,h⟩
 ·exact zIj hb h hf
theorem zME {n:List (List Int)} {s:List zN} {b:List Int} (hb:∀ x∈b,x7 x) (h:(tW n s b).2.2=0) :
  uM n s∧∃ L,zEl n s (tW n s b).1 L∧(tW n s b).2.1=((wG L).length:Int)∧b.take (wG L).length=wG L:=by
 unfold tW at *
 by_cases hc:uW n s≠0
 ·rw [if_pos hc] at h;simp at h
 rw [if_neg hc] at *
 by_cases hs:(wO b).2.2≠0
 ·rw [if_pos hs] at h;exact absurd h hs
 rw [if_neg hs] at *
 by_cases hn:y5 (y0 b).1=true∧((vQ b).1<0∨(vQ b).1≥n.length)
 ·rw [if_pos hn] at h;simp at h
 rw [if_neg hn] at *
 by_cases ht:(wO b).1 < -1∨(wO b).1≥s.length
 ·rw [if_pos ht] at h;simp at h
 rw [if_neg ht] at *
 by_cases he:evS (zD9 n s b)≠0
 ·rw [if_pos he] at h;simp at h
 rw [if_neg he] at *
 have g:uM n s:=zCC.1 (by omega)
 have z4:(pT b).2.2=0:=zFg (show (wO b).2.2=0 by omega)
 have z3:(pV b).2.2=0:=zFg z4
 have z2:(vQ b).2.2=0:=zFg z3
 have z1:kN b=0:=zFg z2
 have za:(uN b).2.2=0:=by
  unfold kN at z1
  split at z1
  ·simp at z1
  ·exact z1
 have p0:zJ3 b [] 0:=⟨rfl,rfl⟩
 have zk:(y0 b).2.2=0:=by
  by_cases hk:(y0 b).2.2=0
  ·exact hk
  ·unfold uN at za;rw [zGc hk] at za;exact za
 have p1:=(zIj hb p0 zk).2
 have p2:=(zIj hb p1 za).2
 have p3:=(zF4 hb p2 z2).2
 have p4:=(zF4 hb p3 z3).2
 have p5:=(zF4 hb p4 z4).2
 have p6:=(zF4 hb p5 (show (wO b).2.2=0 by omega)).2
 refine ⟨g,zA6 b,⟨by simpa using he,(vQ b).1,(wO b).1,rfl,fun u=>?_,fun u=>?_⟩,p6.1,p6.2⟩
 ·simp only [zD9] at u
  rw [u] at hn
  simp only [true_and] at hn
  refine ⟨(vQ b).1.toNat,by omega,?_⟩
  simp only [zD9,u,if_true]
  rw [List.getElem?_eq_getElem (by omega)];rfl
 ·have hd:=(g.depth0 (c:=(wO b).1) (by omega) (by omega)).2.1
  have:=g.path 32 (wO b).1 (by omega) (by omega) (by omega)
  simp only [zD9,nZ]
  rw [if_neg (by omega),if_neg (by omega)]
  exact ⟨this,by simpa using zGV n s 32 _⟩
theorem zQn {n:List (List Int)} {s:List zN} {e:zL} {L:List Int} (g:uM n s) (h:zEl n s e L):(∀ x∈wG L,x7 x)∧2≤(wG L).length∧(wG L).length≤50:=by
 obtain ⟨h0,a,st,rfl,hn,hs⟩:=h
 obtain ⟨r1,r2,r3,r4⟩:=zFm h0
 have hg1:=g.n1
 have hg2:=g.s1
 have ea:y5 e.Kind=true→y2 a:=fun u=>by
  obtain ⟨j,rfl,hj⟩:=hn u
  have:=(List.getElem?_eq_some_iff.1 hj).1
  unfold y2;omega
 have es:xM e.Kind=true→y2 st:=fun u=>by
  have:=(hs u).1.idx (by omega) (by omega)
  unfold y2;omega
 refine ⟨zRv ?_,?_⟩
 ·intro x hx
  unfold kS at hx
  simp only [List.mem_append] at hx
  rcases hx with ((((hx | hx) | hx) | hx))
  ·rcases hx with hx | hx
   ·simp at hx;rcases hx with rfl | rfl<;>assumption
   ·split at hx
    ·simp at hx;subst hx;exact ea (by assumption)
    ·cases hx
  ·split at hx
   ·simp at hx;subst hx;exact r3
   ·cases hx
  ·split at hx
   ·simp at hx;subst hx;exact r4
   ·cases hx
  ·split at hx
   ·simp at hx;subst hx;exact es (by assumption)
   ·cases hx
 ·have:=zEV (kS a e st)
  have hl:2≤(kS a e st).length∧(kS a e st).length≤5:=by
   have:=zKI e.Kind
   unfold kS
   cases h1:y5 e.Kind<;>cases h2:vH e.Kind<;>cases h3:v4 e.Kind<;>cases h4:xM e.Kind<;>simp_all
  omega
end Go.Ab
