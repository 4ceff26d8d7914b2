/- Plain laws of the functions tL this seat's, laid anew from another seat's text. No conditions but those that the theorems name. -/
import Derived.Test.YtdpgdpjoemdkjaaP10xD
import Derived.Test.YtdpgdpjoemdkjaaB10a
import Derived.Test.YtdpgdpjoemdkjaaB10b
import Derived.Test.YtdpgdpjoemdkjaaB10c
import Derived.Test.YtdpgdpjoemdkjaaB10d
import Derived.Test.YtdpgdpjoemdkjaaB10e
import Derived.Test.YtdpgdpjoemdkjaaB10f
namespace Go.Ab
open Go
set_option linter.unusedVariables false
def zEg (n:List (List Int)) (s:List zO) (e:zL) (L:List Int):Prop :=
 evS e=0∧∃ a st:Int,L=j3 a e st∧(y0 e.Kind=true→∃ j:Nat,a=(j:Int)∧n[j]?=some e.Name)∧(xI e.Kind=true→Has n s (-1) e.Stack st∧e.Stack.length≤32)
theorem zEg.mono {n n':List (List Int)} {s s':List zO} {e:zL} {L:List Int} (h:zEg n s e L) (hn:n <+: n') (hs:s <+: s'):zEg n' s' e L:=by
 obtain ⟨h0,a,st,h1,h2,h3⟩:=h
 exact ⟨h0,a,st,h1,fun u=>let ⟨j,e,g⟩:=h2 u;⟨j,e,zCG hn g⟩,fun u=>⟨(h3 u).1.mono hn hs,(h3 u).2⟩⟩
theorem zFU {n:List (List Int)} {s:List zO} {e:zL} :
  ((vA n s e).2.2.2≠0∧vA n s e=([],[],[],(vA n s e).2.2.2)) ∨
  ((vA n s e).2.2.2=0∧vW n s∧vW (vA n s e).2.1 (vA n s e).2.2.1∧n <+: (vA n s e).2.1∧s <+: (vA n s e).2.2.1 ∧
   ∃ L,(vA n s e).1=wD L∧zEg (vA n s e).2.1 (vA n s e).2.2.1 e L):=by
 unfold vA
 by_cases hc:uA n s≠0
 ·rw [if_pos hc];exact .inl ⟨by simp,rfl⟩
 rw [if_neg hc]
 have g:vW n s:=zCq.1 (by omega)
 by_cases he:evS e≠0
 ·rw [if_pos he];exact .inl ⟨he,rfl⟩
 rw [if_neg he]
 have he0:evS e=0:=by omega
 obtain ⟨_,_,_,_,_,ht,_⟩:=zDf he0
 have hN:(j0 n e).2.2≠0∨(j0 n e).2.2=0∧vW (j0 n e).2.1 s∧n <+: (j0 n e).2.1∧(y0 e.Kind=true→∃ j:Nat,(j0 n e).1=(j:Int)∧(j0 n e).2.1[j]?=some e.Name):=by
  unfold j0
  cases hu:y0 e.Kind
  ·exact .inr ⟨rfl,g,List.prefix_refl _,fun h=>by cases h⟩
  ·unfold zD0 at ht
   rw [hu] at ht
   rcases zHI g (x:=e.Name) (by simpa using ht) with h | h
   ·exact .inl (by simp [h.1])
   ·exact .inr ⟨h.1,h.2.2.1,h.2.2.2.1,fun _=>h.2.1⟩
 rcases hN with hN | ⟨h1,h2,h3,h4⟩
 ·rw [if_pos hN];exact .inl ⟨hN,rfl⟩
 rw [if_neg (by omega)]
 have hT:(j1 (j0 n e).2.1 s e).2.2.2≠0∨(j1 (j0 n e).2.1 s e).2.2.2=0∧vW (j1 (j0 n e).2.1 s e).2.1 (j1 (j0 n e).2.1 s e).2.2.1∧(j0 n e).2.1 <+: (j1 (j0 n e).2.1 s e).2.1∧s <+: (j1 (j0 n e).2.1 s e).2.2.1 ∧
   (xI e.Kind=true→Has (j1 (j0 n e).2.1 s e).2.1 (j1 (j0 n e).2.1 s e).2.2.1 (-1) e.Stack (j1 (j0 n e).2.1 s e).1∧e.Stack.length≤32):=by
  unfold j1
  cases hu:xI e.Kind
  ·exact .inr ⟨rfl,h2,List.prefix_refl _,List.prefix_refl _,fun h=>by cases h⟩
  ·rcases zJX (l:=e.Stack) h2 with h | h
   ·exact .inl h.1
   ·exact .inr ⟨h.1,h.2.2.2.1,h.2.2.2.2.1,h.2.2.2.2.2.1,fun _=>⟨h.2.2.2.2.2.2.1,h.2.1⟩⟩
 rcases hT with hT | ⟨k1,k2,k3,k4,k5⟩
 ·rw [if_pos hT];exact .inl ⟨hT,rfl⟩
 rw [if_neg (by omega)]
 exact .inr ⟨rfl,g,k2,h3.trans k3,k4,_,rfl,he0,_,_,rfl,fun u=>let ⟨j,e,g⟩:=h4 u;⟨j,e,zCG k3 g⟩,k5⟩
theorem zQp {n:List (List Int)} {s:List zO} {e:zL}:(vA n s e).2.1.length≤1000∧(vA n s e).2.2.1.length≤1000:=by
 rcases zFU (n:=n) (s:=s) (e:=e) with ⟨_,h⟩ | ⟨_,_,g,_⟩
 ·rw [h];simp
 ·exact ⟨g.n1,g.s1⟩
theorem Has.idx {n:List (List Int)} {s:List zO}:∀ {l:List (List Int)} {at_ i:Int},Has n s at_ l i → -1≤at_→at_<s.length → -1≤i∧i<s.length:=by
 intro l
 induction l with
 | nil=>intro at_ i h h0 h1;simp only [Has] at h;omega
 | cons x r ih =>
  rintro at_ i ⟨a,b,h1,h2,h3⟩ _ _
  have:=(List.getElem?_eq_some_iff.1 h2).1
  exact ih h3 (by omega) (by omega)
theorem Has.snoc {n:List (List Int)} {s:List zO} {x:List Int} {a b:Nat} {c:Int} (ha:n[a]?=some x) (hb:s[b]?=some ⟨c,(a:Int)⟩):∀ {l:List (List Int)} {at_:Int},Has n s at_ l c→Has n s at_ (l++[x]) (b:Int):=by
 intro l
 induction l with
 | nil=>intro at_ h;simp only [Has] at h;subst h;exact ⟨a,b,ha,hb,rfl⟩
 | cons y r ih =>
  rintro at_ ⟨a2,b2,h1,h2,h3⟩
  exact ⟨a2,b2,h1,h2,ih h3⟩
theorem vW.path {n:List (List Int)} {s:List zO} (g:vW n s):∀ (k:Nat) (i:Int), -1≤i→i<s.length→dOf (dsF s) i≤k→Has n s (-1) (kN n s k i).reverse i:=by
 intro k
 induction k with
 | zero =>
  intro i h0 h1 hd
  have:=g.depth0 h0 h1
  have hi:i = -1:=by omega
  subst hi;rfl
 | succ k ih =>
  intro i h0 h1 hd
  by_cases hi:i<0
  ·have hi:i = -1:=by omega
   subst hi;rfl
  obtain ⟨j,rfl⟩:=Int.eq_ofNat_of_zero_le (show 0≤i by omega)
  have hj:j<s.length:=by omega
  have hp:=List.getElem?_eq_getElem hj
  obtain ⟨q1,q2,q3,q4,q5,q6,_⟩:=g.pair hp
  simp only [kN]
  rw [if_neg hi,Int.toNat_natCast,hp]
  simp only [List.reverse_cons]
  have h:=ih (s[j]).c0 q1 (by omega) (by omega)
  have hn:n[(s[j]).c1.toNat]?=some ((n[(s[j]).c1.toNat]?).getD []):=by rw [List.getElem?_eq_getElem (by omega)];rfl
  refine Has.snoc hn ?_ h
  rw [hp,Int.toNat_of_nonneg q3]
theorem zJE {pre post more:List Int} {x:Int} (hx:y3 x):t5 (wD (pre++x::post)++more) ((wD pre).length:Int) 0=(x,((wD (pre++[x])).length:Int),0):=by
 unfold t5
 rw [if_neg (by simp)]
 have:(wD (pre++x::post)++more).drop ((wD pre).length:Int).toNat=w9 9 (wM x)++(wD post++more):=by
  rw [Int.toNat_natCast,show wD (pre++x::post)=wD pre++(w9 9 (wM x)++wD post) by simp [wD],List.append_assoc,List.drop_left,List.append_assoc]
 rw [this,zNP hx,zBk]
 simp
theorem zHa {pre post more:List Int} {x d:Int} {c:Bool} (hx:c=true→y3 x):qZ c d (wD (pre++(if c then [x] else [])++post)++more) ((wD pre).length:Int) 0=(if c then x else d,((wD (pre++if c then [x] else [])).length:Int),0):=by
 cases c
 ·simp [qZ]
 ·have:=zJE (pre:=pre) (post:=post) (more:=more) (hx rfl)
  simp only [qZ,if_true,List.append_assoc,List.singleton_append] at *
  exact this
theorem zPz {n:List (List Int)} {s:List zO} {e:zL} {L more:List Int} (g:vW n s) (h:zEg n s e L):uZ n s (wD L++more)=(e,((wD L).length:Int),0):=by
 obtain ⟨h0,a,st,rfl,hn,hs⟩:=h
 obtain ⟨r1,r2,r3,r4⟩:=zE7 h0
 obtain ⟨_,_,k1,k2,hb,_,_⟩:=zDf h0
 have hg1:=g.n1
 have hg2:=g.s1
 have ea:y0 e.Kind=true→y3 a:=fun u=>by
  obtain ⟨j,rfl,hj⟩:=hn u
  have:=(List.getElem?_eq_some_iff.1 hj).1
  unfold y3;omega
 have es:xI e.Kind=true→y3 st:=fun u=>by
  have:=(hs u).1.idx (by omega) (by omega)
  unfold y3;omega
 generalize hB:wD (j3 a e st)++more=B
 have hK:yY B=(e.Kind,((wD [e.Kind]).length:Int),0):=by
  rw [← hB];exact zJE (pre:=[]) r2
 have hA:v5 B=(e.At,((wD [e.Kind,e.At]).length:Int),0):=by
  unfold v5;rw [hK,← hB];exact zJE (pre:=[e.Kind]) r1
 have hF:jV B=0:=by unfold jV;rw [hA,hK,if_neg (by simp only;omega)]
 have hNm:w4 B=(if y0 e.Kind then a else 0,((wD ([e.Kind,e.At]++if y0 e.Kind then [a] else [])).length:Int),0):=by
  unfold w4;rw [hA,hK,hF,← hB]
  unfold j3
  have:=zHa (d:=0) (pre:=[e.Kind,e.At]) (post:=(if wV e.Kind then [e.N] else [])++(if vE e.Kind then [e.M] else [])++(if xI e.Kind then [st] else [])) (more:=more) ea
  simp only [List.append_assoc] at this ⊢
  exact this
 have hN:kZ B=(if wV e.Kind then e.N else 0,((wD ([e.Kind,e.At]++(if y0 e.Kind then [a] else [])++if wV e.Kind then [e.N] else [])).length:Int),0):=by
  unfold kZ;rw [hNm,hK,← hB]
  unfold j3
  have:=zHa (d:=0) (pre:=[e.Kind,e.At]++(if y0 e.Kind then [a] else [])) (post:=(if vE e.Kind then [e.M] else [])++(if xI e.Kind then [st] else [])) (more:=more) (c:=wV e.Kind) (fun _=>r3)
  simp only [List.append_assoc] at this ⊢
  exact this
 have hM:kU B=(if vE e.Kind then e.M else 0,((wD ([e.Kind,e.At]++(if y0 e.Kind then [a] else [])++(if wV e.Kind then [e.N] else [])++if vE e.Kind then [e.M] else [])).length:Int),0):=by
  unfold kU;rw [hN,hK,← hB]
  unfold j3
  have:=zHa (d:=0) (pre:=[e.Kind,e.At]++(if y0 e.Kind then [a] else [])++(if wV e.Kind then [e.N] else [])) (post:=(if xI e.Kind then [st] else [])) (more:=more) (c:=vE e.Kind) (fun _=>r4)
  simp only [List.append_assoc] at this ⊢
  exact this
 have hS:wI B=(if xI e.Kind then st else -1,((wD (j3 a e st)).length:Int),0):=by
  unfold wI;rw [hM,hK,← hB]
  unfold j3
  have:=zHa (d := -1) (pre:=[e.Kind,e.At]++(if y0 e.Kind then [a] else [])++(if wV e.Kind then [e.N] else [])++(if vE e.Kind then [e.M] else [])) (post:=[]) (more:=more) es
  simp only [List.append_assoc,List.append_nil] at this ⊢
  exact this
 rw [zId] at hb
 simp only [Bool.or_eq_false_iff,Bool.and_eq_false_iff,Bool.not_eq_false',decide_eq_false_iff_not,bne_eq_false_iff_eq,beq_iff_eq] at hb
 obtain ⟨b1,b2,b3,b4⟩:=hb
 have hchk:uA n s=0:=zCq.2 g
 have hst : -1≤(wI B).1∧(wI B).1<s.length∧(nI n s (wI B).1).1=e.Stack:=by
  rw [hS];simp only
  cases hu:xI e.Kind
  ·refine ⟨by simp,by simp;omega,?_⟩
   rw [hu] at b4
   have:e.Stack=[]:=List.eq_nil_of_length_eq_zero (by simp at b4;simpa using b4)
   unfold nI
   rw [if_neg (by omega),if_neg (by simp;omega),this]
   simp [zFX]
  ·have hi:=(hs hu).1.idx (by omega) (by omega)
   refine ⟨hi.1,hi.2,?_⟩
   unfold nI
   rw [if_neg (by omega),if_neg (by simp;omega)]
   exact (hs hu).1.list (hs hu).2
 have hE:zD9 n s B=e:=by
  unfold zD9
  rw [hst.2.2,hA,hK,hN,hM,hNm]
  obtain ⟨eA,eK,eNm,eN,eM,eS⟩:=e
  simp only at *
  congr 1
  ·cases hu:y0 eK
   ·rw [hu] at b1;simpa using b1.symm
   ·obtain ⟨j,rfl,hj⟩:=hn hu
    simp [hj]
  ·cases hu:wV eK
   ·rw [hu] at b2;simpa using b2.elim (fun h=>by cases h) Eq.symm
   ·rfl
  ·cases hu:vE eK
   ·rw [hu] at b3;simpa using b3.elim (fun h=>by cases h) Eq.symm
   ·rfl
 unfold uZ
 rw [if_neg (by omega),if_neg (by rw [hS];simp),if_neg,if_neg (by omega),hE,if_neg (by omega),hS]
 rintro ⟨hu,hr⟩
 rw [hK] at hu
 obtain ⟨j,rfl,hj⟩:=hn hu
 have:=(List.getElem?_eq_some_iff.1 hj).1
 rw [hNm] at hr
 simp only [hu,if_true] at hr
 omega
def zJR (b L:List Int) (u:Int):Prop:=u=((wD L).length:Int)∧b.take (wD L).length=wD L
theorem zH1 {b L:List Int} {u f:Int} (hb:∀ x∈b,x4 x) (h:zJR b L u) (hf:(t5 b u f).2.2=0):f=0∧zJR b (L++[(t5 b u f).1]) (t5 b u f).2.1:=by
 obtain ⟨rfl,h2⟩:=h
 have hf0:f=0:=by
  by_cases h:f=0
  ·exact h
  ·rw [zF9 h] at hf;exact absurd hf h
 subst hf0
 refine ⟨rfl,?_⟩
 unfold t5 at *
 rw [if_neg (by simp)] at *
 simp only [Int.toNat_natCast] at *
 have hd:=zG2 hb (wD L).length
 obtain ⟨v,h0,_,hv,h3,h4⟩:=zIL hd (i:=0) (u:=0) (by omega) (by omega) (by simp) hf
 have hr:=(zBe hd (i:=0) (u:=0) (by omega) (by omega) (by simp)).2.1 hf
 simp only [Int.zero_add,Nat.mul_zero,Int.pow_zero,Int.mul_one] at h3 hv
 have hz:wM (vrd (List.drop (wD L).length b) 0 0).1=v:=by rw [h3];exact zKk h0
 have hl:(w9 9 v).length=(vrd (List.drop (wD L).length b) 0 0).2.1.toNat:=by
  have:=congrArg List.length h4
  rw [List.length_take] at this
  simp at this hr ⊢
  omega
 unfold zJR
 rw [zBk,hz,List.length_append,hl]
 refine ⟨by omega,?_⟩
 rw [List.take_add,h2]
 congr 1
 simpa using h4
theorem zFZ {b L:List Int} {c:Bool} {d u f:Int} (hb:∀ x∈b,x4 x) (h:zJR b L u) (hf:(qZ c d b u f).2.2=0):f=0∧zJR b (L++if c then [(qZ c d b u f).1] else []) (qZ c d b u f).2.1:=by
 cases c
 ·simp only [qZ,Bool.false_eq_true,if_false,List.append_nil] at *
  exact ⟨hf,h⟩
 ·exact zH1 hb h hf
theorem zMK {n:List (List Int)} {s:List zO} {b:List Int} (hb:∀ x∈b,x4 x) (h:(uZ n s b).2.2=0) :
  vW n s∧∃ L,zEg n s (uZ n s b).1 L∧(uZ n s b).2.1=((wD L).length:Int)∧b.take (wD L).length=wD L:=by
 unfold uZ at *
 by_cases hc:uA n s≠0
 ·rw [if_pos hc] at h;simp at h
 rw [if_neg hc] at *
 by_cases hs:(wI b).2.2≠0
 ·rw [if_pos hs] at h;exact absurd h hs
 rw [if_neg hs] at *
 by_cases hn:y0 (yY b).1=true∧((w4 b).1<0∨(w4 b).1≥n.length)
 ·rw [if_pos hn] at h;simp at h
 rw [if_neg hn] at *
 by_cases ht:(wI b).1 < -1∨(wI b).1≥s.length
 ·rw [if_pos ht] at h;simp at h
 rw [if_neg ht] at *
 by_cases he:evS (zD9 n s b)≠0
 ·rw [if_pos he] at h;simp at h
 rw [if_neg he] at *
 have g:vW n s:=zCq.1 (by omega)
 have z4:(kU b).2.2=0:=zFi (show (wI b).2.2=0 by omega)
 have z3:(kZ b).2.2=0:=zFi z4
 have z2:(w4 b).2.2=0:=zFi z3
 have z1:jV b=0:=zFi z2
 have za:(v5 b).2.2=0:=by
  unfold jV at z1
  split at z1
  ·simp at z1
  ·exact z1
 have p0:zJR b [] 0:=⟨rfl,rfl⟩
 have zk:(yY b).2.2=0:=by
  by_cases hk:(yY b).2.2=0
  ·exact hk
  ·unfold v5 at za;rw [zF9 hk] at za;exact za
 have p1:=(zH1 hb p0 zk).2
 have p2:=(zH1 hb p1 za).2
 have p3:=(zFZ hb p2 z2).2
 have p4:=(zFZ hb p3 z3).2
 have p5:=(zFZ hb p4 z4).2
 have p6:=(zFZ hb p5 (show (wI b).2.2=0 by omega)).2
 refine ⟨g,zAK b,⟨by simpa using he,(w4 b).1,(wI b).1,rfl,fun u=>?_,fun u=>?_⟩,p6.1,p6.2⟩
 ·simp only [zD9] at u
  rw [u] at hn
  simp only [true_and] at hn
  refine ⟨(w4 b).1.toNat,by omega,?_⟩
  simp only [zD9,u,if_true]
  rw [List.getElem?_eq_getElem (by omega)];rfl
 ·have hd:=(g.depth0 (c:=(wI b).1) (by omega) (by omega)).2.1
  have:=g.path 32 (wI b).1 (by omega) (by omega) (by omega)
  simp only [zD9,nI]
  rw [if_neg (by omega),if_neg (by omega)]
  exact ⟨this,by simpa using zGG n s 32 _⟩
theorem zQC {n:List (List Int)} {s:List zO} {e:zL} {L:List Int} (g:vW n s) (h:zEg n s e L):(∀ x∈wD L,x4 x)∧2≤(wD L).length∧(wD L).length≤50:=by
 obtain ⟨h0,a,st,rfl,hn,hs⟩:=h
 obtain ⟨r1,r2,r3,r4⟩:=zE7 h0
 have hg1:=g.n1
 have hg2:=g.s1
 have ea:y0 e.Kind=true→y3 a:=fun u=>by
  obtain ⟨j,rfl,hj⟩:=hn u
  have:=(List.getElem?_eq_some_iff.1 hj).1
  unfold y3;omega
 have es:xI e.Kind=true→y3 st:=fun u=>by
  have:=(hs u).1.idx (by omega) (by omega)
  unfold y3;omega
 refine ⟨zQ5 ?_,?_⟩
 ·intro x hx
  unfold j3 at hx
  simp only [List.mem_append] at hx
  rcases hx with ((((hx | hx) | hx) | hx))
  ·rcases hx with hx | hx
   ·simp at hx;rcases hx with rfl | rfl<;>assumption
   ·split at hx
    ·simp at hx;subst hx;exact ea (by assumption)
    ·cases hx
  ·split at hx
   ·simp at hx;subst hx;exact r3
   ·cases hx
  ·split at hx
   ·simp at hx;subst hx;exact r4
   ·cases hx
  ·split at hx
   ·simp at hx;subst hx;exact es (by assumption)
   ·cases hx
 ·have:=zEW (j3 a e st)
  have hl:2≤(j3 a e st).length∧(j3 a e st).length≤5:=by
   have:=zKn e.Kind
   unfold j3
   cases h1:y0 e.Kind<;>cases h2:wV e.Kind<;>cases h3:vE e.Kind<;>cases h4:xI e.Kind<;>simp_all
  omega
end Go.Ab
