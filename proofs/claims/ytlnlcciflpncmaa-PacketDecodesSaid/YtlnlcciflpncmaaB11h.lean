/- Plain laws of the functions uE this seat's, laid anew from another seat's text. No conditions but those that the theorems name. -/
import Derived.Test.YtlnlcciflpncmaaP11xD
import Derived.Test.YtlnlcciflpncmaaB11a
import Derived.Test.YtlnlcciflpncmaaB11b
import Derived.Test.YtlnlcciflpncmaaB11c
import Derived.Test.YtlnlcciflpncmaaB11d
import Derived.Test.YtlnlcciflpncmaaB11e
import Derived.Test.YtlnlcciflpncmaaB11f
import Derived.Test.YtlnlcciflpncmaaB11g
namespace Go.Ab
open Go
set_option linter.unusedVariables false
def zDG (n:List (List Int)) (s:List zE):List zA→List (List Int)→Prop
 | [],[]=>True
 | e::r,L::q=>zEH n s e L∧zDG n s r q
 | _,_=>False
theorem zDG.mono {n n':List (List Int)} {s s':List zE} (hn:n <+: n') (hs:s <+: s'):∀ {l:List zA} {q:List (List Int)},zDG n s l q→zDG n' s' l q
 | [],[],h=>trivial
 | _::_,_::_,h=>⟨h.1.mono hn hs,zDG.mono hn hs h.2⟩
theorem zFZ:wM [] []:=⟨by simp,by simp,rfl,rfl⟩
def zA0:List (List Int)→List zE→List Int→List zA→((List (List Int))×(List zE)×(List Int))⊕Int
 | n,s,row,[]=>.inl (n,s,row)
 | n,s,row,e::r=>if (kN n s e).2.2.2≠0 then .inr (kN n s e).2.2.2 else zA0 (kN n s e).2.1 (kN n s e).2.2.1 (row++(kN n s e).1) r
def zLD (o:((List (List Int))×(List zE)×(List Int))⊕Int):((List (List Int))×(List zE)×(List Int))⊕(List Int×Int):=match o with | .inl q=>.inl q | .inr e=>.inr ([],e)
theorem zCv:∀ (l:List zA) (n:List (List Int)) (s:List zE) (row:List Int),wM n s →
  (∃ e,zA0 n s row l=.inr e∧e≠0)∨(∃ n' s' row' q,zA0 n s row l=.inl (n',s',row')∧wM n' s'∧n <+: n'∧s <+: s'∧row'=row++q.flatMap xX∧zDG n' s' l q∧row'.length≤row.length+50 * l.length):=by
 intro l
 induction l with
 | nil=>intro n s row g;exact .inr ⟨n,s,row,[],rfl,g,List.prefix_refl _,List.prefix_refl _,by simp,trivial,by simp⟩
 | cons x r ih =>
  intro n s row g
  simp only [zA0]
  rcases zDP (n:=n) (s:=s) (e:=x) with ⟨k1,_⟩ | ⟨k1,k2,k3,k4,k5,L,k6,k7⟩
  ·rw [if_pos k1];exact .inl ⟨_,rfl,k1⟩
  ·rw [if_neg (by omega),k6]
   obtain ⟨c1,c2,c3⟩:=zFv k3 k7
   rcases ih _ _ (row++xX L) k3 with ⟨e,h1,h2⟩ | ⟨n',s',row',q,h1,h2,h3,h4,h5,h6,h7⟩
   ·exact .inl ⟨e,h1,h2⟩
   ·refine .inr ⟨n',s',row',L::q,h1,h2,k4.trans h3,k5.trans h4,by rw [h5];simp,⟨k7.mono h3 h4,h6⟩,?_⟩
    rw [List.length_append] at h7;simp only [List.length_cons];omega
theorem zD7 {p:zF} (hl:p.Events.length≤1000):∀ (m i:Nat) (n:List (List Int)) (s:List zE) (row:List Int),(p.Events.drop i).length<m→n.length≤1000→s.length≤1000→row.length+50 * (p.Events.drop i).length≤100000 →
  qD 200000 p m n s (i:Nat) row=some (zLD (zA0 n s row (p.Events.drop i))):=by
 intro m
 induction m with
 | zero=>intro i n s row h;omega
 | succ m ih =>
  intro i n s row hm hn hs hr
  show tD _ _ _ _ _ _ _=_
  unfold tD
  rcases hd:p.Events.drop i with _ | ⟨x,r⟩
  ·have:=wO hd
   rw [z7 (by omega)];rfl
  have hlt:=vA hd
  rw [hd] at hm hr
  simp only [List.length_cons] at hm hr
  rw [z9 (by omega),cond_true,yQ hd,Option.bind_some,zFq (by omega) (by omega),Option.bind_some]
  simp only [zA0]
  rcases zDP (n:=n) (s:=s) (e:=x) with ⟨k1,k2⟩ | ⟨k1,k2,k3,k4,k5,L,k6,k7⟩
  ·rw [y0 k1,if_pos k1];rfl
  ·obtain ⟨c1,c2,c3⟩:=zFv k3 k7
   have g1:=k3.n1
   have g2:=k3.s1
   rw [y6 k1,if_neg (by omega),cond_false,k6,yN (by omega),Option.bind_some,xP (by omega),ih (i+1) _ _ _ (by rw [yD hd];omega) g1 g2 (by rw [yD hd,List.length_append];omega),yD hd]
theorem zEX {l:List Int} (h:∀ x∈l,yH x) (hl:l.length≤1000):pD 200000 l=some (xX l):=by
 unfold pD
 have key:∀ (m i:Nat) (row:List Int),(l.drop i).length<m→row.length+10 * (l.drop i).length≤1000000→tT 200000 l m (i:Nat) row=some (row++xX (l.drop i)):=by
  intro m
  induction m with
  | zero=>intro i row h;omega
  | succ m ih =>
   intro i row hm hr
   show uX _ _ _ _ _=_
   unfold uX
   rcases hd:l.drop i with _ | ⟨x,r⟩
   ·have:=wO hd
    rw [z7 (by omega),cond_false,zJY,List.append_nil]
   have hlt:=vA hd
   rw [hd] at hm hr
   simp only [List.length_cons] at hm hr
   have hv:=(vI 9 (x9 x)).2
   rw [z9 (by omega),cond_true,yQ hd,Option.bind_some,vO (h x (nY hd)) (by omega) (by omega),Option.bind_some,xP (by omega),ih (i+1) _ (by rw [yD hd];omega) (by rw [yD hd,List.length_append];omega),yD hd,zEz,List.append_assoc]
 rw [show tT 200000 l 200000 0 []=_ from key 200000 0 [] (by simp;omega) (by simp;omega)];simp
theorem zAo {l b:List Int} (h:∀ x∈l,yH x) (hl:l.length≤1000) (hb:b.length≤900000):t9 200000 b l=some (b++xX l):=by
 unfold t9
 have key:∀ (m i:Nat) (row:List Int),(l.drop i).length<m→row.length+10 * (l.drop i).length≤1000000→tW 200000 l m (i:Nat) row=some (row++xX (l.drop i)):=by
  intro m
  induction m with
  | zero=>intro i row h;omega
  | succ m ih =>
   intro i row hm hr
   show uY _ _ _ _ _=_
   unfold uY
   rcases hd:l.drop i with _ | ⟨x,r⟩
   ·have:=wO hd
    rw [z7 (by omega),cond_false,zJY,List.append_nil]
   have hlt:=vA hd
   rw [hd] at hm hr
   simp only [List.length_cons] at hm hr
   have hv:=(vI 9 (x9 x)).2
   rw [z9 (by omega),cond_true,yQ hd,Option.bind_some,vO (h x (nY hd)) (by omega) (by omega),Option.bind_some,xP (by omega),ih (i+1) _ (by rw [yD hd];omega) (by rw [yD hd,List.length_append];omega),yD hd,zEz,List.append_assoc]
 rw [show tW 200000 l 200000 0 b=_ from key 200000 0 b (by simp;omega) (by simp;omega)];simp
def zIA (x:List Int):List Int:=vX 9 (x9 x.length)++x
def zAz (n:List (List Int)):List Int:=n.flatMap zIA
def p8 (s:List zE):List Int:=s.flatMap fun p=>xX [p.c0,p.c1]
theorem zMy {x:List Int} (h:wV x=0):x.length≤40:=by
 unfold wV at h
 by_cases hx:x=[]∨40<x.length
 ·rw [if_pos hx] at h;cases h
 ·omega
theorem zD2 {q:(List (List Int))×(List zE)×(List Int)} (hn:∀ x∈q.1,x.length≤40) (hl:q.1.length≤1000):∀ (m i:Nat) (row:List Int),(q.1.drop i).length<m→row.length+50 * (q.1.drop i).length≤200000 →
  qH 200000 q m (i:Nat) row=some (row++zAz (q.1.drop i)):=by
 intro m
 induction m with
 | zero=>intro i row h;omega
 | succ m ih =>
  intro i row hm hr
  show tB _ _ _ _ _=_
  unfold tB
  rcases hd:q.1.drop i with _ | ⟨x,r⟩
  ·have:=wO hd
   rw [z7 (by omega),cond_false];simp [zAz]
  have hlt:=vA hd
  rw [hd] at hm hr
  simp only [List.length_cons] at hm hr
  have hx:=hn x (nY hd)
  have hv:=(vI 9 (x9 x.length)).2
  rw [z9 (by omega),cond_true,yQ hd,Option.bind_some,zFT (by omega) (by omega) (by omega),Option.bind_some,xP (by omega),ih (i+1) _ (by rw [yD hd];omega) (by rw [yD hd,List.length_append,List.length_append];omega),yD hd]
  simp [zAz,zIA]
theorem zD6 {q:(List (List Int))×(List zE)×(List Int)} (hn:∀ x∈q.2.1,yH x.c0∧yH x.c1) (hl:q.2.1.length≤1000):∀ (m i:Nat) (row:List Int),(q.2.1.drop i).length<m→row.length+20 * (q.2.1.drop i).length≤200000 →
  qI 200000 q m (i:Nat) row=some (row++p8 (q.2.1.drop i)):=by
 intro m
 induction m with
 | zero=>intro i row h;omega
 | succ m ih =>
  intro i row hm hr
  show tA _ _ _ _ _=_
  unfold tA
  rcases hd:q.2.1.drop i with _ | ⟨x,r⟩
  ·have:=wO hd
   rw [z7 (by omega),cond_false];simp [p8]
  have hlt:=vA hd
  rw [hd] at hm hr
  simp only [List.length_cons] at hm hr
  have hx:=hn x (nY hd)
  have hv:=(tM [x.c0,x.c1]).2
  simp only [List.length_cons,List.length_nil] at hv
  rw [z9 (by omega),cond_true,yQ hd,Option.bind_some,zAo (fun y hy=>by simp at hy;rcases hy with rfl | rfl;exact hx.1;exact hx.2) (by simp) (by omega),Option.bind_some,xP (by omega),ih (i+1) _ (by rw [yD hd];omega) (by rw [yD hd,List.length_append];omega),yD hd]
  simp [p8]
def zID (p:zF) (n:List (List Int)) (s:List zE):List Int:=xX [p.Thread,p.Serial,p.Lost,(n.length:Int)]++zAz n++xX [(s.length:Int)]++p8 s++xX [(p.Events.length:Int)]
def kP (p:zF):List Int×Int :=
 if qK p≠0 then ([],qK p) else match zA0 [] [] [] p.Events with
 | .inr e=>([],e)
 | .inl q=>(zID p q.1 q.2.1++q.2.2,0)
theorem zGe:∀ {n:List (List Int)},(∀ x∈n,x.length≤40)→(zAz n).length≤50 * n.length:=by
 intro n
 induction n with
 | nil=>intro _;simp [zAz]
 | cons x r ih =>
  intro h
  have h1:=ih (fun y hy=>h y (by simp [hy]))
  have h2:=h x (by simp)
  have h3:=(vI 9 (x9 x.length)).2
  simp only [zAz,zIA,List.flatMap_cons,List.length_append,List.length_cons] at *
  omega
theorem zE5:∀ {s:List zE},(p8 s).length≤20 * s.length:=by
 intro s
 induction s with
 | nil=>simp [p8]
 | cons x r ih =>
  have hv:=(tM [x.c0,x.c1]).2
  simp only [p8,List.flatMap_cons,List.length_append,List.length_cons,List.length_nil] at *
  omega
theorem wM.lens {n:List (List Int)} {s:List zE} (g:wM n s):(∀ x∈n,x.length≤40)∧(∀ x∈s,yH x.c0∧yH x.c1):=by
 refine ⟨fun x hx=>zMy (g.valid hx),fun x hx=>?_⟩
 obtain ⟨i,hi⟩:=List.getElem?_of_mem hx
 have hil:=(List.getElem?_eq_some_iff.1 hi).1
 have:=g.pair hi
 have h1:=g.n1
 have h2:=g.s1
 unfold yH;omega
theorem zNK {p:zF} (hp:qK p=0) {k:Int} (h0:0≤k) (h1:k≤1000):∀ x∈[p.Thread,p.Serial,p.Lost,k],yH x:=by
 have:=zDJ hp
 intro x hx
 simp at hx
 unfold yH
 rcases hx with rfl | rfl | rfl | rfl<;>omega
theorem zFt {p:zF} (hl:p.Events.length≤100000):jB 200000 p=some (kP p):=by
 unfold jB kP
 rw [zCM hl,Option.bind_some]
 by_cases hp:qK p≠0
 ·rw [y0 hp,if_pos hp];rfl
 have hp0:qK p=0:=by omega
 have hz:=zDJ hp0
 rw [y6 hp0,if_neg hp,cond_false,show qD 200000 p 200000 [] [] 0 []=_ from zD7 (by omega) 200000 0 [] [] [] (by simp;omega) (by simp) (by simp) (by simp;omega),Option.bind_some,List.drop_zero]
 rcases zCv p.Events [] [] [] zFZ with ⟨e,h1,h2⟩ | ⟨n',s',row',q,h1,h2,h3,h4,h5,h6,h7⟩
 ·rw [h1];rfl
 ·rw [h1]
  simp only [zLD]
  obtain ⟨g1,g2⟩:=h2.lens
  have h8:=h2.n1
  have h9:=h2.s1
  have l1:=(tM [p.Thread,p.Serial,p.Lost,(n'.length:Int)]).2
  have l2:=zGe g1
  have l3:=(tM [(s'.length:Int)]).2
  have l4:=zE5 (s:=s')
  have l5:=(tM [(p.Events.length:Int)]).2
  simp only [List.length_cons,List.length_nil] at l1 l3 l5 h7
  rw [zEX (zNK hp0 (by omega) (by omega)) (by simp),Option.bind_some,
   show qH 200000 (n',s',row') 200000 0 (xX [p.Thread,p.Serial,p.Lost,(n'.length:Int)])=_ from zD2 (q:=(n',s',row')) g1 h8 200000 0 _ (by simp;omega) (by simp;omega),Option.bind_some,List.drop_zero,
   zAo (fun x hx=>by simp at hx;subst hx;unfold yH;omega) (by simp) (by rw [List.length_append];simp only;omega),Option.bind_some,
   show qI 200000 (n',s',row') 200000 0 _=_ from zD6 (q:=(n',s',row')) g2 h9 200000 0 _ (by simp;omega) (by simp only [List.drop_zero,List.length_append];omega),Option.bind_some,List.drop_zero,
   zAo (fun x hx=>by simp at hx;subst hx;unfold yH;omega) (by simp) (by simp only [List.length_append];omega),Option.bind_some,yN (by simp only [List.length_append];omega),Option.bind_some]
  simp only [zID,List.append_assoc]
end Go.Ab
