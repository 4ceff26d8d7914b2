/- Plain laws of the functions uE this seat's, laid anew from another seat's text. No conditions but those that the theorems name. -/
import Derived.Test.YtlnlcciflpncmaaP11xD
import Derived.Test.YtlnlcciflpncmaaB11a
import Derived.Test.YtlnlcciflpncmaaB11b
import Derived.Test.YtlnlcciflpncmaaB11c
import Derived.Test.YtlnlcciflpncmaaB11d
import Derived.Test.YtlnlcciflpncmaaB11e
import Derived.Test.YtlnlcciflpncmaaB11f
import Derived.Test.YtlnlcciflpncmaaB11g
import Derived.Test.YtlnlcciflpncmaaB11h
import Derived.Test.YtlnlcciflpncmaaB11i
import Derived.Test.YtlnlcciflpncmaaB11j
namespace Go.Ab
open Go
set_option linter.unusedVariables false
theorem zFz {p:zF} (hl:p.Events.length≤1000):∀ (m i:Nat) (n:List (List Int)) (s:List zE) (row:List Int),(p.Events.drop i).length<m→n.length≤1000→s.length≤1000→row.length+50 * (p.Events.drop i).length≤100000 →
  j9 200000 p m n s (i:Nat) row=some (zLD (zA0 n s row (p.Events.drop i))):=by
 intro m
 induction m with
 | zero=>intro i n s row h;omega
 | succ m ih =>
  intro i n s row hm hn hs hr
  show qM _ _ _ _ _ _ _=_
  unfold qM
  rcases hd:p.Events.drop i with _ | ⟨x,r⟩
  ·have:=wO hd
   rw [z7 (by omega)];rfl
  have hlt:=vA hd
  rw [hd] at hm hr
  simp only [List.length_cons] at hm hr
  rw [z9 (by omega),cond_true,yQ hd,Option.bind_some,zIr (by omega) (by omega),Option.bind_some]
  simp only [zA0]
  rcases zDP (n:=n) (s:=s) (e:=x) with ⟨k1,k2⟩ | ⟨k1,k2,k3,k4,k5,L,k6,k7⟩
  ·rw [y0 k1,if_pos k1];rfl
  ·obtain ⟨c1,c2,c3⟩:=zFv k3 k7
   have g1:=k3.n1
   have g2:=k3.s1
   rw [y6 k1,if_neg (by omega),cond_false,k6,yN (by omega),Option.bind_some,xP (by omega),ih (i+1) _ _ _ (by rw [yD hd];omega) g1 g2 (by rw [yD hd,List.length_append];omega),yD hd]
theorem zFN {q:(List (List Int))×(List zE)×(List Int)} (hn:∀ x∈q.1,x.length≤40) (hl:q.1.length≤1000):∀ (m i:Nat) (row:List Int),(q.1.drop i).length<m→row.length+50 * (q.1.drop i).length≤200000 →
  kA 200000 q m (i:Nat) row=some (row++zAz (q.1.drop i)):=by
 intro m
 induction m with
 | zero=>intro i row h;omega
 | succ m ih =>
  intro i row hm hr
  show qN _ _ _ _ _=_
  unfold qN
  rcases hd:q.1.drop i with _ | ⟨x,r⟩
  ·have:=wO hd
   rw [z7 (by omega),cond_false];simp [zAz]
  have hlt:=vA hd
  rw [hd] at hm hr
  simp only [List.length_cons] at hm hr
  have hx:=hn x (nY hd)
  have hv:=(vI 9 (x9 x.length)).2
  rw [z9 (by omega),cond_true,yQ hd,Option.bind_some,zG1 (by omega) (by omega) (by omega) (by omega),Option.bind_some,xP (by omega),ih (i+1) _ (by rw [yD hd];omega) (by rw [yD hd,List.length_append,List.length_append];omega),yD hd]
  simp [zAz,zIA]
theorem zFF {q:(List (List Int))×(List zE)×(List Int)} (hn:∀ x∈q.2.1,yH x.c0∧yH x.c1) (hl:q.2.1.length≤1000):∀ (m i:Nat) (row:List Int),(q.2.1.drop i).length<m→row.length+20 * (q.2.1.drop i).length≤200000 →
  kB 200000 q m (i:Nat) row=some (row++p8 (q.2.1.drop i)):=by
 intro m
 induction m with
 | zero=>intro i row h;omega
 | succ m ih =>
  intro i row hm hr
  show qP _ _ _ _ _=_
  unfold qP
  rcases hd:q.2.1.drop i with _ | ⟨x,r⟩
  ·have:=wO hd
   rw [z7 (by omega),cond_false];simp [p8]
  have hlt:=vA hd
  rw [hd] at hm hr
  simp only [List.length_cons] at hm hr
  have hx:=hn x (nY hd)
  have hv:=(tM [x.c0,x.c1]).2
  simp only [List.length_cons,List.length_nil] at hv
  have hv0:=(vI 9 (x9 x.c0)).2
  have e:row++vX 9 (x9 x.c0)++vX 9 (x9 x.c1)=row++xX [x.c0,x.c1]:=by simp [xX]
  rw [z9 (by omega),cond_true,yQ hd,Option.bind_some,uA hx.1 (by omega) (by omega),Option.bind_some,Option.bind_some,uA hx.2 (by rw [List.length_append];omega) (by omega),Option.bind_some,xP (by omega),e,ih (i+1) _ (by rw [yD hd];omega) (by rw [yD hd,List.length_append];omega),yD hd]
  simp [p8]
theorem zIo {p:zF} (hl:p.Events.length≤100000):zAU 200000 p=some (kP p):=by
 unfold zAU kP
 rw [zEg hl,Option.bind_some]
 by_cases hp:qK p≠0
 ·rw [y0 hp,if_pos hp];rfl
 have hp0:qK p=0:=by omega
 have hz:=zDJ hp0
 rw [y6 hp0,if_neg hp,cond_false,show j9 200000 p 200000 [] [] 0 []=_ from zFz (by omega) 200000 0 [] [] [] (by simp;omega) (by simp) (by simp) (by simp;omega),Option.bind_some,List.drop_zero]
 rcases zCv p.Events [] [] [] zFZ with ⟨e,h1,h2⟩ | ⟨n',s',row',q,h1,h2,h3,h4,h5,h6,h7⟩
 ·rw [h1];rfl
 ·rw [h1]
  simp only [zLD]
  obtain ⟨g1,g2⟩:=h2.lens
  have h8:=h2.n1
  have h9:=h2.s1
  have l1:=(tM [p.Thread,p.Serial,p.Lost,(n'.length:Int)]).2
  have l2:=zGe g1
  have l3:=(tM [(s'.length:Int)]).2
  have l4:=zE5 (s:=s')
  have l5:=(tM [(p.Events.length:Int)]).2
  have v1:=(vI 9 (x9 p.Thread)).2
  have v2:=(vI 9 (x9 p.Serial)).2
  have v3:=(vI 9 (x9 p.Lost)).2
  simp only [List.length_cons,List.length_nil] at l1 l3 l5 h7
  have e1:[]++vX 9 (x9 p.Thread)++vX 9 (x9 p.Serial)++vX 9 (x9 p.Lost)++vX 9 (x9 (n'.length:Int))=xX [p.Thread,p.Serial,p.Lost,(n'.length:Int)]:=by simp [xX]
  have e2:∀ (r:List Int) (k:Int),r++vX 9 (x9 k)=r++xX [k]:=by intro r k;simp [xX]
  rw [uA (by unfold yH;omega) (by simp) (by omega),Option.bind_some,uA (by unfold yH;omega) (by simp;omega) (by omega),Option.bind_some,uA (by unfold yH;omega) (by simp;omega) (by omega),Option.bind_some,uA (by unfold yH;omega) (by simp;omega) (by omega),Option.bind_some,e1,
   show kA 200000 (n',s',row') 200000 0 (xX [p.Thread,p.Serial,p.Lost,(n'.length:Int)])=_ from zFN (q:=(n',s',row')) g1 h8 200000 0 _ (by simp;omega) (by simp;omega),Option.bind_some,List.drop_zero,
   uA (by unfold yH;omega) (by simp only [List.length_append];omega) (by omega),Option.bind_some,e2,
   show kB 200000 (n',s',row') 200000 0 _=_ from zFF (q:=(n',s',row')) g2 h9 200000 0 _ (by simp;omega) (by simp only [List.drop_zero,List.length_append];omega),Option.bind_some,List.drop_zero,
   uA (by unfold yH;omega) (by simp only [List.length_append];omega) (by omega),Option.bind_some,e2,yN (by simp only [List.length_append];omega),Option.bind_some]
  simp only [zID,List.append_assoc]
theorem vV {b:List Int} {u f:Int} (hb:∀ x∈b,y8 x) (hl:b.length≤100000) (h0:0≤u) (h1:u≤b.length) :
  xG 200000 ⟨b,u,f⟩=some ((y9 b u f).1,⟨b,(y9 b u f).2.1,(y9 b u f).2.2⟩):=by
 unfold xG
 have hr:=wH (f:=f) hb h0 h1
 unfold y9 at *
 by_cases hf:f≠0
 ·rw [y0 hf,if_pos hf];rfl
 ·rw [if_neg hf] at hr ⊢
  rw [y6 (show f=0 by omega),cond_false,yN ⟨h0,h1⟩,Option.bind_some,nW b h0,zDw (qZ hb _) (by rw [List.length_drop];omega) (by omega),Option.bind_some]
  simp only at hr
  show some (_,(⟨b,zK (u+_),_⟩:zL))=_
  rw [w64 (by omega) (by omega)]
theorem nI {b:List Int} {u f most:Int} (hb:∀ x∈b,y8 x) (hl:b.length≤100000) (h0:0≤u) (h1:u≤b.length) :
  wP 200000 ⟨b,u,f⟩ most=some ((pJ b u f most).1,⟨b,(pJ b u f most).2.1,(pJ b u f most).2.2⟩):=by
 unfold wP pJ
 rw [vV hb hl h0 h1,Option.bind_some]
 simp only
 by_cases c1:(y9 b u f).2.2≠0
 ·rw [y0 c1,if_pos c1];rfl
 rw [y6 (by omega),if_neg c1,cond_false]
 by_cases c2:(y9 b u f).1<0
 ·rw [z9 c2,if_pos c2];rfl
 rw [z7 c2,if_neg c2,cond_false]
 by_cases c3:(y9 b u f).1>most
 ·rw [z9 c3,if_pos c3];rfl
 ·rw [z7 c3,if_neg c3,cond_false]
theorem zEc {b:List Int} {u f:Int} (hb:∀ x∈b,y8 x) (hl:b.length≤100000) (h0:0≤u) (h1:u≤b.length) :
  kH 200000 ⟨b,u,f⟩=some ((jU b u f).1,⟨b,(jU b u f).2.1,(jU b u f).2.2⟩):=by
 unfold kH
 have hr:=zA1 (f:=f) hb h0 h1
 unfold jU at *
 by_cases hf:f≠0
 ·rw [y0 hf,if_pos hf];rfl
 ·rw [if_neg hf] at hr ⊢
  rw [y6 (show f=0 by omega),cond_false,yN ⟨h0,h1⟩,Option.bind_some,nW b h0,zKe (qZ hb _) (by rw [List.length_drop];omega) (by rw [List.length_drop];omega) (by omega),Option.bind_some]
  simp only at hr
  show some (_,(⟨b,zK (u+_),_⟩:zL))=_
  rw [w64 (by omega) (by omega)]
theorem zD3 {n:List (List Int)} {s:List zE} {b:List Int} {u f:Int} (hb:∀ x∈b,y8 x) (hl:b.length≤100000) (h0:0≤u) (h1:u≤b.length) (hf:f=0) :
  jS 200000 ⟨b,u,f⟩ n s=some ((jR n s (b.drop u.toNat)).1,⟨b,u+(jR n s (b.drop u.toNat)).2.1,(jR n s (b.drop u.toNat)).2.2⟩):=by
 unfold jS
 have h:=zB9 (n:=n) (s:=s) (qZ hb u.toNat)
 rw [List.length_drop] at h
 rw [y6 hf,cond_false,yN ⟨h0,h1⟩,Option.bind_some,nW b h0,zHY (qZ hb _) (by rw [List.length_drop];omega),Option.bind_some]
 simp only
 rw [w64 (by omega) (by omega)]
theorem zMz {b:List Int} {r4:Int×zL} (hb:∀ x∈b,y8 x) (hl:b.length≤100000):∀ (k m i:Nat) (u f:Int) (row:List (List Int)),r4.1=((i+k:Nat):Int)→i+k≤1000→k<m→0≤u→u≤b.length→row.length+k≤1000 →
  uB 200000 r4 m (i:Nat) b u f row=some (b,zAY b k u f row):=by
 intro k
 induction k with
 | zero =>
  intro m i u f row hi hi2 hm h0 h1 hr
  obtain ⟨g,rfl⟩:∃ g,m=g+1:=⟨m - 1,by omega⟩
  show wB _ _ _ _ _ _ _ _=_
  unfold wB
  rw [zAF (.inl (by omega))];rfl
 | succ k ih =>
  intro m i u f row hi hi2 hm h0 h1 hr
  obtain ⟨g,rfl⟩:∃ g,m=g+1:=⟨m - 1,by omega⟩
  show wB _ _ _ _ _ _ _ _=_
  unfold wB
  simp only [zAY]
  by_cases hf:f≠0
  ·rw [zAF (.inr (pP hf)),if_pos hf];rfl
  have ht:=zA1 (f:=f) hb h0 h1
  rw [z9 (by omega),tI (by omega),if_neg hf,Bool.and_self,cond_true,zEc hb hl h0 h1,Option.bind_some,yN (by simp;omega),Option.bind_some,xP (by omega)]
  exact ih g (i+1) (jU b u f).2.1 (jU b u f).2.2 (row++[(jU b u f).1]) (by omega) (by omega) (by omega) (by omega) (by omega) (by simp;omega)
theorem zMY {b:List Int} {r4:Int×zL} (hb:∀ x∈b,y8 x) (hl:b.length≤100000):∀ (k m i:Nat) (u f:Int) (row:List zE),r4.1=((i+k:Nat):Int)→i+k≤1000→k<m→0≤u→u≤b.length→row.length+k≤1000 →
  uG 200000 r4 m (i:Nat) b u f row=some (b,zAm b k u f row):=by
 intro k
 induction k with
 | zero =>
  intro m i u f row hi hi2 hm h0 h1 hr
  obtain ⟨g,rfl⟩:∃ g,m=g+1:=⟨m - 1,by omega⟩
  show x5 _ _ _ _ _ _ _ _=_
  unfold x5
  rw [zAF (.inl (by omega))];rfl
 | succ k ih =>
  intro m i u f row hi hi2 hm h0 h1 hr
  obtain ⟨g,rfl⟩:∃ g,m=g+1:=⟨m - 1,by omega⟩
  show x5 _ _ _ _ _ _ _ _=_
  unfold x5
  simp only [zAm]
  by_cases hf:f≠0
  ·rw [zAF (.inr (pP hf)),if_pos hf];rfl
  have ht:=zEl (f:=f) hb h0 h1
  have hn:=wH (f:=f) hb h0 h1
  rw [z9 (by omega),tI (by omega),if_neg hf,Bool.and_self,cond_true,vV hb hl h0 h1,Option.bind_some]
  simp only
  rw [vV hb hl (by omega) hn.2.2.1,Option.bind_some,yN (by simp;omega),Option.bind_some,xP (by omega)]
  exact ih g (i+1) (two b u f).2.1 (two b u f).2.2 (row++[⟨(y9 b u f).1,(two b u f).1⟩]) (by omega) (by omega) (by omega) (by omega) (by omega) (by simp;omega)
theorem zMB {b:List Int} {r4:Int×zL} {o1:(List Int)×Int×Int×(List (List Int))} {o2:(List Int)×Int×Int×(List zE)} (hb:∀ x∈b,y8 x) (hl:b.length≤100000):∀ (k m i:Nat) (u f:Int) (row:List zA),r4.1=((i+k:Nat):Int)→i+k≤1000→k<m→0≤u→u≤b.length→row.length+k≤1000 →
  uC 200000 o1 o2 r4 m (i:Nat) b u f row=some (b,jN o1.2.2.2 o2.2.2.2 b k u f row):=by
 intro k
 induction k with
 | zero =>
  intro m i u f row hi hi2 hm h0 h1 hr
  obtain ⟨g,rfl⟩:∃ g,m=g+1:=⟨m - 1,by omega⟩
  show wA _ _ _ _ _ _ _ _ _ _=_
  unfold wA
  rw [zAF (.inl (by omega))];rfl
 | succ k ih =>
  intro m i u f row hi hi2 hm h0 h1 hr
  obtain ⟨g,rfl⟩:∃ g,m=g+1:=⟨m - 1,by omega⟩
  show wA _ _ _ _ _ _ _ _ _ _=_
  unfold wA
  simp only [jN]
  by_cases hf:f≠0
  ·rw [zAF (.inr (pP hf)),if_pos hf];rfl
  have h:=zB9 (n:=o1.2.2.2) (s:=o2.2.2.2) (qZ hb u.toNat)
  rw [List.length_drop] at h
  rw [z9 (by omega),tI (by omega),if_neg hf,Bool.and_self,cond_true,zD3 hb hl h0 h1 (by omega),Option.bind_some,yN (by simp;omega),Option.bind_some,xP (by omega)]
  exact ih g (i+1) (u+(jR o1.2.2.2 o2.2.2.2 (b.drop u.toNat)).2.1) (jR o1.2.2.2 o2.2.2.2 (b.drop u.toNat)).2.2 (row++[(jR o1.2.2.2 o2.2.2.2 (b.drop u.toNat)).1]) (by omega) (by omega) (by omega) (by omega) (by omega) (by simp;omega)
theorem zH4 {b:List Int} (hb:∀ x∈b,y8 x) (hl:b.length≤100000):zAZ 200000 b=some (zDy b):=by
 obtain ⟨⟨a1,a2⟩,⟨b1,b2⟩,⟨c1,c2⟩,⟨d1,d2,d3,d4⟩,⟨e1,e2⟩,⟨f1,f2,f3,f4⟩,⟨g1,g2⟩,⟨i1,i2,i3,i4⟩,⟨j1,j2,j3⟩,j4⟩:=zEf hb
 have hcur:jH 200000 ⟨b,0,0⟩=some (dP b,⟨b,(dE b).1,(dE b).2.1⟩):=by
  unfold jH
  rw [vV hb hl (by omega) (by omega),Option.bind_some]
  show (xG 200000 ⟨b,(dT b).2.1,(dT b).2.2⟩).bind _=_
  rw [vV hb hl a1 a2,Option.bind_some]
  show (xG 200000 ⟨b,(dS b).2.1,(dS b).2.2⟩).bind _=_
  rw [vV hb hl b1 b2,Option.bind_some]
  show (wP 200000 ⟨b,(dL b).2.1,(dL b).2.2⟩ 1000).bind _=_
  rw [nI hb hl c1 c2,Option.bind_some]
  show (uB 200000 ((dC1 b).1,⟨b,(dC1 b).2.1,(dC1 b).2.2⟩) 200000 ((0:Nat):Int) b (dC1 b).2.1 (dC1 b).2.2 []).bind _=_
  rw [zMz (r4:=((dC1 b).1,⟨b,(dC1 b).2.1,(dC1 b).2.2⟩)) hb hl (dC1 b).1.toNat 200000 0 (dC1 b).2.1 (dC1 b).2.2 [] (by simp only;omega) (by omega) (by omega) d3 d4 (by simp;omega),Option.bind_some]
  show (wP 200000 ⟨b,(dN b).1,(dN b).2.1⟩ 1000).bind _=_
  rw [nI hb hl e1 e2,Option.bind_some]
  show (uG 200000 ((dC2 b).1,⟨b,(dC2 b).2.1,(dC2 b).2.2⟩) 200000 ((0:Nat):Int) b (dC2 b).2.1 (dC2 b).2.2 []).bind _=_
  rw [zMY (r4:=((dC2 b).1,⟨b,(dC2 b).2.1,(dC2 b).2.2⟩)) hb hl (dC2 b).1.toNat 200000 0 (dC2 b).2.1 (dC2 b).2.2 [] (by simp only;omega) (by omega) (by omega) f3 f4 (by simp;omega),Option.bind_some]
  have h3:(bif ((dSt b).2.1==(0:Int)) then (tH 200000 (dN b).2.2 (dSt b).2.2).bind (fun r_9=>some r_9) else some (dSt b).2.1)=some (dF3 b):=by
   unfold dF3
   by_cases h:(dSt b).2.1=0
   ·rw [tI h,if_pos h,cond_true,show tH 200000 (dN b).2.2 (dSt b).2.2=some (tC (dN b).2.2 (dSt b).2.2) from zA5];rfl
   ·rw [pP h,if_neg h];rfl
  refine (congrArg (fun o=>Option.bind o _) h3).trans ?_
  rw [Option.bind_some]
  show (wP 200000 ⟨b,(dSt b).1,dF3 b⟩ 1000).bind _=_
  rw [nI hb hl g1 g2,Option.bind_some]
  show (uC 200000 (b,dN b) (b,dSt b) ((dC3 b).1,⟨b,(dC3 b).2.1,(dC3 b).2.2⟩) 200000 ((0:Nat):Int) b (dC3 b).2.1 (dC3 b).2.2 []).bind _=_
  rw [zMB (r4:=((dC3 b).1,⟨b,(dC3 b).2.1,(dC3 b).2.2⟩)) (o1:=(b,dN b)) (o2:=(b,dSt b)) hb hl (dC3 b).1.toNat 200000 0 (dC3 b).2.1 (dC3 b).2.2 [] (by simp only;omega) (by omega) (by omega) i3 i4 (by simp;omega),Option.bind_some]
  rfl
 unfold zAZ zDy
 rw [hcur,Option.bind_some]
 have hev:(dP b).Events.length≤100000:=by show (dE b).2.2.length≤_;omega
 simp only
 by_cases h:(dE b).2.1≠0
 ·have e5:dF5 b=(dE b).2.1:=by unfold dF5;rw [if_neg h]
  rw [y0 h,e5,if_pos h];rfl
 have e5:dF5 b=qK (dP b):=by unfold dF5;rw [if_pos (by omega)]
 rw [y6 (by omega),cond_false,zEg hev,Option.bind_some,e5]
 by_cases h6:qK (dP b)≠0
 ·rw [y0 h6,if_pos h6];rfl
 rw [y6 (by omega),if_neg h6,cond_false,zIo hev,Option.bind_some,yN ⟨j1,j2⟩,Option.bind_some,zHE j1]
 by_cases h8:(kP (dP b)).1=b.take (dE b).1.toNat
 ·have h7:(kP (dP b)).2=0:=by
   rcases zKr (p:=dP b) with ⟨k1,k2⟩ | ⟨k1,_⟩
   ·exfalso
    rw [k2] at h8
    have hl0:=congrArg List.length h8
    rw [List.length_take] at hl0
    simp at hl0
    have ht:0<(dT b).2.1:=by
     have hT:=wH (u:=0) (f:=0) hb (by omega) (by omega)
     by_cases hz:(dT b).2.2=0
     ·exact (hT.2.2.2 hz).2
     ·exfalso
      apply h
      have s1:(dS b).2.2=(dT b).2.2:=by unfold dS;rw [zB0 hz]
      have s2:(dL b).2.2=(dT b).2.2:=by unfold dL;rw [zB0 (by rw [s1];exact hz),s1]
      have s3:∀ u f,f≠0→pJ b u f 1000=(0,u,f):=by
       intro u f hf;unfold pJ;rw [zB0 hf,if_pos hf]
      have s4:dC1 b=(0,(dL b).2.1,(dT b).2.2):=by unfold dC1;rw [s2,s3 _ _ hz]
      have s5:(dN b).2.1=(dT b).2.2:=by unfold dN;rw [s4];rfl
      have s6:dC2 b=(0,(dN b).1,(dT b).2.2):=by unfold dC2;rw [s5,s3 _ _ hz]
      have s7:(dSt b).2.1=(dT b).2.2:=by unfold dSt;rw [s6];rfl
      have s8:dF3 b=(dT b).2.2:=by unfold dF3;rw [s7,if_neg hz]
      have s9:dC3 b=(0,(dSt b).1,(dT b).2.2):=by unfold dC3;rw [s8,s3 _ _ hz]
      have s10:(dE b).2.1=(dT b).2.2:=by unfold dE;rw [s9];rfl
      rw [s10];exact hz
    omega
   ·exact k1
  rw [zBU h8,if_neg (fun g=>g.elim (fun k=>k h7) (fun k=>k h8))];rfl
 ·rw [zDd h8,if_pos (.inr h8)];rfl
end Go.Ab
