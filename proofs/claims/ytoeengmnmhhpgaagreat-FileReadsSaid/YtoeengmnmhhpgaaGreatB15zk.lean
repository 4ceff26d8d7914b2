/- Plain laws of the functions uV this seat's, laid anew from another seat's text. No conditions but those that the theorems name. -/
import Derived.Test.YtoeengmnmhhpgaaGreatP15zxD
import Derived.Test.YtoeengmnmhhpgaaGreatB15za
import Derived.Test.YtoeengmnmhhpgaaGreatB15zb
import Derived.Test.YtoeengmnmhhpgaaGreatB15zc
import Derived.Test.YtoeengmnmhhpgaaGreatB15zd
import Derived.Test.YtoeengmnmhhpgaaGreatB15ze
import Derived.Test.YtoeengmnmhhpgaaGreatB15zf
import Derived.Test.YtoeengmnmhhpgaaGreatB15zg
import Derived.Test.YtoeengmnmhhpgaaGreatB15zh
import Derived.Test.YtoeengmnmhhpgaaGreatB15zi
import Derived.Test.YtoeengmnmhhpgaaGreatB15zj
namespace Go.Ab
open Go
set_option linter.unusedVariables false
theorem zA8 {p:z8} (hl:p.Events.length≤1000):∀ (m i:Nat) (n:List (List Int)) (s:List zQ) (row:List Int),(p.Events.drop i).length<m→n.length≤1000→s.length≤1000→row.length+50 * (p.Events.drop i).length≤100000 →
  B5 281474976710656 p m n s (i:Nat) row=some (KO (dJ n s row (p.Events.drop i))):=by
 intro m
 induction m with
 | zero=>intro i n s row h;omega
 | succ m ih =>
  intro i n s row hm hn hs hr
  show E5 _ _ _ _ _ _ _=_
  unfold E5
  rcases hd:p.Events.drop i with _ | ⟨x,r⟩
  ·have:=tZ hd
   rw [yM (by omega)];rfl
  have hlt:=tQ hd
  rw [hd] at hm hr
  simp only [List.length_cons] at hm hr
  rw [yP (by omega),cond_true,w5 hd,zbs,zFt (by omega) (by omega),zbs]
  simp only [dJ]
  rcases N5 (n:=n) (s:=s) (e:=x) with ⟨k1,k2⟩ | ⟨k1,k2,k3,k4,k5,L,k6,k7⟩
  ·rw [wE k1,if_pos k1];rfl
  ·obtain ⟨c1,c2,c3⟩:=N3 k3 k7
   have g1:=k3.n1
   have g2:=k3.s1
   rw [wF k1,if_neg (by omega),cond_false,k6,xZ (by omega),zbs,wW (by omega),ih (i+1) _ _ _ (by rw [wZ hd];omega) g1 g2 (by rw [wZ hd,List.length_append];omega),wZ hd]
theorem Y2 {q:(List (List Int))×(List zQ)×(List Int)} (hn:∀ x∈q.1,x.length≤40) (hl:q.1.length≤1000):∀ (m i:Nat) (row:List Int),(q.1.drop i).length<m→row.length+50 * (q.1.drop i).length≤200000 →
  rN 281474976710656 q m (i:Nat) row=some (row++cF (q.1.drop i)):=by
 intro m
 induction m with
 | zero=>intro i row h;omega
 | succ m ih =>
  intro i row hm hr
  show CZ _ _ _ _ _=_
  unfold CZ
  rcases hd:q.1.drop i with _ | ⟨x,r⟩
  ·have:=tZ hd
   rw [yM (by omega),cond_false];simp [cF]
  have hlt:=tQ hd
  rw [hd] at hm hr
  simp only [List.length_cons] at hm hr
  have hx:=hn x (nI hd)
  have hv:=(j5 9 (wT x.length)).2
  rw [yP (by omega),cond_true,w5 hd,zbs,ZQ (by omega) (by omega) (by omega) (by omega),zbs,wW (by omega),ih (i+1) _ (by rw [wZ hd];omega) (by rw [wZ hd,List.length_append,List.length_append];omega),wZ hd]
  simp [cF,bU]
theorem zFV {q:(List (List Int))×(List zQ)×(List Int)} (hn:∀ x∈q.2.1,xP x.c0∧xP x.c1) (hl:q.2.1.length≤1000):∀ (m i:Nat) (row:List Int),(q.2.1.drop i).length<m→row.length+20 * (q.2.1.drop i).length≤200000 →
  BH 281474976710656 q m (i:Nat) row=some (row++cD (q.2.1.drop i)):=by
 intro m
 induction m with
 | zero=>intro i row h;omega
 | succ m ih =>
  intro i row hm hr
  show JE _ _ _ _ _=_
  unfold JE
  rcases hd:q.2.1.drop i with _ | ⟨x,r⟩
  ·have:=tZ hd
   rw [yM (by omega),cond_false];simp [cD]
  have hlt:=tQ hd
  rw [hd] at hm hr
  simp only [List.length_cons] at hm hr
  have hx:=hn x (nI hd)
  have hv:=(kX [x.c0,x.c1]).2
  simp only [List.length_cons,List.length_nil] at hv
  have hv0:=(j5 9 (wT x.c0)).2
  have e:row++vH 9 (wT x.c0)++vH 9 (wT x.c1)=row++vO [x.c0,x.c1]:=by simp [vO]
  rw [yP (by omega),cond_true,w5 hd,zbs,cC hx.1 (by omega) (by omega),zbs,zbs,cC hx.2 (by rw [List.length_append];omega) (by omega),zbs,wW (by omega),e,ih (i+1) _ (by rw [wZ hd];omega) (by rw [wZ hd,List.length_append];omega),wZ hd]
  simp [cD]
theorem zBi {p:z8} (hl:p.Events.length≤100000):EC 281474976710656 p=some (q8 p):=by
 unfold EC q8
 rw [UI hl,zbs]
 by_cases hp:qI p≠0
 ·rw [wE hp,if_pos hp];rfl
 have hp0:qI p=0:=by omega
 have hz:=bN hp0
 rw [wF hp0,if_neg hp,cond_false,show B5 281474976710656 p 281474976710656 [] [] 0 []=_ from zA8 (by omega) 281474976710656 0 [] [] [] (by simp;omega) (by simp) (by simp) (by simp;omega),zbs,List.drop_zero]
 rcases NJ p.Events [] [] [] R6 with ⟨e,h1,h2⟩ | ⟨n',s',row',q,h1,h2,h3,h4,h5,h6,h7⟩
 ·rw [h1];rfl
 ·rw [h1]
  simp only [KO]
  obtain ⟨g1,g2⟩:=h2.lens
  have h8:=h2.n1
  have h9:=h2.s1
  have l1:=(kX [p.Thread,p.Serial,p.Lost,(n'.length:Int)]).2
  have l2:=SF g1
  have l3:=(kX [(s'.length:Int)]).2
  have l4:=QR (s:=s')
  have l5:=(kX [(p.Events.length:Int)]).2
  have v1:=(j5 9 (wT p.Thread)).2
  have v2:=(j5 9 (wT p.Serial)).2
  have v3:=(j5 9 (wT p.Lost)).2
  simp only [List.length_cons,List.length_nil] at l1 l3 l5 h7
  have e1:[]++vH 9 (wT p.Thread)++vH 9 (wT p.Serial)++vH 9 (wT p.Lost)++vH 9 (wT (n'.length:Int))=vO [p.Thread,p.Serial,p.Lost,(n'.length:Int)]:=by simp [vO]
  have e2:∀ (r:List Int) (k:Int),r++vH 9 (wT k)=r++vO [k]:=by intro r k;simp [vO]
  rw [cC (by unfold xP;omega) (by simp) (by omega),zbs,cC (by unfold xP;omega) (by simp;omega) (by omega),zbs,cC (by unfold xP;omega) (by simp;omega) (by omega),zbs,cC (by unfold xP;omega) (by simp;omega) (by omega),zbs,e1,
   show rN 281474976710656 (n',s',row') 281474976710656 0 (vO [p.Thread,p.Serial,p.Lost,(n'.length:Int)])=_ from Y2 (q:=(n',s',row')) g1 h8 281474976710656 0 _ (by simp;omega) (by simp;omega),zbs,List.drop_zero,
   cC (by unfold xP;omega) (by simp only [List.length_append];omega) (by omega),zbs,e2,
   show BH 281474976710656 (n',s',row') 281474976710656 0 _=_ from zFV (q:=(n',s',row')) g2 h9 281474976710656 0 _ (by simp;omega) (by simp only [List.drop_zero,List.length_append];omega),zbs,List.drop_zero,
   cC (by unfold xP;omega) (by simp only [List.length_append];omega) (by omega),zbs,e2,xZ (by simp only [List.length_append];omega),zbs]
  simp only [lF,List.append_assoc]
theorem o9 {b:List Int} {u f:Int} (hb:∀ x∈b,x6 x) (hl:b.length≤100000) (h0:0≤u) (h1:u≤b.length) :
  aL 281474976710656 ⟨b,u,f⟩=some ((w8 b u f).1,⟨b,(w8 b u f).2.1,(w8 b u f).2.2⟩):=by
 unfold aL
 have hr:=pA (f:=f) hb h0 h1
 unfold w8 at *
 by_cases hf:f≠0
 ·rw [wE hf,if_pos hf];rfl
 ·rw [if_neg hf] at hr ⊢
  rw [wF (show f=0 by omega),cond_false,xZ ⟨h0,h1⟩,zbs,fP b h0,KW (nN hb _) (by rw [List.length_drop];omega) (by omega),zbs]
  simp only at hr
  show some (_,(⟨b,zG (u+_),_⟩:vP))=_
  rw [w64 (by omega) (by omega)]
theorem RD {b:List Int} {u f most:Int} (hb:∀ x∈b,x6 x) (hl:b.length≤100000) (h0:0≤u) (h1:u≤b.length) :
  bW 281474976710656 ⟨b,u,f⟩ most=some ((kI b u f most).1,⟨b,(kI b u f most).2.1,(kI b u f most).2.2⟩):=by
 unfold bW kI
 rw [o9 hb hl h0 h1,zbs]
 simp only
 by_cases c1:(w8 b u f).2.2≠0
 ·rw [wE c1,if_pos c1];rfl
 rw [wF (by omega),if_neg c1,cond_false]
 by_cases c2:(w8 b u f).1<0
 ·rw [yP c2,if_pos c2];rfl
 rw [yM c2,if_neg c2,cond_false]
 by_cases c3:(w8 b u f).1>most
 ·rw [yP c3,if_pos c3];rfl
 ·rw [yM c3,if_neg c3,cond_false]
theorem zGu {b:List Int} {u f:Int} (hb:∀ x∈b,x6 x) (hl:b.length≤100000) (h0:0≤u) (h1:u≤b.length) :
  HD 281474976710656 ⟨b,u,f⟩=some ((jI b u f).1,⟨b,(jI b u f).2.1,(jI b u f).2.2⟩):=by
 unfold HD
 have hr:=C7 (f:=f) hb h0 h1
 unfold jI at *
 by_cases hf:f≠0
 ·rw [wE hf,if_pos hf];rfl
 ·rw [if_neg hf] at hr ⊢
  rw [wF (show f=0 by omega),cond_false,xZ ⟨h0,h1⟩,zbs,fP b h0,S9 (nN hb _) (by rw [List.length_drop];omega) (by rw [List.length_drop];omega) (by omega),zbs]
  simp only at hr
  show some (_,(⟨b,zG (u+_),_⟩:vP))=_
  rw [w64 (by omega) (by omega)]
theorem zGx {n:List (List Int)} {s:List zQ} {b:List Int} {u f:Int} (hb:∀ x∈b,x6 x) (hl:b.length≤100000) (h0:0≤u) (h1:u≤b.length) (hf:f=0) :
  D7 281474976710656 ⟨b,u,f⟩ n s=some ((jK n s (b.drop u.toNat)).1,⟨b,u+(jK n s (b.drop u.toNat)).2.1,(jK n s (b.drop u.toNat)).2.2⟩):=by
 unfold D7
 have h:=JZ (n:=n) (s:=s) (nN hb u.toNat)
 rw [List.length_drop] at h
 rw [wF hf,cond_false,xZ ⟨h0,h1⟩,zbs,fP b h0,zGm (nN hb _) (by rw [List.length_drop];omega),zbs]
 simp only
 rw [w64 (by omega) (by omega)]
theorem zFx {b:List Int} {r4:Int×vP} (hb:∀ x∈b,x6 x) (hl:b.length≤100000):∀ (k m i:Nat) (u f:Int) (row:List (List Int)),r4.1=((i+k:Nat):Int)→i+k≤1000→k<m→0≤u→u≤b.length→row.length+k≤1000 →
  rQ 281474976710656 r4 m (i:Nat) b u f row=some (b,dW b k u f row):=by
 intro k
 induction k with
 | zero =>
  intro m i u f row hi hi2 hm h0 h1 hr
  obtain ⟨g,rfl⟩:∃ g,m=g+1:=⟨m - 1,by omega⟩
  show oN _ _ _ _ _ _ _ _=_
  unfold oN
  rw [aO (.inl (by omega))];rfl
 | succ k ih =>
  intro m i u f row hi hi2 hm h0 h1 hr
  obtain ⟨g,rfl⟩:∃ g,m=g+1:=⟨m - 1,by omega⟩
  show oN _ _ _ _ _ _ _ _=_
  unfold oN
  simp only [dW]
  by_cases hf:f≠0
  ·rw [aO (.inr (uH hf)),if_pos hf];rfl
  have ht:=C7 (f:=f) hb h0 h1
  rw [yP (by omega),uF (by omega),if_neg hf,Bool.and_self,cond_true,zGu hb hl h0 h1,zbs,xZ (by simp;omega),zbs,wW (by omega)]
  exact ih g (i+1) (jI b u f).2.1 (jI b u f).2.2 (row++[(jI b u f).1]) (by omega) (by omega) (by omega) (by omega) (by omega) (by simp;omega)
theorem Z3 {b:List Int} {r4:Int×vP} (hb:∀ x∈b,x6 x) (hl:b.length≤100000):∀ (k m i:Nat) (u f:Int) (row:List zQ),r4.1=((i+k:Nat):Int)→i+k≤1000→k<m→0≤u→u≤b.length→row.length+k≤1000 →
  rD 281474976710656 r4 m (i:Nat) b u f row=some (b,cT b k u f row):=by
 intro k
 induction k with
 | zero =>
  intro m i u f row hi hi2 hm h0 h1 hr
  obtain ⟨g,rfl⟩:∃ g,m=g+1:=⟨m - 1,by omega⟩
  show mY _ _ _ _ _ _ _ _=_
  unfold mY
  rw [aO (.inl (by omega))];rfl
 | succ k ih =>
  intro m i u f row hi hi2 hm h0 h1 hr
  obtain ⟨g,rfl⟩:∃ g,m=g+1:=⟨m - 1,by omega⟩
  show mY _ _ _ _ _ _ _ _=_
  unfold mY
  simp only [cT]
  by_cases hf:f≠0
  ·rw [aO (.inr (uH hf)),if_pos hf];rfl
  have ht:=NF (f:=f) hb h0 h1
  have hn:=pA (f:=f) hb h0 h1
  rw [yP (by omega),uF (by omega),if_neg hf,Bool.and_self,cond_true,o9 hb hl h0 h1,zbs]
  simp only
  rw [o9 hb hl (by omega) hn.2.2.1,zbs,xZ (by simp;omega),zbs,wW (by omega)]
  exact ih g (i+1) (two b u f).2.1 (two b u f).2.2 (row++[⟨(w8 b u f).1,(two b u f).1⟩]) (by omega) (by omega) (by omega) (by omega) (by omega) (by simp;omega)
theorem zC6 {b:List Int} {r4:Int×vP} {o1:(List Int)×Int×Int×(List (List Int))} {o2:(List Int)×Int×Int×(List zQ)} (hb:∀ x∈b,x6 x) (hl:b.length≤100000):∀ (k m i:Nat) (u f:Int) (row:List yW),r4.1=((i+k:Nat):Int)→i+k≤1000→k<m→0≤u→u≤b.length→row.length+k≤1000 →
  BZ 281474976710656 o1 o2 r4 m (i:Nat) b u f row=some (b,bH o1.2.2.2 o2.2.2.2 b k u f row):=by
 intro k
 induction k with
 | zero =>
  intro m i u f row hi hi2 hm h0 h1 hr
  obtain ⟨g,rfl⟩:∃ g,m=g+1:=⟨m - 1,by omega⟩
  show mJ _ _ _ _ _ _ _ _ _ _=_
  unfold mJ
  rw [aO (.inl (by omega))];rfl
 | succ k ih =>
  intro m i u f row hi hi2 hm h0 h1 hr
  obtain ⟨g,rfl⟩:∃ g,m=g+1:=⟨m - 1,by omega⟩
  show mJ _ _ _ _ _ _ _ _ _ _=_
  unfold mJ
  simp only [bH]
  by_cases hf:f≠0
  ·rw [aO (.inr (uH hf)),if_pos hf];rfl
  have h:=JZ (n:=o1.2.2.2) (s:=o2.2.2.2) (nN hb u.toNat)
  rw [List.length_drop] at h
  rw [yP (by omega),uF (by omega),if_neg hf,Bool.and_self,cond_true,zGx hb hl h0 h1 (by omega),zbs,xZ (by simp;omega),zbs,wW (by omega)]
  exact ih g (i+1) (u+(jK o1.2.2.2 o2.2.2.2 (b.drop u.toNat)).2.1) (jK o1.2.2.2 o2.2.2.2 (b.drop u.toNat)).2.2 (row++[(jK o1.2.2.2 o2.2.2.2 (b.drop u.toNat)).1]) (by omega) (by omega) (by omega) (by omega) (by omega) (by simp;omega)
theorem zBo {b:List Int} (hb:∀ x∈b,x6 x) (hl:b.length≤100000):GG 281474976710656 b=some (uX b):=by
 obtain ⟨⟨a1,a2⟩,⟨b1,b2⟩,⟨c1,c2⟩,⟨d1,d2,d3,d4⟩,⟨e1,e2⟩,⟨f1,f2,f3,f4⟩,⟨g1,g2⟩,⟨i1,i2,i3,i4⟩,⟨j1,j2,j3⟩,j4⟩:=NG hb
 have hcur:H8 281474976710656 ⟨b,0,0⟩=some (dP b,⟨b,(dE b).1,(dE b).2.1⟩):=by
  unfold H8
  rw [o9 hb hl (by omega) (by omega),zbs]
  show (aL 281474976710656 ⟨b,(dT b).2.1,(dT b).2.2⟩).bind _=_
  rw [o9 hb hl a1 a2,zbs]
  show (aL 281474976710656 ⟨b,(dS b).2.1,(dS b).2.2⟩).bind _=_
  rw [o9 hb hl b1 b2,zbs]
  show (bW 281474976710656 ⟨b,(dL b).2.1,(dL b).2.2⟩ 1000).bind _=_
  rw [RD hb hl c1 c2,zbs]
  show (rQ 281474976710656 ((dC1 b).1,⟨b,(dC1 b).2.1,(dC1 b).2.2⟩) 281474976710656 ((0:Nat):Int) b (dC1 b).2.1 (dC1 b).2.2 []).bind _=_
  rw [zFx (r4:=((dC1 b).1,⟨b,(dC1 b).2.1,(dC1 b).2.2⟩)) hb hl (dC1 b).1.toNat 281474976710656 0 (dC1 b).2.1 (dC1 b).2.2 [] (by simp only;omega) (by omega) (by omega) d3 d4 (by simp;omega),zbs]
  show (bW 281474976710656 ⟨b,(dN b).1,(dN b).2.1⟩ 1000).bind _=_
  rw [RD hb hl e1 e2,zbs]
  show (rD 281474976710656 ((dC2 b).1,⟨b,(dC2 b).2.1,(dC2 b).2.2⟩) 281474976710656 ((0:Nat):Int) b (dC2 b).2.1 (dC2 b).2.2 []).bind _=_
  rw [Z3 (r4:=((dC2 b).1,⟨b,(dC2 b).2.1,(dC2 b).2.2⟩)) hb hl (dC2 b).1.toNat 281474976710656 0 (dC2 b).2.1 (dC2 b).2.2 [] (by simp only;omega) (by omega) (by omega) f3 f4 (by simp;omega),zbs]
  have h3:(bif ((dSt b).2.1==(0:Int)) then (nS 281474976710656 (dN b).2.2 (dSt b).2.2).bind (fun r_9=>some r_9) else some (dSt b).2.1)=some (dF3 b):=by
   unfold dF3
   by_cases h:(dSt b).2.1=0
   ·rw [uF h,if_pos h,cond_true,show nS 281474976710656 (dN b).2.2 (dSt b).2.2=some (j0 (dN b).2.2 (dSt b).2.2) from J6];rfl
   ·rw [uH h,if_neg h];rfl
  refine (congrArg (fun o=>Option.bind o _) h3).trans ?_
  rw [zbs]
  show (bW 281474976710656 ⟨b,(dSt b).1,dF3 b⟩ 1000).bind _=_
  rw [RD hb hl g1 g2,zbs]
  show (BZ 281474976710656 (b,dN b) (b,dSt b) ((dC3 b).1,⟨b,(dC3 b).2.1,(dC3 b).2.2⟩) 281474976710656 ((0:Nat):Int) b (dC3 b).2.1 (dC3 b).2.2 []).bind _=_
  rw [zC6 (r4:=((dC3 b).1,⟨b,(dC3 b).2.1,(dC3 b).2.2⟩)) (o1:=(b,dN b)) (o2:=(b,dSt b)) hb hl (dC3 b).1.toNat 281474976710656 0 (dC3 b).2.1 (dC3 b).2.2 [] (by simp only;omega) (by omega) (by omega) i3 i4 (by simp;omega),zbs]
  rfl
 unfold GG uX
 rw [hcur,zbs]
 have hev:(dP b).Events.length≤100000:=by show (dE b).2.2.length≤_;omega
 simp only
 by_cases h:(dE b).2.1≠0
 ·have e5:dF5 b=(dE b).2.1:=by unfold dF5;rw [if_neg h]
  rw [wE h,e5,if_pos h];rfl
 have e5:dF5 b=qI (dP b):=by unfold dF5;rw [if_pos (by omega)]
 rw [wF (by omega),cond_false,UI hev,zbs,e5]
 by_cases h6:qI (dP b)≠0
 ·rw [wE h6,if_pos h6];rfl
 rw [wF (by omega),if_neg h6,cond_false,zBi hev,zbs,xZ ⟨j1,j2⟩,zbs,SH j1]
 by_cases h8:(q8 (dP b)).1=b.take (dE b).1.toNat
 ·have h7:(q8 (dP b)).2=0:=by
   rcases T8 (p:=dP b) with ⟨k1,k2⟩ | ⟨k1,_⟩
   ·exfalso
    rw [k2] at h8
    have hl0:=congrArg List.length h8
    rw [List.length_take] at hl0
    simp at hl0
    have ht:0<(dT b).2.1:=by
     have hT:=pA (u:=0) (f:=0) hb (by omega) (by omega)
     by_cases hz:(dT b).2.2=0
     ·exact (hT.2.2.2 hz).2
     ·exfalso
      apply h
      have s1:(dS b).2.2=(dT b).2.2:=by unfold dS;rw [KG hz]
      have s2:(dL b).2.2=(dT b).2.2:=by unfold dL;rw [KG (by rw [s1];exact hz),s1]
      have s3:∀ u f,f≠0→kI b u f 1000=(0,u,f):=by
       intro u f hf;unfold kI;rw [KG hf,if_pos hf]
      have s4:dC1 b=(0,(dL b).2.1,(dT b).2.2):=by unfold dC1;rw [s2,s3 _ _ hz]
      have s5:(dN b).2.1=(dT b).2.2:=by unfold dN;rw [s4];rfl
      have s6:dC2 b=(0,(dN b).1,(dT b).2.2):=by unfold dC2;rw [s5,s3 _ _ hz]
      have s7:(dSt b).2.1=(dT b).2.2:=by unfold dSt;rw [s6];rfl
      have s8:dF3 b=(dT b).2.2:=by unfold dF3;rw [s7,if_neg hz]
      have s9:dC3 b=(0,(dSt b).1,(dT b).2.2):=by unfold dC3;rw [s8,s3 _ _ hz]
      have s10:(dE b).2.1=(dT b).2.2:=by unfold dE;rw [s9];rfl
      rw [s10];exact hz
    omega
   ·exact k1
  rw [gH h8,if_neg (fun g=>g.elim (fun k=>k h7) (fun k=>k h8))];rfl
 ·rw [B7 h8,if_pos (.inr h8)];rfl
end Go.Ab
