/- Plain laws of the functions uS this seat's, laid anew from another seat's text. No conditions but those that the theorems name. -/
import Derived.Test.YtoeengmnmhhpgaaGreatP15zxD
import Derived.Test.YtoeengmnmhhpgaaGreatB15za
import Derived.Test.YtoeengmnmhhpgaaGreatB15zb
import Derived.Test.YtoeengmnmhhpgaaGreatB15zc
import Derived.Test.YtoeengmnmhhpgaaGreatB15zd
import Derived.Test.YtoeengmnmhhpgaaGreatB15ze
import Derived.Test.YtoeengmnmhhpgaaGreatB15zf
import Derived.Test.YtoeengmnmhhpgaaGreatB15zg
import Derived.Test.YtoeengmnmhhpgaaGreatB15zh
import Derived.Test.YtoeengmnmhhpgaaGreatB15zi
import Derived.Test.YtoeengmnmhhpgaaGreatB15zj
namespace Go.Ab
open Go
set_option linter.unusedVariables false
theorem zGo {p:z7} (hl:p.Events.length<=1000):∀ (m i:Nat) (n:List (List Int)) (s:List zV) (row:List Int),(p.Events.drop i).length<m->n.length<=1000->s.length<=1000->row.length+50 * (p.Events.drop i).length<=100000 ->
  DS 281474976710656 p m n s (i:Nat) row=some (L0 (fS n s row (p.Events.drop i))):=by
 intro m
 induction m with
 | zero=>intro i n s row h;omega
 | succ m ih =>
  intro i n s row hm hn hs hr;show KD _ _ _ _ _ _ _=_;unfold KD;rcases hd:p.Events.drop i with _ | ⟨x,r⟩
  ·have:=qC hd
   rw [yP (by omega)];rfl
  have hlt:=tZ hd;rw [hd] at hm hr;simp only [zlc] at hm hr;rw [yN (by omega),cond_true,vE hd,zbs,zHf (by omega) (by omega),zbs];simp only [fS];rcases QI (n:=n) (s:=s) (e:=x) with ⟨k1,k2⟩ | ⟨k1,k2,k3,k4,k5,L,k6,k7⟩
  ·rw [xX k1,if_pos k1];rfl
  ·obtain ⟨c1,c2,c3⟩:=LJ k3 k7;have g1:=k3.n1;have g2:=k3.s1;rw [x7 k1,if_neg (by omega),cond_false,k6,xQ (by omega),zbs,wX (by omega),ih (i+1) _ _ _ (by rw [w6 hd];omega) g1 g2 (by rw [w6 hd,zla];omega),w6 hd]
theorem zG3 {q:(List (List Int))×(List zV)×(List Int)} (hn:∀ x∈q.1,x.length<=40) (hl:q.1.length<=1000):∀ (m i:Nat) (row:List Int),(q.1.drop i).length<m->row.length+50 * (q.1.drop i).length<=200000 ->
  C9 281474976710656 q m (i:Nat) row=some (row++cY (q.1.drop i)):=by
 intro m
 induction m with
 | zero=>intro i row h;omega
 | succ m ih =>
  intro i row hm hr;show LA _ _ _ _ _=_;unfold LA;rcases hd:q.1.drop i with _ | ⟨x,r⟩
  ·have:=qC hd
   rw [yP (by omega),cond_false];simp [cY]
  have hlt:=tZ hd;rw [hd] at hm hr;simp only [zlc] at hm hr;have hx:=hn x (nQ hd);have hv:=(kT 9 (wT x.length)).2;rw [yN (by omega),cond_true,vE hd,zbs,X4 (by omega) (by omega) (by omega) (by omega),zbs,wX (by omega),ih (i+1) _ (by rw [w6 hd];omega) (by rw [w6 hd,zla,zla];omega),w6 hd];simp [cY,aM]
theorem zEJ {q:(List (List Int))×(List zV)×(List Int)} (hn:∀ x∈q.2.1,xM x.c0/\xM x.c1) (hl:q.2.1.length<=1000):∀ (m i:Nat) (row:List Int),(q.2.1.drop i).length<m->row.length+20 * (q.2.1.drop i).length<=200000 ->
  DF 281474976710656 q m (i:Nat) row=some (row++dI (q.2.1.drop i)):=by
 intro m
 induction m with
 | zero=>intro i row h;omega
 | succ m ih =>
  intro i row hm hr;show EM _ _ _ _ _=_;unfold EM;rcases hd:q.2.1.drop i with _ | ⟨x,r⟩
  ·have:=qC hd
   rw [yP (by omega),cond_false];simp [dI]
  have hlt:=tZ hd;rw [hd] at hm hr;simp only [zlc] at hm hr;have hx:=hn x (nQ hd);have hv:=(pN [x.c0,x.c1]).2;simp only [zlc,List.length_nil] at hv;have hv0:=(kT 9 (wT x.c0)).2;have e:row++vJ 9 (wT x.c0)++vJ 9 (wT x.c1)=row++vX [x.c0,x.c1]:=by simp [vX]
  rw [yN (by omega),cond_true,vE hd,zbs,jM hx.1 (by omega) (by omega),zbs,zbs,jM hx.2 (by rw [zla];omega) (by omega),zbs,wX (by omega),e,ih (i+1) _ (by rw [w6 hd];omega) (by rw [w6 hd,zla];omega),w6 hd];simp [dI]
theorem zAc {p:z7} (hl:p.Events.length<=100000):CI 281474976710656 p=some (tX p):=by
 unfold CI tX;rw [RI hl,zbs]
 by_cases hp:t8 p≠0
 ·rw [xX hp,if_pos hp];rfl
 have hp0:t8 p=0:=by omega
 have hz:=c9 hp0;rw [x7 hp0,if_neg hp,cond_false,show DS 281474976710656 p 281474976710656 [] [] 0 []=_ from zGo (by omega) 281474976710656 0 [] [] [] (by simp;omega) (by simp) (by simp) (by simp;omega),zbs,zdz];rcases TL p.Events [] [] [] SY with ⟨e,h1,h2⟩ | ⟨n',s',row',q,h1,h2,h3,h4,h5,h6,h7⟩
 ·rw [h1];rfl
 ·rw [h1];simp only [L0];obtain ⟨g1,g2⟩:=h2.lens;have h8:=h2.n1;have h9:=h2.s1;have l1:=(pN [p.Thread,p.Serial,p.Lost,(n'.length:Int)]).2;have l2:=SW g1;have l3:=(pN [(s'.length:Int)]).2;have l4:=QD (s:=s');have l5:=(pN [(p.Events.length:Int)]).2;have v1:=(kT 9 (wT p.Thread)).2;have v2:=(kT 9 (wT p.Serial)).2;have v3:=(kT 9 (wT p.Lost)).2;simp only [zlc,List.length_nil] at l1 l3 l5 h7;have e1:[]++vJ 9 (wT p.Thread)++vJ 9 (wT p.Serial)++vJ 9 (wT p.Lost)++vJ 9 (wT (n'.length:Int))=vX [p.Thread,p.Serial,p.Lost,(n'.length:Int)]:=by simp [vX]
  have e2:∀ (r:List Int) (k:Int),r++vJ 9 (wT k)=r++vX [k]:=by intro r k;simp [vX]
  rw [jM (by unfold xM;omega) (by simp) (by omega),zbs,jM (by unfold xM;omega) (by simp;omega) (by omega),zbs,jM (by unfold xM;omega) (by simp;omega) (by omega),zbs,jM (by unfold xM;omega) (by simp;omega) (by omega),zbs,e1,
   show C9 281474976710656 (n',s',row') 281474976710656 0 (vX [p.Thread,p.Serial,p.Lost,(n'.length:Int)])=_ from zG3 (q:=(n',s',row')) g1 h8 281474976710656 0 _ (by simp;omega) (by simp;omega),zbs,zdz,
   jM (by unfold xM;omega) (by simp only [zla];omega) (by omega),zbs,e2,
   show DF 281474976710656 (n',s',row') 281474976710656 0 _=_ from zEJ (q:=(n',s',row')) g2 h9 281474976710656 0 _ (by simp;omega) (by simp only [zdz,zla];omega),zbs,zdz,
   jM (by unfold xM;omega) (by simp only [zla];omega) (by omega),zbs,e2,xQ (by simp only [zla];omega),zbs]
  simp only [fP,List.append_assoc]
theorem CK {b:List Int} {u f:Int} (hb:∀ x∈b,xY x) (hl:b.length<=100000) (h0:0<=u) (h1:u<=b.length) :
  bC 281474976710656 ⟨b,u,f⟩=some ((vI b u f).1,⟨b,(vI b u f).2.1,(vI b u f).2.2⟩):=by
 unfold bC;have hr:=pP (f:=f) hb h0 h1;unfold vI at *
 by_cases hf:f≠0
 ·rw [xX hf,if_pos hf];rfl
 ·rw [if_neg hf] at hr ⊢;rw [x7 (show f=0 by omega),cond_false,xQ ⟨h0,h1⟩,zbs,gR b h0,M1 (n9 hb _) (by rw [List.length_drop];omega) (by omega),zbs];simp only at hr;show some (_,(⟨b,zI (u+_),_⟩:vY))=_;rw [w64 (by omega) (by omega)]
theorem TE {b:List Int} {u f most:Int} (hb:∀ x∈b,xY x) (hl:b.length<=100000) (h0:0<=u) (h1:u<=b.length) :
  cL 281474976710656 ⟨b,u,f⟩ most=some ((pB b u f most).1,⟨b,(pB b u f most).2.1,(pB b u f most).2.2⟩):=by
 unfold cL pB;rw [CK hb hl h0 h1,zbs];simp only
 by_cases c1:(vI b u f).2.2≠0
 ·rw [xX c1,if_pos c1];rfl
 rw [x7 (by omega),if_neg c1,cond_false]
 by_cases c2:(vI b u f).1<0
 ·rw [yN c2,if_pos c2];rfl
 rw [yP c2,if_neg c2,cond_false]
 by_cases c3:(vI b u f).1>most
 ·rw [yN c3,if_pos c3];rfl
 ·rw [yP c3,if_neg c3,cond_false]
theorem zEC {b:List Int} {u f:Int} (hb:∀ x∈b,xY x) (hl:b.length<=100000) (h0:0<=u) (h1:u<=b.length) :
  H8 281474976710656 ⟨b,u,f⟩=some ((jY b u f).1,⟨b,(jY b u f).2.1,(jY b u f).2.2⟩):=by
 unfold H8;have hr:=HW (f:=f) hb h0 h1;unfold jY at *
 by_cases hf:f≠0
 ·rw [xX hf,if_pos hf];rfl
 ·rw [if_neg hf] at hr ⊢;rw [x7 (show f=0 by omega),cond_false,xQ ⟨h0,h1⟩,zbs,gR b h0,zAB (n9 hb _) (by rw [List.length_drop];omega) (by rw [List.length_drop];omega) (by omega),zbs];simp only at hr;show some (_,(⟨b,zI (u+_),_⟩:vY))=_;rw [w64 (by omega) (by omega)]
theorem zBX {n:List (List Int)} {s:List zV} {b:List Int} {u f:Int} (hb:∀ x∈b,xY x) (hl:b.length<=100000) (h0:0<=u) (h1:u<=b.length) (hf:f=0) :
  DU 281474976710656 ⟨b,u,f⟩ n s=some ((kB n s (b.drop u.toNat)).1,⟨b,u+(kB n s (b.drop u.toNat)).2.1,(kB n s (b.drop u.toNat)).2.2⟩):=by
 unfold DU;have h:=NS (n:=n) (s:=s) (n9 hb u.toNat);rw [List.length_drop] at h;rw [x7 hf,cond_false,xQ ⟨h0,h1⟩,zbs,gR b h0,zHU (n9 hb _) (by rw [List.length_drop];omega),zbs];simp only;rw [w64 (by omega) (by omega)]
theorem zDE {b:List Int} {r4:Int×vY} (hb:∀ x∈b,xY x) (hl:b.length<=100000):∀ (k m i:Nat) (u f:Int) (row:List (List Int)),r4.1=((i+k:Nat):Int)->i+k<=1000->k<m->0<=u->u<=b.length->row.length+k<=1000 ->
  BW 281474976710656 r4 m (i:Nat) b u f row=some (b,fD b k u f row):=by
 intro k
 induction k with
 | zero =>
  intro m i u f row hi hi2 hm h0 h1 hr;obtain ⟨g,rfl⟩:∃ g,m=g+1:=⟨m - 1,by omega⟩;show rJ _ _ _ _ _ _ _ _=_;unfold rJ;rw [bB (.inl (by omega))];rfl
 | succ k ih =>
  intro m i u f row hi hi2 hm h0 h1 hr;obtain ⟨g,rfl⟩:∃ g,m=g+1:=⟨m - 1,by omega⟩;show rJ _ _ _ _ _ _ _ _=_;unfold rJ;simp only [fD]
  by_cases hf:f≠0
  ·rw [bB (.inr (uK hf)),if_pos hf];rfl
  have ht:=HW (f:=f) hb h0 h1;rw [yN (by omega),u9 (by omega),if_neg hf,Bool.and_self,cond_true,zEC hb hl h0 h1,zbs,xQ (by simp;omega),zbs,wX (by omega)];exact ih g (i+1) (jY b u f).2.1 (jY b u f).2.2 (row++[(jY b u f).1]) (by omega) (by omega) (by omega) (by omega) (by omega) (by simp;omega)
theorem zBr {b:List Int} {r4:Int×vY} (hb:∀ x∈b,xY x) (hl:b.length<=100000):∀ (k m i:Nat) (u f:Int) (row:List zV),r4.1=((i+k:Nat):Int)->i+k<=1000->k<m->0<=u->u<=b.length->row.length+k<=1000 ->
  r5 281474976710656 r4 m (i:Nat) b u f row=some (b,fH b k u f row):=by
 intro k
 induction k with
 | zero =>
  intro m i u f row hi hi2 hm h0 h1 hr;obtain ⟨g,rfl⟩:∃ g,m=g+1:=⟨m - 1,by omega⟩;show lD _ _ _ _ _ _ _ _=_;unfold lD;rw [bB (.inl (by omega))];rfl
 | succ k ih =>
  intro m i u f row hi hi2 hm h0 h1 hr;obtain ⟨g,rfl⟩:∃ g,m=g+1:=⟨m - 1,by omega⟩;show lD _ _ _ _ _ _ _ _=_;unfold lD;simp only [fH]
  by_cases hf:f≠0
  ·rw [bB (.inr (uK hf)),if_pos hf];rfl
  have ht:=QY (f:=f) hb h0 h1;have hn:=pP (f:=f) hb h0 h1;rw [yN (by omega),u9 (by omega),if_neg hf,Bool.and_self,cond_true,CK hb hl h0 h1,zbs];simp only;rw [CK hb hl (by omega) hn.2.2.1,zbs,xQ (by simp;omega),zbs,wX (by omega)];exact ih g (i+1) (two b u f).2.1 (two b u f).2.2 (row++[⟨(vI b u f).1,(two b u f).1⟩]) (by omega) (by omega) (by omega) (by omega) (by omega) (by simp;omega)
theorem zEb {b:List Int} {r4:Int×vY} {o1:(List Int)×Int×Int×(List (List Int))} {o2:(List Int)×Int×Int×(List zV)} (hb:∀ x∈b,xY x) (hl:b.length<=100000):∀ (k m i:Nat) (u f:Int) (row:List xD),r4.1=((i+k:Nat):Int)->i+k<=1000->k<m->0<=u->u<=b.length->row.length+k<=1000 ->
  C2 281474976710656 o1 o2 r4 m (i:Nat) b u f row=some (b,bU o1.2.2.2 o2.2.2.2 b k u f row):=by
 intro k
 induction k with
 | zero =>
  intro m i u f row hi hi2 hm h0 h1 hr;obtain ⟨g,rfl⟩:∃ g,m=g+1:=⟨m - 1,by omega⟩;show rB _ _ _ _ _ _ _ _ _ _=_;unfold rB;rw [bB (.inl (by omega))];rfl
 | succ k ih =>
  intro m i u f row hi hi2 hm h0 h1 hr;obtain ⟨g,rfl⟩:∃ g,m=g+1:=⟨m - 1,by omega⟩;show rB _ _ _ _ _ _ _ _ _ _=_;unfold rB;simp only [bU]
  by_cases hf:f≠0
  ·rw [bB (.inr (uK hf)),if_pos hf];rfl
  have h:=NS (n:=o1.2.2.2) (s:=o2.2.2.2) (n9 hb u.toNat);rw [List.length_drop] at h;rw [yN (by omega),u9 (by omega),if_neg hf,Bool.and_self,cond_true,zBX hb hl h0 h1 (by omega),zbs,xQ (by simp;omega),zbs,wX (by omega)];exact ih g (i+1) (u+(kB o1.2.2.2 o2.2.2.2 (b.drop u.toNat)).2.1) (kB o1.2.2.2 o2.2.2.2 (b.drop u.toNat)).2.2 (row++[(kB o1.2.2.2 o2.2.2.2 (b.drop u.toNat)).1]) (by omega) (by omega) (by omega) (by omega) (by omega) (by simp;omega)
theorem zGJ {b:List Int} (hb:∀ x∈b,xY x) (hl:b.length<=100000):HY 281474976710656 b=some (tB b):=by
 obtain ⟨⟨a1,a2⟩,⟨b1,b2⟩,⟨c1,c2⟩,⟨d1,d2,d3,d4⟩,⟨e1,e2⟩,⟨f1,f2,f3,f4⟩,⟨g1,g2⟩,⟨i1,i2,i3,i4⟩,⟨j1,j2,j3⟩,j4⟩:=Q9 hb;have hcur:JV 281474976710656 ⟨b,0,0⟩=some (dP b,⟨b,(dE b).1,(dE b).2.1⟩):=by
  unfold JV;rw [CK hb hl (by omega) (by omega),zbs];show (bC 281474976710656 ⟨b,(dT b).2.1,(dT b).2.2⟩).bind _=_;rw [CK hb hl a1 a2,zbs];show (bC 281474976710656 ⟨b,(dS b).2.1,(dS b).2.2⟩).bind _=_;rw [CK hb hl b1 b2,zbs];show (cL 281474976710656 ⟨b,(dL b).2.1,(dL b).2.2⟩ 1000).bind _=_;rw [TE hb hl c1 c2,zbs];show (BW 281474976710656 ((dC1 b).1,⟨b,(dC1 b).2.1,(dC1 b).2.2⟩) 281474976710656 ((0:Nat):Int) b (dC1 b).2.1 (dC1 b).2.2 []).bind _=_;rw [zDE (r4:=((dC1 b).1,⟨b,(dC1 b).2.1,(dC1 b).2.2⟩)) hb hl (dC1 b).1.toNat 281474976710656 0 (dC1 b).2.1 (dC1 b).2.2 [] (by simp only;omega) (by omega) (by omega) d3 d4 (by simp;omega),zbs];show (cL 281474976710656 ⟨b,(dN b).1,(dN b).2.1⟩ 1000).bind _=_;rw [TE hb hl e1 e2,zbs];show (r5 281474976710656 ((dC2 b).1,⟨b,(dC2 b).2.1,(dC2 b).2.2⟩) 281474976710656 ((0:Nat):Int) b (dC2 b).2.1 (dC2 b).2.2 []).bind _=_;rw [zBr (r4:=((dC2 b).1,⟨b,(dC2 b).2.1,(dC2 b).2.2⟩)) hb hl (dC2 b).1.toNat 281474976710656 0 (dC2 b).2.1 (dC2 b).2.2 [] (by simp only;omega) (by omega) (by omega) f3 f4 (by simp;omega),zbs];have h3:(bif ((dSt b).2.1==(0:Int)) then (aQ 281474976710656 (dN b).2.2 (dSt b).2.2).bind (fun r_9=>some r_9) else some (dSt b).2.1)=some (dF3 b):=by
   unfold dF3
   by_cases h:(dSt b).2.1=0
   ·rw [u9 h,if_pos h,cond_true,show aQ 281474976710656 (dN b).2.2 (dSt b).2.2=some (kU (dN b).2.2 (dSt b).2.2) from N6];rfl
   ·rw [uK h,if_neg h];rfl
  refine (congrArg (fun o=>Option.bind o _) h3).trans ?_;rw [zbs];show (cL 281474976710656 ⟨b,(dSt b).1,dF3 b⟩ 1000).bind _=_;rw [TE hb hl g1 g2,zbs];show (C2 281474976710656 (b,dN b) (b,dSt b) ((dC3 b).1,⟨b,(dC3 b).2.1,(dC3 b).2.2⟩) 281474976710656 ((0:Nat):Int) b (dC3 b).2.1 (dC3 b).2.2 []).bind _=_;rw [zEb (r4:=((dC3 b).1,⟨b,(dC3 b).2.1,(dC3 b).2.2⟩)) (o1:=(b,dN b)) (o2:=(b,dSt b)) hb hl (dC3 b).1.toNat 281474976710656 0 (dC3 b).2.1 (dC3 b).2.2 [] (by simp only;omega) (by omega) (by omega) i3 i4 (by simp;omega),zbs];rfl
 unfold HY tB;rw [hcur,zbs];have hev:(dP b).Events.length<=100000:=by show (dE b).2.2.length<=_;omega
 simp only
 by_cases h:(dE b).2.1≠0
 ·have e5:dF5 b=(dE b).2.1:=by unfold dF5;rw [if_neg h]
  rw [xX h,e5,if_pos h];rfl
 have e5:dF5 b=t8 (dP b):=by unfold dF5;rw [if_pos (by omega)]
 rw [x7 (by omega),cond_false,RI hev,zbs,e5]
 by_cases h6:t8 (dP b)≠0
 ·rw [xX h6,if_pos h6];rfl
 rw [x7 (by omega),if_neg h6,cond_false,zAc hev,zbs,xQ ⟨j1,j2⟩,zbs,oP j1]
 by_cases h8:(tX (dP b)).1=b.take (dE b).1.toNat
 ·have h7:(tX (dP b)).2=0:=by
   rcases L8 (p:=dP b) with ⟨k1,k2⟩ | ⟨k1,_⟩
   ·exfalso
    rw [k2] at h8;have hl0:=congrArg List.length h8;rw [List.length_take] at hl0;simp at hl0;have ht:0<(dT b).2.1:=by
     have hT:=pP (u:=0) (f:=0) hb (by omega) (by omega)
     by_cases hz:(dT b).2.2=0
     ·exact (hT.2.2.2 hz).2
     ·exfalso
      apply h;have s1:(dS b).2.2=(dT b).2.2:=by unfold dS;rw [MK hz]
      have s2:(dL b).2.2=(dT b).2.2:=by unfold dL;rw [MK (by rw [s1];exact hz),s1]
      have s3:∀ u f,f≠0->pB b u f 1000=(0,u,f):=by
       intro u f hf;unfold pB;rw [MK hf,if_pos hf]
      have s4:dC1 b=(0,(dL b).2.1,(dT b).2.2):=by unfold dC1;rw [s2,s3 _ _ hz]
      have s5:(dN b).2.1=(dT b).2.2:=by unfold dN;rw [s4];rfl
      have s6:dC2 b=(0,(dN b).1,(dT b).2.2):=by unfold dC2;rw [s5,s3 _ _ hz]
      have s7:(dSt b).2.1=(dT b).2.2:=by unfold dSt;rw [s6];rfl
      have s8:dF3 b=(dT b).2.2:=by unfold dF3;rw [s7,if_neg hz]
      have s9:dC3 b=(0,(dSt b).1,(dT b).2.2):=by unfold dC3;rw [s8,s3 _ _ hz]
      have s10:(dE b).2.1=(dT b).2.2:=by unfold dE;rw [s9];rfl
      rw [s10];exact hz
    omega
   ·exact k1
  rw [OE h8,if_neg (fun g=>g.elim (fun k=>k h7) (fun k=>k h8))];rfl
 ·rw [NY h8,if_pos (.inr h8)];rfl
end Go.Ab
