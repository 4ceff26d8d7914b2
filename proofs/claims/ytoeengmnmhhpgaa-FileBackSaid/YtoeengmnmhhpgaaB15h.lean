/- Plain laws of the functions w6 this seat's, laid anew from another seat's text. No conditions but those that the theorems name. -/
import Derived.Test.YtoeengmnmhhpgaaP15xD
import Derived.Test.YtoeengmnmhhpgaaB15a
import Derived.Test.YtoeengmnmhhpgaaB15b
import Derived.Test.YtoeengmnmhhpgaaB15c
import Derived.Test.YtoeengmnmhhpgaaB15d
import Derived.Test.YtoeengmnmhhpgaaB15e
import Derived.Test.YtoeengmnmhhpgaaB15f
import Derived.Test.YtoeengmnmhhpgaaB15g
namespace Go.Ab
open Go
set_option linter.unusedVariables false
def fF (n:List (List Int)) (s:List zT):List xA→List (List Int)→Prop
 | [],[]=>True
 | e::r,L::q=>f0 n s e L∧fF n s r q
 | _,_=>False
theorem TH:vX [] []:=⟨by simp,by simp,rfl,rfl⟩
def lT:List (List Int)→List zT→List Int→List xA→((List (List Int))×(List zT)×(List Int))⊕Int
 | n,s,row,[]=>.inl (n,s,row)
 | n,s,row,e::r=>if (jS n s e).2.2.2≠0 then .inr (jS n s e).2.2.2 else lT (jS n s e).2.1 (jS n s e).2.2.1 (row++(jS n s e).1) r
def OP (o:((List (List Int))×(List zT)×(List Int))⊕Int):((List (List Int))×(List zT)×(List Int))⊕(List Int×Int):=match o with | .inl q=>.inl q | .inr e=>.inr ([],e)
theorem S9:∀ (l:List xA) (n:List (List Int)) (s:List zT) (row:List Int),vX n s →
  (∃ e,lT n s row l=.inr e∧e≠0)∨(∃ n' s' row' q,lT n s row l=.inl (n',s',row')∧vX n' s'∧n <+: n'∧s <+: s'∧row'=row++q.flatMap yQ∧fF n' s' l q∧row'.length≤row.length+50 * l.length):=by
 intro l
 induction l with
 | nil=>intro n s row g;exact .inr ⟨n,s,row,[],rfl,g,List.prefix_refl _,List.prefix_refl _,by simp,trivial,by simp⟩
 | cons x r ih =>
  intro n s row g
  simp only [lT]
  rcases RW (n:=n) (s:=s) (e:=x) with ⟨k1,_⟩ | ⟨k1,k2,k3,k4,k5,L,k6,k7⟩
  ·rw [if_pos k1];exact .inl ⟨_,rfl,k1⟩
  ·rw [if_neg (by omega),k6]
   obtain ⟨c1,c2,c3⟩:=M3 k3 k7
   rcases ih _ _ (row++yQ L) k3 with ⟨e,h1,h2⟩ | ⟨n',s',row',q,h1,h2,h3,h4,h5,h6,h7⟩
   ·exact .inl ⟨e,h1,h2⟩
   ·refine .inr ⟨n',s',row',L::q,h1,h2,k4.trans h3,k5.trans h4,by rw [h5];simp,⟨k7.mono h3 h4,h6⟩,?_⟩
    rw [zla] at h7;simp only [zlc];omega
theorem zEa {p:zQ} (hl:p.Events.length≤1000):∀ (m i:Nat) (n:List (List Int)) (s:List zT) (row:List Int),(p.Events.drop i).length<m→n.length≤1000→s.length≤1000→row.length+50 * (p.Events.drop i).length≤100000 →
  rU 281474976710656 p m n s (i:Nat) row=some (OP (lT n s row (p.Events.drop i))):=by
 intro m
 induction m with
 | zero=>intro i n s row h;omega
 | succ m ih =>
  intro i n s row hm hn hs hr
  show BJ _ _ _ _ _ _ _=_
  unfold BJ
  rcases hd:p.Events.drop i with _ | ⟨x,r⟩
  ·have:=jL hd
   rw [yO (by omega)];rfl
  have hlt:=jG hd
  rw [hd] at hm hr
  simp only [zlc] at hm hr
  rw [yR (by omega),cond_true,w9 hd,zbs,zAx (by omega) (by omega),zbs]
  simp only [lT]
  rcases RW (n:=n) (s:=s) (e:=x) with ⟨k1,k2⟩ | ⟨k1,k2,k3,k4,k5,L,k6,k7⟩
  ·rw [wA k1,if_pos k1];rfl
  ·obtain ⟨c1,c2,c3⟩:=M3 k3 k7
   have g1:=k3.n1
   have g2:=k3.s1
   rw [x8 k1,if_neg (by omega),cond_false,k6,xY (by omega),zbs,vC (by omega),ih (i+1) _ _ _ (by rw [vQ hd];omega) g1 g2 (by rw [vQ hd,zla];omega),vQ hd]
theorem zAi {l:List Int} (h:∀ x∈l,yU x) (hl:l.length≤1000):DG 281474976710656 l=some (yQ l):=by
 unfold DG
 have key:∀ (m i:Nat) (row:List Int),(l.drop i).length<m→row.length+10 * (l.drop i).length≤1000000→o6 281474976710656 l m (i:Nat) row=some (row++yQ (l.drop i)):=by
  intro m
  induction m with
  | zero=>intro i row h;omega
  | succ m ih =>
   intro i row hm hr
   show CC _ _ _ _ _=_
   unfold CC
   rcases hd:l.drop i with _ | ⟨x,r⟩
   ·have:=jL hd
    rw [yO (by omega),cond_false,OC,List.append_nil]
   have hlt:=jG hd
   rw [hd] at hm hr
   simp only [zlc] at hm hr
   have hv:=(nH 9 (wB x)).2
   rw [yR (by omega),cond_true,w9 hd,zbs,jV (h x (cU hd)) (by omega) (by omega),zbs,vC (by omega),ih (i+1) _ (by rw [vQ hd];omega) (by rw [vQ hd,zla];omega),vQ hd,KU,List.append_assoc]
 rw [show o6 281474976710656 l 281474976710656 0 []=_ from key 281474976710656 0 [] (by simp;omega) (by simp;omega)];simp
theorem NT {l b:List Int} (h:∀ x∈l,yU x) (hl:l.length≤1000) (hb:b.length≤900000):fZ 281474976710656 b l=some (b++yQ l):=by
 unfold fZ
 have key:∀ (m i:Nat) (row:List Int),(l.drop i).length<m→row.length+10 * (l.drop i).length≤1000000→rX 281474976710656 l m (i:Nat) row=some (row++yQ (l.drop i)):=by
  intro m
  induction m with
  | zero=>intro i row h;omega
  | succ m ih =>
   intro i row hm hr
   show DD _ _ _ _ _=_
   unfold DD
   rcases hd:l.drop i with _ | ⟨x,r⟩
   ·have:=jL hd
    rw [yO (by omega),cond_false,OC,List.append_nil]
   have hlt:=jG hd
   rw [hd] at hm hr
   simp only [zlc] at hm hr
   have hv:=(nH 9 (wB x)).2
   rw [yR (by omega),cond_true,w9 hd,zbs,jV (h x (cU hd)) (by omega) (by omega),zbs,vC (by omega),ih (i+1) _ (by rw [vQ hd];omega) (by rw [vQ hd,zla];omega),vQ hd,KU,List.append_assoc]
 rw [show rX 281474976710656 l 281474976710656 0 b=_ from key 281474976710656 0 b (by simp;omega) (by simp;omega)];simp
def j7 (x:List Int):List Int:=wI 9 (wB x.length)++x
def tY (n:List (List Int)):List Int:=n.flatMap j7
def t7 (s:List zT):List Int:=s.flatMap fun p=>yQ [p.c0,p.c1]
theorem zDw {x:List Int} (h:uO x=0):x.length≤40:=by
 unfold uO at h
 by_cases hx:x=[]∨40<x.length
 ·rw [if_pos hx] at h;cases h
 ·omega
theorem WR {q:(List (List Int))×(List zT)×(List Int)} (hn:∀ x∈q.1,x.length≤40) (hl:q.1.length≤1000):∀ (m i:Nat) (row:List Int),(q.1.drop i).length<m→row.length+50 * (q.1.drop i).length≤200000 →
  rI 281474976710656 q m (i:Nat) row=some (row++tY (q.1.drop i)):=by
 intro m
 induction m with
 | zero=>intro i row h;omega
 | succ m ih =>
  intro i row hm hr
  show CZ _ _ _ _ _=_
  unfold CZ
  rcases hd:q.1.drop i with _ | ⟨x,r⟩
  ·have:=jL hd
   rw [yO (by omega),cond_false];simp [tY]
  have hlt:=jG hd
  rw [hd] at hm hr
  simp only [zlc] at hm hr
  have hx:=hn x (cU hd)
  have hv:=(nH 9 (wB x.length)).2
  rw [yR (by omega),cond_true,w9 hd,zbs,TY (by omega) (by omega) (by omega),zbs,vC (by omega),ih (i+1) _ (by rw [vQ hd];omega) (by rw [vQ hd,zla,zla];omega),vQ hd]
  simp [tY,j7]
theorem zEi {q:(List (List Int))×(List zT)×(List Int)} (hn:∀ x∈q.2.1,yU x.c0∧yU x.c1) (hl:q.2.1.length≤1000):∀ (m i:Nat) (row:List Int),(q.2.1.drop i).length<m→row.length+20 * (q.2.1.drop i).length≤200000 →
  r5 281474976710656 q m (i:Nat) row=some (row++t7 (q.2.1.drop i)):=by
 intro m
 induction m with
 | zero=>intro i row h;omega
 | succ m ih =>
  intro i row hm hr
  show A6 _ _ _ _ _=_
  unfold A6
  rcases hd:q.2.1.drop i with _ | ⟨x,r⟩
  ·have:=jL hd
   rw [yO (by omega),cond_false];simp [t7]
  have hlt:=jG hd
  rw [hd] at hm hr
  simp only [zlc] at hm hr
  have hx:=hn x (cU hd)
  have hv:=(aG [x.c0,x.c1]).2
  simp only [zlc,List.length_nil] at hv
  rw [yR (by omega),cond_true,w9 hd,zbs,NT (fun y hy=>by simp at hy;rcases hy with rfl | rfl;exact hx.1;exact hx.2) (by simp) (by omega),zbs,vC (by omega),ih (i+1) _ (by rw [vQ hd];omega) (by rw [vQ hd,zla];omega),vQ hd]
  simp [t7]
def nP (p:zQ) (n:List (List Int)) (s:List zT):List Int:=yQ [p.Thread,p.Serial,p.Lost,(n.length:Int)]++tY n++yQ [(s.length:Int)]++t7 s++yQ [(p.Events.length:Int)]
def vU (p:zQ):List Int×Int :=
 if tU p≠0 then ([],tU p) else match lT [] [] [] p.Events with
 | .inr e=>([],e)
 | .inl q=>(nP p q.1 q.2.1++q.2.2,0)
theorem QR:∀ {n:List (List Int)},(∀ x∈n,x.length≤40)→(tY n).length≤50 * n.length:=by
 intro n
 induction n with
 | nil=>intro _;simp [tY]
 | cons x r ih =>
  intro h
  have h1:=ih (fun y hy=>h y (by simp [hy]))
  have h2:=h x (by simp)
  have h3:=(nH 9 (wB x.length)).2
  simp only [tY,j7,List.flatMap_cons,zla,zlc] at *
  omega
theorem R5:∀ {s:List zT},(t7 s).length≤20 * s.length:=by
 intro s
 induction s with
 | nil=>simp [t7]
 | cons x r ih =>
  have hv:=(aG [x.c0,x.c1]).2
  simp only [t7,List.flatMap_cons,zla,zlc,List.length_nil] at *
  omega
theorem vX.lens {n:List (List Int)} {s:List zT} (g:vX n s):(∀ x∈n,x.length≤40)∧(∀ x∈s,yU x.c0∧yU x.c1):=by
 refine ⟨fun x hx=>zDw (g.valid hx),fun x hx=>?_⟩
 obtain ⟨i,hi⟩:=List.getElem?_of_mem hx
 have hil:=(List.getElem?_eq_some_iff.1 hi).1
 have:=g.pair hi
 have h1:=g.n1
 have h2:=g.s1
 unfold yU;omega
theorem UB {p:zQ} (hp:tU p=0) {k:Int} (h0:0≤k) (h1:k≤1000):∀ x∈[p.Thread,p.Serial,p.Lost,k],yU x:=by
 have:=fB hp
 intro x hx
 simp at hx
 unfold yU
 rcases hx with rfl | rfl | rfl | rfl<;>omega
theorem L7 {p:zQ} (hl:p.Events.length≤100000):dU 281474976710656 p=some (vU p):=by
 unfold dU vU
 rw [JZ hl,zbs]
 by_cases hp:tU p≠0
 ·rw [wA hp,if_pos hp];rfl
 have hp0:tU p=0:=by omega
 have hz:=fB hp0
 rw [x8 hp0,if_neg hp,cond_false,show rU 281474976710656 p 281474976710656 [] [] 0 []=_ from zEa (by omega) 281474976710656 0 [] [] [] (by simp;omega) (by simp) (by simp) (by simp;omega),zbs,zdz]
 rcases S9 p.Events [] [] [] TH with ⟨e,h1,h2⟩ | ⟨n',s',row',q,h1,h2,h3,h4,h5,h6,h7⟩
 ·rw [h1];rfl
 ·rw [h1]
  simp only [OP]
  obtain ⟨g1,g2⟩:=h2.lens
  have h8:=h2.n1
  have h9:=h2.s1
  have l1:=(aG [p.Thread,p.Serial,p.Lost,(n'.length:Int)]).2
  have l2:=QR g1
  have l3:=(aG [(s'.length:Int)]).2
  have l4:=R5 (s:=s')
  have l5:=(aG [(p.Events.length:Int)]).2
  simp only [zlc,List.length_nil] at l1 l3 l5 h7
  rw [zAi (UB hp0 (by omega) (by omega)) (by simp),zbs,
   show rI 281474976710656 (n',s',row') 281474976710656 0 (yQ [p.Thread,p.Serial,p.Lost,(n'.length:Int)])=_ from WR (q:=(n',s',row')) g1 h8 281474976710656 0 _ (by simp;omega) (by simp;omega),zbs,zdz,
   NT (fun x hx=>by simp at hx;subst hx;unfold yU;omega) (by simp) (by rw [zla];simp only;omega),zbs,
   show r5 281474976710656 (n',s',row') 281474976710656 0 _=_ from zEi (q:=(n',s',row')) g2 h9 281474976710656 0 _ (by simp;omega) (by simp only [zdz,zla];omega),zbs,zdz,
   NT (fun x hx=>by simp at hx;subst hx;unfold yU;omega) (by simp) (by simp only [zla];omega),zbs,xY (by simp only [zla];omega),zbs]
  simp only [nP,List.append_assoc]
end Go.Ab
