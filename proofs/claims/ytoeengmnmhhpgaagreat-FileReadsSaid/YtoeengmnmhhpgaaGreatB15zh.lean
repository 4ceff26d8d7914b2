/- Plain laws of the functions uV this seat's, laid anew from another seat's text. No conditions but those that the theorems name. -/
import Derived.Test.YtoeengmnmhhpgaaGreatP15zxD
import Derived.Test.YtoeengmnmhhpgaaGreatB15za
import Derived.Test.YtoeengmnmhhpgaaGreatB15zb
import Derived.Test.YtoeengmnmhhpgaaGreatB15zc
import Derived.Test.YtoeengmnmhhpgaaGreatB15zd
import Derived.Test.YtoeengmnmhhpgaaGreatB15ze
import Derived.Test.YtoeengmnmhhpgaaGreatB15zf
import Derived.Test.YtoeengmnmhhpgaaGreatB15zg
namespace Go.Ab
open Go
set_option linter.unusedVariables false
def i7 (n:List (List Int)) (s:List zQ):List yW→List (List Int)→Prop
 | [],[]=>True
 | e::r,L::q=>BE n s e L∧i7 n s r q
 | _,_=>False
theorem i7.mono {n n':List (List Int)} {s s':List zQ} (hn:n <+: n') (hs:s <+: s'):∀ {l:List yW} {q:List (List Int)},i7 n s l q→i7 n' s' l q
 | [],[],h=>trivial
 | _::_,_::_,h=>⟨h.1.mono hn hs,i7.mono hn hs h.2⟩
theorem R6:uB [] []:=⟨by simp,by simp,rfl,rfl⟩
def dJ:List (List Int)→List zQ→List Int→List yW→((List (List Int))×(List zQ)×(List Int))⊕Int
 | n,s,row,[]=>.inl (n,s,row)
 | n,s,row,e::r=>if (jR n s e).2.2.2≠0 then .inr (jR n s e).2.2.2 else dJ (jR n s e).2.1 (jR n s e).2.2.1 (row++(jR n s e).1) r
def KO (o:((List (List Int))×(List zQ)×(List Int))⊕Int):((List (List Int))×(List zQ)×(List Int))⊕(List Int×Int):=match o with | .inl q=>.inl q | .inr e=>.inr ([],e)
theorem NJ:∀ (l:List yW) (n:List (List Int)) (s:List zQ) (row:List Int),uB n s →
  (∃ e,dJ n s row l=.inr e∧e≠0)∨(∃ n' s' row' q,dJ n s row l=.inl (n',s',row')∧uB n' s'∧n <+: n'∧s <+: s'∧row'=row++q.flatMap vO∧i7 n' s' l q∧row'.length≤row.length+50 * l.length):=by
 intro l
 induction l with
 | nil=>intro n s row g;exact .inr ⟨n,s,row,[],rfl,g,List.prefix_refl _,List.prefix_refl _,by simp,trivial,by simp⟩
 | cons x r ih =>
  intro n s row g
  simp only [dJ]
  rcases N5 (n:=n) (s:=s) (e:=x) with ⟨k1,_⟩ | ⟨k1,k2,k3,k4,k5,L,k6,k7⟩
  ·rw [if_pos k1];exact .inl ⟨_,rfl,k1⟩
  ·rw [if_neg (by omega),k6]
   obtain ⟨c1,c2,c3⟩:=N3 k3 k7
   rcases ih _ _ (row++vO L) k3 with ⟨e,h1,h2⟩ | ⟨n',s',row',q,h1,h2,h3,h4,h5,h6,h7⟩
   ·exact .inl ⟨e,h1,h2⟩
   ·refine .inr ⟨n',s',row',L::q,h1,h2,k4.trans h3,k5.trans h4,by rw [h5];simp,⟨k7.mono h3 h4,h6⟩,?_⟩
    rw [List.length_append] at h7;simp only [List.length_cons];omega
theorem zBs {p:z8} (hl:p.Events.length≤1000):∀ (m i:Nat) (n:List (List Int)) (s:List zQ) (row:List Int),(p.Events.drop i).length<m→n.length≤1000→s.length≤1000→row.length+50 * (p.Events.drop i).length≤100000 →
  BD 281474976710656 p m n s (i:Nat) row=some (KO (dJ n s row (p.Events.drop i))):=by
 intro m
 induction m with
 | zero=>intro i n s row h;omega
 | succ m ih =>
  intro i n s row hm hn hs hr
  show GZ _ _ _ _ _ _ _=_
  unfold GZ
  rcases hd:p.Events.drop i with _ | ⟨x,r⟩
  ·have:=tZ hd
   rw [yM (by omega)];rfl
  have hlt:=tQ hd
  rw [hd] at hm hr
  simp only [List.length_cons] at hm hr
  rw [yP (by omega),cond_true,w5 hd,zbs,zBO (by omega) (by omega),zbs]
  simp only [dJ]
  rcases N5 (n:=n) (s:=s) (e:=x) with ⟨k1,k2⟩ | ⟨k1,k2,k3,k4,k5,L,k6,k7⟩
  ·rw [wE k1,if_pos k1];rfl
  ·obtain ⟨c1,c2,c3⟩:=N3 k3 k7
   have g1:=k3.n1
   have g2:=k3.s1
   rw [wF k1,if_neg (by omega),cond_false,k6,xZ (by omega),zbs,wW (by omega),ih (i+1) _ _ _ (by rw [wZ hd];omega) g1 g2 (by rw [wZ hd,List.length_append];omega),wZ hd]
theorem zDT {l:List Int} (h:∀ x∈l,xP x) (hl:l.length≤1000):HW 281474976710656 l=some (vO l):=by
 unfold HW
 have key:∀ (m i:Nat) (row:List Int),(l.drop i).length<m→row.length+10 * (l.drop i).length≤1000000→rX 281474976710656 l m (i:Nat) row=some (row++vO (l.drop i)):=by
  intro m
  induction m with
  | zero=>intro i row h;omega
  | succ m ih =>
   intro i row hm hr
   show DQ _ _ _ _ _=_
   unfold DQ
   rcases hd:l.drop i with _ | ⟨x,r⟩
   ·have:=tZ hd
    rw [yM (by omega),cond_false,YO,List.append_nil]
   have hlt:=tQ hd
   rw [hd] at hm hr
   simp only [List.length_cons] at hm hr
   have hv:=(j5 9 (wT x)).2
   rw [yP (by omega),cond_true,w5 hd,zbs,kZ (h x (nI hd)) (by omega) (by omega),zbs,wW (by omega),ih (i+1) _ (by rw [wZ hd];omega) (by rw [wZ hd,List.length_append];omega),wZ hd,OK,List.append_assoc]
 rw [show rX 281474976710656 l 281474976710656 0 []=_ from key 281474976710656 0 [] (by simp;omega) (by simp;omega)];simp
theorem RJ {l b:List Int} (h:∀ x∈l,xP x) (hl:l.length≤1000) (hb:b.length≤900000):lL 281474976710656 b l=some (b++vO l):=by
 unfold lL
 have key:∀ (m i:Nat) (row:List Int),(l.drop i).length<m→row.length+10 * (l.drop i).length≤1000000→BR 281474976710656 l m (i:Nat) row=some (row++vO (l.drop i)):=by
  intro m
  induction m with
  | zero=>intro i row h;omega
  | succ m ih =>
   intro i row hm hr
   show DE _ _ _ _ _=_
   unfold DE
   rcases hd:l.drop i with _ | ⟨x,r⟩
   ·have:=tZ hd
    rw [yM (by omega),cond_false,YO,List.append_nil]
   have hlt:=tQ hd
   rw [hd] at hm hr
   simp only [List.length_cons] at hm hr
   have hv:=(j5 9 (wT x)).2
   rw [yP (by omega),cond_true,w5 hd,zbs,kZ (h x (nI hd)) (by omega) (by omega),zbs,wW (by omega),ih (i+1) _ (by rw [wZ hd];omega) (by rw [wZ hd,List.length_append];omega),wZ hd,OK,List.append_assoc]
 rw [show BR 281474976710656 l 281474976710656 0 b=_ from key 281474976710656 0 b (by simp;omega) (by simp;omega)];simp
def bU (x:List Int):List Int:=vH 9 (wT x.length)++x
def cF (n:List (List Int)):List Int:=n.flatMap bU
def cD (s:List zQ):List Int:=s.flatMap fun p=>vO [p.c0,p.c1]
theorem zBU {x:List Int} (h:tD x=0):x.length≤40:=by
 unfold tD at h
 by_cases hx:x=[]∨40<x.length
 ·rw [if_pos hx] at h;cases h
 ·omega
theorem zAt {q:(List (List Int))×(List zQ)×(List Int)} (hn:∀ x∈q.1,x.length≤40) (hl:q.1.length≤1000):∀ (m i:Nat) (row:List Int),(q.1.drop i).length<m→row.length+50 * (q.1.drop i).length≤200000 →
  B0 281474976710656 q m (i:Nat) row=some (row++cF (q.1.drop i)):=by
 intro m
 induction m with
 | zero=>intro i row h;omega
 | succ m ih =>
  intro i row hm hr
  show EY _ _ _ _ _=_
  unfold EY
  rcases hd:q.1.drop i with _ | ⟨x,r⟩
  ·have:=tZ hd
   rw [yM (by omega),cond_false];simp [cF]
  have hlt:=tQ hd
  rw [hd] at hm hr
  simp only [List.length_cons] at hm hr
  have hx:=hn x (nI hd)
  have hv:=(j5 9 (wT x.length)).2
  rw [yP (by omega),cond_true,w5 hd,zbs,VS (by omega) (by omega) (by omega),zbs,wW (by omega),ih (i+1) _ (by rw [wZ hd];omega) (by rw [wZ hd,List.length_append,List.length_append];omega),wZ hd]
  simp [cF,bU]
theorem zDS {q:(List (List Int))×(List zQ)×(List Int)} (hn:∀ x∈q.2.1,xP x.c0∧xP x.c1) (hl:q.2.1.length≤1000):∀ (m i:Nat) (row:List Int),(q.2.1.drop i).length<m→row.length+20 * (q.2.1.drop i).length≤200000 →
  BI 281474976710656 q m (i:Nat) row=some (row++cD (q.2.1.drop i)):=by
 intro m
 induction m with
 | zero=>intro i row h;omega
 | succ m ih =>
  intro i row hm hr
  show GU _ _ _ _ _=_
  unfold GU
  rcases hd:q.2.1.drop i with _ | ⟨x,r⟩
  ·have:=tZ hd
   rw [yM (by omega),cond_false];simp [cD]
  have hlt:=tQ hd
  rw [hd] at hm hr
  simp only [List.length_cons] at hm hr
  have hx:=hn x (nI hd)
  have hv:=(kX [x.c0,x.c1]).2
  simp only [List.length_cons,List.length_nil] at hv
  rw [yP (by omega),cond_true,w5 hd,zbs,RJ (fun y hy=>by simp at hy;rcases hy with rfl | rfl;exact hx.1;exact hx.2) (by simp) (by omega),zbs,wW (by omega),ih (i+1) _ (by rw [wZ hd];omega) (by rw [wZ hd,List.length_append];omega),wZ hd]
  simp [cD]
def lF (p:z8) (n:List (List Int)) (s:List zQ):List Int:=vO [p.Thread,p.Serial,p.Lost,(n.length:Int)]++cF n++vO [(s.length:Int)]++cD s++vO [(p.Events.length:Int)]
def q8 (p:z8):List Int×Int :=
 if qI p≠0 then ([],qI p) else match dJ [] [] [] p.Events with
 | .inr e=>([],e)
 | .inl q=>(lF p q.1 q.2.1++q.2.2,0)
theorem SF:∀ {n:List (List Int)},(∀ x∈n,x.length≤40)→(cF n).length≤50 * n.length:=by
 intro n
 induction n with
 | nil=>intro _;simp [cF]
 | cons x r ih =>
  intro h
  have h1:=ih (fun y hy=>h y (by simp [hy]))
  have h2:=h x (by simp)
  have h3:=(j5 9 (wT x.length)).2
  simp only [cF,bU,List.flatMap_cons,List.length_append,List.length_cons] at *
  omega
theorem QR:∀ {s:List zQ},(cD s).length≤20 * s.length:=by
 intro s
 induction s with
 | nil=>simp [cD]
 | cons x r ih =>
  have hv:=(kX [x.c0,x.c1]).2
  simp only [cD,List.flatMap_cons,List.length_append,List.length_cons,List.length_nil] at *
  omega
theorem uB.lens {n:List (List Int)} {s:List zQ} (g:uB n s):(∀ x∈n,x.length≤40)∧(∀ x∈s,xP x.c0∧xP x.c1):=by
 refine ⟨fun x hx=>zBU (g.valid hx),fun x hx=>?_⟩
 obtain ⟨i,hi⟩:=List.getElem?_of_mem hx
 have hil:=(List.getElem?_eq_some_iff.1 hi).1
 have:=g.pair hi
 have h1:=g.n1
 have h2:=g.s1
 unfold xP;omega
theorem zFu {p:z8} (hp:qI p=0) {k:Int} (h0:0≤k) (h1:k≤1000):∀ x∈[p.Thread,p.Serial,p.Lost,k],xP x:=by
 have:=bN hp
 intro x hx
 simp at hx
 unfold xP
 rcases hx with rfl | rfl | rfl | rfl<;>omega
theorem zFU {p:z8} (hl:p.Events.length≤100000):gE 281474976710656 p=some (q8 p):=by
 unfold gE q8
 rw [S1 hl,zbs]
 by_cases hp:qI p≠0
 ·rw [wE hp,if_pos hp];rfl
 have hp0:qI p=0:=by omega
 have hz:=bN hp0
 rw [wF hp0,if_neg hp,cond_false,show BD 281474976710656 p 281474976710656 [] [] 0 []=_ from zBs (by omega) 281474976710656 0 [] [] [] (by simp;omega) (by simp) (by simp) (by simp;omega),zbs,List.drop_zero]
 rcases NJ p.Events [] [] [] R6 with ⟨e,h1,h2⟩ | ⟨n',s',row',q,h1,h2,h3,h4,h5,h6,h7⟩
 ·rw [h1];rfl
 ·rw [h1]
  simp only [KO]
  obtain ⟨g1,g2⟩:=h2.lens
  have h8:=h2.n1
  have h9:=h2.s1
  have l1:=(kX [p.Thread,p.Serial,p.Lost,(n'.length:Int)]).2
  have l2:=SF g1
  have l3:=(kX [(s'.length:Int)]).2
  have l4:=QR (s:=s')
  have l5:=(kX [(p.Events.length:Int)]).2
  simp only [List.length_cons,List.length_nil] at l1 l3 l5 h7
  rw [zDT (zFu hp0 (by omega) (by omega)) (by simp),zbs,
   show B0 281474976710656 (n',s',row') 281474976710656 0 (vO [p.Thread,p.Serial,p.Lost,(n'.length:Int)])=_ from zAt (q:=(n',s',row')) g1 h8 281474976710656 0 _ (by simp;omega) (by simp;omega),zbs,List.drop_zero,
   RJ (fun x hx=>by simp at hx;subst hx;unfold xP;omega) (by simp) (by rw [List.length_append];simp only;omega),zbs,
   show BI 281474976710656 (n',s',row') 281474976710656 0 _=_ from zDS (q:=(n',s',row')) g2 h9 281474976710656 0 _ (by simp;omega) (by simp only [List.drop_zero,List.length_append];omega),zbs,List.drop_zero,
   RJ (fun x hx=>by simp at hx;subst hx;unfold xP;omega) (by simp) (by simp only [List.length_append];omega),zbs,xZ (by simp only [List.length_append];omega),zbs]
  simp only [lF,List.append_assoc]
end Go.Ab
