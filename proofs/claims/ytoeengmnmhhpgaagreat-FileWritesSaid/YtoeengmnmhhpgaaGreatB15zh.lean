/- Plain laws of the functions uS this seat's, laid anew from another seat's text. No conditions but those that the theorems name. -/
import Derived.Test.YtoeengmnmhhpgaaGreatP15zxD
import Derived.Test.YtoeengmnmhhpgaaGreatB15za
import Derived.Test.YtoeengmnmhhpgaaGreatB15zb
import Derived.Test.YtoeengmnmhhpgaaGreatB15zc
import Derived.Test.YtoeengmnmhhpgaaGreatB15zd
import Derived.Test.YtoeengmnmhhpgaaGreatB15ze
import Derived.Test.YtoeengmnmhhpgaaGreatB15zf
import Derived.Test.YtoeengmnmhhpgaaGreatB15zg
namespace Go.Ab
open Go
set_option linter.unusedVariables false
def HC (n:List (List Int)) (s:List zV):List xD->List (List Int)->Prop
 | [],[]=>True
 | e::r,L::q=>DO n s e L/\HC n s r q
 | _,_=>False
theorem SY:u0 [] []:=⟨by simp,by simp,rfl,rfl⟩
def fS:List (List Int)->List zV->List Int->List xD->((List (List Int))×(List zV)×(List Int))⊕Int
 | n,s,row,[]=>.inl (n,s,row)
 | n,s,row,e::r=>if (kF n s e).2.2.2≠0 then .inr (kF n s e).2.2.2 else fS (kF n s e).2.1 (kF n s e).2.2.1 (row++(kF n s e).1) r
def L0 (o:((List (List Int))×(List zV)×(List Int))⊕Int):((List (List Int))×(List zV)×(List Int))⊕(List Int×Int):=match o with | .inl q=>.inl q | .inr e=>.inr ([],e)
theorem TL:∀ (l:List xD) (n:List (List Int)) (s:List zV) (row:List Int),u0 n s ->
  (∃ e,fS n s row l=.inr e/\e≠0)\/(∃ n' s' row' q,fS n s row l=.inl (n',s',row')/\u0 n' s'/\n <+: n'/\s <+: s'/\row'=row++q.flatMap vX/\HC n' s' l q/\row'.length<=row.length+50 * l.length):=by
 intro l
 induction l with
 | nil=>intro n s row g;exact .inr ⟨n,s,row,[],rfl,g,List.prefix_refl _,List.prefix_refl _,by simp,trivial,by simp⟩
 | cons x r ih =>
  intro n s row g;simp only [fS];rcases QI (n:=n) (s:=s) (e:=x) with ⟨k1,_⟩ | ⟨k1,k2,k3,k4,k5,L,k6,k7⟩
  ·rw [if_pos k1];exact .inl ⟨_,rfl,k1⟩
  ·rw [if_neg (by omega),k6];obtain ⟨c1,c2,c3⟩:=LJ k3 k7;rcases ih _ _ (row++vX L) k3 with ⟨e,h1,h2⟩ | ⟨n',s',row',q,h1,h2,h3,h4,h5,h6,h7⟩
   ·exact .inl ⟨e,h1,h2⟩
   ·refine .inr ⟨n',s',row',L::q,h1,h2,k4.trans h3,k5.trans h4,by rw [h5];simp,⟨k7.mono h3 h4,h6⟩,?_⟩;rw [zla] at h7;simp only [zlc];omega
theorem zGY {p:z7} (hl:p.Events.length<=1000):∀ (m i:Nat) (n:List (List Int)) (s:List zV) (row:List Int),(p.Events.drop i).length<m->n.length<=1000->s.length<=1000->row.length+50 * (p.Events.drop i).length<=100000 ->
  C8 281474976710656 p m n s (i:Nat) row=some (L0 (fS n s row (p.Events.drop i))):=by
 intro m
 induction m with
 | zero=>intro i n s row h;omega
 | succ m ih =>
  intro i n s row hm hn hs hr;show JS _ _ _ _ _ _ _=_;unfold JS;rcases hd:p.Events.drop i with _ | ⟨x,r⟩
  ·have:=qC hd
   rw [yP (by omega)];rfl
  have hlt:=tZ hd;rw [hd] at hm hr;simp only [zlc] at hm hr;rw [yN (by omega),cond_true,vE hd,zbs,zBg (by omega) (by omega),zbs];simp only [fS];rcases QI (n:=n) (s:=s) (e:=x) with ⟨k1,k2⟩ | ⟨k1,k2,k3,k4,k5,L,k6,k7⟩
  ·rw [xX k1,if_pos k1];rfl
  ·obtain ⟨c1,c2,c3⟩:=LJ k3 k7;have g1:=k3.n1;have g2:=k3.s1;rw [x7 k1,if_neg (by omega),cond_false,k6,xQ (by omega),zbs,wX (by omega),ih (i+1) _ _ _ (by rw [w6 hd];omega) g1 g2 (by rw [w6 hd,zla];omega),w6 hd]
theorem zEp {l:List Int} (h:∀ x∈l,xM x) (hl:l.length<=1000):KB 281474976710656 l=some (vX l):=by
 unfold KB;have key:∀ (m i:Nat) (row:List Int),(l.drop i).length<m->row.length+10 * (l.drop i).length<=1000000->DK 281474976710656 l m (i:Nat) row=some (row++vX (l.drop i)):=by
  intro m
  induction m with
  | zero=>intro i row h;omega
  | succ m ih =>
   intro i row hm hr;show H1 _ _ _ _ _=_;unfold H1;rcases hd:l.drop i with _ | ⟨x,r⟩
   ·have:=qC hd
    rw [yP (by omega),cond_false,zAi,List.append_nil]
   have hlt:=tZ hd;rw [hd] at hm hr;simp only [zlc] at hm hr;have hv:=(kT 9 (wT x)).2;rw [yN (by omega),cond_true,vE hd,zbs,pA (h x (nQ hd)) (by omega) (by omega),zbs,wX (by omega),ih (i+1) _ (by rw [w6 hd];omega) (by rw [w6 hd,zla];omega),w6 hd,TU,List.append_assoc]
 rw [show DK 281474976710656 l 281474976710656 0 []=_ from key 281474976710656 0 [] (by simp;omega) (by simp;omega)];simp
theorem RZ {l b:List Int} (h:∀ x∈l,xM x) (hl:l.length<=1000) (hb:b.length<=900000):lI 281474976710656 b l=some (b++vX l):=by
 unfold lI;have key:∀ (m i:Nat) (row:List Int),(l.drop i).length<m->row.length+10 * (l.drop i).length<=1000000->A8 281474976710656 l m (i:Nat) row=some (row++vX (l.drop i)):=by
  intro m
  induction m with
  | zero=>intro i row h;omega
  | succ m ih =>
   intro i row hm hr;show KR _ _ _ _ _=_;unfold KR;rcases hd:l.drop i with _ | ⟨x,r⟩
   ·have:=qC hd
    rw [yP (by omega),cond_false,zAi,List.append_nil]
   have hlt:=tZ hd;rw [hd] at hm hr;simp only [zlc] at hm hr;have hv:=(kT 9 (wT x)).2;rw [yN (by omega),cond_true,vE hd,zbs,pA (h x (nQ hd)) (by omega) (by omega),zbs,wX (by omega),ih (i+1) _ (by rw [w6 hd];omega) (by rw [w6 hd,zla];omega),w6 hd,TU,List.append_assoc]
 rw [show A8 281474976710656 l 281474976710656 0 b=_ from key 281474976710656 0 b (by simp;omega) (by simp;omega)];simp
def aM (x:List Int):List Int:=vJ 9 (wT x.length)++x
def cY (n:List (List Int)):List Int:=n.flatMap aM
def dI (s:List zV):List Int:=s.flatMap fun p=>vX [p.c0,p.c1]
theorem zIR {x:List Int} (h:tC x=0):x.length<=40:=by
 unfold tC at h
 by_cases hx:x=[]\/40<x.length
 ·rw [if_pos hx] at h;cases h
 ·omega
theorem zHx {q:(List (List Int))×(List zV)×(List Int)} (hn:∀ x∈q.1,x.length<=40) (hl:q.1.length<=1000):∀ (m i:Nat) (row:List Int),(q.1.drop i).length<m->row.length+50 * (q.1.drop i).length<=200000 ->
  BQ 281474976710656 q m (i:Nat) row=some (row++cY (q.1.drop i)):=by
 intro m
 induction m with
 | zero=>intro i row h;omega
 | succ m ih =>
  intro i row hm hr;show HF _ _ _ _ _=_;unfold HF;rcases hd:q.1.drop i with _ | ⟨x,r⟩
  ·have:=qC hd
   rw [yP (by omega),cond_false];simp [cY]
  have hlt:=tZ hd;rw [hd] at hm hr;simp only [zlc] at hm hr;have hx:=hn x (nQ hd);have hv:=(kT 9 (wT x.length)).2;rw [yN (by omega),cond_true,vE hd,zbs,YJ (by omega) (by omega) (by omega),zbs,wX (by omega),ih (i+1) _ (by rw [w6 hd];omega) (by rw [w6 hd,zla,zla];omega),w6 hd];simp [cY,aM]
theorem zCv {q:(List (List Int))×(List zV)×(List Int)} (hn:∀ x∈q.2.1,xM x.c0/\xM x.c1) (hl:q.2.1.length<=1000):∀ (m i:Nat) (row:List Int),(q.2.1.drop i).length<m->row.length+20 * (q.2.1.drop i).length<=200000 ->
  DA 281474976710656 q m (i:Nat) row=some (row++dI (q.2.1.drop i)):=by
 intro m
 induction m with
 | zero=>intro i row h;omega
 | succ m ih =>
  intro i row hm hr;show GJ _ _ _ _ _=_;unfold GJ;rcases hd:q.2.1.drop i with _ | ⟨x,r⟩
  ·have:=qC hd
   rw [yP (by omega),cond_false];simp [dI]
  have hlt:=tZ hd;rw [hd] at hm hr;simp only [zlc] at hm hr;have hx:=hn x (nQ hd);have hv:=(pN [x.c0,x.c1]).2;simp only [zlc,List.length_nil] at hv;rw [yN (by omega),cond_true,vE hd,zbs,RZ (fun y hy=>by simp at hy;rcases hy with rfl | rfl;exact hx.1;exact hx.2) (by simp) (by omega),zbs,wX (by omega),ih (i+1) _ (by rw [w6 hd];omega) (by rw [w6 hd,zla];omega),w6 hd];simp [dI]
def fP (p:z7) (n:List (List Int)) (s:List zV):List Int:=vX [p.Thread,p.Serial,p.Lost,(n.length:Int)]++cY n++vX [(s.length:Int)]++dI s++vX [(p.Events.length:Int)]
def tX (p:z7):List Int×Int :=
 if t8 p≠0 then ([],t8 p) else match fS [] [] [] p.Events with
 | .inr e=>([],e)
 | .inl q=>(fP p q.1 q.2.1++q.2.2,0)
theorem SW:∀ {n:List (List Int)},(∀ x∈n,x.length<=40)->(cY n).length<=50 * n.length:=by
 intro n
 induction n with
 | nil=>intro _;simp [cY]
 | cons x r ih =>
  intro h;have h1:=ih (fun y hy=>h y (by simp [hy]));have h2:=h x (by simp);have h3:=(kT 9 (wT x.length)).2;simp only [cY,aM,List.flatMap_cons,zla,zlc] at *;omega
theorem QD:∀ {s:List zV},(dI s).length<=20 * s.length:=by
 intro s
 induction s with
 | nil=>simp [dI]
 | cons x r ih =>
  have hv:=(pN [x.c0,x.c1]).2;simp only [dI,List.flatMap_cons,zla,zlc,List.length_nil] at *;omega
theorem u0.lens {n:List (List Int)} {s:List zV} (g:u0 n s):(∀ x∈n,x.length<=40)/\(∀ x∈s,xM x.c0/\xM x.c1):=by
 refine ⟨fun x hx=>zIR (g.valid hx),fun x hx=>?_⟩;obtain ⟨i,hi⟩:=List.getElem?_of_mem hx;have hil:=(List.getElem?_eq_some_iff.1 hi).1
 have:=g.pair hi
 have h1:=g.n1;have h2:=g.s1;unfold xM;omega
theorem zAt {p:z7} (hp:t8 p=0) {k:Int} (h0:0<=k) (h1:k<=1000):∀ x∈[p.Thread,p.Serial,p.Lost,k],xM x:=by
 have:=c9 hp
 intro x hx;simp at hx;unfold xM;rcases hx with rfl | rfl | rfl | rfl<;>omega
theorem RO {p:z7} (hl:p.Events.length<=100000):iV 281474976710656 p=some (tX p):=by
 unfold iV tX;rw [SG hl,zbs]
 by_cases hp:t8 p≠0
 ·rw [xX hp,if_pos hp];rfl
 have hp0:t8 p=0:=by omega
 have hz:=c9 hp0;rw [x7 hp0,if_neg hp,cond_false,show C8 281474976710656 p 281474976710656 [] [] 0 []=_ from zGY (by omega) 281474976710656 0 [] [] [] (by simp;omega) (by simp) (by simp) (by simp;omega),zbs,zdz];rcases TL p.Events [] [] [] SY with ⟨e,h1,h2⟩ | ⟨n',s',row',q,h1,h2,h3,h4,h5,h6,h7⟩
 ·rw [h1];rfl
 ·rw [h1];simp only [L0];obtain ⟨g1,g2⟩:=h2.lens;have h8:=h2.n1;have h9:=h2.s1;have l1:=(pN [p.Thread,p.Serial,p.Lost,(n'.length:Int)]).2;have l2:=SW g1;have l3:=(pN [(s'.length:Int)]).2;have l4:=QD (s:=s');have l5:=(pN [(p.Events.length:Int)]).2;simp only [zlc,List.length_nil] at l1 l3 l5 h7;rw [zEp (zAt hp0 (by omega) (by omega)) (by simp),zbs,
   show BQ 281474976710656 (n',s',row') 281474976710656 0 (vX [p.Thread,p.Serial,p.Lost,(n'.length:Int)])=_ from zHx (q:=(n',s',row')) g1 h8 281474976710656 0 _ (by simp;omega) (by simp;omega),zbs,zdz,
   RZ (fun x hx=>by simp at hx;subst hx;unfold xM;omega) (by simp) (by rw [zla];simp only;omega),zbs,
   show DA 281474976710656 (n',s',row') 281474976710656 0 _=_ from zCv (q:=(n',s',row')) g2 h9 281474976710656 0 _ (by simp;omega) (by simp only [zdz,zla];omega),zbs,zdz,
   RZ (fun x hx=>by simp at hx;subst hx;unfold xM;omega) (by simp) (by simp only [zla];omega),zbs,xQ (by simp only [zla];omega),zbs]
  simp only [fP,List.append_assoc]
end Go.Ab
