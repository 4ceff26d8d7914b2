/- Plain laws of the functions wU this seat's, laid anew from another seat's text. No conditions but those that the theorems name. -/
import Derived.Test.YtoeengmnmhhpgaaP15xD
import Derived.Test.YtoeengmnmhhpgaaB15a
import Derived.Test.YtoeengmnmhhpgaaB15b
import Derived.Test.YtoeengmnmhhpgaaB15c
import Derived.Test.YtoeengmnmhhpgaaB15d
import Derived.Test.YtoeengmnmhhpgaaB15e
import Derived.Test.YtoeengmnmhhpgaaB15f
import Derived.Test.YtoeengmnmhhpgaaB15g
namespace Go.Ab
open Go
set_option linter.unusedVariables false
def dV (n:List (List Int)) (s:List zS):List y6→List (List Int)→Prop
 | [],[]=>True
 | e::r,L::q=>g6 n s e L∧dV n s r q
 | _,_=>False
theorem OG:vW [] []:=⟨by simp,by simp,rfl,rfl⟩
def bV:List (List Int)→List zS→List Int→List y6→((List (List Int))×(List zS)×(List Int))⊕Int
 | n,s,row,[]=>.inl (n,s,row)
 | n,s,row,e::r=>if (qP n s e).2.2.2≠0 then .inr (qP n s e).2.2.2 else bV (qP n s e).2.1 (qP n s e).2.2.1 (row++(qP n s e).1) r
def SX (o:((List (List Int))×(List zS)×(List Int))⊕Int):((List (List Int))×(List zS)×(List Int))⊕(List Int×Int):=match o with | .inl q=>.inl q | .inr e=>.inr ([],e)
theorem UE:∀ (l:List y6) (n:List (List Int)) (s:List zS) (row:List Int),vW n s →
  (∃ e,bV n s row l=.inr e∧e≠0)∨(∃ n' s' row' q,bV n s row l=.inl (n',s',row')∧vW n' s'∧n <+: n'∧s <+: s'∧row'=row++q.flatMap yP∧dV n' s' l q∧row'.length≤row.length+50 * l.length):=by
 intro l
 induction l with
 | nil=>intro n s row g;exact .inr ⟨n,s,row,[],rfl,g,List.prefix_refl _,List.prefix_refl _,by simp,trivial,by simp⟩
 | cons x r ih =>
  intro n s row g
  simp only [bV]
  rcases VH (n:=n) (s:=s) (e:=x) with ⟨k1,_⟩ | ⟨k1,k2,k3,k4,k5,L,k6,k7⟩
  ·rw [if_pos k1];exact .inl ⟨_,rfl,k1⟩
  ·rw [if_neg (by omega),k6]
   obtain ⟨c1,c2,c3⟩:=JT k3 k7
   rcases ih _ _ (row++yP L) k3 with ⟨e,h1,h2⟩ | ⟨n',s',row',q,h1,h2,h3,h4,h5,h6,h7⟩
   ·exact .inl ⟨e,h1,h2⟩
   ·refine .inr ⟨n',s',row',L::q,h1,h2,k4.trans h3,k5.trans h4,by rw [h5];simp,⟨k7.mono h3 h4,h6⟩,?_⟩
    rw [zla] at h7;simp only [zlc];omega
theorem YD {p:zQ} (hl:p.Events.length≤1000):∀ (m i:Nat) (n:List (List Int)) (s:List zS) (row:List Int),(p.Events.drop i).length<m→n.length≤1000→s.length≤1000→row.length+50 * (p.Events.drop i).length≤100000 →
  oI 281474976710656 p m n s (i:Nat) row=some (SX (bV n s row (p.Events.drop i))):=by
 intro m
 induction m with
 | zero=>intro i n s row h;omega
 | succ m ih =>
  intro i n s row hm hn hs hr
  show DB _ _ _ _ _ _ _=_
  unfold DB
  rcases hd:p.Events.drop i with _ | ⟨x,r⟩
  ·have:=jO hd
   rw [yO (by omega)];rfl
  have hlt:=q9 hd
  rw [hd] at hm hr
  simp only [zlc] at hm hr
  rw [yU (by omega),cond_true,vS hd,zbs,zBZ (by omega) (by omega),zbs]
  simp only [bV]
  rcases VH (n:=n) (s:=s) (e:=x) with ⟨k1,k2⟩ | ⟨k1,k2,k3,k4,k5,L,k6,k7⟩
  ·rw [wA k1,if_pos k1];rfl
  ·obtain ⟨c1,c2,c3⟩:=JT k3 k7
   have g1:=k3.n1
   have g2:=k3.s1
   rw [x8 k1,if_neg (by omega),cond_false,k6,x7 (by omega),zbs,vK (by omega),ih (i+1) _ _ _ (by rw [vN hd];omega) g1 g2 (by rw [vN hd,zla];omega),vN hd]
theorem zBH {l:List Int} (h:∀ x∈l,yS x) (hl:l.length≤1000):BI 281474976710656 l=some (yP l):=by
 unfold BI
 have key:∀ (m i:Nat) (row:List Int),(l.drop i).length<m→row.length+10 * (l.drop i).length≤1000000→rX 281474976710656 l m (i:Nat) row=some (row++yP (l.drop i)):=by
  intro m
  induction m with
  | zero=>intro i row h;omega
  | succ m ih =>
   intro i row hm hr
   show AJ _ _ _ _ _=_
   unfold AJ
   rcases hd:l.drop i with _ | ⟨x,r⟩
   ·have:=jO hd
    rw [yO (by omega),cond_false,O2,List.append_nil]
   have hlt:=q9 hd
   rw [hd] at hm hr
   simp only [zlc] at hm hr
   have hv:=(pX 9 (wF x)).2
   rw [yU (by omega),cond_true,vS hd,zbs,jK (h x (dC hd)) (by omega) (by omega),zbs,vK (by omega),ih (i+1) _ (by rw [vN hd];omega) (by rw [vN hd,zla];omega),vN hd,M6,List.append_assoc]
 rw [show rX 281474976710656 l 281474976710656 0 []=_ from key 281474976710656 0 [] (by simp;omega) (by simp;omega)];simp
theorem LY {l b:List Int} (h:∀ x∈l,yS x) (hl:l.length≤1000) (hb:b.length≤900000):iE 281474976710656 b l=some (b++yP l):=by
 unfold iE
 have key:∀ (m i:Nat) (row:List Int),(l.drop i).length<m→row.length+10 * (l.drop i).length≤1000000→mR 281474976710656 l m (i:Nat) row=some (row++yP (l.drop i)):=by
  intro m
  induction m with
  | zero=>intro i row h;omega
  | succ m ih =>
   intro i row hm hr
   show D3 _ _ _ _ _=_
   unfold D3
   rcases hd:l.drop i with _ | ⟨x,r⟩
   ·have:=jO hd
    rw [yO (by omega),cond_false,O2,List.append_nil]
   have hlt:=q9 hd
   rw [hd] at hm hr
   simp only [zlc] at hm hr
   have hv:=(pX 9 (wF x)).2
   rw [yU (by omega),cond_true,vS hd,zbs,jK (h x (dC hd)) (by omega) (by omega),zbs,vK (by omega),ih (i+1) _ (by rw [vN hd];omega) (by rw [vN hd,zla];omega),vN hd,M6,List.append_assoc]
 rw [show mR 281474976710656 l 281474976710656 0 b=_ from key 281474976710656 0 b (by simp;omega) (by simp;omega)];simp
def jZ (x:List Int):List Int:=wK 9 (wF x.length)++x
def tU (n:List (List Int)):List Int:=n.flatMap jZ
def t4 (s:List zS):List Int:=s.flatMap fun p=>yP [p.c0,p.c1]
theorem YP {x:List Int} (h:uL x=0):x.length≤40:=by
 unfold uL at h
 by_cases hx:x=[]∨40<x.length
 ·rw [if_pos hx] at h;cases h
 ·omega
theorem zBw {q:(List (List Int))×(List zS)×(List Int)} (hn:∀ x∈q.1,x.length≤40) (hl:q.1.length≤1000):∀ (m i:Nat) (row:List Int),(q.1.drop i).length<m→row.length+50 * (q.1.drop i).length≤200000 →
  mM 281474976710656 q m (i:Nat) row=some (row++tU (q.1.drop i)):=by
 intro m
 induction m with
 | zero=>intro i row h;omega
 | succ m ih =>
  intro i row hm hr
  show DN _ _ _ _ _=_
  unfold DN
  rcases hd:q.1.drop i with _ | ⟨x,r⟩
  ·have:=jO hd
   rw [yO (by omega),cond_false];simp [tU]
  have hlt:=q9 hd
  rw [hd] at hm hr
  simp only [zlc] at hm hr
  have hx:=hn x (dC hd)
  have hv:=(pX 9 (wF x.length)).2
  rw [yU (by omega),cond_true,vS hd,zbs,SB (by omega) (by omega) (by omega),zbs,vK (by omega),ih (i+1) _ (by rw [vN hd];omega) (by rw [vN hd,zla,zla];omega),vN hd]
  simp [tU,jZ]
theorem zCM {q:(List (List Int))×(List zS)×(List Int)} (hn:∀ x∈q.2.1,yS x.c0∧yS x.c1) (hl:q.2.1.length≤1000):∀ (m i:Nat) (row:List Int),(q.2.1.drop i).length<m→row.length+20 * (q.2.1.drop i).length≤200000 →
  m6 281474976710656 q m (i:Nat) row=some (row++t4 (q.2.1.drop i)):=by
 intro m
 induction m with
 | zero=>intro i row h;omega
 | succ m ih =>
  intro i row hm hr
  show DU _ _ _ _ _=_
  unfold DU
  rcases hd:q.2.1.drop i with _ | ⟨x,r⟩
  ·have:=jO hd
   rw [yO (by omega),cond_false];simp [t4]
  have hlt:=q9 hd
  rw [hd] at hm hr
  simp only [zlc] at hm hr
  have hx:=hn x (dC hd)
  have hv:=(aL [x.c0,x.c1]).2
  simp only [zlc,List.length_nil] at hv
  rw [yU (by omega),cond_true,vS hd,zbs,LY (fun y hy=>by simp at hy;rcases hy with rfl | rfl;exact hx.1;exact hx.2) (by simp) (by omega),zbs,vK (by omega),ih (i+1) _ (by rw [vN hd];omega) (by rw [vN hd,zla];omega),vN hd]
  simp [t4]
def nM (p:zQ) (n:List (List Int)) (s:List zS):List Int:=yP [p.Thread,p.Serial,p.Lost,(n.length:Int)]++tU n++yP [(s.length:Int)]++t4 s++yP [(p.Events.length:Int)]
def vP (p:zQ):List Int×Int :=
 if u3 p≠0 then ([],u3 p) else match bV [] [] [] p.Events with
 | .inr e=>([],e)
 | .inl q=>(nM p q.1 q.2.1++q.2.2,0)
theorem T4:∀ {n:List (List Int)},(∀ x∈n,x.length≤40)→(tU n).length≤50 * n.length:=by
 intro n
 induction n with
 | nil=>intro _;simp [tU]
 | cons x r ih =>
  intro h
  have h1:=ih (fun y hy=>h y (by simp [hy]))
  have h2:=h x (by simp)
  have h3:=(pX 9 (wF x.length)).2
  simp only [tU,jZ,List.flatMap_cons,zla,zlc] at *
  omega
theorem UU:∀ {s:List zS},(t4 s).length≤20 * s.length:=by
 intro s
 induction s with
 | nil=>simp [t4]
 | cons x r ih =>
  have hv:=(aL [x.c0,x.c1]).2
  simp only [t4,List.flatMap_cons,zla,zlc,List.length_nil] at *
  omega
theorem vW.lens {n:List (List Int)} {s:List zS} (g:vW n s):(∀ x∈n,x.length≤40)∧(∀ x∈s,yS x.c0∧yS x.c1):=by
 refine ⟨fun x hx=>YP (g.valid hx),fun x hx=>?_⟩
 obtain ⟨i,hi⟩:=List.getElem?_of_mem hx
 have hil:=(List.getElem?_eq_some_iff.1 hi).1
 have:=g.pair hi
 have h1:=g.n1
 have h2:=g.s1
 unfold yS;omega
theorem TU {p:zQ} (hp:u3 p=0) {k:Int} (h0:0≤k) (h1:k≤1000):∀ x∈[p.Thread,p.Serial,p.Lost,k],yS x:=by
 have:=fA hp
 intro x hx
 simp at hx
 unfold yS
 rcases hx with rfl | rfl | rfl | rfl<;>omega
theorem KK {p:zQ} (hl:p.Events.length≤100000):fJ 281474976710656 p=some (vP p):=by
 unfold fJ vP
 rw [LP hl,zbs]
 by_cases hp:u3 p≠0
 ·rw [wA hp,if_pos hp];rfl
 have hp0:u3 p=0:=by omega
 have hz:=fA hp0
 rw [x8 hp0,if_neg hp,cond_false,show oI 281474976710656 p 281474976710656 [] [] 0 []=_ from YD (by omega) 281474976710656 0 [] [] [] (by simp;omega) (by simp) (by simp) (by simp;omega),zbs,zdz]
 rcases UE p.Events [] [] [] OG with ⟨e,h1,h2⟩ | ⟨n',s',row',q,h1,h2,h3,h4,h5,h6,h7⟩
 ·rw [h1];rfl
 ·rw [h1]
  simp only [SX]
  obtain ⟨g1,g2⟩:=h2.lens
  have h8:=h2.n1
  have h9:=h2.s1
  have l1:=(aL [p.Thread,p.Serial,p.Lost,(n'.length:Int)]).2
  have l2:=T4 g1
  have l3:=(aL [(s'.length:Int)]).2
  have l4:=UU (s:=s')
  have l5:=(aL [(p.Events.length:Int)]).2
  simp only [zlc,List.length_nil] at l1 l3 l5 h7
  rw [zBH (TU hp0 (by omega) (by omega)) (by simp),zbs,
   show mM 281474976710656 (n',s',row') 281474976710656 0 (yP [p.Thread,p.Serial,p.Lost,(n'.length:Int)])=_ from zBw (q:=(n',s',row')) g1 h8 281474976710656 0 _ (by simp;omega) (by simp;omega),zbs,zdz,
   LY (fun x hx=>by simp at hx;subst hx;unfold yS;omega) (by simp) (by rw [zla];simp only;omega),zbs,
   show m6 281474976710656 (n',s',row') 281474976710656 0 _=_ from zCM (q:=(n',s',row')) g2 h9 281474976710656 0 _ (by simp;omega) (by simp only [zdz,zla];omega),zbs,zdz,
   LY (fun x hx=>by simp at hx;subst hx;unfold yS;omega) (by simp) (by simp only [zla];omega),zbs,x7 (by simp only [zla];omega),zbs]
  simp only [nM,List.append_assoc]
end Go.Ab
