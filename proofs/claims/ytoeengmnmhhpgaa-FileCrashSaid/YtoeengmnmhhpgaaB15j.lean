/- Plain laws of the functions wU this seat's, laid anew from another seat's text. No conditions but those that the theorems name. -/
import Derived.Test.YtoeengmnmhhpgaaP15xD
import Derived.Test.YtoeengmnmhhpgaaB15a
import Derived.Test.YtoeengmnmhhpgaaB15b
import Derived.Test.YtoeengmnmhhpgaaB15c
import Derived.Test.YtoeengmnmhhpgaaB15d
import Derived.Test.YtoeengmnmhhpgaaB15e
import Derived.Test.YtoeengmnmhhpgaaB15f
import Derived.Test.YtoeengmnmhhpgaaB15g
import Derived.Test.YtoeengmnmhhpgaaB15h
import Derived.Test.YtoeengmnmhhpgaaB15i
namespace Go.Ab
open Go
set_option linter.unusedVariables false
theorem m7 {pre post:List Int} {x:Int} (hx:yS x):vI (pre++(wK 9 (wF x)++post)) (pre.length:Int) 0=(x,((pre++wK 9 (wF x)).length:Int),0):=by
 unfold vI
 rw [if_neg (by simp),Int.toNat_natCast,List.drop_left,G7 hx]
 simp
theorem LA {pre post:List Int} {k:Nat} (hk:k≤1000):pS (pre++(wK 9 (wF (k:Int))++post)) (pre.length:Int) 0 1000=((k:Int),((pre++wK 9 (wF (k:Int))).length:Int),0):=by
 unfold pS
 rw [m7 (by unfold yS;omega),if_neg (by simp),if_neg (by simp only;omega),if_neg (by simp only;omega)]
theorem zEd {pre post x:List Int} (hx:x.length≤40):jV (pre++(jZ x++post)) (pre.length:Int) 0=(x,((pre++jZ x).length:Int),0):=by
 unfold jV
 rw [if_neg (by simp),Int.toNat_natCast,List.drop_left]
 have ht:txt (jZ x++post) 40=(x,((jZ x).length:Int),0):=by
  unfold txt jZ
  rw [List.append_assoc,G7 (show yS (x.length:Int) by unfold yS;omega)]
  simp only
  rw [if_neg (by simp),if_neg (by omega),if_neg (by omega),if_neg (by simp only [zla];omega)]
  unfold sub
  rw [show (((wK 9 (wF (x.length:Int))).length:Int)+(x.length:Int)).toNat=(wK 9 (wF (x.length:Int))++x).length by simp only [zla];omega,← List.append_assoc,List.take_left,Int.toNat_natCast,List.drop_left]
  simp
 rw [ht]
 simp
theorem V6:∀ (n:List (List Int)) (pre post:List Int) (row:List (List Int)),(∀ x∈n,x.length≤40)→cD (pre++(tU n++post)) n.length (pre.length:Int) 0 row=(((pre++tU n).length:Int),0,row++n):=by
 intro n
 induction n with
 | nil=>intro pre post row _;simp [cD,tU]
 | cons x r ih =>
  intro pre post row h
  have e:pre++(tU (x::r)++post)=pre++(jZ x++(tU r++post)):=by simp [tU]
  rw [e,zlc]
  simp only [cD]
  rw [if_neg (by simp),zEd (h x (by simp))]
  simp only
  have:=ih (pre++jZ x) post (row++[x]) (fun y hy=>h y (by simp [hy]))
  rw [List.append_assoc] at this
  rw [this]
  simp [tU]
theorem zAJ {pre post:List Int} {x:zS} (h0:yS x.c0) (h1:yS x.c1):two (pre++(yP [x.c0,x.c1]++post)) (pre.length:Int) 0=(x.c1,((pre++yP [x.c0,x.c1]).length:Int),0)∧(vI (pre++(yP [x.c0,x.c1]++post)) (pre.length:Int) 0).1=x.c0:=by
 have e:pre++(yP [x.c0,x.c1]++post)=pre++(wK 9 (wF x.c0)++(wK 9 (wF x.c1)++post)):=by simp [yP]
 have e2:pre++(wK 9 (wF x.c0)++(wK 9 (wF x.c1)++post))=(pre++wK 9 (wF x.c0))++(wK 9 (wF x.c1)++post):=by simp
 unfold two
 rw [e,m7 h0]
 refine ⟨?_,rfl⟩
 simp only
 rw [e2,m7 h1]
 simp [yP]
theorem zDA:∀ (s:List zS) (pre post:List Int) (row:List zS),(∀ x∈s,yS x.c0∧yS x.c1)→b7 (pre++(t4 s++post)) s.length (pre.length:Int) 0 row=(((pre++t4 s).length:Int),0,row++s):=by
 intro s
 induction s with
 | nil=>intro pre post row _;simp [b7,t4]
 | cons x r ih =>
  intro pre post row h
  have e:pre++(t4 (x::r)++post)=pre++(yP [x.c0,x.c1]++(t4 r++post)):=by simp [t4]
  obtain ⟨h1,h2⟩:=zAJ (pre:=pre) (post:=t4 r++post) (h x (by simp)).1 (h x (by simp)).2
  rw [e,zlc]
  simp only [b7]
  rw [if_neg (by simp),h1,h2]
  simp only
  have:=ih (pre++yP [x.c0,x.c1]) post (row++[⟨x.c0,x.c1⟩]) (fun y hy=>h y (by simp [hy]))
  rw [List.append_assoc] at this
  rw [this]
  simp [t4]
theorem ZU {n:List (List Int)} {s:List zS} (g:vW n s):∀ (l:List y6) (q:List (List Int)) (pre post:List Int) (row:List y6),dV n s l q→aR n s (pre++(q.flatMap yP++post)) l.length (pre.length:Int) 0 row=(((pre++q.flatMap yP).length:Int),0,row++l):=by
 intro l
 induction l with
 | nil =>
  intro q pre post row h
  cases q with
  | nil=>simp [aR]
  | cons _ _=>exact absurd h (by simp [dV])
 | cons x r ih =>
  intro q pre post row h
  cases q with
  | nil=>exact absurd h (by simp [dV])
  | cons L q =>
   have e:pre++((L::q).flatMap yP++post)=pre++(yP L++(q.flatMap yP++post)):=by simp
   rw [e,zlc]
   simp only [aR]
   rw [if_neg (by simp),Int.toNat_natCast,List.drop_left,zEi g h.1]
   simp only
   have:=ih q (pre++yP L) post (row++[x]) h.2
   rw [List.append_assoc,zla] at this
   rw [← Int.natCast_add,this]
   simp
theorem ET {p:zQ}:((vP p).2≠0∧(vP p).1=[])∨((vP p).2=0∧u3 p=0∧∃ n s q,vW n s∧dV n s p.Events q∧(vP p).1=nM p n s++q.flatMap yP∧(q.flatMap yP).length≤50 * p.Events.length):=by
 unfold vP
 by_cases hp:u3 p≠0
 ·rw [if_pos hp];exact .inl ⟨hp,rfl⟩
 rw [if_neg hp]
 rcases UE p.Events [] [] [] OG with ⟨e,h1,h2⟩ | ⟨n',s',row',q,h1,h2,h3,h4,h5,h6,h7⟩
 ·rw [h1];exact .inl ⟨h2,rfl⟩
 ·rw [h1]
  refine .inr ⟨rfl,by omega,n',s',q,h2,h6,by rw [h5];rfl,?_⟩
  rw [h5] at h7;simpa using h7
theorem zEx {p:zQ} {n:List (List Int)} {s:List zS} (hp:u3 p=0) (g:vW n s) (ht:∀ x∈n,∀ c∈x,xO c):∀ x∈nM p n s,xO x:=by
 have h1:=g.n1
 have h2:=g.s1
 have hz:=fA hp
 unfold nM
 intro x hx
 simp only [List.mem_append] at hx
 rcases hx with (((hx | hx) | hx) | hx) | hx
 ·exact B0 (TU hp (by omega) (by omega)) x hx
 ·obtain ⟨y,hy,hxy⟩:=List.mem_flatMap.1 hx
  unfold jZ at hxy
  rcases List.mem_append.1 hxy with h | h
  ·have:=(g.lens).1 y hy
   exact AH (show yS (y.length:Int) by unfold yS;omega) x h
  ·exact ht y hy x h
 ·exact B0 (fun y hy=>by simp at hy;subst hy;unfold yS;omega) x hx
 ·obtain ⟨y,hy,hxy⟩:=List.mem_flatMap.1 hx
  exact B0 (fun z hz=>by simp at hz;rcases hz with rfl | rfl;exact ((g.lens).2 y hy).1;exact ((g.lens).2 y hy).2) x hxy
 ·exact B0 (fun y hy=>by simp at hy;subst hy;unfold yS;omega) x hx
theorem QD {p:zQ} {n:List (List Int)} {s:List zS} (g:vW n s):5≤(nM p n s).length∧(nM p n s).length≤80000:=by
 have l1:=aL [p.Thread,p.Serial,p.Lost,(n.length:Int)]
 have l2:=T4 (g.lens).1
 have l3:=(aL [(s.length:Int)])
 have l4:=UU (s:=s)
 have l5:=(aL [(p.Events.length:Int)])
 have h1:=g.n1
 have h2:=g.s1
 unfold nM
 simp only [zlc,List.length_nil,zla] at *
 omega
theorem zBo {c:Int} (h:bD c=true):xO c:=by
 unfold bD at h
 simp only [Bool.or_eq_true,decide_eq_true_eq] at h
 unfold xO
 rcases h with ((h | h) | h) | h
 ·omega
 ·omega
 ·omega
 ·unfold lE at h;simp at h;omega
theorem zAR {x:List Int} (h:uL x=0):∀ c∈x,xO c:=by
 unfold uL at h
 by_cases hx:x=[]∨40<x.length
 ·rw [if_pos hx] at h;cases h
 rw [if_neg hx] at h
 by_cases ha:x.all bD=true
 ·intro c hc;exact zBo (List.all_eq_true.1 ha c hc)
 ·rw [if_neg ha] at h;cases h
theorem QR {p:zQ}:∀ x∈(vP p).1,xO x:=by
 rcases ET (p:=p) with ⟨_,h⟩ | ⟨h1,h2,n,s,q,g,k,h3,h4⟩
 ·rw [h];intro x hx;cases hx
 ·rw [h3]
  intro x hx
  rcases List.mem_append.1 hx with hx | hx
  ·exact zEx h2 g (fun y hy=>zAR (g.valid hy)) x hx
  ·have:∀ (l:List y6) (q:List (List Int)),dV n s l q→∀ x∈q.flatMap yP,xO x:=by
    intro l
    induction l with
    | nil=>intro q h x hx;cases q with
     | nil=>simp at hx
     | cons _ _=>exact absurd h (by simp [dV])
    | cons e l ih=>intro q h x hx;cases q with
     | nil=>simp at hx
     | cons L q =>
      rw [List.flatMap_cons] at hx
      rcases List.mem_append.1 hx with hx | hx
      ·exact (JT g h.1).1 x hx
      ·exact ih q h.2 x hx
   exact this _ _ k x hx
theorem ZE {p:zQ} {more:List Int} (h:(vP p).2=0):uW ((vP p).1++more)=(p,((vP p).1.length:Int),0):=by
 rcases ET (p:=p) with ⟨h0,_⟩ | ⟨_,hp,n,s,q,g,k,h3,_⟩
 ·exact absurd h h0
 have hz:=fA hp
 have h1:=g.n1
 have h2:=g.s1
 obtain ⟨g1,g2⟩:=g.lens
 generalize hB:(vP p).1++more=B
 have eB:B=yP [p.Thread,p.Serial,p.Lost,(n.length:Int)]++(tU n++(yP [(s.length:Int)]++(t4 s++(yP [(p.Events.length:Int)]++(q.flatMap yP++more))))):=by rw [← hB,h3];simp [nM]
 have i0:yS p.Thread∧yS p.Serial∧yS p.Lost:=by unfold yS;omega
 have tT:dT B=(p.Thread,((yP [p.Thread]).length:Int),0):=by
  have:=m7 (pre:=[]) (post:=yP [p.Serial,p.Lost,(n.length:Int)]++(tU n++(yP [(s.length:Int)]++(t4 s++(yP [(p.Events.length:Int)]++(q.flatMap yP++more)))))) i0.1
  unfold dT;rw [eB];simpa [yP] using this
 have tS:dS B=(p.Serial,((yP [p.Thread,p.Serial]).length:Int),0):=by
  have:=m7 (pre:=yP [p.Thread]) (post:=yP [p.Lost,(n.length:Int)]++(tU n++(yP [(s.length:Int)]++(t4 s++(yP [(p.Events.length:Int)]++(q.flatMap yP++more)))))) i0.2.1
  unfold dS;rw [tT,eB];simpa [yP] using this
 have tL:dL B=(p.Lost,((yP [p.Thread,p.Serial,p.Lost]).length:Int),0):=by
  have:=m7 (pre:=yP [p.Thread,p.Serial]) (post:=yP [(n.length:Int)]++(tU n++(yP [(s.length:Int)]++(t4 s++(yP [(p.Events.length:Int)]++(q.flatMap yP++more)))))) i0.2.2
  unfold dL;rw [tS,eB];simpa [yP] using this
 have tC1:dC1 B=((n.length:Int),((yP [p.Thread,p.Serial,p.Lost,(n.length:Int)]).length:Int),0):=by
  have:=LA (pre:=yP [p.Thread,p.Serial,p.Lost]) (k:=n.length) (post:=(tU n++(yP [(s.length:Int)]++(t4 s++(yP [(p.Events.length:Int)]++(q.flatMap yP++more)))))) h1
  unfold dC1;rw [tL,eB];simpa [yP] using this
 have tN:dN B=(((yP [p.Thread,p.Serial,p.Lost,(n.length:Int)]++tU n).length:Int),0,n):=by
  have:=V6 n (yP [p.Thread,p.Serial,p.Lost,(n.length:Int)]) (yP [(s.length:Int)]++(t4 s++(yP [(p.Events.length:Int)]++(q.flatMap yP++more)))) [] g1
  unfold dN;rw [tC1,eB];simp only [Int.toNat_natCast];exact this
 have tC2:dC2 B=((s.length:Int),((yP [p.Thread,p.Serial,p.Lost,(n.length:Int)]++tU n++yP [(s.length:Int)]).length:Int),0):=by
  have:=LA (pre:=yP [p.Thread,p.Serial,p.Lost,(n.length:Int)]++tU n) (k:=s.length) (post:=(t4 s++(yP [(p.Events.length:Int)]++(q.flatMap yP++more)))) h2
  have e1:yP [(s.length:Int)]=wK 9 (wF (s.length:Int)):=by simp [yP]
  unfold dC2;rw [tN,eB,e1]
  simp only [List.append_assoc] at this ⊢
  exact this
 have tSt:dSt B=(((yP [p.Thread,p.Serial,p.Lost,(n.length:Int)]++tU n++yP [(s.length:Int)]++t4 s).length:Int),0,s):=by
  have:=zDA s (yP [p.Thread,p.Serial,p.Lost,(n.length:Int)]++tU n++yP [(s.length:Int)]) (yP [(p.Events.length:Int)]++(q.flatMap yP++more)) [] g2
  unfold dSt;rw [tC2,eB];simp only [Int.toNat_natCast]
  simp only [List.append_assoc,List.nil_append] at this ⊢
  exact this
 have tF3:dF3 B=0:=by unfold dF3;rw [tSt,tN,if_pos rfl];exact GG.2 g
 have tC3:dC3 B=((p.Events.length:Int),((nM p n s).length:Int),0):=by
  have:=LA (pre:=yP [p.Thread,p.Serial,p.Lost,(n.length:Int)]++tU n++yP [(s.length:Int)]++t4 s) (k:=p.Events.length) (post:=(q.flatMap yP++more)) hz.2.2.2.2.2.2.2.1
  have e1:yP [(p.Events.length:Int)]=wK 9 (wF (p.Events.length:Int)):=by simp [yP]
  unfold dC3;rw [tSt,tF3,eB]
  unfold nM
  rw [e1]
  simp only [List.append_assoc] at this ⊢
  exact this
 have tE:dE B=(((vP p).1.length:Int),0,p.Events):=by
  have:=ZU g p.Events q (nM p n s) more [] k
  unfold dE;rw [tC3,tN,tSt,h3];simp only [Int.toNat_natCast]
  have e2:B=nM p n s++(q.flatMap yP++more):=by rw [← hB,h3,List.append_assoc]
  rw [e2];exact this
 have tP:dP B=p:=by unfold dP;rw [tT,tS,tL,tE]
 have tF5:dF5 B=0:=by unfold dF5;rw [tE,if_pos rfl,tP];exact hp
 unfold uW
 rw [if_neg (by omega),tP,tE,if_neg]
 rintro (hc | hc)
 ·exact hc h
 ·apply hc
  rw [← hB,Int.toNat_natCast,List.take_left]
theorem Q1 {b:List Int} (hb:∀ x∈b,xO x) (h:(uW b).2.2=0):u3 (uW b).1=0∧(vP (uW b).1).2=0∧0<(uW b).2.1∧(uW b).2.1≤b.length∧(vP (uW b).1).1=b.take (uW b).2.1.toNat:=by
 obtain ⟨_,_,_,_,_,_,_,_,⟨r1,r2,_⟩,_⟩:=QA hb
 unfold uW at *
 by_cases h1:dF5 b≠0
 ·rw [if_pos h1] at h;exact absurd h h1
 rw [if_neg h1] at *
 by_cases h2:(vP (dP b)).2≠0∨(vP (dP b)).1≠b.take (dE b).1.toNat
 ·rw [if_pos h2] at h;simp at h
 rw [if_neg h2] at *
 have e2:(vP (dP b)).2=0:=by
  by_cases g:(vP (dP b)).2=0
  ·exact g
  ·exact absurd (.inl g) h2
 have e1:(vP (dP b)).1=b.take (dE b).1.toNat:=by
  by_cases g:(vP (dP b)).1=b.take (dE b).1.toNat
  ·exact g
  ·exact absurd (.inr g) h2
 rcases ET (p:=dP b) with ⟨h0,_⟩ | ⟨_,hp,n,s,q,g,k,h3,_⟩
 ·exact absurd e2 h0
 refine ⟨hp,e2,?_,r2,e1⟩
 have:=congrArg List.length e1
 rw [h3,zla,List.length_take] at this
 have:=(QD (p:=dP b) g).1
 simp only;omega
end Go.Ab
