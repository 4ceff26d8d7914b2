/- Plain laws of the functions w6 this seat's, laid anew from another seat's text. No conditions but those that the theorems name. -/
import Derived.Test.YtoeengmnmhhpgaaP15xD
import Derived.Test.YtoeengmnmhhpgaaB15a
import Derived.Test.YtoeengmnmhhpgaaB15b
import Derived.Test.YtoeengmnmhhpgaaB15c
import Derived.Test.YtoeengmnmhhpgaaB15d
import Derived.Test.YtoeengmnmhhpgaaB15e
import Derived.Test.YtoeengmnmhhpgaaB15f
import Derived.Test.YtoeengmnmhhpgaaB15g
import Derived.Test.YtoeengmnmhhpgaaB15h
import Derived.Test.YtoeengmnmhhpgaaB15i
namespace Go.Ab
open Go
set_option linter.unusedVariables false
theorem o5 {pre post:List Int} {x:Int} (hx:yU x):vM (pre++(wI 9 (wB x)++post)) (pre.length:Int) 0=(x,((pre++wI 9 (wB x)).length:Int),0):=by
 unfold vM
 rw [if_neg (by simp),Int.toNat_natCast,List.drop_left,GS hx]
 simp
theorem KF {pre post:List Int} {k:Nat} (hk:k≤1000):pE (pre++(wI 9 (wB (k:Int))++post)) (pre.length:Int) 0 1000=((k:Int),((pre++wI 9 (wB (k:Int))).length:Int),0):=by
 unfold pE
 rw [o5 (by unfold yU;omega),if_neg (by simp),if_neg (by simp only;omega),if_neg (by simp only;omega)]
theorem zCC {pre post x:List Int} (hx:x.length≤40):j8 (pre++(j7 x++post)) (pre.length:Int) 0=(x,((pre++j7 x).length:Int),0):=by
 unfold j8
 rw [if_neg (by simp),Int.toNat_natCast,List.drop_left]
 have ht:txt (j7 x++post) 40=(x,((j7 x).length:Int),0):=by
  unfold txt j7
  rw [List.append_assoc,GS (show yU (x.length:Int) by unfold yU;omega)]
  simp only
  rw [if_neg (by simp),if_neg (by omega),if_neg (by omega),if_neg (by simp only [zla];omega)]
  unfold sub
  rw [show (((wI 9 (wB (x.length:Int))).length:Int)+(x.length:Int)).toNat=(wI 9 (wB (x.length:Int))++x).length by simp only [zla];omega,← List.append_assoc,List.take_left,Int.toNat_natCast,List.drop_left]
  simp
 rw [ht]
 simp
theorem WA:∀ (n:List (List Int)) (pre post:List Int) (row:List (List Int)),(∀ x∈n,x.length≤40)→bD (pre++(tY n++post)) n.length (pre.length:Int) 0 row=(((pre++tY n).length:Int),0,row++n):=by
 intro n
 induction n with
 | nil=>intro pre post row _;simp [bD,tY]
 | cons x r ih =>
  intro pre post row h
  have e:pre++(tY (x::r)++post)=pre++(j7 x++(tY r++post)):=by simp [tY]
  rw [e,zlc]
  simp only [bD]
  rw [if_neg (by simp),zCC (h x (by simp))]
  simp only
  have:=ih (pre++j7 x) post (row++[x]) (fun y hy=>h y (by simp [hy]))
  rw [List.append_assoc] at this
  rw [this]
  simp [tY]
theorem YR {pre post:List Int} {x:zT} (h0:yU x.c0) (h1:yU x.c1):two (pre++(yQ [x.c0,x.c1]++post)) (pre.length:Int) 0=(x.c1,((pre++yQ [x.c0,x.c1]).length:Int),0)∧(vM (pre++(yQ [x.c0,x.c1]++post)) (pre.length:Int) 0).1=x.c0:=by
 have e:pre++(yQ [x.c0,x.c1]++post)=pre++(wI 9 (wB x.c0)++(wI 9 (wB x.c1)++post)):=by simp [yQ]
 have e2:pre++(wI 9 (wB x.c0)++(wI 9 (wB x.c1)++post))=(pre++wI 9 (wB x.c0))++(wI 9 (wB x.c1)++post):=by simp
 unfold two
 rw [e,o5 h0]
 refine ⟨?_,rfl⟩
 simp only
 rw [e2,o5 h1]
 simp [yQ]
theorem zA2:∀ (s:List zT) (pre post:List Int) (row:List zT),(∀ x∈s,yU x.c0∧yU x.c1)→bU (pre++(t7 s++post)) s.length (pre.length:Int) 0 row=(((pre++t7 s).length:Int),0,row++s):=by
 intro s
 induction s with
 | nil=>intro pre post row _;simp [bU,t7]
 | cons x r ih =>
  intro pre post row h
  have e:pre++(t7 (x::r)++post)=pre++(yQ [x.c0,x.c1]++(t7 r++post)):=by simp [t7]
  obtain ⟨h1,h2⟩:=YR (pre:=pre) (post:=t7 r++post) (h x (by simp)).1 (h x (by simp)).2
  rw [e,zlc]
  simp only [bU]
  rw [if_neg (by simp),h1,h2]
  simp only
  have:=ih (pre++yQ [x.c0,x.c1]) post (row++[⟨x.c0,x.c1⟩]) (fun y hy=>h y (by simp [hy]))
  rw [List.append_assoc] at this
  rw [this]
  simp [t7]
theorem WH {n:List (List Int)} {s:List zT} (g:vX n s):∀ (l:List xA) (q:List (List Int)) (pre post:List Int) (row:List xA),fF n s l q→aD n s (pre++(q.flatMap yQ++post)) l.length (pre.length:Int) 0 row=(((pre++q.flatMap yQ).length:Int),0,row++l):=by
 intro l
 induction l with
 | nil =>
  intro q pre post row h
  cases q with
  | nil=>simp [aD]
  | cons _ _=>exact absurd h (by simp [fF])
 | cons x r ih =>
  intro q pre post row h
  cases q with
  | nil=>exact absurd h (by simp [fF])
  | cons L q =>
   have e:pre++((L::q).flatMap yQ++post)=pre++(yQ L++(q.flatMap yQ++post)):=by simp
   rw [e,zlc]
   simp only [aD]
   rw [if_neg (by simp),Int.toNat_natCast,List.drop_left,Z6 g h.1]
   simp only
   have:=ih q (pre++yQ L) post (row++[x]) h.2
   rw [List.append_assoc,zla] at this
   rw [← Int.natCast_add,this]
   simp
theorem GL {p:zQ}:((vU p).2≠0∧(vU p).1=[])∨((vU p).2=0∧tU p=0∧∃ n s q,vX n s∧fF n s p.Events q∧(vU p).1=nP p n s++q.flatMap yQ∧(q.flatMap yQ).length≤50 * p.Events.length):=by
 unfold vU
 by_cases hp:tU p≠0
 ·rw [if_pos hp];exact .inl ⟨hp,rfl⟩
 rw [if_neg hp]
 rcases S9 p.Events [] [] [] TH with ⟨e,h1,h2⟩ | ⟨n',s',row',q,h1,h2,h3,h4,h5,h6,h7⟩
 ·rw [h1];exact .inl ⟨h2,rfl⟩
 ·rw [h1]
  refine .inr ⟨rfl,by omega,n',s',q,h2,h6,by rw [h5];rfl,?_⟩
  rw [h5] at h7;simpa using h7
theorem YX {p:zQ} {n:List (List Int)} {s:List zT} (hp:tU p=0) (g:vX n s) (ht:∀ x∈n,∀ c∈x,xO c):∀ x∈nP p n s,xO x:=by
 have h1:=g.n1
 have h2:=g.s1
 have hz:=fB hp
 unfold nP
 intro x hx
 simp only [List.mem_append] at hx
 rcases hx with (((hx | hx) | hx) | hx) | hx
 ·exact BO (UB hp (by omega) (by omega)) x hx
 ·obtain ⟨y,hy,hxy⟩:=List.mem_flatMap.1 hx
  unfold j7 at hxy
  rcases List.mem_append.1 hxy with h | h
  ·have:=(g.lens).1 y hy
   exact C1 (show yU (y.length:Int) by unfold yU;omega) x h
  ·exact ht y hy x h
 ·exact BO (fun y hy=>by simp at hy;subst hy;unfold yU;omega) x hx
 ·obtain ⟨y,hy,hxy⟩:=List.mem_flatMap.1 hx
  exact BO (fun z hz=>by simp at hz;rcases hz with rfl | rfl;exact ((g.lens).2 y hy).1;exact ((g.lens).2 y hy).2) x hxy
 ·exact BO (fun y hy=>by simp at hy;subst hy;unfold yU;omega) x hx
theorem UN {p:zQ} {n:List (List Int)} {s:List zT} (g:vX n s):5≤(nP p n s).length∧(nP p n s).length≤80000:=by
 have l1:=aG [p.Thread,p.Serial,p.Lost,(n.length:Int)]
 have l2:=QR (g.lens).1
 have l3:=(aG [(s.length:Int)])
 have l4:=R5 (s:=s)
 have l5:=(aG [(p.Events.length:Int)])
 have h1:=g.n1
 have h2:=g.s1
 unfold nP
 simp only [zlc,List.length_nil,zla] at *
 omega
theorem zAb {c:Int} (h:aZ c=true):xO c:=by
 unfold aZ at h
 simp only [Bool.or_eq_true,decide_eq_true_eq] at h
 unfold xO
 rcases h with ((h | h) | h) | h
 ·omega
 ·omega
 ·omega
 ·unfold gB at h;simp at h;omega
theorem zD0 {x:List Int} (h:uO x=0):∀ c∈x,xO c:=by
 unfold uO at h
 by_cases hx:x=[]∨40<x.length
 ·rw [if_pos hx] at h;cases h
 rw [if_neg hx] at h
 by_cases ha:x.all aZ=true
 ·intro c hc;exact zAb (List.all_eq_true.1 ha c hc)
 ·rw [if_neg ha] at h;cases h
theorem VC {p:zQ}:∀ x∈(vU p).1,xO x:=by
 rcases GL (p:=p) with ⟨_,h⟩ | ⟨h1,h2,n,s,q,g,k,h3,h4⟩
 ·rw [h];intro x hx;cases hx
 ·rw [h3]
  intro x hx
  rcases List.mem_append.1 hx with hx | hx
  ·exact YX h2 g (fun y hy=>zD0 (g.valid hy)) x hx
  ·have:∀ (l:List xA) (q:List (List Int)),fF n s l q→∀ x∈q.flatMap yQ,xO x:=by
    intro l
    induction l with
    | nil=>intro q h x hx;cases q with
     | nil=>simp at hx
     | cons _ _=>exact absurd h (by simp [fF])
    | cons e l ih=>intro q h x hx;cases q with
     | nil=>simp at hx
     | cons L q =>
      rw [List.flatMap_cons] at hx
      rcases List.mem_append.1 hx with hx | hx
      ·exact (M3 g h.1).1 x hx
      ·exact ih q h.2 x hx
   exact this _ _ k x hx
theorem zCa {p:zQ} {more:List Int} (h:(vU p).2=0):uY ((vU p).1++more)=(p,((vU p).1.length:Int),0):=by
 rcases GL (p:=p) with ⟨h0,_⟩ | ⟨_,hp,n,s,q,g,k,h3,_⟩
 ·exact absurd h h0
 have hz:=fB hp
 have h1:=g.n1
 have h2:=g.s1
 obtain ⟨g1,g2⟩:=g.lens
 generalize hB:(vU p).1++more=B
 have eB:B=yQ [p.Thread,p.Serial,p.Lost,(n.length:Int)]++(tY n++(yQ [(s.length:Int)]++(t7 s++(yQ [(p.Events.length:Int)]++(q.flatMap yQ++more))))):=by rw [← hB,h3];simp [nP]
 have i0:yU p.Thread∧yU p.Serial∧yU p.Lost:=by unfold yU;omega
 have tT:dT B=(p.Thread,((yQ [p.Thread]).length:Int),0):=by
  have:=o5 (pre:=[]) (post:=yQ [p.Serial,p.Lost,(n.length:Int)]++(tY n++(yQ [(s.length:Int)]++(t7 s++(yQ [(p.Events.length:Int)]++(q.flatMap yQ++more)))))) i0.1
  unfold dT;rw [eB];simpa [yQ] using this
 have tS:dS B=(p.Serial,((yQ [p.Thread,p.Serial]).length:Int),0):=by
  have:=o5 (pre:=yQ [p.Thread]) (post:=yQ [p.Lost,(n.length:Int)]++(tY n++(yQ [(s.length:Int)]++(t7 s++(yQ [(p.Events.length:Int)]++(q.flatMap yQ++more)))))) i0.2.1
  unfold dS;rw [tT,eB];simpa [yQ] using this
 have tL:dL B=(p.Lost,((yQ [p.Thread,p.Serial,p.Lost]).length:Int),0):=by
  have:=o5 (pre:=yQ [p.Thread,p.Serial]) (post:=yQ [(n.length:Int)]++(tY n++(yQ [(s.length:Int)]++(t7 s++(yQ [(p.Events.length:Int)]++(q.flatMap yQ++more)))))) i0.2.2
  unfold dL;rw [tS,eB];simpa [yQ] using this
 have tC1:dC1 B=((n.length:Int),((yQ [p.Thread,p.Serial,p.Lost,(n.length:Int)]).length:Int),0):=by
  have:=KF (pre:=yQ [p.Thread,p.Serial,p.Lost]) (k:=n.length) (post:=(tY n++(yQ [(s.length:Int)]++(t7 s++(yQ [(p.Events.length:Int)]++(q.flatMap yQ++more)))))) h1
  unfold dC1;rw [tL,eB];simpa [yQ] using this
 have tN:dN B=(((yQ [p.Thread,p.Serial,p.Lost,(n.length:Int)]++tY n).length:Int),0,n):=by
  have:=WA n (yQ [p.Thread,p.Serial,p.Lost,(n.length:Int)]) (yQ [(s.length:Int)]++(t7 s++(yQ [(p.Events.length:Int)]++(q.flatMap yQ++more)))) [] g1
  unfold dN;rw [tC1,eB];simp only [Int.toNat_natCast];exact this
 have tC2:dC2 B=((s.length:Int),((yQ [p.Thread,p.Serial,p.Lost,(n.length:Int)]++tY n++yQ [(s.length:Int)]).length:Int),0):=by
  have:=KF (pre:=yQ [p.Thread,p.Serial,p.Lost,(n.length:Int)]++tY n) (k:=s.length) (post:=(t7 s++(yQ [(p.Events.length:Int)]++(q.flatMap yQ++more)))) h2
  have e1:yQ [(s.length:Int)]=wI 9 (wB (s.length:Int)):=by simp [yQ]
  unfold dC2;rw [tN,eB,e1]
  simp only [List.append_assoc] at this ⊢
  exact this
 have tSt:dSt B=(((yQ [p.Thread,p.Serial,p.Lost,(n.length:Int)]++tY n++yQ [(s.length:Int)]++t7 s).length:Int),0,s):=by
  have:=zA2 s (yQ [p.Thread,p.Serial,p.Lost,(n.length:Int)]++tY n++yQ [(s.length:Int)]) (yQ [(p.Events.length:Int)]++(q.flatMap yQ++more)) [] g2
  unfold dSt;rw [tC2,eB];simp only [Int.toNat_natCast]
  simp only [List.append_assoc,List.nil_append] at this ⊢
  exact this
 have tF3:dF3 B=0:=by unfold dF3;rw [tSt,tN,if_pos rfl];exact G1.2 g
 have tC3:dC3 B=((p.Events.length:Int),((nP p n s).length:Int),0):=by
  have:=KF (pre:=yQ [p.Thread,p.Serial,p.Lost,(n.length:Int)]++tY n++yQ [(s.length:Int)]++t7 s) (k:=p.Events.length) (post:=(q.flatMap yQ++more)) hz.2.2.2.2.2.2.2.1
  have e1:yQ [(p.Events.length:Int)]=wI 9 (wB (p.Events.length:Int)):=by simp [yQ]
  unfold dC3;rw [tSt,tF3,eB]
  unfold nP
  rw [e1]
  simp only [List.append_assoc] at this ⊢
  exact this
 have tE:dE B=(((vU p).1.length:Int),0,p.Events):=by
  have:=WH g p.Events q (nP p n s) more [] k
  unfold dE;rw [tC3,tN,tSt,h3];simp only [Int.toNat_natCast]
  have e2:B=nP p n s++(q.flatMap yQ++more):=by rw [← hB,h3,List.append_assoc]
  rw [e2];exact this
 have tP:dP B=p:=by unfold dP;rw [tT,tS,tL,tE]
 have tF5:dF5 B=0:=by unfold dF5;rw [tE,if_pos rfl,tP];exact hp
 unfold uY
 rw [if_neg (by omega),tP,tE,if_neg]
 rintro (hc | hc)
 ·exact hc h
 ·apply hc
  rw [← hB,Int.toNat_natCast,List.take_left]
theorem UP {b:List Int} (hb:∀ x∈b,xO x) (h:(uY b).2.2=0):tU (uY b).1=0∧(vU (uY b).1).2=0∧0<(uY b).2.1∧(uY b).2.1≤b.length∧(vU (uY b).1).1=b.take (uY b).2.1.toNat:=by
 obtain ⟨_,_,_,_,_,_,_,_,⟨r1,r2,_⟩,_⟩:=QT hb
 unfold uY at *
 by_cases h1:dF5 b≠0
 ·rw [if_pos h1] at h;exact absurd h h1
 rw [if_neg h1] at *
 by_cases h2:(vU (dP b)).2≠0∨(vU (dP b)).1≠b.take (dE b).1.toNat
 ·rw [if_pos h2] at h;simp at h
 rw [if_neg h2] at *
 have e2:(vU (dP b)).2=0:=by
  by_cases g:(vU (dP b)).2=0
  ·exact g
  ·exact absurd (.inl g) h2
 have e1:(vU (dP b)).1=b.take (dE b).1.toNat:=by
  by_cases g:(vU (dP b)).1=b.take (dE b).1.toNat
  ·exact g
  ·exact absurd (.inr g) h2
 rcases GL (p:=dP b) with ⟨h0,_⟩ | ⟨_,hp,n,s,q,g,k,h3,_⟩
 ·exact absurd e2 h0
 refine ⟨hp,e2,?_,r2,e1⟩
 have:=congrArg List.length e1
 rw [h3,zla,List.length_take] at this
 have:=(UN (p:=dP b) g).1
 simp only;omega
end Go.Ab
