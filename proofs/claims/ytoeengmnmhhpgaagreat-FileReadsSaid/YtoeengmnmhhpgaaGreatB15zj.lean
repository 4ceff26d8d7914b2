/- Plain laws of the functions uV this seat's, laid anew from another seat's text. No conditions but those that the theorems name. -/
import Derived.Test.YtoeengmnmhhpgaaGreatP15zxD
import Derived.Test.YtoeengmnmhhpgaaGreatB15za
import Derived.Test.YtoeengmnmhhpgaaGreatB15zb
import Derived.Test.YtoeengmnmhhpgaaGreatB15zc
import Derived.Test.YtoeengmnmhhpgaaGreatB15zd
import Derived.Test.YtoeengmnmhhpgaaGreatB15ze
import Derived.Test.YtoeengmnmhhpgaaGreatB15zf
import Derived.Test.YtoeengmnmhhpgaaGreatB15zg
import Derived.Test.YtoeengmnmhhpgaaGreatB15zh
import Derived.Test.YtoeengmnmhhpgaaGreatB15zi
namespace Go.Ab
open Go
set_option linter.unusedVariables false
theorem T8 {p:z8}:((q8 p).2≠0∧(q8 p).1=[])∨((q8 p).2=0∧qI p=0∧∃ n s q,uB n s∧i7 n s p.Events q∧(q8 p).1=lF p n s++q.flatMap vO∧(q.flatMap vO).length≤50 * p.Events.length):=by
 unfold q8
 by_cases hp:qI p≠0
 ·rw [if_pos hp];exact .inl ⟨hp,rfl⟩
 rw [if_neg hp]
 rcases NJ p.Events [] [] [] R6 with ⟨e,h1,h2⟩ | ⟨n',s',row',q,h1,h2,h3,h4,h5,h6,h7⟩
 ·rw [h1];exact .inl ⟨h2,rfl⟩
 ·rw [h1]
  refine .inr ⟨rfl,by omega,n',s',q,h2,h6,by rw [h5];rfl,?_⟩
  rw [h5] at h7;simpa using h7
theorem zDF {p:z8} {n:List (List Int)} {s:List zQ} (g:uB n s):5≤(lF p n s).length∧(lF p n s).length≤80000:=by
 have l1:=kX [p.Thread,p.Serial,p.Lost,(n.length:Int)]
 have l2:=SF (g.lens).1
 have l3:=(kX [(s.length:Int)])
 have l4:=QR (s:=s)
 have l5:=(kX [(p.Events.length:Int)])
 have h1:=g.n1
 have h2:=g.s1
 unfold lF
 simp only [List.length_cons,List.length_nil,List.length_append] at *
 omega
theorem SJ {b:List Int} (hb:∀ x∈b,x6 x) (h:(uX b).2.2=0):qI (uX b).1=0∧(q8 (uX b).1).2=0∧0<(uX b).2.1∧(uX b).2.1≤b.length∧(q8 (uX b).1).1=b.take (uX b).2.1.toNat:=by
 obtain ⟨_,_,_,_,_,_,_,_,⟨r1,r2,_⟩,_⟩:=NG hb
 unfold uX at *
 by_cases h1:dF5 b≠0
 ·rw [if_pos h1] at h;exact absurd h h1
 rw [if_neg h1] at *
 by_cases h2:(q8 (dP b)).2≠0∨(q8 (dP b)).1≠b.take (dE b).1.toNat
 ·rw [if_pos h2] at h;simp at h
 rw [if_neg h2] at *
 have e2:(q8 (dP b)).2=0:=by
  by_cases g:(q8 (dP b)).2=0
  ·exact g
  ·exact absurd (.inl g) h2
 have e1:(q8 (dP b)).1=b.take (dE b).1.toNat:=by
  by_cases g:(q8 (dP b)).1=b.take (dE b).1.toNat
  ·exact g
  ·exact absurd (.inr g) h2
 rcases T8 (p:=dP b) with ⟨h0,_⟩ | ⟨_,hp,n,s,q,g,k,h3,_⟩
 ·exact absurd e2 h0
 refine ⟨hp,e2,?_,r2,e1⟩
 have:=congrArg List.length e1
 rw [h3,List.length_append,List.length_take] at this
 have:=(zDF (p:=dP b) g).1
 simp only;omega
end Go.Ab
