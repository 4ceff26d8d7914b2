/- Plain laws of the functions uS this seat's, laid anew from another seat's text. No conditions but those that the theorems name. -/
import Derived.Test.YtoeengmnmhhpgaaGreatP15zxD
import Derived.Test.YtoeengmnmhhpgaaGreatB15za
import Derived.Test.YtoeengmnmhhpgaaGreatB15zb
import Derived.Test.YtoeengmnmhhpgaaGreatB15zc
import Derived.Test.YtoeengmnmhhpgaaGreatB15zd
import Derived.Test.YtoeengmnmhhpgaaGreatB15ze
import Derived.Test.YtoeengmnmhhpgaaGreatB15zf
import Derived.Test.YtoeengmnmhhpgaaGreatB15zg
import Derived.Test.YtoeengmnmhhpgaaGreatB15zh
import Derived.Test.YtoeengmnmhhpgaaGreatB15zi
namespace Go.Ab
open Go
set_option linter.unusedVariables false
theorem L8 {p:z7}:((tX p).2≠0/\(tX p).1=[])\/((tX p).2=0/\t8 p=0/\∃ n s q,u0 n s/\HC n s p.Events q/\(tX p).1=fP p n s++q.flatMap vX/\(q.flatMap vX).length<=50 * p.Events.length):=by
 unfold tX
 by_cases hp:t8 p≠0
 ·rw [if_pos hp];exact .inl ⟨hp,rfl⟩
 rw [if_neg hp];rcases TL p.Events [] [] [] SY with ⟨e,h1,h2⟩ | ⟨n',s',row',q,h1,h2,h3,h4,h5,h6,h7⟩
 ·rw [h1];exact .inl ⟨h2,rfl⟩
 ·rw [h1];refine .inr ⟨rfl,by omega,n',s',q,h2,h6,by rw [h5];rfl,?_⟩;rw [h5] at h7;simpa using h7
theorem zBI {p:z7} {n:List (List Int)} {s:List zV} (hp:t8 p=0) (g:u0 n s) (ht:∀ x∈n,∀ c∈x,xY c):∀ x∈fP p n s,xY x:=by
 have h1:=g.n1;have h2:=g.s1;have hz:=c9 hp;unfold fP;intro x hx;simp only [List.mem_append] at hx;rcases hx with (((hx | hx) | hx) | hx) | hx
 ·exact EE (zAt hp (by omega) (by omega)) x hx
 ·obtain ⟨y,hy,hxy⟩:=List.mem_flatMap.1 hx;unfold aM at hxy;rcases List.mem_append.1 hxy with h | h
  ·have:=(g.lens).1 y hy
   exact SU (show xM (y.length:Int) by unfold xM;omega) x h
  ·exact ht y hy x h
 ·exact EE (fun y hy=>by simp at hy;subst hy;unfold xM;omega) x hx
 ·obtain ⟨y,hy,hxy⟩:=List.mem_flatMap.1 hx;exact EE (fun z hz=>by simp at hz;rcases hz with rfl | rfl;exact ((g.lens).2 y hy).1;exact ((g.lens).2 y hy).2) x hxy
 ·exact EE (fun y hy=>by simp at hy;subst hy;unfold xM;omega) x hx
theorem WP {p:z7} {n:List (List Int)} {s:List zV} (g:u0 n s):5<=(fP p n s).length/\(fP p n s).length<=80000:=by
 have l1:=pN [p.Thread,p.Serial,p.Lost,(n.length:Int)];have l2:=SW (g.lens).1;have l3:=(pN [(s.length:Int)]);have l4:=QD (s:=s);have l5:=(pN [(p.Events.length:Int)]);have h1:=g.n1;have h2:=g.s1;unfold fP;simp only [zlc,List.length_nil,zla] at *;omega
theorem zBw {c:Int} (h:aA c=true):xY c:=by
 unfold aA at h;simp only [Bool.or_eq_true,decide_eq_true_eq] at h;unfold xY;rcases h with ((h | h) | h) | h
 ·omega
 ·omega
 ·omega
 ·unfold pO at h;simp at h;omega
theorem zBN {x:List Int} (h:tC x=0):∀ c∈x,xY c:=by
 unfold tC at h
 by_cases hx:x=[]\/40<x.length
 ·rw [if_pos hx] at h;cases h
 rw [if_neg hx] at h
 by_cases ha:x.all aA=true
 ·intro c hc;exact zBw (List.all_eq_true.1 ha c hc)
 ·rw [if_neg ha] at h;cases h
theorem Z3 {p:z7}:∀ x∈(tX p).1,xY x:=by
 rcases L8 (p:=p) with ⟨_,h⟩ | ⟨h1,h2,n,s,q,g,k,h3,h4⟩
 ·rw [h];intro x hx;cases hx
 ·rw [h3];intro x hx;rcases List.mem_append.1 hx with hx | hx
  ·exact zBI h2 g (fun y hy=>zBN (g.valid hy)) x hx
  ·have:∀ (l:List xD) (q:List (List Int)),HC n s l q->∀ x∈q.flatMap vX,xY x:=by
    intro l
    induction l with
    | nil=>intro q h x hx;cases q with
     | nil=>simp at hx
     | cons _ _=>exact absurd h (by simp [HC])
    | cons e l ih=>intro q h x hx;cases q with
     | nil=>simp at hx
     | cons L q =>
      rw [List.flatMap_cons] at hx;rcases List.mem_append.1 hx with hx | hx
      ·exact (LJ g h.1).1 x hx
      ·exact ih q h.2 x hx
   exact this _ _ k x hx
theorem S4 {b:List Int} (hb:∀ x∈b,xY x) (h:(tB b).2.2=0):t8 (tB b).1=0/\(tX (tB b).1).2=0/\0<(tB b).2.1/\(tB b).2.1<=b.length/\(tX (tB b).1).1=b.take (tB b).2.1.toNat:=by
 obtain ⟨_,_,_,_,_,_,_,_,⟨r1,r2,_⟩,_⟩:=Q9 hb;unfold tB at *
 by_cases h1:dF5 b≠0
 ·rw [if_pos h1] at h;exact absurd h h1
 rw [if_neg h1] at *
 by_cases h2:(tX (dP b)).2≠0\/(tX (dP b)).1≠b.take (dE b).1.toNat
 ·rw [if_pos h2] at h;simp at h
 rw [if_neg h2] at *;have e2:(tX (dP b)).2=0:=by
  by_cases g:(tX (dP b)).2=0
  ·exact g
  ·exact absurd (.inl g) h2
 have e1:(tX (dP b)).1=b.take (dE b).1.toNat:=by
  by_cases g:(tX (dP b)).1=b.take (dE b).1.toNat
  ·exact g
  ·exact absurd (.inr g) h2
 rcases L8 (p:=dP b) with ⟨h0,_⟩ | ⟨_,hp,n,s,q,g,k,h3,_⟩
 ·exact absurd e2 h0
 refine ⟨hp,e2,?_,r2,e1⟩
 have:=congrArg List.length e1
 rw [h3,zla,List.length_take] at this
 have:=(WP (p:=dP b) g).1
 simp only;omega
end Go.Ab
