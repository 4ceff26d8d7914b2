/- Plain laws of the functions tL this seat's, laid anew from another seat's text. No conditions but those that the theorems name. -/
import Derived.Test.YtdpgdpjoemdkjaaP10xD
import Derived.Test.YtdpgdpjoemdkjaaB10a
import Derived.Test.YtdpgdpjoemdkjaaB10h
import Derived.Test.YtdpgdpjoemdkjaaB10i
namespace Go.Ab
open Go
set_option linter.unusedVariables false
theorem zRI (b:List Int):w9 9 (wM (b.length:Int))++b=fr b:=rfl
def x5 (r:zW):Int:=(r.Data.length:Int) - (r.End - r.Start)
def uY (r:zW) (b:List Int):Int:=if (y7 r).2≠0 then (y7 r).2 else if b.length>2000∨(fr b).length>r.Data.length then 7
 else if r.Policy=2∧((fr b).length:Int)>x5 r then 6 else if r.End+(fr b).length>1000000000000000∨r.Next≥1000000000000000 then 2 else 0
def uX (r:zW) (b:List Int):Nat:=kK (fr b).length (x5 r) (y7 r).1
def qY (r:zW) (b:List Int):zW:=⟨r.Policy,wrt r.Data (r.End.toNat % r.Data.length) (fr b),r.Start+(wJ ((y7 r).1.take (uX r b))).length,r.End+(fr b).length,r.First+uX r b,r.Next+1⟩
def qX (r:zW) (b:List Int):zW×Int×Int:=if uY r b≠0 then (r,0,uY r b) else (qY r b,uX r b,0)
structure zG6 (r:zW) (b:List Int):Prop where
 g:zFa r
 pol:¬jL r
 recs:∀ x∈(y7 r).1,zAx x
 cat:vL r=wJ (y7 r).1
 cnt:((y7 r).1.length:Int)=r.Next - r.First
theorem zK8 {r:zW} {b:List Int} (h:wO r) (hc:(y7 r).2=0):zG6 r b:=by
 obtain ⟨h1,h2,h3,h4⟩:=j9 hc
 obtain ⟨h5,h6⟩:=zHz (nF h.1) h3
 exact ⟨h2,h1,h6,h5,h4⟩
theorem zFQ {r:zW} {b:List Int} (p:zG6 r b):((wJ (y7 r).1).length:Int)=r.End - r.Start:=by
 have:=p.g.se
 rw [← p.cat,nM];unfold used;omega
theorem zFD {r:zW} {b:List Int}:uX r b≤(y7 r).1.length:=zP0 _ _ _
theorem zNv {r:zW} {b:List Int} (h:wO r) (hb:b.length≤70000):zEY 200000 r b=some (qX r b):=by
 have hfl:=zC0 b
 unfold zEY
 rw [zEF h,zbs]
 by_cases hc:(y7 r).2≠0
 ·rw [xQ hc,cond_true];unfold qX
  have e:uY r b=(y7 r).2:=by unfold uY;rw [if_pos hc]
  rw [e,if_pos hc]
 have p:zG6 r b:=zK8 h (by omega)
 have:=p.g.n1;have:=p.g.n2;have:=p.g.s0;have:=p.g.se;have:=p.g.e1;have:=p.g.k1;have:=p.g.f0;have:=p.g.fn;have:=p.g.nx
 have hcu:=zFQ p
 have hrl:=zFf h.1
 rw [xE (by omega),cond_false,zHG (by omega),zbs]
 simp -implicitDefEqProofs only [zRI]
 have hv:=pL 9 (wM (b.length:Int))
 rw [xA (by omega),zbs,w64 (x:=r.End - r.Start) (by omega) (by omega),w64 (x:=(r.Data.length:Int) - (r.End - r.Start)) (by omega) (by omega)]
 by_cases c1:b.length>2000∨(fr b).length>r.Data.length
 ·have e:uY r b=7:=by unfold uY;rw [if_neg hc,if_pos c1]
  have:(decide (((b.length:Nat):Int)>2000)||decide ((((fr b).length:Nat):Int)>((r.Data.length:Nat):Int)))=true:=by
   simp only [Bool.or_eq_true,decide_eq_true_eq];omega
  rw [this,cond_true];unfold qX;rw [e,if_pos (by decide)]
 have:(decide (((b.length:Nat):Int)>2000)||decide ((((fr b).length:Nat):Int)>((r.Data.length:Nat):Int)))=false:=by
  rw [yF (by omega),yF (by omega)];rfl
 rw [this,cond_false]
 by_cases c2:r.Policy=2∧((fr b).length:Int)>x5 r
 ·have e:uY r b=6:=by unfold uY;rw [if_neg hc,if_neg c1,if_pos c2]
  unfold x5 at c2
  rw [kL c2.1,yR c2.2,Bool.true_and,cond_true];unfold qX;rw [e,if_pos (by decide)]
 have:((r.Policy==(2:Int))&&decide ((((fr b).length:Nat):Int)>(r.Data.length:Int) - (r.End - r.Start)))=false:=by
  unfold x5 at c2
  by_cases c:r.Policy=2
  ·rw [yF (fun hc=>c2 ⟨c,hc⟩),Bool.and_false]
  ·rw [zCm c,Bool.false_and]
 rw [this,cond_false,w64 (x:=r.End+(((fr b).length:Nat):Int)) (by omega) (by omega)]
 by_cases c3:r.End+(fr b).length>1000000000000000∨r.Next≥1000000000000000
 ·have e:uY r b=2:=by unfold uY;rw [if_neg hc,if_neg c1,if_neg c2,if_pos c3]
  have:(decide (r.End+(((fr b).length:Nat):Int)>1000000000000000)||decide (r.Next≥1000000000000000))=true:=by
   simpa using c3
  rw [this,cond_true];unfold qX;rw [e,if_pos (by decide)]
 have:(decide (r.End+(((fr b).length:Nat):Int)>1000000000000000)||decide (r.Next≥1000000000000000))=false:=by
  rw [yF (by omega),yF (by omega)];rfl
 rw [this,cond_false]
 have e:uY r b=0:=by unfold uY;rw [if_neg hc,if_neg c1,if_neg c2,if_neg c3]
 have hK:uX r b≤(y7 r).1.length:=zFD
 have hcut:=zF3 (y7 r).1 (uX r b)
 have hl:=zOV (b:=b) (e:=(y7 r).2) (l:=(y7 r).1) p.recs (by omega) (y7 r).1 200000 0 (x5 r) r.Start rfl (by omega) (by unfold x5;omega) (by omega) (by omega) (by omega) (by unfold x5;omega) (by unfold x5;omega) (by omega)
 rw [Nat.zero_add] at hl
 rw [show zAY 200000 b (y7 r) (w9 9 (wM (b.length:Int))) 200000 ((r.Data.length:Int) - (r.End - r.Start)) 0 r.Start=_ from hl,zbs]
 have hcl:qC r.Data=some r.Data:=by
  unfold qC
  rw [xA (by simp only [List.length_nil];omega),zbs,List.nil_append]
 obtain ⟨E,hE⟩:=Int.eq_ofNat_of_zero_le (show 0≤r.End by omega)
 have hm:=Nat.mod_lt E (show 0<r.Data.length by omega)
 have hw:=zQ4 (D:=r.Data) (G:=fr b) hm (by omega)
 rw [hcl,zbs]
 have hir:yM r.End (r.Data.length:Int)=((E % r.Data.length:Nat):Int):=by rw [hE,zF7]
 simp only [hir,Int.toNat_natCast]
 rw [xA (by omega),zbs,xA (by omega),zbs,xA (by omega),zbs,xA (by omega),zbs,xA (by omega),zbs,xA (by rw [zAi (by omega) (by omega)];omega),zbs,hw]
 rw [show kK ((fr b).length:Int) (x5 r) (y7 r).1=uX r b from rfl,w64 (by omega) (by omega),w64 (by omega) (by omega)]
 unfold qX qY
 rw [e,if_neg (by decide)]
 rw [show r.End.toNat=E by omega]
theorem zOa {r:zW} {b:List Int} (h:wO r) (hb:b.length≤70000):zFt 200000 r b=some (qX r b):=by
 have hfl:=zC0 b
 unfold zFt
 rw [zC5 h,zbs]
 by_cases hc:(y7 r).2≠0
 ·rw [xQ hc,cond_true];unfold qX
  have e:uY r b=(y7 r).2:=by unfold uY;rw [if_pos hc]
  rw [e,if_pos hc]
 have p:zG6 r b:=zK8 h (by omega)
 have:=p.g.n1;have:=p.g.n2;have:=p.g.s0;have:=p.g.se;have:=p.g.e1;have:=p.g.k1;have:=p.g.f0;have:=p.g.fn;have:=p.g.nx
 have hcu:=zFQ p
 have hrl:=zFf h.1
 rw [xE (by omega),cond_false,zGD (by omega),zbs]
 by_cases c1:b.length>2000∨(fr b).length>r.Data.length
 ·have e:uY r b=7:=by unfold uY;rw [if_neg hc,if_pos c1]
  have:(decide (((b.length:Nat):Int)>2000)||decide ((((fr b).length:Nat):Int)>((r.Data.length:Nat):Int)))=true:=by
   simp only [Bool.or_eq_true,decide_eq_true_eq];omega
  rw [this,cond_true];unfold qX;rw [e,if_pos (by decide)]
 have:(decide (((b.length:Nat):Int)>2000)||decide ((((fr b).length:Nat):Int)>((r.Data.length:Nat):Int)))=false:=by
  rw [yF (by omega),yF (by omega)];rfl
 rw [this,cond_false]
 have hfree:zK6 r=x5 r:=by unfold zK6 x5;rw [if_neg hc]
 by_cases c2:r.Policy=2∧((fr b).length:Int)>x5 r
 ·have e:uY r b=6:=by unfold uY;rw [if_neg hc,if_neg c1,if_pos c2]
  rw [kL c2.1,cond_true,zHp h,hfree,zbs,zbs,yR c2.2,cond_true];unfold qX;rw [e,if_pos (by decide)]
 have:(bif (r.Policy==(2:Int)) then ((zDh 200000 r).bind fun r_4=>some (decide ((((fr b).length:Nat):Int)>r_4))) else (some false))=some false:=by
  by_cases c:r.Policy=2
  ·rw [kL c,cond_true,zHp h,hfree,zbs,yF (fun hc=>c2 ⟨c,hc⟩)]
  ·rw [zCm c,cond_false]
 rw [this,zbs,cond_false,w64 (x:=r.End+(((fr b).length:Nat):Int)) (by omega) (by omega),w64 (x:=r.Next+1) (by omega) (by omega)]
 by_cases c3:r.End+(fr b).length>1000000000000000∨r.Next≥1000000000000000
 ·have e:uY r b=2:=by unfold uY;rw [if_neg hc,if_neg c1,if_neg c2,if_pos c3]
  have:(decide (r.End+(((fr b).length:Nat):Int)>1000000000000000)||decide (r.Next+1>1000000000000000))=true:=by
   simp only [Bool.or_eq_true,decide_eq_true_eq];omega
  rw [this,cond_true];unfold qX;rw [e,if_pos (by decide)]
 have:(decide (r.End+(((fr b).length:Nat):Int)>1000000000000000)||decide (r.Next+1>1000000000000000))=false:=by
  rw [yF (by omega),yF (by omega)];rfl
 rw [this,cond_false]
 have e:uY r b=0:=by unfold uY;rw [if_neg hc,if_neg c1,if_neg c2,if_neg c3]
 have hK:uX r b≤(y7 r).1.length:=zFD
 have hcut:=zF3 (y7 r).1 (uX r b)
 obtain ⟨_,_,hq,_⟩:=j9 (r:=r) (by omega)
 have hu:=zEr p.g
 rw [zCS p.g,zbs,zDp (nF h.1) (by rw [nM];omega),hq,zbs,w64 (x:=r.End - r.Start) (by omega) (by omega),w64 (x:=(r.Data.length:Int) - (r.End - r.Start)) (by omega) (by omega)]
 have hl:=zQf (b:=b) (l:=(y7 r).1) p.recs (by omega) (y7 r).1 200000 0 (x5 r) r.Start rfl (by omega) (by unfold x5;omega) (by omega) (by omega) (by omega) (by unfold x5;omega) (by unfold x5;omega) (by omega)
 rw [Nat.zero_add] at hl
 rw [show zBu 200000 (fr b) ((y7 r).1,true) 200000 0 ((r.Data.length:Int) - (r.End - r.Start)) r.Start=_ from hl,zbs]
 obtain ⟨E,hE⟩:=Int.eq_ofNat_of_zero_le (show 0≤r.End by omega)
 have hw:=zJs (D:=r.Data) (G:=fr b) (E:=E) (by omega) (by omega) (by omega) (by omega)
 rw [hE,hw,zbs]
 simp only
 rw [show kK ((fr b).length:Int) (x5 r) (y7 r).1=uX r b from rfl,← hE,w64 (by omega) (by omega)]
 unfold qX qY
 rw [e,if_neg (by decide)]
 rw [show r.End.toNat=E by omega]
theorem zQc {r:zW} {b:List Int} (h:wO r) (hb:b.length≤70000) (hb1:∀ x∈b,x4 x) (hc:uY r b=0):wO (qY r b):=by
 have h0:(y7 r).2=0:=by
  unfold uY at hc;by_cases c:(y7 r).2≠0
  ·rw [if_pos c] at hc;exact hc
  ·omega
 have p:zG6 r b:=zK8 h h0
 have:=p.g.n1;have:=p.g.n2;have:=p.g.s0;have:=p.g.se;have:=p.g.e1;have:=p.g.k1;have:=p.g.f0;have:=p.g.fn;have:=p.g.nx
 have hcu:=zFQ p
 have hrl:=zFf h.1
 have hK:uX r b≤(y7 r).1.length:=zFD
 have hcut:=zF3 (y7 r).1 (uX r b)
 have hfl:=zC0 b
 refine ⟨zRS h.1 (zRY (by omega) hb1),?_,?_,?_,?_,?_⟩
 ·unfold y3 qY;simp only;omega
 ·unfold y3 qY;simp only;omega
 ·unfold y3 qY;simp only;omega
 ·unfold y3 qY;simp only;omega
 ·unfold qY;simp only;rw [kP];omega
theorem zP2 {r:zW} {b:List Int} (h:wO r) (hb:b.length≤70000) (hb1:∀ x∈b,x4 x):wO (qX r b).1:=by
 unfold qX
 by_cases hc:uY r b≠0
 ·rw [if_pos hc];exact h
 ·rw [if_neg hc];exact zQc h hb hb1 (by omega)
theorem zNk {D G:List Int} {E:Nat} (hD:0<D.length) (hG:G.length≤D.length):ctn (wrt D (E % D.length) G) E G.length=G:=by
 apply List.ext_getElem?
 intro j
 by_cases hj:j<G.length
 ·have ha:=Nat.mod_lt E hD
  have hm:=Nat.mod_lt (E+j) hD
  rw [zHb hj,kP,List.getD_eq_getElem?_getD,zEu hm,zCu hj]
  have e:off D.length (E % D.length) ((E+j) % D.length)=j:=by
   rw [zFT hD (by omega)];unfold off
   split<;>split<;>omega
  rw [e,if_pos hj];rfl
 ·rw [List.getElem?_eq_none (by rw [zDl];omega),List.getElem?_eq_none (by omega)]
theorem zNu {D G:List Int} {S u:Nat} (hD:0<D.length) (hG:u+G.length≤D.length) (hG1:1≤G.length):ctn (wrt D ((S+u) % D.length) G) S u=ctn D S u:=by
 apply List.ext_getElem?
 intro j
 by_cases hj:j<u
 ·have hs:=Nat.mod_lt (S+j) hD
  rw [zHb hj,zHb hj,kP,List.getD_eq_getElem?_getD,zEu hs]
  have e:¬off D.length ((S+u) % D.length) ((S+j) % D.length)<G.length:=by
   rw [show S+u=(S+j)+(u - j) by omega,zFT (S:=S+j) (j:=u - j) hD (by omega)];unfold off
   split<;>split<;>omega
  rw [if_neg e];rfl
 ·rw [List.getElem?_eq_none (by rw [zDl];omega),List.getElem?_eq_none (by rw [zDl];omega)]
theorem zN5 {f:Int} {l:List (List Int)} {x5:Int} (h:f≤x5):kK f x5 l=0:=by
 cases l with
 | nil=>rfl
 | cons x l=>unfold kK;rw [if_neg (by omega)]
theorem zPZ (x:List Int):wJ [x]=fr x:=by simp [wJ]
theorem zKu {r:zW} {b:List Int} (h:wO r) (hc:uY r b=0):(y7 r).2=0∧b.length≤2000∧(fr b).length≤r.Data.length∧(r.Policy=2→((fr b).length:Int)≤x5 r)∧r.End+(fr b).length≤1000000000000000∧r.Next<1000000000000000:=by
 unfold uY at hc
 by_cases c:(y7 r).2≠0
 ·rw [if_pos c] at hc;omega
 rw [if_neg c] at hc
 by_cases c1:b.length>2000∨(fr b).length>r.Data.length
 ·rw [if_pos c1] at hc;omega
 rw [if_neg c1] at hc
 by_cases c2:r.Policy=2∧((fr b).length:Int)>x5 r
 ·rw [if_pos c2] at hc;omega
 rw [if_neg c2] at hc
 by_cases c3:r.End+(fr b).length>1000000000000000∨r.Next≥1000000000000000
 ·rw [if_pos c3] at hc;omega
 exact ⟨by omega,by omega,by omega,fun hp=>by omega,by omega,by omega⟩
theorem zMY {r:zW} {l:List (List Int)} (hp:¬jL r) (g:zFa r) (he:qU (vL r)=(l,true)) (hl:(l.length:Int)=r.Next - r.First):y7 r=(l,0):=by
 unfold y7
 rw [if_neg hp,if_neg (zHX g),he]
 simp only
 rw [if_neg (by simp;omega)]
theorem zOF {r:zW} {b:List Int} (h:wO r) (hb1:∀ x∈b,x4 x) (hc:uY r b=0) :
  y7 (qY r b)=((y7 r).1.drop (uX r b)++[b],0)∧x5 (qY r b)=x5 r+(wJ ((y7 r).1.take (uX r b))).length - (fr b).length:=by
 obtain ⟨h0,h1,h2,h3,h4,h5⟩:=zKu h hc
 have p:zG6 r b:=zK8 h h0
 have:=p.g.n1;have:=p.g.n2;have:=p.g.s0;have:=p.g.se;have:=p.g.e1;have:=p.g.k1;have:=p.g.f0;have:=p.g.fn;have:=p.g.nx
 have hcu:=zFQ p
 have hK:uX r b≤(y7 r).1.length:=zFD
 have hcut:=zF3 (y7 r).1 (uX r b)
 have hfl:=zC0 b
 have hroom:((fr b).length:Int)≤x5 r+(wJ ((y7 r).1.take (uX r b))).length:=zOo _ _ _ (by unfold x5;omega)
 have hroomD:x5 r=(r.Data.length:Int) - (r.End - r.Start):=rfl
 have hcat:=p.cat
 have hcnt:=p.cnt
 refine ⟨zMY p.pol ?_ ?_ ?_,?_⟩
 ·constructor<;>unfold qY<;>simp only [kP]<;>omega
 ·have:vL (qY r b)=wJ ((y7 r).1.drop (uX r b)++[b]):=by
   unfold vL used qY
   simp only
   generalize hB:(wJ ((y7 r).1.take (uX r b))).length=B at *
   generalize hU:(wJ ((y7 r).1.drop (uX r b))).length=U at *
   rw [show (r.End+((fr b).length:Int) - (r.Start+(B:Int))).toNat=U+(fr b).length by omega,zN1]
   have e1:(r.Start+(B:Int)).toNat+U=r.End.toNat:=by omega
   rw [e1,zNk (by omega) h2,← e1,zNu (by omega) (by omega) (by omega),zHO,zPZ]
   congr 1
   unfold vL used at hcat
   rw [show (r.End - r.Start).toNat=B+U by omega,zN1,← List.take_append_drop (uX r b) (y7 r).1,zHO] at hcat
   have:=List.append_inj_right hcat (by rw [zDl];exact hB.symm)
   rw [show (r.Start+(B:Int)).toNat=r.Start.toNat+B by omega];exact this
  rw [this]
  refine zOe ?_
  intro x hx
  rcases List.mem_append.1 hx with hx | hx
  ·exact p.recs x (List.mem_of_mem_drop hx)
  ·rw [List.mem_singleton.1 hx];exact ⟨h1,hb1⟩
 ·unfold qY;simp only [List.length_append,List.length_drop,List.length_singleton];omega
 ·unfold x5 qY;simp only [kP];omega
def shift (r:zW) (d:Int):zW:=⟨r.Policy,r.Data,r.Start+d,r.End+d,r.First,r.Next⟩
end Go.Ab
