/- Plain laws of the functions wP this seat's, laid anew from another seat's text. No conditions but those that the theorems name. -/
import Derived.Test.YtdpgdpjoemdkjaaP10xD
import Derived.Test.YtdpgdpjoemdkjaaB10a
import Derived.Test.YtdpgdpjoemdkjaaB10h
import Derived.Test.YtdpgdpjoemdkjaaB10i
namespace Go.Ab
open Go
set_option linter.unusedVariables false
def vL (r:zB):Int:=(r.Data.length:Int) - (r.End - r.Start)
def zAJ (r:zB) (b:List Int):Int:=if (yI r).2≠0 then (yI r).2 else if b.length>2000∨(fr b).length>r.Data.length then 7
 else if r.Policy=2∧((fr b).length:Int)>vL r then 6 else if r.End+(fr b).length>1000000000000000∨r.Next≥1000000000000000 then 2 else 0
def vK (r:zB) (b:List Int):Nat:=zAi (fr b).length (vL r) (yI r).1
def vW (r:zB) (b:List Int):zB:=⟨r.Policy,wrt r.Data (r.End.toNat % r.Data.length) (fr b),r.Start+(xU ((yI r).1.take (vK r b))).length,r.End+(fr b).length,r.First+vK r b,r.Next+1⟩
def n8 (r:zB) (b:List Int):zB×Int×Int:=if zAJ r b≠0 then (r,0,zAJ r b) else (vW r b,vK r b,0)
structure zGk (r:zB) (b:List Int):Prop where
 g:zBg r
 pol:¬vB r
 recs:∀ x∈(yI r).1,zAb x
 cat:xZ r=xU (yI r).1
 cnt:((yI r).1.length:Int)=r.Next - r.First
theorem zLx {r:zB} {b:List Int} (h:wF r) (hc:(yI r).2=0):zGk r b:=by
 obtain ⟨h1,h2,h3,h4⟩:=q9 hc
 obtain ⟨h5,h6⟩:=zDs (kJ h.1) h3
 exact ⟨h2,h1,h6,h5,h4⟩
theorem zGP {r:zB} {b:List Int} (p:zGk r b):((xU (yI r).1).length:Int)=r.End - r.Start:=by
 have:=p.g.se
 rw [← p.cat,kU];unfold used;omega
theorem zE6 {r:zB} {b:List Int}:vK r b≤(yI r).1.length:=zK7 _ _ _
theorem zKF {r:zB} {b:List Int} (h:wF r) (hb:b.length≤70000) (hb1:∀ x∈b,yP x) (hc:zAJ r b=0):wF (vW r b):=by
 have h0:(yI r).2=0:=by
  unfold zAJ at hc;by_cases c:(yI r).2≠0
  ·rw [if_pos c] at hc;exact hc
  ·omega
 have p:zGk r b:=zLx h h0
 have:=p.g.n1;have:=p.g.n2;have:=p.g.s0;have:=p.g.se;have:=p.g.e1;have:=p.g.k1;have:=p.g.f0;have:=p.g.fn;have:=p.g.nx
 have hcu:=zGP p
 have hrl:=zFB h.1
 have hK:vK r b≤(yI r).1.length:=zE6
 have hcut:=zHR (yI r).1 (vK r b)
 have hfl:=zCE b
 refine ⟨zMo h.1 (zMx (by omega) hb1),?_,?_,?_,?_,?_⟩
 ·unfold yC vW;simp only;omega
 ·unfold yC vW;simp only;omega
 ·unfold yC vW;simp only;omega
 ·unfold yC vW;simp only;omega
 ·unfold vW;simp only;rw [zAO];omega
theorem zKT {r:zB} {b:List Int} (h:wF r) (hb:b.length≤70000) (hb1:∀ x∈b,yP x):wF (n8 r b).1:=by
 unfold n8
 by_cases hc:zAJ r b≠0
 ·rw [if_pos hc];exact h
 ·rw [if_neg hc];exact zKF h hb hb1 (by omega)
theorem zH7 {D G:List Int} {E:Nat} (hD:0<D.length) (hG:G.length≤D.length):ctn (wrt D (E % D.length) G) E G.length=G:=by
 apply List.ext_getElem?
 intro j
 by_cases hj:j<G.length
 ·have ha:=Nat.mod_lt E hD
  have hm:=Nat.mod_lt (E+j) hD
  rw [zC2 hj,zAO,List.getD_eq_getElem?_getD,zIG hm,zKN hj]
  have e:off D.length (E % D.length) ((E+j) % D.length)=j:=by
   rw [zDX hD (by omega)];unfold off
   split<;>split<;>omega
  rw [e,if_pos hj];rfl
 ·rw [List.getElem?_eq_none (by rw [nP];omega),List.getElem?_eq_none (by omega)]
theorem zH4 {D G:List Int} {S u:Nat} (hD:0<D.length) (hG:u+G.length≤D.length) (hG1:1≤G.length):ctn (wrt D ((S+u) % D.length) G) S u=ctn D S u:=by
 apply List.ext_getElem?
 intro j
 by_cases hj:j<u
 ·have hs:=Nat.mod_lt (S+j) hD
  rw [zC2 hj,zC2 hj,zAO,List.getD_eq_getElem?_getD,zIG hs]
  have e:¬off D.length ((S+u) % D.length) ((S+j) % D.length)<G.length:=by
   rw [show S+u=(S+j)+(u - j) by omega,zDX (S:=S+j) (j:=u - j) hD (by omega)];unfold off
   split<;>split<;>omega
  rw [if_neg e];rfl
 ·rw [List.getElem?_eq_none (by rw [nP];omega),List.getElem?_eq_none (by rw [nP];omega)]
theorem zJs {f:Int} {l:List (List Int)} {vL:Int} (h:f≤vL):zAi f vL l=0:=by
 cases l with
 | nil=>rfl
 | cons x l=>unfold zAi;rw [if_neg (by omega)]
theorem zLt (x:List Int):xU [x]=fr x:=by simp [xU]
theorem zFJ {r:zB} {b:List Int} (h:wF r) (hc:zAJ r b=0):(yI r).2=0∧b.length≤2000∧(fr b).length≤r.Data.length∧(r.Policy=2→((fr b).length:Int)≤vL r)∧r.End+(fr b).length≤1000000000000000∧r.Next<1000000000000000:=by
 unfold zAJ at hc
 by_cases c:(yI r).2≠0
 ·rw [if_pos c] at hc;omega
 rw [if_neg c] at hc
 by_cases c1:b.length>2000∨(fr b).length>r.Data.length
 ·rw [if_pos c1] at hc;omega
 rw [if_neg c1] at hc
 by_cases c2:r.Policy=2∧((fr b).length:Int)>vL r
 ·rw [if_pos c2] at hc;omega
 rw [if_neg c2] at hc
 by_cases c3:r.End+(fr b).length>1000000000000000∨r.Next≥1000000000000000
 ·rw [if_pos c3] at hc;omega
 exact ⟨by omega,by omega,by omega,fun hp=>by omega,by omega,by omega⟩
theorem zG2 {r:zB} {l:List (List Int)} (hp:¬vB r) (g:zBg r) (he:v4 (xZ r)=(l,true)) (hl:(l.length:Int)=r.Next - r.First):yI r=(l,0):=by
 unfold yI
 rw [if_neg hp,if_neg (zDw g),he]
 simp only
 rw [if_neg (by simp;omega)]
theorem zJc {r:zB} {b:List Int} (h:wF r) (hb1:∀ x∈b,yP x) (hc:zAJ r b=0) :
  yI (vW r b)=((yI r).1.drop (vK r b)++[b],0)∧vL (vW r b)=vL r+(xU ((yI r).1.take (vK r b))).length - (fr b).length:=by
 obtain ⟨h0,h1,h2,h3,h4,h5⟩:=zFJ h hc
 have p:zGk r b:=zLx h h0
 have:=p.g.n1;have:=p.g.n2;have:=p.g.s0;have:=p.g.se;have:=p.g.e1;have:=p.g.k1;have:=p.g.f0;have:=p.g.fn;have:=p.g.nx
 have hcu:=zGP p
 have hK:vK r b≤(yI r).1.length:=zE6
 have hcut:=zHR (yI r).1 (vK r b)
 have hfl:=zCE b
 have hroom:((fr b).length:Int)≤vL r+(xU ((yI r).1.take (vK r b))).length:=zJp _ _ _ (by unfold vL;omega)
 have hroomD:vL r=(r.Data.length:Int) - (r.End - r.Start):=rfl
 have hcat:=p.cat
 have hcnt:=p.cnt
 refine ⟨zG2 p.pol ?_ ?_ ?_,?_⟩
 ·constructor<;>unfold vW<;>simp only [zAO]<;>omega
 ·have:xZ (vW r b)=xU ((yI r).1.drop (vK r b)++[b]):=by
   unfold xZ used vW
   simp only
   generalize hB:(xU ((yI r).1.take (vK r b))).length=B at *
   generalize hU:(xU ((yI r).1.drop (vK r b))).length=U at *
   rw [show (r.End+((fr b).length:Int) - (r.Start+(B:Int))).toNat=U+(fr b).length by omega,zIE]
   have e1:(r.Start+(B:Int)).toNat+U=r.End.toNat:=by omega
   rw [e1,zH7 (by omega) h2,← e1,zH4 (by omega) (by omega) (by omega),zDQ,zLt]
   congr 1
   unfold xZ used at hcat
   rw [show (r.End - r.Start).toNat=B+U by omega,zIE,← List.take_append_drop (vK r b) (yI r).1,zDQ] at hcat
   have:=List.append_inj_right hcat (by rw [nP];exact hB.symm)
   rw [show (r.Start+(B:Int)).toNat=r.Start.toNat+B by omega];exact this
  rw [this]
  refine zJj ?_
  intro x hx
  rcases List.mem_append.1 hx with hx | hx
  ·exact p.recs x (List.mem_of_mem_drop hx)
  ·rw [List.mem_singleton.1 hx];exact ⟨h1,hb1⟩
 ·unfold vW;simp only [List.length_append,List.length_drop,List.length_singleton];omega
 ·unfold vL vW;simp only [zAO];omega
def shift (r:zB) (d:Int):zB:=⟨r.Policy,r.Data,r.Start+d,r.End+d,r.First,r.Next⟩
end Go.Ab
