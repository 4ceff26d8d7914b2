/- Plain laws of the functions uI this seat's, laid anew from another seat's text. No conditions but those that the theorems name. -/
import Derived.Test.YtdpgdpjoemdkjaaP10xD
import Derived.Test.YtdpgdpjoemdkjaaB10a
import Derived.Test.YtdpgdpjoemdkjaaB10h
import Derived.Test.YtdpgdpjoemdkjaaB10i
namespace Go.Ab
open Go
set_option linter.unusedVariables false
theorem zOd (b:List Int):wT 9 (wF (b.length:Int))++b=fr b:=rfl
def wR (r:zB):Int:=(r.Data.length:Int) - (r.End - r.Start)
def tP (r:zB) (b:List Int):Int:=if (yZ r).2≠0 then (yZ r).2 else if b.length>2000∨(fr b).length>r.Data.length then 7
 else if r.Policy=2∧((fr b).length:Int)>wR r then 6 else if r.End+(fr b).length>1000000000000000∨r.Next≥1000000000000000 then 2 else 0
def uJ (r:zB) (b:List Int):Nat:=pS (fr b).length (wR r) (yZ r).1
def tK (r:zB) (b:List Int):zB:=⟨r.Policy,wrt r.Data (r.End.toNat % r.Data.length) (fr b),r.Start+(wO ((yZ r).1.take (uJ r b))).length,r.End+(fr b).length,r.First+uJ r b,r.Next+1⟩
def j8 (r:zB) (b:List Int):zB×Int×Int:=if tP r b≠0 then (r,0,tP r b) else (tK r b,uJ r b,0)
structure zGu (r:zB) (b:List Int):Prop where
 g:zCR r
 pol:¬tG r
 recs:∀ x∈(yZ r).1,zAI x
 cat:wW r=wO (yZ r).1
 cnt:((yZ r).1.length:Int)=r.Next - r.First
theorem zKV {r:zB} {b:List Int} (h:vA r) (hc:(yZ r).2=0):zGu r b:=by
 obtain ⟨h1,h2,h3,h4⟩:=kL hc
 obtain ⟨h5,h6⟩:=zEZ (pT h.1) h3
 exact ⟨h2,h1,h6,h5,h4⟩
theorem zFc {r:zB} {b:List Int} (p:zGu r b):((wO (yZ r).1).length:Int)=r.End - r.Start:=by
 have:=p.g.se
 rw [← p.cat,nL];unfold used;omega
theorem zED {r:zB} {b:List Int}:uJ r b≤(yZ r).1.length:=zNj _ _ _
theorem zJI {r:zB} {b:List Int} (h:vA r) (hb:b.length≤70000):zCI 200000 r b=some (j8 r b):=by
 have hfl:=zBR b
 unfold zCI
 rw [zCN h,Option.bind_some]
 by_cases hc:(yZ r).2≠0
 ·rw [w4 hc,cond_true];unfold j8
  have e:tP r b=(yZ r).2:=by unfold tP;rw [if_pos hc]
  rw [e,if_pos hc]
 have p:zGu r b:=zKV h (by omega)
 have:=p.g.n1;have:=p.g.n2;have:=p.g.s0;have:=p.g.se;have:=p.g.e1;have:=p.g.k1;have:=p.g.f0;have:=p.g.fn;have:=p.g.nx
 have hcu:=zFc p
 have hrl:=zEi h.1
 rw [xS (by omega),cond_false,zE4 (by omega),Option.bind_some]
 simp -implicitDefEqProofs only [zOd]
 have hv:=kV 9 (wF (b.length:Int))
 rw [xO (by omega),Option.bind_some,w64 (x:=r.End - r.Start) (by omega) (by omega),w64 (x:=(r.Data.length:Int) - (r.End - r.Start)) (by omega) (by omega)]
 by_cases c1:b.length>2000∨(fr b).length>r.Data.length
 ·have e:tP r b=7:=by unfold tP;rw [if_neg hc,if_pos c1]
  have:(decide (((b.length:Nat):Int)>2000)||decide ((((fr b).length:Nat):Int)>((r.Data.length:Nat):Int)))=true:=by
   simp only [Bool.or_eq_true,decide_eq_true_eq];omega
  rw [this,cond_true];unfold j8;rw [e,if_pos (by decide)]
 have:(decide (((b.length:Nat):Int)>2000)||decide ((((fr b).length:Nat):Int)>((r.Data.length:Nat):Int)))=false:=by
  rw [yR (by omega),yR (by omega)];rfl
 rw [this,cond_false]
 by_cases c2:r.Policy=2∧((fr b).length:Int)>wR r
 ·have e:tP r b=6:=by unfold tP;rw [if_neg hc,if_neg c1,if_pos c2]
  unfold wR at c2
  rw [zKF c2.1,y4 c2.2,Bool.true_and,cond_true];unfold j8;rw [e,if_pos (by decide)]
 have:((r.Policy==(2:Int))&&decide ((((fr b).length:Nat):Int)>(r.Data.length:Int) - (r.End - r.Start)))=false:=by
  unfold wR at c2
  by_cases c:r.Policy=2
  ·rw [yR (fun hc=>c2 ⟨c,hc⟩),Bool.and_false]
  ·rw [zNp c,Bool.false_and]
 rw [this,cond_false,w64 (x:=r.End+(((fr b).length:Nat):Int)) (by omega) (by omega)]
 by_cases c3:r.End+(fr b).length>1000000000000000∨r.Next≥1000000000000000
 ·have e:tP r b=2:=by unfold tP;rw [if_neg hc,if_neg c1,if_neg c2,if_pos c3]
  have:(decide (r.End+(((fr b).length:Nat):Int)>1000000000000000)||decide (r.Next≥1000000000000000))=true:=by
   simpa using c3
  rw [this,cond_true];unfold j8;rw [e,if_pos (by decide)]
 have:(decide (r.End+(((fr b).length:Nat):Int)>1000000000000000)||decide (r.Next≥1000000000000000))=false:=by
  rw [yR (by omega),yR (by omega)];rfl
 rw [this,cond_false]
 have e:tP r b=0:=by unfold tP;rw [if_neg hc,if_neg c1,if_neg c2,if_neg c3]
 have hK:uJ r b≤(yZ r).1.length:=zED
 have hcut:=zFo (yZ r).1 (uJ r b)
 have hl:=zL5 (b:=b) (e:=(yZ r).2) (l:=(yZ r).1) p.recs (by omega) (yZ r).1 200000 0 (wR r) r.Start rfl (by omega) (by unfold wR;omega) (by omega) (by omega) (by omega) (by unfold wR;omega) (by unfold wR;omega) (by omega)
 rw [Nat.zero_add] at hl
 rw [show nP 200000 b (yZ r) (wT 9 (wF (b.length:Int))) 200000 ((r.Data.length:Int) - (r.End - r.Start)) 0 r.Start=_ from hl,Option.bind_some]
 have hcl:u6 r.Data=some r.Data:=by
  unfold u6
  rw [xO (by simp only [List.length_nil];omega),Option.bind_some,List.nil_append]
 obtain ⟨E,hE⟩:=Int.eq_ofNat_of_zero_le (show 0≤r.End by omega)
 have hm:=Nat.mod_lt E (show 0<r.Data.length by omega)
 have hw:=zNG (D:=r.Data) (G:=fr b) hm (by omega)
 rw [hcl,Option.bind_some]
 have hir:yH r.End (r.Data.length:Int)=((E % r.Data.length:Nat):Int):=by rw [hE,zFb]
 simp only [hir,Int.toNat_natCast]
 rw [xO (by omega),Option.bind_some,xO (by omega),Option.bind_some,xO (by omega),Option.bind_some,xO (by omega),Option.bind_some,xO (by omega),Option.bind_some,xO (by rw [pI (by omega) (by omega)];omega),Option.bind_some,hw]
 rw [show pS ((fr b).length:Int) (wR r) (yZ r).1=uJ r b from rfl,w64 (by omega) (by omega),w64 (by omega) (by omega)]
 unfold j8 tK
 rw [e,if_neg (by decide)]
 rw [show r.End.toNat=E by omega]
theorem zNk {r:zB} {b:List Int} (h:vA r) (hb:b.length≤70000) (hb1:∀ x∈b,xJ x) (hc:tP r b=0):vA (tK r b):=by
 have h0:(yZ r).2=0:=by
  unfold tP at hc;by_cases c:(yZ r).2≠0
  ·rw [if_pos c] at hc;exact hc
  ·omega
 have p:zGu r b:=zKV h h0
 have:=p.g.n1;have:=p.g.n2;have:=p.g.s0;have:=p.g.se;have:=p.g.e1;have:=p.g.k1;have:=p.g.f0;have:=p.g.fn;have:=p.g.nx
 have hcu:=zFc p
 have hrl:=zEi h.1
 have hK:uJ r b≤(yZ r).1.length:=zED
 have hcut:=zFo (yZ r).1 (uJ r b)
 have hfl:=zBR b
 refine ⟨zOf h.1 (zOt (by omega) hb1),?_,?_,?_,?_,?_⟩
 ·unfold yS tK;simp only;omega
 ·unfold yS tK;simp only;omega
 ·unfold yS tK;simp only;omega
 ·unfold yS tK;simp only;omega
 ·unfold tK;simp only;rw [zBB];omega
theorem zNl {r:zB} {b:List Int} (h:vA r) (hb:b.length≤70000) (hb1:∀ x∈b,xJ x):vA (j8 r b).1:=by
 unfold j8
 by_cases hc:tP r b≠0
 ·rw [if_pos hc];exact h
 ·rw [if_neg hc];exact zNk h hb hb1 (by omega)
theorem zJO {D G:List Int} {E:Nat} (hD:0<D.length) (hG:G.length≤D.length):ctn (wrt D (E % D.length) G) E G.length=G:=by
 apply List.ext_getElem?
 intro j
 by_cases hj:j<G.length
 ·have ha:=Nat.mod_lt E hD
  have hm:=Nat.mod_lt (E+j) hD
  rw [zEF hj,zBB,List.getD_eq_getElem?_getD,zGX hm,zCB hj]
  have e:off D.length (E % D.length) ((E+j) % D.length)=j:=by
   rw [zFP hD (by omega)];unfold off
   split<;>split<;>omega
  rw [e,if_pos hj];rfl
 ·rw [List.getElem?_eq_none (by rw [zBq];omega),List.getElem?_eq_none (by omega)]
theorem zJ1 {D G:List Int} {S u:Nat} (hD:0<D.length) (hG:u+G.length≤D.length) (hG1:1≤G.length):ctn (wrt D ((S+u) % D.length) G) S u=ctn D S u:=by
 apply List.ext_getElem?
 intro j
 by_cases hj:j<u
 ·have hs:=Nat.mod_lt (S+j) hD
  rw [zEF hj,zEF hj,zBB,List.getD_eq_getElem?_getD,zGX hs]
  have e:¬off D.length ((S+u) % D.length) ((S+j) % D.length)<G.length:=by
   rw [show S+u=(S+j)+(u - j) by omega,zFP (S:=S+j) (j:=u - j) hD (by omega)];unfold off
   split<;>split<;>omega
  rw [if_neg e];rfl
 ·rw [List.getElem?_eq_none (by rw [zBq];omega),List.getElem?_eq_none (by rw [zBq];omega)]
theorem zLf {f:Int} {l:List (List Int)} {wR:Int} (h:f≤wR):pS f wR l=0:=by
 cases l with
 | nil=>rfl
 | cons x l=>unfold pS;rw [if_neg (by omega)]
theorem zM4 (x:List Int):wO [x]=fr x:=by simp [wO]
theorem zHA {r:zB} {b:List Int} (h:vA r) (hc:tP r b=0):(yZ r).2=0∧b.length≤2000∧(fr b).length≤r.Data.length∧(r.Policy=2→((fr b).length:Int)≤wR r)∧r.End+(fr b).length≤1000000000000000∧r.Next<1000000000000000:=by
 unfold tP at hc
 by_cases c:(yZ r).2≠0
 ·rw [if_pos c] at hc;omega
 rw [if_neg c] at hc
 by_cases c1:b.length>2000∨(fr b).length>r.Data.length
 ·rw [if_pos c1] at hc;omega
 rw [if_neg c1] at hc
 by_cases c2:r.Policy=2∧((fr b).length:Int)>wR r
 ·rw [if_pos c2] at hc;omega
 rw [if_neg c2] at hc
 by_cases c3:r.End+(fr b).length>1000000000000000∨r.Next≥1000000000000000
 ·rw [if_pos c3] at hc;omega
 exact ⟨by omega,by omega,by omega,fun hp=>by omega,by omega,by omega⟩
theorem zIR {r:zB} {l:List (List Int)} (hp:¬tG r) (g:zCR r) (he:tF (wW r)=(l,true)) (hl:(l.length:Int)=r.Next - r.First):yZ r=(l,0):=by
 unfold yZ
 rw [if_neg hp,if_neg (zFE g),he]
 simp only
 rw [if_neg (by simp;omega)]
theorem zK0 {r:zB} {b:List Int} (h:vA r) (hb1:∀ x∈b,xJ x) (hc:tP r b=0) :
  yZ (tK r b)=((yZ r).1.drop (uJ r b)++[b],0)∧wR (tK r b)=wR r+(wO ((yZ r).1.take (uJ r b))).length - (fr b).length:=by
 obtain ⟨h0,h1,h2,h3,h4,h5⟩:=zHA h hc
 have p:zGu r b:=zKV h h0
 have:=p.g.n1;have:=p.g.n2;have:=p.g.s0;have:=p.g.se;have:=p.g.e1;have:=p.g.k1;have:=p.g.f0;have:=p.g.fn;have:=p.g.nx
 have hcu:=zFc p
 have hK:uJ r b≤(yZ r).1.length:=zED
 have hcut:=zFo (yZ r).1 (uJ r b)
 have hfl:=zBR b
 have hroom:((fr b).length:Int)≤wR r+(wO ((yZ r).1.take (uJ r b))).length:=zKK _ _ _ (by unfold wR;omega)
 have hroomD:wR r=(r.Data.length:Int) - (r.End - r.Start):=rfl
 have hcat:=p.cat
 have hcnt:=p.cnt
 refine ⟨zIR p.pol ?_ ?_ ?_,?_⟩
 ·constructor<;>unfold tK<;>simp only [zBB]<;>omega
 ·have:wW (tK r b)=wO ((yZ r).1.drop (uJ r b)++[b]):=by
   unfold wW used tK
   simp only
   generalize hB:(wO ((yZ r).1.take (uJ r b))).length=B at *
   generalize hU:(wO ((yZ r).1.drop (uJ r b))).length=U at *
   rw [show (r.End+((fr b).length:Int) - (r.Start+(B:Int))).toNat=U+(fr b).length by omega,zKg]
   have e1:(r.Start+(B:Int)).toNat+U=r.End.toNat:=by omega
   rw [e1,zJO (by omega) h2,← e1,zJ1 (by omega) (by omega) (by omega),zFk,zM4]
   congr 1
   unfold wW used at hcat
   rw [show (r.End - r.Start).toNat=B+U by omega,zKg,← List.take_append_drop (uJ r b) (yZ r).1,zFk] at hcat
   have:=List.append_inj_right hcat (by rw [zBq];exact hB.symm)
   rw [show (r.Start+(B:Int)).toNat=r.Start.toNat+B by omega];exact this
  rw [this]
  refine zKQ ?_
  intro x hx
  rcases List.mem_append.1 hx with hx | hx
  ·exact p.recs x (List.mem_of_mem_drop hx)
  ·rw [List.mem_singleton.1 hx];exact ⟨h1,hb1⟩
 ·unfold tK;simp only [List.length_append,List.length_drop,List.length_singleton];omega
 ·unfold wR tK;simp only [zBB];omega
def shift (r:zB) (d:Int):zB:=⟨r.Policy,r.Data,r.Start+d,r.End+d,r.First,r.Next⟩
end Go.Ab
