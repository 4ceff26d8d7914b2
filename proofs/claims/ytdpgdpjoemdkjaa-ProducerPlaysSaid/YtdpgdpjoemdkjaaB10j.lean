/- Plain laws of the functions qA this seat's, laid anew from another seat's text. No conditions but those that the theorems name. -/
import Derived.Test.YtdpgdpjoemdkjaaP10xD
import Derived.Test.YtdpgdpjoemdkjaaB10a
import Derived.Test.YtdpgdpjoemdkjaaB10h
import Derived.Test.YtdpgdpjoemdkjaaB10i
namespace Go.Ab
open Go
set_option linter.unusedVariables false
theorem zSb (b:List Int):vV 9 (w8 (b.length:Int))++b=fr b:=rfl
def x8 (r:zO):Int:=(r.Data.length:Int) - (r.End - r.Start)
def tS (r:zO) (b:List Int):Int:=if (xB r).2≠0 then (xB r).2 else if b.length>2000∨(fr b).length>r.Data.length then 7
 else if r.Policy=2∧((fr b).length:Int)>x8 r then 6 else if r.End+(fr b).length>1000000000000000∨r.Next≥1000000000000000 then 2 else 0
def tU (r:zO) (b:List Int):Nat:=pJ (fr b).length (x8 r) (xB r).1
def jU (r:zO) (b:List Int):zO:=⟨r.Policy,wrt r.Data (r.End.toNat % r.Data.length) (fr b),r.Start+(wP ((xB r).1.take (tU r b))).length,r.End+(fr b).length,r.First+tU r b,r.Next+1⟩
def jV (r:zO) (b:List Int):zO×Int×Int:=if tS r b≠0 then (r,0,tS r b) else (jU r b,tU r b,0)
structure zHk (r:zO) (b:List Int):Prop where
 g:zFe r
 pol:¬jO r
 recs:∀ x∈(xB r).1,zAP x
 cat:uA r=wP (xB r).1
 cnt:((xB r).1.length:Int)=r.Next - r.First
theorem zLp {r:zO} {b:List Int} (h:vA r) (hc:(xB r).2=0):zHk r b:=by
 obtain ⟨h1,h2,h3,h4⟩:=kY hc
 obtain ⟨h5,h6⟩:=zHQ (zAe h.1) h3
 exact ⟨h2,h1,h6,h5,h4⟩
theorem zF0 {r:zO} {b:List Int} (p:zHk r b):((wP (xB r).1).length:Int)=r.End - r.Start:=by
 have:=p.g.se
 rw [← p.cat,zAg];unfold used;omega
theorem zFG {r:zO} {b:List Int}:tU r b≤(xB r).1.length:=zQ9 _ _ _
theorem zNL {r:zO} {b:List Int} (h:vA r) (hb:b.length≤70000):zEG 200000 r b=some (jV r b):=by
 have hfl:=zCQ b
 unfold zEG
 rw [zE2 h,zbs]
 by_cases hc:(xB r).2≠0
 ·rw [xW hc,cond_true];unfold jV
  have e:tS r b=(xB r).2:=by unfold tS;rw [if_pos hc]
  rw [e,if_pos hc]
 have p:zHk r b:=zLp h (by omega)
 have:=p.g.n1;have:=p.g.n2;have:=p.g.s0;have:=p.g.se;have:=p.g.e1;have:=p.g.k1;have:=p.g.f0;have:=p.g.fn;have:=p.g.nx
 have hcu:=zF0 p
 have hrl:=zFh h.1
 rw [xD (by omega),cond_false,zHK (by omega),zbs]
 simp -implicitDefEqProofs only [zSb]
 have hv:=nN 9 (w8 (b.length:Int))
 rw [xE (by omega),zbs,w64 (x:=r.End - r.Start) (by omega) (by omega),w64 (x:=(r.Data.length:Int) - (r.End - r.Start)) (by omega) (by omega)]
 by_cases c1:b.length>2000∨(fr b).length>r.Data.length
 ·have e:tS r b=7:=by unfold tS;rw [if_neg hc,if_pos c1]
  have:(decide (((b.length:Nat):Int)>2000)||decide ((((fr b).length:Nat):Int)>((r.Data.length:Nat):Int)))=true:=by
   simp only [Bool.or_eq_true,decide_eq_true_eq];omega
  rw [this,cond_true];unfold jV;rw [e,if_pos (by decide)]
 have:(decide (((b.length:Nat):Int)>2000)||decide ((((fr b).length:Nat):Int)>((r.Data.length:Nat):Int)))=false:=by
  rw [yI (by omega),yI (by omega)];rfl
 rw [this,cond_false]
 by_cases c2:r.Policy=2∧((fr b).length:Int)>x8 r
 ·have e:tS r b=6:=by unfold tS;rw [if_neg hc,if_neg c1,if_pos c2]
  unfold x8 at c2
  rw [kZ c2.1,yW c2.2,Bool.true_and,cond_true];unfold jV;rw [e,if_pos (by decide)]
 have:((r.Policy==(2:Int))&&decide ((((fr b).length:Nat):Int)>(r.Data.length:Int) - (r.End - r.Start)))=false:=by
  unfold x8 at c2
  by_cases c:r.Policy=2
  ·rw [yI (fun hc=>c2 ⟨c,hc⟩),Bool.and_false]
  ·rw [zBU c,Bool.false_and]
 rw [this,cond_false,w64 (x:=r.End+(((fr b).length:Nat):Int)) (by omega) (by omega)]
 by_cases c3:r.End+(fr b).length>1000000000000000∨r.Next≥1000000000000000
 ·have e:tS r b=2:=by unfold tS;rw [if_neg hc,if_neg c1,if_neg c2,if_pos c3]
  have:(decide (r.End+(((fr b).length:Nat):Int)>1000000000000000)||decide (r.Next≥1000000000000000))=true:=by
   simpa using c3
  rw [this,cond_true];unfold jV;rw [e,if_pos (by decide)]
 have:(decide (r.End+(((fr b).length:Nat):Int)>1000000000000000)||decide (r.Next≥1000000000000000))=false:=by
  rw [yI (by omega),yI (by omega)];rfl
 rw [this,cond_false]
 have e:tS r b=0:=by unfold tS;rw [if_neg hc,if_neg c1,if_neg c2,if_neg c3]
 have hK:tU r b≤(xB r).1.length:=zFG
 have hcut:=zFV (xB r).1 (tU r b)
 have hl:=zP0 (b:=b) (e:=(xB r).2) (l:=(xB r).1) p.recs (by omega) (xB r).1 200000 0 (x8 r) r.Start rfl (by omega) (by unfold x8;omega) (by omega) (by omega) (by omega) (by unfold x8;omega) (by unfold x8;omega) (by omega)
 rw [Nat.zero_add] at hl
 rw [show zBg 200000 b (xB r) (vV 9 (w8 (b.length:Int))) 200000 ((r.Data.length:Int) - (r.End - r.Start)) 0 r.Start=_ from hl,zbs]
 have hcl:q9 r.Data=some r.Data:=by
  unfold q9
  rw [xE (by simp only [List.length_nil];omega),zbs,List.nil_append]
 obtain ⟨E,hE⟩:=Int.eq_ofNat_of_zero_le (show 0≤r.End by omega)
 have hm:=Nat.mod_lt E (show 0<r.Data.length by omega)
 have hw:=zRN (D:=r.Data) (G:=fr b) hm (by omega)
 rw [hcl,zbs]
 have hir:yQ r.End (r.Data.length:Int)=((E % r.Data.length:Nat):Int):=by rw [hE,zFY]
 simp only [hir,Int.toNat_natCast]
 rw [xE (by omega),zbs,xE (by omega),zbs,xE (by omega),zbs,xE (by omega),zbs,xE (by omega),zbs,xE (by rw [zAD (by omega) (by omega)];omega),zbs,hw]
 rw [show pJ ((fr b).length:Int) (x8 r) (xB r).1=tU r b from rfl,w64 (by omega) (by omega),w64 (by omega) (by omega)]
 unfold jV jU
 rw [e,if_neg (by decide)]
 rw [show r.End.toNat=E by omega]
theorem zOS {r:zO} {b:List Int} (h:vA r) (hb:b.length≤70000):zFJ 200000 r b=some (jV r b):=by
 have hfl:=zCQ b
 unfold zFJ
 rw [zC6 h,zbs]
 by_cases hc:(xB r).2≠0
 ·rw [xW hc,cond_true];unfold jV
  have e:tS r b=(xB r).2:=by unfold tS;rw [if_pos hc]
  rw [e,if_pos hc]
 have p:zHk r b:=zLp h (by omega)
 have:=p.g.n1;have:=p.g.n2;have:=p.g.s0;have:=p.g.se;have:=p.g.e1;have:=p.g.k1;have:=p.g.f0;have:=p.g.fn;have:=p.g.nx
 have hcu:=zF0 p
 have hrl:=zFh h.1
 rw [xD (by omega),cond_false,zGH (by omega),zbs]
 by_cases c1:b.length>2000∨(fr b).length>r.Data.length
 ·have e:tS r b=7:=by unfold tS;rw [if_neg hc,if_pos c1]
  have:(decide (((b.length:Nat):Int)>2000)||decide ((((fr b).length:Nat):Int)>((r.Data.length:Nat):Int)))=true:=by
   simp only [Bool.or_eq_true,decide_eq_true_eq];omega
  rw [this,cond_true];unfold jV;rw [e,if_pos (by decide)]
 have:(decide (((b.length:Nat):Int)>2000)||decide ((((fr b).length:Nat):Int)>((r.Data.length:Nat):Int)))=false:=by
  rw [yI (by omega),yI (by omega)];rfl
 rw [this,cond_false]
 have hfree:zLo r=x8 r:=by unfold zLo x8;rw [if_neg hc]
 by_cases c2:r.Policy=2∧((fr b).length:Int)>x8 r
 ·have e:tS r b=6:=by unfold tS;rw [if_neg hc,if_neg c1,if_pos c2]
  rw [kZ c2.1,cond_true,zHJ h,hfree,zbs,zbs,yW c2.2,cond_true];unfold jV;rw [e,if_pos (by decide)]
 have:(bif (r.Policy==(2:Int)) then ((zDC 200000 r).bind fun r_4=>some (decide ((((fr b).length:Nat):Int)>r_4))) else (some false))=some false:=by
  by_cases c:r.Policy=2
  ·rw [kZ c,cond_true,zHJ h,hfree,zbs,yI (fun hc=>c2 ⟨c,hc⟩)]
  ·rw [zBU c,cond_false]
 rw [this,zbs,cond_false,w64 (x:=r.End+(((fr b).length:Nat):Int)) (by omega) (by omega),w64 (x:=r.Next+1) (by omega) (by omega)]
 by_cases c3:r.End+(fr b).length>1000000000000000∨r.Next≥1000000000000000
 ·have e:tS r b=2:=by unfold tS;rw [if_neg hc,if_neg c1,if_neg c2,if_pos c3]
  have:(decide (r.End+(((fr b).length:Nat):Int)>1000000000000000)||decide (r.Next+1>1000000000000000))=true:=by
   simp only [Bool.or_eq_true,decide_eq_true_eq];omega
  rw [this,cond_true];unfold jV;rw [e,if_pos (by decide)]
 have:(decide (r.End+(((fr b).length:Nat):Int)>1000000000000000)||decide (r.Next+1>1000000000000000))=false:=by
  rw [yI (by omega),yI (by omega)];rfl
 rw [this,cond_false]
 have e:tS r b=0:=by unfold tS;rw [if_neg hc,if_neg c1,if_neg c2,if_neg c3]
 have hK:tU r b≤(xB r).1.length:=zFG
 have hcut:=zFV (xB r).1 (tU r b)
 obtain ⟨_,_,hq,_⟩:=kY (r:=r) (by omega)
 have hu:=zEw p.g
 rw [zCP p.g,zbs,zDr (zAe h.1) (by rw [zAg];omega),hq,zbs,w64 (x:=r.End - r.Start) (by omega) (by omega),w64 (x:=(r.Data.length:Int) - (r.End - r.Start)) (by omega) (by omega)]
 have hl:=zQS (b:=b) (l:=(xB r).1) p.recs (by omega) (xB r).1 200000 0 (x8 r) r.Start rfl (by omega) (by unfold x8;omega) (by omega) (by omega) (by omega) (by unfold x8;omega) (by unfold x8;omega) (by omega)
 rw [Nat.zero_add] at hl
 rw [show zBJ 200000 (fr b) ((xB r).1,true) 200000 0 ((r.Data.length:Int) - (r.End - r.Start)) r.Start=_ from hl,zbs]
 obtain ⟨E,hE⟩:=Int.eq_ofNat_of_zero_le (show 0≤r.End by omega)
 have hw:=zKh (D:=r.Data) (G:=fr b) (E:=E) (by omega) (by omega) (by omega) (by omega)
 rw [hE,hw,zbs]
 simp only
 rw [show pJ ((fr b).length:Int) (x8 r) (xB r).1=tU r b from rfl,← hE,w64 (by omega) (by omega)]
 unfold jV jU
 rw [e,if_neg (by decide)]
 rw [show r.End.toNat=E by omega]
theorem zQG {r:zO} {b:List Int} (h:vA r) (hb:b.length≤70000) (hb1:∀ x∈b,x7 x) (hc:tS r b=0):vA (jU r b):=by
 have h0:(xB r).2=0:=by
  unfold tS at hc;by_cases c:(xB r).2≠0
  ·rw [if_pos c] at hc;exact hc
  ·omega
 have p:zHk r b:=zLp h h0
 have:=p.g.n1;have:=p.g.n2;have:=p.g.s0;have:=p.g.se;have:=p.g.e1;have:=p.g.k1;have:=p.g.f0;have:=p.g.fn;have:=p.g.nx
 have hcu:=zF0 p
 have hrl:=zFh h.1
 have hK:tU r b≤(xB r).1.length:=zFG
 have hcut:=zFV (xB r).1 (tU r b)
 have hfl:=zCQ b
 refine ⟨zR9 h.1 (zSo (by omega) hb1),?_,?_,?_,?_,?_⟩
 ·unfold y2 jU;simp only;omega
 ·unfold y2 jU;simp only;omega
 ·unfold y2 jU;simp only;omega
 ·unfold y2 jU;simp only;omega
 ·unfold jU;simp only;rw [pM];omega
theorem zQM {r:zO} {b:List Int} (h:vA r) (hb:b.length≤70000) (hb1:∀ x∈b,x7 x):vA (jV r b).1:=by
 unfold jV
 by_cases hc:tS r b≠0
 ·rw [if_pos hc];exact h
 ·rw [if_neg hc];exact zQG h hb hb1 (by omega)
theorem zNA {D G:List Int} {E:Nat} (hD:0<D.length) (hG:G.length≤D.length):ctn (wrt D (E % D.length) G) E G.length=G:=by
 apply List.ext_getElem?
 intro j
 by_cases hj:j<G.length
 ·have ha:=Nat.mod_lt E hD
  have hm:=Nat.mod_lt (E+j) hD
  rw [zHh hj,pM,List.getD_eq_getElem?_getD,zEu hm,zCw hj]
  have e:off D.length (E % D.length) ((E+j) % D.length)=j:=by
   rw [zFU hD (by omega)];unfold off
   split<;>split<;>omega
  rw [e,if_pos hj];rfl
 ·rw [List.getElem?_eq_none (by rw [zDl];omega),List.getElem?_eq_none (by omega)]
theorem zNF {D G:List Int} {S u:Nat} (hD:0<D.length) (hG:u+G.length≤D.length) (hG1:1≤G.length):ctn (wrt D ((S+u) % D.length) G) S u=ctn D S u:=by
 apply List.ext_getElem?
 intro j
 by_cases hj:j<u
 ·have hs:=Nat.mod_lt (S+j) hD
  rw [zHh hj,zHh hj,pM,List.getD_eq_getElem?_getD,zEu hs]
  have e:¬off D.length ((S+u) % D.length) ((S+j) % D.length)<G.length:=by
   rw [show S+u=(S+j)+(u - j) by omega,zFU (S:=S+j) (j:=u - j) hD (by omega)];unfold off
   split<;>split<;>omega
  rw [if_neg e];rfl
 ·rw [List.getElem?_eq_none (by rw [zDl];omega),List.getElem?_eq_none (by rw [zDl];omega)]
theorem zOE {f:Int} {l:List (List Int)} {x8:Int} (h:f≤x8):pJ f x8 l=0:=by
 cases l with
 | nil=>rfl
 | cons x l=>unfold pJ;rw [if_neg (by omega)]
theorem zQT (x:List Int):wP [x]=fr x:=by simp [wP]
theorem zKM {r:zO} {b:List Int} (h:vA r) (hc:tS r b=0):(xB r).2=0∧b.length≤2000∧(fr b).length≤r.Data.length∧(r.Policy=2→((fr b).length:Int)≤x8 r)∧r.End+(fr b).length≤1000000000000000∧r.Next<1000000000000000:=by
 unfold tS at hc
 by_cases c:(xB r).2≠0
 ·rw [if_pos c] at hc;omega
 rw [if_neg c] at hc
 by_cases c1:b.length>2000∨(fr b).length>r.Data.length
 ·rw [if_pos c1] at hc;omega
 rw [if_neg c1] at hc
 by_cases c2:r.Policy=2∧((fr b).length:Int)>x8 r
 ·rw [if_pos c2] at hc;omega
 rw [if_neg c2] at hc
 by_cases c3:r.End+(fr b).length>1000000000000000∨r.Next≥1000000000000000
 ·rw [if_pos c3] at hc;omega
 exact ⟨by omega,by omega,by omega,fun hp=>by omega,by omega,by omega⟩
theorem zMn {r:zO} {l:List (List Int)} (hp:¬jO r) (g:zFe r) (he:jQ (uA r)=(l,true)) (hl:(l.length:Int)=r.Next - r.First):xB r=(l,0):=by
 unfold xB
 rw [if_neg hp,if_neg (zIo g),he]
 simp only
 rw [if_neg (by simp;omega)]
theorem zOW {r:zO} {b:List Int} (h:vA r) (hb1:∀ x∈b,x7 x) (hc:tS r b=0) :
  xB (jU r b)=((xB r).1.drop (tU r b)++[b],0)∧x8 (jU r b)=x8 r+(wP ((xB r).1.take (tU r b))).length - (fr b).length:=by
 obtain ⟨h0,h1,h2,h3,h4,h5⟩:=zKM h hc
 have p:zHk r b:=zLp h h0
 have:=p.g.n1;have:=p.g.n2;have:=p.g.s0;have:=p.g.se;have:=p.g.e1;have:=p.g.k1;have:=p.g.f0;have:=p.g.fn;have:=p.g.nx
 have hcu:=zF0 p
 have hK:tU r b≤(xB r).1.length:=zFG
 have hcut:=zFV (xB r).1 (tU r b)
 have hfl:=zCQ b
 have hroom:((fr b).length:Int)≤x8 r+(wP ((xB r).1.take (tU r b))).length:=zOP _ _ _ (by unfold x8;omega)
 have hroomD:x8 r=(r.Data.length:Int) - (r.End - r.Start):=rfl
 have hcat:=p.cat
 have hcnt:=p.cnt
 refine ⟨zMn p.pol ?_ ?_ ?_,?_⟩
 ·constructor<;>unfold jU<;>simp only [pM]<;>omega
 ·have:uA (jU r b)=wP ((xB r).1.drop (tU r b)++[b]):=by
   unfold uA used jU
   simp only
   generalize hB:(wP ((xB r).1.take (tU r b))).length=B at *
   generalize hU:(wP ((xB r).1.drop (tU r b))).length=U at *
   rw [show (r.End+((fr b).length:Int) - (r.Start+(B:Int))).toNat=U+(fr b).length by omega,zOf]
   have e1:(r.Start+(B:Int)).toNat+U=r.End.toNat:=by omega
   rw [e1,zNA (by omega) h2,← e1,zNF (by omega) (by omega) (by omega),zIg,zQT]
   congr 1
   unfold uA used at hcat
   rw [show (r.End - r.Start).toNat=B+U by omega,zOf,← List.take_append_drop (tU r b) (xB r).1,zIg] at hcat
   have:=List.append_inj_right hcat (by rw [zDl];exact hB.symm)
   rw [show (r.Start+(B:Int)).toNat=r.Start.toNat+B by omega];exact this
  rw [this]
  refine zO7 ?_
  intro x hx
  rcases List.mem_append.1 hx with hx | hx
  ·exact p.recs x (List.mem_of_mem_drop hx)
  ·rw [List.mem_singleton.1 hx];exact ⟨h1,hb1⟩
 ·unfold jU;simp only [List.length_append,List.length_drop,List.length_singleton];omega
 ·unfold x8 jU;simp only [pM];omega
def shift (r:zO) (d:Int):zO:=⟨r.Policy,r.Data,r.Start+d,r.End+d,r.First,r.Next⟩
end Go.Ab
