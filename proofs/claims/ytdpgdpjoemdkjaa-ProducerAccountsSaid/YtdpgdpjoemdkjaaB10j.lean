/- Plain laws of the functions w9 this seat's, laid anew from another seat's text. No conditions but those that the theorems name. -/
import Derived.Test.YtdpgdpjoemdkjaaP10xD
import Derived.Test.YtdpgdpjoemdkjaaB10a
import Derived.Test.YtdpgdpjoemdkjaaB10h
import Derived.Test.YtdpgdpjoemdkjaaB10i
namespace Go.Ab
open Go
set_option linter.unusedVariables false
theorem zMq (b:List Int):xI 9 (xB (b.length:Int))++b=fr b:=rfl
def xF (r:zB):Int:=(r.Data.length:Int) - (r.End - r.Start)
def tP (r:zB) (b:List Int):Int:=if (yF r).2≠0 then (yF r).2 else if b.length>2000∨(fr b).length>r.Data.length then 7
 else if r.Policy=2∧((fr b).length:Int)>xF r then 6 else if r.End+(fr b).length>1000000000000000∨r.Next≥1000000000000000 then 2 else 0
def vL (r:zB) (b:List Int):Nat:=jL (fr b).length (xF r) (yF r).1
def v8 (r:zB) (b:List Int):zB:=⟨r.Policy,wrt r.Data (r.End.toNat % r.Data.length) (fr b),r.Start+(xH ((yF r).1.take (vL r b))).length,r.End+(fr b).length,r.First+vL r b,r.Next+1⟩
def qI (r:zB) (b:List Int):zB×Int×Int:=if tP r b≠0 then (r,0,tP r b) else (v8 r b,vL r b,0)
structure zER (r:zB) (b:List Int):Prop where
 g:zCb r
 pol:¬tT r
 recs:∀ x∈(yF r).1,pF x
 cat:x5 r=xH (yF r).1
 cnt:((yF r).1.length:Int)=r.Next - r.First
theorem zIP {r:zB} {b:List Int} (h:wG r) (hc:(yF r).2=0):zER r b:=by
 obtain ⟨h1,h2,h3,h4⟩:=jO hc
 obtain ⟨h5,h6⟩:=zDp (pX h.1) h3
 exact ⟨h2,h1,h6,h5,h4⟩
theorem zDH {r:zB} {b:List Int} (p:zER r b):((xH (yF r).1).length:Int)=r.End - r.Start:=by
 have:=p.g.se
 rw [← p.cat,zAb];unfold used;omega
theorem zC5 {r:zB} {b:List Int}:vL r b≤(yF r).1.length:=zK6 _ _ _
theorem zIr {r:zB} {b:List Int} (h:wG r) (hb:b.length≤70000):zAZ 200000 r b=some (qI r b):=by
 have hfl:=zA9 b
 unfold zAZ
 rw [zBc h,Option.bind_some]
 by_cases hc:(yF r).2≠0
 ·rw [wA hc,cond_true];unfold qI
  have e:tP r b=(yF r).2:=by unfold tP;rw [if_pos hc]
  rw [e,if_pos hc]
 have p:zER r b:=zIP h (by omega)
 have:=p.g.n1;have:=p.g.n2;have:=p.g.s0;have:=p.g.se;have:=p.g.e1;have:=p.g.k1;have:=p.g.f0;have:=p.g.fn;have:=p.g.nx
 have hcu:=zDH p
 have hrl:=zCv h.1
 rw [xS (by omega),cond_false,zDz (by omega),Option.bind_some]
 simp -implicitDefEqProofs only [zMq]
 have hv:=qN 9 (xB (b.length:Int))
 rw [yX (by omega),Option.bind_some,w64 (x:=r.End - r.Start) (by omega) (by omega),w64 (x:=(r.Data.length:Int) - (r.End - r.Start)) (by omega) (by omega)]
 by_cases c1:b.length>2000∨(fr b).length>r.Data.length
 ·have e:tP r b=7:=by unfold tP;rw [if_neg hc,if_pos c1]
  have:(decide (((b.length:Nat):Int)>2000)||decide ((((fr b).length:Nat):Int)>((r.Data.length:Nat):Int)))=true:=by
   simp only [Bool.or_eq_true,decide_eq_true_eq];omega
  rw [this,cond_true];unfold qI;rw [e,if_pos (by decide)]
 have:(decide (((b.length:Nat):Int)>2000)||decide ((((fr b).length:Nat):Int)>((r.Data.length:Nat):Int)))=false:=by
  rw [z7 (by omega),z7 (by omega)];rfl
 rw [this,cond_false]
 by_cases c2:r.Policy=2∧((fr b).length:Int)>xF r
 ·have e:tP r b=6:=by unfold tP;rw [if_neg hc,if_neg c1,if_pos c2]
  unfold xF at c2
  rw [j7 c2.1,yH c2.2,Bool.true_and,cond_true];unfold qI;rw [e,if_pos (by decide)]
 have:((r.Policy==(2:Int))&&decide ((((fr b).length:Nat):Int)>(r.Data.length:Int) - (r.End - r.Start)))=false:=by
  unfold xF at c2
  by_cases c:r.Policy=2
  ·rw [z7 (fun hc=>c2 ⟨c,hc⟩),Bool.and_false]
  ·rw [zBU c,Bool.false_and]
 rw [this,cond_false,w64 (x:=r.End+(((fr b).length:Nat):Int)) (by omega) (by omega)]
 by_cases c3:r.End+(fr b).length>1000000000000000∨r.Next≥1000000000000000
 ·have e:tP r b=2:=by unfold tP;rw [if_neg hc,if_neg c1,if_neg c2,if_pos c3]
  have:(decide (r.End+(((fr b).length:Nat):Int)>1000000000000000)||decide (r.Next≥1000000000000000))=true:=by
   simpa using c3
  rw [this,cond_true];unfold qI;rw [e,if_pos (by decide)]
 have:(decide (r.End+(((fr b).length:Nat):Int)>1000000000000000)||decide (r.Next≥1000000000000000))=false:=by
  rw [z7 (by omega),z7 (by omega)];rfl
 rw [this,cond_false]
 have e:tP r b=0:=by unfold tP;rw [if_neg hc,if_neg c1,if_neg c2,if_neg c3]
 have hK:vL r b≤(yF r).1.length:=zC5
 have hcut:=zDE (yF r).1 (vL r b)
 have hl:=zJ9 (b:=b) (e:=(yF r).2) (l:=(yF r).1) p.recs (by omega) (yF r).1 200000 0 (xF r) r.Start rfl (by omega) (by unfold xF;omega) (by omega) (by omega) (by omega) (by unfold xF;omega) (by unfold xF;omega) (by omega)
 rw [Nat.zero_add] at hl
 rw [show j2 200000 b (yF r) (xI 9 (xB (b.length:Int))) 200000 ((r.Data.length:Int) - (r.End - r.Start)) 0 r.Start=_ from hl,Option.bind_some]
 have hcl:vO r.Data=some r.Data:=by
  unfold vO
  rw [yX (by simp only [List.length_nil];omega),Option.bind_some,List.nil_append]
 obtain ⟨E,hE⟩:=Int.eq_ofNat_of_zero_le (show 0≤r.End by omega)
 have hm:=Nat.mod_lt E (show 0<r.Data.length by omega)
 have hw:=zLK (D:=r.Data) (G:=fr b) hm (by omega)
 rw [hcl,Option.bind_some]
 have hir:z0 r.End (r.Data.length:Int)=((E % r.Data.length:Nat):Int):=by rw [hE,zHv]
 simp only [hir,Int.toNat_natCast]
 rw [yX (by omega),Option.bind_some,yX (by omega),Option.bind_some,yX (by omega),Option.bind_some,yX (by omega),Option.bind_some,yX (by omega),Option.bind_some,yX (by rw [jD (by omega) (by omega)];omega),Option.bind_some,hw]
 rw [show jL ((fr b).length:Int) (xF r) (yF r).1=vL r b from rfl,w64 (by omega) (by omega),w64 (by omega) (by omega)]
 unfold qI v8
 rw [e,if_neg (by decide)]
 rw [show r.End.toNat=E by omega]
theorem zLA {r:zB} {b:List Int} (h:wG r) (hb:b.length≤70000) (hb1:∀ x∈b,yW x) (hc:tP r b=0):wG (v8 r b):=by
 have h0:(yF r).2=0:=by
  unfold tP at hc;by_cases c:(yF r).2≠0
  ·rw [if_pos c] at hc;exact hc
  ·omega
 have p:zER r b:=zIP h h0
 have:=p.g.n1;have:=p.g.n2;have:=p.g.s0;have:=p.g.se;have:=p.g.e1;have:=p.g.k1;have:=p.g.f0;have:=p.g.fn;have:=p.g.nx
 have hcu:=zDH p
 have hrl:=zCv h.1
 have hK:vL r b≤(yF r).1.length:=zC5
 have hcut:=zDE (yF r).1 (vL r b)
 have hfl:=zA9 b
 refine ⟨zMw h.1 (zMM (by omega) hb1),?_,?_,?_,?_,?_⟩
 ·unfold z8 v8;simp only;omega
 ·unfold z8 v8;simp only;omega
 ·unfold z8 v8;simp only;omega
 ·unfold z8 v8;simp only;omega
 ·unfold v8;simp only;rw [nP];omega
theorem zKT {r:zB} {b:List Int} (h:wG r) (hb:b.length≤70000) (hb1:∀ x∈b,yW x):wG (qI r b).1:=by
 unfold qI
 by_cases hc:tP r b≠0
 ·rw [if_pos hc];exact h
 ·rw [if_neg hc];exact zLA h hb hb1 (by omega)
theorem zId {D G:List Int} {E:Nat} (hD:0<D.length) (hG:G.length≤D.length):ctn (wrt D (E % D.length) G) E G.length=G:=by
 apply List.ext_getElem?
 intro j
 by_cases hj:j<G.length
 ·have ha:=Nat.mod_lt E hD
  have hm:=Nat.mod_lt (E+j) hD
  rw [zDd hj,nP,List.getD_eq_getElem?_getD,zFr hm,zBk hj]
  have e:off D.length (E % D.length) ((E+j) % D.length)=j:=by
   rw [zDV hD (by omega)];unfold off
   split<;>split<;>omega
  rw [e,if_pos hj];rfl
 ·rw [List.getElem?_eq_none (by rw [zAS];omega),List.getElem?_eq_none (by omega)]
theorem zIf {D G:List Int} {S u:Nat} (hD:0<D.length) (hG:u+G.length≤D.length) (hG1:1≤G.length):ctn (wrt D ((S+u) % D.length) G) S u=ctn D S u:=by
 apply List.ext_getElem?
 intro j
 by_cases hj:j<u
 ·have hs:=Nat.mod_lt (S+j) hD
  rw [zDd hj,zDd hj,nP,List.getD_eq_getElem?_getD,zFr hs]
  have e:¬off D.length ((S+u) % D.length) ((S+j) % D.length)<G.length:=by
   rw [show S+u=(S+j)+(u - j) by omega,zDV (S:=S+j) (j:=u - j) hD (by omega)];unfold off
   split<;>split<;>omega
  rw [if_neg e];rfl
 ·rw [List.getElem?_eq_none (by rw [zAS];omega),List.getElem?_eq_none (by rw [zAS];omega)]
theorem zIQ {f:Int} {l:List (List Int)} {xF:Int} (h:f≤xF):jL f xF l=0:=by
 cases l with
 | nil=>rfl
 | cons x l=>unfold jL;rw [if_neg (by omega)]
theorem zLe (x:List Int):xH [x]=fr x:=by simp [xH]
theorem zFG {r:zB} {b:List Int} (h:wG r) (hc:tP r b=0):(yF r).2=0∧b.length≤2000∧(fr b).length≤r.Data.length∧(r.Policy=2→((fr b).length:Int)≤xF r)∧r.End+(fr b).length≤1000000000000000∧r.Next<1000000000000000:=by
 unfold tP at hc
 by_cases c:(yF r).2≠0
 ·rw [if_pos c] at hc;omega
 rw [if_neg c] at hc
 by_cases c1:b.length>2000∨(fr b).length>r.Data.length
 ·rw [if_pos c1] at hc;omega
 rw [if_neg c1] at hc
 by_cases c2:r.Policy=2∧((fr b).length:Int)>xF r
 ·rw [if_pos c2] at hc;omega
 rw [if_neg c2] at hc
 by_cases c3:r.End+(fr b).length>1000000000000000∨r.Next≥1000000000000000
 ·rw [if_pos c3] at hc;omega
 exact ⟨by omega,by omega,by omega,fun hp=>by omega,by omega,by omega⟩
theorem zGx {r:zB} {l:List (List Int)} (hp:¬tT r) (g:zCb r) (he:uT (x5 r)=(l,true)) (hl:(l.length:Int)=r.Next - r.First):yF r=(l,0):=by
 unfold yF
 rw [if_neg hp,if_neg (zDY g),he]
 simp only
 rw [if_neg (by simp;omega)]
theorem zJz {r:zB} {b:List Int} (h:wG r) (hb1:∀ x∈b,yW x) (hc:tP r b=0) :
  yF (v8 r b)=((yF r).1.drop (vL r b)++[b],0)∧xF (v8 r b)=xF r+(xH ((yF r).1.take (vL r b))).length - (fr b).length:=by
 obtain ⟨h0,h1,h2,h3,h4,h5⟩:=zFG h hc
 have p:zER r b:=zIP h h0
 have:=p.g.n1;have:=p.g.n2;have:=p.g.s0;have:=p.g.se;have:=p.g.e1;have:=p.g.k1;have:=p.g.f0;have:=p.g.fn;have:=p.g.nx
 have hcu:=zDH p
 have hK:vL r b≤(yF r).1.length:=zC5
 have hcut:=zDE (yF r).1 (vL r b)
 have hfl:=zA9 b
 have hroom:((fr b).length:Int)≤xF r+(xH ((yF r).1.take (vL r b))).length:=zIR _ _ _ (by unfold xF;omega)
 have hroomD:xF r=(r.Data.length:Int) - (r.End - r.Start):=rfl
 have hcat:=p.cat
 have hcnt:=p.cnt
 refine ⟨zGx p.pol ?_ ?_ ?_,?_⟩
 ·constructor<;>unfold v8<;>simp only [nP]<;>omega
 ·have:x5 (v8 r b)=xH ((yF r).1.drop (vL r b)++[b]):=by
   unfold x5 used v8
   simp only
   generalize hB:(xH ((yF r).1.take (vL r b))).length=B at *
   generalize hU:(xH ((yF r).1.drop (vL r b))).length=U at *
   rw [show (r.End+((fr b).length:Int) - (r.Start+(B:Int))).toNat=U+(fr b).length by omega,zIx]
   have e1:(r.Start+(B:Int)).toNat+U=r.End.toNat:=by omega
   rw [e1,zId (by omega) h2,← e1,zIf (by omega) (by omega) (by omega),zD6,zLe]
   congr 1
   unfold x5 used at hcat
   rw [show (r.End - r.Start).toNat=B+U by omega,zIx,← List.take_append_drop (vL r b) (yF r).1,zD6] at hcat
   have:=List.append_inj_right hcat (by rw [zAS];exact hB.symm)
   rw [show (r.Start+(B:Int)).toNat=r.Start.toNat+B by omega];exact this
  rw [this]
  refine zJf ?_
  intro x hx
  rcases List.mem_append.1 hx with hx | hx
  ·exact p.recs x (List.mem_of_mem_drop hx)
  ·rw [List.mem_singleton.1 hx];exact ⟨h1,hb1⟩
 ·unfold v8;simp only [List.length_append,List.length_drop,List.length_singleton];omega
 ·unfold xF v8;simp only [nP];omega
def shift (r:zB) (d:Int):zB:=⟨r.Policy,r.Data,r.Start+d,r.End+d,r.First,r.Next⟩
end Go.Ab
