/- How the parts of a thread are filled. No conditions but the bounds that the theorems name. -/
import Derived.Test.YtbifmbdcejggkaaC16b
namespace Go.Ab
open Go
set_option linter.unusedVariables false
def zBB (out:List zB) (e:zK):List zB:=ini out++[⟨(lst out).Thread,(lst out).Serial,(lst out).Lost,(lst out).Events++[e]⟩]
def fE (out:List zB) (e:zK):List zB:=zBB (if (lst out).Events.length=1000 then out++[⟨(lst out).Thread,(lst out).Serial+1000,0,[]⟩] else out) e
def pD (out:List zB) (p:zB):List zB:=if p.Lost>0∨out.length=0 then out++[⟨p.Thread,p.Serial,p.Lost,[]⟩] else out
def zCE (out:List zB) (p:zB):List zB:=p.Events.foldl fE (pD out p)
def zD6 (k:Int) (out:List zB) (p:zB):List zB:=if p.Thread=k then zCE out p else out
def wQ (k:Int) (l:List zB):List zB:=l.foldl (zD6 k) []
theorem zDu (out:List zB) (e:zK):0<(zBB out e).length:=by simp [zBB]
theorem t4 (out:List zB) (e:zK):lst (zBB out e)=⟨(lst out).Thread,(lst out).Serial,(lst out).Lost,(lst out).Events++[e]⟩:=yV _ _
theorem zFR (out:List zB) (e:zK):ini (zBB out e)=ini out:=pY _ _
theorem zH5:∀ (xs:List zK) (out:List zB),0<out.length→(lst out).Events.length+xs.length≤1000→xs.foldl fE out=ini out++[⟨(lst out).Thread,(lst out).Serial,(lst out).Lost,(lst out).Events++xs⟩]
 | [],out,h,_=>by
  simp only [List.foldl_nil,List.append_nil]
  exact zCk h
 | x::xs,out,h,hl=>by
  simp only [List.length_cons] at hl
  have hf:fE out x=zBB out x:=by unfold fE;rw [if_neg (by omega)]
  rw [List.foldl_cons,hf,zH5 xs (zBB out x) (zDu _ _) (by rw [t4];simp;omega),t4,zFR]
  simp
theorem zMh {out:List zB} {x:zK} {xs:List zK} (h:(lst out).Events.length=1000) :
  (x::xs).foldl fE out=(x::xs).foldl fE (out++[⟨(lst out).Thread,(lst out).Serial+1000,0,[]⟩]):=by
 rw [List.foldl_cons,List.foldl_cons]
 congr 1
 unfold fE
 rw [if_pos h,yV,if_neg (by simp)]
theorem zIg:∀ (n:Nat) (evs:List zK) (out:List zB),0<out.length→(lst out).Events.length≤1000→0≤(lst out).Serial→(lst out).Serial+(lst out).Events.length+evs.length≤2000000000000000 →
  out.length+2 * evs.length+(if (lst out).Events.length=1000 then 1 else 0)≤2000000→evs.length≤100000→2 * evs.length+(if (lst out).Events.length=1000 then 1 else 0)<n→zAf 200000 n evs out=some (evs.foldl fE out):=by
 intro n
 induction n with
 | zero=>intro evs out _ _ _ _ _ _ h;omega
 | succ n ih =>
  intro evs out h1 h2 h3 h4 h5 h6 hn
  show jE _ _ _ _=_
  unfold jE
  cases evs with
  | nil=>rfl
  | cons x xs =>
   generalize hE:x::xs=evs at *
   have hlen:0<evs.length:=by rw [← hE];simp
   have hw:zR (((out.length:Nat):Int) - 1)=((out.length - 1:Nat):Int):=by rw [w64 (by omega) (by omega)];omega
   rw [yK (by omega),cond_true,hw,u1 (by omega),Option.bind_some,u1 (by omega),Option.bind_some]
   have hm:wJ (zR ((1000:Int) - (((lst out).Events.length:Nat):Int))) ((evs.length:Nat):Int)=((min (1000 - (lst out).Events.length) evs.length:Nat):Int):=by
    rw [w64 (by omega) (by omega)]
    unfold wJ
    split<;>omega
   rw [hm]
   by_cases hf:(lst out).Events.length=1000
   ·rw [vJ (by omega),cond_true,u1 (by omega)]
    simp only [Option.bind_some]
    rw [w64 (by omega) (by omega),ih _ _ (by simp) (by rw [yV];simp) (by rw [yV];simp;omega)
     (by rw [yV];simp;omega) (by rw [yV,if_neg (by simp)];rw [if_pos hf] at h5;simp;omega) h6 (by rw [yV,if_neg (by simp)];rw [if_pos hf] at hn;omega)]
    rw [← hE]
    exact congrArg some (zMh hf).symm
   ·rw [if_neg hf] at hn h5
    rw [tH (by omega),cond_false]
    generalize hmm:min (1000 - (lst out).Events.length) evs.length=m
    have hm1:0<m:=by omega
    have hm2:m≤evs.length:=by omega
    have hm3:(lst out).Events.length+m≤1000:=by omega
    have hs1:sub evs 0 ((m:Nat):Int)=evs.take m:=by rw [zMK (by omega)];simp
    have hs2:sub evs ((m:Nat):Int) ((evs.length:Nat):Int)=evs.drop m:=by rw [zMr (by omega)];simp
    rw [hs1,hs2]
    have htl:(evs.take m).length=m:=by rw [List.length_take];omega
    have hdl:(evs.drop m).length=evs.length - m:=by simp
    rw [u1 (show (0:Int)≤((m:Nat):Int)∧((m:Nat):Int)≤((evs.length:Nat):Int) by omega),u1 (show ((lst out).Events.length+(evs.take m).length) * 72≤140737488355328 by rw [htl];omega)]
    simp only [Option.bind_some]
    have hg:ini out++[⟨(lst out).Thread,(lst out).Serial,(lst out).Lost,(lst out).Events++evs.take m⟩]=(evs.take m).foldl fE out:=(zH5 _ _ h1 (by rw [htl];exact hm3)).symm
    rw [ih _ _ (by simp) (by rw [yV];simp only [List.length_append,htl];exact hm3) (by rw [yV];exact h3)
     (by rw [yV];simp only [List.length_append,htl,hdl];omega) (by rw [yV];simp only [List.length_append,List.length_singleton,zDn,htl,hdl];split<;>omega) (by omega) (by rw [yV];simp only [List.length_append,htl,hdl];split<;>omega),hg,← List.foldl_append,List.take_append_drop]
theorem zKt {out:List zB} {evs:List zK} (h1:0<out.length) (h2:(lst out).Events.length≤1000) (h3:0≤(lst out).Serial) (h4:(lst out).Serial+(lst out).Events.length+evs.length≤2000000000000000)
  (h5:out.length+evs.length≤1000000) (h6:evs.length≤50000):zCA 200000 out evs=some (evs.foldl fE out):=by
 unfold zCA
 rw [zIg 200000 evs out h1 h2 h3 h4 (by split<;>omega) (by omega) (by split<;>omega)];rfl
structure zER (k s:Int) (out:List zB):Prop where
 thread:(lst out).Thread=k
 serial:(lst out).Serial+(lst out).Events.length=s
 len:(lst out).Events.length≤1000
 low:0≤(lst out).Serial
theorem zOj {k s:Int} {out:List zB} (h:zER k s out) (e:zK):zER k (s+1) (fE out e)∧(fE out e).length≤max out.length 1+1∧0<(fE out e).length∧0<(lst (fE out e)).Events.length:=by
 obtain ⟨h1,h2,h3,h4⟩:=h
 unfold fE
 split
 ·rename_i hf
  refine ⟨⟨by rw [t4,yV];exact h1,by rw [t4,yV];simp;omega,by rw [t4,yV];simp,by rw [t4,yV];simp;omega⟩,?_,zDu _ _,by rw [t4];simp⟩
  simp [zBB,pY];omega
 ·rename_i hf
  refine ⟨⟨by rw [t4];exact h1,by rw [t4];simp;omega,by rw [t4];simp;omega,by rw [t4];exact h4⟩,?_,zDu _ _,by rw [t4];simp⟩
  simp [zBB,zDn];omega
theorem zCX {k:Int}:∀ (xs:List zK) (s:Int) (out:List zB),zER k s out→0<out.length→zER k (s+xs.length) (xs.foldl fE out)∧(xs.foldl fE out).length≤out.length+xs.length∧0<(xs.foldl fE out).length
 | [],s,out,h,h0=>by simpa using ⟨h,h0⟩
 | x::xs,s,out,h,h0=>by
  obtain ⟨k1,k2,k3,_⟩:=zOj h x
  obtain ⟨q1,q2,q3⟩:=zCX xs _ _ k1 k3
  rw [List.foldl_cons]
  refine ⟨?_,by simp only [List.length_cons];omega,q3⟩
  rw [show s+((x::xs).length:Int)=s+1+xs.length by simp;omega]
  exact q1
def zFS (out:List zB) (p:zB):Prop:=0≤p.Serial∧(out.length=0∨(lst out).Events.length≤1000∧(p.Lost=0→zER p.Thread p.Serial out))
theorem zCY {out:List zB} {p:zB} (h:zFS out p) (hL:0≤p.Lost):zER p.Thread p.Serial (pD out p)∧0<(pD out p).length∧(pD out p).length≤out.length+1:=by
 unfold pD
 by_cases hc:p.Lost>0∨out.length=0
 ·rw [if_pos hc]
  exact ⟨⟨by rw [yV],by rw [yV];simp,by rw [yV];simp,by rw [yV];exact h.1⟩,by simp,by simp⟩
 ·rw [if_neg hc]
  rcases h.2 with h0 | ⟨_,h1⟩
  ·omega
  ·exact ⟨h1 (by omega),by omega,by omega⟩
theorem zMQ {out:List zB} {p:zB} (h:zFS out p) (hL:0≤p.Lost):zER p.Thread (p.Serial+p.Events.length) (zCE out p)∧(zCE out p).length≤out.length+1+p.Events.length∧0<(zCE out p).length:=by
 obtain ⟨h1,h2,h3⟩:=zCY h hL
 obtain ⟨q1,q2,q3⟩:=zCX p.Events _ _ h1 h2
 exact ⟨q1,by unfold zCE;omega,q3⟩
def zGt (k ser lost:Int) (out:List zB) (e:zK):List zB:=zBB (if out.length=0∨lost>0∨(lst out).Events.length=1000 then out++[⟨k,ser,lost,[]⟩] else out) e
def zAz (out:List zB) (p:zB) (i:Nat):List zB:=if i=0 then out else (p.Events.take i).foldl fE (pD out p)
theorem zNb {out:List zB} {p:zB} (h:zFS out p) (hL:0≤p.Lost) {i:Nat} {e:zK} (he:p.Events[i]?=some e) :
  zGt p.Thread (p.Serial+i) (if i=0 then p.Lost else 0) (zAz out p i) e=zAz out p (i+1):=by
 have hi:=(List.getElem?_eq_some_iff.1 he).1
 have hr:zAz out p (i+1)=fE ((p.Events.take i).foldl fE (pD out p)) e:=by
  unfold zAz
  rw [if_neg (by omega),List.take_add_one,he,List.foldl_append];rfl
 rw [hr]
 generalize hX:(p.Events.take i).foldl fE (pD out p)=X
 unfold zGt fE
 congr 1
 cases i with
 | zero =>
  have hX':X=pD out p:=hX.symm
  subst hX'
  rw [show zAz out p 0=out from rfl,if_pos (rfl:0=0)]
  by_cases hc:p.Lost>0∨out.length=0
  ·rw [show pD out p=out++[⟨p.Thread,p.Serial,p.Lost,[]⟩] from if_pos hc,if_pos (by rcases hc with hc | hc;exact .inr (.inl hc);exact .inl hc)]
   have hq:¬ (lst (out++[(⟨p.Thread,p.Serial,p.Lost,[]⟩:zB)])).Events.length=1000:=by rw [yV];simp
   rw [if_neg hq];simp
  ·rw [show pD out p=out from if_neg hc]
   rcases h.2 with h0 | ⟨_,h1⟩
   ·omega
   ·obtain ⟨q1,q2,_,_⟩:=h1 (by omega)
    by_cases hf:(lst out).Events.length=1000
    ·rw [if_pos (.inr (.inr hf)),if_pos hf]
     have:p.Lost=0:=by omega
     rw [this,q1,← q2,hf];simp
    ·rw [if_neg (by rintro (h0 | h0 | h0)<;>omega),if_neg hf]
 | succ j =>
  rw [show (if j+1=0 then p.Lost else 0)=0 from if_neg (by omega)]
  rw [show zAz out p (j+1)=X from by unfold zAz;rw [if_neg (by omega)];exact hX]
  obtain ⟨h1,h2,h3⟩:=zCY h hL
  obtain ⟨⟨q1,q2,_,_⟩,_,q5⟩:=zCX (p.Events.take (j+1)) _ _ h1 h2
  rw [hX] at q1 q2 q5
  rw [List.length_take,Nat.min_eq_left (by omega)] at q2
  by_cases hf:(lst X).Events.length=1000
  ·rw [if_pos (show X.length=0∨(0:Int)>0∨(lst X).Events.length=1000 from .inr (.inr hf)),if_pos hf,q1,← q2,hf];rfl
  ·rw [if_neg (by rintro (h0 | h0 | h0)<;>omega),if_neg hf]
theorem zNl {out:List zB} {p:zB} (h:zFS out p) (hL:0≤p.Lost) (i:Nat):(zAz out p i).length≤out.length+1+p.Events.length∧(out.length=0∧i=0∨(lst (zAz out p i)).Events.length≤1000):=by
 unfold zAz
 by_cases hi:i=0
 ·rw [if_pos hi]
  exact ⟨by omega,by rcases h.2 with h0 | h0;exact .inl ⟨h0,hi⟩;exact .inr h0.1⟩
 ·rw [if_neg hi]
  obtain ⟨h1,h2,h3⟩:=zCY h hL
  obtain ⟨⟨_,_,q3,_⟩,q4,_⟩:=zCX (p.Events.take i) _ _ h1 h2
  rw [List.length_take] at q4
  exact ⟨by omega,.inr q3⟩
theorem zLI {k:Int} {l:List zB} {i:Nat} {p:zB} {j:Nat} {e:zK} {out:List zB} (hi:l[i]?=some p) (hj:p.Events[j]?=some e) (hp:uC p=0) (hk:p.Thread=k)
  (ho:out.length≤1000000) (hc:out.length=0∨(lst out).Events.length≤1000) (rec:Int→List zB→Option (List zB)) :
  u9 200000 k l (i:Nat) rec (j:Nat) out=rec ((j+1:Nat):Int) (zGt k (p.Serial+j) (if j=0 then p.Lost else 0) out e):=by
 have hz:=uR hp
 have hjl:=(List.getElem?_eq_some_iff.1 hj).1
 unfold u9
 simp only [nI,hi,hj,Option.bind_some,wI (show j<9223372036854775807 by omega)]
 rw [yK (by omega),cond_true]
 have h5:(bif ((j:Int)==(0:Int)) then some p.Lost else some (0:Int))=some (if j=0 then p.Lost else 0):=by
  by_cases h:j=0
  ·rw [if_pos h,vJ (by omega)];rfl
  ·rw [if_neg h,tH (by omega)];rfl
 rw [h5,Option.bind_some]
 generalize hlo:(if j=0 then p.Lost else 0)=lo
 have hw:∀ m:Nat,0<m→m≤1000001→zR ((m:Int) - 1)=((m - 1:Nat):Int):=fun m h1 h2=>by rw [w64 (by omega) (by omega)];omega
 have hcond:(bif (((out.length:Nat):Int)==(0:Int)) then some true else bif decide (lo>(0:Int)) then some true else
   ((need ((0:Int)≤(zR (((out.length:Nat):Int) - (1:Int)))∧(zR (((out.length:Nat):Int) - (1:Int)))<((out.length:Nat):Int))).bind fun _=>(need ((zR (((out.length:Nat):Int) - (1:Int))).toNat+1=out.length)).bind fun _=>some ((((lst out).Events.length:Nat):Int)==(1000:Int)))) =
   some (decide (out.length=0∨lo>0∨(lst out).Events.length=1000)):=by
  by_cases h1:out.length=0
  ·rw [vJ (by omega),yK (show out.length=0∨lo>0∨(lst out).Events.length=1000 from .inl h1)];rfl
  ·rw [tH (by omega),cond_false]
   by_cases h2:lo>0
   ·rw [yK h2,yK (show out.length=0∨lo>0∨(lst out).Events.length=1000 from .inr (.inl h2))];rfl
   ·rw [yH h2,cond_false,hw _ (by omega) (by omega),u1 (by omega),Option.bind_some,u1 (by omega),Option.bind_some]
    congr 1
    by_cases h3:(lst out).Events.length=1000
    ·rw [vJ (by omega),yK (show out.length=0∨lo>0∨(lst out).Events.length=1000 from .inr (.inr h3))]
    ·rw [tH (by omega),yH (show ¬(out.length=0∨lo>0∨(lst out).Events.length=1000) by rintro (h | h | h)<;>omega)]
 rw [hcond,Option.bind_some]
 by_cases h:out.length=0∨lo>0∨(lst out).Events.length=1000
 ·rw [yK h,cond_true,u1 (by omega),Option.bind_some,Option.bind_some,w64 (show (-9223372036854775808:Int)≤(out.length:Int)+1 by omega) (by omega),w64 (show (-9223372036854775808:Int)≤p.Serial+j by omega) (by omega)]
  simp only
  rw [show ((out.length:Nat):Int)+1=((out.length+1:Nat):Int) by omega,hw _ (by omega) (by omega)]
  rw [yV,u1 (show (0:Int)≤((out.length+1 - 1:Nat):Int)∧((out.length+1 - 1:Nat):Int)<(((out++[(⟨k,p.Serial+j,lo,[]⟩:zB)]).length:Nat):Int) by simp;omega),u1 (show ((out.length+1 - 1:Nat):Int).toNat+1=(out++[(⟨k,p.Serial+j,lo,[]⟩:zB)]).length by simp),u1 (by simp)]
  simp only [Option.bind_some]
  unfold zGt
  rw [if_pos h]
  unfold zBB
  rw [yV]
 ·have h0:out.length≠0:=fun e=>h (.inl e)
  rw [yH h,cond_false,Option.bind_some]
  simp only
  rw [hw _ (by omega) (by omega)]
  rw [u1 (show (0:Int)≤((out.length - 1:Nat):Int)∧((out.length - 1:Nat):Int)<((out.length:Nat):Int) by omega),u1 (show ((out.length - 1:Nat):Int).toNat+1=out.length by omega),u1 (by simp only [List.length_singleton];omega)]
  simp only [Option.bind_some]
  unfold zGt
  rw [if_neg h];rfl
theorem zGJ {k:Int} {l:List zB} {i:Nat} {p:zB} {out:List zB} (hi:l[i]?=some p) (hp:uC p=0) (hk:p.Thread=k) (ho:out.length≤900000) (hf:zFS out p):∀ (n j:Nat),j≤p.Events.length→p.Events.length - j<n →
  kG 200000 k l (i:Nat) n (j:Nat) (zAz out p j)=some (zCE out p):=by
 have hz:=uR hp
 intro n
 induction n with
 | zero=>intro j _ h;omega
 | succ n ih =>
  intro j hj hn
  show u9 _ _ _ _ _ _ _=_
  rcases Nat.lt_or_ge j p.Events.length with hlt | hge
  ·have hu:=zNl hf hz.2.2.2.1 j
   have hju:j=0→zAz out p j=out:=fun e=>by unfold zAz;rw [if_pos e]
   rw [zLI hi (List.getElem?_eq_getElem hlt) hp hk (by omega) (by rcases hu.2 with ⟨h1,h2⟩ | h;rw [hju h2];exact .inl h1;exact .inr h),← hk,zNb hf hz.2.2.2.1 (List.getElem?_eq_getElem hlt),hk]
   exact ih (j+1) (by omega) (by omega)
  ·have:j=p.Events.length:=by omega
   subst this
   unfold u9
   rw [nI,hi,Option.bind_some,yH (by omega),cond_false]
   unfold zAz zCE
   rw [if_neg (by omega),List.take_length]
theorem zAg (k:Int) (l:List zB) (p:zB):wQ k (l++[p])=zD6 k (wQ k l) p:=by simp [wQ]
def qY (l:List zB):Prop:=∀ (i:Nat) (p:zB),l[i]?=some p→uC p=0∧tQ (l.take i) p=true
theorem qY.snoc {l:List zB} {p:zB} (h:qY (l++[p])):qY l∧uC p=0∧tQ l p=true:=by
 refine ⟨fun i q hq=>?_,?_⟩
 ·have hlt:=(List.getElem?_eq_some_iff.1 hq).1
  have:=h i q (by rw [List.getElem?_append_left hlt];exact hq)
  rwa [List.take_append_of_le_length (by omega)] at this
 ·have:=h l.length p (by simp)
  simpa using this
theorem qY.take {l:List zB} (h:qY l) (i:Nat):qY (l.take i):=by
 intro j q hq
 rw [List.getElem?_take] at hq
 split at hq
 ·have:=h j q hq
  rwa [List.take_take,Nat.min_eq_left (by omega)]
 ·cases hq
theorem qY.valids {l:List zB} (h:qY l):jX l:=fun p hp=>by obtain ⟨i,hi⟩:=List.mem_iff_getElem?.1 hp;exact (h i p hi).1
theorem zC3 {α:Type} {P:List α→Prop} (h0:P []) (h1:∀ l x,P l→P (l++[x])) (l:List α):P l:=by
 rw [← List.reverse_reverse l]
 induction l.reverse with
 | nil=>exact h0
 | cons x r ih=>rw [List.reverse_cons];exact h1 _ _ ih
theorem zA2 (k:Int) (l:List zB) (h:qY l):(wQ k l).length≤2 * evN l∧(0<(wQ k l).length→zER k (uS l k).1 (wQ k l))∧((wQ k l).length=0→(uS l k)=(0,0)):=by
 induction l using zC3 with
 | h0=>simp [wQ,uS]
 | h1 l p ih =>
  obtain ⟨h1,h2,h3⟩:=h.snoc
  obtain ⟨i1,i2,i3⟩:=ih h1
  have hz:=uR h2
  rw [zAg,zCT,zDN]
  unfold zD6 zDi
  by_cases hk:p.Thread=k
  ·rw [if_pos hk,if_pos hk]
   have hfit:zFS (wQ k l) p:=by
    refine ⟨hz.2.2.1,?_⟩
    rcases Nat.eq_zero_or_pos (wQ k l).length with h0 | h0
    ·exact .inl h0
    ·refine .inr ⟨(i2 h0).len,fun hL=>?_⟩
     unfold tQ at h3
     simp only [Bool.and_eq_true,decide_eq_true_eq] at h3
     have:=i2 h0
     rw [hk,show p.Serial=(uS l k).1 by rw [← hk];omega]
     exact this
   obtain ⟨q1,q2,q3⟩:=zMQ hfit hz.2.2.2.1
   exact ⟨by omega,fun _=>hk ▸ q1,fun h0=>by omega⟩
  ·rw [if_neg hk,if_neg hk]
   exact ⟨by omega,i2,i3⟩
theorem zGH {l:List zB} {p:zB} (h:qY (l++[p])):zFS (wQ p.Thread l) p:=by
 obtain ⟨h1,h2,h3⟩:=h.snoc
 obtain ⟨i1,i2,i3⟩:=zA2 p.Thread l h1
 have hz:=uR h2
 refine ⟨hz.2.2.1,?_⟩
 rcases Nat.eq_zero_or_pos (wQ p.Thread l).length with h0 | h0
 ·exact .inl h0
 ·refine .inr ⟨(i2 h0).len,fun hL=>?_⟩
  unfold tQ at h3
  simp only [Bool.and_eq_true,decide_eq_true_eq] at h3
  have:=i2 h0
  rw [show p.Serial=(uS l p.Thread).1 by omega]
  exact this
theorem zJL {k:Int} {l:List zB} (hl:l.length≤100000) (hN:evN l≤100000) (h:qY l):zBW 200000 k l=some (wQ k l):=by
 have key:∀ (n i:Nat),(l.drop i).length<n→kW 200000 k l n (i:Nat) (wQ k (l.take i))=some (wQ k l):=by
  intro n
  induction n with
  | zero=>intro i h;omega
  | succ n ih =>
   intro i hn
   show qZ _ _ _ _ _ _=_
   unfold qZ
   rcases hd:l.drop i with _ | ⟨x,r⟩
   ·have:=uH hd
    rw [yH (by omega),cond_false,List.take_of_length_le this]
   ·have hi:=uQ hd
    rw [hd] at hn
    simp only [List.length_cons] at hn
    have hnx:=ih (i+1) (by rw [wR hd];omega)
    rw [tA hd,zAg] at hnx
    rw [yK (by omega),cond_true,yX hd,Option.bind_some,wI (by omega)]
    unfold zD6 at hnx
    by_cases hk:x.Thread=k
    ·rw [if_pos hk] at hnx
     have hP:qY (l.take i++[x]):=by rw [← tA hd];exact h.take _
     have hfit:=zGH hP
     rw [hk] at hfit
     have hb:=(zA2 k (l.take i) (h.take i)).1
     have hle:=zBp l i
     have hx:=uR hP.snoc.2.1
     have:=zGJ (zD5 hd) hP.snoc.2.1 hk (by omega) hfit 200000 0 (by omega) (by omega)
     rw [show zAz (wQ k (l.take i)) x 0=wQ k (l.take i) from rfl] at this
     rw [v7 hk,cond_false,show kG 200000 k l (i:Nat) 200000 (0:Int) (wQ k (l.take i))=_ from this,Option.bind_some,Option.bind_some]
     exact hnx
    ·rw [if_neg hk] at hnx
     rw [vX hk,cond_true,Option.bind_some]
     exact hnx
 unfold zBW
 have:=key 200000 0 (by simp;omega)
 rw [show kW 200000 k l 200000 (0:Int) ([]:List zB)=_ from this];rfl
end Go.Ab
