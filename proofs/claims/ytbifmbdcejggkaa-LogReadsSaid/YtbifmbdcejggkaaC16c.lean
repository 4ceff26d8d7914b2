/- How the parts of a thread are filled. No conditions but the bounds that the theorems name. -/
import Derived.Test.YtbifmbdcejggkaaC16b
namespace Go.Ab
open Go
set_option linter.unusedVariables false
def zB4 (out:List zB) (e:zI):List zB:=ini out++[⟨(lst out).Thread,(lst out).Serial,(lst out).Lost,(lst out).Events++[e]⟩]
def fE (out:List zB) (e:zI):List zB:=zB4 (if (lst out).Events.length=1000 then out++[⟨(lst out).Thread,(lst out).Serial+1000,0,[]⟩] else out) e
def nC (out:List zB) (p:zB):List zB:=if p.Lost>0∨out.length=0 then out++[⟨p.Thread,p.Serial,p.Lost,[]⟩] else out
def zDi (out:List zB) (p:zB):List zB:=p.Events.foldl fE (nC out p)
def zEq (k:Int) (out:List zB) (p:zB):List zB:=if p.Thread=k then zDi out p else out
def wX (k:Int) (l:List zB):List zB:=l.foldl (zEq k) []
theorem zEf (out:List zB) (e:zI):0<(zB4 out e).length:=by simp [zB4]
theorem qH (out:List zB) (e:zI):lst (zB4 out e)=⟨(lst out).Thread,(lst out).Serial,(lst out).Lost,(lst out).Events++[e]⟩:=y3 _ _
theorem zGB (out:List zB) (e:zI):ini (zB4 out e)=ini out:=zAa _ _
theorem zIQ:∀ (xs:List zI) (out:List zB),0<out.length→(lst out).Events.length+xs.length≤1000→xs.foldl fE out=ini out++[⟨(lst out).Thread,(lst out).Serial,(lst out).Lost,(lst out).Events++xs⟩]
 | [],out,h,_=>by
  simp only [List.foldl_nil,List.append_nil]
  exact zCY h
 | x::xs,out,h,hl=>by
  simp only [List.length_cons] at hl
  have hf:fE out x=zB4 out x:=by unfold fE;rw [if_neg (by omega)]
  rw [List.foldl_cons,hf,zIQ xs (zB4 out x) (zEf _ _) (by rw [qH];simp;omega),qH,zGB]
  simp
theorem zNX {out:List zB} {x:zI} {xs:List zI} (h:(lst out).Events.length=1000) :
  (x::xs).foldl fE out=(x::xs).foldl fE (out++[⟨(lst out).Thread,(lst out).Serial+1000,0,[]⟩]):=by
 rw [List.foldl_cons,List.foldl_cons]
 congr 1
 unfold fE
 rw [if_pos h,y3,if_neg (by simp)]
theorem zJg:∀ (n:Nat) (evs:List zI) (out:List zB),0<out.length→(lst out).Events.length≤1000→0≤(lst out).Serial→(lst out).Serial+(lst out).Events.length+evs.length≤2000000000000000 →
  out.length+2 * evs.length+(if (lst out).Events.length=1000 then 1 else 0)≤2000000→evs.length≤100000→2 * evs.length+(if (lst out).Events.length=1000 then 1 else 0)<n→zA0 281474976710656 n evs out=some (evs.foldl fE out):=by
 intro n
 induction n with
 | zero=>intro evs out _ _ _ _ _ _ h;omega
 | succ n ih =>
  intro evs out h1 h2 h3 h4 h5 h6 hn
  show jY _ _ _ _=_
  unfold jY
  cases evs with
  | nil=>rfl
  | cons x xs =>
   generalize hE:x::xs=evs at *
   have hlen:0<evs.length:=by rw [← hE];simp
   have hw:zP (((out.length:Nat):Int) - 1)=((out.length - 1:Nat):Int):=by rw [w64 (by omega) (by omega)];omega
   rw [yP (by omega),cond_true,hw,uX (by omega),Option.bind_some,uX (by omega),Option.bind_some]
   have hm:wP (zP ((1000:Int) - (((lst out).Events.length:Nat):Int))) ((evs.length:Nat):Int)=((min (1000 - (lst out).Events.length) evs.length:Nat):Int):=by
    rw [w64 (by omega) (by omega)]
    unfold wP
    split<;>omega
   rw [hm]
   by_cases hf:(lst out).Events.length=1000
   ·rw [vP (by omega),cond_true,uX (by omega)]
    simp only [Option.bind_some]
    rw [w64 (by omega) (by omega),ih _ _ (by simp) (by rw [y3];simp) (by rw [y3];simp;omega)
     (by rw [y3];simp;omega) (by rw [y3,if_neg (by simp)];rw [if_pos hf] at h5;simp;omega) h6 (by rw [y3,if_neg (by simp)];rw [if_pos hf] at hn;omega)]
    rw [← hE]
    exact congrArg some (zNX hf).symm
   ·rw [if_neg hf] at hn h5
    rw [tM (by omega),cond_false]
    generalize hmm:min (1000 - (lst out).Events.length) evs.length=m
    have hm1:0<m:=by omega
    have hm2:m≤evs.length:=by omega
    have hm3:(lst out).Events.length+m≤1000:=by omega
    have hs1:sub evs 0 ((m:Nat):Int)=evs.take m:=by rw [zM6 (by omega)];simp
    have hs2:sub evs ((m:Nat):Int) ((evs.length:Nat):Int)=evs.drop m:=by rw [zNW (by omega)];simp
    rw [hs1,hs2]
    have htl:(evs.take m).length=m:=by rw [List.length_take];omega
    have hdl:(evs.drop m).length=evs.length - m:=by simp
    rw [uX (show (0:Int)≤((m:Nat):Int)∧((m:Nat):Int)≤((evs.length:Nat):Int) by omega),uX (show ((lst out).Events.length+(evs.take m).length) * 72≤140737488355328 by rw [htl];omega)]
    simp only [Option.bind_some]
    have hg:ini out++[⟨(lst out).Thread,(lst out).Serial,(lst out).Lost,(lst out).Events++evs.take m⟩]=(evs.take m).foldl fE out:=(zIQ _ _ h1 (by rw [htl];exact hm3)).symm
    rw [ih _ _ (by simp) (by rw [y3];simp only [List.length_append,htl];exact hm3) (by rw [y3];exact h3)
     (by rw [y3];simp only [List.length_append,htl,hdl];omega) (by rw [y3];simp only [List.length_append,List.length_singleton,zD5,htl,hdl];split<;>omega) (by omega) (by rw [y3];simp only [List.length_append,htl,hdl];split<;>omega),hg,← List.foldl_append,List.take_append_drop]
theorem zLn {out:List zB} {evs:List zI} (h1:0<out.length) (h2:(lst out).Events.length≤1000) (h3:0≤(lst out).Serial) (h4:(lst out).Serial+(lst out).Events.length+evs.length≤2000000000000000)
  (h5:out.length+evs.length≤1000000) (h6:evs.length≤50000):zDe 281474976710656 out evs=some (evs.foldl fE out):=by
 unfold zDe
 rw [zJg 281474976710656 evs out h1 h2 h3 h4 (by split<;>omega) (by omega) (by split<;>omega)];rfl
structure zFg (k s:Int) (out:List zB):Prop where
 thread:(lst out).Thread=k
 serial:(lst out).Serial+(lst out).Events.length=s
 len:(lst out).Events.length≤1000
 low:0≤(lst out).Serial
theorem zPj {k s:Int} {out:List zB} (h:zFg k s out) (e:zI):zFg k (s+1) (fE out e)∧(fE out e).length≤max out.length 1+1∧0<(fE out e).length∧0<(lst (fE out e)).Events.length:=by
 obtain ⟨h1,h2,h3,h4⟩:=h
 unfold fE
 split
 ·rename_i hf
  refine ⟨⟨by rw [qH,y3];exact h1,by rw [qH,y3];simp;omega,by rw [qH,y3];simp,by rw [qH,y3];simp;omega⟩,?_,zEf _ _,by rw [qH];simp⟩
  simp [zB4,zAa];omega
 ·rename_i hf
  refine ⟨⟨by rw [qH];exact h1,by rw [qH];simp;omega,by rw [qH];simp;omega,by rw [qH];exact h4⟩,?_,zEf _ _,by rw [qH];simp⟩
  simp [zB4,zD5];omega
theorem zDI {k:Int}:∀ (xs:List zI) (s:Int) (out:List zB),zFg k s out→0<out.length→zFg k (s+xs.length) (xs.foldl fE out)∧(xs.foldl fE out).length≤out.length+xs.length∧0<(xs.foldl fE out).length
 | [],s,out,h,h0=>by simpa using ⟨h,h0⟩
 | x::xs,s,out,h,h0=>by
  obtain ⟨k1,k2,k3,_⟩:=zPj h x
  obtain ⟨q1,q2,q3⟩:=zDI xs _ _ k1 k3
  rw [List.foldl_cons]
  refine ⟨?_,by simp only [List.length_cons];omega,q3⟩
  rw [show s+((x::xs).length:Int)=s+1+xs.length by simp;omega]
  exact q1
def zGQ (out:List zB) (p:zB):Prop:=0≤p.Serial∧(out.length=0∨(lst out).Events.length≤1000∧(p.Lost=0→zFg p.Thread p.Serial out))
theorem zDA {out:List zB} {p:zB} (h:zGQ out p) (hL:0≤p.Lost):zFg p.Thread p.Serial (nC out p)∧0<(nC out p).length∧(nC out p).length≤out.length+1:=by
 unfold nC
 by_cases hc:p.Lost>0∨out.length=0
 ·rw [if_pos hc]
  exact ⟨⟨by rw [y3],by rw [y3];simp,by rw [y3];simp,by rw [y3];exact h.1⟩,by simp,by simp⟩
 ·rw [if_neg hc]
  rcases h.2 with h0 | ⟨_,h1⟩
  ·omega
  ·exact ⟨h1 (by omega),by omega,by omega⟩
theorem zNR {out:List zB} {p:zB} (h:zGQ out p) (hL:0≤p.Lost):zFg p.Thread (p.Serial+p.Events.length) (zDi out p)∧(zDi out p).length≤out.length+1+p.Events.length∧0<(zDi out p).length:=by
 obtain ⟨h1,h2,h3⟩:=zDA h hL
 obtain ⟨q1,q2,q3⟩:=zDI p.Events _ _ h1 h2
 exact ⟨q1,by unfold zDi;omega,q3⟩
def zG7 (k ser lost:Int) (out:List zB) (e:zI):List zB:=zB4 (if out.length=0∨lost>0∨(lst out).Events.length=1000 then out++[⟨k,ser,lost,[]⟩] else out) e
def zA9 (out:List zB) (p:zB) (i:Nat):List zB:=if i=0 then out else (p.Events.take i).foldl fE (nC out p)
theorem zNl {out:List zB} {p:zB} (h:zGQ out p) (hL:0≤p.Lost) {i:Nat} {e:zI} (he:p.Events[i]?=some e) :
  zG7 p.Thread (p.Serial+i) (if i=0 then p.Lost else 0) (zA9 out p i) e=zA9 out p (i+1):=by
 have hi:=(List.getElem?_eq_some_iff.1 he).1
 have hr:zA9 out p (i+1)=fE ((p.Events.take i).foldl fE (nC out p)) e:=by
  unfold zA9
  rw [if_neg (by omega),List.take_add_one,he,List.foldl_append];rfl
 rw [hr]
 generalize hX:(p.Events.take i).foldl fE (nC out p)=X
 unfold zG7 fE
 congr 1
 cases i with
 | zero =>
  have hX':X=nC out p:=hX.symm
  subst hX'
  rw [show zA9 out p 0=out from rfl,if_pos (rfl:0=0)]
  by_cases hc:p.Lost>0∨out.length=0
  ·rw [show nC out p=out++[⟨p.Thread,p.Serial,p.Lost,[]⟩] from if_pos hc,if_pos (by rcases hc with hc | hc;exact .inr (.inl hc);exact .inl hc)]
   have hq:¬ (lst (out++[(⟨p.Thread,p.Serial,p.Lost,[]⟩:zB)])).Events.length=1000:=by rw [y3];simp
   rw [if_neg hq];simp
  ·rw [show nC out p=out from if_neg hc]
   rcases h.2 with h0 | ⟨_,h1⟩
   ·omega
   ·obtain ⟨q1,q2,_,_⟩:=h1 (by omega)
    by_cases hf:(lst out).Events.length=1000
    ·rw [if_pos (.inr (.inr hf)),if_pos hf]
     have:p.Lost=0:=by omega
     rw [this,q1,← q2,hf];simp
    ·rw [if_neg (by rintro (h0 | h0 | h0)<;>omega),if_neg hf]
 | succ j =>
  rw [show (if j+1=0 then p.Lost else 0)=0 from if_neg (by omega)]
  rw [show zA9 out p (j+1)=X from by unfold zA9;rw [if_neg (by omega)];exact hX]
  obtain ⟨h1,h2,h3⟩:=zDA h hL
  obtain ⟨⟨q1,q2,_,_⟩,_,q5⟩:=zDI (p.Events.take (j+1)) _ _ h1 h2
  rw [hX] at q1 q2 q5
  rw [List.length_take,Nat.min_eq_left (by omega)] at q2
  by_cases hf:(lst X).Events.length=1000
  ·rw [if_pos (show X.length=0∨(0:Int)>0∨(lst X).Events.length=1000 from .inr (.inr hf)),if_pos hf,q1,← q2,hf];rfl
  ·rw [if_neg (by rintro (h0 | h0 | h0)<;>omega),if_neg hf]
theorem zOk {out:List zB} {p:zB} (h:zGQ out p) (hL:0≤p.Lost) (i:Nat):(zA9 out p i).length≤out.length+1+p.Events.length∧(out.length=0∧i=0∨(lst (zA9 out p i)).Events.length≤1000):=by
 unfold zA9
 by_cases hi:i=0
 ·rw [if_pos hi]
  exact ⟨by omega,by rcases h.2 with h0 | h0;exact .inl ⟨h0,hi⟩;exact .inr h0.1⟩
 ·rw [if_neg hi]
  obtain ⟨h1,h2,h3⟩:=zDA h hL
  obtain ⟨⟨_,_,q3,_⟩,q4,_⟩:=zDI (p.Events.take i) _ _ h1 h2
  rw [List.length_take] at q4
  exact ⟨by omega,.inr q3⟩
theorem zMe {k:Int} {l:List zB} {i:Nat} {p:zB} {j:Nat} {e:zI} {out:List zB} (hi:l[i]?=some p) (hj:p.Events[j]?=some e) (hp:uK p=0) (hk:p.Thread=k)
  (ho:out.length≤1000000) (hc:out.length=0∨(lst out).Events.length≤1000) (rec:Int→List zB→Option (List zB)) :
  tF 281474976710656 k l (i:Nat) rec (j:Nat) out=rec ((j+1:Nat):Int) (zG7 k (p.Serial+j) (if j=0 then p.Lost else 0) out e):=by
 have hz:=vX hp
 have hjl:=(List.getElem?_eq_some_iff.1 hj).1
 unfold tF
 simp only [zAr,hi,hj,Option.bind_some,wE (show j<9223372036854775807 by omega)]
 rw [yP (by omega),cond_true]
 have h5:(bif ((j:Int)==(0:Int)) then some p.Lost else some (0:Int))=some (if j=0 then p.Lost else 0):=by
  by_cases h:j=0
  ·rw [if_pos h,vP (by omega)];rfl
  ·rw [if_neg h,tM (by omega)];rfl
 rw [h5,Option.bind_some]
 generalize hlo:(if j=0 then p.Lost else 0)=lo
 have hw:∀ m:Nat,0<m→m≤1000001→zP ((m:Int) - 1)=((m - 1:Nat):Int):=fun m h1 h2=>by rw [w64 (by omega) (by omega)];omega
 have hcond:(bif (((out.length:Nat):Int)==(0:Int)) then some true else bif decide (lo>(0:Int)) then some true else
   ((need ((0:Int)≤(zP (((out.length:Nat):Int) - (1:Int)))∧(zP (((out.length:Nat):Int) - (1:Int)))<((out.length:Nat):Int))).bind fun _=>(need ((zP (((out.length:Nat):Int) - (1:Int))).toNat+1=out.length)).bind fun _=>some ((((lst out).Events.length:Nat):Int)==(1000:Int)))) =
   some (decide (out.length=0∨lo>0∨(lst out).Events.length=1000)):=by
  by_cases h1:out.length=0
  ·rw [vP (by omega),yP (show out.length=0∨lo>0∨(lst out).Events.length=1000 from .inl h1)];rfl
  ·rw [tM (by omega),cond_false]
   by_cases h2:lo>0
   ·rw [yP h2,yP (show out.length=0∨lo>0∨(lst out).Events.length=1000 from .inr (.inl h2))];rfl
   ·rw [yN h2,cond_false,hw _ (by omega) (by omega),uX (by omega),Option.bind_some,uX (by omega),Option.bind_some]
    congr 1
    by_cases h3:(lst out).Events.length=1000
    ·rw [vP (by omega),yP (show out.length=0∨lo>0∨(lst out).Events.length=1000 from .inr (.inr h3))]
    ·rw [tM (by omega),yN (show ¬(out.length=0∨lo>0∨(lst out).Events.length=1000) by rintro (h | h | h)<;>omega)]
 rw [hcond,Option.bind_some]
 by_cases h:out.length=0∨lo>0∨(lst out).Events.length=1000
 ·rw [yP h,cond_true,uX (by omega),Option.bind_some,Option.bind_some,w64 (show (-9223372036854775808:Int)≤(out.length:Int)+1 by omega) (by omega),w64 (show (-9223372036854775808:Int)≤p.Serial+j by omega) (by omega)]
  simp only
  rw [show ((out.length:Nat):Int)+1=((out.length+1:Nat):Int) by omega,hw _ (by omega) (by omega)]
  rw [y3,uX (show (0:Int)≤((out.length+1 - 1:Nat):Int)∧((out.length+1 - 1:Nat):Int)<(((out++[(⟨k,p.Serial+j,lo,[]⟩:zB)]).length:Nat):Int) by simp;omega),uX (show ((out.length+1 - 1:Nat):Int).toNat+1=(out++[(⟨k,p.Serial+j,lo,[]⟩:zB)]).length by simp),uX (by simp)]
  simp only [Option.bind_some]
  unfold zG7
  rw [if_pos h]
  unfold zB4
  rw [y3]
 ·have h0:out.length≠0:=fun e=>h (.inl e)
  rw [yN h,cond_false,Option.bind_some]
  simp only
  rw [hw _ (by omega) (by omega)]
  rw [uX (show (0:Int)≤((out.length - 1:Nat):Int)∧((out.length - 1:Nat):Int)<((out.length:Nat):Int) by omega),uX (show ((out.length - 1:Nat):Int).toNat+1=out.length by omega),uX (by simp only [List.length_singleton];omega)]
  simp only [Option.bind_some]
  unfold zG7
  rw [if_neg h];rfl
theorem zHr {k:Int} {l:List zB} {i:Nat} {p:zB} {out:List zB} (hi:l[i]?=some p) (hp:uK p=0) (hk:p.Thread=k) (ho:out.length≤900000) (hf:zGQ out p):∀ (n j:Nat),j≤p.Events.length→p.Events.length - j<n →
  pN 281474976710656 k l (i:Nat) n (j:Nat) (zA9 out p j)=some (zDi out p):=by
 have hz:=vX hp
 intro n
 induction n with
 | zero=>intro j _ h;omega
 | succ n ih =>
  intro j hj hn
  show tF _ _ _ _ _ _ _=_
  rcases Nat.lt_or_ge j p.Events.length with hlt | hge
  ·have hu:=zOk hf hz.2.2.2.1 j
   have hju:j=0→zA9 out p j=out:=fun e=>by unfold zA9;rw [if_pos e]
   rw [zMe hi (List.getElem?_eq_getElem hlt) hp hk (by omega) (by rcases hu.2 with ⟨h1,h2⟩ | h;rw [hju h2];exact .inl h1;exact .inr h),← hk,zNl hf hz.2.2.2.1 (List.getElem?_eq_getElem hlt),hk]
   exact ih (j+1) (by omega) (by omega)
  ·have:j=p.Events.length:=by omega
   subst this
   unfold tF
   rw [zAr,hi,Option.bind_some,yN (by omega),cond_false]
   unfold zA9 zDi
   rw [if_neg (by omega),List.take_length]
theorem zAM (k:Int) (l:List zB) (p:zB):wX k (l++[p])=zEq k (wX k l) p:=by simp [wX]
def jP (l:List zB):Prop:=∀ (i:Nat) (p:zB),l[i]?=some p→uK p=0∧t0 (l.take i) p=true
theorem jP.snoc {l:List zB} {p:zB} (h:jP (l++[p])):jP l∧uK p=0∧t0 l p=true:=by
 refine ⟨fun i q hq=>?_,?_⟩
 ·have hlt:=(List.getElem?_eq_some_iff.1 hq).1
  have:=h i q (by rw [List.getElem?_append_left hlt];exact hq)
  rwa [List.take_append_of_le_length (by omega)] at this
 ·have:=h l.length p (by simp)
  simpa using this
theorem jP.take {l:List zB} (h:jP l) (i:Nat):jP (l.take i):=by
 intro j q hq
 rw [List.getElem?_take] at hq
 split at hq
 ·have:=h j q hq
  rwa [List.take_take,Nat.min_eq_left (by omega)]
 ·cases hq
theorem jP.valids {l:List zB} (h:jP l):q8 l:=fun p hp=>by obtain ⟨i,hi⟩:=List.mem_iff_getElem?.1 hp;exact (h i p hi).1
theorem zDM {α:Type} {P:List α→Prop} (h0:P []) (h1:∀ l x,P l→P (l++[x])) (l:List α):P l:=by
 rw [← List.reverse_reverse l]
 induction l.reverse with
 | nil=>exact h0
 | cons x r ih=>rw [List.reverse_cons];exact h1 _ _ ih
theorem zBH (k:Int) (l:List zB) (h:jP l):(wX k l).length≤2 * evN l∧(0<(wX k l).length→zFg k (tA l k).1 (wX k l))∧((wX k l).length=0→(tA l k)=(0,0)):=by
 induction l using zDM with
 | h0=>simp [wX,tA]
 | h1 l p ih =>
  obtain ⟨h1,h2,h3⟩:=h.snoc
  obtain ⟨i1,i2,i3⟩:=ih h1
  have hz:=vX h2
  rw [zAM,zDF,zEJ]
  unfold zEq zDN
  by_cases hk:p.Thread=k
  ·rw [if_pos hk,if_pos hk]
   have hfit:zGQ (wX k l) p:=by
    refine ⟨hz.2.2.1,?_⟩
    rcases Nat.eq_zero_or_pos (wX k l).length with h0 | h0
    ·exact .inl h0
    ·refine .inr ⟨(i2 h0).len,fun hL=>?_⟩
     unfold t0 at h3
     simp only [Bool.and_eq_true,decide_eq_true_eq] at h3
     have:=i2 h0
     rw [hk,show p.Serial=(tA l k).1 by rw [← hk];omega]
     exact this
   obtain ⟨q1,q2,q3⟩:=zNR hfit hz.2.2.2.1
   exact ⟨by omega,fun _=>hk ▸ q1,fun h0=>by omega⟩
  ·rw [if_neg hk,if_neg hk]
   exact ⟨by omega,i2,i3⟩
theorem zG4 {l:List zB} {p:zB} (h:jP (l++[p])):zGQ (wX p.Thread l) p:=by
 obtain ⟨h1,h2,h3⟩:=h.snoc
 obtain ⟨i1,i2,i3⟩:=zBH p.Thread l h1
 have hz:=vX h2
 refine ⟨hz.2.2.1,?_⟩
 rcases Nat.eq_zero_or_pos (wX p.Thread l).length with h0 | h0
 ·exact .inl h0
 ·refine .inr ⟨(i2 h0).len,fun hL=>?_⟩
  unfold t0 at h3
  simp only [Bool.and_eq_true,decide_eq_true_eq] at h3
  have:=i2 h0
  rw [show p.Serial=(tA l p.Thread).1 by omega]
  exact this
theorem zJG {k:Int} {l:List zB} (hl:l.length≤100000) (hN:evN l≤100000) (h:jP l):zCw 281474976710656 k l=some (wX k l):=by
 have key:∀ (n i:Nat),(l.drop i).length<n→pE 281474976710656 k l n (i:Nat) (wX k (l.take i))=some (wX k l):=by
  intro n
  induction n with
  | zero=>intro i h;omega
  | succ n ih =>
   intro i hn
   show jL _ _ _ _ _ _=_
   unfold jL
   rcases hd:l.drop i with _ | ⟨x,r⟩
   ·have:=uA hd
    rw [yN (by omega),cond_false,List.take_of_length_le this]
   ·have hi:=uS hd
    rw [hd] at hn
    simp only [List.length_cons] at hn
    have hnx:=ih (i+1) (by rw [wT hd];omega)
    rw [uU hd,zAM] at hnx
    rw [yP (by omega),cond_true,y1 hd,Option.bind_some,wE (by omega)]
    unfold zEq at hnx
    by_cases hk:x.Thread=k
    ·rw [if_pos hk] at hnx
     have hP:jP (l.take i++[x]):=by rw [← uU hd];exact h.take _
     have hfit:=zG4 hP
     rw [hk] at hfit
     have hb:=(zBH k (l.take i) (h.take i)).1
     have hle:=zBc l i
     have hx:=vX hP.snoc.2.1
     have:=zHr (zEI hd) hP.snoc.2.1 hk (by omega) hfit 281474976710656 0 (by omega) (by omega)
     rw [show zA9 (wX k (l.take i)) x 0=wX k (l.take i) from rfl] at this
     rw [vY hk,cond_false,show pN 281474976710656 k l (i:Nat) 281474976710656 (0:Int) (wX k (l.take i))=_ from this,Option.bind_some,Option.bind_some]
     exact hnx
    ·rw [if_neg hk] at hnx
     rw [vS hk,cond_true,Option.bind_some]
     exact hnx
 unfold zCw
 have:=key 281474976710656 0 (by simp;omega)
 rw [show pE 281474976710656 k l 281474976710656 (0:Int) ([]:List zB)=_ from this];rfl
end Go.Ab
