/- LogOf, plain. No conditions. -/
import Derived.Test.YtbifmbdcejggkaaC16d
import Derived.Test.YtbifmbdcejggkaaR16
namespace Go.Ab
open Go
set_option linter.unusedVariables false
theorem zOi (m:Nat):zAO (m+200000)=some true:=by kernel_rfl
theorem zJJ:zAO 200000=some true:=by kernel_rfl
def zDm (h:zL) (l:List zB):Prop:=h.Threads.length≤70∧h.Domains.length≤10∧h.Snaps.length≤20∧l.length≤30∧evN l≤3000
instance decLightS {h:zL} {l:List zB}:Decidable (zDm h l):=inferInstanceAs (Decidable (_∧_))
theorem zML {F:Nat} {h:zL} {l:List zB} (hl:l.length<9223372036854775000):∀ (n i:Nat) (s:Int),(l.drop i).length<n→∃ o,tD F l n s (i:Nat)=some o:=by
 intro n
 induction n with
 | zero=>intro i s h;omega
 | succ n ih =>
  intro i s hn
  have hu:tD F l (n+1) s (i:Nat)=u3 F l (tD F l n) s (i:Nat):=rfl
  rw [hu]
  unfold u3
  rcases hd:l.drop i with _ | ⟨x,r⟩
  ·have:=uH hd
   rw [yH (by omega),cond_false];exact ⟨s,rfl⟩
  ·have hi:=uQ hd
   rw [hd] at hn
   simp only [List.length_cons] at hn
   rw [yK (by omega),cond_true,yX hd,Option.bind_some,wI (by omega)]
   exact ih (i+1) _ (by rw [wR hd];omega)
theorem zMm {F:Nat} {l:List zB} (hl:l.length≤30) (hN:evN l≤140737488355328 * 30):∀ (n i:Nat),(l.drop i).length<n→tD F l n (evN (l.take i):Nat) (i:Nat)=some ((evN l:Nat):Int):=by
 intro n
 induction n with
 | zero=>intro i h;omega
 | succ n ih =>
  intro i hn
  show u3 _ _ _ _ _=_
  unfold u3
  rcases hd:l.drop i with _ | ⟨x,r⟩
  ·have:=uH hd
   rw [yH (by omega),cond_false,List.take_of_length_le this]
  ·have hi:=uQ hd
   rw [hd] at hn
   simp only [List.length_cons] at hn
   have hle:=zCm (pF hd)
   have hlt:=zBp l i
   have hN':evN (l.take (i+1))=evN (l.take i)+x.Events.length:=by rw [tA hd,zDN]
   rw [yK (by omega),cond_true,yX hd,Option.bind_some,wI (by omega),w64 (by omega) (by omega)]
   have:=ih (i+1) (by rw [wR hd];omega)
   rw [hN'] at this
   rw [show ((evN (l.take i):Nat):Int)+(x.Events.length:Int)=((evN (l.take i)+x.Events.length:Nat):Int) by omega]
   exact this
theorem zJt {F:Nat} {h:zL} {l:List zB} (hF:l.length<F) (hl:l.length<9223372036854775000) (hE:∀ p∈l,p.Events.length≤140737488355328):zBQ F h l=some (decide (zDm h l)):=by
 unfold zBQ
 by_cases h30:l.length≤30
 ·have hN:evN l≤140737488355328 * l.length:=by
   clear hF hl h30
   induction l with
   | nil=>simp [evN]
   | cons a r ih =>
    have h1:=hE a (by simp)
    have h2:=ih (fun p hp=>hE p (by simp [hp]))
    simp only [evN,List.map_cons,List.sum_cons,List.length_cons] at *
    omega
  have:=zMm (F:=F) h30 (by omega) F 0 (by simp;omega)
  rw [show tD F l F (0:Int) (0:Int)=_ from this,Option.bind_some]
  congr 1
  unfold zDm
  by_cases k1:h.Threads.length≤70<;>by_cases k2:h.Domains.length≤10<;>by_cases k3:h.Snaps.length≤20<;>by_cases k5:evN l≤3000<;>simp [k1,k2,k3,h30,k5]<;>omega
 ·obtain ⟨o,ho⟩:=zML (F:=F) (h:=h) hl F 0 0 (by simp;omega)
  rw [show tD F l F (0:Int) (0:Int)=_ from ho,Option.bind_some,yH (show ¬ ((l.length:Nat):Int)≤30 by omega),yH (show ¬ zDm h l from fun k=>h30 k.2.2.2.1)]
  simp
theorem zNN {e:zK} (h:evS e=0):e.Stack.length≤32:=by
 rcases Nat.lt_or_ge 32 e.Stack.length with hgt | hle
 ·exfalso
  unfold evS at h
  split at h
  ·omega
  split at h
  ·omega
  split at h
  ·omega
  rename_i hb
  have hb:zBD e=false:=by simpa using hb
  cases hu:jA e.Kind with
  | false=>exact zFE hb hu (by omega)
  | true =>
   have hn:kM e.Kind=false:=by
    cases hn:kM e.Kind
    ·rfl
    ·rw [zHX _ hn] at hu;cases hu
   have ht:zBO e=7:=by
    unfold zBO
    rw [hn,hu]
    simp only [Bool.false_eq_true,if_false,if_true]
    unfold zAJ
    rw [if_pos hgt]
   rw [if_pos (by rw [ht];omega),ht] at h
   omega
 ·exact hle
theorem zNE {p:zB} (h:uC p=0):∀ e∈p.Events,e.Stack.length≤32:=by
 intro e he
 exact zNN (zMU (uR h).2.2.2.2.2.2.2.2 e he)
def evs (l:List zB):List zK:=l.flatMap (·.Events)
theorem zDt (l m:List zB):evs (l++m)=evs l++evs m:=by simp [evs]
theorem zFe (l:List zB):(evs l).length=evN l:=by
 induction l with
 | nil=>rfl
 | cons a r ih=>simp [evs,evN] at *
theorem zMk {out:List zB} (h:0<out.length):evs out=evs (ini out)++(lst out).Events:=by
 conv=>lhs;rw [zCk h,zDt]
 simp [evs]
theorem zOR {out:List zB} (h:0<out.length) (e:zK):evs (fE out e)=evs out++[e]:=by
 unfold fE
 split
 ·unfold zBB
  rw [pY,yV,zDt];simp [evs]
 ·unfold zBB
  rw [zDt,zMk h];simp [evs]
theorem zJy:∀ (xs:List zK) (out:List zB),0<out.length→evs (xs.foldl fE out)=evs out++xs
 | [],out,_=>by simp
 | x::xs,out,h=>by
  have h1:0<(fE out x).length:=by unfold fE;split<;>exact zDu _ _
  rw [List.foldl_cons,zJy xs _ h1,zOR h];simp
theorem zK7 (out:List zB) (p:zB):0<(pD out p).length:=by
 unfold pD
 split
 ·simp
 ·omega
theorem zOx (out:List zB) (p:zB):evs (pD out p)=evs out:=by
 unfold pD
 split
 ·rw [zDt];simp [evs]
 ·rfl
theorem zOl (out:List zB) (p:zB):evs (zCE out p)=evs out++p.Events:=by
 unfold zCE
 rw [zJy _ _ (zK7 _ _),zOx]
def ofT (k:Int) (l:List zB):List zB:=l.filter fun p=>decide (p.Thread=k)
theorem zNP (k:Int) (l:List zB) (p:zB):ofT k (l++[p])=ofT k l++if p.Thread=k then [p] else []:=by
 unfold ofT
 rw [List.filter_append]
 by_cases h:p.Thread=k<;>simp [h]
theorem zEJ (k:Int) (l:List zB):evs (wQ k l)=evs (ofT k l):=by
 induction l using zC3 with
 | h0=>rfl
 | h1 l p ih =>
  rw [zAg,zNP,zDt]
  unfold zD6
  by_cases h:p.Thread=k
  ·rw [if_pos h,if_pos h,zOl,ih];simp [evs]
  ·rw [if_neg h,if_neg h,ih];simp [evs]
def zDc (l:List zB):Prop:=∀ q∈l,0<q.Events.length
theorem zOT {out:List zB} (h:0<out.length) (hf:zDc (ini out)) (e:zK):zDc (ini (fE out e))∧0<(lst (fE out e)).Events.length:=by
 unfold fE
 split
 ·rename_i hl
  refine ⟨?_,by rw [t4];simp⟩
  rw [zFR,pY,zCk h]
  intro q hq
  rcases List.mem_append.1 hq with hq | hq
  ·exact hf q hq
  ·rw [List.mem_singleton.1 hq];omega
 ·exact ⟨by rw [zFR];exact hf,by rw [t4];simp⟩
theorem zHT:∀ (xs:List zK) (out:List zB),0<out.length→zDc (ini out)→0<xs.length→zDc (xs.foldl fE out)
 | [],_,_,_,h=>by simp at h
 | x::xs,out,h0,hf,_=>by
  obtain ⟨h1,h2⟩:=zOT h0 hf x
  have h3:0<(fE out x).length:=by unfold fE;split<;>exact zDu _ _
  rw [List.foldl_cons]
  cases xs with
  | nil =>
   simp only [List.foldl_nil]
   rw [zCk h3]
   intro q hq
   rcases List.mem_append.1 hq with hq | hq
   ·exact h1 q hq
   ·rw [List.mem_singleton.1 hq];exact h2
  | cons y ys=>exact zHT (y::ys) _ h3 h1 (by simp)
theorem zNI {l:List zB} (h:zDc l):zDc (ini l):=fun q hq=>h q (List.dropLast_subset l hq)
theorem zND {out:List zB} {p:zB} (h:zDc out) (hp:0<p.Events.length):zDc (zCE out p):=by
 unfold zCE
 refine zHT _ _ (zK7 _ _) ?_ hp
 unfold pD
 split
 ·rw [pY];exact h
 ·exact zNI h
theorem zLv (k:Int) (l:List zB) (hv:jX l):zDc (wQ k l):=by
 induction l using zC3 with
 | h0=>intro q hq;cases hq
 | h1 l p ih =>
  have ih:=ih fun q hq=>hv q (by simp [hq])
  rw [zAg]
  unfold zD6
  by_cases h:p.Thread=k
  ·rw [if_pos h];exact zND ih (zMn hv (by simp))
  ·rw [if_neg h];exact ih
theorem zNh {l:List zB} (h:zDc l):l.length≤evN l:=by
 induction l with
 | nil=>simp
 | cons a r ih =>
  have h1:=h a (by simp)
  have h2:=ih fun q hq=>h q (by simp [hq])
  simp only [evN,List.map_cons,List.sum_cons,List.length_cons] at *
  omega
theorem zOt {ids:List Int} (hn:ids.Nodup) (k:Int) (n:Nat):(ids.map fun i=>if k=i then n else 0).sum≤n:=by
 induction ids with
 | nil=>simp
 | cons a r ih =>
  obtain ⟨h1,h2⟩:=List.nodup_cons.1 hn
  simp only [List.map_cons,List.sum_cons]
  by_cases h:k=a
  ·subst h
   rw [if_pos rfl]
   have:(r.map fun i=>if k=i then n else 0).sum=0:=by
    clear ih hn h2
    induction r with
    | nil=>rfl
    | cons b s ihs =>
     simp only [List.mem_cons,not_or] at h1
     simp only [List.map_cons,List.sum_cons,if_neg h1.1,ihs h1.2]
   omega
  ·rw [if_neg h];have:=ih h2;omega
theorem zOy {α:Type} (f g:α→Nat) (l:List α):(l.map fun i=>f i+g i).sum=(l.map f).sum+(l.map g).sum:=by
 induction l with
 | nil=>rfl
 | cons a r ih=>simp only [List.map_cons,List.sum_cons,ih];omega
theorem zO4 {ids:List Int} (hn:ids.Nodup) (l:List zB):(ids.map fun k=>evN (ofT k l)).sum≤evN l:=by
 induction l with
 | nil =>
  clear hn
  induction ids with
  | nil=>simp
  | cons a r ih=>simpa [ofT,evN] using ih
 | cons p r ih =>
  have h:(fun k=>evN (ofT k (p::r)))=fun k=>(if p.Thread=k then p.Events.length else 0)+evN (ofT k r):=by
   funext k
   unfold ofT
   rw [List.filter_cons]
   by_cases h:p.Thread=k
   ·rw [if_pos h,if_pos (by simpa using h)];simp [evN]
   ·rw [if_neg h,if_neg (by simpa using h)];simp
  rw [h,zOy]
  have:=zOt hn p.Thread p.Events.length
  simp only [evN,List.map_cons,List.sum_cons] at *
  omega
theorem zL4 {h:zL} (hh:zA6 h=0):(qR h).Nodup:=by
 unfold zA6 at hh
 split at hh
 ·omega
 split at hh
 ·omega
 split at hh
 ·rename_i q hq
  exfalso
  have:∀ (i:Nat) (m:List zY) q,xI (thF h.Threads) i m=.inr q→q≠0:=by
   intro i m
   induction m generalizing i with
   | nil=>intro q h;cases h
   | cons a r ih =>
    intro q hq
    simp only [xI] at hq
    cases hf:thF h.Threads i a with
    | none=>rw [hf] at hq;exact ih _ _ hq
    | some b =>
     rw [hf] at hq;injection hq with hq;subst hq
     unfold thF at hf
     split at hf
     ·injection hf with hf;omega
     ·split at hf
      ·injection hf with hf;omega
      ·cases hf
  exact this _ _ _ hq hh
 ·rename_i hq
  have hn:=zEn hq
  simp only [Nat.zero_add] at hn
  unfold qR
  have:∀ i t,h.Threads[i]?=some t→t.Id∉(h.Threads.take i).map (·.Id):=by
   intro i t hi hm
   have:=hn i t hi
   unfold thF at this
   rw [if_pos hm] at this
   split at this<;>cases this
  clear hn hq hh
  generalize h.Threads=ts at this
  induction ts using zC3 with
  | h0=>simp
  | h1 ts t ih =>
   rw [List.map_append,List.nodup_append]
   refine ⟨ih fun i x hi hm=>?_,by simp,?_⟩
   ·have hlt:=(List.getElem?_eq_some_iff.1 hi).1
    refine this i x (by rw [List.getElem?_append_left hlt];exact hi) ?_
    rw [List.take_append_of_le_length (by omega)];exact hm
   ·intro a ha b hb
    simp only [List.map_cons,List.map_nil,List.mem_singleton] at hb
    subst hb
    have:=this ts.length t (by simp)
    simp only [List.take_left'] at this
    intro e
    subst e
    exact this ha
theorem zKr {h:zL} {l:List zB} (hh:zA6 h=0) (hv:jX l) (hN:evN l≤100000):zG8 (zAG h l)∧(zAG h l).length≤evN l:=by
 have hmem:∀ p∈zAG h l,∃ k,p∈wQ k l:=by
  intro p hp
  obtain ⟨t,_,hp⟩:=List.mem_flatMap.1 hp
  exact ⟨t.Id,hp⟩
 have hlen:(zAG h l).length≤evN l:=by
  refine Nat.le_trans ?_ (zO4 (zL4 hh) l)
  unfold zAG qR
  rw [List.length_flatMap,List.map_map]
  generalize h.Threads=ts
  induction ts with
  | nil=>simp
  | cons t r ih =>
   simp only [List.map_cons,List.sum_cons,Function.comp]
   have h1:=zNh (zLv t.Id l hv)
   have h2:evN (wQ t.Id l)=evN (ofT t.Id l):=by rw [← zFe,← zFe,zEJ]
   simp only [Function.comp_def] at *
   omega
 refine ⟨⟨by omega,fun p hp=>?_⟩,hlen⟩
 obtain ⟨k,hk⟩:=hmem p hp
 have hsub:∀ e∈p.Events,e∈evs (ofT k l):=fun e he=>by
  rw [← zEJ];exact List.mem_flatMap.2 ⟨p,hk,he⟩
 constructor
 ·have h1:=zCm hk
  have h2:evN (wQ k l)=evN (ofT k l):=by rw [← zFe,← zFe,zEJ]
  have h3:evN (ofT k l)≤evN l:=by
   have:∀ m:List zB,evN (ofT k m)≤evN m:=by
    intro m
    induction m with
    | nil=>simp [ofT,evN]
    | cons a r ih =>
     unfold ofT at *
     rw [List.filter_cons]
     split
     ·simp only [evN,List.map_cons,List.sum_cons] at *;omega
     ·simp only [evN,List.map_cons,List.sum_cons] at *;omega
   exact this l
  omega
 ·intro e he
  obtain ⟨q,hq,heq⟩:=List.mem_flatMap.1 (hsub e he)
  have:=zNE (hv q (List.mem_filter.1 hq).1) e heq
  omega
theorem zOm {h:zL} {l:List zB} (ht:h.Threads.length≤100000) (hd:h.Domains.length≤100000) (hs:h.Snaps.length≤100000) (hN:evN l≤100000):zL8 (zHG h l).1:=by
 unfold zHG
 split
 ·exact ⟨by simp [zCr],by simp [zCr],by simp [zCr],by simp [zG8,zCr]⟩
 split
 ·exact ⟨by simp [zCr],by simp [zCr],by simp [zCr],by simp [zG8,zCr]⟩
 ·rename_i h1 h2
  have hg:=zE9.1 (show zBl h l=0 by omega)
  exact ⟨ht,hd,hs,(zKr (by omega) hg.passed.valids hN).1⟩
theorem L16_LogOf_plain:∀ (h:zL) (l:List zB),pL h→zCq j5 l→∃ F,k0 F h l=some true:=by
 intro h l _ ho
 have hl:l.length<9223372036854775000:=by have:=ho.2;omega
 have hE:∀ p∈l,p.Events.length≤140737488355328:=fun p hp=>(ho.1 p hp).2.2.2.2
 by_cases h30:l.length≤30
 ·refine ⟨200000,?_⟩
  unfold k0
  rw [zJt (by omega) hl hE,Option.bind_some]
  by_cases hL:zDm h l
  ·obtain ⟨k1,k2,k3,k4,k5⟩:=hL
   rw [yK (show zDm h l from ⟨k1,k2,k3,k4,k5⟩)]
   have hok:=zOm (h:=h) (l:=l) (by omega) (by omega) (by omega) (by omega)
   rw [Bool.not_true,cond_false,zMl (by omega) (by omega) (by omega) (by omega) (by omega),Option.bind_some,zMc (by omega) (by omega) (by omega) (by omega) (by omega),Option.bind_some,zKo hok,zKy hok,zJJ]
   simp
  ·rw [yH hL,Bool.not_false,cond_true,zJJ];rfl
 ·refine ⟨l.length+200000,?_⟩
  unfold k0
  rw [zJt (by omega) hl hE,Option.bind_some,yH (fun k=>h30 k.2.2.2.1),Bool.not_false,cond_true,zOi];rfl
end Go.Ab
