/- LogOf, plain. No conditions. -/
import Derived.Test.YtbifmbdcejggkaaC16d
import Derived.Test.YtbifmbdcejggkaaR16
namespace Go.Ab
open Go
set_option linter.unusedVariables false
theorem zGT:zCv 281474976710656=some true:=by kernel_rfl
def zCq (h:zL) (l:List zB):Prop:=h.Threads.length≤70∧h.Domains.length≤10∧h.Snaps.length≤20∧l.length≤30∧evN l≤3000
instance decLightS {h:zL} {l:List zB}:Decidable (zCq h l):=inferInstanceAs (Decidable (_∧_))
theorem zOd {F:Nat} {h:zL} {l:List zB} (hl:l.length<9223372036854775000):∀ (n i:Nat) (s:Int),(l.drop i).length<n→∃ o,tP F l n s (i:Nat)=some o:=by
 intro n
 induction n with
 | zero=>intro i s h;omega
 | succ n ih =>
  intro i s hn
  have hu:tP F l (n+1) s (i:Nat)=tJ F l (tP F l n) s (i:Nat):=rfl
  rw [hu]
  unfold tJ
  rcases hd:l.drop i with _ | ⟨x,r⟩
  ·have:=uA hd
   rw [yN (by omega),cond_false];exact ⟨s,rfl⟩
  ·have hi:=uS hd
   rw [hd] at hn
   simp only [List.length_cons] at hn
   rw [yP (by omega),cond_true,y1 hd,Option.bind_some,wE (by omega)]
   exact ih (i+1) _ (by rw [wT hd];omega)
theorem zN3 {F:Nat} {l:List zB} (hl:l.length≤30) (hN:evN l≤140737488355328 * 30):∀ (n i:Nat),(l.drop i).length<n→tP F l n (evN (l.take i):Nat) (i:Nat)=some ((evN l:Nat):Int):=by
 intro n
 induction n with
 | zero=>intro i h;omega
 | succ n ih =>
  intro i hn
  show tJ _ _ _ _ _=_
  unfold tJ
  rcases hd:l.drop i with _ | ⟨x,r⟩
  ·have:=uA hd
   rw [yN (by omega),cond_false,List.take_of_length_le this]
  ·have hi:=uS hd
   rw [hd] at hn
   simp only [List.length_cons] at hn
   have hle:=zB0 (jH hd)
   have hlt:=zBc l i
   have hN':evN (l.take (i+1))=evN (l.take i)+x.Events.length:=by rw [uU hd,zEJ]
   rw [yP (by omega),cond_true,y1 hd,Option.bind_some,wE (by omega),w64 (by omega) (by omega)]
   have:=ih (i+1) (by rw [wT hd];omega)
   rw [hN'] at this
   rw [show ((evN (l.take i):Nat):Int)+(x.Events.length:Int)=((evN (l.take i)+x.Events.length:Nat):Int) by omega]
   exact this
theorem zOV {F:Nat} {h:zL} {l:List zB} (hF:l.length<F) (hl:l.length<9223372036854775000) (hE:∀ p∈l,p.Events.length≤140737488355328):zAj F h l=some (decide (zCq h l)):=by
 unfold zAj
 by_cases h30:l.length≤30
 ·have hN:evN l≤140737488355328 * l.length:=by
   clear hF hl h30
   induction l with
   | nil=>simp [evN]
   | cons a r ih =>
    have h1:=hE a (by simp)
    have h2:=ih (fun p hp=>hE p (by simp [hp]))
    simp only [evN,List.map_cons,List.sum_cons,List.length_cons] at *
    omega
  have:=zN3 (F:=F) h30 (by omega) F 0 (by simp;omega)
  rw [show tP F l F (0:Int) (0:Int)=_ from this,Option.bind_some]
  congr 1
  unfold zCq
  by_cases k1:h.Threads.length≤70<;>by_cases k2:h.Domains.length≤10<;>by_cases k3:h.Snaps.length≤20<;>by_cases k5:evN l≤3000<;>simp [k1,k2,k3,h30,k5]<;>omega
 ·obtain ⟨o,ho⟩:=zOd (F:=F) (h:=h) hl F 0 0 (by simp;omega)
  rw [show tP F l F (0:Int) (0:Int)=_ from ho,Option.bind_some,yN (show ¬ ((l.length:Nat):Int)≤30 by omega),yN (show ¬ zCq h l from fun k=>h30 k.2.2.2.1)]
  simp
theorem zO2 {e:zI} (h:evS e=0):e.Stack.length≤32:=by
 rcases Nat.lt_or_ge 32 e.Stack.length with hgt | hle
 ·exfalso
  unfold evS at h
  split at h
  ·omega
  split at h
  ·omega
  split at h
  ·omega
  rename_i hb
  have hb:zCg e=false:=by simpa using hb
  cases hu:j3 e.Kind with
  | false=>exact zGg hb hu (by omega)
  | true =>
   have hn:pH e.Kind=false:=by
    cases hn:pH e.Kind
    ·rfl
    ·rw [zIT _ hn] at hu;cases hu
   have ht:zCz e=7:=by
    unfold zCz
    rw [hn,hu]
    simp only [Bool.false_eq_true,if_false,if_true]
    unfold zBs
    rw [if_pos hgt]
   rw [if_pos (by rw [ht];omega),ht] at h
   omega
 ·exact hle
theorem zOK {p:zB} (h:uK p=0):∀ e∈p.Events,e.Stack.length≤32:=by
 intro e he
 exact zO2 (zNT (vX h).2.2.2.2.2.2.2.2 e he)
def evs (l:List zB):List zI:=l.flatMap (·.Events)
theorem zEi (l m:List zB):evs (l++m)=evs l++evs m:=by simp [evs]
theorem zFX (l:List zB):(evs l).length=evN l:=by
 induction l with
 | nil=>rfl
 | cons a r ih=>simp [evs,evN] at *
theorem zNb {out:List zB} (h:0<out.length):evs out=evs (ini out)++(lst out).Events:=by
 conv=>lhs;rw [zCY h,zEi]
 simp [evs]
theorem zPW {out:List zB} (h:0<out.length) (e:zI):evs (fE out e)=evs out++[e]:=by
 unfold fE
 split
 ·unfold zB4
  rw [zAa,y3,zEi];simp [evs]
 ·unfold zB4
  rw [zEi,zNb h];simp [evs]
theorem zK4:∀ (xs:List zI) (out:List zB),0<out.length→evs (xs.foldl fE out)=evs out++xs
 | [],out,_=>by simp
 | x::xs,out,h=>by
  have h1:0<(fE out x).length:=by unfold fE;split<;>exact zEf _ _
  rw [List.foldl_cons,zK4 xs _ h1,zPW h];simp
theorem zLV (out:List zB) (p:zB):0<(nC out p).length:=by
 unfold nC
 split
 ·simp
 ·omega
theorem zPH (out:List zB) (p:zB):evs (nC out p)=evs out:=by
 unfold nC
 split
 ·rw [zEi];simp [evs]
 ·rfl
theorem zPv (out:List zB) (p:zB):evs (zDi out p)=evs out++p.Events:=by
 unfold zDi
 rw [zK4 _ _ (zLV _ _),zPH]
def ofT (k:Int) (l:List zB):List zB:=l.filter fun p=>decide (p.Thread=k)
theorem zOQ (k:Int) (l:List zB) (p:zB):ofT k (l++[p])=ofT k l++if p.Thread=k then [p] else []:=by
 unfold ofT
 rw [List.filter_append]
 by_cases h:p.Thread=k<;>simp [h]
theorem zFM (k:Int) (l:List zB):evs (wX k l)=evs (ofT k l):=by
 induction l using zDM with
 | h0=>rfl
 | h1 l p ih =>
  rw [zAM,zOQ,zEi]
  unfold zEq
  by_cases h:p.Thread=k
  ·rw [if_pos h,if_pos h,zPv,ih];simp [evs]
  ·rw [if_neg h,if_neg h,ih];simp [evs]
def zDR (l:List zB):Prop:=∀ q∈l,0<q.Events.length
theorem zPR {out:List zB} (h:0<out.length) (hf:zDR (ini out)) (e:zI):zDR (ini (fE out e))∧0<(lst (fE out e)).Events.length:=by
 unfold fE
 split
 ·rename_i hl
  refine ⟨?_,by rw [qH];simp⟩
  rw [zGB,zAa,zCY h]
  intro q hq
  rcases List.mem_append.1 hq with hq | hq
  ·exact hf q hq
  ·rw [List.mem_singleton.1 hq];omega
 ·exact ⟨by rw [zGB];exact hf,by rw [qH];simp⟩
theorem zIG:∀ (xs:List zI) (out:List zB),0<out.length→zDR (ini out)→0<xs.length→zDR (xs.foldl fE out)
 | [],_,_,_,h=>by simp at h
 | x::xs,out,h0,hf,_=>by
  obtain ⟨h1,h2⟩:=zPR h0 hf x
  have h3:0<(fE out x).length:=by unfold fE;split<;>exact zEf _ _
  rw [List.foldl_cons]
  cases xs with
  | nil =>
   simp only [List.foldl_nil]
   rw [zCY h3]
   intro q hq
   rcases List.mem_append.1 hq with hq | hq
   ·exact h1 q hq
   ·rw [List.mem_singleton.1 hq];exact h2
  | cons y ys=>exact zIG (y::ys) _ h3 h1 (by simp)
theorem zOv {l:List zB} (h:zDR l):zDR (ini l):=fun q hq=>h q (List.dropLast_subset l hq)
theorem zOZ {out:List zB} {p:zB} (h:zDR out) (hp:0<p.Events.length):zDR (zDi out p):=by
 unfold zDi
 refine zIG _ _ (zLV _ _) ?_ hp
 unfold nC
 split
 ·rw [zAa];exact h
 ·exact zOv h
theorem zMc (k:Int) (l:List zB) (hv:q8 l):zDR (wX k l):=by
 induction l using zDM with
 | h0=>intro q hq;cases hq
 | h1 l p ih =>
  have ih:=ih fun q hq=>hv q (by simp [hq])
  rw [zAM]
  unfold zEq
  by_cases h:p.Thread=k
  ·rw [if_pos h];exact zOZ ih (zNc hv (by simp))
  ·rw [if_neg h];exact ih
theorem zOf {l:List zB} (h:zDR l):l.length≤evN l:=by
 induction l with
 | nil=>simp
 | cons a r ih =>
  have h1:=h a (by simp)
  have h2:=ih fun q hq=>h q (by simp [hq])
  simp only [evN,List.map_cons,List.sum_cons,List.length_cons] at *
  omega
theorem zPl {ids:List Int} (hn:ids.Nodup) (k:Int) (n:Nat):(ids.map fun i=>if k=i then n else 0).sum≤n:=by
 induction ids with
 | nil=>simp
 | cons a r ih =>
  obtain ⟨h1,h2⟩:=List.nodup_cons.1 hn
  simp only [List.map_cons,List.sum_cons]
  by_cases h:k=a
  ·subst h
   rw [if_pos rfl]
   have:(r.map fun i=>if k=i then n else 0).sum=0:=by
    clear ih hn h2
    induction r with
    | nil=>rfl
    | cons b s ihs =>
     simp only [List.mem_cons,not_or] at h1
     simp only [List.map_cons,List.sum_cons,if_neg h1.1,ihs h1.2]
   omega
  ·rw [if_neg h];have:=ih h2;omega
theorem zPo {α:Type} (f g:α→Nat) (l:List α):(l.map fun i=>f i+g i).sum=(l.map f).sum+(l.map g).sum:=by
 induction l with
 | nil=>rfl
 | cons a r ih=>simp only [List.map_cons,List.sum_cons,ih];omega
theorem zQa {ids:List Int} (hn:ids.Nodup) (l:List zB):(ids.map fun k=>evN (ofT k l)).sum≤evN l:=by
 induction l with
 | nil =>
  clear hn
  induction ids with
  | nil=>simp
  | cons a r ih=>simpa [ofT,evN] using ih
 | cons p r ih =>
  have h:(fun k=>evN (ofT k (p::r)))=fun k=>(if p.Thread=k then p.Events.length else 0)+evN (ofT k r):=by
   funext k
   unfold ofT
   rw [List.filter_cons]
   by_cases h:p.Thread=k
   ·rw [if_pos h,if_pos (by simpa using h)];simp [evN]
   ·rw [if_neg h,if_neg (by simpa using h)];simp
  rw [h,zPo]
  have:=zPl hn p.Thread p.Events.length
  simp only [evN,List.map_cons,List.sum_cons] at *
  omega
theorem zMt {h:zL} (hh:zAF h=0):(jA h).Nodup:=by
 unfold zAF at hh
 split at hh
 ·omega
 split at hh
 ·omega
 split at hh
 ·rename_i q hq
  exfalso
  have:∀ (i:Nat) (m:List z0) q,xL (thF h.Threads) i m=.inr q→q≠0:=by
   intro i m
   induction m generalizing i with
   | nil=>intro q h;cases h
   | cons a r ih =>
    intro q hq
    simp only [xL] at hq
    cases hf:thF h.Threads i a with
    | none=>rw [hf] at hq;exact ih _ _ hq
    | some b =>
     rw [hf] at hq;injection hq with hq;subst hq
     unfold thF at hf
     split at hf
     ·injection hf with hf;omega
     ·split at hf
      ·injection hf with hf;omega
      ·cases hf
  exact this _ _ _ hq hh
 ·rename_i hq
  have hn:=zE1 hq
  simp only [Nat.zero_add] at hn
  unfold jA
  have:∀ i t,h.Threads[i]?=some t→t.Id∉(h.Threads.take i).map (·.Id):=by
   intro i t hi hm
   have:=hn i t hi
   unfold thF at this
   rw [if_pos hm] at this
   split at this<;>cases this
  clear hn hq hh
  generalize h.Threads=ts at this
  induction ts using zDM with
  | h0=>simp
  | h1 ts t ih =>
   rw [List.map_append,List.nodup_append]
   refine ⟨ih fun i x hi hm=>?_,by simp,?_⟩
   ·have hlt:=(List.getElem?_eq_some_iff.1 hi).1
    refine this i x (by rw [List.getElem?_append_left hlt];exact hi) ?_
    rw [List.take_append_of_le_length (by omega)];exact hm
   ·intro a ha b hb
    simp only [List.map_cons,List.map_nil,List.mem_singleton] at hb
    subst hb
    have:=this ts.length t (by simp)
    simp only [List.take_left'] at this
    intro e
    subst e
    exact this ha
theorem zLr {h:zL} {l:List zB} (hh:zAF h=0) (hv:q8 l) (hN:evN l≤100000):zIg (nN h l)∧(nN h l).length≤evN l:=by
 have hmem:∀ p∈nN h l,∃ k,p∈wX k l:=by
  intro p hp
  obtain ⟨t,_,hp⟩:=List.mem_flatMap.1 hp
  exact ⟨t.Id,hp⟩
 have hlen:(nN h l).length≤evN l:=by
  refine Nat.le_trans ?_ (zQa (zMt hh) l)
  unfold nN jA
  rw [List.length_flatMap,List.map_map]
  generalize h.Threads=ts
  induction ts with
  | nil=>simp
  | cons t r ih =>
   simp only [List.map_cons,List.sum_cons,Function.comp]
   have h1:=zOf (zMc t.Id l hv)
   have h2:evN (wX t.Id l)=evN (ofT t.Id l):=by rw [← zFX,← zFX,zFM]
   simp only [Function.comp_def] at *
   omega
 refine ⟨⟨by omega,fun p hp=>?_⟩,hlen⟩
 obtain ⟨k,hk⟩:=hmem p hp
 have hsub:∀ e∈p.Events,e∈evs (ofT k l):=fun e he=>by
  rw [← zFM];exact List.mem_flatMap.2 ⟨p,hk,he⟩
 constructor
 ·have h1:=zB0 hk
  have h2:evN (wX k l)=evN (ofT k l):=by rw [← zFX,← zFX,zFM]
  have h3:evN (ofT k l)≤evN l:=by
   have:∀ m:List zB,evN (ofT k m)≤evN m:=by
    intro m
    induction m with
    | nil=>simp [ofT,evN]
    | cons a r ih =>
     unfold ofT at *
     rw [List.filter_cons]
     split
     ·simp only [evN,List.map_cons,List.sum_cons] at *;omega
     ·simp only [evN,List.map_cons,List.sum_cons] at *;omega
   exact this l
  omega
 ·intro e he
  obtain ⟨q,hq,heq⟩:=List.mem_flatMap.1 (hsub e he)
  have:=zOK (hv q (List.mem_filter.1 hq).1) e heq
  omega
theorem zLJ {h:zL} {l:List zB} (ht:h.Threads.length≤100000) (hd:h.Domains.length≤100000) (hs:h.Snaps.length≤100000) (hN:evN l≤100000):zJt (zAc h l).1:=by
 unfold zAc
 split
 ·exact ⟨by simp [zDf],by simp [zDf],by simp [zDf],by simp [zIg,zDf]⟩
 split
 ·exact ⟨by simp [zDf],by simp [zDf],by simp [zDf],by simp [zIg,zDf]⟩
 ·rename_i h1 h2
  have hg:=zDG.1 (show zBW h l=0 by omega)
  exact ⟨Nat.le_trans ht (by omega),Nat.le_trans hd (by omega),Nat.le_trans hs (by omega),(zLr (by omega) hg.passed.valids hN).1⟩
end Go.Ab
