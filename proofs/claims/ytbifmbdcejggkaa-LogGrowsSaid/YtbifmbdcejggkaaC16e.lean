/- LogOf, plain. No conditions. -/
import Derived.Test.YtbifmbdcejggkaaC16d
import Derived.Test.YtbifmbdcejggkaaR16
namespace Go.Ab
open Go
set_option linter.unusedVariables false

theorem zAv:nY 281474976710656=some true:=by kernel_rfl
def zCu (h:zS) (l:List zB):Prop:=h.Threads.length≤70∧h.Domains.length≤10∧h.Snaps.length≤20∧l.length≤30∧evN l≤3000
instance decLightS {h:zS} {l:List zB}:Decidable (zCu h l):=inferInstanceAs (Decidable (_∧_))
theorem zKq {F:Nat} {h:zS} {l:List zB} (hl:l.length<9223372036854775000):∀ (n i:Nat) (s:Int),(l.drop i).length<n→∃ o,u2 F l n s (i:Nat)=some o:=by
  intro n
  induction n with
  | zero=>intro i s h;omega
  | succ n ih =>
    intro i s hn
    have hu:u2 F l (n+1) s (i:Nat)=uW F l (u2 F l n) s (i:Nat):=rfl
    rw [hu]
    unfold uW
    rcases hd:l.drop i with _ | ⟨x,r⟩
    · have:=qB hd
      rw [y1 (by omega),cond_false];exact ⟨s,rfl⟩
    · have hi:=qW hd
      rw [hd] at hn
      simp only [List.length_cons] at hn
      rw [y7 (by omega),cond_true,wK hd,Option.bind_some,uM (by omega)]
      exact ih (i+1) _ (by rw [vY hd];omega)
theorem zK7 {F:Nat} {l:List zB} (hl:l.length≤30) (hN:evN l≤140737488355328 * 30):∀ (n i:Nat),(l.drop i).length<n→u2 F l n (evN (l.take i):Nat) (i:Nat)=some ((evN l:Nat):Int):=by
  intro n
  induction n with
  | zero=>intro i h;omega
  | succ n ih =>
    intro i hn
    show uW _ _ _ _ _=_
    unfold uW
    rcases hd:l.drop i with _ | ⟨x,r⟩
    · have:=qB hd
      rw [y1 (by omega),cond_false,List.take_of_length_le this]
    · have hi:=qW hd
      rw [hd] at hn
      simp only [List.length_cons] at hn
      have hle:=zGi (zCT hd)
      have hlt:=zCY l i
      have hN':evN (l.take (i+1))=evN (l.take i)+x.Events.length:=by rw [jC hd,zEX]
      rw [y7 (by omega),cond_true,wK hd,Option.bind_some,uM (by omega),w64 (by omega) (by omega)]
      have:=ih (i+1) (by rw [vY hd];omega)
      rw [hN'] at this
      rw [show ((evN (l.take i):Nat):Int)+(x.Events.length:Int)=((evN (l.take i)+x.Events.length:Nat):Int) by omega]
      exact this
theorem zLE {F:Nat} {h:zS} {l:List zB} (hF:l.length<F) (hl:l.length<9223372036854775000) (hE:∀ p∈l,p.Events.length≤140737488355328):zAZ F h l=some (decide (zCu h l)):=by
  unfold zAZ
  by_cases h30:l.length≤30
  · have hN:evN l≤140737488355328 * l.length:=by
      clear hF hl h30
      induction l with
      | nil=>simp [evN]
      | cons a r ih =>
        have h1:=hE a (by simp)
        have h2:=ih (fun p hp=>hE p (by simp [hp]))
        simp only [evN,List.map_cons,List.sum_cons,List.length_cons] at *
        omega
    have:=zK7 (F:=F) h30 (by omega) F 0 (by simp;omega)
    rw [show u2 F l F (0:Int) (0:Int)=_ from this,Option.bind_some]
    congr 1
    unfold zCu
    by_cases k1:h.Threads.length≤70<;>by_cases k2:h.Domains.length≤10<;>by_cases k3:h.Snaps.length≤20<;>by_cases k5:evN l≤3000<;>simp [k1,k2,k3,h30,k5]<;>omega
  · obtain ⟨o,ho⟩:=zKq (F:=F) (h:=h) hl F 0 0 (by simp;omega)
    rw [show u2 F l F (0:Int) (0:Int)=_ from ho,Option.bind_some,y1 (show ¬ ((l.length:Nat):Int)≤30 by omega),y1 (show ¬ zCu h l from fun k=>h30 k.2.2.2.1)]
    simp

/-- Of valid packets the events' stacks are short. -/
theorem zLx {e:zI} (h:evS e=0):e.Stack.length≤32:=by
  rcases Nat.lt_or_ge 32 e.Stack.length with hgt | hle
  · exfalso
    unfold evS at h
    split at h
    · omega
    split at h
    · omega
    split at h
    · omega
    rename_i hb
    have hb:zBk e=false:=by simpa using hb
    cases hu:kA e.Kind with
    | false=>exact zEd hb hu (by omega)
    | true =>
      have hn:pK e.Kind=false:=by
        cases hn:pK e.Kind
        · rfl
        · rw [zKI _ hn] at hu;cases hu
      have ht:zBJ e=7:=by
        unfold zBJ
        rw [hn,hu]
        simp only [Bool.false_eq_true,if_false,if_true]
        unfold zCv
        rw [if_pos hgt]
      rw [if_pos (by rw [ht];omega),ht] at h
      omega
  · exact hle
theorem zMl {p:zB} (h:u5 p=0):∀ e∈p.Events,e.Stack.length≤32:=by
  intro e he
  exact zLx (zKw (tU h).2.2.2.2.2.2.2.2 e he)

/-- The events of the parts are those of the packets. -/
def evs (l:List zB):List zI:=l.flatMap (·.Events)
theorem zCF (l m:List zB):evs (l++m)=evs l++evs m:=by simp [evs]
theorem zBy (l:List zB):(evs l).length=evN l:=by
  induction l with
  | nil=>rfl
  | cons a r ih=>simp [evs,evN] at *
theorem zKJ {out:List zB} (h:0<out.length):evs out=evs (ini out)++(lst out).Events:=by
  conv=>lhs;rw [pM h,zCF]
  simp [evs]
theorem zNa {out:List zB} (h:0<out.length) (e:zI):evs (fE out e)=evs out++[e]:=by
  unfold fE
  split
  · unfold kS
    rw [qY,y8,zCF];simp [evs]
  · unfold kS
    rw [zCF,zKJ h];simp [evs]
theorem zIe:∀ (xs:List zI) (out:List zB),0<out.length→evs (xs.foldl fE out)=evs out++xs
  | [],out,_=>by simp
  | x::xs,out,h=>by
    have h1:0<(fE out x).length:=by unfold fE;split<;>exact zAJ _ _
    rw [List.foldl_cons,zIe xs _ h1,zNa h];simp
theorem zGw (out:List zB) (p:zB):0<(qP out p).length:=by
  unfold qP
  split
  · simp
  · omega
theorem zMX (out:List zB) (p:zB):evs (qP out p)=evs out:=by
  unfold qP
  split
  · rw [zCF];simp [evs]
  · rfl
theorem zMS (out:List zB) (p:zB):evs (nL out p)=evs out++p.Events:=by
  unfold nL
  rw [zIe _ _ (zGw _ _),zMX]
def ofT (k:Int) (l:List zB):List zB:=l.filter fun p=>decide (p.Thread=k)
theorem zAy (k:Int) (l:List zB) (p:zB):ofT k (l++[p])=ofT k l++if p.Thread=k then [p] else []:=by
  unfold ofT
  rw [List.filter_append]
  by_cases h:p.Thread=k<;>simp [h]
theorem zBX (k:Int) (l:List zB):evs (xL k l)=evs (ofT k l):=by
  induction l using q8 with
  | h0=>rfl
  | h1 l p ih =>
    rw [uP,zAy,zCF]
    unfold kR
    by_cases h:p.Thread=k
    · rw [if_pos h,if_pos h,zMS,ih];simp [evs]
    · rw [if_neg h,if_neg h,ih];simp [evs]
/-- Every part has events. -/
def zCj (l:List zB):Prop:=∀ q∈l,0<q.Events.length
theorem zNb {out:List zB} (h:0<out.length) (hf:zCj (ini out)) (e:zI):zCj (ini (fE out e))∧0<(lst (fE out e)).Events.length:=by
  unfold fE
  split
  · rename_i hl
    refine ⟨?_,by rw [tH];simp⟩
    rw [zEQ,qY,pM h]
    intro q hq
    rcases List.mem_append.1 hq with hq | hq
    · exact hf q hq
    · rw [List.mem_singleton.1 hq];omega
  · exact ⟨by rw [zEQ];exact hf,by rw [tH];simp⟩
theorem zGC:∀ (xs:List zI) (out:List zB),0<out.length→zCj (ini out)→0<xs.length→zCj (xs.foldl fE out)
  | [],_,_,_,h=>by simp at h
  | x::xs,out,h0,hf,_=>by
    obtain ⟨h1,h2⟩:=zNb h0 hf x
    have h3:0<(fE out x).length:=by unfold fE;split<;>exact zAJ _ _
    rw [List.foldl_cons]
    cases xs with
    | nil =>
      simp only [List.foldl_nil]
      rw [pM h3]
      intro q hq
      rcases List.mem_append.1 hq with hq | hq
      · exact h1 q hq
      · rw [List.mem_singleton.1 hq];exact h2
    | cons y ys=>exact zGC (y::ys) _ h3 h1 (by simp)
theorem zL2 {l:List zB} (h:zCj l):zCj (ini l):=fun q hq=>h q (List.dropLast_subset l hq)
theorem zLr {out:List zB} {p:zB} (h:zCj out) (hp:0<p.Events.length):zCj (nL out p):=by
  unfold nL
  refine zGC _ _ (zGw _ _) ?_ hp
  unfold qP
  split
  · rw [qY];exact h
  · exact zL2 h
theorem zJ4 (k:Int) (l:List zB) (hv:zAg l):zCj (xL k l):=by
  induction l using q8 with
  | h0=>intro q hq;cases hq
  | h1 l p ih =>
    have ih:=ih fun q hq=>hv q (by simp [hq])
    rw [uP]
    unfold kR
    by_cases h:p.Thread=k
    · rw [if_pos h];exact zLr ih (zLk hv (by simp))
    · rw [if_neg h];exact ih
theorem zLK {l:List zB} (h:zCj l):l.length≤evN l:=by
  induction l with
  | nil=>simp
  | cons a r ih =>
    have h1:=h a (by simp)
    have h2:=ih fun q hq=>h q (by simp [hq])
    simp only [evN,List.map_cons,List.sum_cons,List.length_cons] at *
    omega
theorem zMC {ids:List Int} (hn:ids.Nodup) (k:Int) (n:Nat):(ids.map fun i=>if k=i then n else 0).sum≤n:=by
  induction ids with
  | nil=>simp
  | cons a r ih =>
    obtain ⟨h1,h2⟩:=List.nodup_cons.1 hn
    simp only [List.map_cons,List.sum_cons]
    by_cases h:k=a
    · subst h
      rw [if_pos rfl]
      have:(r.map fun i=>if k=i then n else 0).sum=0:=by
        clear ih hn h2
        induction r with
        | nil=>rfl
        | cons b s ihs =>
          simp only [List.mem_cons,not_or] at h1
          simp only [List.map_cons,List.sum_cons,if_neg h1.1,ihs h1.2]
      omega
    · rw [if_neg h];have:=ih h2;omega
theorem zJt {α:Type} (f g:α→Nat) (l:List α):(l.map fun i=>f i+g i).sum=(l.map f).sum+(l.map g).sum:=by
  induction l with
  | nil=>rfl
  | cons a r ih=>simp only [List.map_cons,List.sum_cons,ih];omega
theorem zNu {ids:List Int} (hn:ids.Nodup) (l:List zB):(ids.map fun k=>evN (ofT k l)).sum≤evN l:=by
  induction l with
  | nil =>
    clear hn
    induction ids with
    | nil=>simp
    | cons a r ih=>simpa [ofT,evN] using ih
  | cons p r ih =>
    have h:(fun k=>evN (ofT k (p::r)))=fun k=>(if p.Thread=k then p.Events.length else 0)+evN (ofT k r):=by
      funext k
      unfold ofT
      rw [List.filter_cons]
      by_cases h:p.Thread=k
      · rw [if_pos h,if_pos (by simpa using h)];simp [evN]
      · rw [if_neg h,if_neg (by simpa using h)];simp
    rw [h,zJt]
    have:=zMC hn p.Thread p.Events.length
    simp only [evN,List.map_cons,List.sum_cons] at *
    omega
theorem zFd {h:zS} (hh:zBo h=0):(v8 h).Nodup:=by
  unfold zBo at hh
  split at hh
  · omega
  split at hh
  · omega
  split at hh
  · rename_i q hq
    exfalso
    have:∀ (i:Nat) (m:List zQ) q,xW (thF h.Threads) i m=.inr q→q≠0:=by
      intro i m
      induction m generalizing i with
      | nil=>intro q h;cases h
      | cons a r ih =>
        intro q hq
        simp only [xW] at hq
        cases hf:thF h.Threads i a with
        | none=>rw [hf] at hq;exact ih _ _ hq
        | some b =>
          rw [hf] at hq;injection hq with hq;subst hq
          unfold thF at hf
          split at hf
          · injection hf with hf;omega
          · split at hf
            · injection hf with hf;omega
            · cases hf
    exact this _ _ _ hq hh
  · rename_i hq
    have hn:=zDe hq
    simp only [Nat.zero_add] at hn
    unfold v8
    have:∀ i t,h.Threads[i]?=some t→t.Id∉(h.Threads.take i).map (·.Id):=by
      intro i t hi hm
      have:=hn i t hi
      unfold thF at this
      rw [if_pos hm] at this
      split at this<;>cases this
    clear hn hq hh
    generalize h.Threads=ts at this
    induction ts using q8 with
    | h0=>simp
    | h1 ts t ih =>
      rw [List.map_append,List.nodup_append]
      refine ⟨ih fun i x hi hm=>?_,by simp,?_⟩
      · have hlt:=(List.getElem?_eq_some_iff.1 hi).1
        refine this i x (by rw [List.getElem?_append_left hlt];exact hi) ?_
        rw [List.take_append_of_le_length (by omega)];exact hm
      · intro a ha b hb
        simp only [List.map_cons,List.map_nil,List.mem_singleton] at hb
        subst hb
        have:=this ts.length t (by simp)
        simp only [List.take_left'] at this
        intro e
        subst e
        exact this ha
theorem zD9 {h:zS} {l:List zB} (hh:zBo h=0) (hv:zAg l) (hN:evN l≤100000):zIJ (vM h l)∧(vM h l).length≤evN l:=by
  have hmem:∀ p∈vM h l,∃ k,p∈xL k l:=by
    intro p hp
    obtain ⟨t,_,hp⟩:=List.mem_flatMap.1 hp
    exact ⟨t.Id,hp⟩
  have hlen:(vM h l).length≤evN l:=by
    refine Nat.le_trans ?_ (zNu (zFd hh) l)
    unfold vM v8
    rw [List.length_flatMap,List.map_map]
    generalize h.Threads=ts
    induction ts with
    | nil=>simp
    | cons t r ih =>
      simp only [List.map_cons,List.sum_cons,Function.comp]
      have h1:=zLK (zJ4 t.Id l hv)
      have h2:evN (xL t.Id l)=evN (ofT t.Id l):=by rw [← zBy,← zBy,zBX]
      simp only [Function.comp_def] at *
      omega
  refine ⟨⟨by omega,fun p hp=>?_⟩,hlen⟩
  obtain ⟨k,hk⟩:=hmem p hp
  have hsub:∀ e∈p.Events,e∈evs (ofT k l):=fun e he=>by
    rw [← zBX];exact List.mem_flatMap.2 ⟨p,hk,he⟩
  constructor
  · have h1:=zGi hk
    have h2:evN (xL k l)=evN (ofT k l):=by rw [← zBy,← zBy,zBX]
    have h3:evN (ofT k l)≤evN l:=by
      have:∀ m:List zB,evN (ofT k m)≤evN m:=by
        intro m
        induction m with
        | nil=>simp [ofT,evN]
        | cons a r ih =>
          unfold ofT at *
          rw [List.filter_cons]
          split
          · simp only [evN,List.map_cons,List.sum_cons] at *;omega
          · simp only [evN,List.map_cons,List.sum_cons] at *;omega
      exact this l
    omega
  · intro e he
    obtain ⟨q,hq,heq⟩:=List.mem_flatMap.1 (hsub e he)
    have:=zMl (hv q (List.mem_filter.1 hq).1) e heq
    omega
theorem zMR {h:zS} {l:List zB} (ht:h.Threads.length≤100000) (hd:h.Domains.length≤100000) (hs:h.Snaps.length≤100000) (hN:evN l≤100000):zMq (zBT h l).1:=by
  unfold zBT
  split
  · exact ⟨by simp [zCg],by simp [zCg],by simp [zCg],by simp [zIJ,zCg]⟩
  split
  · exact ⟨by simp [zCg],by simp [zCg],by simp [zCg],by simp [zIJ,zCg]⟩
  · rename_i h1 h2
    have hg:=zDS.1 (show zAl h l=0 by omega)
    exact ⟨Nat.le_trans ht (by omega),Nat.le_trans hd (by omega),Nat.le_trans hs (by omega),(zD9 (by omega) hg.passed.valids hN).1⟩
end Go.Ab
