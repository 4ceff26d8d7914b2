/- LogOf, plain. No conditions. -/
import Derived.Test.YtbifmbdcejggkaaC16d
import Derived.Test.YtbifmbdcejggkaaR16
namespace Go.Ab
open Go
set_option linter.unusedVariables false

theorem zB7:pE 281474976710656=some true:=by kernel_rfl
def zCD (h:zR) (l:List zB):Prop:=h.Threads.length≤70∧h.Domains.length≤10∧h.Snaps.length≤20∧l.length≤30∧evN l≤3000
instance decLightS {h:zR} {l:List zB}:Decidable (zCD h l):=inferInstanceAs (Decidable (_∧_))
theorem zLE {F:Nat} {h:zR} {l:List zB} (hl:l.length<9223372036854775000):∀ (n i:Nat) (s:Int),(l.drop i).length<n→∃ o,u0 F l n s (i:Nat)=some o:=by
  intro n
  induction n with
  | zero=>intro i s h;omega
  | succ n ih =>
    intro i s hn
    have hu:u0 F l (n+1) s (i:Nat)=uS F l (u0 F l n) s (i:Nat):=rfl
    rw [hu]
    unfold uS
    rcases hd:l.drop i with _ | ⟨x,r⟩
    · have:=v5 hd
      rw [yU (by omega),cond_false];exact ⟨s,rfl⟩
    · have hi:=uR hd
      rw [hd] at hn
      simp only [List.length_cons] at hn
      rw [y5 (by omega),cond_true,xL hd,Option.bind_some,w6 (by omega)]
      exact ih (i+1) _ (by rw [wM hd];omega)
theorem zK0 {F:Nat} {l:List zB} (hl:l.length≤30) (hN:evN l≤140737488355328 * 30):∀ (n i:Nat),(l.drop i).length<n→u0 F l n (evN (l.take i):Nat) (i:Nat)=some ((evN l:Nat):Int):=by
  intro n
  induction n with
  | zero=>intro i h;omega
  | succ n ih =>
    intro i hn
    show uS _ _ _ _ _=_
    unfold uS
    rcases hd:l.drop i with _ | ⟨x,r⟩
    · have:=v5 hd
      rw [yU (by omega),cond_false,List.take_of_length_le this]
    · have hi:=uR hd
      rw [hd] at hn
      simp only [List.length_cons] at hn
      have hle:=zCP (qH hd)
      have hlt:=zBN l i
      have hN':evN (l.take (i+1))=evN (l.take i)+x.Events.length:=by rw [vT hd,zDd]
      rw [y5 (by omega),cond_true,xL hd,Option.bind_some,w6 (by omega),w64 (by omega) (by omega)]
      have:=ih (i+1) (by rw [wM hd];omega)
      rw [hN'] at this
      rw [show ((evN (l.take i):Nat):Int)+(x.Events.length:Int)=((evN (l.take i)+x.Events.length:Nat):Int) by omega]
      exact this
theorem zMw {F:Nat} {h:zR} {l:List zB} (hF:l.length<F) (hl:l.length<9223372036854775000) (hE:∀ p∈l,p.Events.length≤140737488355328):zBh F h l=some (decide (zCD h l)):=by
  unfold zBh
  by_cases h30:l.length≤30
  · have hN:evN l≤140737488355328 * l.length:=by
      clear hF hl h30
      induction l with
      | nil=>simp [evN]
      | cons a r ih =>
        have h1:=hE a (by simp)
        have h2:=ih (fun p hp=>hE p (by simp [hp]))
        simp only [evN,List.map_cons,List.sum_cons,List.length_cons] at *
        omega
    have:=zK0 (F:=F) h30 (by omega) F 0 (by simp;omega)
    rw [show u0 F l F (0:Int) (0:Int)=_ from this,Option.bind_some]
    congr 1
    unfold zCD
    by_cases k1:h.Threads.length≤70<;>by_cases k2:h.Domains.length≤10<;>by_cases k3:h.Snaps.length≤20<;>by_cases k5:evN l≤3000<;>simp [k1,k2,k3,h30,k5]<;>omega
  · obtain ⟨o,ho⟩:=zLE (F:=F) (h:=h) hl F 0 0 (by simp;omega)
    rw [show u0 F l F (0:Int) (0:Int)=_ from ho,Option.bind_some,yU (show ¬ ((l.length:Nat):Int)≤30 by omega),yU (show ¬ zCD h l from fun k=>h30 k.2.2.2.1)]
    simp

/-- Of valid packets the events' stacks are short. -/
theorem zMQ {e:zH} (h:evS e=0):e.Stack.length≤32:=by
  rcases Nat.lt_or_ge 32 e.Stack.length with hgt | hle
  · exfalso
    unfold evS at h
    split at h
    · omega
    split at h
    · omega
    split at h
    · omega
    rename_i hb
    have hb:zBB e=false:=by simpa using hb
    cases hu:kN e.Kind with
    | false=>exact zEy hb hu (by omega)
    | true =>
      have hn:nG e.Kind=false:=by
        cases hn:nG e.Kind
        · rfl
        · rw [zLj _ hn] at hu;cases hu
      have ht:zBU e=7:=by
        unfold zBU
        rw [hn,hu]
        simp only [Bool.false_eq_true,if_false,if_true]
        unfold zCL
        rw [if_pos hgt]
      rw [if_pos (by rw [ht];omega),ht] at h
      omega
  · exact hle
theorem zMB {p:zB} (h:uV p=0):∀ e∈p.Events,e.Stack.length≤32:=by
  intro e he
  exact zMQ (zLi (vK h).2.2.2.2.2.2.2.2 e he)

/-- The events of the parts are those of the packets. -/
def evs (l:List zB):List zH:=l.flatMap (·.Events)
theorem zCT (l m:List zB):evs (l++m)=evs l++evs m:=by simp [evs]
theorem zBL (l:List zB):(evs l).length=evN l:=by
  induction l with
  | nil=>rfl
  | cons a r ih=>simp [evs,evN] at *
theorem zLV {out:List zB} (h:0<out.length):evs out=evs (ini out)++(lst out).Events:=by
  conv=>lhs;rw [pY h,zCT]
  simp [evs]
theorem zNV {out:List zB} (h:0<out.length) (e:zH):evs (fE out e)=evs out++[e]:=by
  unfold fE
  split
  · unfold pC
    rw [jC,y6,zCT];simp [evs]
  · unfold pC
    rw [zCT,zLV h];simp [evs]
theorem zIX:∀ (xs:List zH) (out:List zB),0<out.length→evs (xs.foldl fE out)=evs out++xs
  | [],out,_=>by simp
  | x::xs,out,h=>by
    have h1:0<(fE out x).length:=by unfold fE;split<;>exact zAS _ _
    rw [List.foldl_cons,zIX xs _ h1,zNV h];simp
theorem zGd (out:List zB) (p:zB):0<(qX out p).length:=by
  unfold qX
  split
  · simp
  · omega
theorem zNt (out:List zB) (p:zB):evs (qX out p)=evs out:=by
  unfold qX
  split
  · rw [zCT];simp [evs]
  · rfl
theorem zNh (out:List zB) (p:zB):evs (zAh out p)=evs out++p.Events:=by
  unfold zAh
  rw [zIX _ _ (zGd _ _),zNt]
def ofT (k:Int) (l:List zB):List zB:=l.filter fun p=>decide (p.Thread=k)
theorem zAY (k:Int) (l:List zB) (p:zB):ofT k (l++[p])=ofT k l++if p.Thread=k then [p] else []:=by
  unfold ofT
  rw [List.filter_append]
  by_cases h:p.Thread=k<;>simp [h]
theorem zCm (k:Int) (l:List zB):evs (xR k l)=evs (ofT k l):=by
  induction l using qT with
  | h0=>rfl
  | h1 l p ih =>
    rw [uN,zAY,zCT]
    unfold pO
    by_cases h:p.Thread=k
    · rw [if_pos h,if_pos h,zNh,ih];simp [evs]
    · rw [if_neg h,if_neg h,ih];simp [evs]
/-- Every part has events. -/
def zCz (l:List zB):Prop:=∀ q∈l,0<q.Events.length
theorem zN4 {out:List zB} (h:0<out.length) (hf:zCz (ini out)) (e:zH):zCz (ini (fE out e))∧0<(lst (fE out e)).Events.length:=by
  unfold fE
  split
  · rename_i hl
    refine ⟨?_,by rw [tI];simp⟩
    rw [zE5,jC,pY h]
    intro q hq
    rcases List.mem_append.1 hq with hq | hq
    · exact hf q hq
    · rw [List.mem_singleton.1 hq];omega
  · exact ⟨by rw [zE5];exact hf,by rw [tI];simp⟩
theorem zGT:∀ (xs:List zH) (out:List zB),0<out.length→zCz (ini out)→0<xs.length→zCz (xs.foldl fE out)
  | [],_,_,_,h=>by simp at h
  | x::xs,out,h0,hf,_=>by
    obtain ⟨h1,h2⟩:=zN4 h0 hf x
    have h3:0<(fE out x).length:=by unfold fE;split<;>exact zAS _ _
    rw [List.foldl_cons]
    cases xs with
    | nil =>
      simp only [List.foldl_nil]
      rw [pY h3]
      intro q hq
      rcases List.mem_append.1 hq with hq | hq
      · exact h1 q hq
      · rw [List.mem_singleton.1 hq];exact h2
    | cons y ys=>exact zGT (y::ys) _ h3 h1 (by simp)
theorem zMf {l:List zB} (h:zCz l):zCz (ini l):=fun q hq=>h q (List.dropLast_subset l hq)
theorem zMz {out:List zB} {p:zB} (h:zCz out) (hp:0<p.Events.length):zCz (zAh out p):=by
  unfold zAh
  refine zGT _ _ (zGd _ _) ?_ hp
  unfold qX
  split
  · rw [jC];exact h
  · exact zMf h
theorem zKI (k:Int) (l:List zB) (hv:jF l):zCz (xR k l):=by
  induction l using qT with
  | h0=>intro q hq;cases hq
  | h1 l p ih =>
    have ih:=ih fun q hq=>hv q (by simp [hq])
    rw [uN]
    unfold pO
    by_cases h:p.Thread=k
    · rw [if_pos h];exact zMz ih (zLl hv (by simp))
    · rw [if_neg h];exact ih
theorem zMK {l:List zB} (h:zCz l):l.length≤evN l:=by
  induction l with
  | nil=>simp
  | cons a r ih =>
    have h1:=h a (by simp)
    have h2:=ih fun q hq=>h q (by simp [hq])
    simp only [evN,List.map_cons,List.sum_cons,List.length_cons] at *
    omega
theorem zNJ {ids:List Int} (hn:ids.Nodup) (k:Int) (n:Nat):(ids.map fun i=>if k=i then n else 0).sum≤n:=by
  induction ids with
  | nil=>simp
  | cons a r ih =>
    obtain ⟨h1,h2⟩:=List.nodup_cons.1 hn
    simp only [List.map_cons,List.sum_cons]
    by_cases h:k=a
    · subst h
      rw [if_pos rfl]
      have:(r.map fun i=>if k=i then n else 0).sum=0:=by
        clear ih hn h2
        induction r with
        | nil=>rfl
        | cons b s ihs =>
          simp only [List.mem_cons,not_or] at h1
          simp only [List.map_cons,List.sum_cons,if_neg h1.1,ihs h1.2]
      omega
    · rw [if_neg h];have:=ih h2;omega
theorem zJT {α:Type} (f g:α→Nat) (l:List α):(l.map fun i=>f i+g i).sum=(l.map f).sum+(l.map g).sum:=by
  induction l with
  | nil=>rfl
  | cons a r ih=>simp only [List.map_cons,List.sum_cons,ih];omega
theorem zN8 {ids:List Int} (hn:ids.Nodup) (l:List zB):(ids.map fun k=>evN (ofT k l)).sum≤evN l:=by
  induction l with
  | nil =>
    clear hn
    induction ids with
    | nil=>simp
    | cons a r ih=>simpa [ofT,evN] using ih
  | cons p r ih =>
    have h:(fun k=>evN (ofT k (p::r)))=fun k=>(if p.Thread=k then p.Events.length else 0)+evN (ofT k r):=by
      funext k
      unfold ofT
      rw [List.filter_cons]
      by_cases h:p.Thread=k
      · rw [if_pos h,if_pos (by simpa using h)];simp [evN]
      · rw [if_neg h,if_neg (by simpa using h)];simp
    rw [h,zJT]
    have:=zNJ hn p.Thread p.Events.length
    simp only [evN,List.map_cons,List.sum_cons] at *
    omega
theorem zFo {h:zR} (hh:zAd h=0):(uF h).Nodup:=by
  unfold zAd at hh
  split at hh
  · omega
  split at hh
  · omega
  split at hh
  · rename_i q hq
    exfalso
    have:∀ (i:Nat) (m:List zP) q,xV (thF h.Threads) i m=.inr q→q≠0:=by
      intro i m
      induction m generalizing i with
      | nil=>intro q h;cases h
      | cons a r ih =>
        intro q hq
        simp only [xV] at hq
        cases hf:thF h.Threads i a with
        | none=>rw [hf] at hq;exact ih _ _ hq
        | some b =>
          rw [hf] at hq;injection hq with hq;subst hq
          unfold thF at hf
          split at hf
          · injection hf with hf;omega
          · split at hf
            · injection hf with hf;omega
            · cases hf
    exact this _ _ _ hq hh
  · rename_i hq
    have hn:=zDA hq
    simp only [Nat.zero_add] at hn
    unfold uF
    have:∀ i t,h.Threads[i]?=some t→t.Id∉(h.Threads.take i).map (·.Id):=by
      intro i t hi hm
      have:=hn i t hi
      unfold thF at this
      rw [if_pos hm] at this
      split at this<;>cases this
    clear hn hq hh
    generalize h.Threads=ts at this
    induction ts using qT with
    | h0=>simp
    | h1 ts t ih =>
      rw [List.map_append,List.nodup_append]
      refine ⟨ih fun i x hi hm=>?_,by simp,?_⟩
      · have hlt:=(List.getElem?_eq_some_iff.1 hi).1
        refine this i x (by rw [List.getElem?_append_left hlt];exact hi) ?_
        rw [List.take_append_of_le_length (by omega)];exact hm
      · intro a ha b hb
        simp only [List.map_cons,List.map_nil,List.mem_singleton] at hb
        subst hb
        have:=this ts.length t (by simp)
        simp only [List.take_left'] at this
        intro e
        subst e
        exact this ha
theorem zEC {h:zR} {l:List zB} (hh:zAd h=0) (hv:jF l) (hN:evN l≤100000):zHN (y0 h l)∧(y0 h l).length≤evN l:=by
  have hmem:∀ p∈y0 h l,∃ k,p∈xR k l:=by
    intro p hp
    obtain ⟨t,_,hp⟩:=List.mem_flatMap.1 hp
    exact ⟨t.Id,hp⟩
  have hlen:(y0 h l).length≤evN l:=by
    refine Nat.le_trans ?_ (zN8 (zFo hh) l)
    unfold y0 uF
    rw [List.length_flatMap,List.map_map]
    generalize h.Threads=ts
    induction ts with
    | nil=>simp
    | cons t r ih =>
      simp only [List.map_cons,List.sum_cons,Function.comp]
      have h1:=zMK (zKI t.Id l hv)
      have h2:evN (xR t.Id l)=evN (ofT t.Id l):=by rw [← zBL,← zBL,zCm]
      simp only [Function.comp_def] at *
      omega
  refine ⟨⟨by omega,fun p hp=>?_⟩,hlen⟩
  obtain ⟨k,hk⟩:=hmem p hp
  have hsub:∀ e∈p.Events,e∈evs (ofT k l):=fun e he=>by
    rw [← zCm];exact List.mem_flatMap.2 ⟨p,hk,he⟩
  constructor
  · have h1:=zCP hk
    have h2:evN (xR k l)=evN (ofT k l):=by rw [← zBL,← zBL,zCm]
    have h3:evN (ofT k l)≤evN l:=by
      have:∀ m:List zB,evN (ofT k m)≤evN m:=by
        intro m
        induction m with
        | nil=>simp [ofT,evN]
        | cons a r ih =>
          unfold ofT at *
          rw [List.filter_cons]
          split
          · simp only [evN,List.map_cons,List.sum_cons] at *;omega
          · simp only [evN,List.map_cons,List.sum_cons] at *;omega
      exact this l
    omega
  · intro e he
    obtain ⟨q,hq,heq⟩:=List.mem_flatMap.1 (hsub e he)
    have:=zMB (hv q (List.mem_filter.1 hq).1) e heq
    omega
theorem zNo {h:zR} {l:List zB} (ht:h.Threads.length≤100000) (hd:h.Domains.length≤100000) (hs:h.Snaps.length≤100000) (hN:evN l≤100000):zM5 (pJ h l).1:=by
  unfold pJ
  split
  · exact ⟨by simp [zCx],by simp [zCx],by simp [zCx],by simp [zHN,zCx]⟩
  split
  · exact ⟨by simp [zCx],by simp [zCx],by simp [zCx],by simp [zHN,zCx]⟩
  · rename_i h1 h2
    have hg:=zCa.1 (show zDc h l=0 by omega)
    exact ⟨Nat.le_trans ht (by omega),Nat.le_trans hd (by omega),Nat.le_trans hs (by omega),(zEC (by omega) hg.passed.valids hN).1⟩
end Go.Ab
