/- LogOf, plain. No conditions. -/
import Derived.Test.YtbifmbdcejggkaaC16d
import Derived.Test.YtbifmbdcejggkaaR16
namespace Go.Ab
open Go
set_option linter.unusedVariables false

theorem zCs:nJ 281474976710656=some true:=by kernel_rfl
def zCp (h:zT) (l:List zB):Prop:=h.Threads.length≤70∧h.Domains.length≤10∧h.Snaps.length≤20∧l.length≤30∧evN l≤3000
instance decLightS {h:zT} {l:List zB}:Decidable (zCp h l):=inferInstanceAs (Decidable (_∧_))
theorem zJ8 {F:Nat} {h:zT} {l:List zB} (hl:l.length<9223372036854775000):∀ (n i:Nat) (s:Int),(l.drop i).length<n→∃ o,uN F l n s (i:Nat)=some o:=by
  intro n
  induction n with
  | zero=>intro i s h;omega
  | succ n ih =>
    intro i s hn
    have hu:uN F l (n+1) s (i:Nat)=uJ F l (uN F l n) s (i:Nat):=rfl
    rw [hu]
    unfold uJ
    rcases hd:l.drop i with _ | ⟨x,r⟩
    · have:=tC hd
      rw [y0 (by omega),cond_false];exact ⟨s,rfl⟩
    · have hi:=t9 hd
      rw [hd] at hn
      simp only [List.length_cons] at hn
      rw [y1 (by omega),cond_true,x3 hd,Option.bind_some,v5 (by omega)]
      exact ih (i+1) _ (by rw [vD hd];omega)
theorem zKL {F:Nat} {l:List zB} (hl:l.length≤30) (hN:evN l≤140737488355328 * 30):∀ (n i:Nat),(l.drop i).length<n→uN F l n (evN (l.take i):Nat) (i:Nat)=some ((evN l:Nat):Int):=by
  intro n
  induction n with
  | zero=>intro i h;omega
  | succ n ih =>
    intro i hn
    show uJ _ _ _ _ _=_
    unfold uJ
    rcases hd:l.drop i with _ | ⟨x,r⟩
    · have:=tC hd
      rw [y0 (by omega),cond_false,List.take_of_length_le this]
    · have hi:=t9 hd
      rw [hd] at hn
      simp only [List.length_cons] at hn
      have hle:=zDQ (zBi hd)
      have hlt:=zEe l i
      have hN':evN (l.take (i+1))=evN (l.take i)+x.Events.length:=by rw [t6 hd,zCS]
      rw [y1 (by omega),cond_true,x3 hd,Option.bind_some,v5 (by omega),w64 (by omega) (by omega)]
      have:=ih (i+1) (by rw [vD hd];omega)
      rw [hN'] at this
      rw [show ((evN (l.take i):Nat):Int)+(x.Events.length:Int)=((evN (l.take i)+x.Events.length:Nat):Int) by omega]
      exact this
theorem zLV {F:Nat} {h:zT} {l:List zB} (hF:l.length<F) (hl:l.length<9223372036854775000) (hE:∀ p∈l,p.Events.length≤140737488355328):zAM F h l=some (decide (zCp h l)):=by
  unfold zAM
  by_cases h30:l.length≤30
  · have hN:evN l≤140737488355328 * l.length:=by
      clear hF hl h30
      induction l with
      | nil=>simp [evN]
      | cons a r ih =>
        have h1:=hE a (by simp)
        have h2:=ih (fun p hp=>hE p (by simp [hp]))
        simp only [evN,List.map_cons,List.sum_cons,List.length_cons] at *
        omega
    have:=zKL (F:=F) h30 (by omega) F 0 (by simp;omega)
    rw [show uN F l F (0:Int) (0:Int)=_ from this,Option.bind_some]
    congr 1
    unfold zCp
    by_cases k1:h.Threads.length≤70<;>by_cases k2:h.Domains.length≤10<;>by_cases k3:h.Snaps.length≤20<;>by_cases k5:evN l≤3000<;>simp [k1,k2,k3,h30,k5]<;>omega
  · obtain ⟨o,ho⟩:=zJ8 (F:=F) (h:=h) hl F 0 0 (by simp;omega)
    rw [show uN F l F (0:Int) (0:Int)=_ from ho,Option.bind_some,y0 (show ¬ ((l.length:Nat):Int)≤30 by omega),y0 (show ¬ zCp h l from fun k=>h30 k.2.2.2.1)]
    simp

/-- Of valid packets the events' stacks are short. -/
theorem zLt {e:zH} (h:evS e=0):e.Stack.length≤32:=by
  rcases Nat.lt_or_ge 32 e.Stack.length with hgt | hle
  · exfalso
    unfold evS at h
    split at h
    · omega
    split at h
    · omega
    split at h
    · omega
    rename_i hb
    have hb:zA3 e=false:=by simpa using hb
    cases hu:jT e.Kind with
    | false=>exact zDY hb hu (by omega)
    | true =>
      have hn:kT e.Kind=false:=by
        cases hn:kT e.Kind
        · rfl
        · rw [zKF _ hn] at hu;cases hu
      have ht:zBm e=7:=by
        unfold zBm
        rw [hn,hu]
        simp only [Bool.false_eq_true,if_false,if_true]
        unfold zCf
        rw [if_pos hgt]
      rw [if_pos (by rw [ht];omega),ht] at h
      omega
  · exact hle
theorem zLb {p:zB} (h:vW p=0):∀ e∈p.Events,e.Stack.length≤32:=by
  intro e he
  exact zLt (zJ5 (tG h).2.2.2.2.2.2.2.2 e he)

/-- The events of the parts are those of the packets. -/
def evs (l:List zB):List zH:=l.flatMap (·.Events)
theorem zCc (l m:List zB):evs (l++m)=evs l++evs m:=by simp [evs]
theorem zDM (l:List zB):(evs l).length=evN l:=by
  induction l with
  | nil=>rfl
  | cons a r ih=>simp [evs,evN] at *
theorem zKb {out:List zB} (h:0<out.length):evs out=evs (ini out)++(lst out).Events:=by
  conv=>lhs;rw [zA7 h,zCc]
  simp [evs]
theorem zMV {out:List zB} (h:0<out.length) (e:zH):evs (fE out e)=evs out++[e]:=by
  unfold fE
  split
  · unfold zBx
    rw [nC,y6,zCc];simp [evs]
  · unfold zBx
    rw [zCc,zKb h];simp [evs]
theorem zHb:∀ (xs:List zH) (out:List zB),0<out.length→evs (xs.foldl fE out)=evs out++xs
  | [],out,_=>by simp
  | x::xs,out,h=>by
    have h1:0<(fE out x).length:=by unfold fE;split<;>exact zA9 _ _
    rw [List.foldl_cons,zHb xs _ h1,zMV h];simp
theorem zFN (out:List zB) (p:zB):0<(kL out p).length:=by
  unfold kL
  split
  · simp
  · omega
theorem zMm (out:List zB) (p:zB):evs (kL out p)=evs out:=by
  unfold kL
  split
  · rw [zCc];simp [evs]
  · rfl
theorem zMo (out:List zB) (p:zB):evs (zAr out p)=evs out++p.Events:=by
  unfold zAr
  rw [zHb _ _ (zFN _ _),zMm]
def ofT (k:Int) (l:List zB):List zB:=l.filter fun p=>decide (p.Thread=k)
theorem zAg (k:Int) (l:List zB) (p:zB):ofT k (l++[p])=ofT k l++if p.Thread=k then [p] else []:=by
  unfold ofT
  rw [List.filter_append]
  by_cases h:p.Thread=k<;>simp [h]
theorem zDD (k:Int) (l:List zB):evs (wE k l)=evs (ofT k l):=by
  induction l using t7 with
  | h0=>rfl
  | h1 l p ih =>
    rw [uR,zAg,zCc]
    unfold zBV
    by_cases h:p.Thread=k
    · rw [if_pos h,if_pos h,zMo,ih];simp [evs]
    · rw [if_neg h,if_neg h,ih];simp [evs]
/-- Every part has events. -/
def zBZ (l:List zB):Prop:=∀ q∈l,0<q.Events.length
theorem zMR {out:List zB} (h:0<out.length) (hf:zBZ (ini out)) (e:zH):zBZ (ini (fE out e))∧0<(lst (fE out e)).Events.length:=by
  unfold fE
  split
  · rename_i hl
    refine ⟨?_,by rw [u1];simp⟩
    rw [zEv,nC,zA7 h]
    intro q hq
    rcases List.mem_append.1 hq with hq | hq
    · exact hf q hq
    · rw [List.mem_singleton.1 hq];omega
  · exact ⟨by rw [zEv];exact hf,by rw [u1];simp⟩
theorem zGn:∀ (xs:List zH) (out:List zB),0<out.length→zBZ (ini out)→0<xs.length→zBZ (xs.foldl fE out)
  | [],_,_,_,h=>by simp at h
  | x::xs,out,h0,hf,_=>by
    obtain ⟨h1,h2⟩:=zMR h0 hf x
    have h3:0<(fE out x).length:=by unfold fE;split<;>exact zA9 _ _
    rw [List.foldl_cons]
    cases xs with
    | nil =>
      simp only [List.foldl_nil]
      rw [zA7 h3]
      intro q hq
      rcases List.mem_append.1 hq with hq | hq
      · exact h1 q hq
      · rw [List.mem_singleton.1 hq];exact h2
    | cons y ys=>exact zGn (y::ys) _ h3 h1 (by simp)
theorem zLm {l:List zB} (h:zBZ l):zBZ (ini l):=fun q hq=>h q (List.dropLast_subset l hq)
theorem zLJ {out:List zB} {p:zB} (h:zBZ out) (hp:0<p.Events.length):zBZ (zAr out p):=by
  unfold zAr
  refine zGn _ _ (zFN _ _) ?_ hp
  unfold kL
  split
  · rw [nC];exact h
  · exact zLm h
theorem zJF (k:Int) (l:List zB) (hv:nO l):zBZ (wE k l):=by
  induction l using t7 with
  | h0=>intro q hq;cases hq
  | h1 l p ih =>
    have ih:=ih fun q hq=>hv q (by simp [hq])
    rw [uR]
    unfold zBV
    by_cases h:p.Thread=k
    · rw [if_pos h];exact zLJ ih (zKD hv (by simp))
    · rw [if_neg h];exact ih
theorem zLp {l:List zB} (h:zBZ l):l.length≤evN l:=by
  induction l with
  | nil=>simp
  | cons a r ih =>
    have h1:=h a (by simp)
    have h2:=ih fun q hq=>h q (by simp [hq])
    simp only [evN,List.map_cons,List.sum_cons,List.length_cons] at *
    omega
theorem zMh {ids:List Int} (hn:ids.Nodup) (k:Int) (n:Nat):(ids.map fun i=>if k=i then n else 0).sum≤n:=by
  induction ids with
  | nil=>simp
  | cons a r ih =>
    obtain ⟨h1,h2⟩:=List.nodup_cons.1 hn
    simp only [List.map_cons,List.sum_cons]
    by_cases h:k=a
    · subst h
      rw [if_pos rfl]
      have:(r.map fun i=>if k=i then n else 0).sum=0:=by
        clear ih hn h2
        induction r with
        | nil=>rfl
        | cons b s ihs =>
          simp only [List.mem_cons,not_or] at h1
          simp only [List.map_cons,List.sum_cons,if_neg h1.1,ihs h1.2]
      omega
    · rw [if_neg h];have:=ih h2;omega
theorem zMi {α:Type} (f g:α→Nat) (l:List α):(l.map fun i=>f i+g i).sum=(l.map f).sum+(l.map g).sum:=by
  induction l with
  | nil=>rfl
  | cons a r ih=>simp only [List.map_cons,List.sum_cons,ih];omega
theorem zML {ids:List Int} (hn:ids.Nodup) (l:List zB):(ids.map fun k=>evN (ofT k l)).sum≤evN l:=by
  induction l with
  | nil =>
    clear hn
    induction ids with
    | nil=>simp
    | cons a r ih=>simpa [ofT,evN] using ih
  | cons p r ih =>
    have h:(fun k=>evN (ofT k (p::r)))=fun k=>(if p.Thread=k then p.Events.length else 0)+evN (ofT k r):=by
      funext k
      unfold ofT
      rw [List.filter_cons]
      by_cases h:p.Thread=k
      · rw [if_pos h,if_pos (by simpa using h)];simp [evN]
      · rw [if_neg h,if_neg (by simpa using h)];simp
    rw [h,zMi]
    have:=zMh hn p.Thread p.Events.length
    simp only [evN,List.map_cons,List.sum_cons] at *
    omega
theorem zJS {h:zT} (hh:zAw h=0):(q5 h).Nodup:=by
  unfold zAw at hh
  split at hh
  · omega
  split at hh
  · omega
  split at hh
  · rename_i q hq
    exfalso
    have:∀ (i:Nat) (m:List zO) q,x5 (thF h.Threads) i m=.inr q→q≠0:=by
      intro i m
      induction m generalizing i with
      | nil=>intro q h;cases h
      | cons a r ih =>
        intro q hq
        simp only [x5] at hq
        cases hf:thF h.Threads i a with
        | none=>rw [hf] at hq;exact ih _ _ hq
        | some b =>
          rw [hf] at hq;injection hq with hq;subst hq
          unfold thF at hf
          split at hf
          · injection hf with hf;omega
          · split at hf
            · injection hf with hf;omega
            · cases hf
    exact this _ _ _ hq hh
  · rename_i hq
    have hn:=zC2 hq
    simp only [Nat.zero_add] at hn
    unfold q5
    have:∀ i t,h.Threads[i]?=some t→t.Id∉(h.Threads.take i).map (·.Id):=by
      intro i t hi hm
      have:=hn i t hi
      unfold thF at this
      rw [if_pos hm] at this
      split at this<;>cases this
    clear hn hq hh
    generalize h.Threads=ts at this
    induction ts using t7 with
    | h0=>simp
    | h1 ts t ih =>
      rw [List.map_append,List.nodup_append]
      refine ⟨ih fun i x hi hm=>?_,by simp,?_⟩
      · have hlt:=(List.getElem?_eq_some_iff.1 hi).1
        refine this i x (by rw [List.getElem?_append_left hlt];exact hi) ?_
        rw [List.take_append_of_le_length (by omega)];exact hm
      · intro a ha b hb
        simp only [List.map_cons,List.map_nil,List.mem_singleton] at hb
        subst hb
        have:=this ts.length t (by simp)
        simp only [List.take_left'] at this
        intro e
        subst e
        exact this ha
theorem zIL {h:zT} {l:List zB} (hh:zAw h=0) (hv:nO l) (hN:evN l≤100000):zHG (qE h l)∧(qE h l).length≤evN l:=by
  have hmem:∀ p∈qE h l,∃ k,p∈wE k l:=by
    intro p hp
    obtain ⟨t,_,hp⟩:=List.mem_flatMap.1 hp
    exact ⟨t.Id,hp⟩
  have hlen:(qE h l).length≤evN l:=by
    refine Nat.le_trans ?_ (zML (zJS hh) l)
    unfold qE q5
    rw [List.length_flatMap,List.map_map]
    generalize h.Threads=ts
    induction ts with
    | nil=>simp
    | cons t r ih =>
      simp only [List.map_cons,List.sum_cons,Function.comp]
      have h1:=zLp (zJF t.Id l hv)
      have h2:evN (wE t.Id l)=evN (ofT t.Id l):=by rw [← zDM,← zDM,zDD]
      simp only [Function.comp_def] at *
      omega
  refine ⟨⟨by omega,fun p hp=>?_⟩,hlen⟩
  obtain ⟨k,hk⟩:=hmem p hp
  have hsub:∀ e∈p.Events,e∈evs (ofT k l):=fun e he=>by
    rw [← zDD];exact List.mem_flatMap.2 ⟨p,hk,he⟩
  constructor
  · have h1:=zDQ hk
    have h2:evN (wE k l)=evN (ofT k l):=by rw [← zDM,← zDM,zDD]
    have h3:evN (ofT k l)≤evN l:=by
      have:∀ m:List zB,evN (ofT k m)≤evN m:=by
        intro m
        induction m with
        | nil=>simp [ofT,evN]
        | cons a r ih =>
          unfold ofT at *
          rw [List.filter_cons]
          split
          · simp only [evN,List.map_cons,List.sum_cons] at *;omega
          · simp only [evN,List.map_cons,List.sum_cons] at *;omega
      exact this l
    omega
  · intro e he
    obtain ⟨q,hq,heq⟩:=List.mem_flatMap.1 (hsub e he)
    have:=zLb (hv q (List.mem_filter.1 hq).1) e heq
    omega
theorem zMc {h:zT} {l:List zB} (ht:h.Threads.length≤100000) (hd:h.Domains.length≤100000) (hs:h.Snaps.length≤100000) (hN:evN l≤100000):zLY (zB1 h l).1:=by
  unfold zB1
  split
  · exact ⟨by simp [zB4],by simp [zB4],by simp [zB4],by simp [zHG,zB4]⟩
  split
  · exact ⟨by simp [zB4],by simp [zB4],by simp [zB4],by simp [zHG,zB4]⟩
  · rename_i h1 h2
    have hg:=zBJ.1 (show zCF h l=0 by omega)
    exact ⟨Nat.le_trans ht (by omega),Nat.le_trans hd (by omega),Nat.le_trans hs (by omega),(zIL (by omega) hg.passed.valids hN).1⟩
end Go.Ab
