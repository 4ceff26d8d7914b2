/- What the checks of a log's packets compute. No conditions but the bounds on lengths that the theorems name. -/
import Derived.Test.YtbifmbdcejggkaaC16a
import Derived.Test.YtbifmbdcejggkaaB16d
namespace Go.Ab
open Go
set_option linter.unusedVariables false
def zDi (k:Int) (a:Int×Int) (p:zB):Int×Int:=if p.Thread=k then (p.Serial+p.Events.length,zI8 p.Events) else a
def uS (l:List zB) (k:Int):Int×Int:=l.foldl (zDi k) (0,0)
theorem zCT (l:List zB) (p:zB) (k:Int):uS (l++[p]) k=zDi k (uS l k) p:=by simp [uS]
def evN (l:List zB):Nat:=(l.map fun p=>p.Events.length).sum
theorem zDN (l:List zB) (p:zB):evN (l++[p])=evN l+p.Events.length:=by simp [evN]
theorem zOw (l m:List zB):evN (l++m)=evN l+evN m:=by simp [evN]
theorem zCm {l:List zB} {p:zB} (h:p∈l):p.Events.length≤evN l:=by
 induction l with
 | nil=>cases h
 | cons a r ih =>
  simp only [evN,List.map_cons,List.sum_cons]
  rcases List.mem_cons.1 h with rfl | h
  ·omega
  ·have:=ih h;simp only [evN] at this;omega
theorem zBp (l:List zB) (i:Nat):evN (l.take i)≤evN l:=by
 have:=zOw (l.take i) (l.drop i)
 rw [List.take_append_drop] at this
 omega
def jX (l:List zB):Prop:=∀ p∈l,uC p=0
theorem zGQ {l:List zB} (h:jX l) (k:Int):0≤(uS l k).1∧(uS l k).1≤1000000000000000:=by
 have:∀ (l:List zB) (a:Int×Int),jX l→0≤a.1∧a.1≤1000000000000000→0≤(l.foldl (zDi k) a).1∧(l.foldl (zDi k) a).1≤1000000000000000:=by
  intro l
  induction l with
  | nil=>intro a _ h;exact h
  | cons p r ih =>
   intro a h ha
   refine ih _ (fun q hq=>h q (by simp [hq])) ?_
   have:=uR (h p (by simp))
   unfold zDi
   split
   ·simp only;omega
   ·exact ha
 exact this l _ h (by simp)
theorem zMn {l:List zB} (h:jX l) {p:zB} (hp:p∈l):0<p.Events.length:=(uR (h p hp)).2.2.2.2.2.2.1
def tQ (l:List zB) (p:zB):Bool:=decide (p.Serial=(uS l p.Thread).1+p.Lost)&&decide (zMx p.Events≥(uS l p.Thread).2)
theorem zJv {l:List zB} {k:Int} (hl:l.length≤100000) (hN:evN l≤100000) (hv:jX l):∀ (n i:Nat),(l.drop i).length<n→nU 200000 l k n (uS (l.take i) k).1 (uS (l.take i) k).2 (i:Nat)=some (uS l k):=by
 intro n
 induction n with
 | zero=>intro i h;omega
 | succ n ih =>
  intro i hn
  show j4 _ _ _ _ _ _ _=_
  unfold j4
  rcases hd:l.drop i with _ | ⟨x,r⟩
  ·have:=uH hd
   rw [yH (by omega),cond_false,List.take_of_length_le this]
  ·have hi:=uQ hd
   rw [hd] at hn
   simp only [List.length_cons] at hn
   have hx:=pF hd
   have hz:=uR (hv x hx)
   have hle:=zCm hx
   have hstep:=ih (i+1) (by rw [wR hd];omega)
   rw [tA hd,zCT] at hstep
   rw [yK (by omega),cond_true]
   simp only [yX hd,Option.bind_some,wI (show i<9223372036854775807 by omega)]
   by_cases he:x.Thread=k
   ·obtain ⟨e,h1,h2⟩:=zIT hz.2.2.2.2.2.2.1 (show x.Events.length≤100000 by omega)
    rw [vJ he,cond_true,h1,Option.bind_some,Option.bind_some,h2,w64 (by omega) (by omega)]
    simp only [zDi,if_pos he] at hstep
    exact hstep
   ·rw [tH he,cond_false,Option.bind_some]
    simp only [zDi,if_neg he] at hstep
    exact hstep
theorem zLy {l:List zB} {k:Int} (hl:l.length≤100000) (hN:evN l≤100000) (hv:jX l):zDC 200000 l k=some (uS l k):=by
 unfold zDC
 have:=zJv (k:=k) hl hN hv 200000 0 (by simp;omega)
 rw [show nU 200000 l k 200000 0 0 0=some (uS l k) from this];rfl
theorem zHn {l:List zB} {p:zB} (hl:l.length≤100000) (hN:evN l≤100000) (hv:jX l) (hp:uC p=0):zAr 200000 l p=some (tQ l p):=by
 have hz:=uR hp
 have hr:=zGQ hv p.Thread
 obtain ⟨e,h1,h2⟩:=zJc hz.2.2.2.2.2.2.1
 unfold zAr tQ
 rw [zLy hl hN hv,Option.bind_some,h1,w64 (by omega) (by omega),Option.bind_some,h2]
 by_cases h:p.Serial=(uS l p.Thread).1+p.Lost
 ·rw [vJ h,yK h];simp
 ·rw [tH h,yH h];simp
theorem zEr {l:List zB} {p:zB} (hv:jX l) (hp:uC p=0):jB ⟨(uS l p.Thread).1,(uS l p.Thread).2⟩ p=some (tQ l p):=by
 have hz:=uR hp
 have hr:=zGQ hv p.Thread
 obtain ⟨e,h1,h2⟩:=zJc hz.2.2.2.2.2.2.1
 unfold jB tQ
 rw [h1,w64 (by omega) (by omega),Option.bind_some,h2]
 by_cases h:p.Serial=(uS l p.Thread).1+p.Lost
 ·rw [vJ (show p.Serial - p.Lost=(uS l p.Thread).1 by omega),yK h];simp
 ·rw [tH (show p.Serial - p.Lost≠(uS l p.Thread).1 by omega),yH h];simp
theorem zEv {l:List zB} {p:zB} {t:xL} (hp:uC p=0) (hl:p.Events.length≤100000):jI t p=some ⟨(uS (l++[p]) p.Thread).1,(uS (l++[p]) p.Thread).2⟩:=by
 have hz:=uR hp
 obtain ⟨e,h1,h2⟩:=zIT hz.2.2.2.2.2.2.1 hl
 unfold jI
 rw [h1,Option.bind_some,w64 (by omega) (by omega),h2,zCT]
 simp [zDi]
def qR (h:zL):List Int:=h.Threads.map (·.Id)
def zBd (h:zL) (l:List zB) (i:Nat) (p:zB):Option Int :=
 if uC p≠0 then some (uC p) else if p.Thread∉qR h then some 5 else if tQ (l.take i) p=false then some 11 else none
def zBl (h:zL) (l:List zB):Int:=match xI (zBd h l) 0 l with | .inr q=>q | .inl _=>if evN l>20000 then 7 else 0
theorem zGo {h:zL} (hl:h.Threads.length≤100000):∀ (n i:Nat) (row:List (Int×xL)),i≤h.Threads.length→row.length≤i→(∀ k,yI row k=if k∈(qR h).take i then some ⟨0,0⟩ else none)→(h.Threads.drop i).length<n →
  ∃ row',qI 200000 h n (i:Nat) row=some row'∧row'.length≤h.Threads.length∧∀ k,yI row' k=if k∈qR h then some ⟨0,0⟩ else none:=by
 intro n
 induction n with
 | zero=>intro i row _ _ _ h;omega
 | succ n ih =>
  intro i row hil hlen hg hn
  have hu:qI 200000 h (n+1) (i:Nat) row=qX 200000 h (qI 200000 h n) (i:Nat) row:=rfl
  rw [hu]
  unfold qX
  rcases hd:h.Threads.drop i with _ | ⟨x,r⟩
  ·have:=uH hd
   rw [yH (by omega),cond_false]
   refine ⟨row,rfl,by omega,fun k=>?_⟩
   rw [hg,List.take_of_length_le (by simpa [qR] using this)]
  ·have hi:=uQ hd
   rw [hd] at hn
   simp only [List.length_cons] at hn
   rw [yK (by omega),cond_true,yX hd,Option.bind_some,u1 (by omega),Option.bind_some,wI (by omega)]
   refine ih (i+1) _ (by omega) (by have:=zDR row x.Id (⟨0,0⟩:xL);omega) ?_ (by rw [wR hd];omega)
   intro k
   rw [zC8,hg]
   have ht:(qR h).take (i+1)=(qR h).take i++[x.Id]:=by
    unfold qR
    rw [← List.map_take,← List.map_take,tA hd];simp
   rw [ht]
   by_cases hk:x.Id=k
   ·rw [if_pos hk,if_pos (by simp [hk])]
   ·rw [if_neg hk]
    simp [Ne.symm hk]
theorem zEm {α β:Type} (f:Nat→α→Option β) (i:Nat) (x:α) (r:List α):xI f i (x::r)=match f i x with | none=>xI f (i+1) r | some b=>.inr b:=rfl
theorem zGO {h:zL} {l:List zB} (hl:l.length≤100000) (hN:evN l≤100000) (ht:h.Threads.length≤100000):∀ (n i:Nat) (row:List (Int×xL)),row.length≤100000+i→jX (l.take i) →
  (∀ k,yI row k=if k∈qR h then some ⟨(uS (l.take i) k).1,(uS (l.take i) k).2⟩ else none)→(l.drop i).length<n →
  qN 200000 l n (evN (l.take i):Nat) (i:Nat) row=some (match xI (zBd h l) i (l.drop i) with | .inr q=>.inr q | .inl _=>.inl (evN l:Nat)):=by
 intro n
 induction n with
 | zero=>intro i row _ _ _ h;omega
 | succ n ih =>
  intro i row hlen hv hg hn
  have hu:qN 200000 l (n+1) (evN (l.take i):Nat) (i:Nat) row=qW 200000 l (qN 200000 l n) (evN (l.take i):Nat) (i:Nat) row:=rfl
  rw [hu]
  unfold qW
  rcases hd:l.drop i with _ | ⟨x,r⟩
  ·have:=uH hd
   rw [yH (by omega),cond_false,List.take_of_length_le this];rfl
  ·have hi:=uQ hd
   rw [hd] at hn
   simp only [List.length_cons] at hn
   have hx:=pF hd
   have hle:=zCm hx
   have hlt:=zBp l i
   rw [yK (by omega),cond_true,yX hd,Option.bind_some,zGY (by omega),Option.bind_some,zEm,
    show zBd h l i x=if uC x≠0 then some (uC x) else if x.Thread∉qR h then some 5 else if tQ (l.take i) x=false then some 11 else none from rfl]
   by_cases h1:uC x≠0
   ·rw [if_pos h1,vX h1];rfl
   have h1:uC x=0:=by omega
   rw [if_neg (by omega),v7 h1,cond_false]
   by_cases h2:x.Thread∈qR h
   ·rw [if_neg (by simpa using h2)]
    have hrow:yI row x.Thread=some ⟨(uS (l.take i) x.Thread).1,(uS (l.take i) x.Thread).2⟩:=by rw [hg,if_pos h2]
    rw [hrow]
    simp only [zLX]
    rw [zEr hv h1,Option.bind_some]
    cases h3:tQ (l.take i) x
    ·simp
    ·have hv':jX (l.take (i+1)):=by
      rw [tA hd]
      intro p hp
      rcases List.mem_append.1 hp with hp | hp
      ·exact hv p hp
      ·rw [List.mem_singleton.1 hp];exact h1
     have hN':evN (l.take (i+1))=evN (l.take i)+x.Events.length:=by rw [tA hd,zDN]
     simp only [Bool.not_true,cond_false,Bool.true_eq_false,if_false]
     rw [zEv (l:=l.take i) h1 (by omega),Option.bind_some,wI (by omega),w64 (by omega) (by omega)]
     have:=ih (i+1) (uK row x.Thread ⟨(uS (l.take i++[x]) x.Thread).1,(uS (l.take i++[x]) x.Thread).2⟩) (by have:=zDR row x.Thread (⟨(uS (l.take i++[x]) x.Thread).1,(uS (l.take i++[x]) x.Thread).2⟩:xL);omega) hv' ?_ (by rw [wR hd];omega)
     ·rw [wR hd,hN'] at this
      rw [show ((evN (l.take i):Nat):Int)+(x.Events.length:Int)=((evN (l.take i)+x.Events.length:Nat):Int) by omega]
      exact this
     ·intro k
      rw [zC8,hg,tA hd]
      by_cases hk:x.Thread=k
      ·subst hk;rw [if_pos rfl,if_pos h2]
      ·rw [if_neg hk,zCT]
       simp only [zDi,if_neg hk]
   ·have hrow:yI row x.Thread=none:=by rw [hg,if_neg h2]
    rw [if_pos h2,hrow];rfl
theorem zJh {h:zL} {l:List zB} (hl:l.length≤100000) (hN:evN l≤100000) (ht:h.Threads.length≤100000):zB2 200000 h l=some (zBl h l):=by
 unfold zB2 zBl
 obtain ⟨row,h1,h2,h3⟩:=zGo ht 200000 0 [] (by omega) (by simp) (by simp [yI]) (by simp;omega)
 rw [show qI 200000 h 200000 (0:Int) []=some row from h1,Option.bind_some]
 have:=zGO (h:=h) hl hN ht 200000 0 row (by omega) (fun p hp=>by simp at hp) (by simpa [uS] using h3) (by simp;omega)
 simp only [List.take_zero,List.drop_zero] at this
 rw [show qN 200000 l 200000 (0:Int) (0:Int) row=_ from this,Option.bind_some]
 cases xI (zBd h l) 0 l with
 | inr q=>rfl
 | inl u =>
  simp only
  by_cases hc:evN l>20000
  ·rw [if_pos hc,yK (by omega)];rfl
  ·rw [if_neg hc,yH (by omega)];rfl
theorem zIu {l:List zB} (hl:l.length≤100000) (hN:evN l≤100000):zA1 200000 l=some ((evN l:Nat):Int):=by
 have key:∀ (n i:Nat),(l.drop i).length<n→jL 200000 l n (evN (l.take i):Nat) (i:Nat)=some ((evN l:Nat):Int):=by
  intro n
  induction n with
  | zero=>intro i h;omega
  | succ n ih =>
   intro i hn
   show qK _ _ _ _ _=_
   unfold qK
   rcases hd:l.drop i with _ | ⟨x,r⟩
   ·have:=uH hd
    rw [yH (by omega),cond_false,List.take_of_length_le this]
   ·have hi:=uQ hd
    rw [hd] at hn
    simp only [List.length_cons] at hn
    have hle:=zCm (pF hd)
    have hlt:=zBp l i
    have hN':evN (l.take (i+1))=evN (l.take i)+x.Events.length:=by rw [tA hd,zDN]
    rw [yK (by omega),cond_true,yX hd,Option.bind_some,wI (by omega),w64 (by omega) (by omega)]
    have:=ih (i+1) (by rw [wR hd];omega)
    rw [hN'] at this
    rw [show ((evN (l.take i):Nat):Int)+(x.Events.length:Int)=((evN (l.take i)+x.Events.length:Nat):Int) by omega]
    exact this
 unfold zA1
 have:=key 200000 0 (by simp;omega)
 rw [show jL 200000 l 200000 (0:Int) (0:Int)=_ from this];rfl
theorem zJH {h:zL} {k:Int} (hl:h.Threads.length≤100000):zBX 200000 h k=some (decide (k∈qR h)):=by
 unfold zBX
 rw [qB (l:=h.Threads) (fun n i=>nK 200000 h k n i) (fun _ t=>if t.Id=k then some true else none) hl]
 ·rw [Option.bind_some]
  by_cases hk:k∈qR h
  ·rw [yK hk]
   obtain ⟨y,hy,hyk⟩:=List.mem_map.1 hk
   have:∀ (m:List zY) (i:Nat),y∈m→xI (fun (_:Nat) (t:zY)=>if t.Id=k then some true else none) i m=.inr true:=by
    intro m
    induction m with
    | nil=>intro i h;cases h
    | cons a m ih =>
     intro i h
     simp only [xI]
     by_cases ha:a.Id=k
     ·rw [if_pos ha]
     ·rw [if_neg ha]
      rcases List.mem_cons.1 h with rfl | h
      ·exact absurd hyk ha
      ·exact ih _ h
   rw [this _ _ hy]
  ·rw [yH hk,zCD (f:=fun (_:Nat) (t:zY)=>if t.Id=k then some true else none)]
   intro j x hj
   rw [if_neg]
   intro he
   exact hk (List.mem_map.2 ⟨x,List.mem_of_getElem? hj,he⟩)
 ·intro n i hi
  show u2 _ _ _ _ _=_
  unfold u2
  rw [yH (by omega),cond_false]
 ·intro n i x r hd hi
  show u2 _ _ _ _ _=_
  unfold u2
  rw [yK (by omega),cond_true,yX hd,Option.bind_some,wI (by omega)]
  by_cases he:x.Id=k
  ·rw [vJ he,if_pos he];rfl
  ·rw [tH he,if_neg he];rfl
end Go.Ab
