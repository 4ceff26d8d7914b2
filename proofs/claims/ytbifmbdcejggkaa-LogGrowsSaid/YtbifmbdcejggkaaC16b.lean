/- What the checks of a log's packets compute. No conditions but the bounds on lengths that the theorems name. -/
import Derived.Test.YtbifmbdcejggkaaC16a
import Derived.Test.YtbifmbdcejggkaaB16d
namespace Go.Ab
open Go
set_option linter.unusedVariables false

/-- The end of a thread in packets. -/
def nJ (k:Int) (a:Int×Int) (p:zB):Int×Int:=if p.Thread=k then (p.Serial+p.Events.length,t6 p.Events) else a
def wG (l:List zB) (k:Int):Int×Int:=l.foldl (nJ k) (0,0)
theorem t0 (l:List zB) (p:zB) (k:Int):wG (l++[p]) k=nJ k (wG l k) p:=by simp [wG]
def evN (l:List zB):Nat:=(l.map fun p=>p.Events.length).sum
theorem zEX (l:List zB) (p:zB):evN (l++[p])=evN l+p.Events.length:=by simp [evN]
theorem zBv (l m:List zB):evN (l++m)=evN l+evN m:=by simp [evN]
theorem zGi {l:List zB} {p:zB} (h:p∈l):p.Events.length≤evN l:=by
  induction l with
  | nil=>cases h
  | cons a r ih =>
    simp only [evN,List.map_cons,List.sum_cons]
    rcases List.mem_cons.1 h with rfl | h
    · omega
    · have:=ih h;simp only [evN] at this;omega
theorem zCY (l:List zB) (i:Nat):evN (l.take i)≤evN l:=by
  have:=zBv (l.take i) (l.drop i)
  rw [List.take_append_drop] at this
  omega
def zAg (l:List zB):Prop:=∀ p∈l,u5 p=0
theorem zJ7 {l:List zB} (h:zAg l) (k:Int):0≤(wG l k).1∧(wG l k).1≤1000000000000000:=by
  have:∀ (l:List zB) (a:Int×Int),zAg l→0≤a.1∧a.1≤1000000000000000→0≤(l.foldl (nJ k) a).1∧(l.foldl (nJ k) a).1≤1000000000000000:=by
    intro l
    induction l with
    | nil=>intro a _ h;exact h
    | cons p r ih =>
      intro a h ha
      refine ih _ (fun q hq=>h q (by simp [hq])) ?_
      have:=tU (h p (by simp))
      unfold nJ
      split
      · simp only;omega
      · exact ha
  exact this l _ h (by simp)
theorem zLk {l:List zB} (h:zAg l) {p:zB} (hp:p∈l):0<p.Events.length:=(tU (h p hp)).2.2.2.2.2.2.1
def uF (l:List zB) (p:zB):Bool:=decide (p.Serial=(wG l p.Thread).1+p.Lost)&&decide (zA1 p.Events≥(wG l p.Thread).2)

theorem zDf {l:List zB} {p:zB} (hv:zAg l) (hp:u5 p=0):qQ ⟨(wG l p.Thread).1,(wG l p.Thread).2⟩ p=some (uF l p):=by
  have hz:=tU hp
  have hr:=zJ7 hv p.Thread
  obtain ⟨e,h1,h2⟩:=zMc hz.2.2.2.2.2.2.1
  unfold qQ uF
  rw [h1,w64 (by omega) (by omega),Option.bind_some,h2]
  by_cases h:p.Serial=(wG l p.Thread).1+p.Lost
  · rw [uX (show p.Serial - p.Lost=(wG l p.Thread).1 by omega),y7 h];simp
  · rw [kQ (show p.Serial - p.Lost≠(wG l p.Thread).1 by omega),y1 h];simp
theorem zDh {l:List zB} {p:zB} {t:xB} (hp:u5 p=0) (hl:p.Events.length≤100000):qK t p=some ⟨(wG (l++[p]) p.Thread).1,(wG (l++[p]) p.Thread).2⟩:=by
  have hz:=tU hp
  obtain ⟨e,h1,h2⟩:=zLs hz.2.2.2.2.2.2.1 hl
  unfold qK
  rw [h1,Option.bind_some,w64 (by omega) (by omega),h2,t0]
  simp [nJ]

def v8 (h:zS):List Int:=h.Threads.map (·.Id)
def kP (h:zS) (l:List zB) (i:Nat) (p:zB):Option Int :=
  if u5 p≠0 then some (u5 p) else if p.Thread∉v8 h then some 5 else if uF (l.take i) p=false then some 11 else none
def zAl (h:zS) (l:List zB):Int:=match xW (kP h l) 0 l with | .inr q=>q | .inl _=>if evN l>20000 then 7 else 0

theorem zFA {h:zS} (hl:h.Threads.length≤100000):∀ (n i:Nat) (row:List (Int×xB)),i≤h.Threads.length→row.length≤i→(∀ k,yA row k=if k∈(v8 h).take i then some ⟨0,0⟩ else none)→(h.Threads.drop i).length<n →
    ∃ row',tX 281474976710656 h n (i:Nat) row=some row'∧row'.length≤h.Threads.length∧∀ k,yA row' k=if k∈v8 h then some ⟨0,0⟩ else none:=by
  intro n
  induction n with
  | zero=>intro i row _ _ _ h;omega
  | succ n ih =>
    intro i row hil hlen hg hn
    have hu:tX 281474976710656 h (n+1) (i:Nat) row=qD 281474976710656 h (tX 281474976710656 h n) (i:Nat) row:=rfl
    rw [hu]
    unfold qD
    rcases hd:h.Threads.drop i with _ | ⟨x,r⟩
    · have:=qB hd
      rw [y1 (by omega),cond_false]
      refine ⟨row,rfl,by omega,fun k=>?_⟩
      rw [hg,List.take_of_length_le (by simpa [v8] using this)]
    · have hi:=qW hd
      rw [hd] at hn
      simp only [List.length_cons] at hn
      rw [y7 (by omega),cond_true,wK hd,Option.bind_some,tA (by omega),Option.bind_some,uM (by omega)]
      refine ih (i+1) _ (by omega) (by have:=zC9 row x.Id (⟨0,0⟩:xB);omega) ?_ (by rw [vY hd];omega)
      intro k
      rw [zCd,hg]
      have ht:(v8 h).take (i+1)=(v8 h).take i++[x.Id]:=by
        unfold v8
        rw [← List.map_take,← List.map_take,jC hd];simp
      rw [ht]
      by_cases hk:x.Id=k
      · rw [if_pos hk,if_pos (by simp [hk])]
      · rw [if_neg hk]
        simp [Ne.symm hk]
theorem nG {α β:Type} (f:Nat→α→Option β) (i:Nat) (x:α) (r:List α):xW f i (x::r)=match f i x with | none=>xW f (i+1) r | some b=>.inr b:=rfl
theorem zE9 {h:zS} {l:List zB} (hl:l.length≤100000) (hN:evN l≤100000) (ht:h.Threads.length≤100000):∀ (n i:Nat) (row:List (Int×xB)),row.length≤100000+i→zAg (l.take i) →
    (∀ k,yA row k=if k∈v8 h then some ⟨(wG (l.take i) k).1,(wG (l.take i) k).2⟩ else none)→(l.drop i).length<n →
    tZ 281474976710656 l n (evN (l.take i):Nat) (i:Nat) row=some (match xW (kP h l) i (l.drop i) with | .inr q=>.inr q | .inl _=>.inl (evN l:Nat)):=by
  intro n
  induction n with
  | zero=>intro i row _ _ _ h;omega
  | succ n ih =>
    intro i row hlen hv hg hn
    have hu:tZ 281474976710656 l (n+1) (evN (l.take i):Nat) (i:Nat) row=qG 281474976710656 l (tZ 281474976710656 l n) (evN (l.take i):Nat) (i:Nat) row:=rfl
    rw [hu]
    unfold qG
    rcases hd:l.drop i with _ | ⟨x,r⟩
    · have:=qB hd
      rw [y1 (by omega),cond_false,List.take_of_length_le this];rfl
    · have hi:=qW hd
      rw [hd] at hn
      simp only [List.length_cons] at hn
      have hx:=zCT hd
      have hle:=zGi hx
      have hlt:=zCY l i
      rw [y7 (by omega),cond_true,wK hd,Option.bind_some,zFJ (by omega),Option.bind_some,nG,
        show kP h l i x=if u5 x≠0 then some (u5 x) else if x.Thread∉v8 h then some 5 else if uF (l.take i) x=false then some 11 else none from rfl]
      by_cases h1:u5 x≠0
      · rw [if_pos h1,jJ h1];rfl
      have h1:u5 x=0:=by omega
      rw [if_neg (by omega),kB h1,cond_false]
      by_cases h2:x.Thread∈v8 h
      · rw [if_neg (by simpa using h2)]
        have hrow:yA row x.Thread=some ⟨(wG (l.take i) x.Thread).1,(wG (l.take i) x.Thread).2⟩:=by rw [hg,if_pos h2]
        rw [hrow]
        simp only [zJ1]
        rw [zDf hv h1,Option.bind_some]
        cases h3:uF (l.take i) x
        · simp
        · have hv':zAg (l.take (i+1)):=by
            rw [jC hd]
            intro p hp
            rcases List.mem_append.1 hp with hp | hp
            · exact hv p hp
            · rw [List.mem_singleton.1 hp];exact h1
          have hN':evN (l.take (i+1))=evN (l.take i)+x.Events.length:=by rw [jC hd,zEX]
          simp only [Bool.not_true,cond_false,Bool.true_eq_false,if_false]
          rw [zDh (l:=l.take i) h1 (by omega),Option.bind_some,uM (by omega),w64 (by omega) (by omega)]
          have:=ih (i+1) (uI row x.Thread ⟨(wG (l.take i++[x]) x.Thread).1,(wG (l.take i++[x]) x.Thread).2⟩) (by have:=zC9 row x.Thread (⟨(wG (l.take i++[x]) x.Thread).1,(wG (l.take i++[x]) x.Thread).2⟩:xB);omega) hv' ?_ (by rw [vY hd];omega)
          · rw [vY hd,hN'] at this
            rw [show ((evN (l.take i):Nat):Int)+(x.Events.length:Int)=((evN (l.take i)+x.Events.length:Nat):Int) by omega]
            exact this
          · intro k
            rw [zCd,hg,jC hd]
            by_cases hk:x.Thread=k
            · subst hk;rw [if_pos rfl,if_pos h2]
            · rw [if_neg hk,t0]
              simp only [nJ,if_neg hk]
      · have hrow:yA row x.Thread=none:=by rw [hg,if_neg h2]
        rw [if_pos h2,hrow];rfl
theorem zH9 {h:zS} {l:List zB} (hl:l.length≤100000) (hN:evN l≤100000) (ht:h.Threads.length≤100000):zAY 281474976710656 h l=some (zAl h l):=by
  unfold zAY zAl
  obtain ⟨row,h1,h2,h3⟩:=zFA ht 281474976710656 0 [] (by omega) (by simp) (by simp [yA]) (by simp;omega)
  rw [show tX 281474976710656 h 281474976710656 (0:Int) []=some row from h1,Option.bind_some]
  have:=zE9 (h:=h) hl hN ht 281474976710656 0 row (by omega) (fun p hp=>by simp at hp) (by simpa [wG] using h3) (by simp;omega)
  simp only [List.take_zero,List.drop_zero] at this
  rw [show tZ 281474976710656 l 281474976710656 (0:Int) (0:Int) row=_ from this,Option.bind_some]
  cases xW (kP h l) 0 l with
  | inr q=>rfl
  | inl u =>
    simp only
    by_cases hc:evN l>20000
    · rw [if_pos hc,y7 (by omega)];rfl
    · rw [if_neg hc,y1 (by omega)];rfl

end Go.Ab
