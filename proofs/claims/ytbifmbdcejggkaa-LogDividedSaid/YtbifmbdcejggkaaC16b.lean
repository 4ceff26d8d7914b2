/- What the checks of a log's packets compute. No conditions but the bounds on lengths that the theorems name. -/
import Derived.Test.YtbifmbdcejggkaaC16a
import Derived.Test.YtbifmbdcejggkaaB16d
namespace Go.Ab
open Go
set_option linter.unusedVariables false

/-- The end of a thread in packets. -/
def zBA (k:Int) (a:Int×Int) (p:zB):Int×Int:=if p.Thread=k then (p.Serial+p.Events.length,qK p.Events) else a
def vU (l:List zB) (k:Int):Int×Int:=l.foldl (zBA k) (0,0)
theorem tK (l:List zB) (p:zB) (k:Int):vU (l++[p]) k=zBA k (vU l k) p:=by simp [vU]
def evN (l:List zB):Nat:=(l.map fun p=>p.Events.length).sum
theorem zCS (l:List zB) (p:zB):evN (l++[p])=evN l+p.Events.length:=by simp [evN]
theorem zFx (l m:List zB):evN (l++m)=evN l+evN m:=by simp [evN]
theorem zDQ {l:List zB} {p:zB} (h:p∈l):p.Events.length≤evN l:=by
  induction l with
  | nil=>cases h
  | cons a r ih =>
    simp only [evN,List.map_cons,List.sum_cons]
    rcases List.mem_cons.1 h with rfl | h
    · omega
    · have:=ih h;simp only [evN] at this;omega
theorem zEe (l:List zB) (i:Nat):evN (l.take i)≤evN l:=by
  have:=zFx (l.take i) (l.drop i)
  rw [List.take_append_drop] at this
  omega
def nO (l:List zB):Prop:=∀ p∈l,vW p=0
theorem zJZ {l:List zB} (h:nO l) (k:Int):0≤(vU l k).1∧(vU l k).1≤1000000000000000:=by
  have:∀ (l:List zB) (a:Int×Int),nO l→0≤a.1∧a.1≤1000000000000000→0≤(l.foldl (zBA k) a).1∧(l.foldl (zBA k) a).1≤1000000000000000:=by
    intro l
    induction l with
    | nil=>intro a _ h;exact h
    | cons p r ih =>
      intro a h ha
      refine ih _ (fun q hq=>h q (by simp [hq])) ?_
      have:=tG (h p (by simp))
      unfold zBA
      split
      · simp only;omega
      · exact ha
  exact this l _ h (by simp)
theorem zKD {l:List zB} (h:nO l) {p:zB} (hp:p∈l):0<p.Events.length:=(tG (h p hp)).2.2.2.2.2.2.1
def v9 (l:List zB) (p:zB):Bool:=decide (p.Serial=(vU l p.Thread).1+p.Lost)&&decide (kG p.Events≥(vU l p.Thread).2)

theorem zC6 {l:List zB} {p:zB} (hv:nO l) (hp:vW p=0):qD ⟨(vU l p.Thread).1,(vU l p.Thread).2⟩ p=some (v9 l p):=by
  have hz:=tG hp
  have hr:=zJZ hv p.Thread
  obtain ⟨e,h1,h2⟩:=zLv hz.2.2.2.2.2.2.1
  unfold qD v9
  rw [h1,w64 (by omega) (by omega),Option.bind_some,h2]
  by_cases h:p.Serial=(vU l p.Thread).1+p.Lost
  · rw [uF (show p.Serial - p.Lost=(vU l p.Thread).1 by omega),y1 h];simp
  · rw [jW (show p.Serial - p.Lost≠(vU l p.Thread).1 by omega),y0 h];simp
theorem zC4 {l:List zB} {p:zB} {t:y3} (hp:vW p=0) (hl:p.Events.length≤100000):qB t p=some ⟨(vU (l++[p]) p.Thread).1,(vU (l++[p]) p.Thread).2⟩:=by
  have hz:=tG hp
  obtain ⟨e,h1,h2⟩:=zK7 hz.2.2.2.2.2.2.1 hl
  unfold qB
  rw [h1,Option.bind_some,w64 (by omega) (by omega),h2,tK]
  simp [zBA]

def q5 (h:zT):List Int:=h.Threads.map (·.Id)
def zBh (h:zT) (l:List zB) (i:Nat) (p:zB):Option Int :=
  if vW p≠0 then some (vW p) else if p.Thread∉q5 h then some 5 else if v9 (l.take i) p=false then some 11 else none
def zCF (h:zT) (l:List zB):Int:=match x5 (zBh h l) 0 l with | .inr q=>q | .inl _=>if evN l>20000 then 7 else 0

theorem zFo {h:zT} (hl:h.Threads.length≤100000):∀ (n i:Nat) (row:List (Int×y3)),i≤h.Threads.length→row.length≤i→(∀ k,z9 row k=if k∈(q5 h).take i then some ⟨0,0⟩ else none)→(h.Threads.drop i).length<n →
    ∃ row',tP 281474976710656 h n (i:Nat) row=some row'∧row'.length≤h.Threads.length∧∀ k,z9 row' k=if k∈q5 h then some ⟨0,0⟩ else none:=by
  intro n
  induction n with
  | zero=>intro i row _ _ _ h;omega
  | succ n ih =>
    intro i row hil hlen hg hn
    have hu:tP 281474976710656 h (n+1) (i:Nat) row=tZ 281474976710656 h (tP 281474976710656 h n) (i:Nat) row:=rfl
    rw [hu]
    unfold tZ
    rcases hd:h.Threads.drop i with _ | ⟨x,r⟩
    · have:=tC hd
      rw [y0 (by omega),cond_false]
      refine ⟨row,rfl,by omega,fun k=>?_⟩
      rw [hg,List.take_of_length_le (by simpa [q5] using this)]
    · have hi:=t9 hd
      rw [hd] at hn
      simp only [List.length_cons] at hn
      rw [y1 (by omega),cond_true,x3 hd,Option.bind_some,tM (by omega),Option.bind_some,v5 (by omega)]
      refine ih (i+1) _ (by omega) (by have:=zCM row x.Id (⟨0,0⟩:y3);omega) ?_ (by rw [vD hd];omega)
      intro k
      rw [zBT,hg]
      have ht:(q5 h).take (i+1)=(q5 h).take i++[x.Id]:=by
        unfold q5
        rw [← List.map_take,← List.map_take,t6 hd];simp
      rw [ht]
      by_cases hk:x.Id=k
      · rw [if_pos hk,if_pos (by simp [hk])]
      · rw [if_neg hk]
        simp [Ne.symm hk]
theorem zGK {α β:Type} (f:Nat→α→Option β) (i:Nat) (x:α) (r:List α):x5 f i (x::r)=match f i x with | none=>x5 f (i+1) r | some b=>.inr b:=rfl
theorem zEM {h:zT} {l:List zB} (hl:l.length≤100000) (hN:evN l≤100000) (ht:h.Threads.length≤100000):∀ (n i:Nat) (row:List (Int×y3)),row.length≤100000+i→nO (l.take i) →
    (∀ k,z9 row k=if k∈q5 h then some ⟨(vU (l.take i) k).1,(vU (l.take i) k).2⟩ else none)→(l.drop i).length<n →
    tL 281474976710656 l n (evN (l.take i):Nat) (i:Nat) row=some (match x5 (zBh h l) i (l.drop i) with | .inr q=>.inr q | .inl _=>.inl (evN l:Nat)):=by
  intro n
  induction n with
  | zero=>intro i row _ _ _ h;omega
  | succ n ih =>
    intro i row hlen hv hg hn
    have hu:tL 281474976710656 l (n+1) (evN (l.take i):Nat) (i:Nat) row=tV 281474976710656 l (tL 281474976710656 l n) (evN (l.take i):Nat) (i:Nat) row:=rfl
    rw [hu]
    unfold tV
    rcases hd:l.drop i with _ | ⟨x,r⟩
    · have:=tC hd
      rw [y0 (by omega),cond_false,List.take_of_length_le this];rfl
    · have hi:=t9 hd
      rw [hd] at hn
      simp only [List.length_cons] at hn
      have hx:=zBi hd
      have hle:=zDQ hx
      have hlt:=zEe l i
      rw [y1 (by omega),cond_true,x3 hd,Option.bind_some,zBF (by omega),Option.bind_some,zGK,
        show zBh h l i x=if vW x≠0 then some (vW x) else if x.Thread∉q5 h then some 5 else if v9 (l.take i) x=false then some 11 else none from rfl]
      by_cases h1:vW x≠0
      · rw [if_pos h1,qR h1];rfl
      have h1:vW x=0:=by omega
      rw [if_neg (by omega),q8 h1,cond_false]
      by_cases h2:x.Thread∈q5 h
      · rw [if_neg (by simpa using h2)]
        have hrow:z9 row x.Thread=some ⟨(vU (l.take i) x.Thread).1,(vU (l.take i) x.Thread).2⟩:=by rw [hg,if_pos h2]
        rw [hrow]
        simp only [zJn]
        rw [zC6 hv h1,Option.bind_some]
        cases h3:v9 (l.take i) x
        · simp
        · have hv':nO (l.take (i+1)):=by
            rw [t6 hd]
            intro p hp
            rcases List.mem_append.1 hp with hp | hp
            · exact hv p hp
            · rw [List.mem_singleton.1 hp];exact h1
          have hN':evN (l.take (i+1))=evN (l.take i)+x.Events.length:=by rw [t6 hd,zCS]
          simp only [Bool.not_true,cond_false,Bool.true_eq_false,if_false]
          rw [zC4 (l:=l.take i) h1 (by omega),Option.bind_some,v5 (by omega),w64 (by omega) (by omega)]
          have:=ih (i+1) (v6 row x.Thread ⟨(vU (l.take i++[x]) x.Thread).1,(vU (l.take i++[x]) x.Thread).2⟩) (by have:=zCM row x.Thread (⟨(vU (l.take i++[x]) x.Thread).1,(vU (l.take i++[x]) x.Thread).2⟩:y3);omega) hv' ?_ (by rw [vD hd];omega)
          · rw [vD hd,hN'] at this
            rw [show ((evN (l.take i):Nat):Int)+(x.Events.length:Int)=((evN (l.take i)+x.Events.length:Nat):Int) by omega]
            exact this
          · intro k
            rw [zBT,hg,t6 hd]
            by_cases hk:x.Thread=k
            · subst hk;rw [if_pos rfl,if_pos h2]
            · rw [if_neg hk,tK]
              simp only [zBA,if_neg hk]
      · have hrow:z9 row x.Thread=none:=by rw [hg,if_neg h2]
        rw [if_pos h2,hrow];rfl
theorem zH4 {h:zT} {l:List zB} (hl:l.length≤100000) (hN:evN l≤100000) (ht:h.Threads.length≤100000):zAO 281474976710656 h l=some (zCF h l):=by
  unfold zAO zCF
  obtain ⟨row,h1,h2,h3⟩:=zFo ht 281474976710656 0 [] (by omega) (by simp) (by simp [z9]) (by simp;omega)
  rw [show tP 281474976710656 h 281474976710656 (0:Int) []=some row from h1,Option.bind_some]
  have:=zEM (h:=h) hl hN ht 281474976710656 0 row (by omega) (fun p hp=>by simp at hp) (by simpa [vU] using h3) (by simp;omega)
  simp only [List.take_zero,List.drop_zero] at this
  rw [show tL 281474976710656 l 281474976710656 (0:Int) (0:Int) row=_ from this,Option.bind_some]
  cases x5 (zBh h l) 0 l with
  | inr q=>rfl
  | inl u =>
    simp only
    by_cases hc:evN l>20000
    · rw [if_pos hc,y1 (by omega)];rfl
    · rw [if_neg hc,y0 (by omega)];rfl

end Go.Ab
