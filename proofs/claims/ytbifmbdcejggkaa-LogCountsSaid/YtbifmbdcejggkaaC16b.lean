/- What the checks of a log's packets compute. No conditions but the bounds on lengths that the theorems name. -/
import Derived.Test.YtbifmbdcejggkaaC16a
import Derived.Test.YtbifmbdcejggkaaB16d
namespace Go.Ab
open Go
set_option linter.unusedVariables false

/-- The end of a thread in packets. -/
def pI (k:Int) (a:Int×Int) (p:zB):Int×Int:=if p.Thread=k then (p.Serial+p.Events.length,t7 p.Events) else a
def xF (l:List zB) (k:Int):Int×Int:=l.foldl (pI k) (0,0)
theorem u6 (l:List zB) (p:zB) (k:Int):xF (l++[p]) k=pI k (xF l k) p:=by simp [xF]
def evN (l:List zB):Nat:=(l.map fun p=>p.Events.length).sum
theorem zDd (l:List zB) (p:zB):evN (l++[p])=evN l+p.Events.length:=by simp [evN]
theorem zJH (l m:List zB):evN (l++m)=evN l+evN m:=by simp [evN]
theorem zCP {l:List zB} {p:zB} (h:p∈l):p.Events.length≤evN l:=by
  induction l with
  | nil=>cases h
  | cons a r ih =>
    simp only [evN,List.map_cons,List.sum_cons]
    rcases List.mem_cons.1 h with rfl | h
    · omega
    · have:=ih h;simp only [evN] at this;omega
theorem zBN (l:List zB) (i:Nat):evN (l.take i)≤evN l:=by
  have:=zJH (l.take i) (l.drop i)
  rw [List.take_append_drop] at this
  omega
def jF (l:List zB):Prop:=∀ p∈l,uV p=0
theorem zDk {l:List zB} (h:jF l) (k:Int):0≤(xF l k).1∧(xF l k).1≤1000000000000000:=by
  have:∀ (l:List zB) (a:Int×Int),jF l→0≤a.1∧a.1≤1000000000000000→0≤(l.foldl (pI k) a).1∧(l.foldl (pI k) a).1≤1000000000000000:=by
    intro l
    induction l with
    | nil=>intro a _ h;exact h
    | cons p r ih =>
      intro a h ha
      refine ih _ (fun q hq=>h q (by simp [hq])) ?_
      have:=vK (h p (by simp))
      unfold pI
      split
      · simp only;omega
      · exact ha
  exact this l _ h (by simp)
theorem zLl {l:List zB} (h:jF l) {p:zB} (hp:p∈l):0<p.Events.length:=(vK (h p hp)).2.2.2.2.2.2.1
def uC (l:List zB) (p:zB):Bool:=decide (p.Serial=(xF l p.Thread).1+p.Lost)&&decide (zBe p.Events≥(xF l p.Thread).2)

theorem zIx {l:List zB} {k:Int} (hl:l.length≤100000) (hN:evN l≤100000) (hv:jF l):∀ (n i:Nat),(l.drop i).length<n→nF 281474976710656 l k n (xF (l.take i) k).1 (xF (l.take i) k).2 (i:Nat)=some (xF l k):=by
  intro n
  induction n with
  | zero=>intro i h;omega
  | succ n ih =>
    intro i hn
    show jP _ _ _ _ _ _ _=_
    unfold jP
    rcases hd:l.drop i with _ | ⟨x,r⟩
    · have:=v5 hd
      rw [yU (by omega),cond_false,List.take_of_length_le this]
    · have hi:=uR hd
      rw [hd] at hn
      simp only [List.length_cons] at hn
      have hx:=qH hd
      have hz:=vK (hv x hx)
      have hle:=zCP hx
      have hstep:=ih (i+1) (by rw [wM hd];omega)
      rw [vT hd,u6] at hstep
      rw [y5 (by omega),cond_true]
      simp only [xL hd,Option.bind_some,w6 (show i<9223372036854775807 by omega)]
      by_cases he:x.Thread=k
      · obtain ⟨e,h1,h2⟩:=zJa hz.2.2.2.2.2.2.1 (show x.Events.length≤100000 by omega)
        rw [v6 he,cond_true,h1,Option.bind_some,Option.bind_some,h2,w64 (by omega) (by omega)]
        simp only [pI,if_pos he] at hstep
        exact hstep
      · rw [t9 he,cond_false,Option.bind_some]
        simp only [pI,if_neg he] at hstep
        exact hstep
theorem zKK {l:List zB} {k:Int} (hl:l.length≤100000) (hN:evN l≤100000) (hv:jF l):zCC 281474976710656 l k=some (xF l k):=by
  unfold zCC
  have:=zIx (k:=k) hl hN hv 281474976710656 0 (by simp;omega)
  rw [show nF 281474976710656 l k 281474976710656 0 0 0=some (xF l k) from this];rfl
theorem zDF {l:List zB} {p:zB} (hv:jF l) (hp:uV p=0):q5 ⟨(xF l p.Thread).1,(xF l p.Thread).2⟩ p=some (uC l p):=by
  have hz:=vK hp
  have hr:=zDk hv p.Thread
  obtain ⟨e,h1,h2⟩:=zL6 hz.2.2.2.2.2.2.1
  unfold q5 uC
  rw [h1,w64 (by omega) (by omega),Option.bind_some,h2]
  by_cases h:p.Serial=(xF l p.Thread).1+p.Lost
  · rw [v6 (show p.Serial - p.Lost=(xF l p.Thread).1 by omega),y5 h];simp
  · rw [t9 (show p.Serial - p.Lost≠(xF l p.Thread).1 by omega),yU h];simp
theorem zDD {l:List zB} {p:zB} {t:y8} (hp:uV p=0) (hl:p.Events.length≤100000):q8 t p=some ⟨(xF (l++[p]) p.Thread).1,(xF (l++[p]) p.Thread).2⟩:=by
  have hz:=vK hp
  obtain ⟨e,h1,h2⟩:=zJa hz.2.2.2.2.2.2.1 hl
  unfold q8
  rw [h1,Option.bind_some,w64 (by omega) (by omega),h2,u6]
  simp [pI]

def uF (h:zR):List Int:=h.Threads.map (·.Id)
def zB6 (h:zR) (l:List zB) (i:Nat) (p:zB):Option Int :=
  if uV p≠0 then some (uV p) else if p.Thread∉uF h then some 5 else if uC (l.take i) p=false then some 11 else none
def zDc (h:zR) (l:List zB):Int:=match xV (zB6 h l) 0 l with | .inr q=>q | .inl _=>if evN l>20000 then 7 else 0

theorem zFu {h:zR} (hl:h.Threads.length≤100000):∀ (n i:Nat) (row:List (Int×y8)),i≤h.Threads.length→row.length≤i→(∀ k,yD row k=if k∈(uF h).take i then some ⟨0,0⟩ else none)→(h.Threads.drop i).length<n →
    ∃ row',t3 281474976710656 h n (i:Nat) row=some row'∧row'.length≤h.Threads.length∧∀ k,yD row' k=if k∈uF h then some ⟨0,0⟩ else none:=by
  intro n
  induction n with
  | zero=>intro i row _ _ _ h;omega
  | succ n ih =>
    intro i row hil hlen hg hn
    have hu:t3 281474976710656 h (n+1) (i:Nat) row=qN 281474976710656 h (t3 281474976710656 h n) (i:Nat) row:=rfl
    rw [hu]
    unfold qN
    rcases hd:h.Threads.drop i with _ | ⟨x,r⟩
    · have:=v5 hd
      rw [yU (by omega),cond_false]
      refine ⟨row,rfl,by omega,fun k=>?_⟩
      rw [hg,List.take_of_length_le (by simpa [uF] using this)]
    · have hi:=uR hd
      rw [hd] at hn
      simp only [List.length_cons] at hn
      rw [y5 (by omega),cond_true,xL hd,Option.bind_some,jN (by omega),Option.bind_some,w6 (by omega)]
      refine ih (i+1) _ (by omega) (by have:=zC8 row x.Id (⟨0,0⟩:y8);omega) ?_ (by rw [wM hd];omega)
      intro k
      rw [zCj,hg]
      have ht:(uF h).take (i+1)=(uF h).take i++[x.Id]:=by
        unfold uF
        rw [← List.map_take,← List.map_take,vT hd];simp
      rw [ht]
      by_cases hk:x.Id=k
      · rw [if_pos hk,if_pos (by simp [hk])]
      · rw [if_neg hk]
        simp [Ne.symm hk]
theorem zDz {α β:Type} (f:Nat→α→Option β) (i:Nat) (x:α) (r:List α):xV f i (x::r)=match f i x with | none=>xV f (i+1) r | some b=>.inr b:=rfl
theorem zFT {h:zR} {l:List zB} (hl:l.length≤100000) (hN:evN l≤100000) (ht:h.Threads.length≤100000):∀ (n i:Nat) (row:List (Int×y8)),row.length≤100000+i→jF (l.take i) →
    (∀ k,yD row k=if k∈uF h then some ⟨(xF (l.take i) k).1,(xF (l.take i) k).2⟩ else none)→(l.drop i).length<n →
    t4 281474976710656 l n (evN (l.take i):Nat) (i:Nat) row=some (match xV (zB6 h l) i (l.drop i) with | .inr q=>.inr q | .inl _=>.inl (evN l:Nat)):=by
  intro n
  induction n with
  | zero=>intro i row _ _ _ h;omega
  | succ n ih =>
    intro i row hlen hv hg hn
    have hu:t4 281474976710656 l (n+1) (evN (l.take i):Nat) (i:Nat) row=qL 281474976710656 l (t4 281474976710656 l n) (evN (l.take i):Nat) (i:Nat) row:=rfl
    rw [hu]
    unfold qL
    rcases hd:l.drop i with _ | ⟨x,r⟩
    · have:=v5 hd
      rw [yU (by omega),cond_false,List.take_of_length_le this];rfl
    · have hi:=uR hd
      rw [hd] at hn
      simp only [List.length_cons] at hn
      have hx:=qH hd
      have hle:=zCP hx
      have hlt:=zBN l i
      rw [y5 (by omega),cond_true,xL hd,Option.bind_some,zFr (by omega),Option.bind_some,zDz,
        show zB6 h l i x=if uV x≠0 then some (uV x) else if x.Thread∉uF h then some 5 else if uC (l.take i) x=false then some 11 else none from rfl]
      by_cases h1:uV x≠0
      · rw [if_pos h1,qA h1];rfl
      have h1:uV x=0:=by omega
      rw [if_neg (by omega),t8 h1,cond_false]
      by_cases h2:x.Thread∈uF h
      · rw [if_neg (by simpa using h2)]
        have hrow:yD row x.Thread=some ⟨(xF (l.take i) x.Thread).1,(xF (l.take i) x.Thread).2⟩:=by rw [hg,if_pos h2]
        rw [hrow]
        simp only [zJ9]
        rw [zDF hv h1,Option.bind_some]
        cases h3:uC (l.take i) x
        · simp
        · have hv':jF (l.take (i+1)):=by
            rw [vT hd]
            intro p hp
            rcases List.mem_append.1 hp with hp | hp
            · exact hv p hp
            · rw [List.mem_singleton.1 hp];exact h1
          have hN':evN (l.take (i+1))=evN (l.take i)+x.Events.length:=by rw [vT hd,zDd]
          simp only [Bool.not_true,cond_false,Bool.true_eq_false,if_false]
          rw [zDD (l:=l.take i) h1 (by omega),Option.bind_some,w6 (by omega),w64 (by omega) (by omega)]
          have:=ih (i+1) (uH row x.Thread ⟨(xF (l.take i++[x]) x.Thread).1,(xF (l.take i++[x]) x.Thread).2⟩) (by have:=zC8 row x.Thread (⟨(xF (l.take i++[x]) x.Thread).1,(xF (l.take i++[x]) x.Thread).2⟩:y8);omega) hv' ?_ (by rw [wM hd];omega)
          · rw [wM hd,hN'] at this
            rw [show ((evN (l.take i):Nat):Int)+(x.Events.length:Int)=((evN (l.take i)+x.Events.length:Nat):Int) by omega]
            exact this
          · intro k
            rw [zCj,hg,vT hd]
            by_cases hk:x.Thread=k
            · subst hk;rw [if_pos rfl,if_pos h2]
            · rw [if_neg hk,u6]
              simp only [pI,if_neg hk]
      · have hrow:yD row x.Thread=none:=by rw [hg,if_neg h2]
        rw [if_pos h2,hrow];rfl
theorem zIk {h:zR} {l:List zB} (hl:l.length≤100000) (hN:evN l≤100000) (ht:h.Threads.length≤100000):zBf 281474976710656 h l=some (zDc h l):=by
  unfold zBf zDc
  obtain ⟨row,h1,h2,h3⟩:=zFu ht 281474976710656 0 [] (by omega) (by simp) (by simp [yD]) (by simp;omega)
  rw [show t3 281474976710656 h 281474976710656 (0:Int) []=some row from h1,Option.bind_some]
  have:=zFT (h:=h) hl hN ht 281474976710656 0 row (by omega) (fun p hp=>by simp at hp) (by simpa [xF] using h3) (by simp;omega)
  simp only [List.take_zero,List.drop_zero] at this
  rw [show t4 281474976710656 l 281474976710656 (0:Int) (0:Int) row=_ from this,Option.bind_some]
  cases xV (zB6 h l) 0 l with
  | inr q=>rfl
  | inl u =>
    simp only
    by_cases hc:evN l>20000
    · rw [if_pos hc,y5 (by omega)];rfl
    · rw [if_neg hc,yU (by omega)];rfl

theorem zHm {l:List zB} (hl:l.length≤100000) (hN:evN l≤100000):zAE 281474976710656 l=some ((evN l:Nat):Int):=by
  have key:∀ (n i:Nat),(l.drop i).length<n→jB 281474976710656 l n (evN (l.take i):Nat) (i:Nat)=some ((evN l:Nat):Int):=by
    intro n
    induction n with
    | zero=>intro i h;omega
    | succ n ih =>
      intro i hn
      show t0 _ _ _ _ _=_
      unfold t0
      rcases hd:l.drop i with _ | ⟨x,r⟩
      · have:=v5 hd
        rw [yU (by omega),cond_false,List.take_of_length_le this]
      · have hi:=uR hd
        rw [hd] at hn
        simp only [List.length_cons] at hn
        have hle:=zCP (qH hd)
        have hlt:=zBN l i
        have hN':evN (l.take (i+1))=evN (l.take i)+x.Events.length:=by rw [vT hd,zDd]
        rw [y5 (by omega),cond_true,xL hd,Option.bind_some,w6 (by omega),w64 (by omega) (by omega)]
        have:=ih (i+1) (by rw [wM hd];omega)
        rw [hN'] at this
        rw [show ((evN (l.take i):Nat):Int)+(x.Events.length:Int)=((evN (l.take i)+x.Events.length:Nat):Int) by omega]
        exact this
  unfold zAE
  have:=key 281474976710656 0 (by simp;omega)
  rw [show jB 281474976710656 l 281474976710656 (0:Int) (0:Int)=_ from this];rfl
end Go.Ab
