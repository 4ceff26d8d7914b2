/- What the checks of a log's packets compute. No conditions but the bounds on lengths that the theorems name. -/
import Derived.Test.YtbifmbdcejggkaaC16a
import Derived.Test.YtbifmbdcejggkaaB16d
namespace Go.Ab
open Go
set_option linter.unusedVariables false
def zDN (k:Int) (a:Int×Int) (p:zB):Int×Int:=if p.Thread=k then (p.Serial+p.Events.length,zKO p.Events) else a
def tA (l:List zB) (k:Int):Int×Int:=l.foldl (zDN k) (0,0)
theorem zDF (l:List zB) (p:zB) (k:Int):tA (l++[p]) k=zDN k (tA l k) p:=by simp [tA]
def evN (l:List zB):Nat:=(l.map fun p=>p.Events.length).sum
theorem zEJ (l:List zB) (p:zB):evN (l++[p])=evN l+p.Events.length:=by simp [evN]
theorem zPn (l m:List zB):evN (l++m)=evN l+evN m:=by simp [evN]
theorem zB0 {l:List zB} {p:zB} (h:p∈l):p.Events.length≤evN l:=by
 induction l with
 | nil=>cases h
 | cons a r ih =>
  simp only [evN,List.map_cons,List.sum_cons]
  rcases List.mem_cons.1 h with rfl | h
  ·omega
  ·have:=ih h;simp only [evN] at this;omega
theorem zBc (l:List zB) (i:Nat):evN (l.take i)≤evN l:=by
 have:=zPn (l.take i) (l.drop i)
 rw [List.take_append_drop] at this
 omega
def q8 (l:List zB):Prop:=∀ p∈l,uK p=0
theorem zHP {l:List zB} (h:q8 l) (k:Int):0≤(tA l k).1∧(tA l k).1≤1000000000000000:=by
 have:∀ (l:List zB) (a:Int×Int),q8 l→0≤a.1∧a.1≤1000000000000000→0≤(l.foldl (zDN k) a).1∧(l.foldl (zDN k) a).1≤1000000000000000:=by
  intro l
  induction l with
  | nil=>intro a _ h;exact h
  | cons p r ih =>
   intro a h ha
   refine ih _ (fun q hq=>h q (by simp [hq])) ?_
   have:=vX (h p (by simp))
   unfold zDN
   split
   ·simp only;omega
   ·exact ha
 exact this l _ h (by simp)
theorem zNc {l:List zB} (h:q8 l) {p:zB} (hp:p∈l):0<p.Events.length:=(vX (h p hp)).2.2.2.2.2.2.1
def t0 (l:List zB) (p:zB):Bool:=decide (p.Serial=(tA l p.Thread).1+p.Lost)&&decide (zM4 p.Events≥(tA l p.Thread).2)
theorem zJD {l:List zB} {k:Int} (hl:l.length≤100000) (hN:evN l≤100000) (hv:q8 l):∀ (n i:Nat),(l.drop i).length<n→zAz 281474976710656 l k n (tA (l.take i) k).1 (tA (l.take i) k).2 (i:Nat)=some (tA l k):=by
 intro n
 induction n with
 | zero=>intro i h;omega
 | succ n ih =>
  intro i hn
  show kT _ _ _ _ _ _ _=_
  unfold kT
  rcases hd:l.drop i with _ | ⟨x,r⟩
  ·have:=uA hd
   rw [yN (by omega),cond_false,List.take_of_length_le this]
  ·have hi:=uS hd
   rw [hd] at hn
   simp only [List.length_cons] at hn
   have hx:=jH hd
   have hz:=vX (hv x hx)
   have hle:=zB0 hx
   have hstep:=ih (i+1) (by rw [wT hd];omega)
   rw [uU hd,zDF] at hstep
   rw [yP (by omega),cond_true]
   simp only [y1 hd,Option.bind_some,wE (show i<9223372036854775807 by omega)]
   by_cases he:x.Thread=k
   ·obtain ⟨e,h1,h2⟩:=zJ0 hz.2.2.2.2.2.2.1 (show x.Events.length≤100000 by omega)
    rw [vP he,cond_true,h1,Option.bind_some,Option.bind_some,h2,w64 (by omega) (by omega)]
    simp only [zDN,if_pos he] at hstep
    exact hstep
   ·rw [tM he,cond_false,Option.bind_some]
    simp only [zDN,if_neg he] at hstep
    exact hstep
theorem zMB {l:List zB} {k:Int} (hl:l.length≤100000) (hN:evN l≤100000) (hv:q8 l):zD6 281474976710656 l k=some (tA l k):=by
 unfold zD6
 have:=zJD (k:=k) hl hN hv 281474976710656 0 (by simp;omega)
 rw [show zAz 281474976710656 l k 281474976710656 0 0 0=some (tA l k) from this];rfl
theorem zIw {l:List zB} {p:zB} (hl:l.length≤100000) (hN:evN l≤100000) (hv:q8 l) (hp:uK p=0):zAO 281474976710656 l p=some (t0 l p):=by
 have hz:=vX hp
 have hr:=zHP hv p.Thread
 obtain ⟨e,h1,h2⟩:=zK7 hz.2.2.2.2.2.2.1
 unfold zAO t0
 rw [zMB hl hN hv,Option.bind_some,h1,w64 (by omega) (by omega),Option.bind_some,h2]
 by_cases h:p.Serial=(tA l p.Thread).1+p.Lost
 ·rw [vP h,yP h];simp
 ·rw [tM h,yN h];simp
theorem zE7 {l:List zB} {p:zB} (hv:q8 l) (hp:uK p=0):j5 ⟨(tA l p.Thread).1,(tA l p.Thread).2⟩ p=some (t0 l p):=by
 have hz:=vX hp
 have hr:=zHP hv p.Thread
 obtain ⟨e,h1,h2⟩:=zK7 hz.2.2.2.2.2.2.1
 unfold j5 t0
 rw [h1,w64 (by omega) (by omega),Option.bind_some,h2]
 by_cases h:p.Serial=(tA l p.Thread).1+p.Lost
 ·rw [vP (show p.Serial - p.Lost=(tA l p.Thread).1 by omega),yP h];simp
 ·rw [tM (show p.Serial - p.Lost≠(tA l p.Thread).1 by omega),yN h];simp
theorem zE8 {l:List zB} {p:zB} {t:xQ} (hp:uK p=0) (hl:p.Events.length≤100000):jS t p=some ⟨(tA (l++[p]) p.Thread).1,(tA (l++[p]) p.Thread).2⟩:=by
 have hz:=vX hp
 obtain ⟨e,h1,h2⟩:=zJ0 hz.2.2.2.2.2.2.1 hl
 unfold jS
 rw [h1,Option.bind_some,w64 (by omega) (by omega),h2,zDF]
 simp [zDN]
def jA (h:zL):List Int:=h.Threads.map (·.Id)
def zBy (h:zL) (l:List zB) (i:Nat) (p:zB):Option Int :=
 if uK p≠0 then some (uK p) else if p.Thread∉jA h then some 5 else if t0 (l.take i) p=false then some 11 else none
def zBW (h:zL) (l:List zB):Int:=match xL (zBy h l) 0 l with | .inr q=>q | .inl _=>if evN l>20000 then 7 else 0
theorem zHJ {h:zL} (hl:h.Threads.length≤100000):∀ (n i:Nat) (row:List (Int×xQ)),i≤h.Threads.length→row.length≤i→(∀ k,yO row k=if k∈(jA h).take i then some ⟨0,0⟩ else none)→(h.Threads.drop i).length<n →
  ∃ row',qU 281474976710656 h n (i:Nat) row=some row'∧row'.length≤h.Threads.length∧∀ k,yO row' k=if k∈jA h then some ⟨0,0⟩ else none:=by
 intro n
 induction n with
 | zero=>intro i row _ _ _ h;omega
 | succ n ih =>
  intro i row hil hlen hg hn
  have hu:qU 281474976710656 h (n+1) (i:Nat) row=jJ 281474976710656 h (qU 281474976710656 h n) (i:Nat) row:=rfl
  rw [hu]
  unfold jJ
  rcases hd:h.Threads.drop i with _ | ⟨x,r⟩
  ·have:=uA hd
   rw [yN (by omega),cond_false]
   refine ⟨row,rfl,by omega,fun k=>?_⟩
   rw [hg,List.take_of_length_le (by simpa [jA] using this)]
  ·have hi:=uS hd
   rw [hd] at hn
   simp only [List.length_cons] at hn
   rw [yP (by omega),cond_true,y1 hd,Option.bind_some,uX (by omega),Option.bind_some,wE (by omega)]
   refine ih (i+1) _ (by omega) (by have:=zEC row x.Id (⟨0,0⟩:xQ);omega) ?_ (by rw [wT hd];omega)
   intro k
   rw [zDD,hg]
   have ht:(jA h).take (i+1)=(jA h).take i++[x.Id]:=by
    unfold jA
    rw [← List.map_take,← List.map_take,uU hd];simp
   rw [ht]
   by_cases hk:x.Id=k
   ·rw [if_pos hk,if_pos (by simp [hk])]
   ·rw [if_neg hk]
    simp [Ne.symm hk]
theorem zEZ {α β:Type} (f:Nat→α→Option β) (i:Nat) (x:α) (r:List α):xL f i (x::r)=match f i x with | none=>xL f (i+1) r | some b=>.inr b:=rfl
theorem zHs {h:zL} {l:List zB} (hl:l.length≤100000) (hN:evN l≤100000) (ht:h.Threads.length≤100000):∀ (n i:Nat) (row:List (Int×xQ)),row.length≤100000+i→q8 (l.take i) →
  (∀ k,yO row k=if k∈jA h then some ⟨(tA (l.take i) k).1,(tA (l.take i) k).2⟩ else none)→(l.drop i).length<n →
  qV 281474976710656 l n (evN (l.take i):Nat) (i:Nat) row=some (match xL (zBy h l) i (l.drop i) with | .inr q=>.inr q | .inl _=>.inl (evN l:Nat)):=by
 intro n
 induction n with
 | zero=>intro i row _ _ _ h;omega
 | succ n ih =>
  intro i row hlen hv hg hn
  have hu:qV 281474976710656 l (n+1) (evN (l.take i):Nat) (i:Nat) row=jK 281474976710656 l (qV 281474976710656 l n) (evN (l.take i):Nat) (i:Nat) row:=rfl
  rw [hu]
  unfold jK
  rcases hd:l.drop i with _ | ⟨x,r⟩
  ·have:=uA hd
   rw [yN (by omega),cond_false,List.take_of_length_le this];rfl
  ·have hi:=uS hd
   rw [hd] at hn
   simp only [List.length_cons] at hn
   have hx:=jH hd
   have hle:=zB0 hx
   have hlt:=zBc l i
   rw [yP (by omega),cond_true,y1 hd,Option.bind_some,zHB (by omega),Option.bind_some,zEZ,
    show zBy h l i x=if uK x≠0 then some (uK x) else if x.Thread∉jA h then some 5 else if t0 (l.take i) x=false then some 11 else none from rfl]
   by_cases h1:uK x≠0
   ·rw [if_pos h1,vS h1];rfl
   have h1:uK x=0:=by omega
   rw [if_neg (by omega),vY h1,cond_false]
   by_cases h2:x.Thread∈jA h
   ·rw [if_neg (by simpa using h2)]
    have hrow:yO row x.Thread=some ⟨(tA (l.take i) x.Thread).1,(tA (l.take i) x.Thread).2⟩:=by rw [hg,if_pos h2]
    rw [hrow]
    simp only [zMx]
    rw [zE7 hv h1,Option.bind_some]
    cases h3:t0 (l.take i) x
    ·simp
    ·have hv':q8 (l.take (i+1)):=by
      rw [uU hd]
      intro p hp
      rcases List.mem_append.1 hp with hp | hp
      ·exact hv p hp
      ·rw [List.mem_singleton.1 hp];exact h1
     have hN':evN (l.take (i+1))=evN (l.take i)+x.Events.length:=by rw [uU hd,zEJ]
     simp only [Bool.not_true,cond_false,Bool.true_eq_false,if_false]
     rw [zE8 (l:=l.take i) h1 (by omega),Option.bind_some,wE (by omega),w64 (by omega) (by omega)]
     have:=ih (i+1) (u1 row x.Thread ⟨(tA (l.take i++[x]) x.Thread).1,(tA (l.take i++[x]) x.Thread).2⟩) (by have:=zEC row x.Thread (⟨(tA (l.take i++[x]) x.Thread).1,(tA (l.take i++[x]) x.Thread).2⟩:xQ);omega) hv' ?_ (by rw [wT hd];omega)
     ·rw [wT hd,hN'] at this
      rw [show ((evN (l.take i):Nat):Int)+(x.Events.length:Int)=((evN (l.take i)+x.Events.length:Nat):Int) by omega]
      exact this
     ·intro k
      rw [zDD,hg,uU hd]
      by_cases hk:x.Thread=k
      ·subst hk;rw [if_pos rfl,if_pos h2]
      ·rw [if_neg hk,zDF]
       simp only [zDN,if_neg hk]
   ·have hrow:yO row x.Thread=none:=by rw [hg,if_neg h2]
    rw [if_pos h2,hrow];rfl
theorem zKk {h:zL} {l:List zB} (hl:l.length≤100000) (hN:evN l≤100000) (ht:h.Threads.length≤100000):zCu 281474976710656 h l=some (zBW h l):=by
 unfold zCu zBW
 obtain ⟨row,h1,h2,h3⟩:=zHJ ht 281474976710656 0 [] (by omega) (by simp) (by simp [yO]) (by simp;omega)
 rw [show qU 281474976710656 h 281474976710656 (0:Int) []=some row from h1,Option.bind_some]
 have:=zHs (h:=h) hl hN ht 281474976710656 0 row (by omega) (fun p hp=>by simp at hp) (by simpa [tA] using h3) (by simp;omega)
 simp only [List.take_zero,List.drop_zero] at this
 rw [show qV 281474976710656 l 281474976710656 (0:Int) (0:Int) row=_ from this,Option.bind_some]
 cases xL (zBy h l) 0 l with
 | inr q=>rfl
 | inl u =>
  simp only
  by_cases hc:evN l>20000
  ·rw [if_pos hc,yP (by omega)];rfl
  ·rw [if_neg hc,yN (by omega)];rfl
theorem zI5 {l:List zB} (hl:l.length≤100000) (hN:evN l≤100000):zBw 281474976710656 l=some ((evN l:Nat):Int):=by
 have key:∀ (n i:Nat),(l.drop i).length<n→j8 281474976710656 l n (evN (l.take i):Nat) (i:Nat)=some ((evN l:Nat):Int):=by
  intro n
  induction n with
  | zero=>intro i h;omega
  | succ n ih =>
   intro i hn
   show qY _ _ _ _ _=_
   unfold qY
   rcases hd:l.drop i with _ | ⟨x,r⟩
   ·have:=uA hd
    rw [yN (by omega),cond_false,List.take_of_length_le this]
   ·have hi:=uS hd
    rw [hd] at hn
    simp only [List.length_cons] at hn
    have hle:=zB0 (jH hd)
    have hlt:=zBc l i
    have hN':evN (l.take (i+1))=evN (l.take i)+x.Events.length:=by rw [uU hd,zEJ]
    rw [yP (by omega),cond_true,y1 hd,Option.bind_some,wE (by omega),w64 (by omega) (by omega)]
    have:=ih (i+1) (by rw [wT hd];omega)
    rw [hN'] at this
    rw [show ((evN (l.take i):Nat):Int)+(x.Events.length:Int)=((evN (l.take i)+x.Events.length:Nat):Int) by omega]
    exact this
 unfold zBw
 have:=key 281474976710656 0 (by simp;omega)
 rw [show j8 281474976710656 l 281474976710656 (0:Int) (0:Int)=_ from this];rfl
theorem zKj {h:zL} {k:Int} (hl:h.Threads.length≤100000):zCD 281474976710656 h k=some (decide (k∈jA h)):=by
 unfold zCD
 rw [qB (l:=h.Threads) (fun n i=>zAk 281474976710656 h k n i) (fun _ t=>if t.Id=k then some true else none) hl]
 ·rw [Option.bind_some]
  by_cases hk:k∈jA h
  ·rw [yP hk]
   obtain ⟨y,hy,hyk⟩:=List.mem_map.1 hk
   have:∀ (m:List z0) (i:Nat),y∈m→xL (fun (_:Nat) (t:z0)=>if t.Id=k then some true else none) i m=.inr true:=by
    intro m
    induction m with
    | nil=>intro i h;cases h
    | cons a m ih =>
     intro i h
     simp only [xL]
     by_cases ha:a.Id=k
     ·rw [if_pos ha]
     ·rw [if_neg ha]
      rcases List.mem_cons.1 h with rfl | h
      ·exact absurd hyk ha
      ·exact ih _ h
   rw [this _ _ hy]
  ·rw [yN hk,zDc (f:=fun (_:Nat) (t:z0)=>if t.Id=k then some true else none)]
   intro j x hj
   rw [if_neg]
   intro he
   exact hk (List.mem_map.2 ⟨x,List.mem_of_getElem? hj,he⟩)
 ·intro n i hi
  show tG _ _ _ _ _=_
  unfold tG
  rw [yN (by omega),cond_false]
 ·intro n i x r hd hi
  show tG _ _ _ _ _=_
  unfold tG
  rw [yP (by omega),cond_true,y1 hd,Option.bind_some,wE (by omega)]
  by_cases he:x.Id=k
  ·rw [vP he,if_pos he];rfl
  ·rw [tM he,if_neg he];rfl
end Go.Ab
