/- What Of and Same compute, on both sides. No conditions but the bounds on lengths that the theorems name. -/
import Derived.Test.YtbifmbdcejggkaaC16c
namespace Go.Ab
open Go
set_option linter.unusedVariables false
def zCr:zQ:=⟨⟨[],[],[]⟩,[]⟩
def zAG (h:zL) (l:List zB):List zB:=h.Threads.flatMap fun t=>wQ t.Id l
def zHG (h:zL) (l:List zB):zQ×Int :=
 if zA6 h≠0 then (zCr,zA6 h) else if zBl h l≠0 then (zCr,zBl h l) else (⟨h,zAG h l⟩,0)
theorem zE6 {h:zL} {l:List zB} {i:Nat} {p:zB}:zBd h l i p=none↔uC p=0∧p.Thread∈qR h∧tQ (l.take i) p=true:=by
 unfold zBd
 by_cases h1:uC p≠0
 ·rw [if_pos h1];exact ⟨fun h=>by (cases h),fun h=>absurd h.1 h1⟩
 ·rw [if_neg h1]
  by_cases h2:p.Thread∉qR h
  ·rw [if_pos h2];exact ⟨fun h=>by (cases h),fun h=>absurd h.2.1 h2⟩
  ·rw [if_neg h2]
   cases h3:tQ (l.take i) p
   ·simp
   ·simp only [Bool.true_eq_false,if_false]
    exact ⟨fun _=>⟨by omega,by simpa using h2,trivial⟩,fun _=>trivial⟩
structure zPa (h:zL) (l:List zB):Prop where
 passed:qY l
 known:∀ p∈l,p.Thread∈qR h
 few:evN l≤20000
theorem zKW {h:zL} {l:List zB}:∀ (i:Nat) (m:List zB) (q:Int),xI (zBd h l) i m=.inr q→q≠0:=by
 intro i m
 induction m generalizing i with
 | nil=>intro q h;cases h
 | cons a r ih =>
  intro q hq
  simp only [xI] at hq
  cases hf:zBd h l i a with
  | none=>rw [hf] at hq;exact ih _ _ hq
  | some b =>
   rw [hf] at hq;injection hq with hq;subst hq
   unfold zBd at hf
   split at hf
   ·injection hf with hf;omega
   ·split at hf
    ·injection hf with hf;omega
    ·split at hf
     ·injection hf with hf;omega
     ·cases hf
theorem zE9 {h:zL} {l:List zB}:zBl h l=0↔zPa h l:=by
 unfold zBl
 constructor
 ·intro hc
  cases hb:xI (zBd h l) 0 l with
  | inr q=>rw [hb] at hc;exact absurd hc (zKW _ _ _ hb)
  | inl u =>
   rw [hb] at hc
   have hn:=zEn hb
   simp only [Nat.zero_add] at hn
   refine ⟨fun i p hi=>?_,fun p hp=>?_,?_⟩
   ·have:=zE6.1 (hn i p hi);exact ⟨this.1,this.2.2⟩
   ·obtain ⟨i,hi⟩:=List.mem_iff_getElem?.1 hp
    exact (zE6.1 (hn i p hi)).2.1
   ·simp only at hc
    split at hc<;>omega
 ·intro hg
  rw [zCD (f:=zBd h l) (i:=0) (l:=l) fun i p hi=>by
   rw [Nat.zero_add]
   exact zE6.2 ⟨(hg.passed i p hi).1,hg.known p (List.mem_of_getElem? hi),(hg.passed i p hi).2⟩]
  simp only
  rw [if_neg (by have:=hg.few;omega)]
theorem zJ8 {l:List zB} (hl:l.length≤100000) (hN:evN l≤100000) (hP:qY l):∀ (n i:Nat) (row:List (Int×List zB)),row.length≤i→(∀ k,(yI row k).getD []=wQ k (l.take i))→(l.drop i).length<n →
  ∃ row',k8 200000 l n (i:Nat) row=some row'∧∀ k,(yI row' k).getD []=wQ k l:=by
 intro n
 induction n with
 | zero=>intro i row _ _ h;omega
 | succ n ih =>
  intro i row hlen hg hn
  have hu:k8 200000 l (n+1) (i:Nat) row=kT 200000 l (k8 200000 l n) (i:Nat) row:=rfl
  rw [hu]
  unfold kT
  rcases hd:l.drop i with _ | ⟨x,r⟩
  ·have:=uH hd
   rw [yH (by omega),cond_false]
   exact ⟨row,rfl,fun k=>by rw [hg,List.take_of_length_le this]⟩
  ·have hi:=uQ hd
   rw [hd] at hn
   simp only [List.length_cons] at hn
   have hPx:qY (l.take i++[x]):=by rw [← tA hd];exact hP.take _
   have hfit:=zGH hPx
   have hz:=uR hPx.snoc.2.1
   have hb:=(zA2 x.Thread (l.take i) (hP.take i)).1
   have hle:=zBp l i
   obtain ⟨e1,e2,e3⟩:=zCY hfit hz.2.2.2.1
   rw [yK (by omega),cond_true,yX hd,Option.bind_some,hg]
   have hown:(bif (decide (x.Lost>(0:Int))||((((wQ x.Thread (l.take i)).length:Nat):Int)==(0:Int))) then (need (((wQ x.Thread (l.take i)).length+1) * 48≤140737488355328)).bind fun _=>some (wQ x.Thread (l.take i)++[(⟨x.Thread,x.Serial,x.Lost,[]⟩:zB)]) else some (wQ x.Thread (l.take i)))=some (pD (wQ x.Thread (l.take i)) x):=by
    unfold pD
    by_cases hc:x.Lost>0∨(wQ x.Thread (l.take i)).length=0
    ·rw [if_pos hc,u1 (by omega)]
     rw [show (decide (x.Lost>(0:Int))||((((wQ x.Thread (l.take i)).length:Nat):Int)==(0:Int)))=true by
      rcases hc with hc | hc
      ·rw [yK hc];rfl
      ·rw [vJ (show (((wQ x.Thread (l.take i)).length:Nat):Int)=0 by omega)];simp]
     rfl
    ·rw [if_neg hc]
     rw [show (decide (x.Lost>(0:Int))||((((wQ x.Thread (l.take i)).length:Nat):Int)==(0:Int)))=false by
      rw [yH (fun h=>hc (.inl h)),tH (show (((wQ x.Thread (l.take i)).length:Nat):Int)≠0 from fun h=>hc (.inr (by omega)))];rfl]
     rfl
   rw [hown,Option.bind_some,zKt e2 e1.len e1.low (by have:=e1.serial;omega) (by omega) (by omega),Option.bind_some,u1 (by omega),Option.bind_some,wI (by omega)]
   refine ih (i+1) _ (by have:=zDR row x.Thread (List.foldl fE (pD (wQ x.Thread (l.take i)) x) x.Events);omega) ?_ (by rw [wR hd];omega)
   intro k
   rw [zC8,tA hd,zAg]
   unfold zD6
   by_cases hk:x.Thread=k
   ·subst hk;rw [if_pos rfl,if_pos rfl];rfl
   ·rw [if_neg hk,if_neg hk,hg]
theorem zH1 {h:zL} {i:Nat} {x:zY} {r:List zY} (f:zY→List zB) (hd:h.Threads.drop i=x::r):(h.Threads.take (i+1)).flatMap f=(h.Threads.take i).flatMap f++f x:=by
 rw [tA hd,List.flatMap_append];simp
theorem zJT {h:zL} {o:List (Int×List zB)} {f:Int→List zB} (hl:h.Threads.length≤100000) (ho:∀ k,(yI o k).getD []=f k) (hf:∀ k,(f k).length≤200000):∀ (n i:Nat) (row:List zB),row=(h.Threads.take i).flatMap (fun t=>f t.Id)→row.length≤i * 200000→(h.Threads.drop i).length<n →
  zAX 200000 h o n (i:Nat) row=some (h.Threads.flatMap fun t=>f t.Id):=by
 intro n
 induction n with
 | zero=>intro i row _ _ h;omega
 | succ n ih =>
  intro i row hr hlen hn
  show kJ _ _ _ _ _ _=_
  unfold kJ
  rcases hd:h.Threads.drop i with _ | ⟨x,r⟩
  ·have:=uH hd
   rw [yH (by omega),cond_false,hr,List.take_of_length_le this]
  ·have hi:=uQ hd
   rw [hd] at hn
   simp only [List.length_cons] at hn
   have:=hf x.Id
   rw [yK (by omega),cond_true,yX hd,Option.bind_some,ho,u1 (by omega),Option.bind_some,wI (by omega)]
   exact ih (i+1) _ (by rw [zH1 _ hd,hr]) (by rw [List.length_append];omega) (by rw [wR hd];omega)
theorem zMl {h:zL} {l:List zB} (ht:h.Threads.length≤100000) (hd:h.Domains.length≤100000) (hs:h.Snaps.length≤100000) (hl:l.length≤100000) (hN:evN l≤100000):zBe 200000 h l=some (zHG h l):=by
 unfold zBe zHG
 rw [zJg ht hd hs,Option.bind_some]
 by_cases h1:zA6 h≠0
 ·rw [if_pos h1,vX h1];rfl
 rw [if_neg h1,v7 (by omega),cond_false,zJh hl hN ht,Option.bind_some]
 by_cases h2:zBl h l≠0
 ·rw [if_pos h2,vX h2];rfl
 have h2:zBl h l=0:=by omega
 have hg:=zE9.1 h2
 rw [if_neg (by omega),v7 h2,cond_false]
 obtain ⟨row,r1,r2⟩:=zJ8 hl hN hg.passed 200000 0 [] (by simp) (fun k=>by simp [yI,wQ]) (by simp;omega)
 rw [show k8 200000 l 200000 (0:Int) []=_ from r1,Option.bind_some]
 have:=zJT (h:=h) (f:=fun k=>wQ k l) ht r2 (fun k=>by have:=(zA2 k l hg.passed).1;omega) 200000 0 [] (by simp) (by simp) (by simp;omega)
 rw [show zAX 200000 h row 200000 (0:Int) []=_ from this];rfl
theorem zJV {h:zL} {l:List zB} (ht:h.Threads.length≤100000) (hl:l.length≤100000) (hN:evN l≤100000):∀ (n i:Nat),jX (l.take i)→(l.drop i).length<n →
  zAL 200000 h l n (i:Nat)=some (match xI (zBd h l) i (l.drop i) with | .inr q=>.inr (zCr,q) | .inl _=>.inl ()):=by
 intro n
 induction n with
 | zero=>intro i _ h;omega
 | succ n ih =>
  intro i hv hn
  show kV _ _ _ _ _=_
  unfold kV
  rcases hd:l.drop i with _ | ⟨x,r⟩
  ·have:=uH hd
   rw [yH (by omega),cond_false];rfl
  ·have hi:=uQ hd
   rw [hd] at hn
   simp only [List.length_cons] at hn
   have hle:=zCm (pF hd)
   have hlt:=zBp l i
   rw [yK (by omega),cond_true]
   simp only [yX hd,Option.bind_some,zJQ (show x.Events.length≤100000 by omega),zEm,zJH ht]
   rw [show zBd h l i x=if uC x≠0 then some (uC x) else if x.Thread∉qR h then some 5 else if tQ (l.take i) x=false then some 11 else none from rfl]
   by_cases h1:uC x≠0
   ·rw [if_pos h1,vX h1];rfl
   have h1:uC x=0:=by omega
   rw [if_neg (by omega),v7 h1,cond_false]
   by_cases h2:x.Thread∈qR h
   ·rw [if_neg (by simpa using h2),yK h2,u1 (by omega),Option.bind_some,zKh,zHn (by rw [List.length_take];omega) (by omega) hv h1,Option.bind_some,wI (by omega)]
    cases h3:tQ (l.take i) x
    ·rfl
    ·have hv':jX (l.take (i+1)):=by
      rw [tA hd]
      intro p hp
      rcases List.mem_append.1 hp with hp | hp
      ·exact hv p hp
      ·rw [List.mem_singleton.1 hp];exact h1
     simp only [Bool.not_true,cond_false,Bool.true_eq_false,if_false]
     rw [ih (i+1) hv' (by rw [wR hd];omega),wR hd]
   ·rw [if_pos h2,yH h2];rfl
theorem zI6 {h:zL} {l:List zB} (ht:h.Threads.length≤100000) (hl:l.length≤100000) (hN:evN l≤100000) (hP:qY l):∀ (n i:Nat) (row:List zB),row=(h.Threads.take i).flatMap (fun t=>wQ t.Id l)→row.length≤i * 200000→(h.Threads.drop i).length<n →
  zAQ 200000 h l n (i:Nat) row=some (zAG h l):=by
 intro n
 induction n with
 | zero=>intro i row _ _ h;omega
 | succ n ih =>
  intro i row hr hlen hn
  show kU _ _ _ _ _ _=_
  unfold kU
  rcases hd:h.Threads.drop i with _ | ⟨x,r⟩
  ·have:=uH hd
   rw [yH (by omega),cond_false,hr,List.take_of_length_le this];rfl
  ·have hi:=uQ hd
   rw [hd] at hn
   simp only [List.length_cons] at hn
   have:=(zA2 x.Id l hP).1
   rw [yK (by omega),cond_true,yX hd,Option.bind_some,zJL hl hN hP,Option.bind_some,u1 (by omega),Option.bind_some,wI (by omega)]
   exact ih (i+1) _ (by rw [zH1 _ hd,hr]) (by rw [List.length_append];omega) (by rw [wR hd];omega)
theorem zMc {h:zL} {l:List zB} (ht:h.Threads.length≤100000) (hd:h.Domains.length≤100000) (hs:h.Snaps.length≤100000) (hl:l.length≤100000) (hN:evN l≤100000):zFa 200000 h l=some (zHG h l):=by
 unfold zFa zHG
 rw [zKC ht hd hs,Option.bind_some]
 by_cases h1:zA6 h≠0
 ·rw [if_pos h1,vX h1];rfl
 rw [if_neg h1,v7 (by omega),cond_false]
 have h0:=zJV (h:=h) ht hl hN 200000 0 (fun p hp=>by simp at hp) (by simp;omega)
 rw [show zAL 200000 h l 200000 (0:Int)=_ from h0,Option.bind_some,List.drop_zero]
 cases hb:xI (zBd h l) 0 l with
 | inr q =>
  have hc:zBl h l=q:=by unfold zBl;rw [hb]
  rw [hc,if_pos (zKW _ _ _ hb)]
 | inl u =>
  simp only
  rw [zIu hl hN,Option.bind_some]
  have hc:zBl h l=if evN l>20000 then 7 else 0:=by unfold zBl;rw [hb]
  by_cases h3:evN l>20000
  ·rw [if_pos h3] at hc
   rw [yK (by omega),hc,if_pos (by omega)];rfl
  ·rw [if_neg h3] at hc
   have hg:=zE9.1 hc
   rw [yH (by omega),hc,if_neg (by omega),cond_false]
   have:=zI6 ht hl hN hg.passed 200000 0 [] (by simp) (by simp) (by simp;omega)
   rw [show zAQ 200000 h l 200000 (0:Int) []=_ from this];rfl
/-! Equality of logs. -/
def zG8 (l:List zB):Prop:=l.length≤100000∧∀ p∈l,p.Events.length≤100000∧∀ e∈p.Events,e.Stack.length≤100000
theorem zNr {a b:List zY} (ha:a.length≤100000):x7 200000 a b=some (decide (a=b)):=by
 unfold x7
 by_cases hab:a.length=b.length
 ·rw [v7 (by omega),cond_false,t9 (a:=a) (b:=b) (fun n i=>xY 200000 a b n i) hab ha]
  ·rw [Option.bind_some]
   by_cases he:a=b
   ·rw [if_pos he,yK he]
   ·rw [if_neg he,yH he]
  ·intro n i hi
   show yY _ _ _ _ _=_
   unfold yY
   rw [yH (by omega),cond_false]
  ·intro n i x y r r2 hx hy hi
   show yY _ _ _ _ _=_
   unfold yY
   rw [yK (by omega),cond_true,yX hx,Option.bind_some,yX hy,Option.bind_some,wI (by omega)]
   by_cases he:x=y
   ·rw [if_pos he,yK he];rfl
   ·rw [if_neg he,yH he];rfl
 ·rw [vX (by omega),yH (fun e=>hab (by rw [e]))];rfl
theorem zNX {a b:List zS} (ha:a.length≤100000):x6 200000 a b=some (decide (a=b)):=by
 unfold x6
 by_cases hab:a.length=b.length
 ·rw [v7 (by omega),cond_false,t9 (a:=a) (b:=b) (fun n i=>xZ 200000 a b n i) hab ha]
  ·rw [Option.bind_some]
   by_cases he:a=b
   ·rw [if_pos he,yK he]
   ·rw [if_neg he,yH he]
  ·intro n i hi
   show yZ _ _ _ _ _=_
   unfold yZ
   rw [yH (by omega),cond_false]
  ·intro n i x y r r2 hx hy hi
   show yZ _ _ _ _ _=_
   unfold yZ
   rw [yK (by omega),cond_true,yX hx,Option.bind_some,yX hy,Option.bind_some,wI (by omega)]
   by_cases he:x=y
   ·rw [if_pos he,yK he];rfl
   ·rw [if_neg he,yH he];rfl
 ·rw [vX (by omega),yH (fun e=>hab (by rw [e]))];rfl
theorem zNA {a b:List xM} (ha:a.length≤100000):wA 200000 a b=some (decide (a=b)):=by
 unfold wA
 by_cases hab:a.length=b.length
 ·rw [v7 (by omega),cond_false,t9 (a:=a) (b:=b) (fun n i=>x8 200000 a b n i) hab ha]
  ·rw [Option.bind_some]
   by_cases he:a=b
   ·rw [if_pos he,yK he]
   ·rw [if_neg he,yH he]
  ·intro n i hi
   show y7 _ _ _ _ _=_
   unfold y7
   rw [yH (by omega),cond_false]
  ·intro n i x y r r2 hx hy hi
   show y7 _ _ _ _ _=_
   unfold y7
   rw [yK (by omega),cond_true,yX hx,Option.bind_some,yX hy,Option.bind_some,wI (by omega)]
   by_cases he:x=y
   ·rw [if_pos he,yK he];rfl
   ·rw [if_neg he,yH he];rfl
 ·rw [vX (by omega),yH (fun e=>hab (by rw [e]))];rfl
theorem zNM {a b:List zB} (ha:zG8 a):yM 200000 a b=some (decide (a=b)):=by
 unfold yM
 by_cases hab:a.length=b.length
 ·rw [v7 (by omega),cond_false,t9 (a:=a) (b:=b) (fun n i=>yJ 200000 a b n i) hab ha.1]
  ·rw [Option.bind_some]
   by_cases he:a=b
   ·rw [if_pos he,yK he]
   ·rw [if_neg he,yH he]
  ·intro n i hi
   show yB _ _ _ _ _=_
   unfold yB
   rw [yH (by omega),cond_false]
  ·intro n i x y r r2 hx hy hi
   show yB _ _ _ _ _=_
   unfold yB zCf
   have hm:=ha.2 x (pF hx)
   have hl:=ha.1
   rw [yK (by omega),cond_true,yX hx,Option.bind_some,yX hy,Option.bind_some,wI (by omega),zHB hm.1 hm.2,Option.bind_some,Option.bind_some]
   by_cases he:x=y
   ·rw [if_pos he,yK he];rfl
   ·rw [if_neg he,yH he];rfl
 ·rw [vX (by omega),yH (fun e=>hab (by rw [e]))];rfl
theorem zEZ {a b:List zB} (ha:zG8 a):jV 200000 a b=some (decide (a=b)):=by
 unfold jV
 by_cases hab:a.length=b.length
 ·rw [v7 (by omega),cond_false,t9 (a:=a) (b:=b) (fun n i=>qH 200000 a b n i) hab ha.1]
  ·rw [Option.bind_some]
   by_cases he:a=b
   ·rw [if_pos he,yK he]
   ·rw [if_neg he,yH he]
  ·intro n i hi
   show vL _ _ _ _ _=_
   unfold vL
   rw [yH (by omega),cond_false]
  ·intro n i x y r r2 hx hy hi
   show vL _ _ _ _ _=_
   unfold vL
   have hm:=ha.2 x (pF hx)
   have hl:=ha.1
   rw [yK (by omega),cond_true,yX hx,Option.bind_some,yX hy,Option.bind_some,wI (by omega),zKS hm.1 hm.2,Option.bind_some]
   by_cases he:x=y
   ·rw [if_pos he,yK he];rfl
   ·rw [if_neg he,yH he];rfl
 ·rw [vX (by omega),yH (fun e=>hab (by rw [e]))];rfl
def zL8 (a:zQ):Prop:=a.Head.Threads.length≤100000∧a.Head.Domains.length≤100000∧a.Head.Snaps.length≤100000∧zG8 a.Parts
theorem zLd (a b:zQ):a=b↔a.Head.Threads=b.Head.Threads∧a.Head.Domains=b.Head.Domains∧a.Head.Snaps=b.Head.Snaps∧a.Parts=b.Parts:=by
 obtain ⟨⟨a1,a2,a3⟩,a4⟩:=a
 obtain ⟨⟨b1,b2,b3⟩,b4⟩:=b
 simp [and_assoc]
theorem zKy {a b:zQ} (h:zL8 a):zBz 200000 a b=some (decide (a=b)):=by
 obtain ⟨h1,h2,h3,h4⟩:=h
 unfold zBz
 rw [zNr h1,zNX h2,zNA h3,zNM h4]
 simp only [Option.bind_some,zLd a b]
 by_cases k1:a.Head.Threads=b.Head.Threads
 ·by_cases k2:a.Head.Domains=b.Head.Domains
  ·by_cases k3:a.Head.Snaps=b.Head.Snaps
   ·simp [k1,k2,k3]
   ·simp [k1,k2,k3]
  ·simp [k1,k2]
 ·simp [k1]
theorem zGl {a b:zL} (h1:a.Threads.length≤100000) (h2:a.Domains.length≤100000) (h3:a.Snaps.length≤100000):nE 200000 a b=some (decide (a.Threads=b.Threads∧a.Domains=b.Domains∧a.Snaps=b.Snaps)):=by
 unfold nE
 by_cases hl:a.Threads.length=b.Threads.length∧a.Domains.length=b.Domains.length∧a.Snaps.length=b.Snaps.length
 ·obtain ⟨l1,l2,l3⟩:=hl
  rw [v7 (show ((a.Threads.length:Nat):Int)=(b.Threads.length:Nat) by omega),v7 (show ((a.Domains.length:Nat):Int)=(b.Domains.length:Nat) by omega),v7 (show ((a.Snaps.length:Nat):Int)=(b.Snaps.length:Nat) by omega)]
  simp only [Bool.or_self,cond_false]
  rw [t9 (a:=a.Threads) (b:=b.Threads) (fun n i=>j3 200000 a b n i) l1 h1,Option.bind_some]
  ·by_cases k1:a.Threads=b.Threads
   ·rw [if_pos k1]
    simp only
    rw [t9 (a:=a.Domains) (b:=b.Domains) (fun n i=>jZ 200000 a b n i) l2 h2,Option.bind_some]
    ·by_cases k2:a.Domains=b.Domains
     ·rw [if_pos k2]
      simp only
      rw [t9 (a:=a.Snaps) (b:=b.Snaps) (fun n i=>jR 200000 a b n i) l3 h3,Option.bind_some]
      ·by_cases k3:a.Snaps=b.Snaps
       ·rw [if_pos k3];simp [k1,k2,k3]
       ·rw [if_neg k3];simp [k3]
      ·intro n i hi
       show v4 _ _ _ _ _=_
       unfold v4
       rw [yH (by omega),cond_false]
      ·intro n i x y r r2 hx hy hi
       show v4 _ _ _ _ _=_
       unfold v4
       rw [yK (by omega),cond_true,yX hx,Option.bind_some,yX hy,Option.bind_some,wI (by omega)]
       by_cases he:x=y
       ·rw [if_pos he,yK he];rfl
       ·rw [if_neg he,yH he];rfl
     ·rw [if_neg k2];simp [k2]
    ·intro n i hi
     show v8 _ _ _ _ _=_
     unfold v8
     rw [yH (by omega),cond_false]
    ·intro n i x y r r2 hx hy hi
     show v8 _ _ _ _ _=_
     unfold v8
     rw [yK (by omega),cond_true,yX hx,Option.bind_some,yX hy,Option.bind_some,wI (by omega)]
     by_cases he:x=y
     ·rw [if_pos he,yK he];rfl
     ·rw [if_neg he,yH he];rfl
   ·rw [if_neg k1];simp [k1]
  ·intro n i hi
   show v5 _ _ _ _ _=_
   unfold v5
   rw [yH (by omega),cond_false]
  ·intro n i x y r r2 hx hy hi
   show v5 _ _ _ _ _=_
   unfold v5
   rw [yK (by omega),cond_true,yX hx,Option.bind_some,yX hy,Option.bind_some,wI (by omega)]
   by_cases he:x=y
   ·rw [if_pos he,yK he];rfl
   ·rw [if_neg he,yH he];rfl
 ·rw [show ((((a.Threads.length:Nat):Int) != ((b.Threads.length:Nat):Int))||((((a.Domains.length:Nat):Int) != ((b.Domains.length:Nat):Int))||(((a.Snaps.length:Nat):Int) != ((b.Snaps.length:Nat):Int))))=true by simp;omega]
  rw [yH (fun e=>hl ⟨by rw [e.1],by rw [e.2.1],by rw [e.2.2]⟩)];rfl
theorem zKo {a b:zQ} (h:zL8 a):zCI 200000 a b=some (decide (a=b)):=by
 obtain ⟨h1,h2,h3,h4⟩:=h
 unfold zCI
 rw [zGl h1 h2 h3,zEZ h4]
 simp only [Option.bind_some,zLd a b]
 by_cases k1:a.Head.Threads=b.Head.Threads∧a.Head.Domains=b.Head.Domains∧a.Head.Snaps=b.Head.Snaps
 ·simp [k1]
 ·rw [yH k1]
  simp only [cond_false,Option.bind_some]
  rw [yH (fun e=>k1 ⟨e.1,e.2.1,e.2.2.1⟩)]
end Go.Ab
