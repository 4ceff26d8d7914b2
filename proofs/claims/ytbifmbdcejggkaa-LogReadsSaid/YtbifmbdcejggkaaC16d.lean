/- What Of and Same compute, on both sides. No conditions but the bounds on lengths that the theorems name. -/
import Derived.Test.YtbifmbdcejggkaaC16c
namespace Go.Ab
open Go
set_option linter.unusedVariables false
def zDf:zM:=⟨⟨[],[],[]⟩,[]⟩
def nN (h:zL) (l:List zB):List zB:=h.Threads.flatMap fun t=>wX t.Id l
def zAc (h:zL) (l:List zB):zM×Int :=
 if zAF h≠0 then (zDf,zAF h) else if zBW h l≠0 then (zDf,zBW h l) else (⟨h,nN h l⟩,0)
theorem zFr {h:zL} {l:List zB} {i:Nat} {p:zB}:zBy h l i p=none↔uK p=0∧p.Thread∈jA h∧t0 (l.take i) p=true:=by
 unfold zBy
 by_cases h1:uK p≠0
 ·rw [if_pos h1];exact ⟨fun h=>by (cases h),fun h=>absurd h.1 h1⟩
 ·rw [if_neg h1]
  by_cases h2:p.Thread∉jA h
  ·rw [if_pos h2];exact ⟨fun h=>by (cases h),fun h=>absurd h.2.1 h2⟩
  ·rw [if_neg h2]
   cases h3:t0 (l.take i) p
   ·simp
   ·simp only [Bool.true_eq_false,if_false]
    exact ⟨fun _=>⟨by omega,by simpa using h2,trivial⟩,fun _=>trivial⟩
structure zOH (h:zL) (l:List zB):Prop where
 passed:jP l
 known:∀ p∈l,p.Thread∈jA h
 few:evN l≤20000
theorem zLL {h:zL} {l:List zB}:∀ (i:Nat) (m:List zB) (q:Int),xL (zBy h l) i m=.inr q→q≠0:=by
 intro i m
 induction m generalizing i with
 | nil=>intro q h;cases h
 | cons a r ih =>
  intro q hq
  simp only [xL] at hq
  cases hf:zBy h l i a with
  | none=>rw [hf] at hq;exact ih _ _ hq
  | some b =>
   rw [hf] at hq;injection hq with hq;subst hq
   unfold zBy at hf
   split at hf
   ·injection hf with hf;omega
   ·split at hf
    ·injection hf with hf;omega
    ·split at hf
     ·injection hf with hf;omega
     ·cases hf
theorem zDG {h:zL} {l:List zB}:zBW h l=0↔zOH h l:=by
 unfold zBW
 constructor
 ·intro hc
  cases hb:xL (zBy h l) 0 l with
  | inr q=>rw [hb] at hc;exact absurd hc (zLL _ _ _ hb)
  | inl u =>
   rw [hb] at hc
   have hn:=zE1 hb
   simp only [Nat.zero_add] at hn
   refine ⟨fun i p hi=>?_,fun p hp=>?_,?_⟩
   ·have:=zFr.1 (hn i p hi);exact ⟨this.1,this.2.2⟩
   ·obtain ⟨i,hi⟩:=List.mem_iff_getElem?.1 hp
    exact (zFr.1 (hn i p hi)).2.1
   ·simp only at hc
    split at hc<;>omega
 ·intro hg
  rw [zDc (f:=zBy h l) (i:=0) (l:=l) fun i p hi=>by
   rw [Nat.zero_add]
   exact zFr.2 ⟨(hg.passed i p hi).1,hg.known p (List.mem_of_getElem? hi),(hg.passed i p hi).2⟩]
  simp only
  rw [if_neg (by have:=hg.few;omega)]
theorem zKq {l:List zB} (hl:l.length≤100000) (hN:evN l≤100000) (hP:jP l):∀ (n i:Nat) (row:List (Int×List zB)),row.length≤i→(∀ k,(yO row k).getD []=wX k (l.take i))→(l.drop i).length<n →
  ∃ row',pZ 281474976710656 l n (i:Nat) row=some row'∧∀ k,(yO row' k).getD []=wX k l:=by
 intro n
 induction n with
 | zero=>intro i row _ _ h;omega
 | succ n ih =>
  intro i row hlen hg hn
  have hu:pZ 281474976710656 l (n+1) (i:Nat) row=pF 281474976710656 l (pZ 281474976710656 l n) (i:Nat) row:=rfl
  rw [hu]
  unfold pF
  rcases hd:l.drop i with _ | ⟨x,r⟩
  ·have:=uA hd
   rw [yN (by omega),cond_false]
   exact ⟨row,rfl,fun k=>by rw [hg,List.take_of_length_le this]⟩
  ·have hi:=uS hd
   rw [hd] at hn
   simp only [List.length_cons] at hn
   have hPx:jP (l.take i++[x]):=by rw [← uU hd];exact hP.take _
   have hfit:=zG4 hPx
   have hz:=vX hPx.snoc.2.1
   have hb:=(zBH x.Thread (l.take i) (hP.take i)).1
   have hle:=zBc l i
   obtain ⟨e1,e2,e3⟩:=zDA hfit hz.2.2.2.1
   rw [yP (by omega),cond_true,y1 hd,Option.bind_some,hg]
   have hown:(bif (decide (x.Lost>(0:Int))||((((wX x.Thread (l.take i)).length:Nat):Int)==(0:Int))) then (need (((wX x.Thread (l.take i)).length+1) * 48≤140737488355328)).bind fun _=>some (wX x.Thread (l.take i)++[(⟨x.Thread,x.Serial,x.Lost,[]⟩:zB)]) else some (wX x.Thread (l.take i)))=some (nC (wX x.Thread (l.take i)) x):=by
    unfold nC
    by_cases hc:x.Lost>0∨(wX x.Thread (l.take i)).length=0
    ·rw [if_pos hc,uX (by omega)]
     rw [show (decide (x.Lost>(0:Int))||((((wX x.Thread (l.take i)).length:Nat):Int)==(0:Int)))=true by
      rcases hc with hc | hc
      ·rw [yP hc];rfl
      ·rw [vP (show (((wX x.Thread (l.take i)).length:Nat):Int)=0 by omega)];simp]
     rfl
    ·rw [if_neg hc]
     rw [show (decide (x.Lost>(0:Int))||((((wX x.Thread (l.take i)).length:Nat):Int)==(0:Int)))=false by
      rw [yN (fun h=>hc (.inl h)),tM (show (((wX x.Thread (l.take i)).length:Nat):Int)≠0 from fun h=>hc (.inr (by omega)))];rfl]
     rfl
   rw [hown,Option.bind_some,zLn e2 e1.len e1.low (by have:=e1.serial;omega) (by omega) (by omega),Option.bind_some,uX (by omega),Option.bind_some,wE (by omega)]
   refine ih (i+1) _ (by have:=zEC row x.Thread (List.foldl fE (nC (wX x.Thread (l.take i)) x) x.Events);omega) ?_ (by rw [wT hd];omega)
   intro k
   rw [zDD,uU hd,zAM]
   unfold zEq
   by_cases hk:x.Thread=k
   ·subst hk;rw [if_pos rfl,if_pos rfl];rfl
   ·rw [if_neg hk,if_neg hk,hg]
theorem zIY {h:zL} {i:Nat} {x:z0} {r:List z0} (f:z0→List zB) (hd:h.Threads.drop i=x::r):(h.Threads.take (i+1)).flatMap f=(h.Threads.take i).flatMap f++f x:=by
 rw [uU hd,List.flatMap_append];simp
theorem zKh {h:zL} {o:List (Int×List zB)} {f:Int→List zB} (hl:h.Threads.length≤100000) (ho:∀ k,(yO o k).getD []=f k) (hf:∀ k,(f k).length≤300000):∀ (n i:Nat) (row:List zB),row=(h.Threads.take i).flatMap (fun t=>f t.Id)→row.length≤i * 300000→(h.Threads.drop i).length<n →
  zBr 281474976710656 h o n (i:Nat) row=some (h.Threads.flatMap fun t=>f t.Id):=by
 intro n
 induction n with
 | zero=>intro i row _ _ h;omega
 | succ n ih =>
  intro i row hr hlen hn
  show pP _ _ _ _ _ _=_
  unfold pP
  rcases hd:h.Threads.drop i with _ | ⟨x,r⟩
  ·have:=uA hd
   rw [yN (by omega),cond_false,hr,List.take_of_length_le this]
  ·have hi:=uS hd
   rw [hd] at hn
   simp only [List.length_cons] at hn
   have:=hf x.Id
   rw [yP (by omega),cond_true,y1 hd,Option.bind_some,ho,uX (by omega),Option.bind_some,wE (by omega)]
   exact ih (i+1) _ (by rw [zIY _ hd,hr]) (by rw [List.length_append];omega) (by rw [wT hd];omega)
theorem zNy {h:zL} {l:List zB} (ht:h.Threads.length≤100000) (hd:h.Domains.length≤100000) (hs:h.Snaps.length≤100000) (hl:l.length≤100000) (hN:evN l≤100000):zCF 281474976710656 h l=some (zAc h l):=by
 unfold zCF zAc
 rw [zJQ ht hd hs,Option.bind_some]
 by_cases h1:zAF h≠0
 ·rw [if_pos h1,vS h1];rfl
 rw [if_neg h1,vY (by omega),cond_false,zKk hl hN ht,Option.bind_some]
 by_cases h2:zBW h l≠0
 ·rw [if_pos h2,vS h2];rfl
 have h2:zBW h l=0:=by omega
 have hg:=zDG.1 h2
 rw [if_neg (by omega),vY h2,cond_false]
 obtain ⟨row,r1,r2⟩:=zKq hl hN hg.passed 281474976710656 0 [] (by simp) (fun k=>by simp [yO,wX]) (by simp;omega)
 rw [show pZ 281474976710656 l 281474976710656 (0:Int) []=_ from r1,Option.bind_some]
 have:=zKh (h:=h) (f:=fun k=>wX k l) ht r2 (fun k=>by have:=(zBH k l hg.passed).1;omega) 281474976710656 0 [] (by simp) (by simp) (by simp;omega)
 rw [show zBr 281474976710656 h row 281474976710656 (0:Int) []=_ from this];rfl
theorem zJ7 {h:zL} {l:List zB} (ht:h.Threads.length≤100000) (hl:l.length≤100000) (hN:evN l≤100000):∀ (n i:Nat),q8 (l.take i)→(l.drop i).length<n →
  zBk 281474976710656 h l n (i:Nat)=some (match xL (zBy h l) i (l.drop i) with | .inr q=>.inr (zDf,q) | .inl _=>.inl ()):=by
 intro n
 induction n with
 | zero=>intro i _ h;omega
 | succ n ih =>
  intro i hv hn
  show pJ _ _ _ _ _=_
  unfold pJ
  rcases hd:l.drop i with _ | ⟨x,r⟩
  ·have:=uA hd
   rw [yN (by omega),cond_false];rfl
  ·have hi:=uS hd
   rw [hd] at hn
   simp only [List.length_cons] at hn
   have hle:=zB0 (jH hd)
   have hlt:=zBc l i
   rw [yP (by omega),cond_true]
   simp only [y1 hd,Option.bind_some,zKn (show x.Events.length≤100000 by omega),zEZ,zKj ht]
   rw [show zBy h l i x=if uK x≠0 then some (uK x) else if x.Thread∉jA h then some 5 else if t0 (l.take i) x=false then some 11 else none from rfl]
   by_cases h1:uK x≠0
   ·rw [if_pos h1,vS h1];rfl
   have h1:uK x=0:=by omega
   rw [if_neg (by omega),vY h1,cond_false]
   by_cases h2:x.Thread∈jA h
   ·rw [if_neg (by simpa using h2),yP h2,uX (by omega),Option.bind_some,zKS,zIw (by rw [List.length_take];omega) (by omega) hv h1,Option.bind_some,wE (by omega)]
    cases h3:t0 (l.take i) x
    ·rfl
    ·have hv':q8 (l.take (i+1)):=by
      rw [uU hd]
      intro p hp
      rcases List.mem_append.1 hp with hp | hp
      ·exact hv p hp
      ·rw [List.mem_singleton.1 hp];exact h1
     simp only [Bool.not_true,cond_false,Bool.true_eq_false,if_false]
     rw [ih (i+1) hv' (by rw [wT hd];omega),wT hd]
   ·rw [if_pos h2,yN h2];rfl
theorem zKs {h:zL} {l:List zB} (ht:h.Threads.length≤100000) (hl:l.length≤100000) (hN:evN l≤100000) (hP:jP l):∀ (n i:Nat) (row:List zB),row=(h.Threads.take i).flatMap (fun t=>wX t.Id l)→row.length≤i * 300000→(h.Threads.drop i).length<n →
  zBo 281474976710656 h l n (i:Nat) row=some (nN h l):=by
 intro n
 induction n with
 | zero=>intro i row _ _ h;omega
 | succ n ih =>
  intro i row hr hlen hn
  show pO _ _ _ _ _ _=_
  unfold pO
  rcases hd:h.Threads.drop i with _ | ⟨x,r⟩
  ·have:=uA hd
   rw [yN (by omega),cond_false,hr,List.take_of_length_le this];rfl
  ·have hi:=uS hd
   rw [hd] at hn
   simp only [List.length_cons] at hn
   have:=(zBH x.Id l hP).1
   rw [yP (by omega),cond_true,y1 hd,Option.bind_some,zJG hl hN hP,Option.bind_some,uX (by omega),Option.bind_some,wE (by omega)]
   exact ih (i+1) _ (by rw [zIY _ hd,hr]) (by rw [List.length_append];omega) (by rw [wT hd];omega)
theorem zNm {h:zL} {l:List zB} (ht:h.Threads.length≤100000) (hd:h.Domains.length≤100000) (hs:h.Snaps.length≤100000) (hl:l.length≤100000) (hN:evN l≤100000):zFy 281474976710656 h l=some (zAc h l):=by
 unfold zFy zAc
 rw [zLw ht hd hs,Option.bind_some]
 by_cases h1:zAF h≠0
 ·rw [if_pos h1,vS h1];rfl
 rw [if_neg h1,vY (by omega),cond_false]
 have h0:=zJ7 (h:=h) ht hl hN 281474976710656 0 (fun p hp=>by simp at hp) (by simp;omega)
 rw [show zBk 281474976710656 h l 281474976710656 (0:Int)=_ from h0,Option.bind_some,List.drop_zero]
 cases hb:xL (zBy h l) 0 l with
 | inr q =>
  have hc:zBW h l=q:=by unfold zBW;rw [hb]
  rw [hc,if_pos (zLL _ _ _ hb)]
 | inl u =>
  simp only
  rw [zI5 hl hN,Option.bind_some]
  have hc:zBW h l=if evN l>20000 then 7 else 0:=by unfold zBW;rw [hb]
  by_cases h3:evN l>20000
  ·rw [if_pos h3] at hc
   rw [yP (by omega),hc,if_pos (by omega)];rfl
  ·rw [if_neg h3] at hc
   have hg:=zDG.1 hc
   rw [yN (by omega),hc,if_neg (by omega),cond_false]
   have:=zKs ht hl hN hg.passed 281474976710656 0 [] (by simp) (by simp) (by simp;omega)
   rw [show zBo 281474976710656 h l 281474976710656 (0:Int) []=_ from this];rfl
/-! Equality of logs. -/
def zIg (l:List zB):Prop:=l.length≤140737488355328∧∀ p∈l,p.Events.length≤140737488355328∧∀ e∈p.Events,e.Stack.length≤140737488355328
theorem zOU {a b:List z0} (ha:a.length≤140737488355328):wC 281474976710656 a b=some (decide (a=b)):=by
 unfold wC
 by_cases hab:a.length=b.length
 ·rw [vY (by omega),cond_false,u0 (a:=a) (b:=b) (fun n i=>x6 281474976710656 a b n i) hab ha]
  ·rw [Option.bind_some]
   by_cases he:a=b
   ·rw [if_pos he,yP he]
   ·rw [if_neg he,yN he]
  ·intro n i hi
   show y8 _ _ _ _ _=_
   unfold y8
   rw [yN (by omega),cond_false]
  ·intro n i x y r r2 hx hy hi
   show y8 _ _ _ _ _=_
   unfold y8
   rw [yP (by omega),cond_true,y1 hx,Option.bind_some,y1 hy,Option.bind_some,wE (by omega)]
   by_cases he:x=y
   ·rw [if_pos he,yP he];rfl
   ·rw [if_neg he,yN he];rfl
 ·rw [vS (by omega),yN (fun e=>hab (by rw [e]))];rfl
theorem zOx {a b:List zU} (ha:a.length≤140737488355328):wB 281474976710656 a b=some (decide (a=b)):=by
 unfold wB
 by_cases hab:a.length=b.length
 ·rw [vY (by omega),cond_false,u0 (a:=a) (b:=b) (fun n i=>x7 281474976710656 a b n i) hab ha]
  ·rw [Option.bind_some]
   by_cases he:a=b
   ·rw [if_pos he,yP he]
   ·rw [if_neg he,yN he]
  ·intro n i hi
   show y7 _ _ _ _ _=_
   unfold y7
   rw [yN (by omega),cond_false]
  ·intro n i x y r r2 hx hy hi
   show y7 _ _ _ _ _=_
   unfold y7
   rw [yP (by omega),cond_true,y1 hx,Option.bind_some,y1 hy,Option.bind_some,wE (by omega)]
   by_cases he:x=y
   ·rw [if_pos he,yP he];rfl
   ·rw [if_neg he,yN he];rfl
 ·rw [vS (by omega),yN (fun e=>hab (by rw [e]))];rfl
theorem zO1 {a b:List xR} (ha:a.length≤140737488355328):wG 281474976710656 a b=some (decide (a=b)):=by
 unfold wG
 by_cases hab:a.length=b.length
 ·rw [vY (by omega),cond_false,u0 (a:=a) (b:=b) (fun n i=>wD 281474976710656 a b n i) hab ha]
  ·rw [Option.bind_some]
   by_cases he:a=b
   ·rw [if_pos he,yP he]
   ·rw [if_neg he,yN he]
  ·intro n i hi
   show xH _ _ _ _ _=_
   unfold xH
   rw [yN (by omega),cond_false]
  ·intro n i x y r r2 hx hy hi
   show xH _ _ _ _ _=_
   unfold xH
   rw [yP (by omega),cond_true,y1 hx,Option.bind_some,y1 hy,Option.bind_some,wE (by omega)]
   by_cases he:x=y
   ·rw [if_pos he,yP he];rfl
   ·rw [if_neg he,yN he];rfl
 ·rw [vS (by omega),yN (fun e=>hab (by rw [e]))];rfl
theorem zOC {a b:List zB} (ha:zIg a):yX 281474976710656 a b=some (decide (a=b)):=by
 unfold yX
 by_cases hab:a.length=b.length
 ·rw [vY (by omega),cond_false,u0 (a:=a) (b:=b) (fun n i=>yV 281474976710656 a b n i) hab ha.1]
  ·rw [Option.bind_some]
   by_cases he:a=b
   ·rw [if_pos he,yP he]
   ·rw [if_neg he,yN he]
  ·intro n i hi
   show yJ _ _ _ _ _=_
   unfold yJ
   rw [yN (by omega),cond_false]
  ·intro n i x y r r2 hx hy hi
   show yJ _ _ _ _ _=_
   unfold yJ zCP
   have hm:=ha.2 x (jH hx)
   have hl:=ha.1
   rw [yP (by omega),cond_true,y1 hx,Option.bind_some,y1 hy,Option.bind_some,wE (by omega),zIl hm.1 hm.2,Option.bind_some,Option.bind_some]
   by_cases he:x=y
   ·rw [if_pos he,yP he];rfl
   ·rw [if_neg he,yN he];rfl
 ·rw [vS (by omega),yN (fun e=>hab (by rw [e]))];rfl
theorem zFl {a b:List zB} (ha:zIg a):kG 281474976710656 a b=some (decide (a=b)):=by
 unfold kG
 by_cases hab:a.length=b.length
 ·rw [vY (by omega),cond_false,u0 (a:=a) (b:=b) (fun n i=>qW 281474976710656 a b n i) hab ha.1]
  ·rw [Option.bind_some]
   by_cases he:a=b
   ·rw [if_pos he,yP he]
   ·rw [if_neg he,yN he]
  ·intro n i hi
   show vU _ _ _ _ _=_
   unfold vU
   rw [yN (by omega),cond_false]
  ·intro n i x y r r2 hx hy hi
   show vU _ _ _ _ _=_
   unfold vU
   have hm:=ha.2 x (jH hx)
   have hl:=ha.1
   rw [yP (by omega),cond_true,y1 hx,Option.bind_some,y1 hy,Option.bind_some,wE (by omega),zLC hm.1 hm.2,Option.bind_some]
   by_cases he:x=y
   ·rw [if_pos he,yP he];rfl
   ·rw [if_neg he,yN he];rfl
 ·rw [vS (by omega),yN (fun e=>hab (by rw [e]))];rfl
def zJt (a:zM):Prop:=a.Head.Threads.length≤140737488355328∧a.Head.Domains.length≤140737488355328∧a.Head.Snaps.length≤140737488355328∧zIg a.Parts
theorem zLO (a b:zM):a=b↔a.Head.Threads=b.Head.Threads∧a.Head.Domains=b.Head.Domains∧a.Head.Snaps=b.Head.Snaps∧a.Parts=b.Parts:=by
 obtain ⟨⟨a1,a2,a3⟩,a4⟩:=a
 obtain ⟨⟨b1,b2,b3⟩,b4⟩:=b
 simp [and_assoc]
theorem zGr {a b:zM} (h:zJt a):zBV 281474976710656 a b=some (decide (a=b)):=by
 obtain ⟨h1,h2,h3,h4⟩:=h
 unfold zBV
 rw [zOU h1,zOx h2,zO1 h3,zOC h4]
 simp only [Option.bind_some,zLO a b]
 by_cases k1:a.Head.Threads=b.Head.Threads
 ·by_cases k2:a.Head.Domains=b.Head.Domains
  ·by_cases k3:a.Head.Snaps=b.Head.Snaps
   ·simp [k1,k2,k3]
   ·simp [k1,k2,k3]
  ·simp [k1,k2]
 ·simp [k1]
theorem zHH {a b:zL} (h1:a.Threads.length≤140737488355328) (h2:a.Domains.length≤140737488355328) (h3:a.Snaps.length≤140737488355328):zAn 281474976710656 a b=some (decide (a.Threads=b.Threads∧a.Domains=b.Domains∧a.Snaps=b.Snaps)):=by
 unfold zAn
 by_cases hl:a.Threads.length=b.Threads.length∧a.Domains.length=b.Domains.length∧a.Snaps.length=b.Snaps.length
 ·obtain ⟨l1,l2,l3⟩:=hl
  rw [vY (show ((a.Threads.length:Nat):Int)=(b.Threads.length:Nat) by omega),vY (show ((a.Domains.length:Nat):Int)=(b.Domains.length:Nat) by omega),vY (show ((a.Snaps.length:Nat):Int)=(b.Snaps.length:Nat) by omega)]
  simp only [Bool.or_self,cond_false]
  rw [u0 (a:=a.Threads) (b:=b.Threads) (fun n i=>kL 281474976710656 a b n i) l1 h1,Option.bind_some]
  ·by_cases k1:a.Threads=b.Threads
   ·rw [if_pos k1]
    simp only
    rw [u0 (a:=a.Domains) (b:=b.Domains) (fun n i=>kS 281474976710656 a b n i) l2 h2,Option.bind_some]
    ·by_cases k2:a.Domains=b.Domains
     ·rw [if_pos k2]
      simp only
      rw [u0 (a:=a.Snaps) (b:=b.Snaps) (fun n i=>kO 281474976710656 a b n i) l3 h3,Option.bind_some]
      ·by_cases k3:a.Snaps=b.Snaps
       ·rw [if_pos k3];simp [k1,k2,k3]
       ·rw [if_neg k3];simp [k3]
      ·intro n i hi
       show uG _ _ _ _ _=_
       unfold uG
       rw [yN (by omega),cond_false]
      ·intro n i x y r r2 hx hy hi
       show uG _ _ _ _ _=_
       unfold uG
       rw [yP (by omega),cond_true,y1 hx,Option.bind_some,y1 hy,Option.bind_some,wE (by omega)]
       by_cases he:x=y
       ·rw [if_pos he,yP he];rfl
       ·rw [if_neg he,yN he];rfl
     ·rw [if_neg k2];simp [k2]
    ·intro n i hi
     show uM _ _ _ _ _=_
     unfold uM
     rw [yN (by omega),cond_false]
    ·intro n i x y r r2 hx hy hi
     show uM _ _ _ _ _=_
     unfold uM
     rw [yP (by omega),cond_true,y1 hx,Option.bind_some,y1 hy,Option.bind_some,wE (by omega)]
     by_cases he:x=y
     ·rw [if_pos he,yP he];rfl
     ·rw [if_neg he,yN he];rfl
   ·rw [if_neg k1];simp [k1]
  ·intro n i hi
   show uL _ _ _ _ _=_
   unfold uL
   rw [yN (by omega),cond_false]
  ·intro n i x y r r2 hx hy hi
   show uL _ _ _ _ _=_
   unfold uL
   rw [yP (by omega),cond_true,y1 hx,Option.bind_some,y1 hy,Option.bind_some,wE (by omega)]
   by_cases he:x=y
   ·rw [if_pos he,yP he];rfl
   ·rw [if_neg he,yN he];rfl
 ·rw [show ((((a.Threads.length:Nat):Int) != ((b.Threads.length:Nat):Int))||((((a.Domains.length:Nat):Int) != ((b.Domains.length:Nat):Int))||(((a.Snaps.length:Nat):Int) != ((b.Snaps.length:Nat):Int))))=true by simp;omega]
  rw [yN (fun e=>hl ⟨by rw [e.1],by rw [e.2.1],by rw [e.2.2]⟩)];rfl
theorem zGb {a b:zM} (h:zJt a):zBZ 281474976710656 a b=some (decide (a=b)):=by
 obtain ⟨h1,h2,h3,h4⟩:=h
 unfold zBZ
 rw [zHH h1 h2 h3,zFl h4]
 simp only [Option.bind_some,zLO a b]
 by_cases k1:a.Head.Threads=b.Head.Threads∧a.Head.Domains=b.Head.Domains∧a.Head.Snaps=b.Head.Snaps
 ·simp [k1]
 ·rw [yN k1]
  simp only [cond_false,Option.bind_some]
  rw [yN (fun e=>k1 ⟨e.1,e.2.1,e.2.2.1⟩)]
end Go.Ab
