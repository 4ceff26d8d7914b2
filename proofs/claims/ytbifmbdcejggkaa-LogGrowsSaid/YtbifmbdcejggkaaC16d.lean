/- What Of and Same compute, on both sides. No conditions but the bounds on lengths that the theorems name. -/
import Derived.Test.YtbifmbdcejggkaaC16c
namespace Go.Ab
open Go
set_option linter.unusedVariables false

def zCg:z9:=⟨⟨[],[],[]⟩,[]⟩
def vM (h:zS) (l:List zB):List zB:=h.Threads.flatMap fun t=>xL t.Id l
def zBT (h:zS) (l:List zB):z9×Int :=
  if zBo h≠0 then (zCg,zBo h) else if zAl h l≠0 then (zCg,zAl h l) else (⟨h,vM h l⟩,0)

theorem zBZ {h:zS} {l:List zB} {i:Nat} {p:zB}:kP h l i p=none↔u5 p=0∧p.Thread∈v8 h∧uF (l.take i) p=true:=by
  unfold kP
  by_cases h1:u5 p≠0
  · rw [if_pos h1];exact ⟨fun h=>by (cases h),fun h=>absurd h.1 h1⟩
  · rw [if_neg h1]
    by_cases h2:p.Thread∉v8 h
    · rw [if_pos h2];exact ⟨fun h=>by (cases h),fun h=>absurd h.2.1 h2⟩
    · rw [if_neg h2]
      cases h3:uF (l.take i) p
      · simp
      · simp only [Bool.true_eq_false,if_false]
        exact ⟨fun _=>⟨by omega,by simpa using h2,trivial⟩,fun _=>trivial⟩
/-- The packets of a log whose head is valid. -/
structure zBd (h:zS) (l:List zB):Prop where
  passed:vV l
  known:∀ p∈l,p.Thread∈v8 h
  few:evN l≤20000
theorem zMU {h:zS} {l:List zB}:∀ (i:Nat) (m:List zB) (q:Int),xW (kP h l) i m=.inr q→q≠0:=by
  intro i m
  induction m generalizing i with
  | nil=>intro q h;cases h
  | cons a r ih =>
    intro q hq
    simp only [xW] at hq
    cases hf:kP h l i a with
    | none=>rw [hf] at hq;exact ih _ _ hq
    | some b =>
      rw [hf] at hq;injection hq with hq;subst hq
      unfold kP at hf
      split at hf
      · injection hf with hf;omega
      · split at hf
        · injection hf with hf;omega
        · split at hf
          · injection hf with hf;omega
          · cases hf
theorem zDS {h:zS} {l:List zB}:zAl h l=0↔zBd h l:=by
  unfold zAl
  constructor
  · intro hc
    cases hb:xW (kP h l) 0 l with
    | inr q=>rw [hb] at hc;exact absurd hc (zMU _ _ _ hb)
    | inl u =>
      rw [hb] at hc
      have hn:=zDe hb
      simp only [Nat.zero_add] at hn
      refine ⟨fun i p hi=>?_,fun p hp=>?_,?_⟩
      · have:=zBZ.1 (hn i p hi);exact ⟨this.1,this.2.2⟩
      · obtain ⟨i,hi⟩:=List.mem_iff_getElem?.1 hp
        exact (zBZ.1 (hn i p hi)).2.1
      · simp only at hc
        split at hc<;>omega
  · intro hg
    rw [zIC (f:=kP h l) (i:=0) (l:=l) fun i p hi=>by
      rw [Nat.zero_add]
      exact zBZ.2 ⟨(hg.passed i p hi).1,hg.known p (List.mem_of_getElem? hi),(hg.passed i p hi).2⟩]
    simp only
    rw [if_neg (by have:=hg.few;omega)]

theorem zIq {l:List zB} (hl:l.length≤100000) (hN:evN l≤100000) (hP:vV l):∀ (n i:Nat) (row:List (Int×List zB)),row.length≤i→(∀ k,(yA row k).getD []=xL k (l.take i))→(l.drop i).length<n →
    ∃ row',j4 281474976710656 l n (i:Nat) row=some row'∧∀ k,(yA row' k).getD []=xL k l:=by
  intro n
  induction n with
  | zero=>intro i row _ _ h;omega
  | succ n ih =>
    intro i row hlen hg hn
    have hu:j4 281474976710656 l (n+1) (i:Nat) row=jU 281474976710656 l (j4 281474976710656 l n) (i:Nat) row:=rfl
    rw [hu]
    unfold jU
    rcases hd:l.drop i with _ | ⟨x,r⟩
    · have:=qB hd
      rw [y1 (by omega),cond_false]
      exact ⟨row,rfl,fun k=>by rw [hg,List.take_of_length_le this]⟩
    · have hi:=qW hd
      rw [hd] at hn
      simp only [List.length_cons] at hn
      have hPx:vV (l.take i++[x]):=by rw [← jC hd];exact hP.take _
      have hfit:=zJL hPx
      have hz:=tU hPx.snoc.2.1
      have hb:=(zC4 x.Thread (l.take i) (hP.take i)).1
      have hle:=zCY l i
      obtain ⟨e1,e2,e3⟩:=zGI hfit hz.2.2.2.1
      rw [y7 (by omega),cond_true,wK hd,Option.bind_some,hg]
      have hown:(bif (decide (x.Lost>(0:Int))||((((xL x.Thread (l.take i)).length:Nat):Int)==(0:Int))) then (need (((xL x.Thread (l.take i)).length+1) * 48≤140737488355328)).bind fun _=>some (xL x.Thread (l.take i)++[(⟨x.Thread,x.Serial,x.Lost,[]⟩:zB)]) else some (xL x.Thread (l.take i)))=some (qP (xL x.Thread (l.take i)) x):=by
        unfold qP
        by_cases hc:x.Lost>0∨(xL x.Thread (l.take i)).length=0
        · rw [if_pos hc,tA (by omega)]
          rw [show (decide (x.Lost>(0:Int))||((((xL x.Thread (l.take i)).length:Nat):Int)==(0:Int)))=true by
            rcases hc with hc | hc
            · rw [y7 hc];rfl
            · rw [uX (show (((xL x.Thread (l.take i)).length:Nat):Int)=0 by omega)];simp]
          rfl
        · rw [if_neg hc]
          rw [show (decide (x.Lost>(0:Int))||((((xL x.Thread (l.take i)).length:Nat):Int)==(0:Int)))=false by
            rw [y1 (fun h=>hc (.inl h)),kQ (show (((xL x.Thread (l.take i)).length:Nat):Int)≠0 from fun h=>hc (.inr (by omega)))];rfl]
          rfl
      rw [hown,Option.bind_some,zIS e2 e1.len e1.low (by have:=e1.serial;omega) (by omega) (by omega),Option.bind_some,tA (by omega),Option.bind_some,uM (by omega)]
      refine ih (i+1) _ (by have:=zC9 row x.Thread (List.foldl fE (qP (xL x.Thread (l.take i)) x) x.Events);omega) ?_ (by rw [vY hd];omega)
      intro k
      rw [zCd,jC hd,uP]
      unfold kR
      by_cases hk:x.Thread=k
      · subst hk;rw [if_pos rfl,if_pos rfl];rfl
      · rw [if_neg hk,if_neg hk,hg]
theorem zLb {h:zS} {i:Nat} {x:zQ} {r:List zQ} (f:zQ→List zB) (hd:h.Threads.drop i=x::r):(h.Threads.take (i+1)).flatMap f=(h.Threads.take i).flatMap f++f x:=by
  rw [jC hd,List.flatMap_append];simp
theorem zIy {h:zS} {o:List (Int×List zB)} {f:Int→List zB} (hl:h.Threads.length≤100000) (ho:∀ k,(yA o k).getD []=f k) (hf:∀ k,(f k).length≤300000):∀ (n i:Nat) (row:List zB),row=(h.Threads.take i).flatMap (fun t=>f t.Id)→row.length≤i * 300000→(h.Threads.drop i).length<n →
    nS 281474976710656 h o n (i:Nat) row=some (h.Threads.flatMap fun t=>f t.Id):=by
  intro n
  induction n with
  | zero=>intro i row _ _ h;omega
  | succ n ih =>
    intro i row hr hlen hn
    show jP _ _ _ _ _ _=_
    unfold jP
    rcases hd:h.Threads.drop i with _ | ⟨x,r⟩
    · have:=qB hd
      rw [y1 (by omega),cond_false,hr,List.take_of_length_le this]
    · have hi:=qW hd
      rw [hd] at hn
      simp only [List.length_cons] at hn
      have:=hf x.Id
      rw [y7 (by omega),cond_true,wK hd,Option.bind_some,ho,tA (by omega),Option.bind_some,uM (by omega)]
      exact ih (i+1) _ (by rw [zLb _ hd,hr]) (by rw [List.length_append];omega) (by rw [vY hd];omega)
theorem zDK {h:zS} {l:List zB} (ht:h.Threads.length≤100000) (hd:h.Domains.length≤100000) (hs:h.Snaps.length≤100000) (hl:l.length≤100000) (hN:evN l≤100000):kT 281474976710656 h l=some (zBT h l):=by
  unfold kT zBT
  rw [zH0 ht hd hs,Option.bind_some]
  by_cases h1:zBo h≠0
  · rw [if_pos h1,jJ h1];rfl
  rw [if_neg h1,kB (by omega),cond_false,zH9 hl hN ht,Option.bind_some]
  by_cases h2:zAl h l≠0
  · rw [if_pos h2,jJ h2];rfl
  have h2:zAl h l=0:=by omega
  have hg:=zDS.1 h2
  rw [if_neg (by omega),kB h2,cond_false]
  obtain ⟨row,r1,r2⟩:=zIq hl hN hg.passed 281474976710656 0 [] (by simp) (fun k=>by simp [yA,xL]) (by simp;omega)
  rw [show j4 281474976710656 l 281474976710656 (0:Int) []=_ from r1,Option.bind_some]
  have:=zIy (h:=h) (f:=fun k=>xL k l) ht r2 (fun k=>by have:=(zC4 k l hg.passed).1;omega) 281474976710656 0 [] (by simp) (by simp) (by simp;omega)
  rw [show nS 281474976710656 h row 281474976710656 (0:Int) []=_ from this];rfl

/-! Equality of logs. -/
def zIJ (l:List zB):Prop:=l.length≤140737488355328∧∀ p∈l,p.Events.length≤140737488355328∧∀ e∈p.Events,e.Stack.length≤140737488355328
theorem zLY {a b:List zQ} (ha:a.length≤140737488355328):xV 281474976710656 a b=some (decide (a=b)):=by
  unfold xV
  by_cases hab:a.length=b.length
  · rw [kB (by omega),cond_false,pN (a:=a) (b:=b) (fun n i=>xN 281474976710656 a b n i) hab ha]
    · rw [Option.bind_some]
      by_cases he:a=b
      · rw [if_pos he,y7 he]
      · rw [if_neg he,y1 he]
    · intro n i hi
      show yW _ _ _ _ _=_
      unfold yW
      rw [y1 (by omega),cond_false]
    · intro n i x y r r2 hx hy hi
      show yW _ _ _ _ _=_
      unfold yW
      rw [y7 (by omega),cond_true,wK hx,Option.bind_some,wK hy,Option.bind_some,uM (by omega)]
      by_cases he:x=y
      · rw [if_pos he,y7 he];rfl
      · rw [if_neg he,y1 he];rfl
  · rw [jJ (by omega),y1 (fun e=>hab (by rw [e]))];rfl
theorem zL7 {a b:List zM} (ha:a.length≤140737488355328):xU 281474976710656 a b=some (decide (a=b)):=by
  unfold xU
  by_cases hab:a.length=b.length
  · rw [kB (by omega),cond_false,pN (a:=a) (b:=b) (fun n i=>xM 281474976710656 a b n i) hab ha]
    · rw [Option.bind_some]
      by_cases he:a=b
      · rw [if_pos he,y7 he]
      · rw [if_neg he,y1 he]
    · intro n i hi
      show yX _ _ _ _ _=_
      unfold yX
      rw [y1 (by omega),cond_false]
    · intro n i x y r r2 hx hy hi
      show yX _ _ _ _ _=_
      unfold yX
      rw [y7 (by omega),cond_true,wK hx,Option.bind_some,wK hy,Option.bind_some,uM (by omega)]
      by_cases he:x=y
      · rw [if_pos he,y7 he];rfl
      · rw [if_neg he,y1 he];rfl
  · rw [jJ (by omega),y1 (fun e=>hab (by rw [e]))];rfl
theorem zLD {a b:List yC} (ha:a.length≤140737488355328):x5 281474976710656 a b=some (decide (a=b)):=by
  unfold x5
  by_cases hab:a.length=b.length
  · rw [kB (by omega),cond_false,pN (a:=a) (b:=b) (fun n i=>xX 281474976710656 a b n i) hab ha]
    · rw [Option.bind_some]
      by_cases he:a=b
      · rw [if_pos he,y7 he]
      · rw [if_neg he,y1 he]
    · intro n i hi
      show y4 _ _ _ _ _=_
      unfold y4
      rw [y1 (by omega),cond_false]
    · intro n i x y r r2 hx hy hi
      show y4 _ _ _ _ _=_
      unfold y4
      rw [y7 (by omega),cond_true,wK hx,Option.bind_some,wK hy,Option.bind_some,uM (by omega)]
      by_cases he:x=y
      · rw [if_pos he,y7 he];rfl
      · rw [if_neg he,y1 he];rfl
  · rw [jJ (by omega),y1 (fun e=>hab (by rw [e]))];rfl
theorem zLA {a b:List zB} (ha:zIJ a):yJ 281474976710656 a b=some (decide (a=b)):=by
  unfold yJ
  by_cases hab:a.length=b.length
  · rw [kB (by omega),cond_false,pN (a:=a) (b:=b) (fun n i=>yF 281474976710656 a b n i) hab ha.1]
    · rw [Option.bind_some]
      by_cases he:a=b
      · rw [if_pos he,y7 he]
      · rw [if_neg he,y1 he]
    · intro n i hi
      show z0 _ _ _ _ _=_
      unfold z0
      rw [y1 (by omega),cond_false]
    · intro n i x y r r2 hx hy hi
      show z0 _ _ _ _ _=_
      unfold z0 zBi
      have hm:=ha.2 x (zCT hx)
      have hl:=ha.1
      rw [y7 (by omega),cond_true,wK hx,Option.bind_some,wK hy,Option.bind_some,uM (by omega),zF2 hm.1 hm.2,Option.bind_some,Option.bind_some]
      by_cases he:x=y
      · rw [if_pos he,y7 he];rfl
      · rw [if_neg he,y1 he];rfl
  · rw [jJ (by omega),y1 (fun e=>hab (by rw [e]))];rfl
def zMq (a:z9):Prop:=a.Head.Threads.length≤140737488355328∧a.Head.Domains.length≤140737488355328∧a.Head.Snaps.length≤140737488355328∧zIJ a.Parts
theorem zMA (a b:z9):a=b↔a.Head.Threads=b.Head.Threads∧a.Head.Domains=b.Head.Domains∧a.Head.Snaps=b.Head.Snaps∧a.Parts=b.Parts:=by
  obtain ⟨⟨a1,a2,a3⟩,a4⟩:=a
  obtain ⟨⟨b1,b2,b3⟩,b4⟩:=b
  simp [and_assoc]
theorem zIM {a b:z9} (h:zMq a):zAz 281474976710656 a b=some (decide (a=b)):=by
  obtain ⟨h1,h2,h3,h4⟩:=h
  unfold zAz
  rw [zLY h1,zL7 h2,zLD h3,zLA h4]
  simp only [Option.bind_some,zMA a b]
  by_cases k1:a.Head.Threads=b.Head.Threads
  · by_cases k2:a.Head.Domains=b.Head.Domains
    · by_cases k3:a.Head.Snaps=b.Head.Snaps
      · simp [k1,k2,k3]
      · simp [k1,k2,k3]
    · simp [k1,k2]
  · simp [k1]
end Go.Ab
