/- What Of and Same compute, on both sides. No conditions but the bounds on lengths that the theorems name. -/
import Derived.Test.YtbifmbdcejggkaaC16c
namespace Go.Ab
open Go
set_option linter.unusedVariables false

def zB4:z8:=⟨⟨[],[],[]⟩,[]⟩
def qE (h:zT) (l:List zB):List zB:=h.Threads.flatMap fun t=>wE t.Id l
def zB1 (h:zT) (l:List zB):z8×Int :=
  if zAw h≠0 then (zB4,zAw h) else if zCF h l≠0 then (zB4,zCF h l) else (⟨h,qE h l⟩,0)

theorem zDg {h:zT} {l:List zB} {i:Nat} {p:zB}:zBh h l i p=none↔vW p=0∧p.Thread∈q5 h∧v9 (l.take i) p=true:=by
  unfold zBh
  by_cases h1:vW p≠0
  · rw [if_pos h1];exact ⟨fun h=>by (cases h),fun h=>absurd h.1 h1⟩
  · rw [if_neg h1]
    by_cases h2:p.Thread∉q5 h
    · rw [if_pos h2];exact ⟨fun h=>by (cases h),fun h=>absurd h.2.1 h2⟩
    · rw [if_neg h2]
      cases h3:v9 (l.take i) p
      · simp
      · simp only [Bool.true_eq_false,if_false]
        exact ⟨fun _=>⟨by omega,by simpa using h2,trivial⟩,fun _=>trivial⟩
/-- The packets of a log whose head is valid. -/
structure zIa (h:zT) (l:List zB):Prop where
  passed:uD l
  known:∀ p∈l,p.Thread∈q5 h
  few:evN l≤20000
theorem zMI {h:zT} {l:List zB}:∀ (i:Nat) (m:List zB) (q:Int),x5 (zBh h l) i m=.inr q→q≠0:=by
  intro i m
  induction m generalizing i with
  | nil=>intro q h;cases h
  | cons a r ih =>
    intro q hq
    simp only [x5] at hq
    cases hf:zBh h l i a with
    | none=>rw [hf] at hq;exact ih _ _ hq
    | some b =>
      rw [hf] at hq;injection hq with hq;subst hq
      unfold zBh at hf
      split at hf
      · injection hf with hf;omega
      · split at hf
        · injection hf with hf;omega
        · split at hf
          · injection hf with hf;omega
          · cases hf
theorem zBJ {h:zT} {l:List zB}:zCF h l=0↔zIa h l:=by
  unfold zCF
  constructor
  · intro hc
    cases hb:x5 (zBh h l) 0 l with
    | inr q=>rw [hb] at hc;exact absurd hc (zMI _ _ _ hb)
    | inl u =>
      rw [hb] at hc
      have hn:=zC2 hb
      simp only [Nat.zero_add] at hn
      refine ⟨fun i p hi=>?_,fun p hp=>?_,?_⟩
      · have:=zDg.1 (hn i p hi);exact ⟨this.1,this.2.2⟩
      · obtain ⟨i,hi⟩:=List.mem_iff_getElem?.1 hp
        exact (zDg.1 (hn i p hi)).2.1
      · simp only at hc
        split at hc<;>omega
  · intro hg
    rw [zHV (f:=zBh h l) (i:=0) (l:=l) fun i p hi=>by
      rw [Nat.zero_add]
      exact zDg.2 ⟨(hg.passed i p hi).1,hg.known p (List.mem_of_getElem? hi),(hg.passed i p hi).2⟩]
    simp only
    rw [if_neg (by have:=hg.few;omega)]

theorem zH5 {l:List zB} (hl:l.length≤100000) (hN:evN l≤100000) (hP:uD l):∀ (n i:Nat) (row:List (Int×List zB)),row.length≤i→(∀ k,(z9 row k).getD []=wE k (l.take i))→(l.drop i).length<n →
    ∃ row',jQ 281474976710656 l n (i:Nat) row=some row'∧∀ k,(z9 row' k).getD []=wE k l:=by
  intro n
  induction n with
  | zero=>intro i row _ _ h;omega
  | succ n ih =>
    intro i row hlen hg hn
    have hu:jQ 281474976710656 l (n+1) (i:Nat) row=jA 281474976710656 l (jQ 281474976710656 l n) (i:Nat) row:=rfl
    rw [hu]
    unfold jA
    rcases hd:l.drop i with _ | ⟨x,r⟩
    · have:=tC hd
      rw [y0 (by omega),cond_false]
      exact ⟨row,rfl,fun k=>by rw [hg,List.take_of_length_le this]⟩
    · have hi:=t9 hd
      rw [hd] at hn
      simp only [List.length_cons] at hn
      have hPx:uD (l.take i++[x]):=by rw [← t6 hd];exact hP.take _
      have hfit:=zJs hPx
      have hz:=tG hPx.snoc.2.1
      have hb:=(zCw x.Thread (l.take i) (hP.take i)).1
      have hle:=zEe l i
      obtain ⟨e1,e2,e3⟩:=zGu hfit hz.2.2.2.1
      rw [y1 (by omega),cond_true,x3 hd,Option.bind_some,hg]
      have hown:(bif (decide (x.Lost>(0:Int))||((((wE x.Thread (l.take i)).length:Nat):Int)==(0:Int))) then (need (((wE x.Thread (l.take i)).length+1) * 48≤140737488355328)).bind fun _=>some (wE x.Thread (l.take i)++[(⟨x.Thread,x.Serial,x.Lost,[]⟩:zB)]) else some (wE x.Thread (l.take i)))=some (kL (wE x.Thread (l.take i)) x):=by
        unfold kL
        by_cases hc:x.Lost>0∨(wE x.Thread (l.take i)).length=0
        · rw [if_pos hc,tM (by omega)]
          rw [show (decide (x.Lost>(0:Int))||((((wE x.Thread (l.take i)).length:Nat):Int)==(0:Int)))=true by
            rcases hc with hc | hc
            · rw [y1 hc];rfl
            · rw [uF (show (((wE x.Thread (l.take i)).length:Nat):Int)=0 by omega)];simp]
          rfl
        · rw [if_neg hc]
          rw [show (decide (x.Lost>(0:Int))||((((wE x.Thread (l.take i)).length:Nat):Int)==(0:Int)))=false by
            rw [y0 (fun h=>hc (.inl h)),jW (show (((wE x.Thread (l.take i)).length:Nat):Int)≠0 from fun h=>hc (.inr (by omega)))];rfl]
          rfl
      rw [hown,Option.bind_some,zIt e2 e1.len e1.low (by have:=e1.serial;omega) (by omega) (by omega),Option.bind_some,tM (by omega),Option.bind_some,v5 (by omega)]
      refine ih (i+1) _ (by have:=zCM row x.Thread (List.foldl fE (kL (wE x.Thread (l.take i)) x) x.Events);omega) ?_ (by rw [vD hd];omega)
      intro k
      rw [zBT,t6 hd,uR]
      unfold zBV
      by_cases hk:x.Thread=k
      · subst hk;rw [if_pos rfl,if_pos rfl];rfl
      · rw [if_neg hk,if_neg hk,hg]
theorem zJ2 {h:zT} {i:Nat} {x:zO} {r:List zO} (f:zO→List zB) (hd:h.Threads.drop i=x::r):(h.Threads.take (i+1)).flatMap f=(h.Threads.take i).flatMap f++f x:=by
  rw [t6 hd,List.flatMap_append];simp
theorem zHl {h:zT} {o:List (Int×List zB)} {f:Int→List zB} (hl:h.Threads.length≤100000) (ho:∀ k,(z9 o k).getD []=f k) (hf:∀ k,(f k).length≤300000):∀ (n i:Nat) (row:List zB),row=(h.Threads.take i).flatMap (fun t=>f t.Id)→row.length≤i * 300000→(h.Threads.drop i).length<n →
    p0 281474976710656 h o n (i:Nat) row=some (h.Threads.flatMap fun t=>f t.Id):=by
  intro n
  induction n with
  | zero=>intro i row _ _ h;omega
  | succ n ih =>
    intro i row hr hlen hn
    show jI _ _ _ _ _ _=_
    unfold jI
    rcases hd:h.Threads.drop i with _ | ⟨x,r⟩
    · have:=tC hd
      rw [y0 (by omega),cond_false,hr,List.take_of_length_le this]
    · have hi:=t9 hd
      rw [hd] at hn
      simp only [List.length_cons] at hn
      have:=hf x.Id
      rw [y1 (by omega),cond_true,x3 hd,Option.bind_some,ho,tM (by omega),Option.bind_some,v5 (by omega)]
      exact ih (i+1) _ (by rw [zJ2 _ hd,hr]) (by rw [List.length_append];omega) (by rw [vD hd];omega)
theorem zGt {h:zT} {l:List zB} (ht:h.Threads.length≤100000) (hd:h.Domains.length≤100000) (hs:h.Snaps.length≤100000) (hl:l.length≤100000) (hN:evN l≤100000):pJ 281474976710656 h l=some (zB1 h l):=by
  unfold pJ zB1
  rw [zHZ ht hd hs,Option.bind_some]
  by_cases h1:zAw h≠0
  · rw [if_pos h1,qR h1];rfl
  rw [if_neg h1,q8 (by omega),cond_false,zH4 hl hN ht,Option.bind_some]
  by_cases h2:zCF h l≠0
  · rw [if_pos h2,qR h2];rfl
  have h2:zCF h l=0:=by omega
  have hg:=zBJ.1 h2
  rw [if_neg (by omega),q8 h2,cond_false]
  obtain ⟨row,r1,r2⟩:=zH5 hl hN hg.passed 281474976710656 0 [] (by simp) (fun k=>by simp [z9,wE]) (by simp;omega)
  rw [show jQ 281474976710656 l 281474976710656 (0:Int) []=_ from r1,Option.bind_some]
  have:=zHl (h:=h) (f:=fun k=>wE k l) ht r2 (fun k=>by have:=(zCw k l hg.passed).1;omega) 281474976710656 0 [] (by simp) (by simp) (by simp;omega)
  rw [show p0 281474976710656 h row 281474976710656 (0:Int) []=_ from this];rfl

/-! Equality of logs. -/
def zHG (l:List zB):Prop:=l.length≤140737488355328∧∀ p∈l,p.Events.length≤140737488355328∧∀ e∈p.Events,e.Stack.length≤140737488355328
theorem zLf {a b:List zO} (ha:a.length≤140737488355328):xG 281474976710656 a b=some (decide (a=b)):=by
  unfold xG
  by_cases hab:a.length=b.length
  · rw [q8 (by omega),cond_false,k8 (a:=a) (b:=b) (fun n i=>xE 281474976710656 a b n i) hab ha]
    · rw [Option.bind_some]
      by_cases he:a=b
      · rw [if_pos he,y1 he]
      · rw [if_neg he,y0 he]
    · intro n i hi
      show yO _ _ _ _ _=_
      unfold yO
      rw [y0 (by omega),cond_false]
    · intro n i x y r r2 hx hy hi
      show yO _ _ _ _ _=_
      unfold yO
      rw [y1 (by omega),cond_true,x3 hx,Option.bind_some,x3 hy,Option.bind_some,v5 (by omega)]
      by_cases he:x=y
      · rw [if_pos he,y1 he];rfl
      · rw [if_neg he,y0 he];rfl
  · rw [qR (by omega),y0 (fun e=>hab (by rw [e]))];rfl
theorem zLq {a b:List zK} (ha:a.length≤140737488355328):xH 281474976710656 a b=some (decide (a=b)):=by
  unfold xH
  by_cases hab:a.length=b.length
  · rw [q8 (by omega),cond_false,k8 (a:=a) (b:=b) (fun n i=>xD 281474976710656 a b n i) hab ha]
    · rw [Option.bind_some]
      by_cases he:a=b
      · rw [if_pos he,y1 he]
      · rw [if_neg he,y0 he]
    · intro n i hi
      show yP _ _ _ _ _=_
      unfold yP
      rw [y0 (by omega),cond_false]
    · intro n i x y r r2 hx hy hi
      show yP _ _ _ _ _=_
      unfold yP
      rw [y1 (by omega),cond_true,x3 hx,Option.bind_some,x3 hy,Option.bind_some,v5 (by omega)]
      by_cases he:x=y
      · rw [if_pos he,y1 he];rfl
      · rw [if_neg he,y0 he];rfl
  · rw [qR (by omega),y0 (fun e=>hab (by rw [e]))];rfl
theorem zLU {a b:List xY} (ha:a.length≤140737488355328):xN 281474976710656 a b=some (decide (a=b)):=by
  unfold xN
  by_cases hab:a.length=b.length
  · rw [q8 (by omega),cond_false,k8 (a:=a) (b:=b) (fun n i=>xI 281474976710656 a b n i) hab ha]
    · rw [Option.bind_some]
      by_cases he:a=b
      · rw [if_pos he,y1 he]
      · rw [if_neg he,y0 he]
    · intro n i hi
      show yY _ _ _ _ _=_
      unfold yY
      rw [y0 (by omega),cond_false]
    · intro n i x y r r2 hx hy hi
      show yY _ _ _ _ _=_
      unfold yY
      rw [y1 (by omega),cond_true,x3 hx,Option.bind_some,x3 hy,Option.bind_some,v5 (by omega)]
      by_cases he:x=y
      · rw [if_pos he,y1 he];rfl
      · rw [if_neg he,y0 he];rfl
  · rw [qR (by omega),y0 (fun e=>hab (by rw [e]))];rfl
theorem zLN {a b:List zB} (ha:zHG a):yD 281474976710656 a b=some (decide (a=b)):=by
  unfold yD
  by_cases hab:a.length=b.length
  · rw [q8 (by omega),cond_false,k8 (a:=a) (b:=b) (fun n i=>yA 281474976710656 a b n i) hab ha.1]
    · rw [Option.bind_some]
      by_cases he:a=b
      · rw [if_pos he,y1 he]
      · rw [if_neg he,y0 he]
    · intro n i hi
      show zZ _ _ _ _ _=_
      unfold zZ
      rw [y0 (by omega),cond_false]
    · intro n i x y r r2 hx hy hi
      show zZ _ _ _ _ _=_
      unfold zZ zAY
      have hm:=ha.2 x (zBi hx)
      have hl:=ha.1
      rw [y1 (by omega),cond_true,x3 hx,Option.bind_some,x3 hy,Option.bind_some,v5 (by omega),zFA hm.1 hm.2,Option.bind_some,Option.bind_some]
      by_cases he:x=y
      · rw [if_pos he,y1 he];rfl
      · rw [if_neg he,y0 he];rfl
  · rw [qR (by omega),y0 (fun e=>hab (by rw [e]))];rfl
def zLY (a:z8):Prop:=a.Head.Threads.length≤140737488355328∧a.Head.Domains.length≤140737488355328∧a.Head.Snaps.length≤140737488355328∧zHG a.Parts
theorem zMH (a b:z8):a=b↔a.Head.Threads=b.Head.Threads∧a.Head.Domains=b.Head.Domains∧a.Head.Snaps=b.Head.Snaps∧a.Parts=b.Parts:=by
  obtain ⟨⟨a1,a2,a3⟩,a4⟩:=a
  obtain ⟨⟨b1,b2,b3⟩,b4⟩:=b
  simp [and_assoc]
theorem zIJ {a b:z8} (h:zLY a):zAf 281474976710656 a b=some (decide (a=b)):=by
  obtain ⟨h1,h2,h3,h4⟩:=h
  unfold zAf
  rw [zLf h1,zLq h2,zLU h3,zLN h4]
  simp only [Option.bind_some,zMH a b]
  by_cases k1:a.Head.Threads=b.Head.Threads
  · by_cases k2:a.Head.Domains=b.Head.Domains
    · by_cases k3:a.Head.Snaps=b.Head.Snaps
      · simp [k1,k2,k3]
      · simp [k1,k2,k3]
    · simp [k1,k2]
  · simp [k1]
end Go.Ab
