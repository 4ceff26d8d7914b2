/- What Of and Same compute, on both sides. No conditions but the bounds on lengths that the theorems name. -/
import Derived.Test.YtbifmbdcejggkaaC16c
namespace Go.Ab
open Go
set_option linter.unusedVariables false

def zCx:zX:=⟨⟨[],[],[]⟩,[]⟩
def y0 (h:zR) (l:List zB):List zB:=h.Threads.flatMap fun t=>xR t.Id l
def pJ (h:zR) (l:List zB):zX×Int :=
  if zAd h≠0 then (zCx,zAd h) else if zDc h l≠0 then (zCx,zDc h l) else (⟨h,y0 h l⟩,0)

theorem zD8 {h:zR} {l:List zB} {i:Nat} {p:zB}:zB6 h l i p=none↔uV p=0∧p.Thread∈uF h∧uC (l.take i) p=true:=by
  unfold zB6
  by_cases h1:uV p≠0
  · rw [if_pos h1];exact ⟨fun h=>by (cases h),fun h=>absurd h.1 h1⟩
  · rw [if_neg h1]
    by_cases h2:p.Thread∉uF h
    · rw [if_pos h2];exact ⟨fun h=>by (cases h),fun h=>absurd h.2.1 h2⟩
    · rw [if_neg h2]
      cases h3:uC (l.take i) p
      · simp
      · simp only [Bool.true_eq_false,if_false]
        exact ⟨fun _=>⟨by omega,by simpa using h2,trivial⟩,fun _=>trivial⟩
/-- The packets of a log whose head is valid. -/
structure zCs (h:zR) (l:List zB):Prop where
  passed:vM l
  known:∀ p∈l,p.Thread∈uF h
  few:evN l≤20000
theorem zNn {h:zR} {l:List zB}:∀ (i:Nat) (m:List zB) (q:Int),xV (zB6 h l) i m=.inr q→q≠0:=by
  intro i m
  induction m generalizing i with
  | nil=>intro q h;cases h
  | cons a r ih =>
    intro q hq
    simp only [xV] at hq
    cases hf:zB6 h l i a with
    | none=>rw [hf] at hq;exact ih _ _ hq
    | some b =>
      rw [hf] at hq;injection hq with hq;subst hq
      unfold zB6 at hf
      split at hf
      · injection hf with hf;omega
      · split at hf
        · injection hf with hf;omega
        · split at hf
          · injection hf with hf;omega
          · cases hf
theorem zCa {h:zR} {l:List zB}:zDc h l=0↔zCs h l:=by
  unfold zDc
  constructor
  · intro hc
    cases hb:xV (zB6 h l) 0 l with
    | inr q=>rw [hb] at hc;exact absurd hc (zNn _ _ _ hb)
    | inl u =>
      rw [hb] at hc
      have hn:=zDA hb
      simp only [Nat.zero_add] at hn
      refine ⟨fun i p hi=>?_,fun p hp=>?_,?_⟩
      · have:=zD8.1 (hn i p hi);exact ⟨this.1,this.2.2⟩
      · obtain ⟨i,hi⟩:=List.mem_iff_getElem?.1 hp
        exact (zD8.1 (hn i p hi)).2.1
      · simp only at hc
        split at hc<;>omega
  · intro hg
    rw [zIq (f:=zB6 h l) (i:=0) (l:=l) fun i p hi=>by
      rw [Nat.zero_add]
      exact zD8.2 ⟨(hg.passed i p hi).1,hg.known p (List.mem_of_getElem? hi),(hg.passed i p hi).2⟩]
    simp only
    rw [if_neg (by have:=hg.few;omega)]

theorem zIC {l:List zB} (hl:l.length≤100000) (hN:evN l≤100000) (hP:vM l):∀ (n i:Nat) (row:List (Int×List zB)),row.length≤i→(∀ k,(yD row k).getD []=xR k (l.take i))→(l.drop i).length<n →
    ∃ row',kL 281474976710656 l n (i:Nat) row=some row'∧∀ k,(yD row' k).getD []=xR k l:=by
  intro n
  induction n with
  | zero=>intro i row _ _ h;omega
  | succ n ih =>
    intro i row hlen hg hn
    have hu:kL 281474976710656 l (n+1) (i:Nat) row=j5 281474976710656 l (kL 281474976710656 l n) (i:Nat) row:=rfl
    rw [hu]
    unfold j5
    rcases hd:l.drop i with _ | ⟨x,r⟩
    · have:=v5 hd
      rw [yU (by omega),cond_false]
      exact ⟨row,rfl,fun k=>by rw [hg,List.take_of_length_le this]⟩
    · have hi:=uR hd
      rw [hd] at hn
      simp only [List.length_cons] at hn
      have hPx:vM (l.take i++[x]):=by rw [← vT hd];exact hP.take _
      have hfit:=zKB hPx
      have hz:=vK hPx.snoc.2.1
      have hb:=(zDa x.Thread (l.take i) (hP.take i)).1
      have hle:=zBN l i
      obtain ⟨e1,e2,e3⟩:=zGY hfit hz.2.2.2.1
      rw [y5 (by omega),cond_true,xL hd,Option.bind_some,hg]
      have hown:(bif (decide (x.Lost>(0:Int))||((((xR x.Thread (l.take i)).length:Nat):Int)==(0:Int))) then (need (((xR x.Thread (l.take i)).length+1) * 48≤140737488355328)).bind fun _=>some (xR x.Thread (l.take i)++[(⟨x.Thread,x.Serial,x.Lost,[]⟩:zB)]) else some (xR x.Thread (l.take i)))=some (qX (xR x.Thread (l.take i)) x):=by
        unfold qX
        by_cases hc:x.Lost>0∨(xR x.Thread (l.take i)).length=0
        · rw [if_pos hc,jN (by omega)]
          rw [show (decide (x.Lost>(0:Int))||((((xR x.Thread (l.take i)).length:Nat):Int)==(0:Int)))=true by
            rcases hc with hc | hc
            · rw [y5 hc];rfl
            · rw [v6 (show (((xR x.Thread (l.take i)).length:Nat):Int)=0 by omega)];simp]
          rfl
        · rw [if_neg hc]
          rw [show (decide (x.Lost>(0:Int))||((((xR x.Thread (l.take i)).length:Nat):Int)==(0:Int)))=false by
            rw [yU (fun h=>hc (.inl h)),t9 (show (((xR x.Thread (l.take i)).length:Nat):Int)≠0 from fun h=>hc (.inr (by omega)))];rfl]
          rfl
      rw [hown,Option.bind_some,zJn e2 e1.len e1.low (by have:=e1.serial;omega) (by omega) (by omega),Option.bind_some,jN (by omega),Option.bind_some,w6 (by omega)]
      refine ih (i+1) _ (by have:=zC8 row x.Thread (List.foldl fE (qX (xR x.Thread (l.take i)) x) x.Events);omega) ?_ (by rw [wM hd];omega)
      intro k
      rw [zCj,vT hd,uN]
      unfold pO
      by_cases hk:x.Thread=k
      · subst hk;rw [if_pos rfl,if_pos rfl];rfl
      · rw [if_neg hk,if_neg hk,hg]
theorem zLF {h:zR} {i:Nat} {x:zP} {r:List zP} (f:zP→List zB) (hd:h.Threads.drop i=x::r):(h.Threads.take (i+1)).flatMap f=(h.Threads.take i).flatMap f++f x:=by
  rw [vT hd,List.flatMap_append];simp
theorem zIF {h:zR} {o:List (Int×List zB)} {f:Int→List zB} (hl:h.Threads.length≤100000) (ho:∀ k,(yD o k).getD []=f k) (hf:∀ k,(f k).length≤300000):∀ (n i:Nat) (row:List zB),row=(h.Threads.take i).flatMap (fun t=>f t.Id)→row.length≤i * 300000→(h.Threads.drop i).length<n →
    zAw 281474976710656 h o n (i:Nat) row=some (h.Threads.flatMap fun t=>f t.Id):=by
  intro n
  induction n with
  | zero=>intro i row _ _ h;omega
  | succ n ih =>
    intro i row hr hlen hn
    show kC _ _ _ _ _ _=_
    unfold kC
    rcases hd:h.Threads.drop i with _ | ⟨x,r⟩
    · have:=v5 hd
      rw [yU (by omega),cond_false,hr,List.take_of_length_le this]
    · have hi:=uR hd
      rw [hd] at hn
      simp only [List.length_cons] at hn
      have:=hf x.Id
      rw [y5 (by omega),cond_true,xL hd,Option.bind_some,ho,jN (by omega),Option.bind_some,w6 (by omega)]
      exact ih (i+1) _ (by rw [zLF _ hd,hr]) (by rw [List.length_append];omega) (by rw [wM hd];omega)
theorem zGN {h:zR} {l:List zB} (ht:h.Threads.length≤100000) (hd:h.Domains.length≤100000) (hs:h.Snaps.length≤100000) (hl:l.length≤100000) (hN:evN l≤100000):zAG 281474976710656 h l=some (pJ h l):=by
  unfold zAG pJ
  rw [zH8 ht hd hs,Option.bind_some]
  by_cases h1:zAd h≠0
  · rw [if_pos h1,qA h1];rfl
  rw [if_neg h1,t8 (by omega),cond_false,zIk hl hN ht,Option.bind_some]
  by_cases h2:zDc h l≠0
  · rw [if_pos h2,qA h2];rfl
  have h2:zDc h l=0:=by omega
  have hg:=zCa.1 h2
  rw [if_neg (by omega),t8 h2,cond_false]
  obtain ⟨row,r1,r2⟩:=zIC hl hN hg.passed 281474976710656 0 [] (by simp) (fun k=>by simp [yD,xR]) (by simp;omega)
  rw [show kL 281474976710656 l 281474976710656 (0:Int) []=_ from r1,Option.bind_some]
  have:=zIF (h:=h) (f:=fun k=>xR k l) ht r2 (fun k=>by have:=(zDa k l hg.passed).1;omega) 281474976710656 0 [] (by simp) (by simp) (by simp;omega)
  rw [show zAw 281474976710656 h row 281474976710656 (0:Int) []=_ from this];rfl

/-! Equality of logs. -/
def zHN (l:List zB):Prop:=l.length≤140737488355328∧∀ p∈l,p.Events.length≤140737488355328∧∀ e∈p.Events,e.Stack.length≤140737488355328
theorem zMY {a b:List zP} (ha:a.length≤140737488355328):xP 281474976710656 a b=some (decide (a=b)):=by
  unfold xP
  by_cases hab:a.length=b.length
  · rw [t8 (by omega),cond_false,pQ (a:=a) (b:=b) (fun n i=>xJ 281474976710656 a b n i) hab ha]
    · rw [Option.bind_some]
      by_cases he:a=b
      · rw [if_pos he,y5 he]
      · rw [if_neg he,yU he]
    · intro n i hi
      show yW _ _ _ _ _=_
      unfold yW
      rw [yU (by omega),cond_false]
    · intro n i x y r r2 hx hy hi
      show yW _ _ _ _ _=_
      unfold yW
      rw [y5 (by omega),cond_true,xL hx,Option.bind_some,xL hy,Option.bind_some,w6 (by omega)]
      by_cases he:x=y
      · rw [if_pos he,y5 he];rfl
      · rw [if_neg he,yU he];rfl
  · rw [qA (by omega),yU (fun e=>hab (by rw [e]))];rfl
theorem zL8 {a b:List zL} (ha:a.length≤140737488355328):xN 281474976710656 a b=some (decide (a=b)):=by
  unfold xN
  by_cases hab:a.length=b.length
  · rw [t8 (by omega),cond_false,pQ (a:=a) (b:=b) (fun n i=>xK 281474976710656 a b n i) hab ha]
    · rw [Option.bind_some]
      by_cases he:a=b
      · rw [if_pos he,y5 he]
      · rw [if_neg he,yU he]
    · intro n i hi
      show yV _ _ _ _ _=_
      unfold yV
      rw [yU (by omega),cond_false]
    · intro n i x y r r2 hx hy hi
      show yV _ _ _ _ _=_
      unfold yV
      rw [y5 (by omega),cond_true,xL hx,Option.bind_some,xL hy,Option.bind_some,w6 (by omega)]
      by_cases he:x=y
      · rw [if_pos he,y5 he];rfl
      · rw [if_neg he,yU he];rfl
  · rw [qA (by omega),yU (fun e=>hab (by rw [e]))];rfl
theorem zMG {a b:List x9} (ha:a.length≤140737488355328):xY 281474976710656 a b=some (decide (a=b)):=by
  unfold xY
  by_cases hab:a.length=b.length
  · rw [t8 (by omega),cond_false,pQ (a:=a) (b:=b) (fun n i=>xQ 281474976710656 a b n i) hab ha]
    · rw [Option.bind_some]
      by_cases he:a=b
      · rw [if_pos he,y5 he]
      · rw [if_neg he,yU he]
    · intro n i hi
      show y4 _ _ _ _ _=_
      unfold y4
      rw [yU (by omega),cond_false]
    · intro n i x y r r2 hx hy hi
      show y4 _ _ _ _ _=_
      unfold y4
      rw [y5 (by omega),cond_true,xL hx,Option.bind_some,xL hy,Option.bind_some,w6 (by omega)]
      by_cases he:x=y
      · rw [if_pos he,y5 he];rfl
      · rw [if_neg he,yU he];rfl
  · rw [qA (by omega),yU (fun e=>hab (by rw [e]))];rfl
theorem zMN {a b:List zB} (ha:zHN a):yJ 281474976710656 a b=some (decide (a=b)):=by
  unfold yJ
  by_cases hab:a.length=b.length
  · rw [t8 (by omega),cond_false,pQ (a:=a) (b:=b) (fun n i=>yF 281474976710656 a b n i) hab ha.1]
    · rw [Option.bind_some]
      by_cases he:a=b
      · rw [if_pos he,y5 he]
      · rw [if_neg he,yU he]
    · intro n i hi
      show z4 _ _ _ _ _=_
      unfold z4
      rw [yU (by omega),cond_false]
    · intro n i x y r r2 hx hy hi
      show z4 _ _ _ _ _=_
      unfold z4 zBD
      have hm:=ha.2 x (qH hx)
      have hl:=ha.1
      rw [y5 (by omega),cond_true,xL hx,Option.bind_some,xL hy,Option.bind_some,w6 (by omega),zGA hm.1 hm.2,Option.bind_some,Option.bind_some]
      by_cases he:x=y
      · rw [if_pos he,y5 he];rfl
      · rw [if_neg he,yU he];rfl
  · rw [qA (by omega),yU (fun e=>hab (by rw [e]))];rfl
def zM5 (a:zX):Prop:=a.Head.Threads.length≤140737488355328∧a.Head.Domains.length≤140737488355328∧a.Head.Snaps.length≤140737488355328∧zHN a.Parts
theorem zNE (a b:zX):a=b↔a.Head.Threads=b.Head.Threads∧a.Head.Domains=b.Head.Domains∧a.Head.Snaps=b.Head.Snaps∧a.Parts=b.Parts:=by
  obtain ⟨⟨a1,a2,a3⟩,a4⟩:=a
  obtain ⟨⟨b1,b2,b3⟩,b4⟩:=b
  simp [and_assoc]
theorem zJC {a b:zX} (h:zM5 a):zBM 281474976710656 a b=some (decide (a=b)):=by
  obtain ⟨h1,h2,h3,h4⟩:=h
  unfold zBM
  rw [zMY h1,zL8 h2,zMG h3,zMN h4]
  simp only [Option.bind_some,zNE a b]
  by_cases k1:a.Head.Threads=b.Head.Threads
  · by_cases k2:a.Head.Domains=b.Head.Domains
    · by_cases k3:a.Head.Snaps=b.Head.Snaps
      · simp [k1,k2,k3]
      · simp [k1,k2,k3]
    · simp [k1,k2]
  · simp [k1]
end Go.Ab
