/- Plain laws of the functions uE this seat's, laid anew from another seat's text. No conditions but those that the theorems name. -/
import Derived.Test.YtlnlcciflpncmaaP11xD
import Derived.Test.YtlnlcciflpncmaaB11a
import Derived.Test.YtlnlcciflpncmaaB11b
import Derived.Test.YtlnlcciflpncmaaB11c
namespace Go.Ab
open Go
set_option linter.unusedVariables false
def zCq:Option Int→List zA→Int
 | _,[]=>0
 | p,e::r=>if evS e≠0 then evS e else bif p.any (fun a=>decide (e.At<a)) then 11 else zCq (some e.At) r
def pV (l:List zA) (i:Nat):Option Int:=if i=0 then none else (l[i - 1]?).map (·.At)
theorem zE3 {l:List zA} {i:Nat} {x:zA} {r:List zA} (h:l.drop i=x::r):pV l (i+1)=some x.At:=by
 unfold pV
 rw [if_neg (by omega),Nat.add_sub_cancel,zFQ h];rfl
theorem zD4 {l:List zA} (hl:l.length≤100000):∀ n i,(l.drop i).length<n→tU 200000 l n (i:Nat)=some (toO (zCq (pV l i) (l.drop i))):=by
 intro n
 induction n with
 | zero=>intro i h;omega
 | succ n ih =>
  intro i hn
  show uZ _ _ _ _=_
  unfold uZ
  rcases hd:l.drop i with _ | ⟨x,r⟩
  ·have:=wO hd
   rw [z7 (by omega)];rfl
  have hlt:=vA hd
  have hi:=ih (i+1) (by rw [hd] at hn;rw [yD hd];simp at hn;omega)
  rw [zE3 hd,yD hd] at hi
  rw [z9 (by omega),cond_true,yQ hd,Option.bind_some,zBu,Option.bind_some]
  simp only [zCq]
  by_cases he:evS x≠0
  ·rw [y0 he,if_pos he,zEa he];rfl
  rw [y6 (by omega),cond_false,if_neg he]
  by_cases h0:i=0
  ·subst h0
   rw [z7 (by omega),cond_false,Option.bind_some,cond_false,xP (by omega),hi]
   simp [pV]
  ·rw [z9 (by omega),cond_true,zHM (by omega) (by omega)]
   have hp:pV l i=some (l[i - 1]'(by omega)).At:=by unfold pV;rw [if_neg h0,List.getElem?_eq_getElem (by omega)];rfl
   rw [List.getElem?_eq_getElem (by omega),Option.bind_some,Option.bind_some,hp]
   simp only [Option.any_some]
   by_cases ht:x.At<(l[i - 1]'(by omega)).At
   ·rw [z9 ht];rfl
   ·rw [z7 ht,cond_false,cond_false,xP (by omega),hi]
theorem zER {l:List zA} (hl:l.length≤100000):k9 200000 l=some (zCq none l):=by
 unfold k9
 rw [show tU 200000 l 200000 0=_ from zD4 hl 200000 0 (by simp;omega),Option.bind_some]
 simp only [List.drop_zero,pV,if_true]
 unfold toO
 by_cases h:zCq none l=0
 ·rw [if_pos h,h]
 ·rw [if_neg h]
theorem zEV {l:List zA} (hl:l.length≤100000):∀ n i,(l.drop i).length<n→qU 200000 l n (i:Nat)=some (toO (zCq (pV l i) (l.drop i))):=by
 intro n
 induction n with
 | zero=>intro i h;omega
 | succ n ih =>
  intro i hn
  show tP _ _ _ _=_
  unfold tP
  rcases hd:l.drop i with _ | ⟨x,r⟩
  ·have:=wO hd
   rw [z7 (by omega)];rfl
  have hlt:=vA hd
  have hi:=ih (i+1) (by rw [hd] at hn;rw [yD hd];simp at hn;omega)
  rw [zE3 hd,yD hd] at hi
  rw [z9 (by omega),cond_true,yQ hd,Option.bind_some,zCz,Option.bind_some]
  simp only [zCq]
  by_cases he:evS x≠0
  ·rw [y0 he,if_pos he,zEa he];rfl
  rw [y6 (by omega),cond_false,if_neg he]
  by_cases h0:i=0
  ·subst h0
   rw [z7 (by omega),cond_false,Option.bind_some,cond_false,xP (by omega),hi]
   simp [pV]
  ·rw [z9 (by omega),cond_true,Option.bind_some,zHM (by omega) (by omega)]
   have hp:pV l i=some (l[i - 1]'(by omega)).At:=by unfold pV;rw [if_neg h0,List.getElem?_eq_getElem (by omega)];rfl
   rw [List.getElem?_eq_getElem (by omega),Option.bind_some,Option.bind_some,hp]
   simp only [Option.any_some]
   by_cases ht:x.At<(l[i - 1]'(by omega)).At
   ·rw [z9 ht];rfl
   ·rw [z7 ht,cond_false,cond_false,xP (by omega),hi]
theorem zF1 {l:List zA} (hl:l.length≤100000):nN 200000 l=some (zCq none l):=by
 unfold nN
 rw [show qU 200000 l 200000 0=_ from zEV hl 200000 0 (by simp;omega),Option.bind_some]
 simp only [List.drop_zero,pV,if_true]
 unfold toO
 by_cases h:zCq none l=0
 ·rw [if_pos h,h]
 ·rw [if_neg h]
def j5 (n:Int):Prop:=n<0∨n>1000000000000000
instance decOutP:DecidablePred j5:=fun n=>inferInstanceAs (Decidable (_∨_))
def uT (p:zF):Prop:=j5 p.Thread∨j5 p.Serial∨j5 p.Lost∨p.Lost>p.Serial∨p.Serial+p.Events.length>1000000000000000
instance decPackBad:DecidablePred uT:=fun n=>inferInstanceAs (Decidable (_∨_))
def qK (p:zF):Int :=
 if uT p then 2 else
 if p.Events.length=0 then 8 else if p.Events.length>1000 then 7 else zCq none p.Events
theorem zCM {p:zF} (hl:p.Events.length≤100000):vY 200000 p=some (qK p):=by
 unfold vY qK
 have hloop:=zDz (l:=[p.Thread,p.Serial,p.Lost]) (kD 200000 p) (fun _ x=>if j5 x then some (2:Int) else none) (fun n i hi=>by
  show x4 200000 p _ _=_
  unfold x4
  simp only [List.length_cons,List.length_nil] at hi
  rw [z7 (by omega)];rfl) (fun n i x r hd hlt=>by
  simp only [List.length_cons,List.length_nil] at hlt
  refine ⟨fun b hb=>?_,fun hb=>?_⟩
  ·show x4 200000 p _ _=_
   unfold x4
   by_cases ho:j5 x
   ·rw [if_pos ho] at hb;cases hb
    rw [z9 (by omega),cond_true,yQ hd,Option.bind_some,zJP ho];rfl
   ·rw [if_neg ho] at hb;cases hb
  ·show x4 200000 p _ _=_
   unfold x4
   by_cases ho:j5 x
   ·rw [if_pos ho] at hb;cases hb
   ·rw [z9 (by omega),cond_true,yQ hd,Option.bind_some,zLk ho,cond_false,xP (by omega)]) (n:=200000) (by show 3<200000;omega)
 rw [hloop]
 simp only [pL]
 by_cases h1:j5 p.Thread
 ·rw [if_pos h1,if_pos (show uT p from (.inl h1))];rfl
 rw [if_neg h1]
 by_cases h2:j5 p.Serial
 ·simp only [if_pos h2];rw [if_pos (show uT p from (.inr (.inl h2)))];rfl
 simp only [if_neg h2]
 by_cases h3:j5 p.Lost
 ·simp only [if_pos h3];rw [if_pos (show uT p from (.inr (.inr (.inl h3))))];rfl
 simp only [if_neg h3,Option.bind_some]
 unfold j5 at h1 h2 h3
 by_cases h4:p.Lost>p.Serial
 ·rw [z9 h4,if_pos (show uT p from (.inr (.inr (.inr (.inl h4)))))];rfl
 rw [z7 h4,cond_false,Option.bind_some,w64 (by omega) (by omega)]
 by_cases h5:p.Serial+p.Events.length>1000000000000000
 ·rw [z9 h5,if_pos (show uT p from (.inr (.inr (.inr (.inr h5)))))];rfl
 rw [z7 h5,cond_false,if_neg (show ¬ uT p by unfold uT j5;omega)]
 by_cases h6:p.Events.length=0
 ·rw [tI (by omega),if_pos h6];rfl
 rw [pP (by omega),cond_false,if_neg h6]
 by_cases h7:p.Events.length>1000
 ·rw [z9 (by omega),if_pos h7];rfl
 rw [z7 (by omega),cond_false,if_neg h7,zER hl,Option.bind_some]
theorem zBY {n:Int}:pO n=some (!decide (j5 n)):=by
 unfold pO
 congr 1
 by_cases h:j5 n
 ·rw [z9 h];unfold j5 at h;simp;omega
 ·rw [z7 h];unfold j5 at h;simp;omega
theorem zEg {p:zF} (hl:p.Events.length≤100000):zAN 200000 p=some (qK p):=by
 unfold zAN qK
 rw [zBY,zBY,zBY]
 simp only [Option.bind_some,Bool.not_not]
 by_cases h1:j5 p.Thread
 ·rw [z9 h1,if_pos (show uT p from (.inl h1))];rfl
 rw [z7 h1,cond_false]
 by_cases h2:j5 p.Serial
 ·rw [z9 h2,if_pos (show uT p from (.inr (.inl h2)))];rfl
 rw [z7 h2,cond_false]
 by_cases h3:j5 p.Lost
 ·rw [z9 h3,if_pos (show uT p from (.inr (.inr (.inl h3))))];rfl
 rw [z7 h3,cond_false]
 unfold j5 at h1 h2 h3
 by_cases h4:p.Lost>p.Serial
 ·rw [z9 h4,if_pos (show uT p from (.inr (.inr (.inr (.inl h4)))))];rfl
 rw [z7 h4,Option.bind_some,cond_false,w64 (by omega) (by omega)]
 by_cases h5:p.Serial+p.Events.length>1000000000000000
 ·rw [z9 (by omega),if_pos (show uT p from (.inr (.inr (.inr (.inr h5)))))];rfl
 rw [z7 (by omega),cond_false,if_neg (show ¬ uT p by unfold uT j5;omega)]
 by_cases h6:p.Events.length=0
 ·rw [tI (by omega),if_pos h6];rfl
 rw [pP (by omega),cond_false,if_neg h6]
 by_cases h7:p.Events.length>1000
 ·rw [z9 (by omega),if_pos h7];rfl
 rw [z7 (by omega),cond_false,if_neg h7,zF1 hl,Option.bind_some]
theorem zDJ {p:zF} (h:qK p=0):0≤p.Thread∧p.Thread≤1000000000000000∧0≤p.Serial∧0≤p.Lost∧p.Lost≤p.Serial∧p.Serial+p.Events.length≤1000000000000000∧0<p.Events.length∧p.Events.length≤1000∧zCq none p.Events=0:=by
 unfold qK at h
 by_cases h1:uT p
 ·rw [if_pos h1] at h;cases h
 rw [if_neg h1] at h
 unfold uT j5 at h1
 by_cases h2:p.Events.length=0
 ·rw [if_pos h2] at h;cases h
 rw [if_neg h2] at h
 by_cases h3:p.Events.length>1000
 ·rw [if_pos h3] at h;cases h
 rw [if_neg h3] at h
 exact ⟨by omega,by omega,by omega,by omega,by omega,by omega,by omega,by omega,h⟩
theorem zNt (a b:zF) (h1:a.Thread=b.Thread) (h2:a.Serial=b.Serial) (h3:a.Lost=b.Lost):decide (a=b)=decide (a.Events=b.Events):=by
 by_cases h:a.Events=b.Events
 ·rw [z9 h,z9]
  obtain ⟨_,_,_,_⟩:=a;obtain ⟨_,_,_,_⟩:=b;simp_all
 ·rw [z7 h,z7]
  intro e;exact h (by rw [e])
theorem zKz {a b:zF} (hl:a.Events.length≤100000) (hs:∀ e∈a.Events,e.Stack.length≤100000):zAK 200000 a b=some (decide (a=b)):=by
 unfold zAK
 by_cases h1:a.Thread=b.Thread
 case neg=>rw [y0 h1,z7 (fun e=>h1 (by rw [e]))];rfl
 by_cases h2:a.Serial=b.Serial
 case neg=>rw [y0 h2,z7 (fun e=>h2 (by rw [e])),Bool.true_or,Bool.or_true];rfl
 by_cases h3:a.Lost=b.Lost
 case neg=>rw [y0 h3,z7 (fun e=>h3 (by rw [e])),Bool.true_or,Bool.or_true,Bool.or_true];rfl
 by_cases h4:a.Events.length=b.Events.length
 case neg=>rw [y0 (a:=(a.Events.length:Int)) (by omega),z7 (fun e=>h4 (by rw [e])),Bool.or_true,Bool.or_true,Bool.or_true];rfl
 rw [y6 h1,y6 h2,y6 h3,y6 (a:=(a.Events.length:Int)) (by omega),zNt a b h1 h2 h3]
 simp only [Bool.or_self,cond_false]
 rw [zHT (a:=a.Events) (b:=b.Events) (zAE 200000 a b) h4 hl (fun n i hi=>by
  show u7 _ _ _ _ _=_
  unfold u7
  simp (disch:=omega) only [z7,cond_false]) (fun n i x y r r2 hd hd2 hlt=>by
  show u7 _ _ _ _ _=_
  unfold u7
  rw [z9 (by omega),cond_true,yQ hd,Option.bind_some,yQ hd2,Option.bind_some,zKu (hs x (nY hd)),Option.bind_some,xP (by omega)]
  by_cases h:x=y
  ·rw [z9 h,if_pos h];rfl
  ·rw [z7 h,if_neg h];rfl),Option.bind_some]
 by_cases h:a.Events=b.Events
 ·rw [if_pos h,z9 h]
 ·rw [if_neg h,z7 h]
def pk0:zF:=⟨0,0,0,[]⟩
def zNz (a b:zF):Prop:=qK a≠0∨qK b≠0∨a.Thread≠b.Thread∨b.Lost≠0∨b.Serial≠a.Serial+a.Events.length
instance decJoinBad {a b:zF}:Decidable (zNz a b):=inferInstanceAs (Decidable (_∨_))
def zMA (p:zF) (n:Int):Prop:=qK p≠0∨n<1∨n≥p.Events.length
instance decSplitBad {p:zF} {n:Int}:Decidable (zMA p n):=inferInstanceAs (Decidable (_∨_))
theorem zHE {α:Type} {l:List α} {n:Int} (h0:0≤n):sub l 0 n=l.take n.toNat:=by
 unfold sub;simp
end Go.Ab
