/- Plain laws of the functions qE this seat's, laid anew from another seat's text. No conditions but those that the theorems name. -/
import Derived.Test.YtbifmbdcejggkaaP16xD
import Derived.Test.YtbifmbdcejggkaaC16z
import Derived.Test.YtbifmbdcejggkaaB16b
import Derived.Test.YtbifmbdcejggkaaB16c
namespace Go.Ab
open Go
set_option linter.unusedVariables false
def zB8:Option Int→List zI→Int
 | _,[]=>0
 | p,e::r=>if evS e≠0 then evS e else bif p.any (fun a=>decide (e.At<a)) then 11 else zB8 (some e.At) r
def nT (l:List zI) (i:Nat):Option Int:=if i=0 then none else (l[i - 1]?).map (·.At)
theorem zGn {l:List zI} {i:Nat} {x:zI} {r:List zI} (h:l.drop i=x::r):nT l (i+1)=some x.At:=by
 unfold nT
 rw [if_neg (by omega),Nat.add_sub_cancel,zEI h];rfl
theorem zE6 {l:List zI} (hl:l.length≤100000):∀ n i,(l.drop i).length<n→qL 281474976710656 l n (i:Nat)=some (toO (zB8 (nT l i) (l.drop i))):=by
 intro n
 induction n with
 | zero=>intro i h;omega
 | succ n ih =>
  intro i hn
  show tQ _ _ _ _=_
  unfold tQ
  rcases hd:l.drop i with _ | ⟨x,r⟩
  ·have:=uA hd
   rw [yN (by omega)];rfl
  have hlt:=uS hd
  have hi:=ih (i+1) (by rw [hd] at hn;rw [wT hd];simp at hn;omega)
  rw [zGn hd,wT hd] at hi
  rw [yP (by omega),cond_true,y1 hd,Option.bind_some,zIi,Option.bind_some]
  simp only [zB8]
  by_cases he:evS x≠0
  ·rw [vS he,if_pos he,zNN he];rfl
  rw [vY (by omega),cond_false,if_neg he]
  by_cases h0:i=0
  ·subst h0
   rw [yN (by omega),cond_false,Option.bind_some,cond_false,wE (by omega),hi]
   simp [nT]
  ·rw [yP (by omega),cond_true,zFz (by omega) (by omega)]
   have hp:nT l i=some (l[i - 1]'(by omega)).At:=by unfold nT;rw [if_neg h0,List.getElem?_eq_getElem (by omega)];rfl
   rw [List.getElem?_eq_getElem (by omega),Option.bind_some,Option.bind_some,hp]
   simp only [Option.any_some]
   by_cases ht:x.At<(l[i - 1]'(by omega)).At
   ·rw [yP ht];rfl
   ·rw [yN ht,cond_false,cond_false,wE (by omega),hi]
theorem zF6 {l:List zI} (hl:l.length≤100000):pS 281474976710656 l=some (zB8 none l):=by
 unfold pS
 rw [show qL 281474976710656 l 281474976710656 0=_ from zE6 hl 281474976710656 0 (by simp;omega),Option.bind_some]
 simp only [List.drop_zero,nT,if_true]
 unfold toO
 by_cases h:zB8 none l=0
 ·rw [if_pos h,h]
 ·rw [if_neg h]
theorem zF8 {l:List zI} (hl:l.length≤100000):∀ n i,(l.drop i).length<n→jC 281474976710656 l n (i:Nat)=some (toO (zB8 (nT l i) (l.drop i))):=by
 intro n
 induction n with
 | zero=>intro i h;omega
 | succ n ih =>
  intro i hn
  show qJ _ _ _ _=_
  unfold qJ
  rcases hd:l.drop i with _ | ⟨x,r⟩
  ·have:=uA hd
   rw [yN (by omega)];rfl
  have hlt:=uS hd
  have hi:=ih (i+1) (by rw [hd] at hn;rw [wT hd];simp at hn;omega)
  rw [zGn hd,wT hd] at hi
  rw [yP (by omega),cond_true,y1 hd,Option.bind_some,zKJ,Option.bind_some]
  simp only [zB8]
  by_cases he:evS x≠0
  ·rw [vS he,if_pos he,zNN he];rfl
  rw [vY (by omega),cond_false,if_neg he]
  by_cases h0:i=0
  ·subst h0
   rw [yN (by omega),cond_false,Option.bind_some,cond_false,wE (by omega),hi]
   simp [nT]
  ·rw [yP (by omega),cond_true,Option.bind_some,zFz (by omega) (by omega)]
   have hp:nT l i=some (l[i - 1]'(by omega)).At:=by unfold nT;rw [if_neg h0,List.getElem?_eq_getElem (by omega)];rfl
   rw [List.getElem?_eq_getElem (by omega),Option.bind_some,Option.bind_some,hp]
   simp only [Option.any_some]
   by_cases ht:x.At<(l[i - 1]'(by omega)).At
   ·rw [yP ht];rfl
   ·rw [yN ht,cond_false,cond_false,wE (by omega),hi]
theorem zHd {l:List zI} (hl:l.length≤100000):zAi 281474976710656 l=some (zB8 none l):=by
 unfold zAi
 rw [show jC 281474976710656 l 281474976710656 0=_ from zF8 hl 281474976710656 0 (by simp;omega),Option.bind_some]
 simp only [List.drop_zero,nT,if_true]
 unfold toO
 by_cases h:zB8 none l=0
 ·rw [if_pos h,h]
 ·rw [if_neg h]
theorem zNT:∀ {l:List zI} {p:Option Int},zB8 p l=0→∀ e∈l,evS e=0:=by
 intro l
 induction l with
 | nil=>intro p _ e he;cases he
 | cons x r ih =>
  intro p h e he
  simp only [zB8] at h
  by_cases hx:evS x≠0
  ·rw [if_pos hx] at h;exact absurd h hx
  rw [if_neg hx] at h
  cases hb:p.any (fun a=>decide (x.At<a))<;>rw [hb] at h
  case true=>cases h
  ·rcases List.mem_cons.1 he with rfl | he
   ·omega
   ·exact ih h e he
def j7 (n:Int):Prop:=n<0∨n>1000000000000000
instance decOutP:DecidablePred j7:=fun n=>inferInstanceAs (Decidable (_∨_))
def tO (p:zB):Prop:=j7 p.Thread∨j7 p.Serial∨j7 p.Lost∨p.Lost>p.Serial∨p.Serial+p.Events.length>1000000000000000
instance decPackBad:DecidablePred tO:=fun n=>inferInstanceAs (Decidable (_∨_))
def uK (p:zB):Int :=
 if tO p then 2 else
 if p.Events.length=0 then 8 else if p.Events.length>1000 then 7 else zB8 none p.Events
theorem zHB {p:zB} (hl:p.Events.length≤100000):zAh 281474976710656 p=some (uK p):=by
 unfold zAh uK
 have hloop:=zEB (l:=[p.Thread,p.Serial,p.Lost]) (kI 281474976710656 p) (fun _ x=>if j7 x then some (2:Int) else none) (fun n i hi=>by
  show vI 281474976710656 p _ _=_
  unfold vI
  simp only [List.length_cons,List.length_nil] at hi
  rw [yN (by omega)];rfl) (fun n i x r hd hlt=>by
  simp only [List.length_cons,List.length_nil] at hlt
  refine ⟨fun b hb=>?_,fun hb=>?_⟩
  ·show vI 281474976710656 p _ _=_
   unfold vI
   by_cases ho:j7 x
   ·rw [if_pos ho] at hb;cases hb
    rw [yP (by omega),cond_true,y1 hd,Option.bind_some,zPY ho];rfl
   ·rw [if_neg ho] at hb;cases hb
  ·show vI 281474976710656 p _ _=_
   unfold vI
   by_cases ho:j7 x
   ·rw [if_pos ho] at hb;cases hb
   ·rw [yP (by omega),cond_true,y1 hd,Option.bind_some,zQl ho,cond_false,wE (by omega)]) (n:=281474976710656) (by show 3<281474976710656;omega)
 rw [hloop]
 simp only [xL]
 by_cases h1:j7 p.Thread
 ·rw [if_pos h1,if_pos (show tO p from (.inl h1))];rfl
 rw [if_neg h1]
 by_cases h2:j7 p.Serial
 ·simp only [if_pos h2];rw [if_pos (show tO p from (.inr (.inl h2)))];rfl
 simp only [if_neg h2]
 by_cases h3:j7 p.Lost
 ·simp only [if_pos h3];rw [if_pos (show tO p from (.inr (.inr (.inl h3))))];rfl
 simp only [if_neg h3,Option.bind_some]
 unfold j7 at h1 h2 h3
 by_cases h4:p.Lost>p.Serial
 ·rw [yP h4,if_pos (show tO p from (.inr (.inr (.inr (.inl h4)))))];rfl
 rw [yN h4,cond_false,Option.bind_some,w64 (by omega) (by omega)]
 by_cases h5:p.Serial+p.Events.length>1000000000000000
 ·rw [yP h5,if_pos (show tO p from (.inr (.inr (.inr (.inr h5)))))];rfl
 rw [yN h5,cond_false,if_neg (show ¬ tO p by unfold tO j7;omega)]
 by_cases h6:p.Events.length=0
 ·rw [vP (by omega),if_pos h6];rfl
 rw [tM (by omega),cond_false,if_neg h6]
 by_cases h7:p.Events.length>1000
 ·rw [yP (by omega),if_pos h7];rfl
 rw [yN (by omega),cond_false,if_neg h7,zF6 hl,Option.bind_some]
theorem zCH {n:Int}:nF n=some (!decide (j7 n)):=by
 unfold nF
 congr 1
 by_cases h:j7 n
 ·rw [yP h];unfold j7 at h;simp;omega
 ·rw [yN h];unfold j7 at h;simp;omega
theorem zKn {p:zB} (hl:p.Events.length≤100000):zCx 281474976710656 p=some (uK p):=by
 unfold zCx uK
 rw [zCH,zCH,zCH]
 simp only [Option.bind_some,Bool.not_not]
 by_cases h1:j7 p.Thread
 ·rw [yP h1,if_pos (show tO p from (.inl h1))];rfl
 rw [yN h1,cond_false]
 by_cases h2:j7 p.Serial
 ·rw [yP h2,if_pos (show tO p from (.inr (.inl h2)))];rfl
 rw [yN h2,cond_false]
 by_cases h3:j7 p.Lost
 ·rw [yP h3,if_pos (show tO p from (.inr (.inr (.inl h3))))];rfl
 rw [yN h3,cond_false]
 unfold j7 at h1 h2 h3
 by_cases h4:p.Lost>p.Serial
 ·rw [yP h4,if_pos (show tO p from (.inr (.inr (.inr (.inl h4)))))];rfl
 rw [yN h4,Option.bind_some,cond_false,w64 (by omega) (by omega)]
 by_cases h5:p.Serial+p.Events.length>1000000000000000
 ·rw [yP (by omega),if_pos (show tO p from (.inr (.inr (.inr (.inr h5)))))];rfl
 rw [yN (by omega),cond_false,if_neg (show ¬ tO p by unfold tO j7;omega)]
 by_cases h6:p.Events.length=0
 ·rw [vP (by omega),if_pos h6];rfl
 rw [tM (by omega),cond_false,if_neg h6]
 by_cases h7:p.Events.length>1000
 ·rw [yP (by omega),if_pos h7];rfl
 rw [yN (by omega),cond_false,if_neg h7,zHd hl,Option.bind_some]
theorem vX {p:zB} (h:uK p=0):0≤p.Thread∧p.Thread≤1000000000000000∧0≤p.Serial∧0≤p.Lost∧p.Lost≤p.Serial∧p.Serial+p.Events.length≤1000000000000000∧0<p.Events.length∧p.Events.length≤1000∧zB8 none p.Events=0:=by
 unfold uK at h
 by_cases h1:tO p
 ·rw [if_pos h1] at h;cases h
 rw [if_neg h1] at h
 unfold tO j7 at h1
 by_cases h2:p.Events.length=0
 ·rw [if_pos h2] at h;cases h
 rw [if_neg h2] at h
 by_cases h3:p.Events.length>1000
 ·rw [if_pos h3] at h;cases h
 rw [if_neg h3] at h
 exact ⟨by omega,by omega,by omega,by omega,by omega,by omega,by omega,by omega,h⟩
theorem zLP (a b:zB) (h1:a.Thread=b.Thread) (h2:a.Serial=b.Serial) (h3:a.Lost=b.Lost):decide (a=b)=decide (a.Events=b.Events):=by
 by_cases h:a.Events=b.Events
 ·rw [yP h,yP]
  obtain ⟨_,_,_,_⟩:=a;obtain ⟨_,_,_,_⟩:=b;simp_all
 ·rw [yN h,yN]
  intro e;exact h (by rw [e])
theorem zLC {a b:zB} (hl:a.Events.length≤140737488355328) (hs:∀ e∈a.Events,e.Stack.length≤140737488355328):zC9 281474976710656 a b=some (decide (a=b)):=by
 unfold zC9
 by_cases h1:a.Thread=b.Thread
 case neg=>rw [vS h1,yN (fun e=>h1 (by rw [e]))];rfl
 by_cases h2:a.Serial=b.Serial
 case neg=>rw [vS h2,yN (fun e=>h2 (by rw [e])),Bool.true_or,Bool.or_true];rfl
 by_cases h3:a.Lost=b.Lost
 case neg=>rw [vS h3,yN (fun e=>h3 (by rw [e])),Bool.true_or,Bool.or_true,Bool.or_true];rfl
 by_cases h4:a.Events.length=b.Events.length
 case neg=>rw [vS (a:=(a.Events.length:Int)) (by omega),yN (fun e=>h4 (by rw [e])),Bool.or_true,Bool.or_true,Bool.or_true];rfl
 rw [vY h1,vY h2,vY h3,vY (a:=(a.Events.length:Int)) (by omega),zLP a b h1 h2 h3]
 simp only [Bool.or_self,cond_false]
 rw [u0 (a:=a.Events) (b:=b.Events) (zAY 281474976710656 a b) h4 hl (fun n i hi=>by
  show tZ _ _ _ _ _=_
  unfold tZ
  simp (disch:=omega) only [yN,cond_false]) (fun n i x y r r2 hd hd2 hlt=>by
  show tZ _ _ _ _ _=_
  unfold tZ
  rw [yP (by omega),cond_true,y1 hd,Option.bind_some,y1 hd2,Option.bind_some,zLi (hs x (jH hd)),Option.bind_some,wE (by omega)]
  by_cases h:x=y
  ·rw [yP h,if_pos h];rfl
  ·rw [yN h,if_neg h];rfl),Option.bind_some]
 by_cases h:a.Events=b.Events
 ·rw [if_pos h,yP h]
 ·rw [if_neg h,yN h]
theorem zIl {a b:zB} (hl:a.Events.length≤140737488355328) (hs:∀ e∈a.Events,e.Stack.length≤140737488355328):zAW 281474976710656 a b=some (decide (a=b)):=by
 unfold zAW
 by_cases h1:a.Thread=b.Thread
 case neg=>rw [tM h1,yN (fun e=>h1 (by rw [e]))];rfl
 by_cases h2:a.Serial=b.Serial
 case neg=>rw [vP h1,tM h2,yN (fun e=>h2 (by rw [e]))];rfl
 by_cases h3:a.Lost=b.Lost
 case neg=>rw [vP h1,vP h2,tM h3,yN (fun e=>h3 (by rw [e]))];rfl
 rw [vP h1,vP h2,vP h3,zLP a b h1 h2 h3]
 simp only [cond_true]
 unfold xD
 by_cases h4:a.Events.length=b.Events.length
 case neg=>rw [vS (a:=(a.Events.length:Int)) (by omega),yN (fun e=>h4 (by rw [e]))];rfl
 rw [vY (a:=(a.Events.length:Int)) (by omega),cond_false]
 rw [u0 (a:=a.Events) (b:=b.Events) (yY 281474976710656 a.Events b.Events) h4 hl (fun n i hi=>by
  show yK _ _ _ _ _=_
  unfold yK
  simp (disch:=omega) only [yN,cond_false]) (fun n i x y r r2 hd hd2 hlt=>by
  show yK _ _ _ _ _=_
  unfold yK
  rw [yP (by omega),cond_true,y1 hd,Option.bind_some,y1 hd2,Option.bind_some,zJr (hs x (jH hd)),Option.bind_some,wE (by omega)]
  by_cases h:x=y
  ·rw [yP h,if_pos h];rfl
  ·rw [yN h,if_neg h];rfl),Option.bind_some]
 by_cases h:a.Events=b.Events
 ·rw [if_pos h,yP h];rfl
 ·rw [if_neg h,yN h];rfl
def zPO (a b:zB):Prop:=uK a≠0∨uK b≠0∨a.Thread≠b.Thread∨b.Lost≠0∨b.Serial≠a.Serial+a.Events.length
instance decJoinBad {a b:zB}:Decidable (zPO a b):=inferInstanceAs (Decidable (_∨_))
def zM4 (l:List zI):Int:=(l.head?.map (·.At)).getD 0
def zKO (l:List zI):Int:=(l.getLast?.map (·.At)).getD 0
theorem zK7 {l:List zI} (h:0<l.length):∃ x,y6 l 0=some x∧x.At=zM4 l:=by
 cases l with
 | nil=>simp at h
 | cons x r=>exact ⟨x,rfl,rfl⟩
theorem zJ0 {l:List zI} (h:0<l.length) (h1:l.length≤100000):∃ x,y6 l (zP ((l.length:Int) - 1))=some x∧x.At=zKO l:=by
 have hne:l≠[]:=by intro e;rw [e] at h;simp at h
 rw [zNL (by omega) hne]
 unfold zKO
 rw [List.getLast?_eq_some_getLast hne]
 exact ⟨_,rfl,rfl⟩
def zOn (p:zB) (n:Int):Prop:=uK p≠0∨n<1∨n≥p.Events.length
instance decSplitBad {p:zB} {n:Int}:Decidable (zOn p n):=inferInstanceAs (Decidable (_∨_))
theorem zNW {α:Type} {l:List α} {n:Int} (h0:0≤n):sub l n (l.length:Int)=l.drop n.toNat:=by
 unfold sub;rw [Int.toNat_natCast,List.take_length]
theorem zM6 {α:Type} {l:List α} {n:Int} (h0:0≤n):sub l 0 n=l.take n.toNat:=by
 unfold sub;simp
end Go.Ab
