/- Plain laws of the functions t3 this seat's, laid anew from another seat's text. No conditions but those that the theorems name. -/
import Derived.Test.YtbifmbdcejggkaaP16xD
import Derived.Test.YtbifmbdcejggkaaB16b
import Derived.Test.YtbifmbdcejggkaaB16c
namespace Go.Ab
open Go
set_option linter.unusedVariables false
def zBu:Option Int→List zK→Int
 | _,[]=>0
 | p,e::r=>if evS e≠0 then evS e else bif p.any (fun a=>decide (e.At<a)) then 11 else zBu (some e.At) r
def pT (l:List zK) (i:Nat):Option Int:=if i=0 then none else (l[i - 1]?).map (·.At)
theorem zFy {l:List zK} {i:Nat} {x:zK} {r:List zK} (h:l.drop i=x::r):pT l (i+1)=some x.At:=by
 unfold pT
 rw [if_neg (by omega),Nat.add_sub_cancel,zD5 h];rfl
theorem zEt {l:List zK} (hl:l.length≤100000):∀ n i,(l.drop i).length<n→t7 200000 l n (i:Nat)=some (toO (zBu (pT l i) (l.drop i))):=by
 intro n
 induction n with
 | zero=>intro i h;omega
 | succ n ih =>
  intro i hn
  show tF _ _ _ _=_
  unfold tF
  rcases hd:l.drop i with _ | ⟨x,r⟩
  ·have:=uH hd
   rw [yH (by omega)];rfl
  have hlt:=uQ hd
  have hi:=ih (i+1) (by rw [hd] at hn;rw [wR hd];simp at hn;omega)
  rw [zFy hd,wR hd] at hi
  rw [yK (by omega),cond_true,yX hd,Option.bind_some,zHC,Option.bind_some]
  simp only [zBu]
  by_cases he:evS x≠0
  ·rw [vX he,if_pos he,zMO he];rfl
  rw [v7 (by omega),cond_false,if_neg he]
  by_cases h0:i=0
  ·subst h0
   rw [yH (by omega),cond_false,Option.bind_some,cond_false,wI (by omega),hi]
   simp [pT]
  ·rw [yK (by omega),cond_true,zE2 (by omega) (by omega)]
   have hp:pT l i=some (l[i - 1]'(by omega)).At:=by unfold pT;rw [if_neg h0,List.getElem?_eq_getElem (by omega)];rfl
   rw [List.getElem?_eq_getElem (by omega),Option.bind_some,Option.bind_some,hp]
   simp only [Option.any_some]
   by_cases ht:x.At<(l[i - 1]'(by omega)).At
   ·rw [yK ht];rfl
   ·rw [yH ht,cond_false,cond_false,wI (by omega),hi]
theorem zFq {l:List zK} (hl:l.length≤100000):kQ 200000 l=some (zBu none l):=by
 unfold kQ
 rw [show t7 200000 l 200000 0=_ from zEt hl 200000 0 (by simp;omega),Option.bind_some]
 simp only [List.drop_zero,pT,if_true]
 unfold toO
 by_cases h:zBu none l=0
 ·rw [if_pos h,h]
 ·rw [if_neg h]
theorem zFp {l:List zK} (hl:l.length≤100000):∀ n i,(l.drop i).length<n→qP 200000 l n (i:Nat)=some (toO (zBu (pT l i) (l.drop i))):=by
 intro n
 induction n with
 | zero=>intro i h;omega
 | succ n ih =>
  intro i hn
  show t0 _ _ _ _=_
  unfold t0
  rcases hd:l.drop i with _ | ⟨x,r⟩
  ·have:=uH hd
   rw [yH (by omega)];rfl
  have hlt:=uQ hd
  have hi:=ih (i+1) (by rw [hd] at hn;rw [wR hd];simp at hn;omega)
  rw [zFy hd,wR hd] at hi
  rw [yK (by omega),cond_true,yX hd,Option.bind_some,zJC,Option.bind_some]
  simp only [zBu]
  by_cases he:evS x≠0
  ·rw [vX he,if_pos he,zMO he];rfl
  rw [v7 (by omega),cond_false,if_neg he]
  by_cases h0:i=0
  ·subst h0
   rw [yH (by omega),cond_false,Option.bind_some,cond_false,wI (by omega),hi]
   simp [pT]
  ·rw [yK (by omega),cond_true,Option.bind_some,zE2 (by omega) (by omega)]
   have hp:pT l i=some (l[i - 1]'(by omega)).At:=by unfold pT;rw [if_neg h0,List.getElem?_eq_getElem (by omega)];rfl
   rw [List.getElem?_eq_getElem (by omega),Option.bind_some,Option.bind_some,hp]
   simp only [Option.any_some]
   by_cases ht:x.At<(l[i - 1]'(by omega)).At
   ·rw [yK ht];rfl
   ·rw [yH ht,cond_false,cond_false,wI (by omega),hi]
theorem zG3 {l:List zK} (hl:l.length≤100000):nA 200000 l=some (zBu none l):=by
 unfold nA
 rw [show qP 200000 l 200000 0=_ from zFp hl 200000 0 (by simp;omega),Option.bind_some]
 simp only [List.drop_zero,pT,if_true]
 unfold toO
 by_cases h:zBu none l=0
 ·rw [if_pos h,h]
 ·rw [if_neg h]
theorem zMU:∀ {l:List zK} {p:Option Int},zBu p l=0→∀ e∈l,evS e=0:=by
 intro l
 induction l with
 | nil=>intro p _ e he;cases he
 | cons x r ih =>
  intro p h e he
  simp only [zBu] at h
  by_cases hx:evS x≠0
  ·rw [if_pos hx] at h;exact absurd h hx
  rw [if_neg hx] at h
  cases hb:p.any (fun a=>decide (x.At<a))<;>rw [hb] at h
  case true=>cases h
  ·rcases List.mem_cons.1 he with rfl | he
   ·omega
   ·exact ih h e he
def jJ (n:Int):Prop:=n<0∨n>1000000000000000
instance decOutP:DecidablePred jJ:=fun n=>inferInstanceAs (Decidable (_∨_))
def tC (p:zB):Prop:=jJ p.Thread∨jJ p.Serial∨jJ p.Lost∨p.Lost>p.Serial∨p.Serial+p.Events.length>1000000000000000
instance decPackBad:DecidablePred tC:=fun n=>inferInstanceAs (Decidable (_∨_))
def uC (p:zB):Int :=
 if tC p then 2 else
 if p.Events.length=0 then 8 else if p.Events.length>1000 then 7 else zBu none p.Events
theorem zGY {p:zB} (hl:p.Events.length≤100000):nJ 200000 p=some (uC p):=by
 unfold nJ uC
 have hloop:=zDZ (l:=[p.Thread,p.Serial,p.Lost]) (jS 200000 p) (fun _ x=>if jJ x then some (2:Int) else none) (fun n i hi=>by
  show vB 200000 p _ _=_
  unfold vB
  simp only [List.length_cons,List.length_nil] at hi
  rw [yH (by omega)];rfl) (fun n i x r hd hlt=>by
  simp only [List.length_cons,List.length_nil] at hlt
  refine ⟨fun b hb=>?_,fun hb=>?_⟩
  ·show vB 200000 p _ _=_
   unfold vB
   by_cases ho:jJ x
   ·rw [if_pos ho] at hb;cases hb
    rw [yK (by omega),cond_true,yX hd,Option.bind_some,zOO ho];rfl
   ·rw [if_neg ho] at hb;cases hb
  ·show vB 200000 p _ _=_
   unfold vB
   by_cases ho:jJ x
   ·rw [if_pos ho] at hb;cases hb
   ·rw [yK (by omega),cond_true,yX hd,Option.bind_some,zPc ho,cond_false,wI (by omega)]) (n:=200000) (by show 3<200000;omega)
 rw [hloop]
 simp only [xI]
 by_cases h1:jJ p.Thread
 ·rw [if_pos h1,if_pos (show tC p from (.inl h1))];rfl
 rw [if_neg h1]
 by_cases h2:jJ p.Serial
 ·simp only [if_pos h2];rw [if_pos (show tC p from (.inr (.inl h2)))];rfl
 simp only [if_neg h2]
 by_cases h3:jJ p.Lost
 ·simp only [if_pos h3];rw [if_pos (show tC p from (.inr (.inr (.inl h3))))];rfl
 simp only [if_neg h3,Option.bind_some]
 unfold jJ at h1 h2 h3
 by_cases h4:p.Lost>p.Serial
 ·rw [yK h4,if_pos (show tC p from (.inr (.inr (.inr (.inl h4)))))];rfl
 rw [yH h4,cond_false,Option.bind_some,w64 (by omega) (by omega)]
 by_cases h5:p.Serial+p.Events.length>1000000000000000
 ·rw [yK h5,if_pos (show tC p from (.inr (.inr (.inr (.inr h5)))))];rfl
 rw [yH h5,cond_false,if_neg (show ¬ tC p by unfold tC jJ;omega)]
 by_cases h6:p.Events.length=0
 ·rw [vJ (by omega),if_pos h6];rfl
 rw [tH (by omega),cond_false,if_neg h6]
 by_cases h7:p.Events.length>1000
 ·rw [yK (by omega),if_pos h7];rfl
 rw [yH (by omega),cond_false,if_neg h7,zFq hl,Option.bind_some]
theorem zB5 {n:Int}:pC n=some (!decide (jJ n)):=by
 unfold pC
 congr 1
 by_cases h:jJ n
 ·rw [yK h];unfold jJ at h;simp;omega
 ·rw [yH h];unfold jJ at h;simp;omega
theorem zJQ {p:zB} (hl:p.Events.length≤100000):zBV 200000 p=some (uC p):=by
 unfold zBV uC
 rw [zB5,zB5,zB5]
 simp only [Option.bind_some,Bool.not_not]
 by_cases h1:jJ p.Thread
 ·rw [yK h1,if_pos (show tC p from (.inl h1))];rfl
 rw [yH h1,cond_false]
 by_cases h2:jJ p.Serial
 ·rw [yK h2,if_pos (show tC p from (.inr (.inl h2)))];rfl
 rw [yH h2,cond_false]
 by_cases h3:jJ p.Lost
 ·rw [yK h3,if_pos (show tC p from (.inr (.inr (.inl h3))))];rfl
 rw [yH h3,cond_false]
 unfold jJ at h1 h2 h3
 by_cases h4:p.Lost>p.Serial
 ·rw [yK h4,if_pos (show tC p from (.inr (.inr (.inr (.inl h4)))))];rfl
 rw [yH h4,Option.bind_some,cond_false,w64 (by omega) (by omega)]
 by_cases h5:p.Serial+p.Events.length>1000000000000000
 ·rw [yK (by omega),if_pos (show tC p from (.inr (.inr (.inr (.inr h5)))))];rfl
 rw [yH (by omega),cond_false,if_neg (show ¬ tC p by unfold tC jJ;omega)]
 by_cases h6:p.Events.length=0
 ·rw [vJ (by omega),if_pos h6];rfl
 rw [tH (by omega),cond_false,if_neg h6]
 by_cases h7:p.Events.length>1000
 ·rw [yK (by omega),if_pos h7];rfl
 rw [yH (by omega),cond_false,if_neg h7,zG3 hl,Option.bind_some]
theorem uR {p:zB} (h:uC p=0):0≤p.Thread∧p.Thread≤1000000000000000∧0≤p.Serial∧0≤p.Lost∧p.Lost≤p.Serial∧p.Serial+p.Events.length≤1000000000000000∧0<p.Events.length∧p.Events.length≤1000∧zBu none p.Events=0:=by
 unfold uC at h
 by_cases h1:tC p
 ·rw [if_pos h1] at h;cases h
 rw [if_neg h1] at h
 unfold tC jJ at h1
 by_cases h2:p.Events.length=0
 ·rw [if_pos h2] at h;cases h
 rw [if_neg h2] at h
 by_cases h3:p.Events.length>1000
 ·rw [if_pos h3] at h;cases h
 rw [if_neg h3] at h
 exact ⟨by omega,by omega,by omega,by omega,by omega,by omega,by omega,by omega,h⟩
theorem zK3 (a b:zB) (h1:a.Thread=b.Thread) (h2:a.Serial=b.Serial) (h3:a.Lost=b.Lost):decide (a=b)=decide (a.Events=b.Events):=by
 by_cases h:a.Events=b.Events
 ·rw [yK h,yK]
  obtain ⟨_,_,_,_⟩:=a;obtain ⟨_,_,_,_⟩:=b;simp_all
 ·rw [yH h,yH]
  intro e;exact h (by rw [e])
theorem zKS {a b:zB} (hl:a.Events.length≤100000) (hs:∀ e∈a.Events,e.Stack.length≤100000):zCp 200000 a b=some (decide (a=b)):=by
 unfold zCp
 by_cases h1:a.Thread=b.Thread
 case neg=>rw [vX h1,yH (fun e=>h1 (by rw [e]))];rfl
 by_cases h2:a.Serial=b.Serial
 case neg=>rw [vX h2,yH (fun e=>h2 (by rw [e])),Bool.true_or,Bool.or_true];rfl
 by_cases h3:a.Lost=b.Lost
 case neg=>rw [vX h3,yH (fun e=>h3 (by rw [e])),Bool.true_or,Bool.or_true,Bool.or_true];rfl
 by_cases h4:a.Events.length=b.Events.length
 case neg=>rw [vX (a:=(a.Events.length:Int)) (by omega),yH (fun e=>h4 (by rw [e])),Bool.or_true,Bool.or_true,Bool.or_true];rfl
 rw [v7 h1,v7 h2,v7 h3,v7 (a:=(a.Events.length:Int)) (by omega),zK3 a b h1 h2 h3]
 simp only [Bool.or_self,cond_false]
 rw [t9 (a:=a.Events) (b:=b.Events) (zAq 200000 a b) h4 hl (fun n i hi=>by
  show tR _ _ _ _ _=_
  unfold tR
  simp (disch:=omega) only [yH,cond_false]) (fun n i x y r r2 hd hd2 hlt=>by
  show tR _ _ _ _ _=_
  unfold tR
  rw [yK (by omega),cond_true,yX hd,Option.bind_some,yX hd2,Option.bind_some,zKN (hs x (pF hd)),Option.bind_some,wI (by omega)]
  by_cases h:x=y
  ·rw [yK h,if_pos h];rfl
  ·rw [yH h,if_neg h];rfl),Option.bind_some]
 by_cases h:a.Events=b.Events
 ·rw [if_pos h,yK h]
 ·rw [if_neg h,yH h]
theorem zHB {a b:zB} (hl:a.Events.length≤100000) (hs:∀ e∈a.Events,e.Stack.length≤100000):zAn 200000 a b=some (decide (a=b)):=by
 unfold zAn
 by_cases h1:a.Thread=b.Thread
 case neg=>rw [tH h1,yH (fun e=>h1 (by rw [e]))];rfl
 by_cases h2:a.Serial=b.Serial
 case neg=>rw [vJ h1,tH h2,yH (fun e=>h2 (by rw [e]))];rfl
 by_cases h3:a.Lost=b.Lost
 case neg=>rw [vJ h1,vJ h2,tH h3,yH (fun e=>h3 (by rw [e]))];rfl
 rw [vJ h1,vJ h2,vJ h3,zK3 a b h1 h2 h3]
 simp only [cond_true]
 unfold y3
 by_cases h4:a.Events.length=b.Events.length
 case neg=>rw [vX (a:=(a.Events.length:Int)) (by omega),yH (fun e=>h4 (by rw [e]))];rfl
 rw [v7 (a:=(a.Events.length:Int)) (by omega),cond_false]
 rw [t9 (a:=a.Events) (b:=b.Events) (yO 200000 a.Events b.Events) h4 hl (fun n i hi=>by
  show yD _ _ _ _ _=_
  unfold yD
  simp (disch:=omega) only [yH,cond_false]) (fun n i x y r r2 hd hd2 hlt=>by
  show yD _ _ _ _ _=_
  unfold yD
  rw [yK (by omega),cond_true,yX hd,Option.bind_some,yX hd2,Option.bind_some,zIC (hs x (pF hd)),Option.bind_some,wI (by omega)]
  by_cases h:x=y
  ·rw [yK h,if_pos h];rfl
  ·rw [yH h,if_neg h];rfl),Option.bind_some]
 by_cases h:a.Events=b.Events
 ·rw [if_pos h,yK h];rfl
 ·rw [if_neg h,yH h];rfl
def zOh (a b:zB):Prop:=uC a≠0∨uC b≠0∨a.Thread≠b.Thread∨b.Lost≠0∨b.Serial≠a.Serial+a.Events.length
instance decJoinBad {a b:zB}:Decidable (zOh a b):=inferInstanceAs (Decidable (_∨_))
def zMx (l:List zK):Int:=(l.head?.map (·.At)).getD 0
def zI8 (l:List zK):Int:=(l.getLast?.map (·.At)).getD 0
theorem zJc {l:List zK} (h:0<l.length):∃ x,xD l 0=some x∧x.At=zMx l:=by
 cases l with
 | nil=>simp at h
 | cons x r=>exact ⟨x,rfl,rfl⟩
theorem zIT {l:List zK} (h:0<l.length) (h1:l.length≤100000):∃ x,xD l (zR ((l.length:Int) - 1))=some x∧x.At=zI8 l:=by
 have hne:l≠[]:=by intro e;rw [e] at h;simp at h
 rw [zMs (by omega) hne]
 unfold zI8
 rw [List.getLast?_eq_some_getLast hne]
 exact ⟨_,rfl,rfl⟩
def zNv (p:zB) (n:Int):Prop:=uC p≠0∨n<1∨n≥p.Events.length
instance decSplitBad {p:zB} {n:Int}:Decidable (zNv p n):=inferInstanceAs (Decidable (_∨_))
theorem zMr {α:Type} {l:List α} {n:Int} (h0:0≤n):sub l n (l.length:Int)=l.drop n.toNat:=by
 unfold sub;rw [Int.toNat_natCast,List.take_length]
theorem zMK {α:Type} {l:List α} {n:Int} (h0:0≤n):sub l 0 n=l.take n.toNat:=by
 unfold sub;simp
end Go.Ab
