/- Plain laws of the functions uS this seat's, laid anew from another seat's text. No conditions but those that the theorems name. -/
import Derived.Test.YtoeengmnmhhpgaaGreatP15zxD
import Derived.Test.YtoeengmnmhhpgaaGreatB15za
import Derived.Test.YtoeengmnmhhpgaaGreatB15zb
import Derived.Test.YtoeengmnmhhpgaaGreatB15zc
namespace Go.Ab
open Go
set_option linter.unusedVariables false
def bZ:Option Int->List xD->Int
 | _,[]=>0
 | p,e::r=>if evS e≠0 then evS e else bif p.any (fun a=>decide (e.At<a)) then 11 else bZ (some e.At) r
def bI (l:List xD) (i:Nat):Option Int:=if i=0 then none else (l[i - 1]?).map (·.At)
theorem Z9 {l:List xD} {i:Nat} {x:xD} {r:List xD} (h:l.drop i=x::r):bI l (i+1)=some x.At:=by
 unfold bI;rw [if_neg (by omega),Nat.add_sub_cancel,GF h];rfl
theorem zFS {l:List xD} (hl:l.length<=100000):∀ n i,(l.drop i).length<n->DD 281474976710656 l n (i:Nat)=some (toO (bZ (bI l i) (l.drop i))):=by
 intro n
 induction n with
 | zero=>intro i h;omega
 | succ n ih =>
  intro i hn;show EN _ _ _ _=_;unfold EN;rcases hd:l.drop i with _ | ⟨x,r⟩
  ·have:=qC hd
   rw [yP (by omega)];rfl
  have hlt:=tZ hd;have hi:=ih (i+1) (by rw [hd] at hn;rw [w6 hd];simp at hn;omega);rw [Z9 hd,w6 hd] at hi;rw [yN (by omega),cond_true,vE hd,zbs,SA,zbs];simp only [bZ]
  by_cases he:evS x≠0
  ·rw [xX he,if_pos he,EX he];rfl
  rw [x7 (by omega),cond_false,if_neg he]
  by_cases h0:i=0
  ·subst h0;rw [yP (by omega),cond_false,zbs,cond_false,wX (by omega),hi];simp [bI]
  ·rw [yN (by omega),cond_true,SD (by omega) (by omega)];have hp:bI l i=some (l[i - 1]'(by omega)).At:=by unfold bI;rw [if_neg h0,List.getElem?_eq_getElem (by omega)];rfl
   rw [List.getElem?_eq_getElem (by omega),zbs,zbs,hp];simp only [Option.any_some]
   by_cases ht:x.At<(l[i - 1]'(by omega)).At
   ·rw [yN ht];rfl
   ·rw [yP ht,cond_false,cond_false,wX (by omega),hi]
theorem zGT {l:List xD} (hl:l.length<=100000):D3 281474976710656 l=some (bZ none l):=by
 unfold D3;rw [show DD 281474976710656 l 281474976710656 0=_ from zFS hl 281474976710656 0 (by simp;omega),zbs];simp only [zdz,bI,if_true];unfold toO
 by_cases h:bZ none l=0
 ·rw [if_pos h,h]
 ·rw [if_neg h]
theorem zFu {l:List xD} (hl:l.length<=100000):∀ n i,(l.drop i).length<n->B6 281474976710656 l n (i:Nat)=some (toO (bZ (bI l i) (l.drop i))):=by
 intro n
 induction n with
 | zero=>intro i h;omega
 | succ n ih =>
  intro i hn;show D0 _ _ _ _=_;unfold D0;rcases hd:l.drop i with _ | ⟨x,r⟩
  ·have:=qC hd
   rw [yP (by omega)];rfl
  have hlt:=tZ hd;have hi:=ih (i+1) (by rw [hd] at hn;rw [w6 hd];simp at hn;omega);rw [Z9 hd,w6 hd] at hi;rw [yN (by omega),cond_true,vE hd,zbs,QP,zbs];simp only [bZ]
  by_cases he:evS x≠0
  ·rw [xX he,if_pos he,EX he];rfl
  rw [x7 (by omega),cond_false,if_neg he]
  by_cases h0:i=0
  ·subst h0;rw [yP (by omega),cond_false,zbs,cond_false,wX (by omega),hi];simp [bI]
  ·rw [yN (by omega),cond_true,zbs,SD (by omega) (by omega)];have hp:bI l i=some (l[i - 1]'(by omega)).At:=by unfold bI;rw [if_neg h0,List.getElem?_eq_getElem (by omega)];rfl
   rw [List.getElem?_eq_getElem (by omega),zbs,zbs,hp];simp only [Option.any_some]
   by_cases ht:x.At<(l[i - 1]'(by omega)).At
   ·rw [yN ht];rfl
   ·rw [yP ht,cond_false,cond_false,wX (by omega),hi]
theorem zIv {l:List xD} (hl:l.length<=100000):D5 281474976710656 l=some (bZ none l):=by
 unfold D5;rw [show B6 281474976710656 l 281474976710656 0=_ from zFu hl 281474976710656 0 (by simp;omega),zbs];simp only [zdz,bI,if_true];unfold toO
 by_cases h:bZ none l=0
 ·rw [if_pos h,h]
 ·rw [if_neg h]
def j7 (n:Int):Prop:=n<0\/n>1000000000000000
instance decOutP:DecidablePred j7:=fun n=>inferInstanceAs (Decidable (_\/_))
def pK (p:z7):Prop:=j7 p.Thread\/j7 p.Serial\/j7 p.Lost\/p.Lost>p.Serial\/p.Serial+p.Events.length>1000000000000000
instance decPackBad:DecidablePred pK:=fun n=>inferInstanceAs (Decidable (_\/_))
def t8 (p:z7):Int :=
 if pK p then 2 else
 if p.Events.length=0 then 8 else if p.Events.length>1000 then 7 else bZ none p.Events
theorem SG {p:z7} (hl:p.Events.length<=100000):gE 281474976710656 p=some (t8 p):=by
 unfold gE t8;have hloop:=OQ (l:=[p.Thread,p.Serial,p.Lost]) (H5 281474976710656 p) (fun _ x=>if j7 x then some (2:Int) else none) (fun n i hi=>by
  show dV 281474976710656 p _ _=_;unfold dV;simp only [zlc,List.length_nil] at hi;rw [yP (by omega)];rfl) (fun n i x r hd hlt=>by
  simp only [zlc,List.length_nil] at hlt;refine ⟨fun b hb=>?_,fun hb=>?_⟩
  ·show dV 281474976710656 p _ _=_;unfold dV
   by_cases ho:j7 x
   ·rw [if_pos ho] at hb;cases hb;rw [yN (by omega),cond_true,vE hd,zbs,EV ho];rfl
   ·rw [if_neg ho] at hb;cases hb
  ·show dV 281474976710656 p _ _=_;unfold dV
   by_cases ho:j7 x
   ·rw [if_pos ho] at hb;cases hb
   ·rw [yN (by omega),cond_true,vE hd,zbs,MM ho,cond_false,wX (by omega)]) (n:=281474976710656) (by show 3<281474976710656;omega)
 rw [hloop];simp only [uR]
 by_cases h1:j7 p.Thread
 ·rw [if_pos h1,if_pos (show pK p from (.inl h1))];rfl
 rw [if_neg h1]
 by_cases h2:j7 p.Serial
 ·simp only [if_pos h2];rw [if_pos (show pK p from (.inr (.inl h2)))];rfl
 simp only [if_neg h2]
 by_cases h3:j7 p.Lost
 ·simp only [if_pos h3];rw [if_pos (show pK p from (.inr (.inr (.inl h3))))];rfl
 simp only [if_neg h3,zbs];unfold j7 at h1 h2 h3
 by_cases h4:p.Lost>p.Serial
 ·rw [yN h4,if_pos (show pK p from (.inr (.inr (.inr (.inl h4)))))];rfl
 rw [yP h4,cond_false,zbs,w64 (by omega) (by omega)]
 by_cases h5:p.Serial+p.Events.length>1000000000000000
 ·rw [yN h5,if_pos (show pK p from (.inr (.inr (.inr (.inr h5)))))];rfl
 rw [yP h5,cond_false,if_neg (show ¬ pK p by unfold pK j7;omega)]
 by_cases h6:p.Events.length=0
 ·rw [u9 (by omega),if_pos h6];rfl
 rw [uK (by omega),cond_false,if_neg h6]
 by_cases h7:p.Events.length>1000
 ·rw [yN (by omega),if_pos h7];rfl
 rw [yP (by omega),cond_false,if_neg h7,zGT hl,zbs]
theorem UX {n:Int}:oN n=some (!decide (j7 n)):=by
 unfold oN
 congr 1
 by_cases h:j7 n
 ·rw [yN h];unfold j7 at h;simp;omega
 ·rw [yP h];unfold j7 at h;simp;omega
theorem RI {p:z7} (hl:p.Events.length<=100000):rG 281474976710656 p=some (t8 p):=by
 unfold rG t8;rw [UX,UX,UX];simp only [zbs,Bool.not_not]
 by_cases h1:j7 p.Thread
 ·rw [yN h1,if_pos (show pK p from (.inl h1))];rfl
 rw [yP h1,cond_false]
 by_cases h2:j7 p.Serial
 ·rw [yN h2,if_pos (show pK p from (.inr (.inl h2)))];rfl
 rw [yP h2,cond_false]
 by_cases h3:j7 p.Lost
 ·rw [yN h3,if_pos (show pK p from (.inr (.inr (.inl h3))))];rfl
 rw [yP h3,cond_false];unfold j7 at h1 h2 h3
 by_cases h4:p.Lost>p.Serial
 ·rw [yN h4,if_pos (show pK p from (.inr (.inr (.inr (.inl h4)))))];rfl
 rw [yP h4,zbs,cond_false,w64 (by omega) (by omega)]
 by_cases h5:p.Serial+p.Events.length>1000000000000000
 ·rw [yN (by omega),if_pos (show pK p from (.inr (.inr (.inr (.inr h5)))))];rfl
 rw [yP (by omega),cond_false,if_neg (show ¬ pK p by unfold pK j7;omega)]
 by_cases h6:p.Events.length=0
 ·rw [u9 (by omega),if_pos h6];rfl
 rw [uK (by omega),cond_false,if_neg h6]
 by_cases h7:p.Events.length>1000
 ·rw [yN (by omega),if_pos h7];rfl
 rw [yP (by omega),cond_false,if_neg h7,zIv hl,zbs]
theorem c9 {p:z7} (h:t8 p=0):0<=p.Thread/\p.Thread<=1000000000000000/\0<=p.Serial/\0<=p.Lost/\p.Lost<=p.Serial/\p.Serial+p.Events.length<=1000000000000000/\0<p.Events.length/\p.Events.length<=1000/\bZ none p.Events=0:=by
 unfold t8 at h
 by_cases h1:pK p
 ·rw [if_pos h1] at h;cases h
 rw [if_neg h1] at h;unfold pK j7 at h1
 by_cases h2:p.Events.length=0
 ·rw [if_pos h2] at h;cases h
 rw [if_neg h2] at h
 by_cases h3:p.Events.length>1000
 ·rw [if_pos h3] at h;cases h
 rw [if_neg h3] at h;exact ⟨by omega,by omega,by omega,by omega,by omega,by omega,by omega,by omega,h⟩
def pk0:z7:=⟨0,0,0,[]⟩
def zIm (a b:z7):Prop:=t8 a≠0\/t8 b≠0\/a.Thread≠b.Thread\/b.Lost≠0\/b.Serial≠a.Serial+a.Events.length
instance decJoinBad {a b:z7}:Decidable (zIm a b):=inferInstanceAs (Decidable (_\/_))
def EI (l:List xD):Int:=(l.head?.map (·.At)).getD 0
def GI (l:List xD):Int:=(l.getLast?.map (·.At)).getD 0
theorem V2 {l:List xD} (h:0<l.length):∃ x,yX l 0=some x/\x.At=EI l:=by
 cases l with
 | nil=>simp at h
 | cons x r=>exact ⟨x,rfl,rfl⟩
theorem W0 {l:List xD} (h:0<l.length) (h1:l.length<=100000):∃ x,yX l (zI ((l.length:Int) - 1))=some x/\x.At=GI l:=by
 have hne:l≠[]:=by intro e;rw [e] at h;simp at h
 rw [zCh (by omega) hne];unfold GI;rw [List.getLast?_eq_some_getLast hne];exact ⟨_,rfl,rfl⟩
def zDw (p:z7) (n:Int):Prop:=t8 p≠0\/n<1\/n>=p.Events.length
instance decSplitBad {p:z7} {n:Int}:Decidable (zDw p n):=inferInstanceAs (Decidable (_\/_))
theorem b8 {α:Type} {l:List α} {n:Int} (h0:0<=n):sub l n (l.length:Int)=l.drop n.toNat:=by
 unfold sub;rw [Int.toNat_natCast,List.take_length]
theorem oP {α:Type} {l:List α} {n:Int} (h0:0<=n):sub l 0 n=l.take n.toNat:=by
 unfold sub;simp
end Go.Ab
