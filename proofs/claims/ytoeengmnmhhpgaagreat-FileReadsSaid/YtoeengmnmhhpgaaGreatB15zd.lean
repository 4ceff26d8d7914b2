/- Plain laws of the functions uV this seat's, laid anew from another seat's text. No conditions but those that the theorems name. -/
import Derived.Test.YtoeengmnmhhpgaaGreatP15zxD
import Derived.Test.YtoeengmnmhhpgaaGreatB15za
import Derived.Test.YtoeengmnmhhpgaaGreatB15zb
import Derived.Test.YtoeengmnmhhpgaaGreatB15zc
namespace Go.Ab
open Go
set_option linter.unusedVariables false
def n7:Option Int→List yW→Int
 | _,[]=>0
 | p,e::r=>if evS e≠0 then evS e else bif p.any (fun a=>decide (e.At<a)) then 11 else n7 (some e.At) r
def aF (l:List yW) (i:Nat):Option Int:=if i=0 then none else (l[i - 1]?).map (·.At)
theorem WO {l:List yW} {i:Nat} {x:yW} {r:List yW} (h:l.drop i=x::r):aF l (i+1)=some x.At:=by
 unfold aF
 rw [if_neg (by omega),Nat.add_sub_cancel,GI h];rfl
theorem zBj {l:List yW} (hl:l.length≤100000):∀ n i,(l.drop i).length<n→AL 281474976710656 l n (i:Nat)=some (toO (n7 (aF l i) (l.drop i))):=by
 intro n
 induction n with
 | zero=>intro i h;omega
 | succ n ih =>
  intro i hn
  show DP _ _ _ _=_
  unfold DP
  rcases hd:l.drop i with _ | ⟨x,r⟩
  ·have:=tZ hd
   rw [yM (by omega)];rfl
  have hlt:=tQ hd
  have hi:=ih (i+1) (by rw [hd] at hn;rw [wZ hd];simp at hn;omega)
  rw [WO hd,wZ hd] at hi
  rw [yP (by omega),cond_true,w5 hd,zbs,MW,zbs]
  simp only [n7]
  by_cases he:evS x≠0
  ·rw [wE he,if_pos he,EP he];rfl
  rw [wF (by omega),cond_false,if_neg he]
  by_cases h0:i=0
  ·subst h0
   rw [yM (by omega),cond_false,zbs,cond_false,wW (by omega),hi]
   simp [aF]
  ·rw [yP (by omega),cond_true,QQ (by omega) (by omega)]
   have hp:aF l i=some (l[i - 1]'(by omega)).At:=by unfold aF;rw [if_neg h0,List.getElem?_eq_getElem (by omega)];rfl
   rw [List.getElem?_eq_getElem (by omega),zbs,zbs,hp]
   simp only [Option.any_some]
   by_cases ht:x.At<(l[i - 1]'(by omega)).At
   ·rw [yP ht];rfl
   ·rw [yM ht,cond_false,cond_false,wW (by omega),hi]
theorem zGD {l:List yW} (hl:l.length≤100000):C2 281474976710656 l=some (n7 none l):=by
 unfold C2
 rw [show AL 281474976710656 l 281474976710656 0=_ from zBj hl 281474976710656 0 (by simp;omega),zbs]
 simp only [List.drop_zero,aF,if_true]
 unfold toO
 by_cases h:n7 none l=0
 ·rw [if_pos h,h]
 ·rw [if_neg h]
theorem zFA {l:List yW} (hl:l.length≤100000):∀ n i,(l.drop i).length<n→AE 281474976710656 l n (i:Nat)=some (toO (n7 (aF l i) (l.drop i))):=by
 intro n
 induction n with
 | zero=>intro i h;omega
 | succ n ih =>
  intro i hn
  show D9 _ _ _ _=_
  unfold D9
  rcases hd:l.drop i with _ | ⟨x,r⟩
  ·have:=tZ hd
   rw [yM (by omega)];rfl
  have hlt:=tQ hd
  have hi:=ih (i+1) (by rw [hd] at hn;rw [wZ hd];simp at hn;omega)
  rw [WO hd,wZ hd] at hi
  rw [yP (by omega),cond_true,w5 hd,zbs,Q5,zbs]
  simp only [n7]
  by_cases he:evS x≠0
  ·rw [wE he,if_pos he,EP he];rfl
  rw [wF (by omega),cond_false,if_neg he]
  by_cases h0:i=0
  ·subst h0
   rw [yM (by omega),cond_false,zbs,cond_false,wW (by omega),hi]
   simp [aF]
  ·rw [yP (by omega),cond_true,zbs,QQ (by omega) (by omega)]
   have hp:aF l i=some (l[i - 1]'(by omega)).At:=by unfold aF;rw [if_neg h0,List.getElem?_eq_getElem (by omega)];rfl
   rw [List.getElem?_eq_getElem (by omega),zbs,zbs,hp]
   simp only [Option.any_some]
   by_cases ht:x.At<(l[i - 1]'(by omega)).At
   ·rw [yP ht];rfl
   ·rw [yM ht,cond_false,cond_false,wW (by omega),hi]
theorem zAw {l:List yW} (hl:l.length≤100000):GN 281474976710656 l=some (n7 none l):=by
 unfold GN
 rw [show AE 281474976710656 l 281474976710656 0=_ from zFA hl 281474976710656 0 (by simp;omega),zbs]
 simp only [List.drop_zero,aF,if_true]
 unfold toO
 by_cases h:n7 none l=0
 ·rw [if_pos h,h]
 ·rw [if_neg h]
theorem zDJ:∀ {l:List yW} {p:Option Int},n7 p l=0→∀ e∈l,evS e=0:=by
 intro l
 induction l with
 | nil=>intro p _ e he;cases he
 | cons x r ih =>
  intro p h e he
  simp only [n7] at h
  by_cases hx:evS x≠0
  ·rw [if_pos hx] at h;exact absurd h hx
  rw [if_neg hx] at h
  cases hb:p.any (fun a=>decide (x.At<a))<;>rw [hb] at h
  case true=>cases h
  ·rcases List.mem_cons.1 he with rfl | he
   ·omega
   ·exact ih h e he
def jL (n:Int):Prop:=n<0∨n>1000000000000000
instance decOutP:DecidablePred jL:=fun n=>inferInstanceAs (Decidable (_∨_))
def kQ (p:z8):Prop:=jL p.Thread∨jL p.Serial∨jL p.Lost∨p.Lost>p.Serial∨p.Serial+p.Events.length>1000000000000000
instance decPackBad:DecidablePred kQ:=fun n=>inferInstanceAs (Decidable (_∨_))
def qI (p:z8):Int :=
 if kQ p then 2 else
 if p.Events.length=0 then 8 else if p.Events.length>1000 then 7 else n7 none p.Events
theorem S1 {p:z8} (hl:p.Events.length≤100000):fO 281474976710656 p=some (qI p):=by
 unfold fO qI
 have hloop:=K0 (l:=[p.Thread,p.Serial,p.Lost]) (DT 281474976710656 p) (fun _ x=>if jL x then some (2:Int) else none) (fun n i hi=>by
  show cS 281474976710656 p _ _=_
  unfold cS
  simp only [List.length_cons,List.length_nil] at hi
  rw [yM (by omega)];rfl) (fun n i x r hd hlt=>by
  simp only [List.length_cons,List.length_nil] at hlt
  refine ⟨fun b hb=>?_,fun hb=>?_⟩
  ·show cS 281474976710656 p _ _=_
   unfold cS
   by_cases ho:jL x
   ·rw [if_pos ho] at hb;cases hb
    rw [yP (by omega),cond_true,w5 hd,zbs,G7 ho];rfl
   ·rw [if_neg ho] at hb;cases hb
  ·show cS 281474976710656 p _ _=_
   unfold cS
   by_cases ho:jL x
   ·rw [if_pos ho] at hb;cases hb
   ·rw [yP (by omega),cond_true,w5 hd,zbs,LF ho,cond_false,wW (by omega)]) (n:=281474976710656) (by show 3<281474976710656;omega)
 rw [hloop]
 simp only [uS]
 by_cases h1:jL p.Thread
 ·rw [if_pos h1,if_pos (show kQ p from (.inl h1))];rfl
 rw [if_neg h1]
 by_cases h2:jL p.Serial
 ·simp only [if_pos h2];rw [if_pos (show kQ p from (.inr (.inl h2)))];rfl
 simp only [if_neg h2]
 by_cases h3:jL p.Lost
 ·simp only [if_pos h3];rw [if_pos (show kQ p from (.inr (.inr (.inl h3))))];rfl
 simp only [if_neg h3,zbs]
 unfold jL at h1 h2 h3
 by_cases h4:p.Lost>p.Serial
 ·rw [yP h4,if_pos (show kQ p from (.inr (.inr (.inr (.inl h4)))))];rfl
 rw [yM h4,cond_false,zbs,w64 (by omega) (by omega)]
 by_cases h5:p.Serial+p.Events.length>1000000000000000
 ·rw [yP h5,if_pos (show kQ p from (.inr (.inr (.inr (.inr h5)))))];rfl
 rw [yM h5,cond_false,if_neg (show ¬ kQ p by unfold kQ jL;omega)]
 by_cases h6:p.Events.length=0
 ·rw [uF (by omega),if_pos h6];rfl
 rw [uH (by omega),cond_false,if_neg h6]
 by_cases h7:p.Events.length>1000
 ·rw [yP (by omega),if_pos h7];rfl
 rw [yM (by omega),cond_false,if_neg h7,zGD hl,zbs]
theorem ND {n:Int}:lA n=some (!decide (jL n)):=by
 unfold lA
 congr 1
 by_cases h:jL n
 ·rw [yP h];unfold jL at h;simp;omega
 ·rw [yM h];unfold jL at h;simp;omega
theorem UI {p:z8} (hl:p.Events.length≤100000):rZ 281474976710656 p=some (qI p):=by
 unfold rZ qI
 rw [ND,ND,ND]
 simp only [zbs,Bool.not_not]
 by_cases h1:jL p.Thread
 ·rw [yP h1,if_pos (show kQ p from (.inl h1))];rfl
 rw [yM h1,cond_false]
 by_cases h2:jL p.Serial
 ·rw [yP h2,if_pos (show kQ p from (.inr (.inl h2)))];rfl
 rw [yM h2,cond_false]
 by_cases h3:jL p.Lost
 ·rw [yP h3,if_pos (show kQ p from (.inr (.inr (.inl h3))))];rfl
 rw [yM h3,cond_false]
 unfold jL at h1 h2 h3
 by_cases h4:p.Lost>p.Serial
 ·rw [yP h4,if_pos (show kQ p from (.inr (.inr (.inr (.inl h4)))))];rfl
 rw [yM h4,zbs,cond_false,w64 (by omega) (by omega)]
 by_cases h5:p.Serial+p.Events.length>1000000000000000
 ·rw [yP (by omega),if_pos (show kQ p from (.inr (.inr (.inr (.inr h5)))))];rfl
 rw [yM (by omega),cond_false,if_neg (show ¬ kQ p by unfold kQ jL;omega)]
 by_cases h6:p.Events.length=0
 ·rw [uF (by omega),if_pos h6];rfl
 rw [uH (by omega),cond_false,if_neg h6]
 by_cases h7:p.Events.length>1000
 ·rw [yP (by omega),if_pos h7];rfl
 rw [yM (by omega),cond_false,if_neg h7,zAw hl,zbs]
theorem bN {p:z8} (h:qI p=0):0≤p.Thread∧p.Thread≤1000000000000000∧0≤p.Serial∧0≤p.Lost∧p.Lost≤p.Serial∧p.Serial+p.Events.length≤1000000000000000∧0<p.Events.length∧p.Events.length≤1000∧n7 none p.Events=0:=by
 unfold qI at h
 by_cases h1:kQ p
 ·rw [if_pos h1] at h;cases h
 rw [if_neg h1] at h
 unfold kQ jL at h1
 by_cases h2:p.Events.length=0
 ·rw [if_pos h2] at h;cases h
 rw [if_neg h2] at h
 by_cases h3:p.Events.length>1000
 ·rw [if_pos h3] at h;cases h
 rw [if_neg h3] at h
 exact ⟨by omega,by omega,by omega,by omega,by omega,by omega,by omega,by omega,h⟩
theorem zBQ (a b:z8) (h1:a.Thread=b.Thread) (h2:a.Serial=b.Serial) (h3:a.Lost=b.Lost):decide (a=b)=decide (a.Events=b.Events):=by
 by_cases h:a.Events=b.Events
 ·rw [yP h,yP]
  obtain ⟨_,_,_,_⟩:=a;obtain ⟨_,_,_,_⟩:=b;simp_all
 ·rw [yM h,yM]
  intro e;exact h (by rw [e])
theorem zB9 {a b:z8} (hl:a.Events.length≤140737488355328) (hs:∀ e∈a.Events,e.Stack.length≤140737488355328):D4 281474976710656 a b=some (decide (a=b)):=by
 unfold D4
 by_cases h1:a.Thread=b.Thread
 case neg=>rw [wE h1,yM (fun e=>h1 (by rw [e]))];rfl
 by_cases h2:a.Serial=b.Serial
 case neg=>rw [wE h2,yM (fun e=>h2 (by rw [e])),Bool.true_or,Bool.or_true];rfl
 by_cases h3:a.Lost=b.Lost
 case neg=>rw [wE h3,yM (fun e=>h3 (by rw [e])),Bool.true_or,Bool.or_true,Bool.or_true];rfl
 by_cases h4:a.Events.length=b.Events.length
 case neg=>rw [wE (a:=(a.Events.length:Int)) (by omega),yM (fun e=>h4 (by rw [e])),Bool.or_true,Bool.or_true,Bool.or_true];rfl
 rw [wF h1,wF h2,wF h3,wF (a:=(a.Events.length:Int)) (by omega),zBQ a b h1 h2 h3]
 simp only [Bool.or_self,cond_false]
 rw [BQ (a:=a.Events) (b:=b.Events) (D6 281474976710656 a b) h4 hl (fun n i hi=>by
  show oE _ _ _ _ _=_
  unfold oE
  simp (disch:=omega) only [yM,cond_false]) (fun n i x y r r2 hd hd2 hlt=>by
  show oE _ _ _ _ _=_
  unfold oE
  rw [yP (by omega),cond_true,w5 hd,zbs,w5 hd2,zbs,zAJ (hs x (nI hd)),zbs,wW (by omega)]
  by_cases h:x=y
  ·rw [yP h,if_pos h];rfl
  ·rw [yM h,if_neg h];rfl),zbs]
 by_cases h:a.Events=b.Events
 ·rw [if_pos h,yP h]
 ·rw [if_neg h,yM h]
def pk0:z8:=⟨0,0,0,[]⟩
def zDx (a b:z8):Prop:=qI a≠0∨qI b≠0∨a.Thread≠b.Thread∨b.Lost≠0∨b.Serial≠a.Serial+a.Events.length
instance decJoinBad {a b:z8}:Decidable (zDx a b):=inferInstanceAs (Decidable (_∨_))
def GE (l:List yW):Int:=(l.head?.map (·.At)).getD 0
def DN (l:List yW):Int:=(l.getLast?.map (·.At)).getD 0
theorem SP {l:List yW} (h:0<l.length):∃ x,yZ l 0=some x∧x.At=GE l:=by
 cases l with
 | nil=>simp at h
 | cons x r=>exact ⟨x,rfl,rfl⟩
theorem SU {l:List yW} (h:0<l.length) (h1:l.length≤100000):∃ x,yZ l (zG ((l.length:Int) - 1))=some x∧x.At=DN l:=by
 have hne:l≠[]:=by intro e;rw [e] at h;simp at h
 rw [zC1 (by omega) hne]
 unfold DN
 rw [List.getLast?_eq_some_getLast hne]
 exact ⟨_,rfl,rfl⟩
def ZZ (p:z8) (n:Int):Prop:=qI p≠0∨n<1∨n≥p.Events.length
instance decSplitBad {p:z8} {n:Int}:Decidable (ZZ p n):=inferInstanceAs (Decidable (_∨_))
theorem aV {α:Type} {l:List α} {n:Int} (h0:0≤n):sub l n (l.length:Int)=l.drop n.toNat:=by
 unfold sub;rw [Int.toNat_natCast,List.take_length]
theorem SH {α:Type} {l:List α} {n:Int} (h0:0≤n):sub l 0 n=l.take n.toNat:=by
 unfold sub;simp
end Go.Ab
