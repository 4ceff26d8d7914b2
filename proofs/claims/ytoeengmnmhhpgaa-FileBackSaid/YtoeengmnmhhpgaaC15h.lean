/- Plain laws of the functions w6 this seat's, laid anew from another seat's text. No conditions but those that the theorems name. -/
import Derived.Test.YtoeengmnmhhpgaaP15xD
import Derived.Test.YtoeengmnmhhpgaaR15
import Derived.Test.YtoeengmnmhhpgaaB15a
import Derived.Test.YtoeengmnmhhpgaaB15b
import Derived.Test.YtoeengmnmhhpgaaB15c
import Derived.Test.YtoeengmnmhhpgaaB15d
import Derived.Test.YtoeengmnmhhpgaaB15e
import Derived.Test.YtoeengmnmhhpgaaB15f
import Derived.Test.YtoeengmnmhhpgaaB15g
import Derived.Test.YtoeengmnmhhpgaaB15h
import Derived.Test.YtoeengmnmhhpgaaB15i
import Derived.Test.YtoeengmnmhhpgaaB15j
import Derived.Test.YtoeengmnmhhpgaaB15k
import Derived.Test.YtoeengmnmhhpgaaB15t
import Derived.Test.YtoeengmnmhhpgaaB15m
import Derived.Test.YtoeengmnmhhpgaaB15n
import Derived.Test.YtoeengmnmhhpgaaB15o
import Derived.Test.YtoeengmnmhhpgaaC15a
import Derived.Test.YtoeengmnmhhpgaaC15b
import Derived.Test.YtoeengmnmhhpgaaC15c
import Derived.Test.YtoeengmnmhhpgaaC15d
import Derived.Test.YtoeengmnmhhpgaaC15e
import Derived.Test.YtoeengmnmhhpgaaC15f
import Derived.Test.YtoeengmnmhhpgaaC15g
namespace Go.Ab
open Go
set_option linter.unusedVariables false
abbrev zD:z9:=⟨(0:Int),[],(0:Int),(0:Int),false⟩
theorem RU {p q:Prop} [Decidable p] [Decidable q]:(decide p||decide q)=decide (p∨q):=by
 by_cases hp:p
 ·simp [hp]
 ·simp [hp]
def cD (d:z9):Prop:=d.Size<1∨d.Size>1048576∨(d.Data.length:Int)>d.Size∨d.Durable<0∨d.Durable>(d.Data.length:Int)∨d.Left < -1∨d.Left>1048576
instance decBadD {d:z9}:Decidable (cD d):=inferInstanceAs (Decidable (_∨_))
def u5 (d:z9):Int:=if cD d then 2 else 0
theorem Y0 (d:z9):(decide (d.Size<(1:Int))||(decide (d.Size>(1048576:Int))||(decide ((((d.Data).length:Nat):Int)>d.Size)||(decide (d.Durable<(0:Int))||(decide (d.Durable>(((d.Data).length:Nat):Int))||(decide (d.Left<(-1:Int))||decide (d.Left>(1048576:Int))))))))=decide (cD d):=by
 rw [Bool.eq_iff_iff]
 simp only [Bool.or_eq_true,decide_eq_true_eq]
 rfl
theorem K0 (d:z9):cJ d=some (u5 d):=by
 unfold cJ u5
 rw [Y0]
 by_cases h:cD d
 ·rw [yR h,if_pos h];rfl
 ·rw [yO h,if_neg h];rfl
theorem DN {d:z9} (h:u5 d=0):1≤d.Size∧d.Size≤1048576∧(d.Data.length:Int)≤d.Size∧0≤d.Durable∧d.Durable≤d.Data.length ∧ -1≤d.Left∧d.Left≤1048576:=by
 unfold u5 at h
 split at h
 ·cases h
 ·rename_i hn
  unfold cD at hn
  omega
def upD (d:z9):z9×Int:=if u5 d≠0 then (zD,u5 d) else if d.Down=true then (d,19) else (d,0)
theorem JX (d:z9):(u5 d≠0∧upD d=(zD,u5 d))∨(u5 d=0∧d.Down=true∧upD d=(d,19))∨(u5 d=0∧d.Down=false∧upD d=(d,0)):=by
 unfold upD
 by_cases h:u5 d=0
 ·rw [if_neg (by simpa using h)]
  cases hd:d.Down
  ·exact .inr (.inr ⟨h,rfl,by simp⟩)
  ·exact .inr (.inl ⟨h,rfl,by simp⟩)
 ·exact .inl ⟨h,if_pos h⟩
theorem SY (d:z9):bM d=some (upD d):=by
 unfold bM
 rw [K0,zbs]
 rcases JX d with ⟨h,e⟩ | ⟨h,hd,e⟩ | ⟨h,hd,e⟩
 ·rw [e,wA h,cond_true]
 ·rw [e,x8 h,cond_false,hd,cond_true]
 ·have:=DN h
  rw [e,x8 h,cond_false,hd,cond_false]
  unfold CF
  rw [xY (by simp only [List.length_nil];omega),zbs,zbs,List.nil_append]
  rw [← hd]
def fI (d:z9) (b:List Int):z9×Int :=
 if (upD d).2≠0 then upD d else if (d.Data.length:Int)+b.length>d.Size then (zD,6) else
 if 0≤d.Left∧d.Left<b.length then (⟨d.Size,d.Data++b.take d.Left.toNat,d.Durable,0,true⟩,19) else
 (⟨d.Size,d.Data++b,d.Durable,if 0≤d.Left then d.Left - b.length else d.Left,d.Down⟩,0)
theorem VQ {d:z9} {b:List Int} (hb:b.length≤100000000):C7 d b=some (fI d b):=by
 unfold C7 fI
 rw [SY,zbs]
 rcases JX d with ⟨h,e⟩ | ⟨h,hd,e⟩ | ⟨h,hd,e⟩
 ·rw [e,wA h,cond_true,if_pos h]
 ·rw [e,wA (show (19:Int)≠0 by decide),cond_true,if_pos (show (19:Int)≠0 by decide)]
 ·obtain ⟨q1,q2,q3,q4,q5,q6,q7⟩:=DN h
  rw [e,x8 (show (0:Int)=0 from rfl),cond_false,if_neg (show ¬ (0:Int)≠0 by decide)]
  simp only
  rw [w64 (by omega) (by omega)]
  by_cases h1:(d.Data.length:Int)+b.length>d.Size
  ·rw [yR h1,cond_true,if_pos h1]
  ·rw [yO h1,cond_false,if_neg h1]
   by_cases h2:0≤d.Left∧d.Left<b.length
   ·rw [yR (show d.Left≥0 from h2.1),yR h2.2,Bool.and_self,cond_true,if_pos h2,xY (by omega),zbs,MQ h2.1,xY (by simp only [List.length_take];omega),zbs]
   ·rw [show (decide (d.Left≥(0:Int))&&decide (d.Left<((b.length:Nat):Int)))=false by
     rw [Bool.and_eq_false_iff]
     by_cases h3:0≤d.Left
     ·exact .inr (yO fun h4=>h2 ⟨h3,h4⟩)
     ·exact .inl (yO h3),cond_false,if_neg h2,xY (by omega),zbs]
    by_cases h3:0≤d.Left
    ·rw [yR (show d.Left≥0 from h3),cond_true,w64 (by omega) (by omega),if_pos h3]
    ·rw [yO (show ¬ d.Left≥0 from h3),cond_false,if_neg h3]
def HD (d:z9):z9×Int :=
 if (upD d).2≠0 then upD d else if d.Left=0 then (⟨d.Size,d.Data,d.Durable,d.Left,true⟩,19) else (⟨d.Size,d.Data,d.Data.length,d.Left,d.Down⟩,0)
theorem YU (d:z9):mL d=some (HD d):=by
 unfold mL HD
 rw [SY,zbs]
 rcases JX d with ⟨h,e⟩ | ⟨h,hd,e⟩ | ⟨h,hd,e⟩
 ·rw [e,wA h,cond_true,if_pos h]
 ·rw [e,wA (show (19:Int)≠0 by decide),cond_true,if_pos (show (19:Int)≠0 by decide)]
 ·rw [e,x8 (show (0:Int)=0 from rfl),cond_false,if_neg (show ¬ (0:Int)≠0 by decide)]
  simp only
  by_cases hl:d.Left=0
  ·rw [uW hl,cond_true,if_pos hl]
  ·rw [qQ hl,cond_false,if_neg hl]
/-! Writing chunks. -/
def fN:z9→List (List Int)→z9⊕(z9×Int)
 | d,[]=>.inl d
 | d,b::r=>if (fI d b).2≠0 then .inr (fI d b) else fN (fI d b).1 r
def rS (d:z9) (l:List (List Int)):z9×Int:=match fN d l with
 | .inl d'=>HD d'
 | .inr q=>q
def QF:z9⊕(z9×Int)→(Int×(List Int)×Int×Int×Bool)⊕(z9×Int)
 | .inl d=>.inl (d.Size,d.Data,d.Durable,d.Left,d.Down)
 | .inr q=>.inr q
def GB (l:List (List Int)):Prop:=l.length≤100000∧∀ b∈l,b.length≤1000000
theorem BB {α:Type} {l r:List α} {i:Nat} {x:α} (h:l.drop i=x::r):x∈l:=List.mem_of_mem_drop (by rw [h];simp)
theorem qF {α:Type} {l r:List α} {i:Nat} {x:α} (h:l.drop i=x::r):l.drop (i+1)=r:=by
 rw [← List.tail_drop,h];rfl
theorem cM {α:Type} {l r:List α} {i:Nat} {x:α} (h:l.drop i=x::r):i<l.length:=by
 rcases zlg i l.length with h1 | h1
 ·exact h1
 ·rw [List.drop_eq_nil_of_le h1] at h;cases h
theorem Z0 {l:List (List Int)} (hl:GB l):∀ (n i:Nat) (d:z9),(l.drop i).length<n →
  BD 281474976710656 l n (i:Nat) d.Size d.Data d.Durable d.Left d.Down=some (QF (fN d (l.drop i))):=by
 intro n
 induction n with
 | zero=>intro i d h;omega
 | succ n ih =>
  intro i d hn
  show BP _ _ _ _ _ _ _ _ _=_
  unfold BP
  cases hd:l.drop i with
  | nil =>
   have:l.length≤i:=List.drop_eq_nil_iff.1 hd
   rw [yO (by omega),cond_false];rfl
  | cons b r =>
   have h1:=cM hd
   have h2:=hl.2 b (BB hd)
   have h3:=hl.1
   rw [hd] at hn
   rw [yR (by omega),cond_true,w9 hd,zbs,VQ (by omega),zbs]
   unfold fN
   by_cases he:(fI d b).2=0
   ·rw [x8 he,cond_false,if_neg (by simpa using he),vC (by omega),ih (i+1) _ (by rw [qF hd];simp only [zlc] at hn;omega),qF hd]
   ·rw [wA he,cond_true,if_pos he];rfl
theorem R4 {d:z9} {l:List (List Int)} (hl:GB l):mK 281474976710656 d l=some (rS d l):=by
 unfold mK rS
 have:=hl.1
 have h:=Z0 hl 281474976710656 0 d (by simp only [zdz];omega)
 rw [zdz] at h
 rw [show (((0:Nat):Nat):Int)=(0:Int) from rfl] at h
 rw [h,zbs]
 cases fN d l with
 | inl d'=>simp only [QF];rw [YU,zbs]
 | inr q=>rfl
end Go.Ab
