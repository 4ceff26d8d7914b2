/- Plain laws of the functions wU this seat's, laid anew from another seat's text. No conditions but those that the theorems name. -/
import Derived.Test.YtoeengmnmhhpgaaP15xD
import Derived.Test.YtoeengmnmhhpgaaR15
import Derived.Test.YtoeengmnmhhpgaaB15a
import Derived.Test.YtoeengmnmhhpgaaB15b
import Derived.Test.YtoeengmnmhhpgaaB15c
import Derived.Test.YtoeengmnmhhpgaaB15d
import Derived.Test.YtoeengmnmhhpgaaB15e
import Derived.Test.YtoeengmnmhhpgaaB15f
import Derived.Test.YtoeengmnmhhpgaaB15g
import Derived.Test.YtoeengmnmhhpgaaB15h
import Derived.Test.YtoeengmnmhhpgaaB15i
import Derived.Test.YtoeengmnmhhpgaaB15j
import Derived.Test.YtoeengmnmhhpgaaB15k
import Derived.Test.YtoeengmnmhhpgaaB15t
import Derived.Test.YtoeengmnmhhpgaaB15m
import Derived.Test.YtoeengmnmhhpgaaB15n
import Derived.Test.YtoeengmnmhhpgaaB15o
import Derived.Test.YtoeengmnmhhpgaaC15a
import Derived.Test.YtoeengmnmhhpgaaC15b
import Derived.Test.YtoeengmnmhhpgaaC15c
import Derived.Test.YtoeengmnmhhpgaaC15d
import Derived.Test.YtoeengmnmhhpgaaC15e
import Derived.Test.YtoeengmnmhhpgaaC15f
import Derived.Test.YtoeengmnmhhpgaaC15g
namespace Go.Ab
open Go
set_option linter.unusedVariables false
abbrev zD:z8:=⟨(0:Int),[],(0:Int),(0:Int),false⟩
theorem J1 {p q:Prop} [Decidable p] [Decidable q]:(decide p||decide q)=decide (p∨q):=by
 by_cases hp:p
 ·simp [hp]
 ·simp [hp]
def pT (d:z8):Prop:=d.Size<1∨d.Size>1048576∨(d.Data.length:Int)>d.Size∨d.Durable<0∨d.Durable>(d.Data.length:Int)∨d.Left < -1∨d.Left>1048576
instance decBadD {d:z8}:Decidable (pT d):=inferInstanceAs (Decidable (_∨_))
def vU (d:z8):Int:=if pT d then 2 else 0
theorem zBY (d:z8):(decide (d.Size<(1:Int))||(decide (d.Size>(1048576:Int))||(decide ((((d.Data).length:Nat):Int)>d.Size)||(decide (d.Durable<(0:Int))||(decide (d.Durable>(((d.Data).length:Nat):Int))||(decide (d.Left<(-1:Int))||decide (d.Left>(1048576:Int))))))))=decide (pT d):=by
 rw [Bool.eq_iff_iff]
 simp only [Bool.or_eq_true,decide_eq_true_eq]
 rfl
theorem B5 (d:z8):dF d=some (vU d):=by
 unfold dF vU
 rw [zBY]
 by_cases h:pT d
 ·rw [yU h,if_pos h];rfl
 ·rw [yO h,if_neg h];rfl
theorem fE {d:z8} (h:vU d=0):1≤d.Size∧d.Size≤1048576∧(d.Data.length:Int)≤d.Size∧0≤d.Durable∧d.Durable≤d.Data.length ∧ -1≤d.Left∧d.Left≤1048576:=by
 unfold vU at h
 split at h
 ·cases h
 ·rename_i hn
  unfold pT at hn
  omega
def upD (d:z8):z8×Int:=if vU d≠0 then (zD,vU d) else if d.Down=true then (d,19) else (d,0)
theorem D9 (d:z8):(vU d≠0∧upD d=(zD,vU d))∨(vU d=0∧d.Down=true∧upD d=(d,19))∨(vU d=0∧d.Down=false∧upD d=(d,0)):=by
 unfold upD
 by_cases h:vU d=0
 ·rw [if_neg (by simpa using h)]
  cases hd:d.Down
  ·exact .inr (.inr ⟨h,rfl,by simp⟩)
  ·exact .inr (.inl ⟨h,rfl,by simp⟩)
 ·exact .inl ⟨h,if_pos h⟩
theorem JM (d:z8):bK d=some (upD d):=by
 unfold bK
 rw [B5,zbs]
 rcases D9 d with ⟨h,e⟩ | ⟨h,hd,e⟩ | ⟨h,hd,e⟩
 ·rw [e,wA h,cond_true]
 ·rw [e,x8 h,cond_false,hd,cond_true]
 ·have:=fE h
  rw [e,x8 h,cond_false,hd,cond_false]
  unfold rR
  rw [x7 (by simp only [List.length_nil];omega),zbs,zbs,List.nil_append]
  rw [← hd]
def aP (d:z8) (b:List Int):z8×Int :=
 if (upD d).2≠0 then upD d else if (d.Data.length:Int)+b.length>d.Size then (zD,6) else
 if 0≤d.Left∧d.Left<b.length then (⟨d.Size,d.Data++b.take d.Left.toNat,d.Durable,0,true⟩,19) else
 (⟨d.Size,d.Data++b,d.Durable,if 0≤d.Left then d.Left - b.length else d.Left,d.Down⟩,0)
theorem XB {d:z8} {b:List Int} (hb:b.length≤100000000):DD d b=some (aP d b):=by
 unfold DD aP
 rw [JM,zbs]
 rcases D9 d with ⟨h,e⟩ | ⟨h,hd,e⟩ | ⟨h,hd,e⟩
 ·rw [e,wA h,cond_true,if_pos h]
 ·rw [e,wA (show (19:Int)≠0 by decide),cond_true,if_pos (show (19:Int)≠0 by decide)]
 ·obtain ⟨q1,q2,q3,q4,q5,q6,q7⟩:=fE h
  rw [e,x8 (show (0:Int)=0 from rfl),cond_false,if_neg (show ¬ (0:Int)≠0 by decide)]
  simp only
  rw [w64 (by omega) (by omega)]
  by_cases h1:(d.Data.length:Int)+b.length>d.Size
  ·rw [yU h1,cond_true,if_pos h1]
  ·rw [yO h1,cond_false,if_neg h1]
   by_cases h2:0≤d.Left∧d.Left<b.length
   ·rw [yU (show d.Left≥0 from h2.1),yU h2.2,Bool.and_self,cond_true,if_pos h2,x7 (by omega),zbs,H5 h2.1,x7 (by simp only [List.length_take];omega),zbs]
   ·rw [show (decide (d.Left≥(0:Int))&&decide (d.Left<((b.length:Nat):Int)))=false by
     rw [Bool.and_eq_false_iff]
     by_cases h3:0≤d.Left
     ·exact .inr (yO fun h4=>h2 ⟨h3,h4⟩)
     ·exact .inl (yO h3),cond_false,if_neg h2,x7 (by omega),zbs]
    by_cases h3:0≤d.Left
    ·rw [yU (show d.Left≥0 from h3),cond_true,w64 (by omega) (by omega),if_pos h3]
    ·rw [yO (show ¬ d.Left≥0 from h3),cond_false,if_neg h3]
def lT (d:z8):z8×Int :=
 if (upD d).2≠0 then upD d else if d.Left=0 then (⟨d.Size,d.Data,d.Durable,d.Left,true⟩,19) else (⟨d.Size,d.Data,d.Data.length,d.Left,d.Down⟩,0)
theorem U8 (d:z8):m9 d=some (lT d):=by
 unfold m9 lT
 rw [JM,zbs]
 rcases D9 d with ⟨h,e⟩ | ⟨h,hd,e⟩ | ⟨h,hd,e⟩
 ·rw [e,wA h,cond_true,if_pos h]
 ·rw [e,wA (show (19:Int)≠0 by decide),cond_true,if_pos (show (19:Int)≠0 by decide)]
 ·rw [e,x8 (show (0:Int)=0 from rfl),cond_false,if_neg (show ¬ (0:Int)≠0 by decide)]
  simp only
  by_cases hl:d.Left=0
  ·rw [uE hl,cond_true,if_pos hl]
  ·rw [tA hl,cond_false,if_neg hl]
def lO (d:z8) (n:Int):z8×Int :=
 if (upD d).2≠0 then upD d else if n<0∨n>d.Data.length then (zD,2) else (⟨d.Size,d.Data.take n.toNat,aW d.Durable n,d.Left,d.Down⟩,0)
theorem zBc (d:z8) (n:Int):CN d n=some (lO d n):=by
 unfold CN lO
 rw [JM,zbs]
 rcases D9 d with ⟨h,e⟩ | ⟨h,hd,e⟩ | ⟨h,hd,e⟩
 ·rw [e,wA h,cond_true,if_pos h]
 ·rw [e,wA (show (19:Int)≠0 by decide),cond_true,if_pos (show (19:Int)≠0 by decide)]
 ·rw [e,x8 (show (0:Int)=0 from rfl),cond_false,if_neg (show ¬ (0:Int)≠0 by decide)]
  simp only
  rw [J1]
  by_cases hl:n<0∨n>(d.Data.length:Int)
  ·rw [yU hl,cond_true,if_pos hl]
  ·rw [yO hl,cond_false,if_neg hl,x7 (by omega),zbs,H5 (by omega)]
/-! Writing chunks. -/
def aG:z8→List (List Int)→z8⊕(z8×Int)
 | d,[]=>.inl d
 | d,b::r=>if (aP d b).2≠0 then .inr (aP d b) else aG (aP d b).1 r
def dK (d:z8) (l:List (List Int)):z8×Int:=match aG d l with
 | .inl d'=>lT d'
 | .inr q=>q
def Q0:z8⊕(z8×Int)→(Int×(List Int)×Int×Int×Bool)⊕(z8×Int)
 | .inl d=>.inl (d.Size,d.Data,d.Durable,d.Left,d.Down)
 | .inr q=>.inr q
def ER (l:List (List Int)):Prop:=l.length≤100000∧∀ b∈l,b.length≤1000000
theorem DZ {α:Type} {l r:List α} {i:Nat} {x:α} (h:l.drop i=x::r):x∈l:=List.mem_of_mem_drop (by rw [h];simp)
theorem qU {α:Type} {l r:List α} {i:Nat} {x:α} (h:l.drop i=x::r):l.drop (i+1)=r:=by
 rw [← List.tail_drop,h];rfl
theorem fM {α:Type} {l r:List α} {i:Nat} {x:α} (h:l.drop i=x::r):i<l.length:=by
 rcases zlg i l.length with h1 | h1
 ·exact h1
 ·rw [List.drop_eq_nil_of_le h1] at h;cases h
theorem zAS {l:List (List Int)} (hl:ER l):∀ (n i:Nat) (d:z8),(l.drop i).length<n →
  BN 281474976710656 l n (i:Nat) d.Size d.Data d.Durable d.Left d.Down=some (Q0 (aG d (l.drop i))):=by
 intro n
 induction n with
 | zero=>intro i d h;omega
 | succ n ih =>
  intro i d hn
  show BA _ _ _ _ _ _ _ _ _=_
  unfold BA
  cases hd:l.drop i with
  | nil =>
   have:l.length≤i:=List.drop_eq_nil_iff.1 hd
   rw [yO (by omega),cond_false];rfl
  | cons b r =>
   have h1:=fM hd
   have h2:=hl.2 b (DZ hd)
   have h3:=hl.1
   rw [hd] at hn
   rw [yU (by omega),cond_true,vS hd,zbs,XB (by omega),zbs]
   unfold aG
   by_cases he:(aP d b).2=0
   ·rw [x8 he,cond_false,if_neg (by simpa using he),vK (by omega),ih (i+1) _ (by rw [qU hd];simp only [zlc] at hn;omega),qU hd]
   ·rw [wA he,cond_true,if_pos he];rfl
theorem SS {d:z8} {l:List (List Int)} (hl:ER l):m3 281474976710656 d l=some (dK d l):=by
 unfold m3 dK
 have:=hl.1
 have h:=zAS hl 281474976710656 0 d (by simp only [zdz];omega)
 rw [zdz] at h
 rw [show (((0:Nat):Nat):Int)=(0:Int) from rfl] at h
 rw [h,zbs]
 cases aG d l with
 | inl d'=>simp only [Q0];rw [U8,zbs]
 | inr q=>rfl
end Go.Ab
