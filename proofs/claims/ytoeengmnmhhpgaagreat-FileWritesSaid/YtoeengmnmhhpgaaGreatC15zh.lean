/- Plain laws of the functions uS this seat's, laid anew from another seat's text. No conditions but those that the theorems name. -/
import Derived.Test.YtoeengmnmhhpgaaGreatP15zxD
import Derived.Test.YtoeengmnmhhpgaaGreatR15z
import Derived.Test.YtoeengmnmhhpgaaGreatB15za
import Derived.Test.YtoeengmnmhhpgaaGreatB15zb
import Derived.Test.YtoeengmnmhhpgaaGreatB15zc
import Derived.Test.YtoeengmnmhhpgaaGreatB15zd
import Derived.Test.YtoeengmnmhhpgaaGreatB15ze
import Derived.Test.YtoeengmnmhhpgaaGreatB15zf
import Derived.Test.YtoeengmnmhhpgaaGreatB15zg
import Derived.Test.YtoeengmnmhhpgaaGreatB15zh
import Derived.Test.YtoeengmnmhhpgaaGreatB15zi
import Derived.Test.YtoeengmnmhhpgaaGreatB15zj
import Derived.Test.YtoeengmnmhhpgaaGreatB15zk
import Derived.Test.YtoeengmnmhhpgaaGreatB15zt
import Derived.Test.YtoeengmnmhhpgaaGreatB15zm
import Derived.Test.YtoeengmnmhhpgaaGreatB15zn
import Derived.Test.YtoeengmnmhhpgaaGreatB15zo
import Derived.Test.YtoeengmnmhhpgaaGreatC15za
import Derived.Test.YtoeengmnmhhpgaaGreatC15zb
import Derived.Test.YtoeengmnmhhpgaaGreatC15zc
import Derived.Test.YtoeengmnmhhpgaaGreatC15zd
import Derived.Test.YtoeengmnmhhpgaaGreatC15ze
import Derived.Test.YtoeengmnmhhpgaaGreatC15zf
import Derived.Test.YtoeengmnmhhpgaaGreatC15zg
namespace Go.Ab
open Go
set_option linter.unusedVariables false
abbrev zD:yD:=⟨(0:Int),[],(0:Int),(0:Int),false⟩
theorem SB {p q:Prop} [Decidable p] [Decidable q]:(decide p||decide q)=decide (p\/q):=by
 by_cases hp:p
 ·simp [hp]
 ·simp [hp]
def J8 (d:yD):Prop:=d.Size<1\/d.Size>1048576\/(d.Data.length:Int)>d.Size\/d.Durable<0\/d.Durable>(d.Data.length:Int)\/d.Left < -1\/d.Left>1048576
instance decBadD {d:yD}:Decidable (J8 d):=inferInstanceAs (Decidable (_\/_))
def jA (d:yD):Int:=if J8 d then 2 else 0
theorem zDH (d:yD):(decide (d.Size<(1:Int))||(decide (d.Size>(1048576:Int))||(decide ((((d.Data).length:Nat):Int)>d.Size)||(decide (d.Durable<(0:Int))||(decide (d.Durable>(((d.Data).length:Nat):Int))||(decide (d.Left<(-1:Int))||decide (d.Left>(1048576:Int))))))))=decide (J8 d):=by
 rw [Bool.eq_iff_iff];simp only [Bool.or_eq_true,decide_eq_true_eq];rfl
theorem KJ (d:yD):fJ d=some (jA d):=by
 unfold fJ jA;rw [zDH]
 by_cases h:J8 d
 ·rw [yN h,if_pos h];rfl
 ·rw [yP h,if_neg h];rfl
theorem N7 (d:yD):lH d=some (jA d):=KJ d
theorem BR {d:yD} (h:jA d=0):1<=d.Size/\d.Size<=1048576/\(d.Data.length:Int)<=d.Size/\0<=d.Durable/\d.Durable<=d.Data.length /\ -1<=d.Left/\d.Left<=1048576:=by
 unfold jA at h
 split at h
 ·cases h
 ·rename_i hn
  unfold J8 at hn;omega
def upD (d:yD):yD×Int:=if jA d≠0 then (zD,jA d) else if d.Down=true then (d,19) else (d,0)
theorem gF (d:yD):(jA d≠0/\upD d=(zD,jA d))\/(jA d=0/\d.Down=true/\upD d=(d,19))\/(jA d=0/\d.Down=false/\upD d=(d,0)):=by
 unfold upD
 by_cases h:jA d=0
 ·rw [if_neg (by simpa using h)];cases hd:d.Down
  ·exact .inr (.inr ⟨h,rfl,by simp⟩)
  ·exact .inr (.inl ⟨h,rfl,by simp⟩)
 ·exact .inl ⟨h,if_pos h⟩
theorem SI (d:yD):dC d=some (upD d):=by
 unfold dC;rw [KJ,zbs];rcases gF d with ⟨h,e⟩ | ⟨h,hd,e⟩ | ⟨h,hd,e⟩
 ·rw [e,xX h,cond_true]
 ·rw [e,x7 h,cond_false,hd,cond_true]
 ·have:=BR h
  rw [e,x7 h,cond_false,hd,cond_false];unfold GB;rw [xQ (by simp only [List.length_nil];omega),zbs,zbs,List.nil_append];rw [<- hd]
theorem Q6 (d:yD):rI d=some (upD d):=by
 unfold rI;rw [N7,zbs];rcases gF d with ⟨h,e⟩ | ⟨h,hd,e⟩ | ⟨h,hd,e⟩
 ·rw [e,xX h,cond_true]
 ·rw [e,x7 h,cond_false,hd,cond_true]
 ·rw [e,x7 h,cond_false,hd,cond_false]
def fT (d:yD) (b:List Int):yD×Int :=
 if (upD d).2≠0 then upD d else if (d.Data.length:Int)+b.length>d.Size then (zD,6) else
 if 0<=d.Left/\d.Left<b.length then (⟨d.Size,d.Data++b.take d.Left.toNat,d.Durable,0,true⟩,19) else
 (⟨d.Size,d.Data++b,d.Durable,if 0<=d.Left then d.Left - b.length else d.Left,d.Down⟩,0)
theorem zER {d:yD} {b:List Int} (hb:b.length<=100000000):EP d b=some (fT d b):=by
 unfold EP fT;rw [SI,zbs];rcases gF d with ⟨h,e⟩ | ⟨h,hd,e⟩ | ⟨h,hd,e⟩
 ·rw [e,xX h,cond_true,if_pos h]
 ·rw [e,xX (show (19:Int)≠0 by decide),cond_true,if_pos (show (19:Int)≠0 by decide)]
 ·obtain ⟨q1,q2,q3,q4,q5,q6,q7⟩:=BR h;rw [e,x7 (show (0:Int)=0 from rfl),cond_false,if_neg (show ¬ (0:Int)≠0 by decide)];simp only;rw [w64 (by omega) (by omega)]
  by_cases h1:(d.Data.length:Int)+b.length>d.Size
  ·rw [yN h1,cond_true,if_pos h1]
  ·rw [yP h1,cond_false,if_neg h1]
   by_cases h2:0<=d.Left/\d.Left<b.length
   ·rw [yN (show d.Left>=0 from h2.1),yN h2.2,Bool.and_self,cond_true,if_pos h2,xQ (by omega),zbs,oP h2.1,xQ (by simp only [List.length_take];omega),zbs]
   ·rw [show (decide (d.Left>=(0:Int))&&decide (d.Left<((b.length:Nat):Int)))=false by
     rw [Bool.and_eq_false_iff]
     by_cases h3:0<=d.Left
     ·exact .inr (yP fun h4=>h2 ⟨h3,h4⟩)
     ·exact .inl (yP h3),cond_false,if_neg h2,xQ (by omega),zbs]
    by_cases h3:0<=d.Left
    ·rw [yN (show d.Left>=0 from h3),cond_true,w64 (by omega) (by omega),if_pos h3]
    ·rw [yP (show ¬ d.Left>=0 from h3),cond_false,if_neg h3]
theorem zEE {d:yD} {b:List Int} (hb:b.length<=100000000):E6 d b=some (fT d b):=by
 unfold E6 fT;rw [Q6,zbs];rcases gF d with ⟨h,e⟩ | ⟨h,hd,e⟩ | ⟨h,hd,e⟩
 ·rw [e,xX h,cond_true,if_pos h]
 ·rw [e,xX (show (19:Int)≠0 by decide),cond_true,if_pos (show (19:Int)≠0 by decide)]
 ·obtain ⟨q1,q2,q3,q4,q5,q6,q7⟩:=BR h;rw [e,x7 (show (0:Int)=0 from rfl),cond_false,if_neg (show ¬ (0:Int)≠0 by decide)];simp only [List.nil_append];rw [w64 (show -9223372036854775808<=((d.Data.length:Nat):Int)+((b.length:Nat):Int) by omega) (by omega)]
  by_cases h1:(d.Data.length:Int)+b.length>d.Size
  ·rw [yN h1,cond_true,if_pos h1]
  ·rw [yP h1,cond_false,if_neg h1]
   by_cases h2:0<=d.Left/\d.Left<b.length
   ·rw [yN (show d.Left>=0 from h2.1),yN h2.2,Bool.and_self,cond_true,if_pos h2,xQ (by omega),zbs,oP h2.1,zbs,xQ (by simp only [List.length_nil];omega),zbs,xQ (by simp only [List.length_take];omega),zbs,cond_true,zbs];rw [show d.Left - (((b.take d.Left.toNat).length:Nat):Int)=0 by rw [List.length_take];omega];rfl
   ·rw [show (decide (d.Left>=(0:Int))&&decide (d.Left<((b.length:Nat):Int)))=false by
     rw [Bool.and_eq_false_iff]
     by_cases h3:0<=d.Left
     ·exact .inr (yP fun h4=>h2 ⟨h3,h4⟩)
     ·exact .inl (yP h3),cond_false,if_neg h2,zbs,xQ (by simp only [List.length_nil];omega),zbs,xQ (by omega),zbs]
    by_cases h3:0<=d.Left
    ·rw [yN (show d.Left>=0 from h3),cond_true,w64 (by omega) (by omega),if_pos h3,zbs,cond_false]
    ·rw [yP (show ¬ d.Left>=0 from h3),cond_false,if_neg h3,zbs,cond_false]
def AK (d:yD):yD×Int :=
 if (upD d).2≠0 then upD d else if d.Left=0 then (⟨d.Size,d.Data,d.Durable,d.Left,true⟩,19) else (⟨d.Size,d.Data,d.Data.length,d.Left,d.Down⟩,0)
theorem Y5 (d:yD):CS d=some (AK d):=by
 unfold CS AK;rw [SI,zbs];rcases gF d with ⟨h,e⟩ | ⟨h,hd,e⟩ | ⟨h,hd,e⟩
 ·rw [e,xX h,cond_true,if_pos h]
 ·rw [e,xX (show (19:Int)≠0 by decide),cond_true,if_pos (show (19:Int)≠0 by decide)]
 ·rw [e,x7 (show (0:Int)=0 from rfl),cond_false,if_neg (show ¬ (0:Int)≠0 by decide)];simp only
  by_cases hl:d.Left=0
  ·rw [u9 hl,cond_true,if_pos hl]
  ·rw [uK hl,cond_false,if_neg hl]
theorem VW (d:yD):r9 d=some (AK d):=by
 unfold r9 AK;rw [Q6,zbs];rcases gF d with ⟨h,e⟩ | ⟨h,hd,e⟩ | ⟨h,hd,e⟩
 ·rw [e,xX h,cond_true,if_pos h]
 ·rw [e,xX (show (19:Int)≠0 by decide),cond_true,if_pos (show (19:Int)≠0 by decide)]
 ·rw [e,x7 (show (0:Int)=0 from rfl),cond_false,if_neg (show ¬ (0:Int)≠0 by decide)];simp only
  by_cases hl:d.Left=0
  ·rw [u9 hl,cond_true,if_pos hl]
  ·rw [uK hl,cond_false,if_neg hl]
def rC (d:yD) (n:Int):yD×Int :=
 if (upD d).2≠0 then upD d else if n<0\/n>d.Data.length then (zD,2) else (⟨d.Size,d.Data.take n.toNat,n7 d.Durable n,d.Left,d.Down⟩,0)
theorem zEO (d:yD) (n:Int):JN d n=some (rC d n):=by
 unfold JN rC;rw [SI,zbs];rcases gF d with ⟨h,e⟩ | ⟨h,hd,e⟩ | ⟨h,hd,e⟩
 ·rw [e,xX h,cond_true,if_pos h]
 ·rw [e,xX (show (19:Int)≠0 by decide),cond_true,if_pos (show (19:Int)≠0 by decide)]
 ·rw [e,x7 (show (0:Int)=0 from rfl),cond_false,if_neg (show ¬ (0:Int)≠0 by decide)];simp only;rw [SB]
  by_cases hl:n<0\/n>(d.Data.length:Int)
  ·rw [yN hl,cond_true,if_pos hl]
  ·rw [yP hl,cond_false,if_neg hl,xQ (by omega),zbs,oP (by omega)]
theorem zFJ (d:yD) (n:Int):JE d n=some (rC d n):=by
 unfold JE rC;rw [Q6,zbs];rcases gF d with ⟨h,e⟩ | ⟨h,hd,e⟩ | ⟨h,hd,e⟩
 ·rw [e,xX h,cond_true,if_pos h]
 ·rw [e,xX (show (19:Int)≠0 by decide),cond_true,if_pos (show (19:Int)≠0 by decide)]
 ·have:=BR h
  rw [e,x7 (show (0:Int)=0 from rfl),cond_false,if_neg (show ¬ (0:Int)≠0 by decide)];simp only;rw [SB]
  by_cases hl:n<0\/n>(d.Data.length:Int)
  ·rw [yN hl,cond_true,if_pos hl]
  ·rw [yP hl,cond_false,if_neg hl,xQ (by omega),zbs,oP (by omega),xQ (by simp only [List.length_nil,List.length_take];omega),zbs,List.nil_append]
/-! Writing chunks. -/
def gI:yD->List (List Int)->yD⊕(yD×Int)
 | d,[]=>.inl d
 | d,b::r=>if (fT d b).2≠0 then .inr (fT d b) else gI (fT d b).1 r
def BK (d:yD) (l:List (List Int)):yD×Int:=match gI d l with
 | .inl d'=>AK d'
 | .inr q=>q
def NM:yD⊕(yD×Int)->(Int×(List Int)×Int×Int×Bool)⊕(yD×Int)
 | .inl d=>.inl (d.Size,d.Data,d.Durable,d.Left,d.Down)
 | .inr q=>.inr q
def BS (l:List (List Int)):Prop:=l.length<=100000/\∀ b∈l,b.length<=1000000
theorem m5 {α:Type} {l r:List α} {i:Nat} {x:α} (h:l.drop i=x::r):x∈l:=List.mem_of_mem_drop (by rw [h];simp)
theorem qR {α:Type} {l r:List α} {i:Nat} {x:α} (h:l.drop i=x::r):l.drop (i+1)=r:=by
 rw [<- List.tail_drop,h];rfl
theorem dF {α:Type} {l r:List α} {i:Nat} {x:α} (h:l.drop i=x::r):i<l.length:=by
 rcases zlg i l.length with h1 | h1
 ·exact h1
 ·rw [List.drop_eq_nil_of_le h1] at h;cases h
theorem zHR {l:List (List Int)} (hl:BS l):∀ (n i:Nat) (d:yD),(l.drop i).length<n ->
  KL 281474976710656 l n (i:Nat) d.Size d.Data d.Durable d.Left d.Down=some (NM (gI d (l.drop i))):=by
 intro n
 induction n with
 | zero=>intro i d h;omega
 | succ n ih =>
  intro i d hn;show G9 _ _ _ _ _ _ _ _ _=_;unfold G9;cases hd:l.drop i with
  | nil =>
   have:l.length<=i:=List.drop_eq_nil_iff.1 hd
   rw [yP (by omega),cond_false];rfl
  | cons b r =>
   have h1:=dF hd;have h2:=hl.2 b (m5 hd);have h3:=hl.1;rw [hd] at hn;rw [yN (by omega),cond_true,vE hd,zbs,zER (by omega),zbs];unfold gI
   by_cases he:(fT d b).2=0
   ·rw [x7 he,cond_false,if_neg (by simpa using he),wX (by omega),ih (i+1) _ (by rw [qR hd];simp only [zlc] at hn;omega),qR hd]
   ·rw [xX he,cond_true,if_pos he];rfl
theorem zDk {l:List (List Int)} (hl:BS l):∀ (n i:Nat) (d:yD),(l.drop i).length<n ->
  K9 281474976710656 l n (i:Nat) d.Size d.Data d.Durable d.Left d.Down=some (NM (gI d (l.drop i))):=by
 intro n
 induction n with
 | zero=>intro i d h;omega
 | succ n ih =>
  intro i d hn;show EZ _ _ _ _ _ _ _ _ _=_;unfold EZ;cases hd:l.drop i with
  | nil =>
   have:l.length<=i:=List.drop_eq_nil_iff.1 hd
   rw [yP (by omega),cond_false];rfl
  | cons b r =>
   have h1:=dF hd;have h2:=hl.2 b (m5 hd);have h3:=hl.1;rw [hd] at hn;rw [yN (by omega),cond_true,vE hd,zbs,zEE (by omega),zbs];unfold gI
   by_cases he:(fT d b).2=0
   ·rw [x7 he,cond_false,if_neg (by simpa using he),wX (by omega),ih (i+1) _ (by rw [qR hd];simp only [zlc] at hn;omega),qR hd]
   ·rw [xX he,cond_true,if_pos he];rfl
theorem VB {d:yD} {l:List (List Int)} (hl:BS l):DH 281474976710656 d l=some (BK d l):=by
 unfold DH BK
 have:=hl.1
 have h:=zHR hl 281474976710656 0 d (by simp only [zdz];omega);rw [zdz] at h;rw [show (((0:Nat):Nat):Int)=(0:Int) from rfl] at h;rw [h,zbs];cases gI d l with
 | inl d'=>simp only [NM];rw [Y5,zbs]
 | inr q=>rfl
theorem ZD {d:yD} {l:List (List Int)} (hl:BS l):oT 281474976710656 d l=some (BK d l):=by
 unfold oT BK
 have:=hl.1
 have h:=zDk hl 281474976710656 0 d (by simp only [zdz];omega);rw [zdz] at h;rw [show (((0:Nat):Nat):Int)=(0:Int) from rfl] at h;rw [h,zbs];cases gI d l with
 | inl d'=>simp only [NM];rw [VW,zbs]
 | inr q=>rfl
end Go.Ab
