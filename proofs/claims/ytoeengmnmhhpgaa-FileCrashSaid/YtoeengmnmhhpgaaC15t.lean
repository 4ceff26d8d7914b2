/- Plain laws of the functions wU this seat's, laid anew from another seat's text. No conditions but those that the theorems name. -/
import Derived.Test.YtoeengmnmhhpgaaP15xD
import Derived.Test.YtoeengmnmhhpgaaR15
import Derived.Test.YtoeengmnmhhpgaaB15a
import Derived.Test.YtoeengmnmhhpgaaB15b
import Derived.Test.YtoeengmnmhhpgaaB15c
import Derived.Test.YtoeengmnmhhpgaaB15d
import Derived.Test.YtoeengmnmhhpgaaB15e
import Derived.Test.YtoeengmnmhhpgaaB15f
import Derived.Test.YtoeengmnmhhpgaaB15g
import Derived.Test.YtoeengmnmhhpgaaB15h
import Derived.Test.YtoeengmnmhhpgaaB15i
import Derived.Test.YtoeengmnmhhpgaaB15j
import Derived.Test.YtoeengmnmhhpgaaB15k
import Derived.Test.YtoeengmnmhhpgaaB15t
import Derived.Test.YtoeengmnmhhpgaaB15m
import Derived.Test.YtoeengmnmhhpgaaB15n
import Derived.Test.YtoeengmnmhhpgaaB15o
import Derived.Test.YtoeengmnmhhpgaaC15a
import Derived.Test.YtoeengmnmhhpgaaC15b
import Derived.Test.YtoeengmnmhhpgaaC15c
import Derived.Test.YtoeengmnmhhpgaaC15d
import Derived.Test.YtoeengmnmhhpgaaC15e
import Derived.Test.YtoeengmnmhhpgaaC15f
import Derived.Test.YtoeengmnmhhpgaaC15g
import Derived.Test.YtoeengmnmhhpgaaC15h
import Derived.Test.YtoeengmnmhhpgaaC15i
import Derived.Test.YtoeengmnmhhpgaaC15j
import Derived.Test.YtoeengmnmhhpgaaC15k
import Derived.Test.YtoeengmnmhhpgaaC15l
import Derived.Test.YtoeengmnmhhpgaaC15m
import Derived.Test.YtoeengmnmhhpgaaC15n
import Derived.Test.YtoeengmnmhhpgaaC15o
import Derived.Test.YtoeengmnmhhpgaaC15p
import Derived.Test.YtoeengmnmhhpgaaC15q
import Derived.Test.YtoeengmnmhhpgaaC15r
import Derived.Test.YtoeengmnmhhpgaaC15s
namespace Go.Ab
open Go
set_option linter.unusedVariables false
theorem UB (s:List Int):uL s≠19:=by rcases JA s with h | h<;>omega
theorem O7 (l:List (List Int)):kQ l≠19:=by
 unfold kQ
 split
 ·omega
 ·split<;>omega
theorem ZL (n lo hi:Int):pB n lo hi≠19:=by unfold pB;split<;>omega
theorem zB9 (e:y6):fQ e≠19:=by
 unfold fQ
 repeat' split
 all_goals first | omega | exact ZL _ _ _
theorem Z1 (e:y6):bC e≠19:=by
 unfold bC
 repeat' split
 all_goals first | omega | exact UB _ | exact O7 _
theorem SN (e:y6):evS e≠19:=by
 unfold evS
 repeat' split
 all_goals first | omega | exact Z1 _ | exact zB9 _
theorem SY:∀ (l:List y6) (p:Option Int),aH p l≠19
 | [],p=>by unfold aH;omega
 | e::r,p=>by
  unfold aH
  split
  ·exact SN e
  ·cases p.any (fun a=>decide (e.At<a))
   ·exact SY r _
   ·rw [cond_true];omega
theorem TY (p:zQ):u3 p≠19:=by
 unfold u3
 repeat' split
 all_goals first | omega | exact SY _ _
theorem SR (n:List (List Int)) (s:List Int):(uM n s).2.2≠19:=by
 unfold uM
 repeat' split
 all_goals first | exact UB s | (simp only;omega)
theorem NK (n0:List (List Int)) (s0:List zS):∀ (l:List (List Int)) (a:Int) (n:List (List Int)) (s:List zS),(tD n0 s0 l a n s).2.2.2≠19
 | [],a,n,s=>by unfold tD;simp
 | x::r,a,n,s=>by
  unfold tD
  split
  ·exact SR n x
  ·split
   ·exact NK n0 s0 r _ _ _
   ·split
    ·simp
    ·exact NK n0 s0 r _ _ _
theorem ZC (n:List (List Int)) (s:List zS) (e:y6):(qP n s e).2.2.2≠19:=by
 unfold qP
 split
 ·simp
 ·split
  ·exact SN e
  ·split
   ·show (uU n e).2.2≠19
    unfold uU
    split
    ·exact SR _ _
    ·simp
   ·split
    ·show (t8 (uU n e).2.1 s e).2.2.2≠19
     unfold t8
     split
     ·unfold qJ
      split
      ·exact O7 _
      ·exact NK _ _ _ _ _ _
     ·simp
    ·simp
theorem RX:∀ (l:List y6) (n:List (List Int)) (s:List zS) (row:List Int) (e:Int),bV n s row l=.inr e→e≠19
 | [],n,s,row,e,h=>by cases h
 | a::r,n,s,row,e,h=>by
  unfold bV at h
  split at h
  ·injection h with h;subst h;exact ZC n s a
  ·exact RX r _ _ _ e h
theorem zED (p:zQ):(vP p).2≠19:=by
 unfold vP
 split
 ·exact TY p
 ·cases h:bV [] [] [] p.Events with
  | inl q=>simp
  | inr e=>exact RX _ _ _ _ e h
theorem LL {α:Type} {f:Nat→α→Option Int} (hf:∀ i x v,f i x=some v→v≠19):∀ (l:List α) (i:Nat),uz (uB f i l)≠19
 | [],i=>by simp [uB,uz]
 | a::r,i=>by
  rw [zAZ]
  cases h:f i a with
  | none=>exact LL hf r (i+1)
  | some v=>exact hf i a v h
theorem zCh (d:List y0) (x:yQ):bR d x≠19:=by
 unfold bR
 repeat' split
 all_goals omega
theorem zEf (d:List y0) (l:List yQ):uZ d l≠19:=by
 unfold uZ
 split
 ·omega
 split
 ·omega
 split
 ·omega
 split
 ·refine LL (fun i x v h=>?_) d 0
  unfold C4 at h
  split at h
  ·injection h with h;omega
  ·split at h
   ·injection h with h;omega
   ·cases h
 ·refine LL (fun i x v h=>?_) l 0
  unfold snF at h
  split at h
  ·injection h with h;rw [← h];exact zCh d x
  ·cases h
theorem QZ {h:zT}:∀ (q l:List zQ) (e:Int),apS h l q=.inr e→e≠0∧e≠19
 | [],l,e,he=>by cases he
 | p::r,l,e,he=>by
  unfold apS at he
  split at he
  ·rename_i k;injection he with he;rw [← he];exact ⟨k,TY p⟩
  split at he
  ·injection he with he;rw [← he];decide
  split at he
  ·injection he with he;rw [← he];decide
  split at he
  ·rename_i k;injection he with he;rw [← he];exact ⟨k,zED p⟩
  exact QZ r _ e he
end Go.Ab
