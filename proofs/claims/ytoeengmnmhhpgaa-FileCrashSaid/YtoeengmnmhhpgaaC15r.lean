/- Plain laws of the functions wU this seat's, laid anew from another seat's text. No conditions but those that the theorems name. -/
import Derived.Test.YtoeengmnmhhpgaaP15xD
import Derived.Test.YtoeengmnmhhpgaaR15
import Derived.Test.YtoeengmnmhhpgaaB15a
import Derived.Test.YtoeengmnmhhpgaaB15b
import Derived.Test.YtoeengmnmhhpgaaB15c
import Derived.Test.YtoeengmnmhhpgaaB15d
import Derived.Test.YtoeengmnmhhpgaaB15e
import Derived.Test.YtoeengmnmhhpgaaB15f
import Derived.Test.YtoeengmnmhhpgaaB15g
import Derived.Test.YtoeengmnmhhpgaaB15h
import Derived.Test.YtoeengmnmhhpgaaB15i
import Derived.Test.YtoeengmnmhhpgaaB15j
import Derived.Test.YtoeengmnmhhpgaaB15k
import Derived.Test.YtoeengmnmhhpgaaB15t
import Derived.Test.YtoeengmnmhhpgaaB15m
import Derived.Test.YtoeengmnmhhpgaaB15n
import Derived.Test.YtoeengmnmhhpgaaB15o
import Derived.Test.YtoeengmnmhhpgaaC15a
import Derived.Test.YtoeengmnmhhpgaaC15b
import Derived.Test.YtoeengmnmhhpgaaC15c
import Derived.Test.YtoeengmnmhhpgaaC15d
import Derived.Test.YtoeengmnmhhpgaaC15e
import Derived.Test.YtoeengmnmhhpgaaC15f
import Derived.Test.YtoeengmnmhhpgaaC15g
import Derived.Test.YtoeengmnmhhpgaaC15h
import Derived.Test.YtoeengmnmhhpgaaC15i
import Derived.Test.YtoeengmnmhhpgaaC15j
import Derived.Test.YtoeengmnmhhpgaaC15k
import Derived.Test.YtoeengmnmhhpgaaC15l
import Derived.Test.YtoeengmnmhhpgaaC15m
import Derived.Test.YtoeengmnmhhpgaaC15n
import Derived.Test.YtoeengmnmhhpgaaC15o
import Derived.Test.YtoeengmnmhhpgaaC15p
import Derived.Test.YtoeengmnmhhpgaaC15q
namespace Go.Ab
open Go
set_option linter.unusedVariables false
def okG (g:tK):Prop:=g.Snaps.length≤10∧g.Packets.length≤8∧∀ p∈g.Packets,p.Events.length≤60
instance decOkG {g:tK}:Decidable (okG g):=inferInstanceAs (Decidable (_∧_))
def iO (l:List tK):Prop:=(∀ g∈l,okG g)∧l.length≤6
instance decFewG {l:List tK}:Decidable (iO l):=inferInstanceAs (Decidable (_∧_))
theorem zEq {l:List tK} (hl:l.length≤140737488355328):∀ (n i:Nat),(l.drop i).length<n→AR 281474976710656 l n (i:Nat)=some (if ∀ g∈l.drop i,okG g then .inl () else .inr false):=by
 intro n
 induction n with
 | zero=>intro i h;omega
 | succ n ih =>
  intro i hn
  show DA _ _ _ _=_
  unfold DA
  cases hd:l.drop i with
  | nil =>
   have:l.length≤i:=List.drop_eq_nil_iff.1 hd
   rw [yO (by omega),cond_false];simp
  | cons g r =>
   have h1:=fM hd
   rw [hd] at hn
   simp only [zlc] at hn
   rw [yU (by omega),cond_true,vS hd,zbs,J1]
   by_cases hp:((g.Snaps.length:Nat):Int)>10∨((g.Packets.length:Nat):Int)>8
   ·rw [yU hp,cond_true,if_neg (fun h=>by have:=h g (by simp);unfold okG at this;omega)]
   ·have e:=zAn (x:=g) (by omega) 281474976710656 0 (by rw [zdz];omega)
    rw [show (((0:Nat):Nat):Int)=(0:Int) from rfl,zdz] at e
    rw [yO hp,cond_false,e,zbs]
    by_cases h2:∀ p∈g.Packets,p.Events.length≤60
    ·rw [if_pos h2]
     simp only
     rw [vK (by omega),ih (i+1) (by rw [qU hd];omega),qU hd]
     have hg:okG g:=⟨by omega,by omega,h2⟩
     by_cases hr:∀ g∈r,okG g
     ·rw [if_pos hr,if_pos (fun y hy=>by
       rcases List.mem_cons.1 hy with rfl | hy
       ·exact hg
       ·exact hr y hy)]
     ·rw [if_neg hr,if_neg (fun h=>hr fun y hy=>h y (by simp [hy]))]
    ·rw [if_neg h2,if_neg (fun h=>h2 (h g (by simp)).2.2)]
theorem zCR {l:List tK} (hl:l.length≤140737488355328):B7 281474976710656 l=some (decide (iO l)):=by
 have e:=zEq hl 281474976710656 0 (by rw [zdz];omega)
 rw [show (((0:Nat):Nat):Int)=(0:Int) from rfl,zdz] at e
 unfold B7
 rw [e,zbs]
 by_cases h:∀ g∈l,okG g
 ·rw [if_pos h]
  simp only
  by_cases h6:l.length≤6
  ·rw [yU (show iO l from ⟨h,h6⟩),yU (by omega)]
  ·rw [yO (show ¬ iO l from fun q=>h6 q.2),yO (by omega)]
 ·rw [if_neg h,yO (show ¬ iO l from fun q=>h q.1)]
structure zEK (z:Nat) (fl:List Fl) (M:List Nat) (E C:List Int):Prop where
 e:E=M.map fun m=>((z+(wC (fl.take m)).length:Nat):Int)
 c:C=M.map fun m=>(((v9 (fl.take m)).length:Nat):Int)
 le:∀ m∈M,m≤fl.length
 all:∀ m,m≤fl.length→m∈M
 mono:M.Pairwise (·≤·)
 front:∃ r,M=0::r
theorem KE (fl:List Fl) (g:Fl):v9 (fl++[g])=v9 fl++g.2:=by simp [v9]
theorem Ack.len {h:zT} {l:List Fl} {d:z8} (a:Ack h l d):d.Data.length=(y9 72 (hdB h)).length+(wC l).length:=by rw [a.data,zla]
theorem Ack.bs {h:zT} {l:List Fl} {d:z8} (a:Ack h l d):wI d.Data:=⟨a.bytes,by have:=a.fits;omega⟩
end Go.Ab
