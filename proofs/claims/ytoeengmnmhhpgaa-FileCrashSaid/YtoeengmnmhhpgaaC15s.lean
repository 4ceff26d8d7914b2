/- Plain laws of the functions wU this seat's, laid anew from another seat's text. No conditions but those that the theorems name. -/
import Derived.Test.YtoeengmnmhhpgaaP15xD
import Derived.Test.YtoeengmnmhhpgaaR15
import Derived.Test.YtoeengmnmhhpgaaB15a
import Derived.Test.YtoeengmnmhhpgaaB15b
import Derived.Test.YtoeengmnmhhpgaaB15c
import Derived.Test.YtoeengmnmhhpgaaB15d
import Derived.Test.YtoeengmnmhhpgaaB15e
import Derived.Test.YtoeengmnmhhpgaaB15f
import Derived.Test.YtoeengmnmhhpgaaB15g
import Derived.Test.YtoeengmnmhhpgaaB15h
import Derived.Test.YtoeengmnmhhpgaaB15i
import Derived.Test.YtoeengmnmhhpgaaB15j
import Derived.Test.YtoeengmnmhhpgaaB15k
import Derived.Test.YtoeengmnmhhpgaaB15t
import Derived.Test.YtoeengmnmhhpgaaB15m
import Derived.Test.YtoeengmnmhhpgaaB15n
import Derived.Test.YtoeengmnmhhpgaaB15o
import Derived.Test.YtoeengmnmhhpgaaC15a
import Derived.Test.YtoeengmnmhhpgaaC15b
import Derived.Test.YtoeengmnmhhpgaaC15c
import Derived.Test.YtoeengmnmhhpgaaC15d
import Derived.Test.YtoeengmnmhhpgaaC15e
import Derived.Test.YtoeengmnmhhpgaaC15f
import Derived.Test.YtoeengmnmhhpgaaC15g
import Derived.Test.YtoeengmnmhhpgaaC15h
import Derived.Test.YtoeengmnmhhpgaaC15i
import Derived.Test.YtoeengmnmhhpgaaC15j
import Derived.Test.YtoeengmnmhhpgaaC15k
import Derived.Test.YtoeengmnmhhpgaaC15l
import Derived.Test.YtoeengmnmhhpgaaC15m
import Derived.Test.YtoeengmnmhhpgaaC15n
import Derived.Test.YtoeengmnmhhpgaaC15o
import Derived.Test.YtoeengmnmhhpgaaC15p
import Derived.Test.YtoeengmnmhhpgaaC15q
import Derived.Test.YtoeengmnmhhpgaaC15r
namespace Go.Ab
open Go
set_option linter.unusedVariables false
theorem K6:∀ (l:List Fl) (j:Nat),jY l j≤l.length∧(wC (l.take (jY l j))).length≤j
 | [],j=>⟨Nat.le_refl _,by simp [jY,wC]⟩
 | g::l,j=>by
  unfold jY
  by_cases h:(flC g.1 g.2).flatten.length≤j
  ·obtain ⟨h1,h2⟩:=K6 l (j - (flC g.1 g.2).flatten.length)
   rw [if_pos h,List.take_succ_cons]
   refine ⟨by rw [zlc];omega,?_⟩
   show ((flC g.1 g.2).flatten++wC _).length≤j
   rw [zla];omega
  ·rw [if_neg h]
   exact ⟨by omega,by simp [wC]⟩
theorem GW:∀ (l:List Fl) (j m:Nat),m≤l.length→(wC (l.take m)).length≤j→m≤jY l j
 | [],j,m,h,_=>by rw [List.length_nil] at h;omega
 | g::l,j,0,_,_=>by omega
 | g::l,j,m+1,h,hm=>by
  rw [List.take_succ_cons] at hm
  have hm:((flC g.1 g.2).flatten++wC (l.take m)).length≤j:=hm
  rw [zla] at hm
  rw [zlc] at h
  unfold jY
  rw [if_pos (by omega)]
  have:=GW l (j - (flC g.1 g.2).flatten.length) m (by omega) (by omega)
  omega
theorem Ack.cut {h:zT} {l:List Fl} {d:z8} {j:Nat} (hl:jJ h) (h0:qB h=0) (a:Ack h l d) (hj:(y9 72 (hdB h)).length≤j) :
  vJ (d.Data.take j)=(⟨h.Threads,h.Domains,h.Snaps++qW (l.take (jY l (j - (y9 72 (hdB h)).length)))⟩,v9 (l.take (jY l (j - (y9 72 (hdB h)).length))),(((y9 72 (hdB h)).length+(wC (l.take (jY l (j - (y9 72 (hdB h)).length)))).length:Nat):Int)):=by
 have hb:wI (wC l):=by have:=a.bs;rw [a.data] at this;exact cC this
 have hc:=TV (h:=h) l h.Snaps [] ((y9 72 (hdB h)).length:Int) (j - (y9 72 (hdB h)).length) a.ok hb
 rw [a.data,List.take_append,List.take_of_length_le hj,UJ hl h0]
 rw [show kU h ((y9 72 (hdB h)).length:Int)=⟨h.Snaps,[],((y9 72 (hdB h)).length:Int),h.Snaps,[],((y9 72 (hdB h)).length:Int),0⟩ from rfl]
 generalize run h ⟨h.Snaps,[],((y9 72 (hdB h)).length:Int),h.Snaps,[],((y9 72 (hdB h)).length:Int),0⟩ _=st at hc ⊢
 obtain ⟨s1,s2,s3,s4,s5,s6,s7⟩:=st
 simp only [b8,Prod.mk.injEq,List.nil_append] at hc
 obtain ⟨e1,e2,e3⟩:=hc
 simp only [e1,e2,e3,Prod.mk.injEq,true_and]
 omega
def m5 (h:zT):Prop:=h.Threads.length≤70∧h.Domains.length≤10∧h.Snaps.length≤20
instance decLightH {h:zT}:Decidable (m5 h):=inferInstanceAs (Decidable (_∧_))
theorem W4 (h:zT):B4 zD h=some (decide (m5 h)):=by
 unfold B4
 congr 1
 rw [Bool.eq_iff_iff]
 simp only [zba,decide_eq_true_eq]
 unfold m5
 constructor
 ·intro ⟨_,_,a,b,c⟩;omega
 ·intro ⟨a,b,c⟩;exact ⟨by simp,by decide,by omega,by omega,by omega⟩
abbrev nD:z8:=⟨60000,[],0, -1,false⟩
theorem zAL:DM (60000:Int)=some (nD,0):=rfl
theorem zCg {h:zT} (ho:fH h) (he:(pA nD h).2=0):jJ h∧qB h=0∧Ack h [] (pA nD h).1:=by
 have hc:vU nD=0:=by decide
 unfold pA at he ⊢
 rw [if_neg (show ¬ vU nD≠0 by simpa using hc),if_neg (show ¬ ([]:List Int).length>0 by simp)] at he ⊢
 by_cases h0:qB h=0
 ·have hl:=TW ho h0
  have hn:=GE hl
  have hn2:=(g9 72 (hdB h)).2
  have e:([y9 72 (hdB h)]:List (List Int)).flatten=y9 72 (hdB h):=by simp
  rw [if_neg (show ¬ qB h≠0 by simpa using h0),X2 hc rfl rfl (by rw [e];show ((0:Nat):Int)+_≤60000;omega),e]
  refine ⟨hl,h0,rfl,by simp [wC],rfl,rfl,rfl,trivial,by simp only [List.nil_append];omega,?_⟩
  simp only [List.nil_append]
  exact H1 OZ (O0 ho hl) (by omega)
 ·rw [if_pos h0] at he
  exact absurd he h0
end Go.Ab
