/- Plain laws of the functions w6 this seat's, laid anew from another seat's text. No conditions but those that the theorems name. -/
import Derived.Test.YtoeengmnmhhpgaaP15xD
import Derived.Test.YtoeengmnmhhpgaaR15
import Derived.Test.YtoeengmnmhhpgaaB15a
import Derived.Test.YtoeengmnmhhpgaaB15b
import Derived.Test.YtoeengmnmhhpgaaB15c
import Derived.Test.YtoeengmnmhhpgaaB15d
import Derived.Test.YtoeengmnmhhpgaaB15e
import Derived.Test.YtoeengmnmhhpgaaB15f
import Derived.Test.YtoeengmnmhhpgaaB15g
import Derived.Test.YtoeengmnmhhpgaaB15h
import Derived.Test.YtoeengmnmhhpgaaB15i
import Derived.Test.YtoeengmnmhhpgaaB15j
import Derived.Test.YtoeengmnmhhpgaaB15k
import Derived.Test.YtoeengmnmhhpgaaB15t
import Derived.Test.YtoeengmnmhhpgaaB15m
import Derived.Test.YtoeengmnmhhpgaaB15n
import Derived.Test.YtoeengmnmhhpgaaB15o
import Derived.Test.YtoeengmnmhhpgaaC15a
import Derived.Test.YtoeengmnmhhpgaaC15b
import Derived.Test.YtoeengmnmhhpgaaC15c
import Derived.Test.YtoeengmnmhhpgaaC15d
import Derived.Test.YtoeengmnmhhpgaaC15e
import Derived.Test.YtoeengmnmhhpgaaC15f
namespace Go.Ab
open Go
set_option linter.unusedVariables false
theorem mF:d9 281474976710656=some true:=by kernel_rfl
theorem zDo {e:xA} (h:evS e=0):e.Stack.length≤32:=by
 rcases zlg 32 e.Stack.length with hgt | hle
 ·exfalso
  unfold evS at h
  split at h
  ·omega
  split at h
  ·omega
  split at h
  ·omega
  rename_i hb
  have hb:aS e=false:=by simpa using hb
  cases hu:uS e.Kind with
  | false=>exact RR hb hu (by omega)
  | true =>
   have hn:vV e.Kind=false:=by
    cases hn:vV e.Kind
    ·rfl
    ·rw [T6 _ hn] at hu;cases hu
   have ht:cG e=7:=by
    unfold cG
    rw [hn,hu]
    simp only [Bool.false_eq_true,if_false,if_true]
    unfold nG
    rw [if_pos hgt]
   rw [if_pos (by rw [ht];omega),ht] at h
   omega
 ·exact hle
theorem V3 {p:zQ} (h:tU p=0):∀ e∈p.Events,e.Stack.length≤32:=by
 intro e he
 exact zDo (X8 (fB h).2.2.2.2.2.2.2.2 e he)
theorem Q7 {l:List zQ} (h:nW l) (hN:evN l≤100000):T2 l:=by
 have:=MU h
 refine ⟨by omega,fun p hp=>⟨by have:=zAM hp;omega,fun e he=>?_⟩⟩
 have:=V3 (h p hp) e he
 omega
theorem Y3 (l m:List zQ):evN l≤evN (l++m):=by rw [Q0];omega
theorem J1 {b:List Int} (hb:wM b):(vZ b).1.Threads.length≤64∧(vZ b).1.Domains.length≤8∧(vZ b).1.Snaps.length≤200∧nW (vZ b).2.1∧evN (vZ b).2.1≤20000:=by
 unfold vZ
 cases hh:jR b with
 | none=>exact ⟨by simp,by simp,by simp,fun p hp=>(by cases hp),by simp [evN]⟩
 | some v =>
  obtain ⟨h,r⟩:=v
  obtain ⟨body,c1,c2,c3,c4,_⟩:=RG hb hh
  have hi:=zDS hb hh
  obtain ⟨m,hm⟩:=hi.pre
  have hv:=hi.v
  have he:=hi.ev
  rw [hm] at hv he
  exact ⟨c4.nt,c4.nd,hi.snaps,fun p hp=>hv p (by simp [hp]),Nat.le_trans (Y3 _ m) he⟩
end Go.Ab
