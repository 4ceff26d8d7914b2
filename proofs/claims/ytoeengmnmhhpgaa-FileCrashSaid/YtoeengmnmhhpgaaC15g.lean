/- Plain laws of the functions wU this seat's, laid anew from another seat's text. No conditions but those that the theorems name. -/
import Derived.Test.YtoeengmnmhhpgaaP15xD
import Derived.Test.YtoeengmnmhhpgaaR15
import Derived.Test.YtoeengmnmhhpgaaB15a
import Derived.Test.YtoeengmnmhhpgaaB15b
import Derived.Test.YtoeengmnmhhpgaaB15c
import Derived.Test.YtoeengmnmhhpgaaB15d
import Derived.Test.YtoeengmnmhhpgaaB15e
import Derived.Test.YtoeengmnmhhpgaaB15f
import Derived.Test.YtoeengmnmhhpgaaB15g
import Derived.Test.YtoeengmnmhhpgaaB15h
import Derived.Test.YtoeengmnmhhpgaaB15i
import Derived.Test.YtoeengmnmhhpgaaB15j
import Derived.Test.YtoeengmnmhhpgaaB15k
import Derived.Test.YtoeengmnmhhpgaaB15t
import Derived.Test.YtoeengmnmhhpgaaB15m
import Derived.Test.YtoeengmnmhhpgaaB15n
import Derived.Test.YtoeengmnmhhpgaaB15o
import Derived.Test.YtoeengmnmhhpgaaC15a
import Derived.Test.YtoeengmnmhhpgaaC15b
import Derived.Test.YtoeengmnmhhpgaaC15c
import Derived.Test.YtoeengmnmhhpgaaC15d
import Derived.Test.YtoeengmnmhhpgaaC15e
import Derived.Test.YtoeengmnmhhpgaaC15f
namespace Go.Ab
open Go
set_option linter.unusedVariables false
theorem i9:gR 281474976710656=some true:=by kernel_rfl
theorem zDW {e:y6} (h:evS e=0):e.Stack.length≤32:=by
 rcases zlg 32 e.Stack.length with hgt | hle
 ·exfalso
  unfold evS at h
  split at h
  ·omega
  split at h
  ·omega
  split at h
  ·omega
  rename_i hb
  have hb:bG e=false:=by simpa using hb
  cases hu:uS e.Kind with
  | false=>exact UC hb hu (by omega)
  | true =>
   have hn:vX e.Kind=false:=by
    cases hn:vX e.Kind
    ·rfl
    ·rw [S3 _ hn] at hu;cases hu
   have ht:bC e=7:=by
    unfold bC
    rw [hn,hu]
    simp only [Bool.false_eq_true,if_false,if_true]
    unfold kQ
    rw [if_pos hgt]
   rw [if_pos (by rw [ht];omega),ht] at h
   omega
 ·exact hle
theorem zA4 {p:zQ} (h:u3 p=0):∀ e∈p.Events,e.Stack.length≤32:=by
 intro e he
 exact zDW (zBO (fA h).2.2.2.2.2.2.2.2 e he)
theorem ZH {l:List zQ} (h:nL l) (hN:evN l≤100000):QG l:=by
 have:=K3 h
 refine ⟨by omega,fun p hp=>⟨by have:=zA7 hp;omega,fun e he=>?_⟩⟩
 have:=zA4 (h p hp) e he
 omega
theorem zAI (l m:List zQ):evN l≤evN (l++m):=by rw [VQ];omega
theorem SW {b:List Int} (hb:wI b):(vJ b).1.Threads.length≤64∧(vJ b).1.Domains.length≤8∧(vJ b).1.Snaps.length≤200∧nL (vJ b).2.1∧evN (vJ b).2.1≤20000:=by
 unfold vJ
 cases hh:jC b with
 | none=>exact ⟨by simp,by simp,by simp,fun p hp=>(by cases hp),by simp [evN]⟩
 | some v =>
  obtain ⟨h,r⟩:=v
  obtain ⟨body,c1,c2,c3,c4,_⟩:=OD hb hh
  have hi:=XL hb hh
  obtain ⟨m,hm⟩:=hi.pre
  have hv:=hi.v
  have he:=hi.ev
  rw [hm] at hv he
  exact ⟨c4.nt,c4.nd,hi.snaps,fun p hp=>hv p (by simp [hp]),Nat.le_trans (zAI _ m) he⟩
end Go.Ab
