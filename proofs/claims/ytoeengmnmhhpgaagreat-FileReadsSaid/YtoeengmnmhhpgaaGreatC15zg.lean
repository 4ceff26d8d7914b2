/- Plain laws of the functions uV this seat's, laid anew from another seat's text. No conditions but those that the theorems name. -/
import Derived.Test.YtoeengmnmhhpgaaGreatP15zxD
import Derived.Test.YtoeengmnmhhpgaaGreatR15z
import Derived.Test.YtoeengmnmhhpgaaGreatB15za
import Derived.Test.YtoeengmnmhhpgaaGreatB15zb
import Derived.Test.YtoeengmnmhhpgaaGreatB15zc
import Derived.Test.YtoeengmnmhhpgaaGreatB15zd
import Derived.Test.YtoeengmnmhhpgaaGreatB15ze
import Derived.Test.YtoeengmnmhhpgaaGreatB15zf
import Derived.Test.YtoeengmnmhhpgaaGreatB15zg
import Derived.Test.YtoeengmnmhhpgaaGreatB15zh
import Derived.Test.YtoeengmnmhhpgaaGreatB15zi
import Derived.Test.YtoeengmnmhhpgaaGreatB15zj
import Derived.Test.YtoeengmnmhhpgaaGreatB15zk
import Derived.Test.YtoeengmnmhhpgaaGreatB15zt
import Derived.Test.YtoeengmnmhhpgaaGreatB15zm
import Derived.Test.YtoeengmnmhhpgaaGreatB15zn
import Derived.Test.YtoeengmnmhhpgaaGreatB15zo
import Derived.Test.YtoeengmnmhhpgaaGreatC15za
import Derived.Test.YtoeengmnmhhpgaaGreatC15zb
import Derived.Test.YtoeengmnmhhpgaaGreatC15zc
import Derived.Test.YtoeengmnmhhpgaaGreatC15zd
import Derived.Test.YtoeengmnmhhpgaaGreatC15ze
import Derived.Test.YtoeengmnmhhpgaaGreatC15zf
namespace Go.Ab
open Go
set_option linter.unusedVariables false
theorem XT:G4 281474976710656=some true:=by kernel_rfl
theorem zD9 {e:yW} (h:evS e=0):e.Stack.length≤32:=by
 rcases Nat.lt_or_ge 32 e.Stack.length with hgt | hle
 ·exfalso
  unfold evS at h
  split at h
  ·omega
  split at h
  ·omega
  split at h
  ·omega
  rename_i hb
  have hb:aK e=false:=by simpa using hb
  cases hu:uP e.Kind with
  | false=>exact UZ hb hu (by omega)
  | true =>
   have hn:vB e.Kind=false:=by
    cases hn:vB e.Kind
    ·rfl
    ·rw [RZ _ hn] at hu;cases hu
   have ht:b7 e=7:=by
    unfold b7
    rw [hn,hu]
    simp only [Bool.false_eq_true,if_false,if_true]
    unfold kH
    rw [if_pos hgt]
   rw [if_pos (by rw [ht];omega),ht] at h
   omega
 ·exact hle
theorem zBR {p:z8} (h:qI p=0):∀ e∈p.Events,e.Stack.length≤32:=by
 intro e he
 exact zD9 (zDJ (bN h).2.2.2.2.2.2.2.2 e he)
theorem YV {l:List z8} (h:nR l) (hN:evN l≤100000):YN l:=by
 have:=CW h
 refine ⟨by omega,fun p hp=>⟨by have:=M0 hp;omega,fun e he=>?_⟩⟩
 have:=zBR (h p hp) e he
 omega
theorem zE4 (l m:List z8):evN l≤evN (l++m):=by rw [U1];omega
theorem zGF {b:List Int} (hb:vV b):(bO b).1.Threads.length≤64∧(bO b).1.Domains.length≤8∧(bO b).1.Snaps.length≤200∧nR (bO b).2.1∧evN (bO b).2.1≤20000:=by
 unfold bO
 cases hh:jW b with
 | none=>exact ⟨by simp,by simp,by simp,fun p hp=>(by cases hp),by simp [evN]⟩
 | some v =>
  obtain ⟨h,r⟩:=v
  obtain ⟨body,c1,c2,c3,c4,_⟩:=UA hb hh
  have hi:=zA1 hb hh
  obtain ⟨m,hm⟩:=hi.pre
  have hv:=hi.v
  have he:=hi.ev
  rw [hm] at hv he
  exact ⟨c4.nt,c4.nd,hi.snaps,fun p hp=>hv p (by simp [hp]),Nat.le_trans (zE4 _ m) he⟩
theorem L15_FileReads_plain:∀ (b:List Int),nW x6 b→∃ F,g9 F b=some true:=by
 intro b hb
 refine ⟨281474976710656,?_⟩
 unfold g9
 by_cases hl:b.length>4000
 ·rw [yP (by omega),cond_true,XT];rfl
 have hB:vV b:=⟨hb.1,by omega⟩
 obtain ⟨k1,k2,k3,k4,k5⟩:=zGF hB
 rw [yM (by omega),cond_false,zGv hB,zbs,zDQ hB,zbs,uF rfl,cond_true,zBT (by omega) (by omega) (by omega),zbs,yP ⟨rfl,rfl,rfl⟩,cond_true,zAi (YV k4 (by omega)),zbs,yP rfl,cond_true,XT]
 rfl
end Go.Ab
