/- Plain laws of the functions w8 this seat's, laid anew from another seat's text. No conditions but those that the theorems name. -/
import Derived.Test.YtoeengmnmhhpgaaGreatP15zxD
import Derived.Test.YtoeengmnmhhpgaaGreatR15z
import Derived.Test.YtoeengmnmhhpgaaGreatB15za
import Derived.Test.YtoeengmnmhhpgaaGreatB15zb
import Derived.Test.YtoeengmnmhhpgaaGreatB15zc
import Derived.Test.YtoeengmnmhhpgaaGreatB15zd
import Derived.Test.YtoeengmnmhhpgaaGreatB15ze
import Derived.Test.YtoeengmnmhhpgaaGreatB15zf
import Derived.Test.YtoeengmnmhhpgaaGreatB15zg
import Derived.Test.YtoeengmnmhhpgaaGreatB15zh
import Derived.Test.YtoeengmnmhhpgaaGreatB15zi
import Derived.Test.YtoeengmnmhhpgaaGreatB15zj
import Derived.Test.YtoeengmnmhhpgaaGreatB15zk
import Derived.Test.YtoeengmnmhhpgaaGreatB15zt
import Derived.Test.YtoeengmnmhhpgaaGreatB15zm
import Derived.Test.YtoeengmnmhhpgaaGreatB15zn
import Derived.Test.YtoeengmnmhhpgaaGreatB15zo
import Derived.Test.YtoeengmnmhhpgaaGreatC15za
import Derived.Test.YtoeengmnmhhpgaaGreatC15zb
import Derived.Test.YtoeengmnmhhpgaaGreatC15zc
import Derived.Test.YtoeengmnmhhpgaaGreatC15zd
import Derived.Test.YtoeengmnmhhpgaaGreatC15ze
import Derived.Test.YtoeengmnmhhpgaaGreatC15zf
namespace Go.Ab
open Go
set_option linter.unusedVariables false
theorem E2:gI 281474976710656=some true:=by kernel_rfl
theorem L15_FileHeads_plain:∀ (h:z6) (kind:Int) (b:List Int),o9 h→v6 kind→jJ v6 b→∃ F,aT F h kind b=some true:=by
  intro h kind b _ hk hb
  refine ⟨281474976710656,?_⟩
  unfold aT oY
  rw [zbs]
  by_cases hL:h.Threads.length≤70∧h.Domains.length≤10∧h.Snaps.length≤20
  · obtain ⟨l1,l2,l3⟩:=hL
    rw [wM (show ((([]:List Int).length:Nat):Int)≤4000 by simp),wM (show (0:Int)≤20000 by decide),wM (show ((h.Threads.length:Nat):Int)≤70 by omega),wM (show ((h.Domains.length:Nat):Int)≤10 by omega),wM (show ((h.Snaps.length:Nat):Int)≤20 by omega)]
    simp only [Bool.and_self,Bool.not_true,cond_false,zbs]
    by_cases hl:b.length>1000
    · rw [wM (by omega),cond_true,E2];rfl
    rw [wV (by omega),cond_false,RK (by omega) (by omega) (by omega),zbs,OH (by omega) (by omega) (by omega),zbs,nK rfl,cond_true,XG hk hb.1 (by omega),zbs,UJ hk hb.1 (by omega),zbs,beq_self_eq_true,cond_true,E2]
    rfl
  · rw [show (decide (((([]:List Int).length:Nat):Int)≤4000)&&(decide ((0:Int)≤20000)&&(decide (((h.Threads.length:Nat):Int)≤70)&&(decide (((h.Domains.length:Nat):Int)≤10)&&decide (((h.Snaps.length:Nat):Int)≤20)))))=false by
      rw [Bool.eq_false_iff]
      intro hc
      simp only [Bool.and_eq_true,decide_eq_true_eq] at hc
      exact hL ⟨by omega,by omega,by omega⟩]
    simp only [Bool.not_false,cond_true,zbs]
    rw [E2];rfl
end Go.Ab
