/- Plain laws of the functions uS this seat's, laid anew from another seat's text. No conditions but those that the theorems name. -/
import Derived.Test.YtoeengmnmhhpgaaGreatP15zxD
import Derived.Test.YtoeengmnmhhpgaaGreatR15z
import Derived.Test.YtoeengmnmhhpgaaGreatB15za
import Derived.Test.YtoeengmnmhhpgaaGreatB15zb
import Derived.Test.YtoeengmnmhhpgaaGreatB15zc
import Derived.Test.YtoeengmnmhhpgaaGreatB15zd
import Derived.Test.YtoeengmnmhhpgaaGreatB15ze
import Derived.Test.YtoeengmnmhhpgaaGreatB15zf
import Derived.Test.YtoeengmnmhhpgaaGreatB15zg
import Derived.Test.YtoeengmnmhhpgaaGreatB15zh
import Derived.Test.YtoeengmnmhhpgaaGreatB15zi
import Derived.Test.YtoeengmnmhhpgaaGreatB15zj
import Derived.Test.YtoeengmnmhhpgaaGreatB15zk
import Derived.Test.YtoeengmnmhhpgaaGreatB15zt
import Derived.Test.YtoeengmnmhhpgaaGreatB15zm
import Derived.Test.YtoeengmnmhhpgaaGreatB15zn
import Derived.Test.YtoeengmnmhhpgaaGreatB15zo
import Derived.Test.YtoeengmnmhhpgaaGreatC15za
import Derived.Test.YtoeengmnmhhpgaaGreatC15zb
import Derived.Test.YtoeengmnmhhpgaaGreatC15zc
import Derived.Test.YtoeengmnmhhpgaaGreatC15zd
import Derived.Test.YtoeengmnmhhpgaaGreatC15ze
import Derived.Test.YtoeengmnmhhpgaaGreatC15zf
namespace Go.Ab
open Go
set_option linter.unusedVariables false
theorem RT:E4 281474976710656=some true:=by kernel_rfl
theorem zGn (l m:List z7):evN l<=evN (l++m):=by rw [UO];omega
theorem zAK {b:List Int} (hb:vN b):(vW b).1.Threads.length<=64/\(vW b).1.Domains.length<=8/\(vW b).1.Snaps.length<=200/\nI (vW b).2.1/\evN (vW b).2.1<=20000:=by
 unfold vW;cases hh:jR b with
 | none=>exact ⟨by simp,by simp,by simp,fun p hp=>(by cases hp),by simp [evN]⟩
 | some v =>
  obtain ⟨h,r⟩:=v;obtain ⟨body,c1,c2,c3,c4,_⟩:=MQ hb hh;have hi:=zEh hb hh;obtain ⟨m,hm⟩:=hi.pre;have hv:=hi.v;have he:=hi.ev;rw [hm] at hv he;exact ⟨c4.nt,c4.nd,hi.snaps,fun p hp=>hv p (by simp [hp]),Nat.le_trans (zGn _ m) he⟩
end Go.Ab
