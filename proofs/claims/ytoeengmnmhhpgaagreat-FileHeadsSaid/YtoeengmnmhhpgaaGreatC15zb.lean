/- Plain laws of the functions w8 this seat's, laid anew from another seat's text. No conditions but those that the theorems name. -/
import Derived.Test.YtoeengmnmhhpgaaGreatP15zxD
import Derived.Test.YtoeengmnmhhpgaaGreatR15z
import Derived.Test.YtoeengmnmhhpgaaGreatB15za
import Derived.Test.YtoeengmnmhhpgaaGreatB15zb
import Derived.Test.YtoeengmnmhhpgaaGreatB15zc
import Derived.Test.YtoeengmnmhhpgaaGreatB15zd
import Derived.Test.YtoeengmnmhhpgaaGreatB15ze
import Derived.Test.YtoeengmnmhhpgaaGreatB15zf
import Derived.Test.YtoeengmnmhhpgaaGreatB15zg
import Derived.Test.YtoeengmnmhhpgaaGreatB15zh
import Derived.Test.YtoeengmnmhhpgaaGreatB15zi
import Derived.Test.YtoeengmnmhhpgaaGreatB15zj
import Derived.Test.YtoeengmnmhhpgaaGreatB15zk
import Derived.Test.YtoeengmnmhhpgaaGreatB15zt
import Derived.Test.YtoeengmnmhhpgaaGreatB15zm
import Derived.Test.YtoeengmnmhhpgaaGreatB15zn
import Derived.Test.YtoeengmnmhhpgaaGreatB15zo
import Derived.Test.YtoeengmnmhhpgaaGreatC15za
namespace Go.Ab
open Go
set_option linter.unusedVariables false
/-- A step of reading: what it does where nothing was bad, is what the parser does. -/
def rV {α:Type} (p:List Int→Option (α×List Int)) (b:List Int) (bad:Bool) (a:α) (b':List Int) (bad':Bool):Prop :=
  kC b'∧b'.length≤b.length∧(bad=true→bad'=true)∧(bad=false→match p b with | some (v,r)=>a=v∧b'=r∧bad'=false | none=>bad'=true)
theorem rV.pure {α:Type} {x:α} {b:List Int} {bad:Bool} (h:kC b):rV (KX x) b bad x b bad:=⟨h,Nat.le_refl _,fun h=>h,fun h=>⟨rfl,rfl,h⟩⟩
/-- At bad ends any result will do. -/
theorem rV.bad {α:Type} {p:List Int→Option (α×List Int)} {b b':List Int} {a:α} (h1:kC b') (h2:b'.length≤b.length):rV p b true a b' true:=⟨h1,h2,fun _=>rfl,fun h=>by cases h⟩
end Go.Ab
