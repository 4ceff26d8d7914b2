/- Plain laws of the functions uS this seat's, laid anew from another seat's text. No conditions but those that the theorems name. -/
import Derived.Test.YtoeengmnmhhpgaaGreatP15zxD
import Derived.Test.YtoeengmnmhhpgaaGreatB15za
import Derived.Test.YtoeengmnmhhpgaaGreatB15zb
import Derived.Test.YtoeengmnmhhpgaaGreatB15zc
import Derived.Test.YtoeengmnmhhpgaaGreatB15zd
import Derived.Test.YtoeengmnmhhpgaaGreatB15zt
import Derived.Test.YtoeengmnmhhpgaaGreatB15zm
import Derived.Test.YtoeengmnmhhpgaaGreatB15zn
namespace Go.Ab
open Go
set_option linter.unusedVariables false
end Go.Ab
