/- Plain laws of the functions below this seat's, laid anew from another seat's text. No conditions but those that the theorems name. -/
import Derived.Test.YtlnlcciflpncmaaP11xD
import Derived.Test.YtlnlcciflpncmaaB11a
import Derived.Test.YtlnlcciflpncmaaB11b
import Derived.Test.YtlnlcciflpncmaaB11c
import Derived.Test.YtlnlcciflpncmaaB11d
import Derived.Test.YtlnlcciflpncmaaB11e
import Derived.Test.YtlnlcciflpncmaaB11f
import Derived.Test.YtlnlcciflpncmaaB11g
import Derived.Test.YtlnlcciflpncmaaB11h
import Derived.Test.YtlnlcciflpncmaaB11i
namespace Go.Ab
open Go
set_option linter.unusedVariables false
end Go.Ab
