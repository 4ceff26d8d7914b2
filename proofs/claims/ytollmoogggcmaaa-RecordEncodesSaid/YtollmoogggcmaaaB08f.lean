/- Plain laws of the functions below this seat's, laid anew from another seat's text. No conditions but those that the theorems name. -/
import Derived.Test.YtollmoogggcmaaaP08xD
import Derived.Test.YtollmoogggcmaaaB08a
import Derived.Test.YtollmoogggcmaaaB08b
import Derived.Test.YtollmoogggcmaaaB08c
import Derived.Test.YtollmoogggcmaaaB08d
import Derived.Test.YtollmoogggcmaaaB08e
namespace Go.Ab
open Go
set_option linter.unusedVariables false
end Go.Ab
