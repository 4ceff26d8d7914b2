/- Plain laws of the functions below this seat's, laid anew from another seat's text. No conditions but those that the theorems name. -/
import Derived.Test.YtpdbjocgoheapaaP12xD
import Derived.Test.YtpdbjocgoheapaaBFuel
import Derived.Test.YtpdbjocgoheapaaB12bF
import Derived.Test.YtpdbjocgoheapaaB12cF
import Derived.Test.YtpdbjocgoheapaaB12dF
import Derived.Test.YtpdbjocgoheapaaB12eF
import Derived.Test.YtpdbjocgoheapaaB12fF
import Derived.Test.YtpdbjocgoheapaaB12gF
namespace Go.Ab
open Go
set_option linter.unusedVariables false
end Go.Ab
