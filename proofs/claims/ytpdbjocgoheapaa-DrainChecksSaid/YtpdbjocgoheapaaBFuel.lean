/- A loop that compares two lists, at any fuel. -/
import Derived.Test.YtpdbjocgoheapaaA37
namespace Go.Ab
open Go
end Go.Ab
