/- A loop that compares two lists, at the fuel that this seat's texts use. -/
import Derived.Test.YtoeengmnmhhpgaaGreatA32
namespace Go.Ab
open Go
end Go.Ab
