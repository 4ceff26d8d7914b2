/- TopClocks returns true for every input, and its argument reads behind the call as before. No conditions. -/
import Derived.Test.YtcejcgalbcnjnaaGreatRtopxTopxTopClocks
import Derived.Test.YtcejcgalbcnjnaaGreatCtQ
namespace Go.Proofs.YtcejcgalbcnjnaaGreat
theorem Top_TopClocks_holds : Rows.TopClocksSaid := Top_TopClocks_row Go.Ab.Top_TopClocks_plain
#print axioms Top_TopClocks_holds
end Go.Proofs.YtcejcgalbcnjnaaGreat
