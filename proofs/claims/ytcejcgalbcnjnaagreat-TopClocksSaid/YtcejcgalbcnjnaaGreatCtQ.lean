/- Lemmas. No conditions but those that they name. -/
import Derived.Test.YtcejcgalbcnjnaaGreatRtop
import Derived.Test.YtcejcgalbcnjnaaGreatCtP2
namespace Go.Ab
theorem Top_TopClocks_plain:∀ (a0:uL),WU a0->∃ F,AN F a0=some true:=fun w _=>⟨FF,zOj w⟩
end Go.Ab
