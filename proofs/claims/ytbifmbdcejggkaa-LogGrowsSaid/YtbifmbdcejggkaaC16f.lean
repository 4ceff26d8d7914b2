/- LogReads, plain. No conditions. -/
import Derived.Test.YtbifmbdcejggkaaC16e
namespace Go.Ab
open Go
set_option linter.unusedVariables false

/-- Bounds on a log. -/
structure Small (h:zS) (l:List zB):Prop where
  t:h.Threads.length≤100000
  d:h.Domains.length≤100000
  s:h.Snaps.length≤100000
  len:l.length≤100000
  n:evN l≤100000
theorem zKp {h:zS} {l:List zB} (h0:(zBT h l).2=0):zBo h=0∧zBd h l∧zBT h l=(⟨h,vM h l⟩,0):=by
  unfold zBT at *
  split at h0
  · rename_i h1;exact absurd h0 h1
  rename_i h1
  split at h0
  · rename_i h2;exact absurd h0 h2
  rename_i h2
  rw [if_neg h1,if_neg h2]
  exact ⟨by omega,zDS.1 (by omega),rfl⟩
def zNA (id:tE) (p:zB):Prop:=p.Thread=id.Thread∧id.Serial≥p.Serial∧id.Serial<p.Serial+p.Events.length
instance decHasId {id:tE} {p:zB}:Decidable (zNA id p):=inferInstanceAs (Decidable (_∧_))
end Go.Ab
