/- LogReads, plain. No conditions. -/
import Derived.Test.YtbifmbdcejggkaaC16e
namespace Go.Ab
open Go
set_option linter.unusedVariables false

/-- Bounds on a log. -/
structure Small (h:zT) (l:List zB):Prop where
  t:h.Threads.length≤100000
  d:h.Domains.length≤100000
  s:h.Snaps.length≤100000
  len:l.length≤100000
  n:evN l≤100000
theorem zKK {h:zT} {l:List zB} (h0:(zB1 h l).2=0):zAw h=0∧zIa h l∧zB1 h l=(⟨h,qE h l⟩,0):=by
  unfold zB1 at *
  split at h0
  · rename_i h1;exact absurd h0 h1
  rename_i h1
  split at h0
  · rename_i h2;exact absurd h0 h2
  rename_i h2
  rw [if_neg h1,if_neg h2]
  exact ⟨by omega,zBJ.1 (by omega),rfl⟩
theorem zMg {h:zT} {l:List zB} (h1:zAw h=0) (h2:zIa h l):zB1 h l=(⟨h,qE h l⟩,0):=by
  unfold zB1
  rw [if_neg (by omega),if_neg (by rw [zBJ.2 h2];omega)]
def zNf (id:u0) (p:zB):Prop:=p.Thread=id.Thread∧id.Serial≥p.Serial∧id.Serial<p.Serial+p.Events.length
instance decHasId {id:u0} {p:zB}:Decidable (zNf id p):=inferInstanceAs (Decidable (_∧_))
end Go.Ab
