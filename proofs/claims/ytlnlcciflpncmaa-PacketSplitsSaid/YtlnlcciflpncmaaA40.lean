/- A range over a map of the call's own: the rounds come in an order that nobody knows. -/
import Derived.Test.YtlnlcciflpncmaaA39
import Derived.Maps.RangeRun
namespace Go.Ab
open Go
open Go.ChangeMaps (setBlock)

def AS.put (st : AS) (d : Nat) (av : AV) : AS := ⟨fun k => bif Nat.beq k d then av else st.slot k, st.box⟩

theorem RelT.put {G : Ghost} {st : AS} {T : Tbl} {a : Act} {w : World} (h : RelT G st T a w) {d : Nat} {v : Value} {av : AV} (hd : d < G.n) (hr : Rep w (imm G st T) T v av) :
    RelT G (st.put d av) T (a.put (some d) v) w := by
  refine ⟨h.defers, by simp [Act.put, h.size], fun t => ?_, h.boxes, h.unused, h.apart, h.mine, h.foot, h.kept⟩
  rw [tmps_put t (by rw [h.size]; exact hd)]
  simp only [AS.put]
  by_cases e : t = d
  · subst e; rw [if_pos rfl, nbeq_self]; exact hr
  · rw [if_neg e, nbeq_false e]; exact h.slots t

/-- The slots of a range over a map. -/
structure RS where
  tm : Nat
  t0 : Nat
  ti : Nat
  tR : Nat
  tn : Nat
  tok : Nat
  te : Nat
  tx : Nat
  ty : Nat
  tk : Nat
  tv : Nat
  blk : Nat
  b3 : Nat

end Go.Ab
