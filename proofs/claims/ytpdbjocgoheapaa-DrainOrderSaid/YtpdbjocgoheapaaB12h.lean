/- Plain laws of the functions below this seat's, laid anew from another seat's text. No conditions but those that the theorems name. -/
import Derived.Test.YtpdbjocgoheapaaP12xD
import Derived.Test.YtpdbjocgoheapaaB12b
import Derived.Test.YtpdbjocgoheapaaB12c
import Derived.Test.YtpdbjocgoheapaaB12d
import Derived.Test.YtpdbjocgoheapaaB12e
import Derived.Test.YtpdbjocgoheapaaB12f
import Derived.Test.YtpdbjocgoheapaaB12g
namespace Go.Ab
open Go
set_option linter.unusedVariables false
theorem R12_SamePackets_self {l : List T_api_Packet} (hl : l.length ≤ 100000) (hp : ∀ p ∈ l, p.Events.length ≤ 100000 ∧ ∀ e ∈ p.Events, e.Stack.length ≤ 100000) : R12_SamePackets 200000 l l = some true := by
  unfold R12_SamePackets
  rw [bne_f rfl, cond_false, same_loop (a := l) (b := l) (R12_SamePackets_L1 200000 l l) rfl hl (fun n i hi => by
    show R12_SamePackets_L1_body _ _ _ _ _ = _
    unfold R12_SamePackets_L1_body
    simp (disch := omega) only [dec_f, cond_false]) (fun n i x y r r2 hd hd2 hlt => by
    show R12_SamePackets_L1_body _ _ _ _ _ = _
    unfold R12_SamePackets_L1_body
    have hx := hp x (mem_drop hd)
    obtain rfl : x = y := by rw [hd] at hd2; exact (List.cons.inj hd2).1
    rw [dec_t (by omega), cond_true, idxL_drop hd, Option.bind_some, Option.bind_some, R11_Same_eq hx.1 hx.2, Option.bind_some, step64 (by omega)]
    by_cases h : x = x
    · rw [dec_t h, if_pos h]; rfl
    · rw [dec_f h, if_neg h]; rfl), Option.bind_some, if_pos rfl]
end Go.Ab
