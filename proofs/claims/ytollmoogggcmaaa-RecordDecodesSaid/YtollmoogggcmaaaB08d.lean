/- Plain laws of the functions below this seat's, laid anew from another seat's text. No conditions but those that the theorems name. -/
import Derived.Test.YtollmoogggcmaaaP08xD
import Derived.Test.YtollmoogggcmaaaB08a
import Derived.Test.YtollmoogggcmaaaB08b
import Derived.Test.YtollmoogggcmaaaB08c
namespace Go.Ab
open Go
set_option linter.unusedVariables false
def recInts (names : Int) (e : T_api_Event) (st : Int) : List Int :=
  [e.Kind, e.At] ++ (if useName e.Kind then [names] else []) ++ (if useN e.Kind then [e.N] else []) ++ (if useM e.Kind then [e.M] else []) ++ (if useStack e.Kind then [st] else [])
theorem R08_Uses_eq {k : Int} (h : 1 ≤ k ∧ k ≤ 12) : R08_Uses k = some (useName k, useN k, useM k, useStack k) := by
  have : k = 1 ∨ k = 2 ∨ k = 3 ∨ k = 4 ∨ k = 5 ∨ k = 6 ∨ k = 7 ∨ k = 8 ∨ k = 9 ∨ k = 10 ∨ k = 11 ∨ k = 12 := by omega
  rcases this with h | h | h | h | h | h | h | h | h | h | h | h <;> subst h <;> rfl
end Go.Ab
