/- Plain laws of the functions uE this seat's, laid anew from another seat's text. No conditions but those that the theorems name. -/
import Derived.Test.YtlnlcciflpncmaaP11xD
import Derived.Test.YtlnlcciflpncmaaB11a
import Derived.Test.YtlnlcciflpncmaaB11b
import Derived.Test.YtlnlcciflpncmaaB11c
import Derived.Test.YtlnlcciflpncmaaB11d
import Derived.Test.YtlnlcciflpncmaaB11e
import Derived.Test.YtlnlcciflpncmaaB11f
import Derived.Test.YtlnlcciflpncmaaB11g
import Derived.Test.YtlnlcciflpncmaaB11h
import Derived.Test.YtlnlcciflpncmaaB11i
namespace Go.Ab
open Go
set_option linter.unusedVariables false
theorem zKr {p:zF}:((kP p).2≠0∧(kP p).1=[])∨((kP p).2=0∧qK p=0∧∃ n s q,wM n s∧zDG n s p.Events q∧(kP p).1=zID p n s++q.flatMap xX∧(q.flatMap xX).length≤50 * p.Events.length):=by
 unfold kP
 by_cases hp:qK p≠0
 ·rw [if_pos hp];exact .inl ⟨hp,rfl⟩
 rw [if_neg hp]
 rcases zCv p.Events [] [] [] zFZ with ⟨e,h1,h2⟩ | ⟨n',s',row',q,h1,h2,h3,h4,h5,h6,h7⟩
 ·rw [h1];exact .inl ⟨h2,rfl⟩
 ·rw [h1]
  refine .inr ⟨rfl,by omega,n',s',q,h2,h6,by rw [h5];rfl,?_⟩
  rw [h5] at h7;simpa using h7
end Go.Ab
