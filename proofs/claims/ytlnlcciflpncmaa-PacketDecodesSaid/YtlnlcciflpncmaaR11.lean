/- The typed arguments of this seat's laws. Printed by row.py. -/
import Derived.Test.YtlnlcciflpncmaaP11xD
import Derived.Test.YtlnlcciflpncmaaA32
namespace Go.Ab
open Go
set_option linter.unusedVariables false
def zC7 (s:zA):Prop:=yH s.At∧yH s.Kind∧zLw s.Name∧yH s.N∧yH s.M∧(zFS zLw) s.Stack
theorem zGh:Enc [.int .i64,.int .i64,.str,.int .i64,.int .i64,.sl false [.str]] (fun s:zA=>[.int .i64 s.At,.int .i64 s.Kind,.str s.Name,.int .i64 s.N,.int .i64 s.M,.sl false 1 (List.map AV.str s.Stack)]) zC7 :=
 Enc.view (nB zBd (nB zBd (nB zLX (nB zBd (nB zBd (nB (zLM zLX) zKR)))))) (fun p=>(⟨p.1,p.2.1,p.2.2.1,p.2.2.2.1,p.2.2.2.2.1,p.2.2.2.2.2.1⟩:zA)) (fun _=>rfl) (fun _ h=>⟨h.1,h.2.1,h.2.2.1,h.2.2.2.1,h.2.2.2.2.1,h.2.2.2.2.2.1⟩)
def zGR (s:zF):Prop:=yH s.Thread∧yH s.Serial∧yH s.Lost∧(zFS zC7) s.Events
theorem zMG:Enc [.int .i64,.int .i64,.int .i64,.sl true [.int .i64,.int .i64,.str,.int .i64,.int .i64,.sl false [.str]]] (fun s:zF=>[.int .i64 s.Thread,.int .i64 s.Serial,.int .i64 s.Lost,.sl false 6 (List.map zB s.Events)]) zGR :=
 Enc.view (nB zBd (nB zBd (nB zBd (nB (zN3 zGh) zKR)))) (fun p=>(⟨p.1,p.2.1,p.2.2.1,p.2.2.2.1⟩:zF)) (fun _=>rfl) (fun _ h=>⟨h.1,h.2.1,h.2.2.1,h.2.2.2.1⟩)
end Go.Ab
