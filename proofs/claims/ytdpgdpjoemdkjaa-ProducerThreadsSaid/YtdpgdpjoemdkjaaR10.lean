/- The typed arguments of this seat's laws. Printed by row.py. -/
import Derived.Test.YtdpgdpjoemdkjaaP10xD
import Derived.Test.YtdpgdpjoemdkjaaA35
namespace Go.Ab
open Go
set_option linter.unusedVariables false
def t6 (s:zC):Prop:=yC s.Id∧zEb s.Name∧yC s.Domain
theorem zA5:Enc [.int .i64,.str,.int .i64] (fun s:zC=>[.int .i64 s.Id,.str s.Name,.int .i64 s.Domain]) t6 :=
 Enc.view (xI vF (xI zEm (xI vF zAN))) (fun p=>(⟨p.1,p.2.1,p.2.2.1⟩:zC)) (fun _=>rfl) (fun _ h=>⟨h.1,h.2.1,h.2.2.1⟩)
def zBB (s:zF):Prop:=yC s.At∧yC s.Kind∧zEb s.Name∧yC s.N∧yC s.M∧(zFt zEb) s.Stack
theorem zEo:Enc [.int .i64,.int .i64,.str,.int .i64,.int .i64,.sl false [.str]] (fun s:zF=>[.int .i64 s.At,.int .i64 s.Kind,.str s.Name,.int .i64 s.N,.int .i64 s.M,.sl false 1 (List.map AV.str s.Stack)]) zBB :=
 Enc.view (xI vF (xI vF (xI zEm (xI vF (xI vF (xI (zHK zEm) zAN)))))) (fun p=>(⟨p.1,p.2.1,p.2.2.1,p.2.2.2.1,p.2.2.2.2.1,p.2.2.2.2.2.1⟩:zF)) (fun _=>rfl) (fun _ h=>⟨h.1,h.2.1,h.2.2.1,h.2.2.2.1,h.2.2.2.2.1,h.2.2.2.2.2.1⟩)
def zBy (s:jV):Prop:=zJ4 s.Drain∧zBB s.E
theorem zHS:Enc [.bool,.int .i64,.int .i64,.str,.int .i64,.int .i64,.sl false [.str]] (fun s:jV=>[.bool s.Drain,.int .i64 s.E.At,.int .i64 s.E.Kind,.str s.E.Name,.int .i64 s.E.N,.int .i64 s.E.M,.sl false 1 (List.map AV.str s.E.Stack)]) zBy :=
 Enc.view (xI zMl (xI zEo zAN)) (fun p=>(⟨p.1,p.2.1⟩:jV)) (fun _=>rfl) (fun _ h=>⟨h.1,h.2.1⟩)
def zDm (s:zI):Prop:=yC s.c0∧yC s.c1
theorem zHy:Enc [.int .i64,.int .i64] (fun s:zI=>[.int .i64 s.c0,.int .i64 s.c1]) zDm :=
 Enc.view (xI vF (xI vF zAN)) (fun p=>(⟨p.1,p.2.1⟩:zI)) (fun _=>rfl) (fun _ h=>⟨h.1,h.2.1⟩)
def zCs (s:zB):Prop:=yC s.Policy∧(zFt yP) s.Data∧yC s.Start∧yC s.End∧yC s.First∧yC s.Next
theorem zFr:Enc [.int .i64,.sl false [.int .u8],.int .i64,.int .i64,.int .i64,.int .i64] (fun s:zB=>[.int .i64 s.Policy,.sl false 1 (List.map (AV.int .u8) s.Data),.int .i64 s.Start,.int .i64 s.End,.int .i64 s.First,.int .i64 s.Next]) zCs :=
 Enc.view (xI vF (xI (zHK zMf) (xI vF (xI vF (xI vF (xI vF zAN)))))) (fun p=>(⟨p.1,p.2.1,p.2.2.1,p.2.2.2.1,p.2.2.2.2.1,p.2.2.2.2.2.1⟩:zB)) (fun _=>rfl) (fun _ h=>⟨h.1,h.2.1,h.2.2.1,h.2.2.2.1,h.2.2.2.2.1,h.2.2.2.2.2.1⟩)
def zDb (s:zA):Prop:=t6 s.Thread∧(zFt zEb) s.Names∧(zFt zDm) s.Stacks∧zCs s.Ring∧yC s.Last∧yC s.Sent
theorem zJ0:Enc [.int .i64,.str,.int .i64,.sl false [.str],.sl true [.int .i64,.int .i64],.int .i64,.sl false [.int .u8],.int .i64,.int .i64,.int .i64,.int .i64,.int .i64,.int .i64] (fun s:zA=>[.int .i64 s.Thread.Id,.str s.Thread.Name,.int .i64 s.Thread.Domain,.sl false 1 (List.map AV.str s.Names),.sl false 2 (List.map zD s.Stacks),.int .i64 s.Ring.Policy,.sl false 1 (List.map (AV.int .u8) s.Ring.Data),.int .i64 s.Ring.Start,.int .i64 s.Ring.End,.int .i64 s.Ring.First,.int .i64 s.Ring.Next,.int .i64 s.Last,.int .i64 s.Sent]) zDb :=
 Enc.view (xI zA5 (xI (zHK zEm) (xI (zMd zHy) (xI zFr (xI vF (xI vF zAN)))))) (fun p=>(⟨p.1,p.2.1,p.2.2.1,p.2.2.2.1,p.2.2.2.2.1,p.2.2.2.2.2.1⟩:zA)) (fun _=>rfl) (fun _ h=>⟨h.1,h.2.1,h.2.2.1,h.2.2.2.1,h.2.2.2.2.1,h.2.2.2.2.2.1⟩)
end Go.Ab
