/- The typed arguments of this seat's laws. Printed by row.py. -/
import Derived.Test.YtdpgdpjoemdkjaaP10xD
import Derived.Test.YtdpgdpjoemdkjaaA35
namespace Go.Ab
open Go
set_option linter.unusedVariables false
def zCY (s:zC):Prop:=yS s.Id∧zFU s.Name∧yS s.Domain
theorem zFp:Enc [.int .i64,.str,.int .i64] (fun s:zC=>[.int .i64 s.Id,.str s.Name,.int .i64 s.Domain]) zCY :=
 Enc.view (w7 qQ (w7 zGD (w7 qQ zCo))) (fun p=>(⟨p.1,p.2.1,p.2.2.1⟩:zC)) (fun _=>rfl) (fun _ h=>⟨h.1,h.2.1,h.2.2.1⟩)
def zDk (s:zE):Prop:=yS s.At∧yS s.Kind∧zFU s.Name∧yS s.N∧yS s.M∧(zDI zFU) s.Stack
theorem zF1:Enc [.int .i64,.int .i64,.str,.int .i64,.int .i64,.sl false [.str]] (fun s:zE=>[.int .i64 s.At,.int .i64 s.Kind,.str s.Name,.int .i64 s.N,.int .i64 s.M,.sl false 1 (List.map AV.str s.Stack)]) zDk :=
 Enc.view (w7 qQ (w7 qQ (w7 zGD (w7 qQ (w7 qQ (w7 (zIk zGD) zCo)))))) (fun p=>(⟨p.1,p.2.1,p.2.2.1,p.2.2.2.1,p.2.2.2.2.1,p.2.2.2.2.2.1⟩:zE)) (fun _=>rfl) (fun _ h=>⟨h.1,h.2.1,h.2.2.1,h.2.2.2.1,h.2.2.2.2.1,h.2.2.2.2.2.1⟩)
def qW (s:y3):Prop:=zMs s.Drain∧zDk s.E
theorem zCQ:Enc [.bool,.int .i64,.int .i64,.str,.int .i64,.int .i64,.sl false [.str]] (fun s:y3=>[.bool s.Drain,.int .i64 s.E.At,.int .i64 s.E.Kind,.str s.E.Name,.int .i64 s.E.N,.int .i64 s.E.M,.sl false 1 (List.map AV.str s.E.Stack)]) qW :=
 Enc.view (w7 zOc (w7 zF1 zCo)) (fun p=>(⟨p.1,p.2.1⟩:y3)) (fun _=>rfl) (fun _ h=>⟨h.1,h.2.1⟩)
def zE2 (s:zJ):Prop:=yS s.c0∧yS s.c1
theorem zJs:Enc [.int .i64,.int .i64] (fun s:zJ=>[.int .i64 s.c0,.int .i64 s.c1]) zE2 :=
 Enc.view (w7 qQ (w7 qQ zCo)) (fun p=>(⟨p.1,p.2.1⟩:zJ)) (fun _=>rfl) (fun _ h=>⟨h.1,h.2.1⟩)
def zD8 (s:zB):Prop:=yS s.Policy∧(zDI xJ) s.Data∧yS s.Start∧yS s.End∧yS s.First∧yS s.Next
theorem zGW:Enc [.int .i64,.sl false [.int .u8],.int .i64,.int .i64,.int .i64,.int .i64] (fun s:zB=>[.int .i64 s.Policy,.sl false 1 (List.map (AV.int .u8) s.Data),.int .i64 s.Start,.int .i64 s.End,.int .i64 s.First,.int .i64 s.Next]) zD8 :=
 Enc.view (w7 qQ (w7 (zIk zOs) (w7 qQ (w7 qQ (w7 qQ (w7 qQ zCo)))))) (fun p=>(⟨p.1,p.2.1,p.2.2.1,p.2.2.2.1,p.2.2.2.2.1,p.2.2.2.2.2.1⟩:zB)) (fun _=>rfl) (fun _ h=>⟨h.1,h.2.1,h.2.2.1,h.2.2.2.1,h.2.2.2.2.1,h.2.2.2.2.2.1⟩)
def zEP (s:zA):Prop:=zCY s.Thread∧(zDI zFU) s.Names∧(zDI zE2) s.Stacks∧zD8 s.Ring∧yS s.Last∧yS s.Sent
theorem zL3:Enc [.int .i64,.str,.int .i64,.sl false [.str],.sl true [.int .i64,.int .i64],.int .i64,.sl false [.int .u8],.int .i64,.int .i64,.int .i64,.int .i64,.int .i64,.int .i64] (fun s:zA=>[.int .i64 s.Thread.Id,.str s.Thread.Name,.int .i64 s.Thread.Domain,.sl false 1 (List.map AV.str s.Names),.sl false 2 (List.map zD s.Stacks),.int .i64 s.Ring.Policy,.sl false 1 (List.map (AV.int .u8) s.Ring.Data),.int .i64 s.Ring.Start,.int .i64 s.Ring.End,.int .i64 s.Ring.First,.int .i64 s.Ring.Next,.int .i64 s.Last,.int .i64 s.Sent]) zEP :=
 Enc.view (w7 zFp (w7 (zIk zGD) (w7 (zLM zJs) (w7 zGW (w7 qQ (w7 qQ zCo)))))) (fun p=>(⟨p.1,p.2.1,p.2.2.1,p.2.2.2.1,p.2.2.2.2.1,p.2.2.2.2.2.1⟩:zA)) (fun _=>rfl) (fun _ h=>⟨h.1,h.2.1,h.2.2.1,h.2.2.2.1,h.2.2.2.2.1,h.2.2.2.2.2.1⟩)
end Go.Ab
