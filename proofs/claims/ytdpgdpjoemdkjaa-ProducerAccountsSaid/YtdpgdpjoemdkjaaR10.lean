/- The typed arguments of this seat's laws. Printed by row.py. -/
import Derived.Test.YtdpgdpjoemdkjaaP10xD
import Derived.Test.YtdpgdpjoemdkjaaA35
namespace Go.Ab
open Go
set_option linter.unusedVariables false
def zBu (s:zC):Prop:=z8 s.Id∧zEK s.Name∧z8 s.Domain
theorem zDN:Enc [.int .i64,.str,.int .i64] (fun s:zC=>[.int .i64 s.Id,.str s.Name,.int .i64 s.Domain]) zBu :=
 Enc.view (xU uB (xU zEs (xU uB zAT))) (fun p=>(⟨p.1,p.2.1,p.2.2.1⟩:zC)) (fun _=>rfl) (fun _ h=>⟨h.1,h.2.1,h.2.2.1⟩)
def zBS (s:zE):Prop:=z8 s.At∧z8 s.Kind∧zEK s.Name∧z8 s.N∧z8 s.M∧(zBY zEK) s.Stack
theorem zEQ:Enc [.int .i64,.int .i64,.str,.int .i64,.int .i64,.sl false [.str]] (fun s:zE=>[.int .i64 s.At,.int .i64 s.Kind,.str s.Name,.int .i64 s.N,.int .i64 s.M,.sl false 1 (List.map AV.str s.Stack)]) zBS :=
 Enc.view (xU uB (xU uB (xU zEs (xU uB (xU uB (xU (zGE zEs) zAT)))))) (fun p=>(⟨p.1,p.2.1,p.2.2.1,p.2.2.2.1,p.2.2.2.2.1,p.2.2.2.2.2.1⟩:zE)) (fun _=>rfl) (fun _ h=>⟨h.1,h.2.1,h.2.2.1,h.2.2.2.1,h.2.2.2.2.1,h.2.2.2.2.2.1⟩)
def uP (s:yG):Prop:=zCO s.Drain∧zBS s.E
theorem zBm:Enc [.bool,.int .i64,.int .i64,.str,.int .i64,.int .i64,.sl false [.str]] (fun s:yG=>[.bool s.Drain,.int .i64 s.E.At,.int .i64 s.E.Kind,.str s.E.Name,.int .i64 s.E.N,.int .i64 s.E.M,.sl false 1 (List.map AV.str s.E.Stack)]) uP :=
 Enc.view (xU zKf (xU zEQ zAT)) (fun p=>(⟨p.1,p.2.1⟩:yG)) (fun _=>rfl) (fun _ h=>⟨h.1,h.2.1⟩)
def zDv (s:zI):Prop:=z8 s.c0∧z8 s.c1
theorem zGI:Enc [.int .i64,.int .i64] (fun s:zI=>[.int .i64 s.c0,.int .i64 s.c1]) zDv :=
 Enc.view (xU uB (xU uB zAT)) (fun p=>(⟨p.1,p.2.1⟩:zI)) (fun _=>rfl) (fun _ h=>⟨h.1,h.2.1⟩)
def zCs (s:zB):Prop:=z8 s.Policy∧(zBY yW) s.Data∧z8 s.Start∧z8 s.End∧z8 s.First∧z8 s.Next
theorem zFn:Enc [.int .i64,.sl false [.int .u8],.int .i64,.int .i64,.int .i64,.int .i64] (fun s:zB=>[.int .i64 s.Policy,.sl false 1 (List.map (AV.int .u8) s.Data),.int .i64 s.Start,.int .i64 s.End,.int .i64 s.First,.int .i64 s.Next]) zCs :=
 Enc.view (xU uB (xU (zGE zMB) (xU uB (xU uB (xU uB (xU uB zAT)))))) (fun p=>(⟨p.1,p.2.1,p.2.2.1,p.2.2.2.1,p.2.2.2.2.1,p.2.2.2.2.2.1⟩:zB)) (fun _=>rfl) (fun _ h=>⟨h.1,h.2.1,h.2.2.1,h.2.2.2.1,h.2.2.2.2.1,h.2.2.2.2.2.1⟩)
def zDg (s:zA):Prop:=zBu s.Thread∧(zBY zEK) s.Names∧(zBY zDv) s.Stacks∧zCs s.Ring∧z8 s.Last∧z8 s.Sent
theorem zJ6:Enc [.int .i64,.str,.int .i64,.sl false [.str],.sl true [.int .i64,.int .i64],.int .i64,.sl false [.int .u8],.int .i64,.int .i64,.int .i64,.int .i64,.int .i64,.int .i64] (fun s:zA=>[.int .i64 s.Thread.Id,.str s.Thread.Name,.int .i64 s.Thread.Domain,.sl false 1 (List.map AV.str s.Names),.sl false 2 (List.map zD s.Stacks),.int .i64 s.Ring.Policy,.sl false 1 (List.map (AV.int .u8) s.Ring.Data),.int .i64 s.Ring.Start,.int .i64 s.Ring.End,.int .i64 s.Ring.First,.int .i64 s.Ring.Next,.int .i64 s.Last,.int .i64 s.Sent]) zDg :=
 Enc.view (xU zDN (xU (zGE zEs) (xU (zKo zGI) (xU zFn (xU uB (xU uB zAT)))))) (fun p=>(⟨p.1,p.2.1,p.2.2.1,p.2.2.2.1,p.2.2.2.2.1,p.2.2.2.2.2.1⟩:zA)) (fun _=>rfl) (fun _ h=>⟨h.1,h.2.1,h.2.2.1,h.2.2.2.1,h.2.2.2.2.1,h.2.2.2.2.2.1⟩)
end Go.Ab
