/- The typed arguments of this seat's laws. Printed by row.py. -/
import Derived.Test.YtdpgdpjoemdkjaaP10xD
import Derived.Test.YtdpgdpjoemdkjaaA35
namespace Go.Ab
open Go
set_option linter.unusedVariables false
def zFh (s:yQ):Prop:=y3 s.Id∧zI9 s.Name∧y3 s.Domain
theorem zIp:Enc [.int .i64,.str,.int .i64] (fun s:yQ=>[.int .i64 s.Id,.str s.Name,.int .i64 s.Domain]) zFh :=
 Enc.view (vU jX (vU zIC (vU jX zEt))) (fun p=>(⟨p.1,p.2.1,p.2.2.1⟩:yQ)) (fun _=>rfl) (fun _ h=>⟨h.1,h.2.1,h.2.2.1⟩)
def zAk (s:zL):Prop:=y3 s.At∧y3 s.Kind∧zI9 s.Name∧y3 s.N∧y3 s.M∧(zJZ zI9) s.Stack
theorem zFd:Enc [.int .i64,.int .i64,.str,.int .i64,.int .i64,.sl false [.str]] (fun s:zL=>[.int .i64 s.At,.int .i64 s.Kind,.str s.Name,.int .i64 s.N,.int .i64 s.M,.sl false 1 (List.map AV.str s.Stack)]) zAk :=
 Enc.view (vU jX (vU jX (vU zIC (vU jX (vU jX (vU (zMQ zIC) zEt)))))) (fun p=>(⟨p.1,p.2.1,p.2.2.1,p.2.2.2.1,p.2.2.2.2.1,p.2.2.2.2.2.1⟩:zL)) (fun _=>rfl) (fun _ h=>⟨h.1,h.2.1,h.2.2.1,h.2.2.2.1,h.2.2.2.2.1,h.2.2.2.2.2.1⟩)
def zFj (s:zA1):Prop:=zO6 s.Drain∧zAk s.E
theorem zNa:Enc [.bool,.int .i64,.int .i64,.str,.int .i64,.int .i64,.sl false [.str]] (fun s:zA1=>[.bool s.Drain,.int .i64 s.E.At,.int .i64 s.E.Kind,.str s.E.Name,.int .i64 s.E.N,.int .i64 s.E.M,.sl false 1 (List.map AV.str s.E.Stack)]) zFj :=
 Enc.view (vU zRw (vU zFd zEt)) (fun p=>(⟨p.1,p.2.1⟩:zA1)) (fun _=>rfl) (fun _ h=>⟨h.1,h.2.1⟩)
def zHo (s:zO):Prop:=y3 s.c0∧y3 s.c1
theorem zMj:Enc [.int .i64,.int .i64] (fun s:zO=>[.int .i64 s.c0,.int .i64 s.c1]) zHo :=
 Enc.view (vU jX (vU jX zEt)) (fun p=>(⟨p.1,p.2.1⟩:zO)) (fun _=>rfl) (fun _ h=>⟨h.1,h.2.1⟩)
def zCn (s:zW):Prop:=y3 s.Policy∧(zJZ x4) s.Data∧y3 s.Start∧y3 s.End∧y3 s.First∧y3 s.Next
theorem zJL:Enc [.int .i64,.sl false [.int .u8],.int .i64,.int .i64,.int .i64,.int .i64] (fun s:zW=>[.int .i64 s.Policy,.sl false 1 (List.map (AV.int .u8) s.Data),.int .i64 s.Start,.int .i64 s.End,.int .i64 s.First,.int .i64 s.Next]) zCn :=
 Enc.view (vU jX (vU (zMQ zRE) (vU jX (vU jX (vU jX (vU jX zEt)))))) (fun p=>(⟨p.1,p.2.1,p.2.2.1,p.2.2.2.1,p.2.2.2.2.1,p.2.2.2.2.2.1⟩:zW)) (fun _=>rfl) (fun _ h=>⟨h.1,h.2.1,h.2.2.1,h.2.2.2.1,h.2.2.2.2.1,h.2.2.2.2.2.1⟩)
def nR (s:zK):Prop:=zFh s.Thread∧(zJZ zI9) s.Names∧(zJZ zHo) s.Stacks∧zCn s.Ring∧y3 s.Last∧y3 s.Sent
theorem zGK:Enc [.int .i64,.str,.int .i64,.sl false [.str],.sl true [.int .i64,.int .i64],.int .i64,.sl false [.int .u8],.int .i64,.int .i64,.int .i64,.int .i64,.int .i64,.int .i64] (fun s:zK=>[.int .i64 s.Thread.Id,.str s.Thread.Name,.int .i64 s.Thread.Domain,.sl false 1 (List.map AV.str s.Names),.sl false 2 (List.map zA s.Stacks),.int .i64 s.Ring.Policy,.sl false 1 (List.map (AV.int .u8) s.Ring.Data),.int .i64 s.Ring.Start,.int .i64 s.Ring.End,.int .i64 s.Ring.First,.int .i64 s.Ring.Next,.int .i64 s.Last,.int .i64 s.Sent]) nR :=
 Enc.view (vU zIp (vU (zMQ zIC) (vU (zRR zMj) (vU zJL (vU jX (vU jX zEt)))))) (fun p=>(⟨p.1,p.2.1,p.2.2.1,p.2.2.2.1,p.2.2.2.2.1,p.2.2.2.2.2.1⟩:zK)) (fun _=>rfl) (fun _ h=>⟨h.1,h.2.1,h.2.2.1,h.2.2.2.1,h.2.2.2.2.1,h.2.2.2.2.2.1⟩)
end Go.Ab
