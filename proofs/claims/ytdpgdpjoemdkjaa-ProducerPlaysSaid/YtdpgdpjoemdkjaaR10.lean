/- The typed arguments of this seat's laws. Printed by row.py. -/
import Derived.Test.YtdpgdpjoemdkjaaP10xD
import Derived.Test.YtdpgdpjoemdkjaaA35
namespace Go.Ab
open Go
set_option linter.unusedVariables false
def zFb (s:yA):Prop:=y2 s.Id∧zJA s.Name∧y2 s.Domain
theorem zIf:Enc [.int .i64,.str,.int .i64] (fun s:yA=>[.int .i64 s.Id,.str s.Name,.int .i64 s.Domain]) zFb :=
 Enc.view (uI jS (uI zIM (uI jS zEp))) (fun p=>(⟨p.1,p.2.1,p.2.2.1⟩:yA)) (fun _=>rfl) (fun _ h=>⟨h.1,h.2.1,h.2.2.1⟩)
def zFP (s:zL):Prop:=y2 s.At∧y2 s.Kind∧zJA s.Name∧y2 s.N∧y2 s.M∧(zGl zJA) s.Stack
theorem zJv:Enc [.int .i64,.int .i64,.str,.int .i64,.int .i64,.sl false [.str]] (fun s:zL=>[.int .i64 s.At,.int .i64 s.Kind,.str s.Name,.int .i64 s.N,.int .i64 s.M,.sl false 1 (List.map AV.str s.Stack)]) zFP :=
 Enc.view (uI jS (uI jS (uI zIM (uI jS (uI jS (uI (zNd zIM) zEp)))))) (fun p=>(⟨p.1,p.2.1,p.2.2.1,p.2.2.2.1,p.2.2.2.2.1,p.2.2.2.2.2.1⟩:zL)) (fun _=>rfl) (fun _ h=>⟨h.1,h.2.1,h.2.2.1,h.2.2.2.1,h.2.2.2.2.1,h.2.2.2.2.2.1⟩)
def kW (s:xP):Prop:=zPo s.Drain∧zFP s.E
theorem zE9:Enc [.bool,.int .i64,.int .i64,.str,.int .i64,.int .i64,.sl false [.str]] (fun s:xP=>[.bool s.Drain,.int .i64 s.E.At,.int .i64 s.E.Kind,.str s.E.Name,.int .i64 s.E.N,.int .i64 s.E.M,.sl false 1 (List.map AV.str s.E.Stack)]) kW :=
 Enc.view (uI zRX (uI zJv zEp)) (fun p=>(⟨p.1,p.2.1⟩:xP)) (fun _=>rfl) (fun _ h=>⟨h.1,h.2.1⟩)
def zHV (s:zN):Prop:=y2 s.c0∧y2 s.c1
theorem zMk:Enc [.int .i64,.int .i64] (fun s:zN=>[.int .i64 s.c0,.int .i64 s.c1]) zHV :=
 Enc.view (uI jS (uI jS zEp)) (fun p=>(⟨p.1,p.2.1⟩:zN)) (fun _=>rfl) (fun _ h=>⟨h.1,h.2.1⟩)
def zGs (s:zO):Prop:=y2 s.Policy∧(zGl x7) s.Data∧y2 s.Start∧y2 s.End∧y2 s.First∧y2 s.Next
theorem zJI:Enc [.int .i64,.sl false [.int .u8],.int .i64,.int .i64,.int .i64,.int .i64] (fun s:zO=>[.int .i64 s.Policy,.sl false 1 (List.map (AV.int .u8) s.Data),.int .i64 s.Start,.int .i64 s.End,.int .i64 s.First,.int .i64 s.Next]) zGs :=
 Enc.view (uI jS (uI (zNd zSd) (uI jS (uI jS (uI jS (uI jS zEp)))))) (fun p=>(⟨p.1,p.2.1,p.2.2.1,p.2.2.2.1,p.2.2.2.2.1,p.2.2.2.2.2.1⟩:zO)) (fun _=>rfl) (fun _ h=>⟨h.1,h.2.1,h.2.2.1,h.2.2.2.1,h.2.2.2.2.1,h.2.2.2.2.2.1⟩)
def zHB (s:zG):Prop:=zFb s.Thread∧(zGl zJA) s.Names∧(zGl zHV) s.Stacks∧zGs s.Ring∧y2 s.Last∧y2 s.Sent
theorem zPQ:Enc [.int .i64,.str,.int .i64,.sl false [.str],.sl true [.int .i64,.int .i64],.int .i64,.sl false [.int .u8],.int .i64,.int .i64,.int .i64,.int .i64,.int .i64,.int .i64] (fun s:zG=>[.int .i64 s.Thread.Id,.str s.Thread.Name,.int .i64 s.Thread.Domain,.sl false 1 (List.map AV.str s.Names),.sl false 2 (List.map zA s.Stacks),.int .i64 s.Ring.Policy,.sl false 1 (List.map (AV.int .u8) s.Ring.Data),.int .i64 s.Ring.Start,.int .i64 s.Ring.End,.int .i64 s.Ring.First,.int .i64 s.Ring.Next,.int .i64 s.Last,.int .i64 s.Sent]) zHB :=
 Enc.view (uI zIf (uI (zNd zIM) (uI (zPN zMk) (uI zJI (uI jS (uI jS zEp)))))) (fun p=>(⟨p.1,p.2.1,p.2.2.1,p.2.2.2.1,p.2.2.2.2.1,p.2.2.2.2.2.1⟩:zG)) (fun _=>rfl) (fun _ h=>⟨h.1,h.2.1,h.2.2.1,h.2.2.2.1,h.2.2.2.2.1,h.2.2.2.2.2.1⟩)
end Go.Ab
