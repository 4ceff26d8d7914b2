/- The typed arguments of this seat's laws. Printed by row.py. -/
import Derived.Test.YtbifmbdcejggkaaP16xD
import Derived.Test.YtbifmbdcejggkaaA35
namespace Go.Ab
open Go
set_option linter.unusedVariables false
def zDH (s:z0):Prop:=jE s.Id∧zJz s.Name∧jE s.Domain
theorem zGH:Enc [.int .i64,.str,.int .i64] (fun s:z0=>[.int .i64 s.Id,.str s.Name,.int .i64 s.Domain]) zDH :=
 Enc.view (vG tN (vG zK9 (vG tN zAy))) (fun p=>(⟨p.1,p.2.1,p.2.2.1⟩:z0)) (fun _=>rfl) (fun _ h=>⟨h.1,h.2.1,h.2.2.1⟩)
def zDy (s:zU):Prop:=jE s.Id∧jE s.Ppm
theorem zGR:Enc [.int .i64,.int .i64] (fun s:zU=>[.int .i64 s.Id,.int .i64 s.Ppm]) zDy :=
 Enc.view (vG tN (vG tN zAy)) (fun p=>(⟨p.1,p.2.1⟩:zU)) (fun _=>rfl) (fun _ h=>⟨h.1,h.2.1⟩)
def zCM (s:zAD):Prop:=jE s.Lo∧jE s.Hi
theorem zFK:Enc [.int .i64,.int .i64] (fun s:zAD=>[.int .i64 s.Lo,.int .i64 s.Hi]) zCM :=
 Enc.view (vG tN (vG tN zAy)) (fun p=>(⟨p.1,p.2.1⟩:zAD)) (fun _=>rfl) (fun _ h=>⟨h.1,h.2.1⟩)
def zE3 (s:xR):Prop:=jE s.A∧jE s.AtA∧jE s.B∧zCM s.AtB
theorem zIF:Enc [.int .i64,.int .i64,.int .i64,.int .i64,.int .i64] (fun s:xR=>[.int .i64 s.A,.int .i64 s.AtA,.int .i64 s.B,.int .i64 s.AtB.Lo,.int .i64 s.AtB.Hi]) zE3 :=
 Enc.view (vG tN (vG tN (vG tN (vG zFK zAy)))) (fun p=>(⟨p.1,p.2.1,p.2.2.1,p.2.2.2.1⟩:xR)) (fun _=>rfl) (fun _ h=>⟨h.1,h.2.1,h.2.2.1,h.2.2.2.1⟩)
def zE2 (s:zL):Prop:=(zFN zDH) s.Threads∧(zFN zDy) s.Domains∧(zFN zE3) s.Snaps
theorem zIv:Enc [.sl true [.int .i64,.str,.int .i64],.sl true [.int .i64,.int .i64],.sl true [.int .i64,.int .i64,.int .i64,.int .i64,.int .i64]] (fun s:zL=>[.sl false 3 (List.map zG s.Threads),.sl false 2 (List.map zC s.Domains),.sl false 5 (List.map zK s.Snaps)]) zE2 :=
 Enc.view (vG (zFQ zGH) (vG (zFQ zGR) (vG (zFQ zIF) zAy))) (fun p=>(⟨p.1,p.2.1,p.2.2.1⟩:zL)) (fun _=>rfl) (fun _ h=>⟨h.1,h.2.1,h.2.2.1⟩)
def zEd (s:zI):Prop:=jE s.At∧jE s.Kind∧zJz s.Name∧jE s.N∧jE s.M∧(zFN zJz) s.Stack
theorem zHe:Enc [.int .i64,.int .i64,.str,.int .i64,.int .i64,.sl false [.str]] (fun s:zI=>[.int .i64 s.At,.int .i64 s.Kind,.str s.Name,.int .i64 s.N,.int .i64 s.M,.sl false 1 (List.map AV.str s.Stack)]) zEd :=
 Enc.view (vG tN (vG tN (vG zK9 (vG tN (vG tN (vG (zQc zK9) zAy)))))) (fun p=>(⟨p.1,p.2.1,p.2.2.1,p.2.2.2.1,p.2.2.2.2.1,p.2.2.2.2.2.1⟩:zI)) (fun _=>rfl) (fun _ h=>⟨h.1,h.2.1,h.2.2.1,h.2.2.2.1,h.2.2.2.2.1,h.2.2.2.2.2.1⟩)
def zDr (s:zB):Prop:=jE s.Thread∧jE s.Serial∧jE s.Lost∧(zFN zEd) s.Events
theorem zGx:Enc [.int .i64,.int .i64,.int .i64,.sl true [.int .i64,.int .i64,.str,.int .i64,.int .i64,.sl false [.str]]] (fun s:zB=>[.int .i64 s.Thread,.int .i64 s.Serial,.int .i64 s.Lost,.sl false 6 (List.map zD s.Events)]) zDr :=
 Enc.view (vG tN (vG tN (vG tN (vG (zFQ zHe) zAy)))) (fun p=>(⟨p.1,p.2.1,p.2.2.1,p.2.2.2.1⟩:zB)) (fun _=>rfl) (fun _ h=>⟨h.1,h.2.1,h.2.2.1,h.2.2.2.1⟩)
def q7 (s:zM):Prop:=zE2 s.Head∧(zFN zDr) s.Parts
theorem zE0:Enc [.sl true [.int .i64,.str,.int .i64],.sl true [.int .i64,.int .i64],.sl true [.int .i64,.int .i64,.int .i64,.int .i64,.int .i64],.sl true [.int .i64,.int .i64,.int .i64,.sl true [.int .i64,.int .i64,.str,.int .i64,.int .i64,.sl false [.str]]]] (fun s:zM=>[.sl false 3 (List.map zG s.Head.Threads),.sl false 2 (List.map zC s.Head.Domains),.sl false 5 (List.map zK s.Head.Snaps),.sl false 4 (List.map zA s.Parts)]) q7 :=
 Enc.view (vG zIv (vG (zFQ zGx) zAy)) (fun p=>(⟨p.1,p.2.1⟩:zM)) (fun _=>rfl) (fun _ h=>⟨h.1,h.2.1⟩)
def zCf (s:z6):Prop:=jE s.Thread∧jE s.Serial
theorem zJ9:Enc [.int .i64,.int .i64] (fun s:z6=>[.int .i64 s.Thread,.int .i64 s.Serial]) zCf :=
 Enc.view (vG tN (vG tN zAy)) (fun p=>(⟨p.1,p.2.1⟩:z6)) (fun _=>rfl) (fun _ h=>⟨h.1,h.2.1⟩)
end Go.Ab
