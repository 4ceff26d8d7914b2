/- The typed arguments of this seat's laws. Printed by row.py. -/
import Derived.Test.YtbifmbdcejggkaaP16xD
import Derived.Test.YtbifmbdcejggkaaA30
namespace Go.Ab
open Go
set_option linter.unusedVariables false
def zC0 (s:zY):Prop:=qO s.Id∧zIL s.Name∧qO s.Domain
theorem zFW:Enc [.int .i64,.str,.int .i64] (fun s:zY=>[.int .i64 s.Id,.str s.Name,.int .i64 s.Domain]) zC0 :=
 Enc.view (vA tB (vA zJA (vA tB nW))) (fun p=>(⟨p.1,p.2.1,p.2.2.1⟩:zY)) (fun _=>rfl) (fun _ h=>⟨h.1,h.2.1,h.2.2.1⟩)
def zDa (s:zS):Prop:=qO s.Id∧qO s.Ppm
theorem zF9:Enc [.int .i64,.int .i64] (fun s:zS=>[.int .i64 s.Id,.int .i64 s.Ppm]) zDa :=
 Enc.view (vA tB (vA tB nW)) (fun p=>(⟨p.1,p.2.1⟩:zS)) (fun _=>rfl) (fun _ h=>⟨h.1,h.2.1⟩)
def zB9 (s:nR):Prop:=qO s.Lo∧qO s.Hi
theorem zEG:Enc [.int .i64,.int .i64] (fun s:nR=>[.int .i64 s.Lo,.int .i64 s.Hi]) zB9 :=
 Enc.view (vA tB (vA tB nW)) (fun p=>(⟨p.1,p.2.1⟩:nR)) (fun _=>rfl) (fun _ h=>⟨h.1,h.2.1⟩)
def zEq (s:xM):Prop:=qO s.A∧qO s.AtA∧qO s.B∧zB9 s.AtB
theorem zHp:Enc [.int .i64,.int .i64,.int .i64,.int .i64,.int .i64] (fun s:xM=>[.int .i64 s.A,.int .i64 s.AtA,.int .i64 s.B,.int .i64 s.AtB.Lo,.int .i64 s.AtB.Hi]) zEq :=
 Enc.view (vA tB (vA tB (vA tB (vA zEG nW)))) (fun p=>(⟨p.1,p.2.1,p.2.2.1,p.2.2.2.1⟩:xM)) (fun _=>rfl) (fun _ h=>⟨h.1,h.2.1,h.2.2.1,h.2.2.2.1⟩)
def pL (s:zL):Prop:=(zCq zC0) s.Threads∧(zCq zDa) s.Domains∧(zCq zEq) s.Snaps
theorem zDw:Enc [.sl true [.int .i64,.str,.int .i64],.sl true [.int .i64,.int .i64],.sl true [.int .i64,.int .i64,.int .i64,.int .i64,.int .i64]] (fun s:zL=>[.sl false 3 (List.map zF s.Threads),.sl false 2 (List.map zC s.Domains),.sl false 5 (List.map zJ s.Snaps)]) pL :=
 Enc.view (vA (zDz zFW) (vA (zDz zF9) (vA (zDz zHp) nW))) (fun p=>(⟨p.1,p.2.1,p.2.2.1⟩:zL)) (fun _=>rfl) (fun _ h=>⟨h.1,h.2.1,h.2.2.1⟩)
def zDG (s:zK):Prop:=qO s.At∧qO s.Kind∧zIL s.Name∧qO s.N∧qO s.M∧(zCq zIL) s.Stack
theorem zG6:Enc [.int .i64,.int .i64,.str,.int .i64,.int .i64,.sl false [.str]] (fun s:zK=>[.int .i64 s.At,.int .i64 s.Kind,.str s.Name,.int .i64 s.N,.int .i64 s.M,.sl false 1 (List.map AV.str s.Stack)]) zDG :=
 Enc.view (vA tB (vA tB (vA zJA (vA tB (vA tB (vA (zOM zJA) nW)))))) (fun p=>(⟨p.1,p.2.1,p.2.2.1,p.2.2.2.1,p.2.2.2.2.1,p.2.2.2.2.2.1⟩:zK)) (fun _=>rfl) (fun _ h=>⟨h.1,h.2.1,h.2.2.1,h.2.2.2.1,h.2.2.2.2.1,h.2.2.2.2.2.1⟩)
def j5 (s:zB):Prop:=qO s.Thread∧qO s.Serial∧qO s.Lost∧(zCq zDG) s.Events
theorem zCK:Enc [.int .i64,.int .i64,.int .i64,.sl true [.int .i64,.int .i64,.str,.int .i64,.int .i64,.sl false [.str]]] (fun s:zB=>[.int .i64 s.Thread,.int .i64 s.Serial,.int .i64 s.Lost,.sl false 6 (List.map zD s.Events)]) j5 :=
 Enc.view (vA tB (vA tB (vA tB (vA (zDz zG6) nW)))) (fun p=>(⟨p.1,p.2.1,p.2.2.1,p.2.2.2.1⟩:zB)) (fun _=>rfl) (fun _ h=>⟨h.1,h.2.1,h.2.2.1,h.2.2.2.1⟩)
def zJ2 (s:zQ):Prop:=pL s.Head∧(zCq j5) s.Parts
theorem zOG:Enc [.sl true [.int .i64,.str,.int .i64],.sl true [.int .i64,.int .i64],.sl true [.int .i64,.int .i64,.int .i64,.int .i64,.int .i64],.sl true [.int .i64,.int .i64,.int .i64,.sl true [.int .i64,.int .i64,.str,.int .i64,.int .i64,.sl false [.str]]]] (fun s:zQ=>[.sl false 3 (List.map zF s.Head.Threads),.sl false 2 (List.map zC s.Head.Domains),.sl false 5 (List.map zJ s.Head.Snaps),.sl false 4 (List.map zA s.Parts)]) zJ2 :=
 Enc.view (vA zDw (vA (zDz zCK) nW)) (fun p=>(⟨p.1,p.2.1⟩:zQ)) (fun _=>rfl) (fun _ h=>⟨h.1,h.2.1⟩)
def zKH (s:qS):Prop:=qO s.Thread∧qO s.Serial
theorem zO3:Enc [.int .i64,.int .i64] (fun s:qS=>[.int .i64 s.Thread,.int .i64 s.Serial]) zKH :=
 Enc.view (vA tB (vA tB nW)) (fun p=>(⟨p.1,p.2.1⟩:qS)) (fun _=>rfl) (fun _ h=>⟨h.1,h.2.1⟩)
end Go.Ab
