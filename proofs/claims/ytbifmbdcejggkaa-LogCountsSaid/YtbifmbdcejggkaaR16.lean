/- The typed arguments of this seat's laws. Printed by row.py. -/
import Derived.Test.YtbifmbdcejggkaaP16xD
import Derived.Test.YtbifmbdcejggkaaA35
namespace Go.Ab
open Go
set_option linter.unusedVariables false

def zCf (s:zP):Prop:=tJ s.Id∧zHE s.Name∧tJ s.Domain
theorem zFk:Enc [.int .i64,.str,.int .i64] (fun s:zP=>[.int .i64 s.Id,.str s.Name,.int .i64 s.Domain]) zCf :=
  Enc.view (w7 uQ (w7 zH6 (w7 uQ pZ))) (fun p=>(⟨p.1,p.2.1,p.2.2.1⟩:zP)) (fun _=>rfl) (fun _ h=>⟨h.1,h.2.1,h.2.2.1⟩)
def zCe (s:zL):Prop:=tJ s.Id∧tJ s.Ppm
theorem zFe:Enc [.int .i64,.int .i64] (fun s:zL=>[.int .i64 s.Id,.int .i64 s.Ppm]) zCe :=
  Enc.view (w7 uQ (w7 uQ pZ)) (fun p=>(⟨p.1,p.2.1⟩:zL)) (fun _=>rfl) (fun _ h=>⟨h.1,h.2.1⟩)
def zBu (s:pW):Prop:=tJ s.Lo∧tJ s.Hi
theorem zDP:Enc [.int .i64,.int .i64] (fun s:pW=>[.int .i64 s.Lo,.int .i64 s.Hi]) zBu :=
  Enc.view (w7 uQ (w7 uQ pZ)) (fun p=>(⟨p.1,p.2.1⟩:pW)) (fun _=>rfl) (fun _ h=>⟨h.1,h.2.1⟩)
def zDy (s:x9):Prop:=tJ s.A∧tJ s.AtA∧tJ s.B∧zBu s.AtB
theorem zGB:Enc [.int .i64,.int .i64,.int .i64,.int .i64,.int .i64] (fun s:x9=>[.int .i64 s.A,.int .i64 s.AtA,.int .i64 s.B,.int .i64 s.AtB.Lo,.int .i64 s.AtB.Hi]) zDy :=
  Enc.view (w7 uQ (w7 uQ (w7 uQ (w7 zDP pZ)))) (fun p=>(⟨p.1,p.2.1,p.2.2.1,p.2.2.2.1⟩:x9)) (fun _=>rfl) (fun _ h=>⟨h.1,h.2.1,h.2.2.1,h.2.2.2.1⟩)
def kZ (s:zR):Prop:=(zBS zCf) s.Threads∧(zBS zCe) s.Domains∧(zBS zDy) s.Snaps
theorem zCU:Enc [.sl true [.int .i64,.str,.int .i64],.sl true [.int .i64,.int .i64],.sl true [.int .i64,.int .i64,.int .i64,.int .i64,.int .i64]] (fun s:zR=>[.sl false 3 (List.map zF s.Threads),.sl false 2 (List.map zD s.Domains),.sl false 5 (List.map zO s.Snaps)]) kZ :=
  Enc.view (w7 (zCO zFk) (w7 (zCO zFe) (w7 (zCO zGB) pZ))) (fun p=>(⟨p.1,p.2.1,p.2.2.1⟩:zR)) (fun _=>rfl) (fun _ h=>⟨h.1,h.2.1,h.2.2.1⟩)
def zCW (s:zH):Prop:=tJ s.At∧tJ s.Kind∧zHE s.Name∧tJ s.N∧tJ s.M∧(zBS zHE) s.Stack
theorem zFM:Enc [.int .i64,.int .i64,.str,.int .i64,.int .i64,.sl false [.str]] (fun s:zH=>[.int .i64 s.At,.int .i64 s.Kind,.str s.Name,.int .i64 s.N,.int .i64 s.M,.sl false 1 (List.map AV.str s.Stack)]) zCW :=
  Enc.view (w7 uQ (w7 uQ (w7 zH6 (w7 uQ (w7 uQ (w7 (zOa zH6) pZ)))))) (fun p=>(⟨p.1,p.2.1,p.2.2.1,p.2.2.2.1,p.2.2.2.2.1,p.2.2.2.2.2.1⟩:zH)) (fun _=>rfl) (fun _ h=>⟨h.1,h.2.1,h.2.2.1,h.2.2.2.1,h.2.2.2.2.1,h.2.2.2.2.2.1⟩)
def jK (s:zB):Prop:=tJ s.Thread∧tJ s.Serial∧tJ s.Lost∧(zBS zCW) s.Events
theorem zB8:Enc [.int .i64,.int .i64,.int .i64,.sl true [.int .i64,.int .i64,.str,.int .i64,.int .i64,.sl false [.str]]] (fun s:zB=>[.int .i64 s.Thread,.int .i64 s.Serial,.int .i64 s.Lost,.sl false 6 (List.map zE s.Events)]) jK :=
  Enc.view (w7 uQ (w7 uQ (w7 uQ (w7 (zCO zFM) pZ)))) (fun p=>(⟨p.1,p.2.1,p.2.2.1,p.2.2.2.1⟩:zB)) (fun _=>rfl) (fun _ h=>⟨h.1,h.2.1,h.2.2.1,h.2.2.2.1⟩)
def zIj (s:zX):Prop:=kZ s.Head∧(zBS jK) s.Parts
theorem zNQ:Enc [.sl true [.int .i64,.str,.int .i64],.sl true [.int .i64,.int .i64],.sl true [.int .i64,.int .i64,.int .i64,.int .i64,.int .i64],.sl true [.int .i64,.int .i64,.int .i64,.sl true [.int .i64,.int .i64,.str,.int .i64,.int .i64,.sl false [.str]]]] (fun s:zX=>[.sl false 3 (List.map zF s.Head.Threads),.sl false 2 (List.map zD s.Head.Domains),.sl false 5 (List.map zO s.Head.Snaps),.sl false 4 (List.map zA s.Parts)]) zIj :=
  Enc.view (w7 zCU (w7 (zCO zB8) pZ)) (fun p=>(⟨p.1,p.2.1⟩:zX)) (fun _=>rfl) (fun _ h=>⟨h.1,h.2.1⟩)
def zJA (s:yC):Prop:=tJ s.Thread∧tJ s.Serial
theorem zNT:Enc [.int .i64,.int .i64] (fun s:yC=>[.int .i64 s.Thread,.int .i64 s.Serial]) zJA :=
  Enc.view (w7 uQ (w7 uQ pZ)) (fun p=>(⟨p.1,p.2.1⟩:yC)) (fun _=>rfl) (fun _ h=>⟨h.1,h.2.1⟩)
end Go.Ab
