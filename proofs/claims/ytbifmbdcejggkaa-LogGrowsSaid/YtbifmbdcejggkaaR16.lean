/- The typed arguments of this seat's laws. Printed by row.py. -/
import Derived.Test.YtbifmbdcejggkaaP16xD
import Derived.Test.YtbifmbdcejggkaaA30
namespace Go.Ab
open Go
set_option linter.unusedVariables false

def zB0 (s:zQ):Prop:=tF s.Id∧zHl s.Name∧tF s.Domain
theorem zEN:Enc [.int .i64,.str,.int .i64] (fun s:zQ=>[.int .i64 s.Id,.str s.Name,.int .i64 s.Domain]) zB0 :=
  Enc.view (vE uT (vE zIn (vE uT pE))) (fun p=>(⟨p.1,p.2.1,p.2.2.1⟩:zQ)) (fun _=>rfl) (fun _ h=>⟨h.1,h.2.1,h.2.2.1⟩)
def zCa (s:zM):Prop:=tF s.Id∧tF s.Ppm
theorem zEH:Enc [.int .i64,.int .i64] (fun s:zM=>[.int .i64 s.Id,.int .i64 s.Ppm]) zCa :=
  Enc.view (vE uT (vE uT pE)) (fun p=>(⟨p.1,p.2.1⟩:zM)) (fun _=>rfl) (fun _ h=>⟨h.1,h.2.1⟩)
def zBf (s:pI):Prop:=tF s.Lo∧tF s.Hi
theorem zDr:Enc [.int .i64,.int .i64] (fun s:pI=>[.int .i64 s.Lo,.int .i64 s.Hi]) zBf :=
  Enc.view (vE uT (vE uT pE)) (fun p=>(⟨p.1,p.2.1⟩:pI)) (fun _=>rfl) (fun _ h=>⟨h.1,h.2.1⟩)
def kG (s:yC):Prop:=tF s.A∧tF s.AtA∧tF s.B∧zBf s.AtB
theorem zCB:Enc [.int .i64,.int .i64,.int .i64,.int .i64,.int .i64] (fun s:yC=>[.int .i64 s.A,.int .i64 s.AtA,.int .i64 s.B,.int .i64 s.AtB.Lo,.int .i64 s.AtB.Hi]) kG :=
  Enc.view (vE uT (vE uT (vE uT (vE zDr pE)))) (fun p=>(⟨p.1,p.2.1,p.2.2.1,p.2.2.2.1⟩:yC)) (fun _=>rfl) (fun _ h=>⟨h.1,h.2.1,h.2.2.1,h.2.2.2.1⟩)
def kK (s:zS):Prop:=(zAj zB0) s.Threads∧(zAj zCa) s.Domains∧(zAj kG) s.Snaps
theorem zCz:Enc [.sl true [.int .i64,.str,.int .i64],.sl true [.int .i64,.int .i64],.sl true [.int .i64,.int .i64,.int .i64,.int .i64,.int .i64]] (fun s:zS=>[.sl false 3 (List.map zG s.Threads),.sl false 2 (List.map zD s.Domains),.sl false 5 (List.map zF s.Snaps)]) kK :=
  Enc.view (vE (zBW zEN) (vE (zBW zEH) (vE (zBW zCB) pE))) (fun p=>(⟨p.1,p.2.1,p.2.2.1⟩:zS)) (fun _=>rfl) (fun _ h=>⟨h.1,h.2.1,h.2.2.1⟩)
def zCx (s:zI):Prop:=tF s.At∧tF s.Kind∧zHl s.Name∧tF s.N∧tF s.M∧(zAj zHl) s.Stack
theorem zE7:Enc [.int .i64,.int .i64,.str,.int .i64,.int .i64,.sl false [.str]] (fun s:zI=>[.int .i64 s.At,.int .i64 s.Kind,.str s.Name,.int .i64 s.N,.int .i64 s.M,.sl false 1 (List.map AV.str s.Stack)]) zCx :=
  Enc.view (vE uT (vE uT (vE zIn (vE uT (vE uT (vE (zNm zIn) pE)))))) (fun p=>(⟨p.1,p.2.1,p.2.2.1,p.2.2.2.1,p.2.2.2.2.1,p.2.2.2.2.2.1⟩:zI)) (fun _=>rfl) (fun _ h=>⟨h.1,h.2.1,h.2.2.1,h.2.2.2.1,h.2.2.2.2.1,h.2.2.2.2.2.1⟩)
def q9 (s:zB):Prop:=tF s.Thread∧tF s.Serial∧tF s.Lost∧(zAj zCx) s.Events
theorem zBP:Enc [.int .i64,.int .i64,.int .i64,.sl true [.int .i64,.int .i64,.str,.int .i64,.int .i64,.sl false [.str]]] (fun s:zB=>[.int .i64 s.Thread,.int .i64 s.Serial,.int .i64 s.Lost,.sl false 6 (List.map zE s.Events)]) q9 :=
  Enc.view (vE uT (vE uT (vE uT (vE (zBW zE7) pE)))) (fun p=>(⟨p.1,p.2.1,p.2.2.1,p.2.2.2.1⟩:zB)) (fun _=>rfl) (fun _ h=>⟨h.1,h.2.1,h.2.2.1,h.2.2.2.1⟩)
def zHA (s:z9):Prop:=kK s.Head∧(zAj q9) s.Parts
theorem zM5:Enc [.sl true [.int .i64,.str,.int .i64],.sl true [.int .i64,.int .i64],.sl true [.int .i64,.int .i64,.int .i64,.int .i64,.int .i64],.sl true [.int .i64,.int .i64,.int .i64,.sl true [.int .i64,.int .i64,.str,.int .i64,.int .i64,.sl false [.str]]]] (fun s:z9=>[.sl false 3 (List.map zG s.Head.Threads),.sl false 2 (List.map zD s.Head.Domains),.sl false 5 (List.map zF s.Head.Snaps),.sl false 4 (List.map zA s.Parts)]) zHA :=
  Enc.view (vE zCz (vE (zBW zBP) pE)) (fun p=>(⟨p.1,p.2.1⟩:z9)) (fun _=>rfl) (fun _ h=>⟨h.1,h.2.1⟩)
def zI9 (s:tE):Prop:=tF s.Thread∧tF s.Serial
theorem zNk:Enc [.int .i64,.int .i64] (fun s:tE=>[.int .i64 s.Thread,.int .i64 s.Serial]) zI9 :=
  Enc.view (vE uT (vE uT pE)) (fun p=>(⟨p.1,p.2.1⟩:tE)) (fun _=>rfl) (fun _ h=>⟨h.1,h.2.1⟩)
end Go.Ab
