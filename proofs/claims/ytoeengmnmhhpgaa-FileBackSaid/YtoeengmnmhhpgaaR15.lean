/- The typed arguments of this seat's laws. Printed by row.py. -/
import Derived.Test.YtoeengmnmhhpgaaP15xD
import Derived.Test.YtoeengmnmhhpgaaA32
namespace Go.Ab
open Go
set_option linter.unusedVariables false
def QQ (s:xJ):Prop:=yU s.Id∧G3 s.Name∧yU s.Domain
theorem zA3:Enc [.int .i64,.str,.int .i64] (fun s:xJ=>[.int .i64 s.Id,.str s.Name,.int .i64 s.Domain]) QQ :=
 Enc.view (tM kH (tM KW (tM kH dV))) (fun p=>(⟨p.1,p.2.1,p.2.2.1⟩:xJ)) (fun _=>rfl) (fun _ h=>⟨h.1,h.2.1,h.2.2.1⟩)
def UA (s:y7):Prop:=yU s.Id∧yU s.Ppm
theorem Y9:Enc [.int .i64,.int .i64] (fun s:y7=>[.int .i64 s.Id,.int .i64 s.Ppm]) UA :=
 Enc.view (tM kH (tM kH dV)) (fun p=>(⟨p.1,p.2.1⟩:y7)) (fun _=>rfl) (fun _ h=>⟨h.1,h.2.1⟩)
def SI (s:CV):Prop:=yU s.Lo∧yU s.Hi
theorem zBa:Enc [.int .i64,.int .i64] (fun s:CV=>[.int .i64 s.Lo,.int .i64 s.Hi]) SI :=
 Enc.view (tM kH (tM kH dV)) (fun p=>(⟨p.1,p.2.1⟩:CV)) (fun _=>rfl) (fun _ h=>⟨h.1,h.2.1⟩)
def GE (s:yP):Prop:=yU s.A∧yU s.AtA∧yU s.B∧SI s.AtB
theorem UC:Enc [.int .i64,.int .i64,.int .i64,.int .i64,.int .i64] (fun s:yP=>[.int .i64 s.A,.int .i64 s.AtA,.int .i64 s.B,.int .i64 s.AtB.Lo,.int .i64 s.AtB.Hi]) GE :=
 Enc.view (tM kH (tM kH (tM kH (tM zBa dV)))) (fun p=>(⟨p.1,p.2.1,p.2.2.1,p.2.2.2.1⟩:yP)) (fun _=>rfl) (fun _ h=>⟨h.1,h.2.1,h.2.2.1,h.2.2.2.1⟩)
def fA (s:zU):Prop:=(aE QQ) s.Threads∧(aE UA) s.Domains∧(aE GE) s.Snaps
theorem zCH:Enc [.sl true [.int .i64,.str,.int .i64],.sl true [.int .i64,.int .i64],.sl true [.int .i64,.int .i64,.int .i64,.int .i64,.int .i64]] (fun s:zU=>[.sl false 3 (List.map z8 s.Threads),.sl false 2 (List.map z6 s.Domains),.sl false 5 (List.map z4 s.Snaps)]) fA :=
 Enc.view (tM (iY zA3) (tM (iY Y9) (tM (iY UC) dV))) (fun p=>(⟨p.1,p.2.1,p.2.2.1⟩:zU)) (fun _=>rfl) (fun _ h=>⟨h.1,h.2.1,h.2.2.1⟩)
def RZ (s:xA):Prop:=yU s.At∧yU s.Kind∧G3 s.Name∧yU s.N∧yU s.M∧(aE G3) s.Stack
theorem Z3:Enc [.int .i64,.int .i64,.str,.int .i64,.int .i64,.sl false [.str]] (fun s:xA=>[.int .i64 s.At,.int .i64 s.Kind,.str s.Name,.int .i64 s.N,.int .i64 s.M,.sl false 1 (List.map AV.str s.Stack)]) RZ :=
 Enc.view (tM kH (tM kH (tM KW (tM kH (tM kH (tM (Y1 KW) dV)))))) (fun p=>(⟨p.1,p.2.1,p.2.2.1,p.2.2.2.1,p.2.2.2.2.1,p.2.2.2.2.2.1⟩:xA)) (fun _=>rfl) (fun _ h=>⟨h.1,h.2.1,h.2.2.1,h.2.2.2.1,h.2.2.2.2.1,h.2.2.2.2.2.1⟩)
def T8 (s:zQ):Prop:=yU s.Thread∧yU s.Serial∧yU s.Lost∧(aE RZ) s.Events
theorem zCc:Enc [.int .i64,.int .i64,.int .i64,.sl true [.int .i64,.int .i64,.str,.int .i64,.int .i64,.sl false [.str]]] (fun s:zQ=>[.int .i64 s.Thread,.int .i64 s.Serial,.int .i64 s.Lost,.sl false 6 (List.map wF s.Events)]) T8 :=
 Enc.view (tM kH (tM kH (tM kH (tM (iY Z3) dV)))) (fun p=>(⟨p.1,p.2.1,p.2.2.1,p.2.2.2.1⟩:zQ)) (fun _=>rfl) (fun _ h=>⟨h.1,h.2.1,h.2.2.1,h.2.2.2.1⟩)
def HE (s:tH):Prop:=(aE GE) s.Snaps∧(aE T8) s.Packets
theorem V2:Enc [.sl true [.int .i64,.int .i64,.int .i64,.int .i64,.int .i64],.sl true [.int .i64,.int .i64,.int .i64,.sl true [.int .i64,.int .i64,.str,.int .i64,.int .i64,.sl false [.str]]]] (fun s:tH=>[.sl false 5 (List.map z4 s.Snaps),.sl false 4 (List.map z0 s.Packets)]) HE :=
 Enc.view (tM (iY UC) (tM (iY zCc) dV)) (fun p=>(⟨p.1,p.2.1⟩:tH)) (fun _=>rfl) (fun _ h=>⟨h.1,h.2.1⟩)
end Go.Ab
