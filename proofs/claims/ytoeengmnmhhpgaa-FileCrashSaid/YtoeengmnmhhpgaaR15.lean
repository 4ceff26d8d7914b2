/- The typed arguments of this seat's laws. Printed by row.py. -/
import Derived.Test.YtoeengmnmhhpgaaP15xD
import Derived.Test.YtoeengmnmhhpgaaA32
namespace Go.Ab
open Go
set_option linter.unusedVariables false
def U3 (s:xH):Prop:=yS s.Id∧GZ s.Name∧yS s.Domain
theorem zCW:Enc [.int .i64,.str,.int .i64] (fun s:xH=>[.int .i64 s.Id,.str s.Name,.int .i64 s.Domain]) U3 :=
 Enc.view (tC jX (tC MB (tC jX dW))) (fun p=>(⟨p.1,p.2.1,p.2.2.1⟩:xH)) (fun _=>rfl) (fun _ h=>⟨h.1,h.2.1,h.2.2.1⟩)
def QS (s:y0):Prop:=yS s.Id∧yS s.Ppm
theorem ZX:Enc [.int .i64,.int .i64] (fun s:y0=>[.int .i64 s.Id,.int .i64 s.Ppm]) QS :=
 Enc.view (tC jX (tC jX dW)) (fun p=>(⟨p.1,p.2.1⟩:y0)) (fun _=>rfl) (fun _ h=>⟨h.1,h.2.1⟩)
def UQ (s:AO):Prop:=yS s.Lo∧yS s.Hi
theorem zCn:Enc [.int .i64,.int .i64] (fun s:AO=>[.int .i64 s.Lo,.int .i64 s.Hi]) UQ :=
 Enc.view (tC jX (tC jX dW)) (fun p=>(⟨p.1,p.2.1⟩:AO)) (fun _=>rfl) (fun _ h=>⟨h.1,h.2.1⟩)
def EJ (s:yQ):Prop:=yS s.A∧yS s.AtA∧yS s.B∧UQ s.AtB
theorem O4:Enc [.int .i64,.int .i64,.int .i64,.int .i64,.int .i64] (fun s:yQ=>[.int .i64 s.A,.int .i64 s.AtA,.int .i64 s.B,.int .i64 s.AtB.Lo,.int .i64 s.AtB.Hi]) EJ :=
 Enc.view (tC jX (tC jX (tC jX (tC zCn dW)))) (fun p=>(⟨p.1,p.2.1,p.2.2.1,p.2.2.2.1⟩:yQ)) (fun _=>rfl) (fun _ h=>⟨h.1,h.2.1,h.2.2.1,h.2.2.2.1⟩)
def fH (s:zT):Prop:=(aF U3) s.Threads∧(aF QS) s.Domains∧(aF EJ) s.Snaps
theorem V7:Enc [.sl true [.int .i64,.str,.int .i64],.sl true [.int .i64,.int .i64],.sl true [.int .i64,.int .i64,.int .i64,.int .i64,.int .i64]] (fun s:zT=>[.sl false 3 (List.map z9 s.Threads),.sl false 2 (List.map z4 s.Domains),.sl false 5 (List.map z5 s.Snaps)]) fH :=
 Enc.view (tC (gB zCW) (tC (gB ZX) (tC (gB O4) dW))) (fun p=>(⟨p.1,p.2.1,p.2.2.1⟩:zT)) (fun _=>rfl) (fun _ h=>⟨h.1,h.2.1,h.2.2.1⟩)
def UV (s:y6):Prop:=yS s.At∧yS s.Kind∧GZ s.Name∧yS s.N∧yS s.M∧(aF GZ) s.Stack
theorem W1:Enc [.int .i64,.int .i64,.str,.int .i64,.int .i64,.sl false [.str]] (fun s:y6=>[.int .i64 s.At,.int .i64 s.Kind,.str s.Name,.int .i64 s.N,.int .i64 s.M,.sl false 1 (List.map AV.str s.Stack)]) UV :=
 Enc.view (tC jX (tC jX (tC MB (tC jX (tC jX (tC (W3 MB) dW)))))) (fun p=>(⟨p.1,p.2.1,p.2.2.1,p.2.2.2.1,p.2.2.2.2.1,p.2.2.2.2.2.1⟩:y6)) (fun _=>rfl) (fun _ h=>⟨h.1,h.2.1,h.2.2.1,h.2.2.2.1,h.2.2.2.2.1,h.2.2.2.2.2.1⟩)
def T7 (s:zQ):Prop:=yS s.Thread∧yS s.Serial∧yS s.Lost∧(aF UV) s.Events
theorem zEA:Enc [.int .i64,.int .i64,.int .i64,.sl true [.int .i64,.int .i64,.str,.int .i64,.int .i64,.sl false [.str]]] (fun s:zQ=>[.int .i64 s.Thread,.int .i64 s.Serial,.int .i64 s.Lost,.sl false 6 (List.map wG s.Events)]) T7 :=
 Enc.view (tC jX (tC jX (tC jX (tC (gB W1) dW)))) (fun p=>(⟨p.1,p.2.1,p.2.2.1,p.2.2.2.1⟩:zQ)) (fun _=>rfl) (fun _ h=>⟨h.1,h.2.1,h.2.2.1,h.2.2.2.1⟩)
def HX (s:tK):Prop:=(aF EJ) s.Snaps∧(aF T7) s.Packets
theorem zBz:Enc [.sl true [.int .i64,.int .i64,.int .i64,.int .i64,.int .i64],.sl true [.int .i64,.int .i64,.int .i64,.sl true [.int .i64,.int .i64,.str,.int .i64,.int .i64,.sl false [.str]]]] (fun s:tK=>[.sl false 5 (List.map z5 s.Snaps),.sl false 4 (List.map zZ s.Packets)]) HX :=
 Enc.view (tC (gB O4) (tC (gB zEA) dW)) (fun p=>(⟨p.1,p.2.1⟩:tK)) (fun _=>rfl) (fun _ h=>⟨h.1,h.2.1⟩)
end Go.Ab
