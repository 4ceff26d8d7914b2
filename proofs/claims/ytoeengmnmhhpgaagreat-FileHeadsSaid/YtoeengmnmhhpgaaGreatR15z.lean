/- The typed arguments of this seat's laws. Printed by row.py. -/
import Derived.Test.YtoeengmnmhhpgaaGreatP15zxD
import Derived.Test.YtoeengmnmhhpgaaGreatA35
namespace Go.Ab
open Go
set_option linter.unusedVariables false

def NB (s:yV):Prop:=w3 s.Size∧(jJ v6) s.Data∧w3 s.Durable∧w3 s.Left∧L3 s.Down
theorem XM:Enc [.int .i64,.sl false [.int .u8],.int .i64,.int .i64,.bool] (fun s:yV=>[.int .i64 s.Size,.sl false 1 (List.map (AV.int .u8) s.Data),.int .i64 s.Durable,.int .i64 s.Left,.bool s.Down]) NB :=
  Enc.view (vP tC (vP (GK CO) (vP tC (vP tC (vP VH pC))))) (fun p=>(⟨p.1,p.2.1,p.2.2.1,p.2.2.2.1,p.2.2.2.2.1⟩:yV)) (fun _=>rfl) (fun _ h=>⟨h.1,h.2.1,h.2.2.1,h.2.2.2.1,h.2.2.2.2.1⟩)
def JO (s:y6):Prop:=w3 s.Id∧oL s.Name∧w3 s.Domain
theorem M5:Enc [.int .i64,.str,.int .i64] (fun s:y6=>[.int .i64 s.Id,.str s.Name,.int .i64 s.Domain]) JO :=
  Enc.view (vP tC (vP EX (vP tC pC))) (fun p=>(⟨p.1,p.2.1,p.2.2.1⟩:y6)) (fun _=>rfl) (fun _ h=>⟨h.1,h.2.1,h.2.2.1⟩)
def KQ (s:yQ):Prop:=w3 s.Id∧w3 s.Ppm
theorem WR:Enc [.int .i64,.int .i64] (fun s:yQ=>[.int .i64 s.Id,.int .i64 s.Ppm]) KQ :=
  Enc.view (vP tC (vP tC pC)) (fun p=>(⟨p.1,p.2.1⟩:yQ)) (fun _=>rfl) (fun _ h=>⟨h.1,h.2.1⟩)
def KU (s:fF):Prop:=w3 s.Lo∧w3 s.Hi
theorem N5:Enc [.int .i64,.int .i64] (fun s:fF=>[.int .i64 s.Lo,.int .i64 s.Hi]) KU :=
  Enc.view (vP tC (vP tC pC)) (fun p=>(⟨p.1,p.2.1⟩:fF)) (fun _=>rfl) (fun _ h=>⟨h.1,h.2.1⟩)
def BN (s:y2):Prop:=w3 s.A∧w3 s.AtA∧w3 s.B∧KU s.AtB
theorem JI:Enc [.int .i64,.int .i64,.int .i64,.int .i64,.int .i64] (fun s:y2=>[.int .i64 s.A,.int .i64 s.AtA,.int .i64 s.B,.int .i64 s.AtB.Lo,.int .i64 s.AtB.Hi]) BN :=
  Enc.view (vP tC (vP tC (vP tC (vP N5 pC)))) (fun p=>(⟨p.1,p.2.1,p.2.2.1,p.2.2.2.1⟩:y2)) (fun _=>rfl) (fun _ h=>⟨h.1,h.2.1,h.2.2.1,h.2.2.2.1⟩)
def o9 (s:z6):Prop:=(jJ JO) s.Threads∧(jJ KQ) s.Domains∧(jJ BN) s.Snaps
theorem U9:Enc [.sl true [.int .i64,.str,.int .i64],.sl true [.int .i64,.int .i64],.sl true [.int .i64,.int .i64,.int .i64,.int .i64,.int .i64]] (fun s:z6=>[.sl false 3 (List.map zZ s.Threads),.sl false 2 (List.map zR s.Domains),.sl false 5 (List.map zW s.Snaps)]) o9 :=
  Enc.view (vP (c9 M5) (vP (c9 WR) (vP (c9 JI) pC))) (fun p=>(⟨p.1,p.2.1,p.2.2.1⟩:z6)) (fun _=>rfl) (fun _ h=>⟨h.1,h.2.1,h.2.2.1⟩)
def H3 (s:xF):Prop:=w3 s.At∧w3 s.Kind∧oL s.Name∧w3 s.N∧w3 s.M∧(jJ oL) s.Stack
theorem TH:Enc [.int .i64,.int .i64,.str,.int .i64,.int .i64,.sl false [.str]] (fun s:xF=>[.int .i64 s.At,.int .i64 s.Kind,.str s.Name,.int .i64 s.N,.int .i64 s.M,.sl false 1 (List.map AV.str s.Stack)]) H3 :=
  Enc.view (vP tC (vP tC (vP EX (vP tC (vP tC (vP (GK EX) pC)))))) (fun p=>(⟨p.1,p.2.1,p.2.2.1,p.2.2.2.1,p.2.2.2.2.1,p.2.2.2.2.2.1⟩:xF)) (fun _=>rfl) (fun _ h=>⟨h.1,h.2.1,h.2.2.1,h.2.2.2.1,h.2.2.2.2.1,h.2.2.2.2.2.1⟩)
def LD (s:yE):Prop:=w3 s.Thread∧w3 s.Serial∧w3 s.Lost∧(jJ H3) s.Events
theorem RX:Enc [.int .i64,.int .i64,.int .i64,.sl true [.int .i64,.int .i64,.str,.int .i64,.int .i64,.sl false [.str]]] (fun s:yE=>[.int .i64 s.Thread,.int .i64 s.Serial,.int .i64 s.Lost,.sl false 6 (List.map xX s.Events)]) LD :=
  Enc.view (vP tC (vP tC (vP tC (vP (c9 TH) pC)))) (fun p=>(⟨p.1,p.2.1,p.2.2.1,p.2.2.2.1⟩:yE)) (fun _=>rfl) (fun _ h=>⟨h.1,h.2.1,h.2.2.1,h.2.2.2.1⟩)
def QW (s:CR):Prop:=(jJ BN) s.Snaps∧(jJ LD) s.Packets
theorem XJ:Enc [.sl true [.int .i64,.int .i64,.int .i64,.int .i64,.int .i64],.sl true [.int .i64,.int .i64,.int .i64,.sl true [.int .i64,.int .i64,.str,.int .i64,.int .i64,.sl false [.str]]]] (fun s:CR=>[.sl false 5 (List.map zW s.Snaps),.sl false 4 (List.map yF s.Packets)]) QW :=
  Enc.view (vP (c9 JI) (vP (c9 RX) pC)) (fun p=>(⟨p.1,p.2.1⟩:CR)) (fun _=>rfl) (fun _ h=>⟨h.1,h.2.1⟩)
end Go.Ab
