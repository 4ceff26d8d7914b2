/- The typed arguments of this seat's laws. Printed by row.py. -/
import Derived.Test.YtoeengmnmhhpgaaGreatP15zxD
import Derived.Test.YtoeengmnmhhpgaaGreatA32
namespace Go.Ab
open Go
set_option linter.unusedVariables false
def zBN (s:xO):Prop:=xP s.Size∧(nW x6) s.Data∧xP s.Durable∧xP s.Left∧TB s.Down
theorem zGP:Enc [.int .i64,.sl false [.int .u8],.int .i64,.int .i64,.bool] (fun s:xO=>[.int .i64 s.Size,.sl false 1 (List.map (AV.int .u8) s.Data),.int .i64 s.Durable,.int .i64 s.Left,.bool s.Down]) zBN :=
 Enc.view (tW kL (tW (QK WT) (tW kL (tW kL (tW Z7 cQ))))) (fun p=>(⟨p.1,p.2.1,p.2.2.1,p.2.2.2.1,p.2.2.2.2.1⟩:xO)) (fun _=>rfl) (fun _ h=>⟨h.1,h.2.1,h.2.2.1,h.2.2.2.1,h.2.2.2.2.1⟩)
def US (s:y7):Prop:=xP s.Id∧L7 s.Name∧xP s.Domain
theorem zFw:Enc [.int .i64,.str,.int .i64] (fun s:y7=>[.int .i64 s.Id,.str s.Name,.int .i64 s.Domain]) US :=
 Enc.view (tW kL (tW M3 (tW kL cQ))) (fun p=>(⟨p.1,p.2.1,p.2.2.1⟩:y7)) (fun _=>rfl) (fun _ h=>⟨h.1,h.2.1,h.2.2.1⟩)
def S3 (s:yS):Prop:=xP s.Id∧xP s.Ppm
theorem zBD:Enc [.int .i64,.int .i64] (fun s:yS=>[.int .i64 s.Id,.int .i64 s.Ppm]) S3 :=
 Enc.view (tW kL (tW kL cQ)) (fun p=>(⟨p.1,p.2.1⟩:yS)) (fun _=>rfl) (fun _ h=>⟨h.1,h.2.1⟩)
def TW (s:CF):Prop:=xP s.Lo∧xP s.Hi
theorem ZK:Enc [.int .i64,.int .i64] (fun s:CF=>[.int .i64 s.Lo,.int .i64 s.Hi]) TW :=
 Enc.view (tW kL (tW kL cQ)) (fun p=>(⟨p.1,p.2.1⟩:CF)) (fun _=>rfl) (fun _ h=>⟨h.1,h.2.1⟩)
def RN (s:yU):Prop:=xP s.A∧xP s.AtA∧xP s.B∧TW s.AtB
theorem T9:Enc [.int .i64,.int .i64,.int .i64,.int .i64,.int .i64] (fun s:yU=>[.int .i64 s.A,.int .i64 s.AtA,.int .i64 s.B,.int .i64 s.AtB.Lo,.int .i64 s.AtB.Hi]) RN :=
 Enc.view (tW kL (tW kL (tW kL (tW ZK cQ)))) (fun p=>(⟨p.1,p.2.1,p.2.2.1,p.2.2.2.1⟩:yU)) (fun _=>rfl) (fun _ h=>⟨h.1,h.2.1,h.2.2.1,h.2.2.2.1⟩)
def zEd (s:yF):Prop:=(nW US) s.Threads∧(nW S3) s.Domains∧(nW RN) s.Snaps
theorem zGQ:Enc [.sl true [.int .i64,.str,.int .i64],.sl true [.int .i64,.int .i64],.sl true [.int .i64,.int .i64,.int .i64,.int .i64,.int .i64]] (fun s:yF=>[.sl false 3 (List.map yD s.Threads),.sl false 2 (List.map z5 s.Domains),.sl false 5 (List.map z6 s.Snaps)]) zEd :=
 Enc.view (tW (rP zFw) (tW (rP zBD) (tW (rP T9) cQ))) (fun p=>(⟨p.1,p.2.1,p.2.2.1⟩:yF)) (fun _=>rfl) (fun _ h=>⟨h.1,h.2.1,h.2.2.1⟩)
def UR (s:yW):Prop:=xP s.At∧xP s.Kind∧L7 s.Name∧xP s.N∧xP s.M∧(nW L7) s.Stack
theorem zEO:Enc [.int .i64,.int .i64,.str,.int .i64,.int .i64,.sl false [.str]] (fun s:yW=>[.int .i64 s.At,.int .i64 s.Kind,.str s.Name,.int .i64 s.N,.int .i64 s.M,.sl false 1 (List.map AV.str s.Stack)]) UR :=
 Enc.view (tW kL (tW kL (tW M3 (tW kL (tW kL (tW (QK M3) cQ)))))) (fun p=>(⟨p.1,p.2.1,p.2.2.1,p.2.2.2.1,p.2.2.2.2.1,p.2.2.2.2.2.1⟩:yW)) (fun _=>rfl) (fun _ h=>⟨h.1,h.2.1,h.2.2.1,h.2.2.2.1,h.2.2.2.2.1,h.2.2.2.2.2.1⟩)
def TQ (s:z8):Prop:=xP s.Thread∧xP s.Serial∧xP s.Lost∧(nW UR) s.Events
theorem zES:Enc [.int .i64,.int .i64,.int .i64,.sl true [.int .i64,.int .i64,.str,.int .i64,.int .i64,.sl false [.str]]] (fun s:z8=>[.int .i64 s.Thread,.int .i64 s.Serial,.int .i64 s.Lost,.sl false 6 (List.map xN s.Events)]) TQ :=
 Enc.view (tW kL (tW kL (tW kL (tW (rP zEO) cQ)))) (fun p=>(⟨p.1,p.2.1,p.2.2.1,p.2.2.2.1⟩:z8)) (fun _=>rfl) (fun _ h=>⟨h.1,h.2.1,h.2.2.1,h.2.2.2.1⟩)
def zFR (s:O3):Prop:=(nW RN) s.Snaps∧(nW TQ) s.Packets
theorem zGO:Enc [.sl true [.int .i64,.int .i64,.int .i64,.int .i64,.int .i64],.sl true [.int .i64,.int .i64,.int .i64,.sl true [.int .i64,.int .i64,.str,.int .i64,.int .i64,.sl false [.str]]]] (fun s:O3=>[.sl false 5 (List.map z6 s.Snaps),.sl false 4 (List.map z9 s.Packets)]) zFR :=
 Enc.view (tW (rP T9) (tW (rP zES) cQ)) (fun p=>(⟨p.1,p.2.1⟩:O3)) (fun _=>rfl) (fun _ h=>⟨h.1,h.2.1⟩)
end Go.Ab
