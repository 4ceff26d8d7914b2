/- The typed arguments of this seat's laws. Printed by row.py. -/
import Derived.Test.YtoeengmnmhhpgaaGreatP15zxD
import Derived.Test.YtoeengmnmhhpgaaGreatA32
namespace Go.Ab
open Go
set_option linter.unusedVariables false
def OB (s:yD):Prop:=xM s.Size/\(cV xY) s.Data/\xM s.Durable/\xM s.Left/\zA3 s.Down
theorem zE5:Enc [.int .i64,.sl false [.int .u8],.int .i64,.int .i64,.bool] (fun s:yD=>[.int .i64 s.Size,.sl false 1 (List.map (AV.int .u8) s.Data),.int .i64 s.Durable,.int .i64 s.Left,.bool s.Down]) OB :=
 Enc.view (qA kZ (qA (ZU zH4) (qA kZ (qA kZ (qA zCB d9))))) (fun p=>(⟨p.1,p.2.1,p.2.2.1,p.2.2.2.1,p.2.2.2.2.1⟩:yD)) (fun _=>rfl) (fun _ h=>⟨h.1,h.2.1,h.2.2.1,h.2.2.2.1,h.2.2.2.2.1⟩)
def YN (s:xI):Prop:=xM s.Id/\NC s.Name/\xM s.Domain
theorem zCu:Enc [.int .i64,.str,.int .i64] (fun s:xI=>[.int .i64 s.Id,.str s.Name,.int .i64 s.Domain]) YN :=
 Enc.view (qA kZ (qA UF (qA kZ d9))) (fun p=>(⟨p.1,p.2.1,p.2.2.1⟩:xI)) (fun _=>rfl) (fun _ h=>⟨h.1,h.2.1,h.2.2.1⟩)
def VE (s:xA):Prop:=xM s.Id/\xM s.Ppm
theorem zHH:Enc [.int .i64,.int .i64] (fun s:xA=>[.int .i64 s.Id,.int .i64 s.Ppm]) VE :=
 Enc.view (qA kZ (qA kZ d9)) (fun p=>(⟨p.1,p.2.1⟩:xA)) (fun _=>rfl) (fun _ h=>⟨h.1,h.2.1⟩)
def Y7 (s:CB):Prop:=xM s.Lo/\xM s.Hi
theorem zHT:Enc [.int .i64,.int .i64] (fun s:CB=>[.int .i64 s.Lo,.int .i64 s.Hi]) Y7 :=
 Enc.view (qA kZ (qA kZ d9)) (fun p=>(⟨p.1,p.2.1⟩:CB)) (fun _=>rfl) (fun _ h=>⟨h.1,h.2.1⟩)
def MI (s:yZ):Prop:=xM s.A/\xM s.AtA/\xM s.B/\Y7 s.AtB
theorem U3:Enc [.int .i64,.int .i64,.int .i64,.int .i64,.int .i64] (fun s:yZ=>[.int .i64 s.A,.int .i64 s.AtA,.int .i64 s.B,.int .i64 s.AtB.Lo,.int .i64 s.AtB.Hi]) MI :=
 Enc.view (qA kZ (qA kZ (qA kZ (qA zHT d9)))) (fun p=>(⟨p.1,p.2.1,p.2.2.1,p.2.2.2.1⟩:yZ)) (fun _=>rfl) (fun _ h=>⟨h.1,h.2.1,h.2.2.1,h.2.2.2.1⟩)
def iO (s:yB):Prop:=(cV YN) s.Threads/\(cV VE) s.Domains/\(cV MI) s.Snaps
theorem zHP:Enc [.sl true [.int .i64,.str,.int .i64],.sl true [.int .i64,.int .i64],.sl true [.int .i64,.int .i64,.int .i64,.int .i64,.int .i64]] (fun s:yB=>[.sl false 3 (List.map yJ s.Threads),.sl false 2 (List.map yA s.Domains),.sl false 5 (List.map z9 s.Snaps)]) iO :=
 Enc.view (qA (BA zCu) (qA (BA zHH) (qA (BA U3) d9))) (fun p=>(⟨p.1,p.2.1,p.2.2.1⟩:yB)) (fun _=>rfl) (fun _ h=>⟨h.1,h.2.1,h.2.2.1⟩)
def X1 (s:xD):Prop:=xM s.At/\xM s.Kind/\NC s.Name/\xM s.N/\xM s.M/\(cV NC) s.Stack
theorem zEK:Enc [.int .i64,.int .i64,.str,.int .i64,.int .i64,.sl false [.str]] (fun s:xD=>[.int .i64 s.At,.int .i64 s.Kind,.str s.Name,.int .i64 s.N,.int .i64 s.M,.sl false 1 (List.map AV.str s.Stack)]) X1 :=
 Enc.view (qA kZ (qA kZ (qA UF (qA kZ (qA kZ (qA (ZU UF) d9)))))) (fun p=>(⟨p.1,p.2.1,p.2.2.1,p.2.2.2.1,p.2.2.2.2.1,p.2.2.2.2.2.1⟩:xD)) (fun _=>rfl) (fun _ h=>⟨h.1,h.2.1,h.2.2.1,h.2.2.2.1,h.2.2.2.2.1,h.2.2.2.2.2.1⟩)
def U8 (s:z7):Prop:=xM s.Thread/\xM s.Serial/\xM s.Lost/\(cV X1) s.Events
theorem zID:Enc [.int .i64,.int .i64,.int .i64,.sl true [.int .i64,.int .i64,.str,.int .i64,.int .i64,.sl false [.str]]] (fun s:z7=>[.int .i64 s.Thread,.int .i64 s.Serial,.int .i64 s.Lost,.sl false 6 (List.map x9 s.Events)]) U8 :=
 Enc.view (qA kZ (qA kZ (qA kZ (qA (BA zEK) d9)))) (fun p=>(⟨p.1,p.2.1,p.2.2.1,p.2.2.2.1⟩:z7)) (fun _=>rfl) (fun _ h=>⟨h.1,h.2.1,h.2.2.1,h.2.2.2.1⟩)
def N9 (s:jP):Prop:=(cV MI) s.Snaps/\(cV U8) s.Packets
theorem zIt:Enc [.sl true [.int .i64,.int .i64,.int .i64,.int .i64,.int .i64],.sl true [.int .i64,.int .i64,.int .i64,.sl true [.int .i64,.int .i64,.str,.int .i64,.int .i64,.sl false [.str]]]] (fun s:jP=>[.sl false 5 (List.map z9 s.Snaps),.sl false 4 (List.map yG s.Packets)]) N9 :=
 Enc.view (qA (BA U3) (qA (BA zID) d9)) (fun p=>(⟨p.1,p.2.1⟩:jP)) (fun _=>rfl) (fun _ h=>⟨h.1,h.2.1⟩)
end Go.Ab
