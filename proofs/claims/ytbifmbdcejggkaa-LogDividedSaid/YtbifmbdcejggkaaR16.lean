/- The typed arguments of this seat's laws. Printed by row.py. -/
import Derived.Test.YtbifmbdcejggkaaP16xD
import Derived.Test.YtbifmbdcejggkaaA35
namespace Go.Ab
open Go
set_option linter.unusedVariables false

def zBN (s:zO):Prop:=uK s.Id∧zG2 s.Name∧uK s.Domain
theorem zEt:Enc [.int .i64,.str,.int .i64] (fun s:zO=>[.int .i64 s.Id,.str s.Name,.int .i64 s.Domain]) zBN :=
  Enc.view (wV v7 (wV zH6 (wV v7 kQ))) (fun p=>(⟨p.1,p.2.1,p.2.2.1⟩:zO)) (fun _=>rfl) (fun _ h=>⟨h.1,h.2.1,h.2.2.1⟩)
def zBG (s:zK):Prop:=uK s.Id∧uK s.Ppm
theorem zEo:Enc [.int .i64,.int .i64] (fun s:zK=>[.int .i64 s.Id,.int .i64 s.Ppm]) zBG :=
  Enc.view (wV v7 (wV v7 kQ)) (fun p=>(⟨p.1,p.2.1⟩:zK)) (fun _=>rfl) (fun _ h=>⟨h.1,h.2.1⟩)
def zAV (s:kV):Prop:=uK s.Lo∧uK s.Hi
theorem zC9:Enc [.int .i64,.int .i64] (fun s:kV=>[.int .i64 s.Lo,.int .i64 s.Hi]) zAV :=
  Enc.view (wV v7 (wV v7 kQ)) (fun p=>(⟨p.1,p.2.1⟩:kV)) (fun _=>rfl) (fun _ h=>⟨h.1,h.2.1⟩)
def zC0 (s:xY):Prop:=uK s.A∧uK s.AtA∧uK s.B∧zAV s.AtB
theorem zFz:Enc [.int .i64,.int .i64,.int .i64,.int .i64,.int .i64] (fun s:xY=>[.int .i64 s.A,.int .i64 s.AtA,.int .i64 s.B,.int .i64 s.AtB.Lo,.int .i64 s.AtB.Hi]) zC0 :=
  Enc.view (wV v7 (wV v7 (wV v7 (wV zC9 kQ)))) (fun p=>(⟨p.1,p.2.1,p.2.2.1,p.2.2.2.1⟩:xY)) (fun _=>rfl) (fun _ h=>⟨h.1,h.2.1,h.2.2.1,h.2.2.2.1⟩)
def kA (s:zT):Prop:=(nW zBN) s.Threads∧(nW zBG) s.Domains∧(nW zC0) s.Snaps
theorem zCd:Enc [.sl true [.int .i64,.str,.int .i64],.sl true [.int .i64,.int .i64],.sl true [.int .i64,.int .i64,.int .i64,.int .i64,.int .i64]] (fun s:zT=>[.sl false 3 (List.map zF s.Threads),.sl false 2 (List.map zE s.Domains),.sl false 5 (List.map zN s.Snaps)]) kA :=
  Enc.view (wV (zCa zEt) (wV (zCa zEo) (wV (zCa zFz) kQ))) (fun p=>(⟨p.1,p.2.1,p.2.2.1⟩:zT)) (fun _=>rfl) (fun _ h=>⟨h.1,h.2.1,h.2.2.1⟩)
def zCq (s:zH):Prop:=uK s.At∧uK s.Kind∧zG2 s.Name∧uK s.N∧uK s.M∧(nW zG2) s.Stack
theorem zE9:Enc [.int .i64,.int .i64,.str,.int .i64,.int .i64,.sl false [.str]] (fun s:zH=>[.int .i64 s.At,.int .i64 s.Kind,.str s.Name,.int .i64 s.N,.int .i64 s.M,.sl false 1 (List.map AV.str s.Stack)]) zCq :=
  Enc.view (wV v7 (wV v7 (wV zH6 (wV v7 (wV v7 (wV (zKB zH6) kQ)))))) (fun p=>(⟨p.1,p.2.1,p.2.2.1,p.2.2.2.1,p.2.2.2.2.1,p.2.2.2.2.2.1⟩:zH)) (fun _=>rfl) (fun _ h=>⟨h.1,h.2.1,h.2.2.1,h.2.2.2.1,h.2.2.2.2.1,h.2.2.2.2.2.1⟩)
def qS (s:zB):Prop:=uK s.Thread∧uK s.Serial∧uK s.Lost∧(nW zCq) s.Events
theorem zBw:Enc [.int .i64,.int .i64,.int .i64,.sl true [.int .i64,.int .i64,.str,.int .i64,.int .i64,.sl false [.str]]] (fun s:zB=>[.int .i64 s.Thread,.int .i64 s.Serial,.int .i64 s.Lost,.sl false 6 (List.map zD s.Events)]) qS :=
  Enc.view (wV v7 (wV v7 (wV v7 (wV (zCa zE9) kQ)))) (fun p=>(⟨p.1,p.2.1,p.2.2.1,p.2.2.2.1⟩:zB)) (fun _=>rfl) (fun _ h=>⟨h.1,h.2.1,h.2.2.1,h.2.2.2.1⟩)
def zHi (s:z8):Prop:=kA s.Head∧(nW qS) s.Parts
theorem zMK:Enc [.sl true [.int .i64,.str,.int .i64],.sl true [.int .i64,.int .i64],.sl true [.int .i64,.int .i64,.int .i64,.int .i64,.int .i64],.sl true [.int .i64,.int .i64,.int .i64,.sl true [.int .i64,.int .i64,.str,.int .i64,.int .i64,.sl false [.str]]]] (fun s:z8=>[.sl false 3 (List.map zF s.Head.Threads),.sl false 2 (List.map zE s.Head.Domains),.sl false 5 (List.map zN s.Head.Snaps),.sl false 4 (List.map zA s.Parts)]) zHi :=
  Enc.view (wV zCd (wV (zCa zBw) kQ)) (fun p=>(⟨p.1,p.2.1⟩:z8)) (fun _=>rfl) (fun _ h=>⟨h.1,h.2.1⟩)
def zIK (s:u0):Prop:=uK s.Thread∧uK s.Serial
theorem zM7:Enc [.int .i64,.int .i64] (fun s:u0=>[.int .i64 s.Thread,.int .i64 s.Serial]) zIK :=
  Enc.view (wV v7 (wV v7 kQ)) (fun p=>(⟨p.1,p.2.1⟩:u0)) (fun _=>rfl) (fun _ h=>⟨h.1,h.2.1⟩)
end Go.Ab
