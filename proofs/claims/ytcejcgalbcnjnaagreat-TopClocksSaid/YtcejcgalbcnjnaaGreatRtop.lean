/- Lemmas. No conditions but those that they name. -/
import Derived.Test.YtcejcgalbcnjnaaGreatPtxD
namespace Go.Ab
open Go
set_option linter.unusedVariables false
def zFU (s:dH):Prop:=cL s.Xt/\cL s.Yd/\cL s.Xr
theorem zII:Enc [.int .i64,.int .i64,.int .i64] (fun s:dH=>[.int .i64 s.Xt,.int .i64 s.Yd,.int .i64 s.Xr]) zFU :=
 Enc.view (cC d5 (cC d5 (cC d5 S8))) (fun p=>(⟨p.1,p.2.1,p.2.2.1⟩:dH)) (fun _=>rfl) (fun _ h=>⟨h.1,h.2.1,h.2.2.1⟩)
def zFa (s:B8):Prop:=cL s.Xz/\cL s.At/\cL s.Ye/\cL s.Yf
theorem zKs:Enc [.int .i64,.int .i64,.int .i64,.int .i64] (fun s:B8=>[.int .i64 s.Xz,.int .i64 s.At,.int .i64 s.Ye,.int .i64 s.Yf]) zFa :=
 Enc.view (cC d5 (cC d5 (cC d5 (cC d5 S8)))) (fun p=>(⟨p.1,p.2.1,p.2.2.1,p.2.2.2.1⟩:B8)) (fun _=>rfl) (fun _ h=>⟨h.1,h.2.1,h.2.2.1,h.2.2.2.1⟩)
def zFR (s:AD):Prop:=cL s.From/\cL s.Xo/\cL s.To/\cL s.Xy
theorem zMQ:Enc [.int .i64,.int .i64,.int .i64,.int .i64] (fun s:AD=>[.int .i64 s.From,.int .i64 s.Xo,.int .i64 s.To,.int .i64 s.Xy]) zFR :=
 Enc.view (cC d5 (cC d5 (cC d5 (cC d5 S8)))) (fun p=>(⟨p.1,p.2.1,p.2.2.1,p.2.2.2.1⟩:AD)) (fun _=>rfl) (fun _ h=>⟨h.1,h.2.1,h.2.2.1,h.2.2.2.1⟩)
def WU (s:uL):Prop:=(C0 zFU) s.Xn/\(C0 zFa) s.Seen/\(C0 cL) s.Xd/\(C0 (C0 cL)) s.At/\(C0 zFR) s.Xq
theorem zLH:Enc [.sl true [.int .i64,.int .i64,.int .i64],.sl true [.int .i64,.int .i64,.int .i64,.int .i64],.sl false [.int .i64],.sl false [.sl false [.int .i64]],.sl true [.int .i64,.int .i64,.int .i64,.int .i64]] (fun s:uL=>[.sl false 3 (List.map kI s.Xn),.sl false 4 (List.map cR s.Seen),.sl false 1 (List.map (AV.int .i64) s.Xd),.sl false 1 (List.map (fun l=>AV.sl false 1 (l.map (AV.int .i64))) s.At),.sl false 4 (List.map gO s.Xq)]) WU :=
 Enc.view (cC (Z5 zII) (cC (Z5 zKs) (cC (zB0 d5) (cC (zB0 (zB0 d5)) (cC (Z5 zMQ) S8))))) (fun p=>(⟨p.1,p.2.1,p.2.2.1,p.2.2.2.1,p.2.2.2.2.1⟩:uL)) (fun _=>rfl) (fun _ h=>⟨h.1,h.2.1,h.2.2.1,h.2.2.2.1,h.2.2.2.2.1⟩)
end Go.Ab
