/- Printed: the typed Lean functions of the Go functions, or the proofs that the Go functions meet them. No conditions but those that the theorems name. -/
import Derived.Test.YtoeengmnmhhpgaaGreatP15zx5
namespace Go.Ab
open Go
set_option linter.unusedVariables false
theorem U3 (z4:Int) (r:Int) (h:fS z4=some r):yK prog 104 [] [] [Ii z4] [] (.int .u64 r):=by
 refine tI Go.Proofs.Tryz.f104 ?_;unfold fS at h;refine sE [] [(0,Ii z4)] [] 0 (sq (c0 [] 4 h [] ?_ ?_))
 ·intro yC h;refine s0 [] [(2,.int .u64 (v5 ((v5 ((2:Int) * (v5 (zI (0 - (zI (z4+(1:Int))))))))+(1:Int))))] ?_;cases h;exact rt rx
 intro yC h;refine sk (s0 [] [(2,.int .u64 (v5 ((2:Int) * (v5 z4))))] ?_);cases h;exact rt rx

theorem L1 (F:Nat) (zC:List (Int)) (z4:Int) (r:(List (Int))) (h:bP F zC z4=some r):yK prog 65 [] [] [Sb zC,Ii z4] [.row 5 1 (Mb r)] (.own 0 ((r).length)):=by
 refine tI Go.Proofs.Tryz.f65 ?_;unfold bP at h;refine sE [iH 0 { id:=0,m:=1 }] [(0,Sb zC),(1,Ii z4)] [] 1 (sq (nE h fun zH h=>r2 [iH 0 { id:=1 },iH 2 { id:=2,l:=(Mb ([]++zC)),n:=(([]++zC)).length },iA 0,iC trivial,iC (by simp:(List.map (AV.int .u8) ([]++zC))=[]++(List.map (AV.int .u8) zC)),iC (by simp:(([]++zC)).length=((List.map (AV.int .u8) ([]++zC))).length),iC (by first | (simp;done) | simpa using zH:(([]:List AV).length+((List.map (AV.int .u8) zC):List AV).length) * 1≤140737488355328)] [0] [(5,.own 2 ((([]++zC)).length))] [] [(2,Rb 5 1 (Mb ([]++zC)))] 3 (sq (bE h fun zA zS h=>r0 [iK 1 {} (U3 z4 zA zS)] [(6,.int .u64 zA)] (sq (bE h fun zD yU h=>?_))))));refine xL (mk [(5,.own 0 ((zD.2).length)),(6,.int .u64 zD.1)] [(0,Rb 5 1 (Mb zD.2))] 1) ?_ ?_
 ·replace h:=yU;refine yR (id:=0) zk ?_;refine w0 [2] [] [(5,.own 0 ((([]++zC)).length)),(6,.int .u64 zA)] [(0,Rb 5 1 (Mb ([]++zC)))] ?_;refine x8 (fun n st=>∃ (xR:Int),∃ (zL:List Int),st=mk [(5,.own 0 ((zL).length)),(6,.int .u64 xR)] [(0,Rb 5 1 (Mb zL))] 1∧aP F n xR zL=some zD) F zk ⟨_,_,rfl,h⟩ ?_ ?_
  ·rintro _ ⟨_,_,_,h⟩;exact x7 (h:(none:Option (Int×(List Int)))=some zD)
  rintro uB _ ⟨xR,zL,rfl,h⟩;replace h:aL F (aP F uB) xR zL=some zD:=h;unfold aL at h;refine sq (c0 [] 13 h [] ?_ ?_)
  rotate_left
  ·intro yC h;refine x4 (id:=0) zk ?_;cases h;exact ⟨rfl,(sw [0] [] [.s 5,.s 6] [.s 0] an)⟩
  intro yC h;refine sk ?_;refine yR (id:=1) zk ?_;refine sq (nE h fun xB h=>r2 [iH 5 { id:=1 },iH 6 { id:=2,l:=(Mb (zL++([wF ((wF (u0 xR (128:Int)))+(128:Int))]:List Int))),n:=((zL++([wF ((wF (u0 xR (128:Int)))+(128:Int))]:List Int))).length },iC (by decide:(128:Int)≠(0:Int)),iM Fb zL,iA 1,iC (uD _ _:(Mb (zL++([wF ((wF (u0 xR (128:Int)))+(128:Int))]:List Int)))=(Mb zL)++(Mb ([wF ((wF (u0 xR (128:Int)))+(128:Int))]:List Int))),iC (by simp:((zL++([wF ((wF (u0 xR (128:Int)))+(128:Int))]:List Int))).length=((List.map (AV.int .u8) (zL++([wF ((wF (u0 xR (128:Int)))+(128:Int))]:List Int)))).length),iC (by first | (simp;done) | simpa using xB:(((List.map (AV.int .u8) zL):List AV).length+((List.map (AV.int .u8) ([wF ((wF (u0 xR (128:Int)))+(128:Int))]:List Int)):List AV).length) * 1≤140737488355328)] [] [(5,.own 2 (((zL++([wF ((wF (u0 xR (128:Int)))+(128:Int))]:List Int))).length))] [0] [(2,Rb 5 1 (Mb (zL++([wF ((wF (u0 xR (128:Int)))+(128:Int))]:List Int))))] 3 (r0 [iC (by decide:(128:Int)≠(0:Int))] [(6,.int .u64 (j1 .u64 xR (128:Int)))] ?_));exact ⟨_,(sw [2] [] [.s 5,.s 6] [.s 0] an),_,_,rfl,h⟩
 refine sq (nE h fun xJ h=>r2 [iH 3 { id:=1 },iH 4 { id:=2,l:=(Mb (zD.2++([wF zD.1]:List Int))),n:=((zD.2++([wF zD.1]:List Int))).length },iM Fb zD.2,iA 1,iC (uD _ _:(Mb (zD.2++([wF zD.1]:List Int)))=(Mb zD.2)++(Mb ([wF zD.1]:List Int))),iC (by simp:((zD.2++([wF zD.1]:List Int))).length=((List.map (AV.int .u8) (zD.2++([wF zD.1]:List Int)))).length),iC (by first | (simp;done) | simpa using xJ:(((List.map (AV.int .u8) zD.2):List AV).length+((List.map (AV.int .u8) ([wF zD.1]:List Int)):List AV).length) * 1≤140737488355328)] [] [(5,.own 2 (((zD.2++([wF zD.1]:List Int))).length))] [0] [(2,Rb 5 1 (Mb (zD.2++([wF zD.1]:List Int))))] 3 (s1 [] [5] [(4,.own 2 (((zD.2++([wF zD.1]:List Int))).length))] (w0 [2] [] [(4,.own 0 (((zD.2++([wF zD.1]:List Int))).length))] [(0,Rb 5 1 (Mb (zD.2++([wF zD.1]:List Int))))] ?_)));cases h;exact rt rx

end Go.Ab
