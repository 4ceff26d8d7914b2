/- Printed: the typed Lean functions of the Go functions, or the proofs that the Go functions meet them. No conditions but those that the theorems name. -/
import Derived.Test.YtbifmbdcejggkaaP16x2
namespace Go.Ab
open Go
set_option linter.unusedVariables false
theorem zJ6 (F:Nat) (l_1:zX) (r:(List (yC))) (h:zCY F l_1=some r):zV prog 20 [] [] [yH l_1] [.row 37 2 (Mp yS r)] (.own 0 ((r).length)):=by
 refine yM (fn:=Go.Proofs.Try.f20) (code:=x4 Go.Proofs.Try.f20) (by kernel_rfl) (by kernel_rfl) (Nat.le_of_ble_eq_true (by kernel_rfl)) ?_
 unfold zCY at h
 refine sr [(0,{ id:=0 }),(1,{ id:=1,m:=1 })] [1] [0] 2 [Pp 0] [Vb 31 (yB l_1)] zG an ?_
 refine sq ?_
 refine sq ?_
 obtain ⟨r_1,h_1,h⟩:=bind_some h
 refine rg [(1,{ av:=Ii r_1,l:=[yH l_1] })] [1,9] [0] 2 [Pp 0,.bool (r_1 != (0:Int))] [Vb 31 (yB l_1)] zG (ar ([yH l_1]:List AV) (ac (rfl:([]:List zN)=[]) (ac (zAI F l_1 r_1 h_1:zV prog 14 [] [] [yH l_1] [] (Ii r_1)) an))) ?_
 refine cd 9 (r_1 != (0:Int)) ?_ ?_
 ·intro g_1;replace h:=zS g_1 h
  refine sr [(0,{ id:=2,m:=1 })] [2] [2] 3 [.own 2 0] [Rb 37 2 []] zG an ?_
  refine wk [2] [] [.a 2 (.own 0 ((([]:List yC)).length))] [.s 0] [(2,.own 0 ((([]:List yC)).length))] [(0,Rb 37 2 [])] (ac (congrArg (AV.own _) (by first | (simp;done) | (simp;omega)):(.own 2 0:AV)=.own 2 ((([]:List yC)).length)) an) ?_
  refine rt ?_
  cases h
  exact ⟨.inr rfl,Nat.le_of_ble_eq_true rfl,by kernel_rfl⟩
 intro g_1;replace h:=zT g_1 h
 refine sk ?_
 refine sr [(0,{ id:=2,m:=1 })] [1,3] [0,2] 3 [Pp 0,.own 2 0] [Vb 31 (yB l_1),Rb 37 2 []] zG an ?_
 refine sq ?_
 refine sr [(2,{ n:=(l_1.Parts).length })] [3,11,12,13] [2] 3 [.own 2 0,.sl false 4 (Mp zA l_1.Parts),Ii (lN (l_1.Parts)),Ii 0] [Rb 37 2 []] zG (ac (yL _:((Mp zA l_1.Parts)).length=(l_1.Parts).length) an) ?_
 obtain ⟨o_1,h_2,h⟩:=bind_some h
 refine wI (mk [(3,.own 0 ((o_1).length))] [(0,Rb 37 2 (Mp yS o_1))] 1) ?_ ?_
 ·replace h:=h_2
  refine yN (id:=0) (by kernel_rfl) ?_
  refine wk [2] [] [.s 3,.s 11,.s 12,.s 13] [.s 0] [(3,.own 0 0),(11,.sl false 4 (Mp zA l_1.Parts)),(12,Ii (lN (l_1.Parts))),(13,Ii 0)] [(0,Rb 37 2 [])] an ?_
  refine wE (fun n st=>∃ (v_1:Int),∃ (zC:List yC),st=mk [(3,.own 0 ((zC).length)),(11,.sl false 4 (Mp zA l_1.Parts)),(12,Ii (lN (l_1.Parts))),(13,Ii v_1)] [(0,Rb 37 2 (Mp yS zC))] 1∧nD F l_1 n v_1 zC=some o_1) F (by kernel_rfl) ⟨_,_,rfl,h⟩ ?_ ?_
  ·rintro _ ⟨_,_,_,h⟩;exact wO (h:(none:Option (List yC))=some o_1)
  rintro n_1 _ ⟨v_1,zC,rfl,h⟩
  replace h:jR F l_1 (nD F l_1 n_1) v_1 zC=some o_1:=h
  unfold jR at h
  refine sr [] [3,11,12,13,14] [0] 1 [.own 0 ((zC).length),.sl false 4 (Mp zA l_1.Parts),Ii (lN (l_1.Parts)),Ii v_1,.bool (decide (v_1<(lN (l_1.Parts))))] [Rb 37 2 (Mp yS zC)] zG an ?_
  refine sq ?_
  refine cd 14 (decide (v_1<(lN (l_1.Parts)))) ?_ ?_
  rotate_left
  ·intro g_2;replace h:=zT g_2 h
   refine wJ (id:=0) (by kernel_rfl) ?_
   cases h
   exact ⟨rfl,(sw [0] [] [.s 3] [.s 0] an)⟩
  intro g_2;replace h:=zS g_2 h
  refine sk ?_
  refine sq ?_
  refine yN (id:=1) (by kernel_rfl) ?_
  refine sq ?_
  obtain ⟨x_1,h_3,h⟩:=bind_some h
  refine rg [(0,{ av:=zA x_1 }),(2,{ id:=1 })] [3,5,11,12,13] [0,1] 2 [.own 0 ((zC).length),Pp 1,.sl false 4 (Mp zA l_1.Parts),Ii (lN (l_1.Parts)),Ii v_1] [Rb 37 2 (Mp yS zC),Vb 59 (zZ x_1)] zG (ac (xZ h_3:wV (Mp zA l_1.Parts) v_1=some (zA x_1)) an) ?_
  refine sr [(2,{ n:=(x_1.Events).length })] [3,5,11,12,13,19,20] [0,1] 2 [.own 0 ((zC).length),Pp 1,.sl false 4 (Mp zA l_1.Parts),Ii (lN (l_1.Parts)),Ii v_1,Ii (lN (x_1.Events)),Ii 0] [Rb 37 2 (Mp yS zC),Vb 59 (zZ x_1)] zG (ac (yL _:((Mp zE x_1.Events)).length=(x_1.Events).length) an) ?_
  obtain ⟨o_2,h_4,h⟩:=bind_some h
  refine wI (mk [(3,.own 0 ((o_2).length)),(11,.sl false 4 (Mp zA l_1.Parts)),(12,Ii (lN (l_1.Parts))),(13,Ii v_1)] [(0,Rb 37 2 (Mp yS o_2))] 1) ?_ ?_
  ·replace h:=h_4
   refine yN (id:=2) (by kernel_rfl) ?_
   refine wk [0,1] [] [.s 3,.s 5,.s 11,.s 12,.s 13,.s 19,.s 20] [.s 0,.s 1] [(3,.own 0 ((zC).length)),(5,Pp 1),(11,.sl false 4 (Mp zA l_1.Parts)),(12,Ii (lN (l_1.Parts))),(13,Ii v_1),(19,Ii (lN (x_1.Events))),(20,Ii 0)] [(0,Rb 37 2 (Mp yS zC)),(1,Vb 59 (zZ x_1))] an ?_
   refine wE (fun n st=>∃ (v_2:Int),∃ (yP:List yC),st=mk [(3,.own 0 ((yP).length)),(5,Pp 1),(11,.sl false 4 (Mp zA l_1.Parts)),(12,Ii (lN (l_1.Parts))),(13,Ii v_1),(19,Ii (lN (x_1.Events))),(20,Ii v_2)] [(0,Rb 37 2 (Mp yS yP)),(1,Vb 59 (zZ x_1))] 2∧pX F x_1 n v_2 yP=some o_2) F (by kernel_rfl) ⟨_,_,rfl,h⟩ ?_ ?_
   ·rintro _ ⟨_,_,_,h⟩;exact wO (h:(none:Option (List yC))=some o_2)
   rintro n_2 _ ⟨v_2,yP,rfl,h⟩
   replace h:jO F x_1 (pX F x_1 n_2) v_2 yP=some o_2:=h
   unfold jO at h
   refine sr [] [3,5,11,12,13,19,20,21] [0,1] 2 [.own 0 ((yP).length),Pp 1,.sl false 4 (Mp zA l_1.Parts),Ii (lN (l_1.Parts)),Ii v_1,Ii (lN (x_1.Events)),Ii v_2,.bool (decide (v_2<(lN (x_1.Events))))] [Rb 37 2 (Mp yS yP),Vb 59 (zZ x_1)] zG an ?_
   refine sq ?_
   refine cd 21 (decide (v_2<(lN (x_1.Events)))) ?_ ?_
   rotate_left
   ·intro g_3;replace h:=zT g_3 h
    refine wJ (id:=2) (by kernel_rfl) ?_
    cases h
    exact ⟨rfl,(sw [0] [] [.s 3,.s 11,.s 12,.s 13] [.s 0] an)⟩
   intro g_3;replace h:=zS g_3 h
   refine sk ?_
   refine sq ?_
   refine yN (id:=3) (by kernel_rfl) ?_
   refine sr [] [3,5,6,11,12,13,19,20] [0,1] 2 [.own 0 ((yP).length),Pp 1,Ii v_2,.sl false 4 (Mp zA l_1.Parts),Ii (lN (l_1.Parts)),Ii v_1,Ii (lN (x_1.Events)),Ii v_2] [Rb 37 2 (Mp yS yP),Vb 59 (zZ x_1)] zG an ?_
   obtain ⟨_,h_5,h⟩:=bind_some h;replace h_5:=vF h_5
   refine rg [(8,{ id:=2 }),(9,{ id:=3,l:=(Mp yS (yP++([(⟨x_1.Thread,zJ (x_1.Serial+v_2)⟩:yC)]:List yC))),n:=((yP++([(⟨x_1.Thread,zJ (x_1.Serial+v_2)⟩:yC)]:List yC))).length })] [3,5,11,12,13,19,20] [1,3] 4 [.own 3 (((yP++([(⟨x_1.Thread,zJ (x_1.Serial+v_2)⟩:yC)]:List yC))).length),Pp 1,.sl false 4 (Mp zA l_1.Parts),Ii (lN (l_1.Parts)),Ii v_1,Ii (lN (x_1.Events)),Ii v_2] [Vb 59 (zZ x_1),Rb 37 2 (Mp yS (yP++([(⟨x_1.Thread,zJ (x_1.Serial+v_2)⟩:yC)]:List yC)))] zG (ac (by first | (simp;done) | (simp;omega):(yP).length=((List.map yS yP)).length) (ac (by first | (simp;done) | (simp;omega):1=((List.map yS ([(⟨x_1.Thread,zJ (x_1.Serial+v_2)⟩:yC)]:List yC))).length) (ac (zD4 _ _:(Mp yS (yP++([(⟨x_1.Thread,zJ (x_1.Serial+v_2)⟩:yC)]:List yC)))=(Mp yS yP)++(Mp yS ([(⟨x_1.Thread,zJ (x_1.Serial+v_2)⟩:yC)]:List yC))) (ac (by simp:((yP++([(⟨x_1.Thread,zJ (x_1.Serial+v_2)⟩:yC)]:List yC))).length=((List.map yS (yP++([(⟨x_1.Thread,zJ (x_1.Serial+v_2)⟩:yC)]:List yC)))).length) (ac (by first | (simp;done) | simpa using h_5:(((List.map yS yP):List AV).length+((List.map yS ([(⟨x_1.Thread,zJ (x_1.Serial+v_2)⟩:yC)]:List yC)):List AV).length) * 16≤140737488355328) an))))) ?_
   refine rg [] [3,5,11,12,13,19,20] [1,3] 4 [.own 3 (((yP++([(⟨x_1.Thread,zJ (x_1.Serial+v_2)⟩:yC)]:List yC))).length),Pp 1,.sl false 4 (Mp zA l_1.Parts),Ii (lN (l_1.Parts)),Ii v_1,Ii (lN (x_1.Events)),Ii (zJ (v_2+(1:Int)))] [Vb 59 (zZ x_1),Rb 37 2 (Mp yS (yP++([(⟨x_1.Thread,zJ (x_1.Serial+v_2)⟩:yC)]:List yC)))] zG an ?_
   exact ⟨_,(sw [3,1] [] [.s 3,.s 5,.s 11,.s 12,.s 13,.s 19,.s 20] [.s 0,.s 1] an),_,_,rfl,h⟩
  refine rg [] [3,11,12,13] [0] 1 [.own 0 ((o_2).length),.sl false 4 (Mp zA l_1.Parts),Ii (lN (l_1.Parts)),Ii (zJ (v_1+(1:Int)))] [Rb 37 2 (Mp yS o_2)] zG an ?_
  exact ⟨_,(sw [0] [] [.s 3,.s 11,.s 12,.s 13] [.s 0] an),_,_,rfl,h⟩
 refine sr [] [2] [0] 1 [.own 0 ((o_1).length)] [Rb 37 2 (Mp yS o_1)] zG an ?_
 refine wk [0] [] [.s 2] [.s 0] [(2,.own 0 ((o_1).length))] [(0,Rb 37 2 (Mp yS o_1))] an ?_
 refine rt ?_
 cases h
 exact ⟨.inr rfl,Nat.le_of_ble_eq_true rfl,by kernel_rfl⟩

end Go.Ab
