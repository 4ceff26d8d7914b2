/- Printed: the typed Lean functions of the Go functions, or the proofs that the Go functions meet them. No conditions but those that the theorems name. -/
import Derived.Test.YtbifmbdcejggkaaP16x3
namespace Go.Ab
open Go
set_option linter.unusedVariables false
theorem zDU (F:Nat) (h_1:zT) (l_1:List (zB)) (xR:List (Int)) (x9:Int) (r:Bool) (h:tE F h_1 l_1 xR x9=some r):zX prog 6 [] [] [y9 h_1,.sl false 4 (Mp zA l_1),.sl false 1 (Mi xR),Ii x9] [] (.bool r):=by
 refine yI (fn:=Go.Proofs.Try.f6) (code:=xQ Go.Proofs.Try.f6) (by kernel_rfl) (by kernel_rfl) (Nat.le_of_ble_eq_true (by kernel_rfl)) ?_
 unfold tE at h
 refine sr [(0,{ id:=0 })] [1,2,3,4] [0] 1 [.sl false 4 (Mp zA l_1),.sl false 1 (Mi xR),Ii x9,Pp 0] [Vb 26 (zS h_1)] zG an ?_
 refine sq ?_
 refine sq ?_
 obtain ⟨p_1,h_3,h⟩:=bind_some h
 refine wI (mk [(1,.sl false 4 (Mp zA l_1)),(2,.sl false 1 (Mi xR)),(3,Ii x9),(4,Pp 0),(29,.bool p_1)] [(0,Vb 26 (zS h_1))] 1) ?_ ?_
 ·replace h:=h_3
  obtain ⟨r_1,h_2,h⟩:=bind_some h
  rcases bft (!r_1) with zJ | zJ
  ·replace h:=zV zJ h
   refine rg [(2,{ av:=.bool r_1,l:=[y9 h_1,.sl false 4 (Mp zA l_1)] }),(5,Hg),(6,Hg),(7,Hg),(8,Ht)] [1,2,3,4,29] [0] 1 [.sl false 4 (Mp zA l_1),.sl false 1 (Mi xR),Ii x9,Pp 0,.bool true] [Vb 26 (zS h_1)] zG (ar ([y9 h_1,.sl false 4 (Mp zA l_1)]:List AV) (ac (rfl:([]:List zM)=[]) (ac (zDx F h_1 l_1 r_1 h_2:zX prog 8 [] [] [y9 h_1,.sl false 4 (Mp zA l_1)] [] (.bool r_1)) (ac zJ (ac zJ (ac zJ (ac zJ an))))))) ?_
   cases h
   exact ⟨rfl,(sw [0] [] [.s 1,.s 2,.s 3,.s 4,.s 29] [.s 0] an)⟩
  ·replace h:=zU zJ h
   refine rg [(2,{ av:=.bool r_1,l:=[y9 h_1,.sl false 4 (Mp zA l_1)] }),(6,{ n:=(xR).length }),(8,Hf)] [1,2,3,4,29] [0] 1 [.sl false 4 (Mp zA l_1),.sl false 1 (Mi xR),Ii x9,Pp 0,.bool (decide ((lN (xR))>(30:Int)))] [Vb 26 (zS h_1)] zG (ar ([y9 h_1,.sl false 4 (Mp zA l_1)]:List AV) (ac (rfl:([]:List zM)=[]) (ac (zDx F h_1 l_1 r_1 h_2:zX prog 8 [] [] [y9 h_1,.sl false 4 (Mp zA l_1)] [] (.bool r_1)) (ac zJ (ac zJ (ac (yG _:((Mi xR)).length=(xR).length) (ac zJ (ac zJ an)))))))) ?_
   cases h
   exact ⟨rfl,(sw [0] [] [.s 1,.s 2,.s 3,.s 4,.s 29] [.s 0] an)⟩
 refine cd 29 p_1 ?_ ?_
 ·intro g_1;replace h:=zV g_1 h
  refine sq ?_
  obtain ⟨r_2,h_4,h⟩:=bind_some h
  refine rg [(0,{ av:=.bool r_2,l:=[] })] [8] [] 1 [.bool r_2] [] zG (ar ([]:List AV) (ac (rfl:([]:List zM)=[]) (ac (zBn F r_2 h_4:zX prog 9 [] [] [] [] (.bool r_2)) an))) ?_
  refine rt ?_
  cases h
  exact ⟨.inr rfl,Nat.le_of_ble_eq_true rfl,by kernel_rfl⟩
 intro g_1;replace h:=zU g_1 h
 refine sk ?_
 refine sq ?_
 obtain ⟨r_3,h_5,h⟩:=bind_some h
 refine rg [(2,{ av:=.tuple [yF r_3.1,Ii r_3.2],l:=[y9 h_1,.sl false 4 (Mp zA l_1)] }),(6,{ id:=1 })] [1,2,3,4,9,10] [0,1] 2 [.sl false 4 (Mp zA l_1),.sl false 1 (Mi xR),Ii x9,Pp 0,Pp 1,Ii r_3.2] [Vb 26 (zS h_1),Vb 31 (yU r_3.1)] zG (ar ([y9 h_1,.sl false 4 (Mp zA l_1)]:List AV) (ac (rfl:([]:List zM)=[]) (ac (nD F h_1 l_1 r_3 h_5:zX prog 10 [] [] [y9 h_1,.sl false 4 (Mp zA l_1)] [] (.tuple [yF r_3.1,Ii r_3.2])) an))) ?_
 refine sq ?_
 refine sr [] [1,2,3,4,9,38] [0,1] 2 [.sl false 4 (Mp zA l_1),.sl false 1 (Mi xR),Ii x9,Pp 0,Pp 1,.bool (r_3.2 != (0:Int))] [Vb 26 (zS h_1),Vb 31 (yU r_3.1)] zG an ?_
 refine cd 38 (r_3.2 != (0:Int)) ?_ ?_
 ·intro g_2;replace h:=zV g_2 h
  refine sq ?_
  obtain ⟨r_4,h_6,h⟩:=bind_some h
  refine rg [(0,{ av:=.bool r_4,l:=[] })] [8] [] 2 [.bool r_4] [] zG (ar ([]:List AV) (ac (rfl:([]:List zM)=[]) (ac (zBn F r_4 h_6:zX prog 9 [] [] [] [] (.bool r_4)) an))) ?_
  refine rt ?_
  cases h
  exact ⟨.inr rfl,Nat.le_of_ble_eq_true rfl,by kernel_rfl⟩
 intro g_2;replace h:=zU g_2 h
 refine sk ?_
 refine sr [(0,{ id:=2,m:=1 }),(1,{ id:=3,m:=1 })] [1,2,3,4,9,11,12] [0,1,2,3] 4 [.sl false 4 (Mp zA l_1),.sl false 1 (Mi xR),Ii x9,Pp 0,Pp 1,.own 2 0,.own 3 0] [Vb 26 (zS h_1),Vb 31 (yU r_3.1),Rb 59 4 [],Rb 59 4 []] zG an ?_
 refine sq ?_
 refine sr [(1,{ n:=(l_1).length })] [2,3,4,9,11,12,40,41,42] [0,1,2,3] 4 [.sl false 1 (Mi xR),Ii x9,Pp 0,Pp 1,.own 2 0,.own 3 0,.sl false 4 (Mp zA l_1),Ii (lN (l_1)),Ii 0] [Vb 26 (zS h_1),Vb 31 (yU r_3.1),Rb 59 4 [],Rb 59 4 []] zG (ac (yG _:((Mp zA l_1)).length=(l_1).length) an) ?_
 obtain ⟨o_1,h_7,h⟩:=bind_some h
 refine wI (mk [(4,Pp 0),(9,Pp 1),(11,.own 2 ((o_1.1).length)),(12,.own 3 ((o_1.2).length))] [(0,Vb 26 (zS h_1)),(1,Vb 31 (yU r_3.1)),(2,Rb 59 4 (Mp zA o_1.1)),(3,Rb 59 4 (Mp zA o_1.2))] 4) ?_ ?_
 ·replace h:=h_7
  refine yZ (id:=0) (by kernel_rfl) ?_
  refine wk [0,1,2,3] [] [.s 2,.s 3,.s 4,.s 9,.s 11,.s 12,.s 40,.s 41,.s 42] [.s 0,.s 1,.s 2,.s 3] [(2,.sl false 1 (Mi xR)),(3,Ii x9),(4,Pp 0),(9,Pp 1),(11,.own 2 0),(12,.own 3 0),(40,.sl false 4 (Mp zA l_1)),(41,Ii (lN (l_1))),(42,Ii 0)] [(0,Vb 26 (zS h_1)),(1,Vb 31 (yU r_3.1)),(2,Rb 59 4 []),(3,Rb 59 4 [])] an ?_
  refine wP (fun n st=>∃ (v_1:Int),∃ (zC:List zB),∃ (yK:List zB),st=mk [(2,.sl false 1 (Mi xR)),(3,Ii x9),(4,Pp 0),(9,Pp 1),(11,.own 2 ((zC).length)),(12,.own 3 ((yK).length)),(40,.sl false 4 (Mp zA l_1)),(41,Ii (lN (l_1))),(42,Ii v_1)] [(0,Vb 26 (zS h_1)),(1,Vb 31 (yU r_3.1)),(2,Rb 59 4 (Mp zA zC)),(3,Rb 59 4 (Mp zA yK))] 4∧u5 F l_1 xR x9 n v_1 zC yK=some o_1) F (by kernel_rfl) ⟨_,_,_,rfl,h⟩ ?_ ?_
  ·rintro _ ⟨_,_,_,_,h⟩;exact w8 (h:(none:Option ((List zB)×(List zB)))=some o_1)
  rintro n_1 _ ⟨v_1,zC,yK,rfl,h⟩
  replace h:uP F l_1 xR x9 (u5 F l_1 xR x9 n_1) v_1 zC yK=some o_1:=h
  unfold uP at h
  refine sr [] [2,3,4,9,11,12,40,41,42,43] [0,1,2,3] 4 [.sl false 1 (Mi xR),Ii x9,Pp 0,Pp 1,.own 2 ((zC).length),.own 3 ((yK).length),.sl false 4 (Mp zA l_1),Ii (lN (l_1)),Ii v_1,.bool (decide (v_1<(lN (l_1))))] [Vb 26 (zS h_1),Vb 31 (yU r_3.1),Rb 59 4 (Mp zA zC),Rb 59 4 (Mp zA yK)] zG an ?_
  refine sq ?_
  refine cd 43 (decide (v_1<(lN (l_1)))) ?_ ?_
  rotate_left
  ·intro g_3;replace h:=zU g_3 h
   refine w4 (id:=0) (by kernel_rfl) ?_
   cases h
   exact ⟨rfl,(sw [0,1,2,3] [] [.s 4,.s 9,.s 11,.s 12] [.s 0,.s 1,.s 2,.s 3] an)⟩
  intro g_3;replace h:=zV g_3 h
  refine sk ?_
  refine sq ?_
  refine yZ (id:=1) (by kernel_rfl) ?_
  refine sq ?_
  obtain ⟨x_1,h_8,h⟩:=bind_some h
  refine rg [(1,{ av:=zA x_1 }),(3,{ id:=4 })] [2,3,4,9,11,12,13,14,40,41,42] [0,1,2,3,4] 5 [.sl false 1 (Mi xR),Ii x9,Pp 0,Pp 1,.own 2 ((zC).length),.own 3 ((yK).length),Ii v_1,Pp 4,.sl false 4 (Mp zA l_1),Ii (lN (l_1)),Ii v_1] [Vb 26 (zS h_1),Vb 31 (yU r_3.1),Rb 59 4 (Mp zA zC),Rb 59 4 (Mp zA yK),Vb 59 (zR x_1)] zG (ac (wA h_8:wX (Mp zA l_1) v_1=some (zA x_1)) an) ?_
  refine sr [(1,{ id:=5 })] [2,3,4,9,11,12,13,14,15,40,41,42] [0,1,2,3,4,5] 6 [.sl false 1 (Mi xR),Ii x9,Pp 0,Pp 1,.own 2 ((zC).length),.own 3 ((yK).length),Ii v_1,Pp 4,.own 5 1,.sl false 4 (Mp zA l_1),Ii (lN (l_1)),Ii v_1] [Vb 26 (zS h_1),Vb 31 (yU r_3.1),Rb 59 4 (Mp zA zC),Rb 59 4 (Mp zA yK),Vb 59 (zR x_1),Rb 59 4 (Mp zA ([x_1]:List zB))] zG an ?_
  refine sq ?_
  refine sr [(2,{ n:=(xR).length })] [2,3,4,9,11,12,13,14,15,40,41,42,52] [0,1,2,3,4,5] 6 [.sl false 1 (Mi xR),Ii x9,Pp 0,Pp 1,.own 2 ((zC).length),.own 3 ((yK).length),Ii v_1,Pp 4,.own 5 1,.sl false 4 (Mp zA l_1),Ii (lN (l_1)),Ii v_1,.bool (decide (v_1<(lN (xR))))] [Vb 26 (zS h_1),Vb 31 (yU r_3.1),Rb 59 4 (Mp zA zC),Rb 59 4 (Mp zA yK),Vb 59 (zR x_1),Rb 59 4 (Mp zA ([x_1]:List zB))] zG (ac (yG _:((Mi xR)).length=(xR).length) an) ?_
  obtain ⟨o_2,h_9,h⟩:=bind_some h
  refine wI (mk [(2,.sl false 1 (Mi xR)),(3,Ii x9),(4,Pp 0),(9,Pp 1),(11,.own 2 ((zC).length)),(12,.own 3 ((yK).length)),(14,Pp 4),(15,.own 5 ((o_2).length)),(40,.sl false 4 (Mp zA l_1)),(41,Ii (lN (l_1))),(42,Ii v_1)] [(0,Vb 26 (zS h_1)),(1,Vb 31 (yU r_3.1)),(2,Rb 59 4 (Mp zA zC)),(3,Rb 59 4 (Mp zA yK)),(4,Vb 59 (zR x_1)),(5,Rb 59 4 (Mp zA o_2))] 6) ?_ ?_
  ·replace h:=h_9
   refine cd 52 (decide (v_1<(lN (xR)))) ?_ ?_
   rotate_left
   ·intro g_4;replace h:=zU g_4 h
    refine sk ?_
    cases h
    exact ⟨rfl,(sw [0,1,2,3,4,5] [] [.s 2,.s 3,.s 4,.s 9,.s 11,.s 12,.s 14,.a 15 (.own 5 ((([x_1]:List zB)).length)),.s 40,.s 41,.s 42] [.s 0,.s 1,.s 2,.s 3,.s 4,.s 5] (ac (congrArg (AV.own _) (by first | (simp;done) | (simp;omega)):(.own 5 1:AV)=.own 5 ((([x_1]:List zB)).length)) an))⟩
   intro g_4;replace h:=zV g_4 h
   refine sq ?_
   obtain ⟨x_2,qY,h⟩:=bind_some h
   obtain ⟨r_5,t5,h⟩:=bind_some h
   refine rg [(3,{ av:=Ii x_2 }),(5,{ av:=.tuple [zA r_5.1,zA r_5.2.1,.bool r_5.2.2],l:=[zA x_1,Ii x_2] }),(10,{ id:=6 }),(11,{ id:=7 })] [2,3,4,9,11,12,14,15,16,17,18,40,41,42] [0,1,2,3,4,5,6,7] 8 [.sl false 1 (Mi xR),Ii x9,Pp 0,Pp 1,.own 2 ((zC).length),.own 3 ((yK).length),Pp 4,.own 5 1,Pp 6,Pp 7,.bool r_5.2.2,.sl false 4 (Mp zA l_1),Ii (lN (l_1)),Ii v_1] [Vb 26 (zS h_1),Vb 31 (yU r_3.1),Rb 59 4 (Mp zA zC),Rb 59 4 (Mp zA yK),Vb 59 (zR x_1),Rb 59 4 (Mp zA ([x_1]:List zB)),Vb 59 (zR r_5.1),Vb 59 (zR r_5.2.1)] zG (ac (wA qY:wX (Mi xR) v_1=some (Ii x_2)) (ar ([zA x_1,Ii x_2]:List AV) (ac (rfl:([]:List zM)=[]) (ac (zE8 F x_1 x_2 r_5 t5:zX prog 24 [] [] [zA x_1,Ii x_2] [] (.tuple [zA r_5.1,zA r_5.2.1,.bool r_5.2.2])) an)))) ?_
   refine sr [] [2,3,4,9,11,12,14,15,16,17,40,41,42,63] [0,1,2,3,4,5,6,7] 8 [.sl false 1 (Mi xR),Ii x9,Pp 0,Pp 1,.own 2 ((zC).length),.own 3 ((yK).length),Pp 4,.own 5 1,Pp 6,Pp 7,.sl false 4 (Mp zA l_1),Ii (lN (l_1)),Ii v_1,.bool r_5.2.2] [Vb 26 (zS h_1),Vb 31 (yU r_3.1),Rb 59 4 (Mp zA zC),Rb 59 4 (Mp zA yK),Vb 59 (zR x_1),Rb 59 4 (Mp zA ([x_1]:List zB)),Vb 59 (zR r_5.1),Vb 59 (zR r_5.2.1)] zG an ?_
   refine cd 63 r_5.2.2 ?_ ?_
   ·intro g_5;replace h:=zV g_5 h
    refine rg [(2,{ id:=8 })] [2,3,4,9,11,12,14,15,40,41,42] [0,1,2,3,4,8] 9 [.sl false 1 (Mi xR),Ii x9,Pp 0,Pp 1,.own 2 ((zC).length),.own 3 ((yK).length),Pp 4,.own 8 2,.sl false 4 (Mp zA l_1),Ii (lN (l_1)),Ii v_1] [Vb 26 (zS h_1),Vb 31 (yU r_3.1),Rb 59 4 (Mp zA zC),Rb 59 4 (Mp zA yK),Vb 59 (zR x_1),Rb 59 4 (Mp zA ([r_5.1,r_5.2.1]:List zB))] zG an ?_
    cases h
    exact ⟨rfl,(sw [0,1,2,3,4,8] [] [.s 2,.s 3,.s 4,.s 9,.s 11,.s 12,.s 14,.a 15 (.own 5 ((([r_5.1,r_5.2.1]:List zB)).length)),.s 40,.s 41,.s 42] [.s 0,.s 1,.s 2,.s 3,.s 4,.s 5] (ac (congrArg (AV.own _) (by first | (simp;done) | (simp;omega)):(.own 8 2:AV)=.own 8 ((([r_5.1,r_5.2.1]:List zB)).length)) an))⟩
   intro g_5;replace h:=zU g_5 h
   refine sk ?_
   cases h
   exact ⟨rfl,(sw [0,1,2,3,4,5] [] [.s 2,.s 3,.s 4,.s 9,.s 11,.s 12,.s 14,.a 15 (.own 5 ((([x_1]:List zB)).length)),.s 40,.s 41,.s 42] [.s 0,.s 1,.s 2,.s 3,.s 4,.s 5] (ac (congrArg (AV.own _) (by first | (simp;done) | (simp;omega)):(.own 5 1:AV)=.own 5 ((([x_1]:List zB)).length)) an))⟩
  refine sr [] [2,3,4,9,11,12,15,40,41,42,70] [0,1,2,3,5] 6 [.sl false 1 (Mi xR),Ii x9,Pp 0,Pp 1,.own 2 ((zC).length),.own 3 ((yK).length),.own 5 ((o_2).length),.sl false 4 (Mp zA l_1),Ii (lN (l_1)),Ii v_1,.bool (x_1.Thread==x9)] [Vb 26 (zS h_1),Vb 31 (yU r_3.1),Rb 59 4 (Mp zA zC),Rb 59 4 (Mp zA yK),Rb 59 4 (Mp zA o_2)] zG an ?_
  refine cd 70 (x_1.Thread==x9) ?_ ?_
  ·intro g_6;replace h:=zV g_6 h
   obtain ⟨_,zCX,h⟩:=bind_some h;replace zCX:=wM zCX
   refine rg [(2,{ id:=6,l:=(Mp zA (zC++o_2)),n:=((zC++o_2)).length })] [2,3,4,9,11,12,40,41,42] [0,1,3,6] 7 [.sl false 1 (Mi xR),Ii x9,Pp 0,Pp 1,.own 6 (((zC++o_2)).length),.own 3 ((yK).length),.sl false 4 (Mp zA l_1),Ii (lN (l_1)),Ii v_1] [Vb 26 (zS h_1),Vb 31 (yU r_3.1),Rb 59 4 (Mp zA yK),Rb 59 4 (Mp zA (zC++o_2))] zG (ac (by first | (simp;done) | (simp;omega):(zC).length=((List.map zA zC)).length) (ac (by first | (simp;done) | (simp;omega):(o_2).length=((List.map zA o_2)).length) (ac (zBf _ _:(Mp zA (zC++o_2))=(Mp zA zC)++(Mp zA o_2)) (ac (by simp:((zC++o_2)).length=((List.map zA (zC++o_2))).length) (ac (by first | (simp;done) | simpa using zCX:(((List.map zA zC):List AV).length+((List.map zA o_2):List AV).length) * 48≤140737488355328) an))))) ?_
   refine rg [] [2,3,4,9,11,12,40,41,42] [0,1,3,6] 7 [.sl false 1 (Mi xR),Ii x9,Pp 0,Pp 1,.own 6 (((zC++o_2)).length),.own 3 ((yK).length),.sl false 4 (Mp zA l_1),Ii (lN (l_1)),Ii (zP (v_1+(1:Int)))] [Vb 26 (zS h_1),Vb 31 (yU r_3.1),Rb 59 4 (Mp zA yK),Rb 59 4 (Mp zA (zC++o_2))] zG an ?_
   exact ⟨_,(sw [0,1,6,3] [] [.s 2,.s 3,.s 4,.s 9,.s 11,.s 12,.s 40,.s 41,.s 42] [.s 0,.s 1,.s 2,.s 3] an),_,_,_,rfl,h⟩
  intro g_6;replace h:=zU g_6 h
  obtain ⟨_,h_13,h⟩:=bind_some h;replace h_13:=wM h_13
  refine rg [(2,{ id:=6,l:=(Mp zA (yK++o_2)),n:=((yK++o_2)).length })] [2,3,4,9,11,12,40,41,42] [0,1,2,6] 7 [.sl false 1 (Mi xR),Ii x9,Pp 0,Pp 1,.own 2 ((zC).length),.own 6 (((yK++o_2)).length),.sl false 4 (Mp zA l_1),Ii (lN (l_1)),Ii v_1] [Vb 26 (zS h_1),Vb 31 (yU r_3.1),Rb 59 4 (Mp zA zC),Rb 59 4 (Mp zA (yK++o_2))] zG (ac (by first | (simp;done) | (simp;omega):(yK).length=((List.map zA yK)).length) (ac (by first | (simp;done) | (simp;omega):(o_2).length=((List.map zA o_2)).length) (ac (zBf _ _:(Mp zA (yK++o_2))=(Mp zA yK)++(Mp zA o_2)) (ac (by simp:((yK++o_2)).length=((List.map zA (yK++o_2))).length) (ac (by first | (simp;done) | simpa using h_13:(((List.map zA yK):List AV).length+((List.map zA o_2):List AV).length) * 48≤140737488355328) an))))) ?_
  refine rg [] [2,3,4,9,11,12,40,41,42] [0,1,2,6] 7 [.sl false 1 (Mi xR),Ii x9,Pp 0,Pp 1,.own 2 ((zC).length),.own 6 (((yK++o_2)).length),.sl false 4 (Mp zA l_1),Ii (lN (l_1)),Ii (zP (v_1+(1:Int)))] [Vb 26 (zS h_1),Vb 31 (yU r_3.1),Rb 59 4 (Mp zA zC),Rb 59 4 (Mp zA (yK++o_2))] zG an ?_
  exact ⟨_,(sw [0,1,2,6] [] [.s 2,.s 3,.s 4,.s 9,.s 11,.s 12,.s 40,.s 41,.s 42] [.s 0,.s 1,.s 2,.s 3] an),_,_,_,rfl,h⟩
 refine sq ?_
 obtain ⟨_,h_14,h⟩:=bind_some h;replace h_14:=wM h_14
 obtain ⟨r_6,h_15,h⟩:=bind_some h
 refine rg [(3,{ id:=4,l:=(Mp zA (o_1.1++o_1.2)),n:=((o_1.1++o_1.2)).length }),(4,{ av:=.tuple [yF r_6.1,Ii r_6.2],frz:=[4],l:=[y9 h_1,.sl false 4 (Mp zA (o_1.1++o_1.2))] }),(8,{ id:=5 })] [9,19,20] [1,5] 6 [Pp 1,Pp 5,Ii r_6.2] [Vb 31 (yU r_3.1),Vb 31 (yU r_6.1)] zG (ac (by first | (simp;done) | (simp;omega):(o_1.1).length=((List.map zA o_1.1)).length) (ac (by first | (simp;done) | (simp;omega):(o_1.2).length=((List.map zA o_1.2)).length) (ac (zBf _ _:(Mp zA (o_1.1++o_1.2))=(Mp zA o_1.1)++(Mp zA o_1.2)) (ac (by simp:((o_1.1++o_1.2)).length=((List.map zA (o_1.1++o_1.2))).length) (ac (by first | (simp;done) | simpa using h_14:(((List.map zA o_1.1):List AV).length+((List.map zA o_1.2):List AV).length) * 48≤140737488355328) (ac (by first | (simp;done) | (simp;omega):((o_1.1++o_1.2)).length=((List.map zA (o_1.1++o_1.2))).length) (ar ([y9 h_1,.sl false 4 (Mp zA (o_1.1++o_1.2))]:List AV) (ac (rfl:([]:List zM)=[]) (ac (nD F h_1 (o_1.1++o_1.2) r_6 h_15:zX prog 10 [] [] [y9 h_1,.sl false 4 (Mp zA (o_1.1++o_1.2))] [] (.tuple [yF r_6.1,Ii r_6.2])) an))))))))) ?_
 refine sq ?_
 obtain ⟨p_2,h_18,h⟩:=bind_some h
 refine wI (mk [(8,.bool p_2)] [] 0) ?_ ?_
 ·replace h:=h_18
  rcases bft (r_6.2==(0:Int)) with zI | zI
  ·replace h:=zV zI h
   obtain ⟨r_7,h_16,h⟩:=bind_some h
   rcases Bool.eq_false_or_eq_true r_7 with zW | zW
   ·replace h:=zV zW h
    obtain ⟨r_8,h_17,h⟩:=bind_some h
    refine rg [(5,{ av:=.bool r_7,l:=[yF r_3.1,yF r_6.1] }),(6,Ht),(8,{ av:=.bool r_8,l:=[] }),(9,Ht)] [8] [] 6 [.bool r_8] [] zG (ac zI (ac zI (ac zI (ar ([yF r_3.1,yF r_6.1]:List AV) (ac (rfl:([]:List zM)=[]) (ac (zB0 F r_3.1 r_6.1 r_7 h_16:zX prog 13 [] [] [yF r_3.1,yF r_6.1] [] (.bool r_7)) (ac zI (ac zW (ar ([]:List AV) (ac (rfl:([]:List zM)=[]) (ac (zBn F r_8 h_17:zX prog 9 [] [] [] [] (.bool r_8)) (ac zW an)))))))))))) ?_
    cases h
    exact ⟨rfl,(sw [] [] [.s 8] [] an)⟩
   ·replace h:=zU zW h
    refine rg [(5,{ av:=.bool r_7,l:=[yF r_3.1,yF r_6.1] }),(6,Ht),(8,Hg),(9,Hf)] [8] [] 6 [.bool false] [] zG (ac zI (ac zI (ac zI (ar ([yF r_3.1,yF r_6.1]:List AV) (ac (rfl:([]:List zM)=[]) (ac (zB0 F r_3.1 r_6.1 r_7 h_16:zX prog 13 [] [] [yF r_3.1,yF r_6.1] [] (.bool r_7)) (ac zI (ac zW (ac zW an))))))))) ?_
    cases h
    exact ⟨rfl,(sw [] [] [.s 8] [] an)⟩
  ·replace h:=zU zI h
   refine rg [(3,Hg),(4,Hg),(5,Hg),(6,Hf),(8,Hg),(9,Hf)] [8] [] 6 [.bool false] [] zG (ac zI (ac zI (ac zI (ac zI (ac (rfl:false=!true) (ar false an)))))) ?_
   cases h
   exact ⟨rfl,(sw [] [] [.s 8] [] an)⟩
 refine rt ?_
 cases h
 exact ⟨.inr rfl,Nat.le_of_ble_eq_true rfl,by kernel_rfl⟩

end Go.Ab
