/- Printed: the typed Lean functions of the Go functions, or the proofs that the Go functions meet them. No conditions but those that the theorems name. -/
import Derived.Test.YtbifmbdcejggkaaP16xD
import Derived.Test.YtbifmbdcejggkaaProg
namespace Go.Ab
open Go
set_option linter.unusedVariables false
noncomputable abbrev prog:=Go.Proofs.Try.prog
theorem zG:prog.follows .mixedOrders=true:=by kernel_rfl
theorem zM4:zFi prog 92:=⟨_,Go.Proofs.Try.func92,by kernel_rfl,by kernel_rfl,by kernel_rfl,by kernel_rfl⟩
theorem nL:vK prog 3 false [.int .i64]:=zKq (by kernel_rfl)
theorem zLs:vK prog 68 true [.int .i64,.int .i64]:=zBL (by kernel_rfl) (by kernel_rfl) (by kernel_rfl) (by kernel_rfl)
theorem zBp:∀ a b:zK,zE a=zE b→a=b:=by
  intro a b h
  cases a;cases b;simpa [zE,vX] using h
theorem zIX:jU prog 68 [.int .i64,.int .i64]:=zCH zLs (by kernel_rfl) (by kernel_rfl)
theorem zLP:vK prog 66 true [.int .i64,.str,.int .i64]:=zBL (by kernel_rfl) (by kernel_rfl) (by kernel_rfl) (by kernel_rfl)
theorem zEx:∀ a b:zO,zF a=zF b→a=b:=by
  intro a b h
  cases a;cases b;simpa [zF,z0] using h
theorem zMb:jU prog 66 [.int .i64,.str,.int .i64]:=zCH zLP (by kernel_rfl) (by kernel_rfl)
theorem zLB:vK prog 86 true [.int .i64,.int .i64,.int .i64,.int .i64,.int .i64]:=zBL (by kernel_rfl) (by kernel_rfl) (by kernel_rfl) (by kernel_rfl)
theorem zF9:∀ a b:xY,zN a=zN b→a=b:=by
  rintro ⟨_,_,_,⟨_,_⟩⟩ ⟨_,_,_,⟨_,_⟩⟩ h
  simpa [zN,uB] using h
theorem zMp:jU prog 86 [.int .i64,.int .i64,.int .i64,.int .i64,.int .i64]:=zCH zLB (by kernel_rfl) (by kernel_rfl)
theorem zLr:vK prog 50 true [.int .i64,.int .i64,.int .i64]:=zBL (by kernel_rfl) (by kernel_rfl) (by kernel_rfl) (by kernel_rfl)
theorem j6:∀ a b:yH,yL a=yL b→a=b:=by
  intro a b h
  cases a;cases b;simpa [yL,zD8] using h
theorem zCn:jU prog 50 [.int .i64,.int .i64,.int .i64]:=zCH zLr (by kernel_rfl) (by kernel_rfl)
theorem zDx (F:Nat) (h_1:zT) (l_1:List (zB)) (r:Bool) (h:zAM F h_1 l_1=some r):zX prog 8 [] [] [y9 h_1,.sl false 4 (Mp zA l_1)] [] (.bool r):=by
 refine yI (fn:=Go.Proofs.Try.f8) (code:=xQ Go.Proofs.Try.f8) (by kernel_rfl) (by kernel_rfl) (Nat.le_of_ble_eq_true (by kernel_rfl)) ?_
 unfold zAM at h
 refine sr [(0,{ id:=0 })] [1,2] [0] 1 [.sl false 4 (Mp zA l_1),Pp 0] [Vb 26 (zS h_1)] zG an ?_
 refine sr [] [1,2,5] [0] 1 [.sl false 4 (Mp zA l_1),Pp 0,Ii 0] [Vb 26 (zS h_1)] zG an ?_
 refine sq ?_
 refine sr [(1,{ n:=(l_1).length })] [1,2,5,8,9,10] [0] 1 [.sl false 4 (Mp zA l_1),Pp 0,Ii 0,.sl false 4 (Mp zA l_1),Ii (lN (l_1)),Ii 0] [Vb 26 (zS h_1)] zG (ac (yG _:((Mp zA l_1)).length=(l_1).length) an) ?_
 obtain ⟨o_1,h_2,h⟩:=bind_some h
 refine wI (mk [(1,.sl false 4 (Mp zA l_1)),(2,Pp 0),(5,Ii o_1)] [(0,Vb 26 (zS h_1))] 1) ?_ ?_
 ·replace h:=h_2
  refine yZ (id:=0) (by kernel_rfl) ?_
  refine wk [0] [] [.s 1,.s 2,.s 5,.s 8,.s 9,.s 10] [.s 0] [(1,.sl false 4 (Mp zA l_1)),(2,Pp 0),(5,Ii 0),(8,.sl false 4 (Mp zA l_1)),(9,Ii (lN (l_1))),(10,Ii 0)] [(0,Vb 26 (zS h_1))] an ?_
  refine wP (fun n st=>∃ (n_1:Int),∃ (v_1:Int),st=mk [(1,.sl false 4 (Mp zA l_1)),(2,Pp 0),(5,Ii n_1),(8,.sl false 4 (Mp zA l_1)),(9,Ii (lN (l_1))),(10,Ii v_1)] [(0,Vb 26 (zS h_1))] 1∧uN F l_1 n n_1 v_1=some o_1) F (by kernel_rfl) ⟨_,_,rfl,h⟩ ?_ ?_
  ·rintro _ ⟨_,_,_,h⟩;exact w8 (h:(none:Option Int)=some o_1)
  rintro n_2 _ ⟨n_1,v_1,rfl,h⟩
  replace h:uJ F l_1 (uN F l_1 n_2) n_1 v_1=some o_1:=h
  unfold uJ at h
  refine sr [] [1,2,5,8,9,10,11] [0] 1 [.sl false 4 (Mp zA l_1),Pp 0,Ii n_1,.sl false 4 (Mp zA l_1),Ii (lN (l_1)),Ii v_1,.bool (decide (v_1<(lN (l_1))))] [Vb 26 (zS h_1)] zG an ?_
  refine sq ?_
  refine cd 11 (decide (v_1<(lN (l_1)))) ?_ ?_
  rotate_left
  ·intro g_1;replace h:=zU g_1 h
   refine w4 (id:=0) (by kernel_rfl) ?_
   cases h
   exact ⟨rfl,(sw [0] [] [.s 1,.s 2,.s 5] [.s 0] an)⟩
  intro g_1;replace h:=zV g_1 h
  refine sk ?_
  refine sq ?_
  refine yZ (id:=1) (by kernel_rfl) ?_
  refine sq ?_
  obtain ⟨x_1,h_3,h⟩:=bind_some h
  refine rg [(0,{ av:=zA x_1 }),(2,{ id:=1 })] [1,2,5,7,8,9,10] [0,1] 2 [.sl false 4 (Mp zA l_1),Pp 0,Ii n_1,Pp 1,.sl false 4 (Mp zA l_1),Ii (lN (l_1)),Ii v_1] [Vb 26 (zS h_1),Vb 59 (zR x_1)] zG (ac (wA h_3:wX (Mp zA l_1) v_1=some (zA x_1)) an) ?_
  refine rg [(3,{ n:=(x_1.Events).length })] [1,2,5,8,9,10] [0] 2 [.sl false 4 (Mp zA l_1),Pp 0,Ii (zP (n_1+(lN (x_1.Events)))),.sl false 4 (Mp zA l_1),Ii (lN (l_1)),Ii v_1] [Vb 26 (zS h_1)] zG (ac (yG _:((Mp zD x_1.Events)).length=(x_1.Events).length) an) ?_
  refine rg [] [1,2,5,8,9,10] [0] 2 [.sl false 4 (Mp zA l_1),Pp 0,Ii (zP (n_1+(lN (x_1.Events)))),.sl false 4 (Mp zA l_1),Ii (lN (l_1)),Ii (zP (v_1+(1:Int)))] [Vb 26 (zS h_1)] zG an ?_
  exact ⟨_,(sw [0] [] [.s 1,.s 2,.s 5,.s 8,.s 9,.s 10] [.s 0] an),_,_,rfl,h⟩
 refine sq ?_
 refine wI (mk [(4,.bool (decide ((lN (h_1.Threads))≤(70:Int))&&(decide ((lN (h_1.Domains))≤(10:Int))&&(decide ((lN (h_1.Snaps))≤(20:Int))&&(decide ((lN (l_1))≤(30:Int))&&decide (o_1≤(3000:Int)))))))] [] 0) ?_ ?_
 ·rcases bft (decide ((lN (h_1.Threads))≤(70:Int))) with zJ | zJ
  ·rcases bft (decide ((lN (h_1.Domains))≤(10:Int))) with zI | zI
   ·rcases bft (decide ((lN (h_1.Snaps))≤(20:Int))) with zW | zW
    ·rcases bft (decide ((lN (l_1))≤(30:Int))) with z4 | z4
     ·refine rg [(2,{ n:=(h_1.Threads).length }),(7,{ n:=(h_1.Domains).length }),(9,Ht),(13,{ n:=(h_1.Snaps).length }),(15,Ht),(18,{ n:=(l_1).length }),(20,Ht),(24,Ht)] [4] [] 1 [.bool (decide (o_1≤(3000:Int)))] [] zG (ac (yG _:((Mp zF h_1.Threads)).length=(h_1.Threads).length) (ac zJ (ac zJ (ac zJ (ac (yG _:((Mp zE h_1.Domains)).length=(h_1.Domains).length) (ac zJ (ac zJ (ac zI (ac zI (ac zI (ac (yG _:((Mp zN h_1.Snaps)).length=(h_1.Snaps).length) (ac zI (ac zI (ac zW (ac zW (ac (yG _:((Mp zA l_1)).length=(l_1).length) (ac zW (ac zW (ac z4 (ac z4 (ac z4 an))))))))))))))))))))) ?_
      exact ⟨rfl,(sw [] [] [.a 4 (.bool (decide ((lN (h_1.Threads))≤(70:Int))&&(decide ((lN (h_1.Domains))≤(10:Int))&&(decide ((lN (h_1.Snaps))≤(20:Int))&&(decide ((lN (l_1))≤(30:Int))&&decide (o_1≤(3000:Int)))))))] [] (ac (congrArg AV.bool (tQ zJ (tQ zI (tQ zW (tQ z4 rfl)))):(.bool (decide (o_1≤(3000:Int))):AV)=.bool (decide ((lN (h_1.Threads))≤(70:Int))&&(decide ((lN (h_1.Domains))≤(10:Int))&&(decide ((lN (h_1.Snaps))≤(20:Int))&&(decide ((lN (l_1))≤(30:Int))&&decide (o_1≤(3000:Int))))))) an))⟩
     ·refine rg [(2,{ n:=(h_1.Threads).length }),(7,{ n:=(h_1.Domains).length }),(9,Ht),(13,{ n:=(h_1.Snaps).length }),(15,Ht),(18,{ n:=(l_1).length }),(20,Ht),(22,Hg),(23,Hg),(24,Hf)] [4] [] 1 [.bool false] [] zG (ac (yG _:((Mp zF h_1.Threads)).length=(h_1.Threads).length) (ac zJ (ac zJ (ac zJ (ac (yG _:((Mp zE h_1.Domains)).length=(h_1.Domains).length) (ac zJ (ac zJ (ac zI (ac zI (ac zI (ac (yG _:((Mp zN h_1.Snaps)).length=(h_1.Snaps).length) (ac zI (ac zI (ac zW (ac zW (ac (yG _:((Mp zA l_1)).length=(l_1).length) (ac zW (ac zW (ac z4 (ac z4 (ac z4 an))))))))))))))))))))) ?_
      exact ⟨rfl,(sw [] [] [.a 4 (.bool (decide ((lN (h_1.Threads))≤(70:Int))&&(decide ((lN (h_1.Domains))≤(10:Int))&&(decide ((lN (h_1.Snaps))≤(20:Int))&&(decide ((lN (l_1))≤(30:Int))&&decide (o_1≤(3000:Int)))))))] [] (ac (congrArg AV.bool (tQ zJ (tQ zI (tQ zW (zAR z4)))):(.bool false:AV)=.bool (decide ((lN (h_1.Threads))≤(70:Int))&&(decide ((lN (h_1.Domains))≤(10:Int))&&(decide ((lN (h_1.Snaps))≤(20:Int))&&(decide ((lN (l_1))≤(30:Int))&&decide (o_1≤(3000:Int))))))) an))⟩
    ·refine rg [(2,{ n:=(h_1.Threads).length }),(7,{ n:=(h_1.Domains).length }),(9,Ht),(13,{ n:=(h_1.Snaps).length }),(15,Ht),(17,Hg),(18,Hg),(19,Hg),(20,Hf),(22,Hg),(23,Hg),(24,Hf)] [4] [] 1 [.bool false] [] zG (ac (yG _:((Mp zF h_1.Threads)).length=(h_1.Threads).length) (ac zJ (ac zJ (ac zJ (ac (yG _:((Mp zE h_1.Domains)).length=(h_1.Domains).length) (ac zJ (ac zJ (ac zI (ac zI (ac zI (ac (yG _:((Mp zN h_1.Snaps)).length=(h_1.Snaps).length) (ac zI (ac zI (ac zW (ac zW (ac zW (ac zW (ac (rfl:false=!true) (ac (rfl:false=!true) (ar false an)))))))))))))))))))) ?_
     exact ⟨rfl,(sw [] [] [.a 4 (.bool (decide ((lN (h_1.Threads))≤(70:Int))&&(decide ((lN (h_1.Domains))≤(10:Int))&&(decide ((lN (h_1.Snaps))≤(20:Int))&&(decide ((lN (l_1))≤(30:Int))&&decide (o_1≤(3000:Int)))))))] [] (ac (congrArg AV.bool (tQ zJ (tQ zI (zAR zW))):(.bool false:AV)=.bool (decide ((lN (h_1.Threads))≤(70:Int))&&(decide ((lN (h_1.Domains))≤(10:Int))&&(decide ((lN (h_1.Snaps))≤(20:Int))&&(decide ((lN (l_1))≤(30:Int))&&decide (o_1≤(3000:Int))))))) an))⟩
   ·refine rg [(2,{ n:=(h_1.Threads).length }),(7,{ n:=(h_1.Domains).length }),(9,Ht),(11,Hg),(12,Hg),(13,Hg),(14,Hg),(15,Hf),(17,Hg),(18,Hg),(19,Hg),(20,Hf),(22,Hg),(23,Hg),(24,Hf)] [4] [] 1 [.bool false] [] zG (ac (yG _:((Mp zF h_1.Threads)).length=(h_1.Threads).length) (ac zJ (ac zJ (ac zJ (ac (yG _:((Mp zE h_1.Domains)).length=(h_1.Domains).length) (ac zJ (ac zJ (ac zI (ac zI (ac zI (ac zI (ac zI (ac (rfl:false=!true) (ac (rfl:false=!true) (ac (rfl:false=!true) (ar false (ac (rfl:false=!true) (ac (rfl:false=!true) (ar false an))))))))))))))))))) ?_
    exact ⟨rfl,(sw [] [] [.a 4 (.bool (decide ((lN (h_1.Threads))≤(70:Int))&&(decide ((lN (h_1.Domains))≤(10:Int))&&(decide ((lN (h_1.Snaps))≤(20:Int))&&(decide ((lN (l_1))≤(30:Int))&&decide (o_1≤(3000:Int)))))))] [] (ac (congrArg AV.bool (tQ zJ (zAR zI)):(.bool false:AV)=.bool (decide ((lN (h_1.Threads))≤(70:Int))&&(decide ((lN (h_1.Domains))≤(10:Int))&&(decide ((lN (h_1.Snaps))≤(20:Int))&&(decide ((lN (l_1))≤(30:Int))&&decide (o_1≤(3000:Int))))))) an))⟩
  ·refine rg [(2,{ n:=(h_1.Threads).length }),(5,Hg),(6,Hg),(7,Hg),(8,Hg),(9,Hf),(11,Hg),(12,Hg),(13,Hg),(14,Hg),(15,Hf),(17,Hg),(18,Hg),(19,Hg),(20,Hf),(22,Hg),(23,Hg),(24,Hf)] [4] [] 1 [.bool false] [] zG (ac (yG _:((Mp zF h_1.Threads)).length=(h_1.Threads).length) (ac zJ (ac zJ (ac zJ (ac zJ (ac zJ (ac (rfl:false=!true) (ac (rfl:false=!true) (ac (rfl:false=!true) (ac (rfl:false=!true) (ar false (ac (rfl:false=!true) (ac (rfl:false=!true) (ac (rfl:false=!true) (ar false (ac (rfl:false=!true) (ac (rfl:false=!true) (ar false an)))))))))))))))))) ?_
   exact ⟨rfl,(sw [] [] [.a 4 (.bool (decide ((lN (h_1.Threads))≤(70:Int))&&(decide ((lN (h_1.Domains))≤(10:Int))&&(decide ((lN (h_1.Snaps))≤(20:Int))&&(decide ((lN (l_1))≤(30:Int))&&decide (o_1≤(3000:Int)))))))] [] (ac (congrArg AV.bool (zAR zJ):(.bool false:AV)=.bool (decide ((lN (h_1.Threads))≤(70:Int))&&(decide ((lN (h_1.Domains))≤(10:Int))&&(decide ((lN (h_1.Snaps))≤(20:Int))&&(decide ((lN (l_1))≤(30:Int))&&decide (o_1≤(3000:Int))))))) an))⟩
 refine rt ?_
 cases h
 exact ⟨.inr rfl,Nat.le_of_ble_eq_true rfl,by kernel_rfl⟩

theorem nT (F:Nat) (wJ:Int) (vI:Int) (w7:List (Int)) (r:zB) (h:nE F wJ vI w7=some r):zX prog 26 [] [] [Ii wJ,Ii vI,.sl false 1 (Mi w7)] [] (zA r):=by
 refine yI (fn:=Go.Proofs.Try.f26) (code:=xQ Go.Proofs.Try.f26) (by kernel_rfl) (by kernel_rfl) (Nat.le_of_ble_eq_true (by kernel_rfl)) ?_
 unfold nE at h
 refine sr [(0,{ id:=0 })] [0,1,2,6] [0] 1 [Ii wJ,Ii vI,.sl false 1 (Mi w7),Pp 0] [Vb 59 [Ii 0,Ii 0,Ii 0,.nilsl]] zG an ?_
 refine jO (kP 0 3 1 42 6 (by kernel_rfl)) ?_
 refine wk [0,1] [] [.s 0,.s 1,.s 2,.s 6] [.s 0,.s 1] [(0,Ii wJ),(1,Ii vI),(2,.sl false 1 (Mi w7)),(6,Pp 0)] [(0,Vb 59 [Ii 0,Ii 0,Ii 0,.own 1 0]),(1,Rb 42 6 [])] an ?_
 refine sr [(3,{ id:=2 })] [2,6,7] [0,1,2] 3 [.sl false 1 (Mi w7),Pp 0,Pp 2] [Vb 59 [Ii 0,Ii 0,Ii 0,.own 1 0],Rb 42 6 [],Vb 59 [Ii 1,Ii wJ,Ii vI,.nilsl]] zG an ?_
 refine jO (kP 2 3 3 42 6 (by kernel_rfl)) ?_
 refine wk [0,1,2,3] [] [.s 2,.s 6,.s 7] [.s 0,.s 1,.s 2,.s 3] [(2,.sl false 1 (Mi w7)),(6,Pp 0),(7,Pp 2)] [(0,Vb 59 [Ii 0,Ii 0,Ii 0,.own 1 0]),(1,Rb 42 6 []),(2,Vb 59 [Ii 1,Ii wJ,Ii vI,.own 3 0]),(3,Rb 42 6 [])] an ?_
 refine sq ?_
 refine sr [(1,{ n:=(w7).length })] [6,7,13,14,15] [0,1,2,3] 4 [Pp 0,Pp 2,.sl false 1 (Mi w7),Ii (lN (w7)),Ii 0] [Vb 59 [Ii 0,Ii 0,Ii 0,.own 1 0],Rb 42 6 [],Vb 59 [Ii 1,Ii wJ,Ii vI,.own 3 0],Rb 42 6 []] zG (ac (yG _:((Mi w7)).length=(w7).length) an) ?_
 obtain ⟨o_1,h_1,h⟩:=bind_some h
 refine wI (mk [(6,Pp 0),(7,Pp 2)] [(0,Vb 59 [Ii 0,Ii 0,Ii 0,.own 1 0]),(1,Rb 42 6 []),(2,Vb 59 [Ii 1,Ii wJ,Ii vI,.own 3 ((o_1).length)]),(3,Rb 42 6 (Mp zD o_1))] 4) ?_ ?_
 ·replace h:=h_1
  refine yZ (id:=0) (by kernel_rfl) ?_
  refine wk [0,1,2,3] [] [.s 6,.s 7,.s 13,.s 14,.s 15] [.s 0,.s 1,.s 2,.s 3] [(6,Pp 0),(7,Pp 2),(13,.sl false 1 (Mi w7)),(14,Ii (lN (w7))),(15,Ii 0)] [(0,Vb 59 [Ii 0,Ii 0,Ii 0,.own 1 0]),(1,Rb 42 6 []),(2,Vb 59 [Ii 1,Ii wJ,Ii vI,.own 3 0]),(3,Rb 42 6 [])] an ?_
  refine wP (fun n st=>∃ (v_1:Int),∃ (zC:List zH),st=mk [(6,Pp 0),(7,Pp 2),(13,.sl false 1 (Mi w7)),(14,Ii (lN (w7))),(15,Ii v_1)] [(0,Vb 59 [Ii 0,Ii 0,Ii 0,.own 1 0]),(1,Rb 42 6 []),(2,Vb 59 [Ii 1,Ii wJ,Ii vI,.own 3 ((zC).length)]),(3,Rb 42 6 (Mp zD zC))] 4∧nV F w7 n v_1 zC=some o_1) F (by kernel_rfl) ⟨_,_,rfl,h⟩ ?_ ?_
  ·rintro _ ⟨_,_,_,h⟩;exact w8 (h:(none:Option (List zH))=some o_1)
  rintro n_1 _ ⟨v_1,zC,rfl,h⟩
  replace h:pD F w7 (nV F w7 n_1) v_1 zC=some o_1:=h
  unfold pD at h
  refine sr [] [6,7,13,14,15,16] [0,1,2,3] 4 [Pp 0,Pp 2,.sl false 1 (Mi w7),Ii (lN (w7)),Ii v_1,.bool (decide (v_1<(lN (w7))))] [Vb 59 [Ii 0,Ii 0,Ii 0,.own 1 0],Rb 42 6 [],Vb 59 [Ii 1,Ii wJ,Ii vI,.own 3 ((zC).length)],Rb 42 6 (Mp zD zC)] zG an ?_
  refine sq ?_
  refine cd 16 (decide (v_1<(lN (w7)))) ?_ ?_
  rotate_left
  ·intro g_1;replace h:=zU g_1 h
   refine w4 (id:=0) (by kernel_rfl) ?_
   cases h
   exact ⟨rfl,(sw [0,1,2,3] [] [.s 6,.s 7] [.s 0,.s 1,.s 2,.s 3] an)⟩
  intro g_1;replace h:=zV g_1 h
  refine sk ?_
  refine sq ?_
  refine yZ (id:=1) (by kernel_rfl) ?_
  refine sq ?_
  obtain ⟨x_1,h_2,h⟩:=bind_some h
  refine rg [(0,{ av:=Ii x_1 })] [6,7,9,13,14,15] [0,1,2,3] 4 [Pp 0,Pp 2,Ii x_1,.sl false 1 (Mi w7),Ii (lN (w7)),Ii v_1] [Vb 59 [Ii 0,Ii 0,Ii 0,.own 1 0],Rb 42 6 [],Vb 59 [Ii 1,Ii wJ,Ii vI,.own 3 ((zC).length)],Rb 42 6 (Mp zD zC)] zG (ac (wA h_2:wX (Mi w7) v_1=some (Ii x_1)) an) ?_
  obtain ⟨_,h_3,h⟩:=bind_some h;replace h_3:=wM h_3
  refine rg [(4,{ id:=4,lo:=[(22,[0,0,0,0,0,1])] }),(5,{ id:=5,l:=(Mp zD (zC++([(⟨x_1,(3:Int),([97]:List Int),(0:Int),(0:Int),[]⟩:zH)]:List zH))),n:=((zC++([(⟨x_1,(3:Int),([97]:List Int),(0:Int),(0:Int),[]⟩:zH)]:List zH))).length })] [6,7,13,14,15] [0,1,2,5] 6 [Pp 0,Pp 2,.sl false 1 (Mi w7),Ii (lN (w7)),Ii v_1] [Vb 59 [Ii 0,Ii 0,Ii 0,.own 1 0],Rb 42 6 [],Vb 59 [Ii 1,Ii wJ,Ii vI,.own 5 (((zC++([(⟨x_1,(3:Int),([97]:List Int),(0:Int),(0:Int),[]⟩:zH)]:List zH))).length)],Rb 42 6 (Mp zD (zC++([(⟨x_1,(3:Int),([97]:List Int),(0:Int),(0:Int),[]⟩:zH)]:List zH)))] zG (ac (by first | (simp;done) | (simp;omega):(zC).length=((List.map zD zC)).length) (ac (by first | (simp;done) | (simp;omega):1=((List.map zD ([(⟨x_1,(3:Int),([97]:List Int),(0:Int),(0:Int),[]⟩:zH)]:List zH))).length) (ac (zBf _ _:(Mp zD (zC++([(⟨x_1,(3:Int),([97]:List Int),(0:Int),(0:Int),[]⟩:zH)]:List zH)))=(Mp zD zC)++(Mp zD ([(⟨x_1,(3:Int),([97]:List Int),(0:Int),(0:Int),[]⟩:zH)]:List zH))) (ac (by simp:((zC++([(⟨x_1,(3:Int),([97]:List Int),(0:Int),(0:Int),[]⟩:zH)]:List zH))).length=((List.map zD (zC++([(⟨x_1,(3:Int),([97]:List Int),(0:Int),(0:Int),[]⟩:zH)]:List zH)))).length) (ac (by first | (simp;done) | simpa using h_3:(((List.map zD zC):List AV).length+((List.map zD ([(⟨x_1,(3:Int),([97]:List Int),(0:Int),(0:Int),[]⟩:zH)]:List zH)):List AV).length) * 72≤140737488355328) an))))) ?_
  refine rg [] [6,7,13,14,15] [0,1,2,5] 6 [Pp 0,Pp 2,.sl false 1 (Mi w7),Ii (lN (w7)),Ii (zP (v_1+(1:Int)))] [Vb 59 [Ii 0,Ii 0,Ii 0,.own 1 0],Rb 42 6 [],Vb 59 [Ii 1,Ii wJ,Ii vI,.own 5 (((zC++([(⟨x_1,(3:Int),([97]:List Int),(0:Int),(0:Int),[]⟩:zH)]:List zH))).length)],Rb 42 6 (Mp zD (zC++([(⟨x_1,(3:Int),([97]:List Int),(0:Int),(0:Int),[]⟩:zH)]:List zH)))] zG an ?_
  exact ⟨_,(sw [0,1,2,5] [] [.s 6,.s 7,.s 13,.s 14,.s 15] [.s 0,.s 1,.s 2,.s 3] an),_,_,rfl,h⟩
 refine sr [] [6] [0,3] 4 [Pp 0] [Vb 59 [Ii 1,Ii wJ,Ii vI,.own 3 ((o_1).length)],Rb 42 6 (Mp zD o_1)] zG an ?_
 refine wk [0] [3] [.s 6] [.a 0 (Vb 59 (zR (⟨(1:Int),wJ,vI,o_1⟩:zB)))] [(6,Pp 0)] [(0,Vb 59 (zR (⟨(1:Int),wJ,vI,o_1⟩:zB)))] (ar 59 (ac (rfl:vT [Ii ((⟨(1:Int),wJ,vI,o_1⟩:zB).Thread),Ii ((⟨(1:Int),wJ,vI,o_1⟩:zB).Serial),Ii ((⟨(1:Int),wJ,vI,o_1⟩:zB).Lost),.sl false 6 (Mp zD ((⟨(1:Int),wJ,vI,o_1⟩:zB).Events))]=true) (ac (by first | (simp;done) | (simp;omega):(o_1).length=((List.map zD o_1)).length) (ac (rfl:(Ii 1:AV)=Ii ((⟨(1:Int),wJ,vI,o_1⟩:zB).Thread)) (ac (rfl:(Ii wJ:AV)=Ii ((⟨(1:Int),wJ,vI,o_1⟩:zB).Serial)) (ac (rfl:(Ii vI:AV)=Ii ((⟨(1:Int),wJ,vI,o_1⟩:zB).Lost)) (ar 6 (ac (rfl:((Mp zD o_1):List AV)=(Mp zD ((⟨(1:Int),wJ,vI,o_1⟩:zB).Events))) (ac (rfl:(!false||false)=true) an))))))))) ?_
 refine rt ?_
 cases h
 exact ⟨.inr rfl,Nat.le_of_ble_eq_true rfl,by kernel_rfl⟩

theorem zBt (s_1:List Int) (c_1:Int) (r:Int) (h:tS s_1 c_1=some r):zX prog 91 [] [] [.str s_1,Iu c_1] [] (Ii r):=by
 refine yI (fn:=Go.Proofs.Try.f91) (code:=xQ Go.Proofs.Try.f91) (by kernel_rfl) (by kernel_rfl) (Nat.le_of_ble_eq_true (by kernel_rfl)) ?_
 unfold tS at h
 refine sr [] [0,1] [] 0 [.str s_1,Iu c_1] [] zG an ?_
 refine sr [] [4] [] 0 [Ii (uE s_1 c_1)] [] zG (ac (zM4:zFi prog 92) an) ?_
 refine rt ?_
 cases h
 exact ⟨.inr rfl,Nat.le_of_ble_eq_true rfl,by kernel_rfl⟩

theorem vC (s_1:List Int) (c_1:Int) (r:Int) (h:wT s_1 c_1=some r):zX prog 86 [] [] [.str s_1,Iu c_1] [] (Ii r):=by
 refine yI (fn:=Go.Proofs.Try.f86) (code:=xQ Go.Proofs.Try.f86) (by kernel_rfl) (by kernel_rfl) (Nat.le_of_ble_eq_true (by kernel_rfl)) ?_
 unfold wT at h
 refine sr [] [0,1] [] 0 [.str s_1,Iu c_1] [] zG an ?_
 refine sq ?_
 obtain ⟨r_1,h_1,h⟩:=bind_some h
 refine rg [(2,{ av:=Ii r_1,l:=[.str s_1,Iu c_1] })] [4] [] 0 [Ii r_1] [] zG (ar ([.str s_1,Iu c_1]:List AV) (ac (rfl:([]:List zM)=[]) (ac (zBt s_1 c_1 r_1 h_1:zX prog 91 [] [] [.str s_1,Iu c_1] [] (Ii r_1)) an))) ?_
 refine rt ?_
 cases h
 exact ⟨.inr rfl,Nat.le_of_ble_eq_true rfl,by kernel_rfl⟩

theorem zEA (c_1:Int) (r:Bool) (h:j5 c_1=some r):zX prog 75 [] [] [Iu c_1] [] (.bool r):=by
 refine yI (fn:=Go.Proofs.Try.f75) (code:=xQ Go.Proofs.Try.f75) (by kernel_rfl) (by kernel_rfl) (Nat.le_of_ble_eq_true (by kernel_rfl)) ?_
 unfold j5 at h
 refine sr [] [0] [] 0 [Iu c_1] [] zG an ?_
 refine sq ?_
 obtain ⟨p_1,h_2,h⟩:=bind_some h
 refine wI (mk [(2,.bool p_1)] [] 0) ?_ ?_
 ·replace h:=h_2
  rcases bft (decide (c_1≥(97:Int))) with zJ | zJ
  ·replace h:=zV zJ h
   rcases bft (decide (c_1≤(122:Int))) with zI | zI
   ·replace h:=zV zI h
    refine rg [(5,Ht),(7,Hg),(8,Hg),(9,Hg),(12,Hg),(13,Ht),(15,Hg),(16,Hg),(17,Hg),(20,Hg),(21,Ht),(23,Hg),(24,Hg),(25,Hg),(26,Ht)] [2] [] 0 [.bool true] [] zG (ac zJ (ac zJ (ac zJ (ac zI (ac zI (ac zI (ac zI (ac zI (ax (ax (ax (ax (ar true (ax (ax (ax (ar true an))))))))))))))))) ?_
    cases h
    exact ⟨rfl,(sw [] [] [.s 2] [] an)⟩
   ·replace h:=zU zI h
    rcases bft (decide (c_1≥(65:Int))) with zW | zW
    ·replace h:=zV zW h
     rcases bft (decide (c_1≤(90:Int))) with z4 | z4
     ·replace h:=zV z4 h
      refine rg [(5,Ht),(12,Ht),(13,Hf),(15,Hg),(16,Hg),(17,Hg),(20,Hg),(21,Ht),(23,Hg),(24,Hg),(25,Hg),(26,Ht)] [2] [] 0 [.bool true] [] zG (ac zJ (ac zJ (ac zJ (ac zI (ac zI (ac zI (ac zW (ac zW (ac zI (ac zW (ac zI (ac z4 (ac z4 (ac z4 (ac z4 (ac z4 (ax (ax (ax (ar true an)))))))))))))))))))) ?_
      cases h
      exact ⟨rfl,(sw [] [] [.s 2] [] an)⟩
     ·replace h:=zU z4 h
      rcases bft (decide (c_1≥(48:Int))) with yW | yW
      ·replace h:=zV yW h
       rcases bft (decide (c_1≤(57:Int))) with xV | xV
       ·replace h:=zV xV h
        refine rg [(5,Ht),(12,Ht),(13,Hf),(20,Ht),(21,Hf),(23,Hg),(24,Hg),(25,Hg),(26,Ht)] [2] [] 0 [.bool true] [] zG (ac zJ (ac zJ (ac zJ (ac zI (ac zI (ac zI (ac zW (ac zW (ac zI (ac zW (ac zI (ac z4 (ac z4 (ac z4 (ac yW (ac yW (ac z4 (ac yW (ac z4 (ac xV (ac xV (ac xV (ac xV an))))))))))))))))))))))) ?_
        cases h
        exact ⟨rfl,(sw [] [] [.s 2] [] an)⟩
       ·replace h:=zU xV h
        obtain ⟨r_1,h_1,h⟩:=bind_some h
        refine rg [(5,Ht),(12,Ht),(13,Hf),(20,Ht),(21,Hf),(24,{ av:=Ii r_1,l:=[.str ([95,46,58,47,60,62,36,42,126,45]:List Int),Iu c_1] }),(26,Hf)] [2] [] 0 [.bool (decide (r_1≥(0:Int)))] [] zG (ac zJ (ac zJ (ac zJ (ac zI (ac zI (ac zI (ac zW (ac zW (ac zI (ac zW (ac zI (ac z4 (ac z4 (ac z4 (ac yW (ac yW (ac z4 (ac yW (ac z4 (ac xV (ac xV (ar ([.str ([95,46,58,47,60,62,36,42,126,45]:List Int),Iu c_1]:List AV) (ac (rfl:([]:List zM)=[]) (ac (vC ([95,46,58,47,60,62,36,42,126,45]:List Int) c_1 r_1 h_1:zX prog 86 [] [] [.str ([95,46,58,47,60,62,36,42,126,45]:List Int),Iu c_1] [] (Ii r_1)) (ac xV (ac xV an)))))))))))))))))))))))))) ?_
        cases h
        exact ⟨rfl,(sw [] [] [.s 2] [] an)⟩
      ·replace h:=zU yW h
       obtain ⟨r_1,h_1,h⟩:=bind_some h
       refine rg [(5,Ht),(12,Ht),(13,Hf),(18,Hg),(19,Hg),(20,Hf),(21,Hf),(24,{ av:=Ii r_1,l:=[.str ([95,46,58,47,60,62,36,42,126,45]:List Int),Iu c_1] }),(26,Hf)] [2] [] 0 [.bool (decide (r_1≥(0:Int)))] [] zG (ac zJ (ac zJ (ac zJ (ac zI (ac zI (ac zI (ac zW (ac zW (ac zI (ac zW (ac zI (ac z4 (ac z4 (ac z4 (ac yW (ac yW (ac z4 (ac yW (ac z4 (ar false (ar false (ar ([.str ([95,46,58,47,60,62,36,42,126,45]:List Int),Iu c_1]:List AV) (ac (rfl:([]:List zM)=[]) (ac (vC ([95,46,58,47,60,62,36,42,126,45]:List Int) c_1 r_1 h_1:zX prog 86 [] [] [.str ([95,46,58,47,60,62,36,42,126,45]:List Int),Iu c_1] [] (Ii r_1)) (ar false (ar false an)))))))))))))))))))))))))) ?_
       cases h
       exact ⟨rfl,(sw [] [] [.s 2] [] an)⟩
    ·replace h:=zU zW h
     rcases bft (decide (c_1≥(48:Int))) with xS | xS
     ·replace h:=zV xS h
      rcases bft (decide (c_1≤(57:Int))) with xP | xP
      ·replace h:=zV xP h
       refine rg [(5,Ht),(10,Hg),(11,Hg),(12,Hf),(13,Hf),(20,Ht),(21,Hf),(23,Hg),(24,Hg),(25,Hg),(26,Ht)] [2] [] 0 [.bool true] [] zG (ac zJ (ac zJ (ac zJ (ac zI (ac zI (ac zI (ac zW (ac zW (ac zI (ac zW (ac zI (ar false (ar false (ar false (ac xS (ac xS (ar false (ac xS (ar false (ac xP (ac xP (ac xP (ac xP an))))))))))))))))))))))) ?_
       cases h
       exact ⟨rfl,(sw [] [] [.s 2] [] an)⟩
      ·replace h:=zU xP h
       obtain ⟨r_1,h_1,h⟩:=bind_some h
       refine rg [(5,Ht),(10,Hg),(11,Hg),(12,Hf),(13,Hf),(20,Ht),(21,Hf),(24,{ av:=Ii r_1,l:=[.str ([95,46,58,47,60,62,36,42,126,45]:List Int),Iu c_1] }),(26,Hf)] [2] [] 0 [.bool (decide (r_1≥(0:Int)))] [] zG (ac zJ (ac zJ (ac zJ (ac zI (ac zI (ac zI (ac zW (ac zW (ac zI (ac zW (ac zI (ar false (ar false (ar false (ac xS (ac xS (ar false (ac xS (ar false (ac xP (ac xP (ar ([.str ([95,46,58,47,60,62,36,42,126,45]:List Int),Iu c_1]:List AV) (ac (rfl:([]:List zM)=[]) (ac (vC ([95,46,58,47,60,62,36,42,126,45]:List Int) c_1 r_1 h_1:zX prog 86 [] [] [.str ([95,46,58,47,60,62,36,42,126,45]:List Int),Iu c_1] [] (Ii r_1)) (ac xP (ac xP an)))))))))))))))))))))))))) ?_
       cases h
       exact ⟨rfl,(sw [] [] [.s 2] [] an)⟩
     ·replace h:=zU xS h
      obtain ⟨r_1,h_1,h⟩:=bind_some h
      refine rg [(5,Ht),(10,Hg),(11,Hg),(12,Hf),(13,Hf),(18,Hg),(19,Hg),(20,Hf),(21,Hf),(24,{ av:=Ii r_1,l:=[.str ([95,46,58,47,60,62,36,42,126,45]:List Int),Iu c_1] }),(26,Hf)] [2] [] 0 [.bool (decide (r_1≥(0:Int)))] [] zG (ac zJ (ac zJ (ac zJ (ac zI (ac zI (ac zI (ac zW (ac zW (ac zI (ac zW (ac zI (ar false (ar false (ar false (ac xS (ac xS (ar false (ac xS (ar false (ar false (ar false (ar ([.str ([95,46,58,47,60,62,36,42,126,45]:List Int),Iu c_1]:List AV) (ac (rfl:([]:List zM)=[]) (ac (vC ([95,46,58,47,60,62,36,42,126,45]:List Int) c_1 r_1 h_1:zX prog 86 [] [] [.str ([95,46,58,47,60,62,36,42,126,45]:List Int),Iu c_1] [] (Ii r_1)) (ar false (ar false an)))))))))))))))))))))))))) ?_
      cases h
      exact ⟨rfl,(sw [] [] [.s 2] [] an)⟩
  ·replace h:=zU zJ h
   rcases bft (decide (c_1≥(65:Int))) with wU | wU
   ·replace h:=zV wU h
    rcases bft (decide (c_1≤(90:Int))) with xO | xO
    ·replace h:=zV xO h
     refine rg [(3,Hg),(4,Hg),(5,Hf),(12,Ht),(13,Hf),(15,Hg),(16,Hg),(17,Hg),(20,Hg),(21,Ht),(23,Hg),(24,Hg),(25,Hg),(26,Ht)] [2] [] 0 [.bool true] [] zG (ac zJ (ac zJ (ac zJ (ar false (ar false (ar false (ac wU (ac wU (ar false (ac wU (ar false (ac xO (ac xO (ac xO (ac xO (ac xO (ax (ax (ax (ar true an)))))))))))))))))))) ?_
     cases h
     exact ⟨rfl,(sw [] [] [.s 2] [] an)⟩
    ·replace h:=zU xO h
     rcases bft (decide (c_1≥(48:Int))) with x8 | x8
     ·replace h:=zV x8 h
      rcases bft (decide (c_1≤(57:Int))) with wK | wK
      ·replace h:=zV wK h
       refine rg [(3,Hg),(4,Hg),(5,Hf),(12,Ht),(13,Hf),(20,Ht),(21,Hf),(23,Hg),(24,Hg),(25,Hg),(26,Ht)] [2] [] 0 [.bool true] [] zG (ac zJ (ac zJ (ac zJ (ar false (ar false (ar false (ac wU (ac wU (ar false (ac wU (ar false (ac xO (ac xO (ac xO (ac x8 (ac x8 (ac xO (ac x8 (ac xO (ac wK (ac wK (ac wK (ac wK an))))))))))))))))))))))) ?_
       cases h
       exact ⟨rfl,(sw [] [] [.s 2] [] an)⟩
      ·replace h:=zU wK h
       obtain ⟨r_1,h_1,h⟩:=bind_some h
       refine rg [(3,Hg),(4,Hg),(5,Hf),(12,Ht),(13,Hf),(20,Ht),(21,Hf),(24,{ av:=Ii r_1,l:=[.str ([95,46,58,47,60,62,36,42,126,45]:List Int),Iu c_1] }),(26,Hf)] [2] [] 0 [.bool (decide (r_1≥(0:Int)))] [] zG (ac zJ (ac zJ (ac zJ (ar false (ar false (ar false (ac wU (ac wU (ar false (ac wU (ar false (ac xO (ac xO (ac xO (ac x8 (ac x8 (ac xO (ac x8 (ac xO (ac wK (ac wK (ar ([.str ([95,46,58,47,60,62,36,42,126,45]:List Int),Iu c_1]:List AV) (ac (rfl:([]:List zM)=[]) (ac (vC ([95,46,58,47,60,62,36,42,126,45]:List Int) c_1 r_1 h_1:zX prog 86 [] [] [.str ([95,46,58,47,60,62,36,42,126,45]:List Int),Iu c_1] [] (Ii r_1)) (ac wK (ac wK an)))))))))))))))))))))))))) ?_
       cases h
       exact ⟨rfl,(sw [] [] [.s 2] [] an)⟩
     ·replace h:=zU x8 h
      obtain ⟨r_1,h_1,h⟩:=bind_some h
      refine rg [(3,Hg),(4,Hg),(5,Hf),(12,Ht),(13,Hf),(18,Hg),(19,Hg),(20,Hf),(21,Hf),(24,{ av:=Ii r_1,l:=[.str ([95,46,58,47,60,62,36,42,126,45]:List Int),Iu c_1] }),(26,Hf)] [2] [] 0 [.bool (decide (r_1≥(0:Int)))] [] zG (ac zJ (ac zJ (ac zJ (ar false (ar false (ar false (ac wU (ac wU (ar false (ac wU (ar false (ac xO (ac xO (ac xO (ac x8 (ac x8 (ac xO (ac x8 (ac xO (ar false (ar false (ar ([.str ([95,46,58,47,60,62,36,42,126,45]:List Int),Iu c_1]:List AV) (ac (rfl:([]:List zM)=[]) (ac (vC ([95,46,58,47,60,62,36,42,126,45]:List Int) c_1 r_1 h_1:zX prog 86 [] [] [.str ([95,46,58,47,60,62,36,42,126,45]:List Int),Iu c_1] [] (Ii r_1)) (ar false (ar false an)))))))))))))))))))))))))) ?_
      cases h
      exact ⟨rfl,(sw [] [] [.s 2] [] an)⟩
   ·replace h:=zU wU h
    rcases bft (decide (c_1≥(48:Int))) with uL | uL
    ·replace h:=zV uL h
     rcases bft (decide (c_1≤(57:Int))) with uU | uU
     ·replace h:=zV uU h
      refine rg [(3,Hg),(4,Hg),(5,Hf),(10,Hg),(11,Hg),(12,Hf),(13,Hf),(20,Ht),(21,Hf),(23,Hg),(24,Hg),(25,Hg),(26,Ht)] [2] [] 0 [.bool true] [] zG (ac zJ (ac zJ (ac zJ (ar false (ar false (ar false (ac wU (ac wU (ar false (ac wU (ar false (ar false (ar false (ar false (ac uL (ac uL (ar false (ac uL (ar false (ac uU (ac uU (ac uU (ac uU an))))))))))))))))))))))) ?_
      cases h
      exact ⟨rfl,(sw [] [] [.s 2] [] an)⟩
     ·replace h:=zU uU h
      obtain ⟨r_1,h_1,h⟩:=bind_some h
      refine rg [(3,Hg),(4,Hg),(5,Hf),(10,Hg),(11,Hg),(12,Hf),(13,Hf),(20,Ht),(21,Hf),(24,{ av:=Ii r_1,l:=[.str ([95,46,58,47,60,62,36,42,126,45]:List Int),Iu c_1] }),(26,Hf)] [2] [] 0 [.bool (decide (r_1≥(0:Int)))] [] zG (ac zJ (ac zJ (ac zJ (ar false (ar false (ar false (ac wU (ac wU (ar false (ac wU (ar false (ar false (ar false (ar false (ac uL (ac uL (ar false (ac uL (ar false (ac uU (ac uU (ar ([.str ([95,46,58,47,60,62,36,42,126,45]:List Int),Iu c_1]:List AV) (ac (rfl:([]:List zM)=[]) (ac (vC ([95,46,58,47,60,62,36,42,126,45]:List Int) c_1 r_1 h_1:zX prog 86 [] [] [.str ([95,46,58,47,60,62,36,42,126,45]:List Int),Iu c_1] [] (Ii r_1)) (ac uU (ac uU an)))))))))))))))))))))))))) ?_
      cases h
      exact ⟨rfl,(sw [] [] [.s 2] [] an)⟩
    ·replace h:=zU uL h
     obtain ⟨r_1,h_1,h⟩:=bind_some h
     refine rg [(3,Hg),(4,Hg),(5,Hf),(10,Hg),(11,Hg),(12,Hf),(13,Hf),(18,Hg),(19,Hg),(20,Hf),(21,Hf),(24,{ av:=Ii r_1,l:=[.str ([95,46,58,47,60,62,36,42,126,45]:List Int),Iu c_1] }),(26,Hf)] [2] [] 0 [.bool (decide (r_1≥(0:Int)))] [] zG (ac zJ (ac zJ (ac zJ (ar false (ar false (ar false (ac wU (ac wU (ar false (ac wU (ar false (ar false (ar false (ar false (ac uL (ac uL (ar false (ac uL (ar false (ar false (ar false (ar ([.str ([95,46,58,47,60,62,36,42,126,45]:List Int),Iu c_1]:List AV) (ac (rfl:([]:List zM)=[]) (ac (vC ([95,46,58,47,60,62,36,42,126,45]:List Int) c_1 r_1 h_1:zX prog 86 [] [] [.str ([95,46,58,47,60,62,36,42,126,45]:List Int),Iu c_1] [] (Ii r_1)) (ar false (ar false an)))))))))))))))))))))))))) ?_
     cases h
     exact ⟨rfl,(sw [] [] [.s 2] [] an)⟩
 refine rt ?_
 cases h
 exact ⟨.inr rfl,Nat.le_of_ble_eq_true rfl,by kernel_rfl⟩

theorem zAn (F:Nat) (s_1:List Int) (r:Int) (h:qV F s_1=some r):zX prog 64 [] [] [.str s_1] [] (Ii r):=by
 refine yI (fn:=Go.Proofs.Try.f64) (code:=xQ Go.Proofs.Try.f64) (by kernel_rfl) (by kernel_rfl) (Nat.le_of_ble_eq_true (by kernel_rfl)) ?_
 unfold qV at h
 refine sr [] [0] [] 0 [.str s_1] [] zG an ?_
 refine sq ?_
 refine sq ?_
 refine wI (mk [(0,.str s_1),(10,.bool ((s_1==([]:List Int))||decide ((lN (s_1))>(40:Int))))] [] 0) ?_ ?_
 ·rcases bft (s_1==([]:List Int)) with zJ | zJ
  ·refine rg [(3,Hg),(4,Hg),(5,Hg),(6,Ht)] [0,10] [] 0 [.str s_1,.bool true] [] zG (ac zJ (ac zJ (ac zJ (ac zJ an)))) ?_
   exact ⟨rfl,(sw [] [] [.s 0,.a 10 (.bool ((s_1==([]:List Int))||decide ((lN (s_1))>(40:Int))))] [] (ac (congrArg AV.bool (ort zJ):(.bool true:AV)=.bool ((s_1==([]:List Int))||decide ((lN (s_1))>(40:Int)))) an))⟩
  ·refine rg [(6,Hf)] [0,10] [] 0 [.str s_1,.bool (decide ((lN (s_1))>(40:Int)))] [] zG (ac zJ (ac zJ (ac zJ (ac zJ an)))) ?_
   exact ⟨rfl,(sw [] [] [.s 0,.a 10 (.bool ((s_1==([]:List Int))||decide ((lN (s_1))>(40:Int))))] [] (ac (congrArg AV.bool (orf zJ rfl):(.bool (decide ((lN (s_1))>(40:Int))):AV)=.bool ((s_1==([]:List Int))||decide ((lN (s_1))>(40:Int)))) an))⟩
 refine cd 10 ((s_1==([]:List Int))||decide ((lN (s_1))>(40:Int))) ?_ ?_
 ·intro g_1;replace h:=zV g_1 h
  refine sr [] [2] [] 0 [Ii 3] [] zG an ?_
  refine rt ?_
  cases h
  exact ⟨.inr rfl,Nat.le_of_ble_eq_true rfl,by kernel_rfl⟩
 intro g_1;replace h:=zU g_1 h
 refine sk ?_
 refine sq ?_
 refine sr [] [0,12,13] [] 0 [.str s_1,Ii (lN (s_1)),Ii 0] [] zG an ?_
 obtain ⟨o_1,h_1,h⟩:=bind_some h
 refine uG (K1:=(fun e st'=>match o_1 with | (.inl q0)=>e=.normal∧Sub 0 st' (mk [] [] 0) | (.inr q1)=>e=.ret∧kE prog Go.Proofs.Try.f64 0 [] (Ii q1) st')) ?_ ?_
 ·replace h:=h_1
  refine yZ (id:=0) (by kernel_rfl) ?_
  refine wk [] [] [.s 0,.s 12,.s 13] [] [(0,.str s_1),(12,Ii (lN (s_1))),(13,Ii 0)] [] an ?_
  refine wP (fun n st=>∃ (v_1:Int),st=mk [(0,.str s_1),(12,Ii (lN (s_1))),(13,Ii v_1)] [] 0∧jG F s_1 n v_1=some o_1) F (by kernel_rfl) ⟨_,rfl,h⟩ ?_ ?_
  ·rintro _ ⟨_,_,h⟩;exact w8 (h:(none:Option (Unit⊕Int))=some o_1)
  rintro n_1 _ ⟨v_1,rfl,h⟩
  replace h:tA F s_1 (jG F s_1 n_1) v_1=some o_1:=h
  unfold tA at h
  refine sr [] [0,12,13,14] [] 0 [.str s_1,Ii (lN (s_1)),Ii v_1,.bool (decide (v_1<(lN (s_1))))] [] zG an ?_
  refine sq ?_
  refine cd 14 (decide (v_1<(lN (s_1)))) ?_ ?_
  rotate_left
  ·intro g_2;replace h:=zU g_2 h
   refine w4 (id:=0) (by kernel_rfl) ?_
   cases h
   exact ⟨rfl,(sw [] [] [] [] an)⟩
  intro g_2;replace h:=zV g_2 h
  refine sk ?_
  refine sq ?_
  refine yZ (id:=1) (by kernel_rfl) ?_
  refine sr [] [0,3,12,13] [] 0 [.str s_1,Ii v_1,Ii (lN (s_1)),Ii v_1] [] zG an ?_
  refine sq ?_
  obtain ⟨c_1,h_2,h⟩:=bind_some h
  obtain ⟨r_1,h_3,h⟩:=bind_some h
  refine rg [(2,{ z:=c_1 }),(3,{ av:=.bool r_1,l:=[Iu c_1] })] [0,12,13,20] [] 0 [.str s_1,Ii (lN (s_1)),Ii v_1,.bool (!r_1)] [] zG (ac h_2 (ar ([Iu c_1]:List AV) (ac (rfl:([]:List zM)=[]) (ac (zEA c_1 r_1 h_3:zX prog 75 [] [] [Iu c_1] [] (.bool r_1)) an)))) ?_
  refine cd 20 (!r_1) ?_ ?_
  rotate_left
  ·intro g_3;replace h:=zU g_3 h
   refine sk ?_
   refine rg [] [0,12,13] [] 0 [.str s_1,Ii (lN (s_1)),Ii (zP (v_1+(1:Int)))] [] zG an ?_
   exact ⟨_,(sw [] [] [.s 0,.s 12,.s 13] [] an),_,rfl,h⟩
  intro g_3;replace h:=zV g_3 h
  refine sr [] [2] [] 0 [Ii 3] [] zG an ?_
  refine rt ?_
  cases h
  exact ⟨rfl,Nat.le_of_ble_eq_true rfl,by kernel_rfl⟩
 intro e st1 hk
 rcases o_1 with q_1 | q_2
 rotate_left
 ·obtain ⟨rfl,hf⟩:=hk
  cases h
  exact ⟨st1,Sub.refl _ _,.inr rfl,hf⟩
 obtain ⟨rfl,hs⟩:=hk
 refine ⟨_,hs,?_⟩
 refine sr [] [2] [] 0 [Ii 0] [] zG an ?_
 refine rt ?_
 cases h
 exact ⟨.inr rfl,Nat.le_of_ble_eq_true rfl,by kernel_rfl⟩

theorem zDj (F:Nat) (t_1:zO) (r:Int) (h:qT F t_1=some r):zX prog 47 [] [] [zF t_1] [] (Ii r):=by
 refine yI (fn:=Go.Proofs.Try.f47) (code:=xQ Go.Proofs.Try.f47) (by kernel_rfl) (by kernel_rfl) (Nat.le_of_ble_eq_true (by kernel_rfl)) ?_
 unfold qT at h
 refine sr [(0,{ id:=0 })] [1] [0] 1 [Pp 0] [Vb 66 (z0 t_1)] zG an ?_
 refine sq ?_
 refine sq ?_
 refine wI (mk [(1,Pp 0),(20,.bool (decide (t_1.Id<(0:Int))||(decide (t_1.Id>(1000000000000000:Int))||(decide (t_1.Domain<(0:Int))||decide (t_1.Domain≥(8:Int))))))] [(0,Vb 66 (z0 t_1))] 1) ?_ ?_
 ·rcases bft (decide (t_1.Id<(0:Int))) with zJ | zJ
  ·refine rg [(4,Hg),(5,Hg),(6,Hg),(7,Ht),(9,Hg),(10,Hg),(11,Hg),(12,Ht),(14,Hg),(15,Hg),(16,Hg),(17,Ht)] [1,20] [0] 1 [Pp 0,.bool true] [Vb 66 (z0 t_1)] zG (ac zJ (ac zJ (ac zJ (ac zJ (ax (ax (ax (ar true (ax (ax (ax (ar true an)))))))))))) ?_
   exact ⟨rfl,(sw [0] [] [.s 1,.a 20 (.bool (decide (t_1.Id<(0:Int))||(decide (t_1.Id>(1000000000000000:Int))||(decide (t_1.Domain<(0:Int))||decide (t_1.Domain≥(8:Int))))))] [.s 0] (ac (congrArg AV.bool (ort zJ):(.bool true:AV)=.bool (decide (t_1.Id<(0:Int))||(decide (t_1.Id>(1000000000000000:Int))||(decide (t_1.Domain<(0:Int))||decide (t_1.Domain≥(8:Int)))))) an))⟩
  ·rcases bft (decide (t_1.Id>(1000000000000000:Int))) with zI | zI
   ·refine rg [(7,Hf),(9,Hg),(10,Hg),(11,Hg),(12,Ht),(14,Hg),(15,Hg),(16,Hg),(17,Ht)] [1,20] [0] 1 [Pp 0,.bool true] [Vb 66 (z0 t_1)] zG (ac zJ (ac zJ (ac zJ (ac zJ (ac zI (ac zI (ac zI (ac zI (ax (ax (ax (ar true an)))))))))))) ?_
    exact ⟨rfl,(sw [0] [] [.s 1,.a 20 (.bool (decide (t_1.Id<(0:Int))||(decide (t_1.Id>(1000000000000000:Int))||(decide (t_1.Domain<(0:Int))||decide (t_1.Domain≥(8:Int))))))] [.s 0] (ac (congrArg AV.bool (orf zJ (ort zI)):(.bool true:AV)=.bool (decide (t_1.Id<(0:Int))||(decide (t_1.Id>(1000000000000000:Int))||(decide (t_1.Domain<(0:Int))||decide (t_1.Domain≥(8:Int)))))) an))⟩
   ·rcases bft (decide (t_1.Domain<(0:Int))) with zW | zW
    ·refine rg [(7,Hf),(12,Hf),(14,Hg),(15,Hg),(16,Hg),(17,Ht)] [1,20] [0] 1 [Pp 0,.bool true] [Vb 66 (z0 t_1)] zG (ac zJ (ac zJ (ac zJ (ac zJ (ac zI (ac zI (ac zI (ac zI (ac zW (ac zW (ac zW (ac zW an)))))))))))) ?_
     exact ⟨rfl,(sw [0] [] [.s 1,.a 20 (.bool (decide (t_1.Id<(0:Int))||(decide (t_1.Id>(1000000000000000:Int))||(decide (t_1.Domain<(0:Int))||decide (t_1.Domain≥(8:Int))))))] [.s 0] (ac (congrArg AV.bool (orf zJ (orf zI (ort zW))):(.bool true:AV)=.bool (decide (t_1.Id<(0:Int))||(decide (t_1.Id>(1000000000000000:Int))||(decide (t_1.Domain<(0:Int))||decide (t_1.Domain≥(8:Int)))))) an))⟩
    ·refine rg [(7,Hf),(12,Hf),(17,Hf)] [1,20] [0] 1 [Pp 0,.bool (decide (t_1.Domain≥(8:Int)))] [Vb 66 (z0 t_1)] zG (ac zJ (ac zJ (ac zJ (ac zJ (ac zI (ac zI (ac zI (ac zI (ac zW (ac zW (ac zW (ac zW an)))))))))))) ?_
     exact ⟨rfl,(sw [0] [] [.s 1,.a 20 (.bool (decide (t_1.Id<(0:Int))||(decide (t_1.Id>(1000000000000000:Int))||(decide (t_1.Domain<(0:Int))||decide (t_1.Domain≥(8:Int))))))] [.s 0] (ac (congrArg AV.bool (orf zJ (orf zI (orf zW rfl))):(.bool (decide (t_1.Domain≥(8:Int))):AV)=.bool (decide (t_1.Id<(0:Int))||(decide (t_1.Id>(1000000000000000:Int))||(decide (t_1.Domain<(0:Int))||decide (t_1.Domain≥(8:Int)))))) an))⟩
 refine cd 20 (decide (t_1.Id<(0:Int))||(decide (t_1.Id>(1000000000000000:Int))||(decide (t_1.Domain<(0:Int))||decide (t_1.Domain≥(8:Int))))) ?_ ?_
 ·intro g_1;replace h:=zV g_1 h
  refine sr [] [2] [] 1 [Ii 2] [] zG an ?_
  refine rt ?_
  cases h
  exact ⟨.inr rfl,Nat.le_of_ble_eq_true rfl,by kernel_rfl⟩
 intro g_1;replace h:=zU g_1 h
 refine sk ?_
 refine sq ?_
 obtain ⟨r_1,h_1,h⟩:=bind_some h
 refine rg [(2,{ av:=Ii r_1,l:=[.str t_1.Name] })] [2] [] 1 [Ii r_1] [] zG (ar ([.str t_1.Name]:List AV) (ac (rfl:([]:List zM)=[]) (ac (zAn F t_1.Name r_1 h_1:zX prog 64 [] [] [.str t_1.Name] [] (Ii r_1)) an))) ?_
 refine rt ?_
 cases h
 exact ⟨.inr rfl,Nat.le_of_ble_eq_true rfl,by kernel_rfl⟩

theorem zEm (x_1:zK) (a_1:Int) (r:Bool) (h:pR x_1 a_1=some r):zX prog 87 [(.var 3 [Ii a_1])] [] [zE x_1,Pp 0] [(.var 3 [Ii a_1])] (.bool r):=by
 refine yI (fn:=Go.Proofs.Try.f87) (code:=xQ Go.Proofs.Try.f87) (by kernel_rfl) (by kernel_rfl) (Nat.le_of_ble_eq_true (by kernel_rfl)) ?_
 unfold pR at h
 refine sr [(0,{ id:=1 })] [1,2] [0,1] 2 [Pp 0,Pp 1] [Vb 3 [Ii a_1],Vb 68 (vX x_1)] zG an ?_
 refine sr [] [3] [0] 2 [.bool (x_1.Id==a_1)] [Vb 3 [Ii a_1]] zG an ?_
 refine wk [0] [] [.s 3] [.s 0] [(3,.bool (x_1.Id==a_1))] [(0,Vb 3 [Ii a_1])] an ?_
 refine rt ?_
 cases h
 exact ⟨.inr rfl,Nat.le_of_ble_eq_true rfl,by kernel_rfl⟩

theorem uZ (F:Nat) (s_1:List (zK)) (c_1:Int) (r:Int) (h:xA F s_1 c_1=some r):zX prog 67 [(.var 3 [Ii c_1])] [] [.sl false 2 (Mp zE s_1),.fn 87 [Pp 0]] [(.var 3 [Ii c_1])] (Ii r):=by
 refine yI (fn:=Go.Proofs.Try.f67) (code:=xQ Go.Proofs.Try.f67) (by kernel_rfl) (by kernel_rfl) (Nat.le_of_ble_eq_true (by kernel_rfl)) ?_
 unfold xA at h
 refine sr [] [0,1] [0] 1 [.sl false 2 (Mp zE s_1),.fn 87 [Pp 0]] [Vb 3 [Ii c_1]] zG an ?_
 refine sq ?_
 refine sr [(1,{ n:=(s_1).length })] [0,1,7,8] [0] 1 [.sl false 2 (Mp zE s_1),.fn 87 [Pp 0],Ii (lN (s_1)),Ii 0] [Vb 3 [Ii c_1]] zG (ac (yG _:((Mp zE s_1)).length=(s_1).length) an) ?_
 obtain ⟨o_1,h_1,h⟩:=bind_some h
 refine uG (K1:=(fun e st'=>match o_1 with | (.inl q0)=>e=.normal∧Sub 1 st' (mk [] [(0,Vb 3 [Ii c_1])] 1) | (.inr q1)=>e=.ret∧kE prog Go.Proofs.Try.f67 1 [(.var 3 [Ii c_1])] (Ii q1) st')) ?_ ?_
 ·replace h:=h_1
  refine yZ (id:=0) (by kernel_rfl) ?_
  refine wk [0] [] [.s 0,.s 1,.s 7,.s 8] [.s 0] [(0,.sl false 2 (Mp zE s_1)),(1,.fn 87 [Pp 0]),(7,Ii (lN (s_1))),(8,Ii 0)] [(0,Vb 3 [Ii c_1])] an ?_
  refine wP (fun n st=>∃ (v_1:Int),st=mk [(0,.sl false 2 (Mp zE s_1)),(1,.fn 87 [Pp 0]),(7,Ii (lN (s_1))),(8,Ii v_1)] [(0,Vb 3 [Ii c_1])] 1∧y4 F s_1 c_1 n v_1=some o_1) F (by kernel_rfl) ⟨_,rfl,h⟩ ?_ ?_
  ·rintro _ ⟨_,_,h⟩;exact w8 (h:(none:Option (Unit⊕Int))=some o_1)
  rintro n_1 _ ⟨v_1,rfl,h⟩
  replace h:yM F s_1 c_1 (y4 F s_1 c_1 n_1) v_1=some o_1:=h
  unfold yM at h
  refine sr [] [0,1,7,8,9] [0] 1 [.sl false 2 (Mp zE s_1),.fn 87 [Pp 0],Ii (lN (s_1)),Ii v_1,.bool (decide (v_1<(lN (s_1))))] [Vb 3 [Ii c_1]] zG an ?_
  refine sq ?_
  refine cd 9 (decide (v_1<(lN (s_1)))) ?_ ?_
  rotate_left
  ·intro g_1;replace h:=zU g_1 h
   refine w4 (id:=0) (by kernel_rfl) ?_
   cases h
   exact ⟨rfl,(sw [0] [] [] [.s 0] an)⟩
  intro g_1;replace h:=zV g_1 h
  refine sk ?_
  refine sq ?_
  refine yZ (id:=1) (by kernel_rfl) ?_
  refine sr [] [0,1,5,7,8] [0] 1 [.sl false 2 (Mp zE s_1),.fn 87 [Pp 0],Ii v_1,Ii (lN (s_1)),Ii v_1] [Vb 3 [Ii c_1]] zG an ?_
  refine sq ?_
  obtain ⟨x_1,h_2,h⟩:=bind_some h
  obtain ⟨r_1,h_3,h⟩:=bind_some h
  refine rg [(3,{ av:=zE x_1 }),(5,{ av:=.bool r_1,ids:=[0],l:=[zE x_1,Pp 0],post:=[(.var 3 [Ii c_1])],pre:=[(.var 3 [Ii c_1])] })] [0,1,5,7,8,16] [0] 1 [.sl false 2 (Mp zE s_1),.fn 87 [Pp 0],Ii v_1,Ii (lN (s_1)),Ii v_1,.bool r_1] [Vb 3 [Ii c_1]] zG (ac (wA h_2:wX (Mp zE s_1) v_1=some (zE x_1)) (ar ([zE x_1,Pp 0]:List AV) (ac (rfl:([Vb 3 [Ii c_1]]:List zM)=[Vb 3 [Ii c_1]]) (ac (zEm x_1 c_1 r_1 h_3:zX prog 87 [(.var 3 [Ii c_1])] [] [zE x_1,Pp 0] [(.var 3 [Ii c_1])] (.bool r_1)) an)))) ?_
  refine cd 16 r_1 ?_ ?_
  rotate_left
  ·intro g_2;replace h:=zU g_2 h
   refine sk ?_
   refine rg [] [0,1,7,8] [0] 1 [.sl false 2 (Mp zE s_1),.fn 87 [Pp 0],Ii (lN (s_1)),Ii (zP (v_1+(1:Int)))] [Vb 3 [Ii c_1]] zG an ?_
   exact ⟨_,(sw [0] [] [.s 0,.s 1,.s 7,.s 8] [.s 0] an),_,rfl,h⟩
  intro g_2;replace h:=zV g_2 h
  refine sr [] [4] [0] 1 [Ii v_1] [Vb 3 [Ii c_1]] zG an ?_
  refine wk [0] [] [.s 4] [.s 0] [(4,Ii v_1)] [(0,Vb 3 [Ii c_1])] an ?_
  refine rt ?_
  cases h
  exact ⟨rfl,Nat.le_of_ble_eq_true rfl,by kernel_rfl⟩
 intro e st1 hk
 rcases o_1 with q_1 | q_2
 rotate_left
 ·obtain ⟨rfl,hf⟩:=hk
  cases h
  exact ⟨st1,Sub.refl _ _,.inr rfl,hf⟩
 obtain ⟨rfl,hs⟩:=hk
 refine ⟨_,hs,?_⟩
 refine sr [] [4] [0] 1 [Ii (-1)] [Vb 3 [Ii c_1]] zG an ?_
 refine wk [0] [] [.s 4] [.s 0] [(4,Ii (-1))] [(0,Vb 3 [Ii c_1])] an ?_
 refine rt ?_
 cases h
 exact ⟨.inr rfl,Nat.le_of_ble_eq_true rfl,by kernel_rfl⟩

theorem zAu (F:Nat) (d_1:List (zK)) (xM:Int) (r:Int) (h:qX F d_1 xM=some r):zX prog 76 [] [] [.sl false 2 (Mp zE d_1),Ii xM] [] (Ii r):=by
 refine yI (fn:=Go.Proofs.Try.f76) (code:=xQ Go.Proofs.Try.f76) (by kernel_rfl) (by kernel_rfl) (Nat.le_of_ble_eq_true (by kernel_rfl)) ?_
 unfold qX at h
 refine sr [(0,{ id:=0 })] [0,3] [0] 1 [.sl false 2 (Mp zE d_1),Pp 0] [Vb 3 [Ii xM]] zG an ?_
 refine sq ?_
 obtain ⟨r_1,h_1,h⟩:=bind_some h
 refine rg [(2,{ av:=Ii r_1,ids:=[0],l:=[.sl false 2 (Mp zE d_1),.fn 87 [Pp 0]],post:=[(.var 3 [Ii xM])],pre:=[(.var 3 [Ii xM])] })] [4] [] 1 [Ii r_1] [] zG (ar ([.sl false 2 (Mp zE d_1),.fn 87 [Pp 0]]:List AV) (ac (rfl:([Vb 3 [Ii xM]]:List zM)=[Vb 3 [Ii xM]]) (ac (uZ F d_1 xM r_1 h_1:zX prog 67 [(.var 3 [Ii xM])] [] [.sl false 2 (Mp zE d_1),.fn 87 [Pp 0]] [(.var 3 [Ii xM])] (Ii r_1)) an))) ?_
 refine rt ?_
 cases h
 exact ⟨.inr rfl,Nat.le_of_ble_eq_true rfl,by kernel_rfl⟩

theorem zEw (F:Nat) (d_1:List (zK)) (r:Int) (h:j9 F d_1=some r):zX prog 65 [] [] [.sl false 2 (Mp zE d_1)] [] (Ii r):=by
 refine yI (fn:=Go.Proofs.Try.f65) (code:=xQ Go.Proofs.Try.f65) (by kernel_rfl) (by kernel_rfl) (Nat.le_of_ble_eq_true (by kernel_rfl)) ?_
 unfold j9 at h
 refine sr [] [0] [] 0 [.sl false 2 (Mp zE d_1)] [] zG an ?_
 refine sq ?_
 refine sr [(1,{ n:=(d_1).length })] [0,5,6,7] [] 0 [.sl false 2 (Mp zE d_1),.sl false 2 (Mp zE d_1),Ii (lN (d_1)),Ii 0] [] zG (ac (yG _:((Mp zE d_1)).length=(d_1).length) an) ?_
 obtain ⟨o_1,h_1,h⟩:=bind_some h
 refine uG (K1:=(fun e st'=>match o_1 with | (.inl q0)=>e=.normal∧Sub 0 st' (mk [] [] 0) | (.inr q1)=>e=.ret∧kE prog Go.Proofs.Try.f65 0 [] (Ii q1) st')) ?_ ?_
 ·replace h:=h_1
  refine yZ (id:=0) (by kernel_rfl) ?_
  refine wk [] [] [.s 0,.s 5,.s 6,.s 7] [] [(0,.sl false 2 (Mp zE d_1)),(5,.sl false 2 (Mp zE d_1)),(6,Ii (lN (d_1))),(7,Ii 0)] [] an ?_
  refine wP (fun n st=>∃ (v_1:Int),st=mk [(0,.sl false 2 (Mp zE d_1)),(5,.sl false 2 (Mp zE d_1)),(6,Ii (lN (d_1))),(7,Ii v_1)] [] 0∧qC F d_1 n v_1=some o_1) F (by kernel_rfl) ⟨_,rfl,h⟩ ?_ ?_
  ·rintro _ ⟨_,_,h⟩;exact w8 (h:(none:Option (Unit⊕Int))=some o_1)
  rintro n_1 _ ⟨v_1,rfl,h⟩
  replace h:vN F d_1 (qC F d_1 n_1) v_1=some o_1:=h
  unfold vN at h
  refine sr [] [0,5,6,7,8] [] 0 [.sl false 2 (Mp zE d_1),.sl false 2 (Mp zE d_1),Ii (lN (d_1)),Ii v_1,.bool (decide (v_1<(lN (d_1))))] [] zG an ?_
  refine sq ?_
  refine cd 8 (decide (v_1<(lN (d_1)))) ?_ ?_
  rotate_left
  ·intro g_1;replace h:=zU g_1 h
   refine w4 (id:=0) (by kernel_rfl) ?_
   cases h
   exact ⟨rfl,(sw [] [] [] [] an)⟩
  intro g_1;replace h:=zV g_1 h
  refine sk ?_
  refine sq ?_
  refine yZ (id:=1) (by kernel_rfl) ?_
  refine sq ?_
  obtain ⟨x_1,h_2,h⟩:=bind_some h
  refine rg [(1,{ av:=zE x_1 }),(3,{ id:=0 })] [0,3,4,5,6,7] [0] 1 [.sl false 2 (Mp zE d_1),Ii v_1,Pp 0,.sl false 2 (Mp zE d_1),Ii (lN (d_1)),Ii v_1] [Vb 68 (vX x_1)] zG (ac (wA h_2:wX (Mp zE d_1) v_1=some (zE x_1)) an) ?_
  refine sq ?_
  refine sq ?_
  refine wI (mk [(0,.sl false 2 (Mp zE d_1)),(3,Ii v_1),(4,Pp 0),(5,.sl false 2 (Mp zE d_1)),(6,Ii (lN (d_1))),(7,Ii v_1),(29,.bool (decide (x_1.Id<(0:Int))||(decide (x_1.Id≥(8:Int))||(decide (x_1.Ppm<(0:Int))||decide (x_1.Ppm>(10000:Int))))))] [(0,Vb 68 (vX x_1))] 1) ?_ ?_
  ·rcases bft (decide (x_1.Id<(0:Int))) with xO | xO
   ·refine rg [(4,Hg),(5,Hg),(6,Hg),(7,Ht),(9,Hg),(10,Hg),(11,Hg),(12,Ht),(14,Hg),(15,Hg),(16,Hg),(17,Ht)] [0,3,4,5,6,7,16,17,18,21,22,23,26,27,28,29] [0] 1 [.sl false 2 (Mp zE d_1),Ii v_1,Pp 0,.sl false 2 (Mp zE d_1),Ii (lN (d_1)),Ii v_1,.tuple [],.tuple [],.tuple [],.tuple [],.tuple [],.tuple [],.tuple [],.tuple [],.tuple [],.bool true] [Vb 68 (vX x_1)] zG (ac xO (ac xO (ac xO (ac xO (ax (ax (ax (ar true (ax (ax (ax (ar true an)))))))))))) ?_
    exact ⟨rfl,(sw [0] [] [.s 0,.s 3,.s 4,.s 5,.s 6,.s 7,.a 29 (.bool (decide (x_1.Id<(0:Int))||(decide (x_1.Id≥(8:Int))||(decide (x_1.Ppm<(0:Int))||decide (x_1.Ppm>(10000:Int))))))] [.s 0] (ac (congrArg AV.bool (ort xO):(.bool true:AV)=.bool (decide (x_1.Id<(0:Int))||(decide (x_1.Id≥(8:Int))||(decide (x_1.Ppm<(0:Int))||decide (x_1.Ppm>(10000:Int)))))) an))⟩
   ·rcases bft (decide (x_1.Id≥(8:Int))) with x8 | x8
    ·refine rg [(7,Hf),(9,Hg),(10,Hg),(11,Hg),(12,Ht),(14,Hg),(15,Hg),(16,Hg),(17,Ht)] [0,3,4,5,6,7,16,17,18,21,22,23,26,27,28,29] [0] 1 [.sl false 2 (Mp zE d_1),Ii v_1,Pp 0,.sl false 2 (Mp zE d_1),Ii (lN (d_1)),Ii v_1,Pp 0,Ii x_1.Id,.bool (decide (x_1.Id≥(8:Int))),.tuple [],.tuple [],.tuple [],.tuple [],.tuple [],.tuple [],.bool true] [Vb 68 (vX x_1)] zG (ac xO (ac xO (ac xO (ac xO (ac x8 (ac x8 (ac x8 (ac x8 (ax (ax (ax (ar true an)))))))))))) ?_
     exact ⟨rfl,(sw [0] [] [.s 0,.s 3,.s 4,.s 5,.s 6,.s 7,.a 29 (.bool (decide (x_1.Id<(0:Int))||(decide (x_1.Id≥(8:Int))||(decide (x_1.Ppm<(0:Int))||decide (x_1.Ppm>(10000:Int))))))] [.s 0] (ac (congrArg AV.bool (orf xO (ort x8)):(.bool true:AV)=.bool (decide (x_1.Id<(0:Int))||(decide (x_1.Id≥(8:Int))||(decide (x_1.Ppm<(0:Int))||decide (x_1.Ppm>(10000:Int)))))) an))⟩
    ·rcases bft (decide (x_1.Ppm<(0:Int))) with wK | wK
     ·refine rg [(7,Hf),(12,Hf),(14,Hg),(15,Hg),(16,Hg),(17,Ht)] [0,3,4,5,6,7,16,17,18,21,22,23,26,27,28,29] [0] 1 [.sl false 2 (Mp zE d_1),Ii v_1,Pp 0,.sl false 2 (Mp zE d_1),Ii (lN (d_1)),Ii v_1,Pp 0,Ii x_1.Id,.bool (decide (x_1.Id≥(8:Int))),.ptr 0 0 0 1,Ii x_1.Ppm,.bool (decide (x_1.Ppm<(0:Int))),.tuple [],.tuple [],.tuple [],.bool true] [Vb 68 (vX x_1)] zG (ac xO (ac xO (ac xO (ac xO (ac x8 (ac x8 (ac x8 (ac x8 (ac wK (ac wK (ac wK (ac wK an)))))))))))) ?_
      exact ⟨rfl,(sw [0] [] [.s 0,.s 3,.s 4,.s 5,.s 6,.s 7,.a 29 (.bool (decide (x_1.Id<(0:Int))||(decide (x_1.Id≥(8:Int))||(decide (x_1.Ppm<(0:Int))||decide (x_1.Ppm>(10000:Int))))))] [.s 0] (ac (congrArg AV.bool (orf xO (orf x8 (ort wK))):(.bool true:AV)=.bool (decide (x_1.Id<(0:Int))||(decide (x_1.Id≥(8:Int))||(decide (x_1.Ppm<(0:Int))||decide (x_1.Ppm>(10000:Int)))))) an))⟩
     ·refine rg [(7,Hf),(12,Hf),(17,Hf)] [0,3,4,5,6,7,16,17,18,21,22,23,26,27,28,29] [0] 1 [.sl false 2 (Mp zE d_1),Ii v_1,Pp 0,.sl false 2 (Mp zE d_1),Ii (lN (d_1)),Ii v_1,Pp 0,Ii x_1.Id,.bool (decide (x_1.Id≥(8:Int))),.ptr 0 0 0 1,Ii x_1.Ppm,.bool (decide (x_1.Ppm<(0:Int))),.ptr 0 0 0 1,Ii x_1.Ppm,.bool (decide (x_1.Ppm>(10000:Int))),.bool (decide (x_1.Ppm>(10000:Int)))] [Vb 68 (vX x_1)] zG (ac xO (ac xO (ac xO (ac xO (ac x8 (ac x8 (ac x8 (ac x8 (ac wK (ac wK (ac wK (ac wK an)))))))))))) ?_
      exact ⟨rfl,(sw [0] [] [.s 0,.s 3,.s 4,.s 5,.s 6,.s 7,.a 29 (.bool (decide (x_1.Id<(0:Int))||(decide (x_1.Id≥(8:Int))||(decide (x_1.Ppm<(0:Int))||decide (x_1.Ppm>(10000:Int))))))] [.s 0] (ac (congrArg AV.bool (orf xO (orf x8 (orf wK rfl))):(.bool (decide (x_1.Ppm>(10000:Int))):AV)=.bool (decide (x_1.Id<(0:Int))||(decide (x_1.Id≥(8:Int))||(decide (x_1.Ppm<(0:Int))||decide (x_1.Ppm>(10000:Int)))))) an))⟩
  refine cd 29 (decide (x_1.Id<(0:Int))||(decide (x_1.Id≥(8:Int))||(decide (x_1.Ppm<(0:Int))||decide (x_1.Ppm>(10000:Int))))) ?_ ?_
  ·intro g_2;replace h:=zV g_2 h
   refine sr [] [2] [] 1 [Ii 2] [] zG an ?_
   refine rt ?_
   cases h
   exact ⟨rfl,Nat.le_of_ble_eq_true rfl,by kernel_rfl⟩
  intro g_2;replace h:=zU g_2 h
  refine sk ?_
  refine sq ?_
  obtain ⟨_,h_3,h⟩:=bind_some h;replace h_3:=wM h_3
  obtain ⟨r_1,h_4,h⟩:=bind_some h
  refine rg [(2,{ l:=(Mp zE (sub d_1 (0:Int) v_1)) }),(5,{ av:=Ii r_1,l:=[.sl false 2 (Mp zE (sub d_1 (0:Int) v_1)),Ii x_1.Id] })] [0,5,6,7,36] [] 1 [.sl false 2 (Mp zE d_1),.sl false 2 (Mp zE d_1),Ii (lN (d_1)),Ii v_1,.bool (decide (r_1≥(0:Int)))] [] zG (ac (by decide:(0:Int)≤(0:Int)) (ac h_3.1 (ac (zBz h_3.2:v_1≤(lN ((Mp zE d_1)))) (ac (zHk _ _ _:(Mp zE (sub d_1 (0:Int) v_1))=(((Mp zE d_1)).take (v_1).toNat).drop ((0:Int)).toNat) (ar ([.sl false 2 (Mp zE (sub d_1 (0:Int) v_1)),Ii x_1.Id]:List AV) (ac (rfl:([]:List zM)=[]) (ac (zAu F (sub d_1 (0:Int) v_1) x_1.Id r_1 h_4:zX prog 76 [] [] [.sl false 2 (Mp zE (sub d_1 (0:Int) v_1)),Ii x_1.Id] [] (Ii r_1)) an))))))) ?_
  refine cd 36 (decide (r_1≥(0:Int))) ?_ ?_
  rotate_left
  ·intro g_3;replace h:=zU g_3 h
   refine sk ?_
   refine rg [] [0,5,6,7] [] 1 [.sl false 2 (Mp zE d_1),.sl false 2 (Mp zE d_1),Ii (lN (d_1)),Ii (zP (v_1+(1:Int)))] [] zG an ?_
   exact ⟨_,(sw [] [] [.s 0,.s 5,.s 6,.s 7] [] an),_,rfl,h⟩
  intro g_3;replace h:=zV g_3 h
  refine sr [] [2] [] 1 [Ii 4] [] zG an ?_
  refine rt ?_
  cases h
  exact ⟨rfl,Nat.le_of_ble_eq_true rfl,by kernel_rfl⟩
 intro e st1 hk
 rcases o_1 with q_1 | q_2
 rotate_left
 ·obtain ⟨rfl,hf⟩:=hk
  cases h
  exact ⟨st1,Sub.refl _ _,.inr rfl,hf⟩
 obtain ⟨rfl,hs⟩:=hk
 refine ⟨_,hs,?_⟩
 refine sr [] [2] [] 0 [Ii 0] [] zG an ?_
 refine rt ?_
 cases h
 exact ⟨.inr rfl,Nat.le_of_ble_eq_true rfl,by kernel_rfl⟩

theorem pU (n_1:Int) (r:Bool) (h:qJ n_1=some r):zX prog 77 [] [] [Ii n_1] [] (.bool r):=by
 refine yI (fn:=Go.Proofs.Try.f77) (code:=xQ Go.Proofs.Try.f77) (by kernel_rfl) (by kernel_rfl) (Nat.le_of_ble_eq_true (by kernel_rfl)) ?_
 unfold qJ at h
 refine sr [] [0] [] 0 [Ii n_1] [] zG an ?_
 refine sq ?_
 refine wI (mk [(2,.bool (decide (n_1≥(0:Int))&&decide (n_1≤(1000000000000:Int))))] [] 0) ?_ ?_
 ·rcases bft (decide (n_1≥(0:Int))) with zJ | zJ
  ·refine rg [(5,Ht)] [2] [] 0 [.bool (decide (n_1≤(1000000000000:Int)))] [] zG (ac zJ (ac zJ (ac zJ an))) ?_
   exact ⟨rfl,(sw [] [] [.a 2 (.bool (decide (n_1≥(0:Int))&&decide (n_1≤(1000000000000:Int))))] [] (ac (congrArg AV.bool (tQ zJ rfl):(.bool (decide (n_1≤(1000000000000:Int))):AV)=.bool (decide (n_1≥(0:Int))&&decide (n_1≤(1000000000000:Int)))) an))⟩
  ·refine rg [(3,Hg),(4,Hg),(5,Hf)] [2] [] 0 [.bool false] [] zG (ac zJ (ac zJ (ac zJ an))) ?_
   exact ⟨rfl,(sw [] [] [.a 2 (.bool (decide (n_1≥(0:Int))&&decide (n_1≤(1000000000000:Int))))] [] (ac (congrArg AV.bool (zAR zJ):(.bool false:AV)=.bool (decide (n_1≥(0:Int))&&decide (n_1≤(1000000000000:Int)))) an))⟩
 refine rt ?_
 cases h
 exact ⟨.inr rfl,Nat.le_of_ble_eq_true rfl,by kernel_rfl⟩

theorem zGV (F:Nat) (d_1:List (zK)) (x_1:xY) (r:Int) (h:nU F d_1 x_1=some r):zX prog 66 [] [] [.sl false 2 (Mp zE d_1),zN x_1] [] (Ii r):=by
 refine yI (fn:=Go.Proofs.Try.f66) (code:=xQ Go.Proofs.Try.f66) (by kernel_rfl) (by kernel_rfl) (Nat.le_of_ble_eq_true (by kernel_rfl)) ?_
 unfold nU at h
 refine sr [(0,{ id:=0 })] [0,3] [0] 1 [.sl false 2 (Mp zE d_1),Pp 0] [Vb 86 (uB x_1)] zG an ?_
 refine sq ?_
 refine yZ (id:=0) (by kernel_rfl) ?_
 refine sq ?_
 refine sq ?_
 obtain ⟨r_1,h_1,h⟩:=bind_some h
 refine rg [(3,{ av:=Ii r_1,l:=[.sl false 2 (Mp zE d_1),Ii x_1.A] })] [0,3,5] [0] 1 [.sl false 2 (Mp zE d_1),Pp 0,.bool (decide (r_1<(0:Int)))] [Vb 86 (uB x_1)] zG (ar ([.sl false 2 (Mp zE d_1),Ii x_1.A]:List AV) (ac (rfl:([]:List zM)=[]) (ac (zAu F d_1 x_1.A r_1 h_1:zX prog 76 [] [] [.sl false 2 (Mp zE d_1),Ii x_1.A] [] (Ii r_1)) an))) ?_
 obtain ⟨o_1,h_2,h⟩:=bind_some h
 refine wI (mk [(3,Pp 0),(5,.bool o_1)] [(0,Vb 86 (uB x_1))] 1) ?_ ?_
 ·replace h:=h_2
  refine cd 5 (decide (r_1<(0:Int))) ?_ ?_
  ·intro g_1;replace h:=zV g_1 h
   refine sk ?_
   cases h
   exact ⟨rfl,(sw [0] [] [.s 3,.s 5] [.s 0] an)⟩
  intro g_1;replace h:=zU g_1 h
  obtain ⟨r_2,h_3,h⟩:=bind_some h
  refine rg [(3,{ av:=Ii r_2,l:=[.sl false 2 (Mp zE d_1),Ii x_1.B] })] [3,5] [0] 1 [Pp 0,.bool (decide (r_2<(0:Int)))] [Vb 86 (uB x_1)] zG (ar ([.sl false 2 (Mp zE d_1),Ii x_1.B]:List AV) (ac (rfl:([]:List zM)=[]) (ac (zAu F d_1 x_1.B r_2 h_3:zX prog 76 [] [] [.sl false 2 (Mp zE d_1),Ii x_1.B] [] (Ii r_2)) an))) ?_
  cases h
  exact ⟨rfl,(sw [0] [] [.s 3,.s 5] [.s 0] an)⟩
 refine cd 5 o_1 ?_ ?_
 ·intro g_2;replace h:=zV g_2 h
  refine sr [] [4] [] 1 [Ii 5] [] zG an ?_
  refine rt ?_
  cases h
  exact ⟨.inr rfl,Nat.le_of_ble_eq_true rfl,by kernel_rfl⟩
 intro g_2;replace h:=zU g_2 h
 refine sr [] [3,16] [0] 1 [Pp 0,.bool (x_1.A==x_1.B)] [Vb 86 (uB x_1)] zG an ?_
 refine cd 16 (x_1.A==x_1.B) ?_ ?_
 ·intro g_3;replace h:=zV g_3 h
  refine sr [] [4] [] 1 [Ii 1] [] zG an ?_
  refine rt ?_
  cases h
  exact ⟨.inr rfl,Nat.le_of_ble_eq_true rfl,by kernel_rfl⟩
 intro g_3;replace h:=zU g_3 h
 refine sq ?_
 refine sq ?_
 obtain ⟨r_3,h_4,h⟩:=bind_some h
 refine rg [(2,{ av:=.bool r_3,l:=[Ii x_1.AtA] })] [3,22] [0] 1 [Pp 0,.bool (!r_3)] [Vb 86 (uB x_1)] zG (ar ([Ii x_1.AtA]:List AV) (ac (rfl:([]:List zM)=[]) (ac (pU x_1.AtA r_3 h_4:zX prog 77 [] [] [Ii x_1.AtA] [] (.bool r_3)) an))) ?_
 refine cd 22 (!r_3) ?_ ?_
 ·intro g_4;replace h:=zV g_4 h
  refine sk ?_
  refine cd 22 (!r_3) ?_ ?_
  rotate_left
  ·intro hg;exact Bool.noConfusion ((g_4).symm.trans hg)
  intro _
  refine sr [] [4] [] 1 [Ii 2] [] zG an ?_
  refine rt ?_
  cases h
  exact ⟨.inr rfl,Nat.le_of_ble_eq_true rfl,by kernel_rfl⟩
 intro g_4;replace h:=zU g_4 h
 refine sq ?_
 obtain ⟨r_4,h_5,h⟩:=bind_some h
 refine rg [(3,{ av:=.bool r_4,l:=[Ii x_1.AtB.Lo] })] [3,22] [0] 1 [Pp 0,.bool (!r_4)] [Vb 86 (uB x_1)] zG (ar ([Ii x_1.AtB.Lo]:List AV) (ac (rfl:([]:List zM)=[]) (ac (pU x_1.AtB.Lo r_4 h_5:zX prog 77 [] [] [Ii x_1.AtB.Lo] [] (.bool r_4)) an))) ?_
 refine cd 22 (!r_4) ?_ ?_
 ·intro g_5;replace h:=zV g_5 h
  refine sk ?_
  refine cd 22 (!r_4) ?_ ?_
  rotate_left
  ·intro hg;exact Bool.noConfusion ((g_5).symm.trans hg)
  intro _
  refine sr [] [4] [] 1 [Ii 2] [] zG an ?_
  refine rt ?_
  cases h
  exact ⟨.inr rfl,Nat.le_of_ble_eq_true rfl,by kernel_rfl⟩
 intro g_5;replace h:=zU g_5 h
 refine sq ?_
 obtain ⟨r_5,h_6,h⟩:=bind_some h
 refine rg [(3,{ av:=.bool r_5,l:=[Ii x_1.AtB.Hi] })] [3,22] [0] 1 [Pp 0,.bool (!r_5)] [Vb 86 (uB x_1)] zG (ar ([Ii x_1.AtB.Hi]:List AV) (ac (rfl:([]:List zM)=[]) (ac (pU x_1.AtB.Hi r_5 h_6:zX prog 77 [] [] [Ii x_1.AtB.Hi] [] (.bool r_5)) an))) ?_
 refine cd 22 (!r_5) ?_ ?_
 ·intro g_6;replace h:=zV g_6 h
  refine sk ?_
  refine cd 22 (!r_5) ?_ ?_
  rotate_left
  ·intro hg;exact Bool.noConfusion ((g_6).symm.trans hg)
  intro _
  refine sr [] [4] [] 1 [Ii 2] [] zG an ?_
  refine rt ?_
  cases h
  exact ⟨.inr rfl,Nat.le_of_ble_eq_true rfl,by kernel_rfl⟩
 intro g_6;replace h:=zU g_6 h
 refine rg [] [22] [] 1 [.bool (decide (x_1.AtB.Lo>x_1.AtB.Hi))] [] zG an ?_
 refine cd 22 (decide (x_1.AtB.Lo>x_1.AtB.Hi)) ?_ ?_
 ·intro g_7;replace h:=zV g_7 h
  refine sr [] [4] [] 1 [Ii 2] [] zG an ?_
  refine rt ?_
  cases h
  exact ⟨.inr rfl,Nat.le_of_ble_eq_true rfl,by kernel_rfl⟩
 intro g_7;replace h:=zU g_7 h
 refine sk ?_
 refine sr [] [4] [] 1 [Ii 0] [] zG an ?_
 refine rt ?_
 cases h
 exact ⟨.inr rfl,Nat.le_of_ble_eq_true rfl,by kernel_rfl⟩

theorem zFX (F:Nat) (d_1:List (zK)) (l_1:List (xY)) (r:Int) (h:pN F d_1 l_1=some r):zX prog 48 [] [] [.sl false 2 (Mp zE d_1),.sl false 5 (Mp zN l_1)] [] (Ii r):=by
 refine yI (fn:=Go.Proofs.Try.f48) (code:=xQ Go.Proofs.Try.f48) (by kernel_rfl) (by kernel_rfl) (Nat.le_of_ble_eq_true (by kernel_rfl)) ?_
 unfold pN at h
 refine sr [] [0,1] [] 0 [.sl false 2 (Mp zE d_1),.sl false 5 (Mp zN l_1)] [] zG an ?_
 refine sq ?_
 refine sr [(1,{ n:=(d_1).length })] [0,1,11] [] 0 [.sl false 2 (Mp zE d_1),.sl false 5 (Mp zN l_1),.bool ((lN (d_1))==(0:Int))] [] zG (ac (yG _:((Mp zE d_1)).length=(d_1).length) an) ?_
 refine cd 11 ((lN (d_1))==(0:Int)) ?_ ?_
 ·intro g_1;replace h:=zV g_1 h
  refine sr [] [4] [] 0 [Ii 8] [] zG an ?_
  refine rt ?_
  cases h
  exact ⟨.inr rfl,Nat.le_of_ble_eq_true rfl,by kernel_rfl⟩
 intro g_1;replace h:=zU g_1 h
 refine sk ?_
 refine sq ?_
 refine sq ?_
 refine wI (mk [(0,.sl false 2 (Mp zE d_1)),(1,.sl false 5 (Mp zN l_1)),(19,.bool (decide ((lN (d_1))>(8:Int))||decide ((lN (l_1))>(200:Int))))] [] 0) ?_ ?_
 ·rcases bft (decide ((lN (d_1))>(8:Int))) with zJ | zJ
  ·refine rg [(1,{ n:=(d_1).length }),(4,Hg),(5,Hg),(6,Hg),(7,Ht)] [0,1,19] [] 0 [.sl false 2 (Mp zE d_1),.sl false 5 (Mp zN l_1),.bool true] [] zG (ac (yG _:((Mp zE d_1)).length=(d_1).length) (ac zJ (ac zJ (ac zJ (ac zJ an))))) ?_
   exact ⟨rfl,(sw [] [] [.s 0,.s 1,.a 19 (.bool (decide ((lN (d_1))>(8:Int))||decide ((lN (l_1))>(200:Int))))] [] (ac (congrArg AV.bool (ort zJ):(.bool true:AV)=.bool (decide ((lN (d_1))>(8:Int))||decide ((lN (l_1))>(200:Int)))) an))⟩
  ·refine rg [(1,{ n:=(d_1).length }),(5,{ n:=(l_1).length }),(7,Hf)] [0,1,19] [] 0 [.sl false 2 (Mp zE d_1),.sl false 5 (Mp zN l_1),.bool (decide ((lN (l_1))>(200:Int)))] [] zG (ac (yG _:((Mp zE d_1)).length=(d_1).length) (ac zJ (ac zJ (ac (yG _:((Mp zN l_1)).length=(l_1).length) (ac zJ (ac zJ an)))))) ?_
   exact ⟨rfl,(sw [] [] [.s 0,.s 1,.a 19 (.bool (decide ((lN (d_1))>(8:Int))||decide ((lN (l_1))>(200:Int))))] [] (ac (congrArg AV.bool (orf zJ rfl):(.bool (decide ((lN (l_1))>(200:Int))):AV)=.bool (decide ((lN (d_1))>(8:Int))||decide ((lN (l_1))>(200:Int)))) an))⟩
 refine cd 19 (decide ((lN (d_1))>(8:Int))||decide ((lN (l_1))>(200:Int))) ?_ ?_
 ·intro g_2;replace h:=zV g_2 h
  refine sr [] [4] [] 0 [Ii 7] [] zG an ?_
  refine rt ?_
  cases h
  exact ⟨.inr rfl,Nat.le_of_ble_eq_true rfl,by kernel_rfl⟩
 intro g_2;replace h:=zU g_2 h
 refine sk ?_
 refine sq ?_
 refine sq ?_
 obtain ⟨x_1,h_1,h⟩:=bind_some h
 refine rg [(1,{ av:=zE x_1 }),(4,{ b:=(decide (x_1=(⟨(0:Int),(0:Int)⟩:zK))),mks:=[.int .i64,.int .i64] })] [0,1,24] [] 0 [.sl false 2 (Mp zE d_1),.sl false 5 (Mp zN l_1),.bool (!(decide (x_1=(⟨(0:Int),(0:Int)⟩:zK))))] [] zG (ac (wA h_1:wX (Mp zE d_1) (0:Int)=some (zE x_1)) (ac (zIX:jU prog 68 [.int .i64,.int .i64]) (ac (nQ (f:=zE) zBp x_1 (⟨(0:Int),(0:Int)⟩:zK):((decide (x_1=(⟨(0:Int),(0:Int)⟩:zK)))=true↔AV.agg [Ii x_1.Id,Ii x_1.Ppm]=AV.agg [Ii 0,Ii 0])) an))) ?_
 refine cd 24 (!(decide (x_1=(⟨(0:Int),(0:Int)⟩:zK)))) ?_ ?_
 ·intro g_3;replace h:=zV g_3 h
  refine sr [] [4] [] 0 [Ii 10] [] zG an ?_
  refine rt ?_
  cases h
  exact ⟨.inr rfl,Nat.le_of_ble_eq_true rfl,by kernel_rfl⟩
 intro g_3;replace h:=zU g_3 h
 refine sk ?_
 refine sq ?_
 refine sq ?_
 obtain ⟨r_1,h_2,h⟩:=bind_some h
 refine rg [(1,{ av:=Ii r_1,l:=[.sl false 2 (Mp zE d_1)] })] [0,1,5] [] 0 [.sl false 2 (Mp zE d_1),.sl false 5 (Mp zN l_1),Ii r_1] [] zG (ar ([.sl false 2 (Mp zE d_1)]:List AV) (ac (rfl:([]:List zM)=[]) (ac (zEw F d_1 r_1 h_2:zX prog 65 [] [] [.sl false 2 (Mp zE d_1)] [] (Ii r_1)) an))) ?_
 refine sr [] [0,1,5,28] [] 0 [.sl false 2 (Mp zE d_1),.sl false 5 (Mp zN l_1),Ii r_1,.bool (r_1 != (0:Int))] [] zG an ?_
 refine cd 28 (r_1 != (0:Int)) ?_ ?_
 ·intro g_4;replace h:=zV g_4 h
  refine sr [] [4] [] 0 [Ii r_1] [] zG an ?_
  refine rt ?_
  cases h
  exact ⟨.inr rfl,Nat.le_of_ble_eq_true rfl,by kernel_rfl⟩
 intro g_4;replace h:=zU g_4 h
 refine sk ?_
 refine sq ?_
 refine sr [(1,{ n:=(l_1).length })] [0,30,31,32] [] 0 [.sl false 2 (Mp zE d_1),.sl false 5 (Mp zN l_1),Ii (lN (l_1)),Ii 0] [] zG (ac (yG _:((Mp zN l_1)).length=(l_1).length) an) ?_
 obtain ⟨o_1,h_3,h⟩:=bind_some h
 refine uG (K1:=(fun e st'=>match o_1 with | (.inl q0)=>e=.normal∧Sub 0 st' (mk [] [] 0) | (.inr q1)=>e=.ret∧kE prog Go.Proofs.Try.f48 0 [] (Ii q1) st')) ?_ ?_
 ·replace h:=h_3
  refine yZ (id:=0) (by kernel_rfl) ?_
  refine wk [] [] [.s 0,.s 30,.s 31,.s 32] [] [(0,.sl false 2 (Mp zE d_1)),(30,.sl false 5 (Mp zN l_1)),(31,Ii (lN (l_1))),(32,Ii 0)] [] an ?_
  refine wP (fun n st=>∃ (v_1:Int),st=mk [(0,.sl false 2 (Mp zE d_1)),(30,.sl false 5 (Mp zN l_1)),(31,Ii (lN (l_1))),(32,Ii v_1)] [] 0∧jF F d_1 l_1 n v_1=some o_1) F (by kernel_rfl) ⟨_,rfl,h⟩ ?_ ?_
  ·rintro _ ⟨_,_,h⟩;exact w8 (h:(none:Option (Unit⊕Int))=some o_1)
  rintro n_1 _ ⟨v_1,rfl,h⟩
  replace h:vZ F d_1 l_1 (jF F d_1 l_1 n_1) v_1=some o_1:=h
  unfold vZ at h
  refine sr [] [0,30,31,32,33] [] 0 [.sl false 2 (Mp zE d_1),.sl false 5 (Mp zN l_1),Ii (lN (l_1)),Ii v_1,.bool (decide (v_1<(lN (l_1))))] [] zG an ?_
  refine sq ?_
  refine cd 33 (decide (v_1<(lN (l_1)))) ?_ ?_
  rotate_left
  ·intro g_5;replace h:=zU g_5 h
   refine w4 (id:=0) (by kernel_rfl) ?_
   cases h
   exact ⟨rfl,(sw [] [] [] [] an)⟩
  intro g_5;replace h:=zV g_5 h
  refine sk ?_
  refine sq ?_
  refine yZ (id:=1) (by kernel_rfl) ?_
  refine sq ?_
  obtain ⟨x_2,h_4,h⟩:=bind_some h
  refine rg [(0,{ av:=zN x_2 }),(2,{ id:=0 })] [0,7,30,31,32] [0] 1 [.sl false 2 (Mp zE d_1),Pp 0,.sl false 5 (Mp zN l_1),Ii (lN (l_1)),Ii v_1] [Vb 86 (uB x_2)] zG (ac (wA h_4:wX (Mp zN l_1) v_1=some (zN x_2)) an) ?_
  refine sq ?_
  obtain ⟨r_2,h_5,h⟩:=bind_some h
  refine rg [(2,{ av:=Ii r_2,l:=[.sl false 2 (Mp zE d_1),zN x_2] })] [0,8,30,31,32] [] 1 [.sl false 2 (Mp zE d_1),Ii r_2,.sl false 5 (Mp zN l_1),Ii (lN (l_1)),Ii v_1] [] zG (ar ([.sl false 2 (Mp zE d_1),zN x_2]:List AV) (ac (rfl:([]:List zM)=[]) (ac (zGV F d_1 x_2 r_2 h_5:zX prog 66 [] [] [.sl false 2 (Mp zE d_1),zN x_2] [] (Ii r_2)) an))) ?_
  refine sr [] [0,8,30,31,32,40] [] 1 [.sl false 2 (Mp zE d_1),Ii r_2,.sl false 5 (Mp zN l_1),Ii (lN (l_1)),Ii v_1,.bool (r_2 != (0:Int))] [] zG an ?_
  refine cd 40 (r_2 != (0:Int)) ?_ ?_
  rotate_left
  ·intro g_6;replace h:=zU g_6 h
   refine sk ?_
   refine rg [] [0,30,31,32] [] 1 [.sl false 2 (Mp zE d_1),.sl false 5 (Mp zN l_1),Ii (lN (l_1)),Ii (zP (v_1+(1:Int)))] [] zG an ?_
   exact ⟨_,(sw [] [] [.s 0,.s 30,.s 31,.s 32] [] an),_,rfl,h⟩
  intro g_6;replace h:=zV g_6 h
  refine sr [] [4] [] 1 [Ii r_2] [] zG an ?_
  refine rt ?_
  cases h
  exact ⟨rfl,Nat.le_of_ble_eq_true rfl,by kernel_rfl⟩
 intro e st1 hk
 rcases o_1 with q_1 | q_2
 rotate_left
 ·obtain ⟨rfl,hf⟩:=hk
  cases h
  exact ⟨st1,Sub.refl _ _,.inr rfl,hf⟩
 obtain ⟨rfl,hs⟩:=hk
 refine ⟨_,hs,?_⟩
 refine sr [] [4] [] 0 [Ii 0] [] zG an ?_
 refine rt ?_
 cases h
 exact ⟨.inr rfl,Nat.le_of_ble_eq_true rfl,by kernel_rfl⟩

theorem zFw (d_1:zK) (a_1:zO) (r:Bool) (h:zAx d_1 a_1=some r):zX prog 50 [(.var 66 (z0 a_1))] [] [zE d_1,Pp 0] [(.var 66 (z0 a_1))] (.bool r):=by
 refine yI (fn:=Go.Proofs.Try.f50) (code:=xQ Go.Proofs.Try.f50) (by kernel_rfl) (by kernel_rfl) (Nat.le_of_ble_eq_true (by kernel_rfl)) ?_
 unfold zAx at h
 refine sr [(0,{ id:=1 })] [1,2] [0,1] 2 [Pp 0,Pp 1] [Vb 66 (z0 a_1),Vb 68 (vX d_1)] zG an ?_
 refine sr [] [3] [0] 2 [.bool (d_1.Id==a_1.Domain)] [Vb 66 (z0 a_1)] zG an ?_
 refine wk [0] [] [.s 3] [.s 0] [(3,.bool (d_1.Id==a_1.Domain))] [(0,Vb 66 (z0 a_1))] an ?_
 refine rt ?_
 cases h
 exact ⟨.inr rfl,Nat.le_of_ble_eq_true rfl,by kernel_rfl⟩

theorem uW (F:Nat) (s_1:List (zK)) (c_1:zO) (r:Int) (h:y5 F s_1 c_1=some r):zX prog 67 [(.var 66 (z0 c_1))] [] [.sl false 2 (Mp zE s_1),.fn 50 [Pp 0]] [(.var 66 (z0 c_1))] (Ii r):=by
 refine yI (fn:=Go.Proofs.Try.f67) (code:=xQ Go.Proofs.Try.f67) (by kernel_rfl) (by kernel_rfl) (Nat.le_of_ble_eq_true (by kernel_rfl)) ?_
 unfold y5 at h
 refine sr [] [0,1] [0] 1 [.sl false 2 (Mp zE s_1),.fn 50 [Pp 0]] [Vb 66 (z0 c_1)] zG an ?_
 refine sq ?_
 refine sr [(1,{ n:=(s_1).length })] [0,1,7,8] [0] 1 [.sl false 2 (Mp zE s_1),.fn 50 [Pp 0],Ii (lN (s_1)),Ii 0] [Vb 66 (z0 c_1)] zG (ac (yG _:((Mp zE s_1)).length=(s_1).length) an) ?_
 obtain ⟨o_1,h_1,h⟩:=bind_some h
 refine uG (K1:=(fun e st'=>match o_1 with | (.inl q0)=>e=.normal∧Sub 1 st' (mk [] [(0,Vb 66 (z0 c_1))] 1) | (.inr q1)=>e=.ret∧kE prog Go.Proofs.Try.f67 1 [(.var 66 (z0 c_1))] (Ii q1) st')) ?_ ?_
 ·replace h:=h_1
  refine yZ (id:=0) (by kernel_rfl) ?_
  refine wk [0] [] [.s 0,.s 1,.s 7,.s 8] [.s 0] [(0,.sl false 2 (Mp zE s_1)),(1,.fn 50 [Pp 0]),(7,Ii (lN (s_1))),(8,Ii 0)] [(0,Vb 66 (z0 c_1))] an ?_
  refine wP (fun n st=>∃ (v_1:Int),st=mk [(0,.sl false 2 (Mp zE s_1)),(1,.fn 50 [Pp 0]),(7,Ii (lN (s_1))),(8,Ii v_1)] [(0,Vb 66 (z0 c_1))] 1∧y2 F s_1 c_1 n v_1=some o_1) F (by kernel_rfl) ⟨_,rfl,h⟩ ?_ ?_
  ·rintro _ ⟨_,_,h⟩;exact w8 (h:(none:Option (Unit⊕Int))=some o_1)
  rintro n_1 _ ⟨v_1,rfl,h⟩
  replace h:yJ F s_1 c_1 (y2 F s_1 c_1 n_1) v_1=some o_1:=h
  unfold yJ at h
  refine sr [] [0,1,7,8,9] [0] 1 [.sl false 2 (Mp zE s_1),.fn 50 [Pp 0],Ii (lN (s_1)),Ii v_1,.bool (decide (v_1<(lN (s_1))))] [Vb 66 (z0 c_1)] zG an ?_
  refine sq ?_
  refine cd 9 (decide (v_1<(lN (s_1)))) ?_ ?_
  rotate_left
  ·intro g_1;replace h:=zU g_1 h
   refine w4 (id:=0) (by kernel_rfl) ?_
   cases h
   exact ⟨rfl,(sw [0] [] [] [.s 0] an)⟩
  intro g_1;replace h:=zV g_1 h
  refine sk ?_
  refine sq ?_
  refine yZ (id:=1) (by kernel_rfl) ?_
  refine sr [] [0,1,5,7,8] [0] 1 [.sl false 2 (Mp zE s_1),.fn 50 [Pp 0],Ii v_1,Ii (lN (s_1)),Ii v_1] [Vb 66 (z0 c_1)] zG an ?_
  refine sq ?_
  obtain ⟨x_1,h_2,h⟩:=bind_some h
  obtain ⟨r_1,h_3,h⟩:=bind_some h
  refine rg [(3,{ av:=zE x_1 }),(5,{ av:=.bool r_1,ids:=[0],l:=[zE x_1,Pp 0],post:=[(.var 66 (z0 c_1))],pre:=[(.var 66 (z0 c_1))] })] [0,1,5,7,8,16] [0] 1 [.sl false 2 (Mp zE s_1),.fn 50 [Pp 0],Ii v_1,Ii (lN (s_1)),Ii v_1,.bool r_1] [Vb 66 (z0 c_1)] zG (ac (wA h_2:wX (Mp zE s_1) v_1=some (zE x_1)) (ar ([zE x_1,Pp 0]:List AV) (ac (rfl:([Vb 66 (z0 c_1)]:List zM)=[Vb 66 (z0 c_1)]) (ac (zFw x_1 c_1 r_1 h_3:zX prog 50 [(.var 66 (z0 c_1))] [] [zE x_1,Pp 0] [(.var 66 (z0 c_1))] (.bool r_1)) an)))) ?_
  refine cd 16 r_1 ?_ ?_
  rotate_left
  ·intro g_2;replace h:=zU g_2 h
   refine sk ?_
   refine rg [] [0,1,7,8] [0] 1 [.sl false 2 (Mp zE s_1),.fn 50 [Pp 0],Ii (lN (s_1)),Ii (zP (v_1+(1:Int)))] [Vb 66 (z0 c_1)] zG an ?_
   exact ⟨_,(sw [0] [] [.s 0,.s 1,.s 7,.s 8] [.s 0] an),_,rfl,h⟩
  intro g_2;replace h:=zV g_2 h
  refine sr [] [4] [0] 1 [Ii v_1] [Vb 66 (z0 c_1)] zG an ?_
  refine wk [0] [] [.s 4] [.s 0] [(4,Ii v_1)] [(0,Vb 66 (z0 c_1))] an ?_
  refine rt ?_
  cases h
  exact ⟨rfl,Nat.le_of_ble_eq_true rfl,by kernel_rfl⟩
 intro e st1 hk
 rcases o_1 with q_1 | q_2
 rotate_left
 ·obtain ⟨rfl,hf⟩:=hk
  cases h
  exact ⟨st1,Sub.refl _ _,.inr rfl,hf⟩
 obtain ⟨rfl,hs⟩:=hk
 refine ⟨_,hs,?_⟩
 refine sr [] [4] [0] 1 [Ii (-1)] [Vb 66 (z0 c_1)] zG an ?_
 refine wk [0] [] [.s 4] [.s 0] [(4,Ii (-1))] [(0,Vb 66 (z0 c_1))] an ?_
 refine rt ?_
 cases h
 exact ⟨.inr rfl,Nat.le_of_ble_eq_true rfl,by kernel_rfl⟩

theorem uV (F:Nat) (s_1:List (zK)) (c_1:zO) (r:Bool) (h:xL F s_1 c_1=some r):zX prog 49 [(.var 66 (z0 c_1))] [] [.sl false 2 (Mp zE s_1),.fn 50 [Pp 0]] [(.var 66 (z0 c_1))] (.bool r):=by
 refine yI (fn:=Go.Proofs.Try.f49) (code:=xQ Go.Proofs.Try.f49) (by kernel_rfl) (by kernel_rfl) (Nat.le_of_ble_eq_true (by kernel_rfl)) ?_
 unfold xL at h
 refine sr [] [0,1] [0] 1 [.sl false 2 (Mp zE s_1),.fn 50 [Pp 0]] [Vb 66 (z0 c_1)] zG an ?_
 refine sq ?_
 obtain ⟨r_1,h_1,h⟩:=bind_some h
 refine rg [(2,{ av:=Ii r_1,ids:=[0],l:=[.sl false 2 (Mp zE s_1),.fn 50 [Pp 0]],post:=[(.var 66 (z0 c_1))],pre:=[(.var 66 (z0 c_1))] })] [4] [0] 1 [.bool (decide (r_1≥(0:Int)))] [Vb 66 (z0 c_1)] zG (ar ([.sl false 2 (Mp zE s_1),.fn 50 [Pp 0]]:List AV) (ac (rfl:([Vb 66 (z0 c_1)]:List zM)=[Vb 66 (z0 c_1)]) (ac (uW F s_1 c_1 r_1 h_1:zX prog 67 [(.var 66 (z0 c_1))] [] [.sl false 2 (Mp zE s_1),.fn 50 [Pp 0]] [(.var 66 (z0 c_1))] (Ii r_1)) an))) ?_
 refine wk [0] [] [.s 4] [.s 0] [(4,.bool (decide (r_1≥(0:Int))))] [(0,Vb 66 (z0 c_1))] an ?_
 refine rt ?_
 cases h
 exact ⟨.inr rfl,Nat.le_of_ble_eq_true rfl,by kernel_rfl⟩

theorem zHA (F:Nat) (h_1:zT) (r:Int) (h:zAK F h_1=some r):zX prog 27 [] [] [y9 h_1] [] (Ii r):=by
 refine yI (fn:=Go.Proofs.Try.f27) (code:=xQ Go.Proofs.Try.f27) (by kernel_rfl) (by kernel_rfl) (Nat.le_of_ble_eq_true (by kernel_rfl)) ?_
 unfold zAK at h
 refine sr [(0,{ id:=0 })] [1] [0] 1 [Pp 0] [Vb 26 (zS h_1)] zG an ?_
 refine sq ?_
 refine yZ (id:=0) (by kernel_rfl) ?_
 refine sr [(2,{ n:=(h_1.Threads).length })] [1,10] [0] 1 [Pp 0,.bool ((lN (h_1.Threads))==(0:Int))] [Vb 26 (zS h_1)] zG (ac (yG _:((Mp zF h_1.Threads)).length=(h_1.Threads).length) an) ?_
 refine cd 10 ((lN (h_1.Threads))==(0:Int)) ?_ ?_
 ·intro g_1;replace h:=zV g_1 h
  refine sr [] [2] [] 1 [Ii 8] [] zG an ?_
  refine rt ?_
  cases h
  exact ⟨.inr rfl,Nat.le_of_ble_eq_true rfl,by kernel_rfl⟩
 intro g_1;replace h:=zU g_1 h
 refine sr [(2,{ n:=(h_1.Threads).length })] [1,15] [0] 1 [Pp 0,.bool (decide ((lN (h_1.Threads))>(64:Int)))] [Vb 26 (zS h_1)] zG (ac (yG _:((Mp zF h_1.Threads)).length=(h_1.Threads).length) an) ?_
 refine cd 15 (decide ((lN (h_1.Threads))>(64:Int))) ?_ ?_
 ·intro g_2;replace h:=zV g_2 h
  refine sr [] [2] [] 1 [Ii 7] [] zG an ?_
  refine rt ?_
  cases h
  exact ⟨.inr rfl,Nat.le_of_ble_eq_true rfl,by kernel_rfl⟩
 intro g_2;replace h:=zU g_2 h
 refine sk ?_
 refine sr [(0,{ id:=1,mag:=false,mks:=[.int .i64] })] [1,3] [0,1] 2 [Pp 0,.mp 1] [Vb 26 (zS h_1),.live (.map false [.int .i64] [])] zG an ?_
 refine sq ?_
 refine sr [(2,{ n:=(h_1.Threads).length })] [1,3,22,23,24] [0,1] 2 [Pp 0,.mp 1,.sl false 3 (Mp zF h_1.Threads),Ii (lN (h_1.Threads)),Ii 0] [Vb 26 (zS h_1),.live (.map false [.int .i64] [])] zG (ac (yG _:((Mp zF h_1.Threads)).length=(h_1.Threads).length) an) ?_
 obtain ⟨o_1,h_2,h⟩:=bind_some h
 refine uG (K1:=(fun e st'=>match o_1 with | (.inl q0)=>e=.normal∧Sub 0 st' (mk [(1,Pp 0)] [(0,Vb 26 (zS h_1))] 1) | (.inr q1)=>e=.ret∧kE prog Go.Proofs.Try.f27 0 [] (Ii q1) st')) ?_ ?_
 ·replace h:=h_2
  refine yZ (id:=1) (by kernel_rfl) ?_
  refine wk [0,1] [] [.s 1,.s 3,.s 22,.s 23,.s 24] [.s 0,.s 1] [(1,Pp 0),(3,.mp 1),(22,.sl false 3 (Mp zF h_1.Threads)),(23,Ii (lN (h_1.Threads))),(24,Ii 0)] [(0,Vb 26 (zS h_1)),(1,.live (.map false [.int .i64] []))] an ?_
  refine wP (fun n st=>∃ (v_1:Int),∃ (zC:List (Int×Bool)),st=mk [(1,Pp 0),(3,.mp 1),(22,.sl false 3 (Mp zF h_1.Threads)),(23,Ii (lN (h_1.Threads))),(24,Ii v_1)] [(0,Vb 26 (zS h_1)),(1,.live (.map false [.int .i64] (List.map (mpE (AV.int .i64) AV.bool) zC)))] 2∧jB F h_1 n v_1 zC=some o_1) F (by kernel_rfl) ⟨_,_,rfl,h⟩ ?_ ?_
  ·rintro _ ⟨_,_,_,h⟩;exact w8 (h:(none:Option (Unit⊕Int))=some o_1)
  rintro n_1 _ ⟨v_1,zC,rfl,h⟩
  replace h:tX F h_1 (jB F h_1 n_1) v_1 zC=some o_1:=h
  unfold tX at h
  refine sr [] [1,3,22,23,24,25] [0,1] 2 [Pp 0,.mp 1,.sl false 3 (Mp zF h_1.Threads),Ii (lN (h_1.Threads)),Ii v_1,.bool (decide (v_1<(lN (h_1.Threads))))] [Vb 26 (zS h_1),.live (.map false [.int .i64] (List.map (mpE (AV.int .i64) AV.bool) zC))] zG an ?_
  refine sq ?_
  refine cd 25 (decide (v_1<(lN (h_1.Threads)))) ?_ ?_
  rotate_left
  ·intro g_3;replace h:=zU g_3 h
   refine w4 (id:=1) (by kernel_rfl) ?_
   cases h
   exact ⟨rfl,(sw [0] [] [.s 1] [.s 0] an)⟩
  intro g_3;replace h:=zV g_3 h
  refine sk ?_
  refine sq ?_
  refine yZ (id:=2) (by kernel_rfl) ?_
  refine sq ?_
  obtain ⟨x_1,h_3,h⟩:=bind_some h
  refine rg [(0,{ av:=zF x_1 }),(2,{ id:=2 })] [1,3,5,22,23,24] [0,1,2] 3 [Pp 0,.mp 1,Pp 2,.sl false 3 (Mp zF h_1.Threads),Ii (lN (h_1.Threads)),Ii v_1] [Vb 26 (zS h_1),.live (.map false [.int .i64] (List.map (mpE (AV.int .i64) AV.bool) zC)),Vb 66 (z0 x_1)] zG (ac (wA h_3:wX (Mp zF h_1.Threads) v_1=some (zF x_1)) an) ?_
  refine sq ?_
  refine sq ?_
  obtain ⟨r_1,h_4,h⟩:=bind_some h
  refine rg [(1,{ av:=Ii r_1,l:=[zF x_1] })] [1,3,5,6,22,23,24] [0,1,2] 3 [Pp 0,.mp 1,Pp 2,Ii r_1,.sl false 3 (Mp zF h_1.Threads),Ii (lN (h_1.Threads)),Ii v_1] [Vb 26 (zS h_1),.live (.map false [.int .i64] (List.map (mpE (AV.int .i64) AV.bool) zC)),Vb 66 (z0 x_1)] zG (ar ([zF x_1]:List AV) (ac (rfl:([]:List zM)=[]) (ac (zDj F x_1 r_1 h_4:zX prog 47 [] [] [zF x_1] [] (Ii r_1)) an))) ?_
  refine sr [] [1,3,5,6,22,23,24,31] [0,1,2] 3 [Pp 0,.mp 1,Pp 2,Ii r_1,.sl false 3 (Mp zF h_1.Threads),Ii (lN (h_1.Threads)),Ii v_1,.bool (r_1 != (0:Int))] [Vb 26 (zS h_1),.live (.map false [.int .i64] (List.map (mpE (AV.int .i64) AV.bool) zC)),Vb 66 (z0 x_1)] zG an ?_
  refine cd 31 (r_1 != (0:Int)) ?_ ?_
  ·intro g_4;replace h:=zV g_4 h
   refine sr [] [2] [] 3 [Ii r_1] [] zG an ?_
   refine rt ?_
   cases h
   exact ⟨rfl,Nat.le_of_ble_eq_true rfl,by kernel_rfl⟩
  intro g_4;replace h:=zU g_4 h
  refine sk ?_
  refine sq ?_
  refine sr [(3,{ av:=(.bool ((z9 zC x_1.Id).getD false)),g:=(z9 zC x_1.Id).isSome })] [1,3,5,22,23,24,36] [0,1,2] 3 [Pp 0,.mp 1,Pp 2,.sl false 3 (Mp zF h_1.Threads),Ii (lN (h_1.Threads)),Ii v_1,.bool ((z9 zC x_1.Id).getD false)] [Vb 26 (zS h_1),.live (.map false [.int .i64] (List.map (mpE (AV.int .i64) AV.bool) zC)),Vb 66 (z0 x_1)] zG (ac (nL:vK prog 3 false [.int .i64]) (ac (zDo (f:=(AV.int .i64)) (g:=AV.bool) nF zC x_1.Id false:q6 (List.map (mpE (AV.int .i64) AV.bool) zC) (Ii x_1.Id) (.bool false) (.bool ((z9 zC x_1.Id).getD false)) (z9 zC x_1.Id).isSome) an)) ?_
  refine cd 36 ((z9 zC x_1.Id).getD false) ?_ ?_
  ·intro g_5;replace h:=zV g_5 h
   refine sr [] [2] [] 3 [Ii 4] [] zG an ?_
   refine rt ?_
   cases h
   exact ⟨rfl,Nat.le_of_ble_eq_true rfl,by kernel_rfl⟩
  intro g_5;replace h:=zU g_5 h
  refine sk ?_
  obtain ⟨_,h_5,h⟩:=bind_some h;replace h_5:=wM h_5
  refine rg [(3,{ es:=(List.map (mpE (AV.int .i64) AV.bool) (v6 zC x_1.Id true)) })] [1,3,22,23,24] [0,1] 3 [Pp 0,.mp 1,.sl false 3 (Mp zF h_1.Threads),Ii (lN (h_1.Threads)),Ii v_1] [Vb 26 (zS h_1),.live (.map false [.int .i64] (List.map (mpE (AV.int .i64) AV.bool) (v6 zC x_1.Id true)))] zG (ac (nL:vK prog 3 false [.int .i64]) (ac (zCK (f:=(AV.int .i64)) (g:=AV.bool) nF zC x_1.Id true:zBo (List.map (mpE (AV.int .i64) AV.bool) zC) (Ii x_1.Id) (.bool true) (List.map (mpE (AV.int .i64) AV.bool) (v6 zC x_1.Id true))) (ac (zF4 (l:=zC) h_5:((List.map (mpE (AV.int .i64) AV.bool) zC):List (AV×AV)).length<maxLen) an))) ?_
  refine rg [] [1,3,22,23,24] [0,1] 3 [Pp 0,.mp 1,.sl false 3 (Mp zF h_1.Threads),Ii (lN (h_1.Threads)),Ii (zP (v_1+(1:Int)))] [Vb 26 (zS h_1),.live (.map false [.int .i64] (List.map (mpE (AV.int .i64) AV.bool) (v6 zC x_1.Id true)))] zG an ?_
  exact ⟨_,(sw [0,1] [] [.s 1,.s 3,.s 22,.s 23,.s 24] [.s 0,.s 1] an),_,_,rfl,h⟩
 intro e st1 hk
 rcases o_1 with q_1 | q_2
 rotate_left
 ·obtain ⟨rfl,hf⟩:=hk
  cases h
  exact ⟨st1,Sub.refl _ _,.inr rfl,hf⟩
 obtain ⟨rfl,hs⟩:=hk
 refine ⟨_,hs,?_⟩
 refine sq ?_
 refine sq ?_
 obtain ⟨r_2,h_6,h⟩:=bind_some h
 refine rg [(4,{ av:=Ii r_2,l:=[.sl false 2 (Mp zE h_1.Domains),.sl false 5 (Mp zN h_1.Snaps)] })] [1,7] [0] 1 [Pp 0,Ii r_2] [Vb 26 (zS h_1)] zG (ar ([.sl false 2 (Mp zE h_1.Domains),.sl false 5 (Mp zN h_1.Snaps)]:List AV) (ac (rfl:([]:List zM)=[]) (ac (zFX F h_1.Domains h_1.Snaps r_2 h_6:zX prog 48 [] [] [.sl false 2 (Mp zE h_1.Domains),.sl false 5 (Mp zN h_1.Snaps)] [] (Ii r_2)) an))) ?_
 refine sr [] [1,7,47] [0] 1 [Pp 0,Ii r_2,.bool (r_2 != (0:Int))] [Vb 26 (zS h_1)] zG an ?_
 refine cd 47 (r_2 != (0:Int)) ?_ ?_
 ·intro g_6;replace h:=zV g_6 h
  refine sr [] [2] [] 1 [Ii r_2] [] zG an ?_
  refine rt ?_
  cases h
  exact ⟨.inr rfl,Nat.le_of_ble_eq_true rfl,by kernel_rfl⟩
 intro g_6;replace h:=zU g_6 h
 refine sk ?_
 refine sq ?_
 refine sr [(2,{ n:=(h_1.Threads).length })] [1,50,51,52] [0] 1 [Pp 0,.sl false 3 (Mp zF h_1.Threads),Ii (lN (h_1.Threads)),Ii 0] [Vb 26 (zS h_1)] zG (ac (yG _:((Mp zF h_1.Threads)).length=(h_1.Threads).length) an) ?_
 obtain ⟨o_2,h_7,h⟩:=bind_some h
 refine uG (K1:=(fun e st'=>match o_2 with | (.inl q0)=>e=.normal∧Sub 0 st' (mk [] [] 0) | (.inr q1)=>e=.ret∧kE prog Go.Proofs.Try.f27 0 [] (Ii q1) st')) ?_ ?_
 ·replace h:=h_7
  refine yZ (id:=3) (by kernel_rfl) ?_
  refine wk [0] [] [.s 1,.s 50,.s 51,.s 52] [.s 0] [(1,Pp 0),(50,.sl false 3 (Mp zF h_1.Threads)),(51,Ii (lN (h_1.Threads))),(52,Ii 0)] [(0,Vb 26 (zS h_1))] an ?_
  refine wP (fun n st=>∃ (v_2:Int),st=mk [(1,Pp 0),(50,.sl false 3 (Mp zF h_1.Threads)),(51,Ii (lN (h_1.Threads))),(52,Ii v_2)] [(0,Vb 26 (zS h_1))] 1∧jH F h_1 n v_2=some o_2) F (by kernel_rfl) ⟨_,rfl,h⟩ ?_ ?_
  ·rintro _ ⟨_,_,h⟩;exact w8 (h:(none:Option (Unit⊕Int))=some o_2)
  rintro n_2 _ ⟨v_2,rfl,h⟩
  replace h:uI F h_1 (jH F h_1 n_2) v_2=some o_2:=h
  unfold uI at h
  refine sr [] [1,50,51,52,53] [0] 1 [Pp 0,.sl false 3 (Mp zF h_1.Threads),Ii (lN (h_1.Threads)),Ii v_2,.bool (decide (v_2<(lN (h_1.Threads))))] [Vb 26 (zS h_1)] zG an ?_
  refine sq ?_
  refine cd 53 (decide (v_2<(lN (h_1.Threads)))) ?_ ?_
  rotate_left
  ·intro g_7;replace h:=zU g_7 h
   refine w4 (id:=3) (by kernel_rfl) ?_
   cases h
   exact ⟨rfl,(sw [] [] [] [] an)⟩
  intro g_7;replace h:=zV g_7 h
  refine sk ?_
  refine sq ?_
  refine yZ (id:=4) (by kernel_rfl) ?_
  refine sq ?_
  obtain ⟨x_2,h_8,h⟩:=bind_some h
  refine rg [(0,{ av:=zF x_2 }),(2,{ id:=1 })] [1,9,50,51,52] [0,1] 2 [Pp 0,Pp 1,.sl false 3 (Mp zF h_1.Threads),Ii (lN (h_1.Threads)),Ii v_2] [Vb 26 (zS h_1),Vb 66 (z0 x_2)] zG (ac (wA h_8:wX (Mp zF h_1.Threads) v_2=some (zF x_2)) an) ?_
  refine sq ?_
  obtain ⟨r_3,h_9,h⟩:=bind_some h
  refine rg [(3,{ av:=.bool r_3,ids:=[1],l:=[.sl false 2 (Mp zE h_1.Domains),.fn 50 [Pp 0]],post:=[(.var 66 (z0 x_2))],pre:=[(.var 66 (z0 x_2))] })] [1,50,51,52,60] [0] 2 [Pp 0,.sl false 3 (Mp zF h_1.Threads),Ii (lN (h_1.Threads)),Ii v_2,.bool (!r_3)] [Vb 26 (zS h_1)] zG (ar ([.sl false 2 (Mp zE h_1.Domains),.fn 50 [Pp 1]]:List AV) (ac (rfl:([Vb 66 (z0 x_2)]:List zM)=[Vb 66 (z0 x_2)]) (ac (uV F h_1.Domains x_2 r_3 h_9:zX prog 49 [(.var 66 (z0 x_2))] [] [.sl false 2 (Mp zE h_1.Domains),.fn 50 [Pp 0]] [(.var 66 (z0 x_2))] (.bool r_3)) an))) ?_
  refine cd 60 (!r_3) ?_ ?_
  rotate_left
  ·intro g_8;replace h:=zU g_8 h
   refine sk ?_
   refine rg [] [1,50,51,52] [0] 2 [Pp 0,.sl false 3 (Mp zF h_1.Threads),Ii (lN (h_1.Threads)),Ii (zP (v_2+(1:Int)))] [Vb 26 (zS h_1)] zG an ?_
   exact ⟨_,(sw [0] [] [.s 1,.s 50,.s 51,.s 52] [.s 0] an),_,rfl,h⟩
  intro g_8;replace h:=zV g_8 h
  refine sr [] [2] [] 2 [Ii 5] [] zG an ?_
  refine rt ?_
  cases h
  exact ⟨rfl,Nat.le_of_ble_eq_true rfl,by kernel_rfl⟩
 intro e st1 hk
 rcases o_2 with q_3 | q_4
 rotate_left
 ·obtain ⟨rfl,hf⟩:=hk
  cases h
  exact ⟨st1,Sub.refl _ _,.inr rfl,hf⟩
 obtain ⟨rfl,hs⟩:=hk
 refine ⟨_,hs,?_⟩
 refine sr [] [2] [] 0 [Ii 0] [] zG an ?_
 refine rt ?_
 cases h
 exact ⟨.inr rfl,Nat.le_of_ble_eq_true rfl,by kernel_rfl⟩

theorem zFU (r:(List (zL))) (h:kC=some r):zX prog 89 [] [] [] [.row 127 9 (Mp xX r)] (.own 0 ((r).length)):=by
 refine yI (fn:=Go.Proofs.Try.f89) (code:=xQ Go.Proofs.Try.f89) (by kernel_rfl) (by kernel_rfl) (Nat.le_of_ble_eq_true (by kernel_rfl)) ?_
 unfold kC at h
 refine sr [(0,{ id:=0,m:=1 })] [] [] 1 [] [] zG an ?_
 refine sr [(13,{ id:=1 })] [0] [1] 2 [.own 1 13] [Rb 127 9 (Mp xX ([(⟨([]:List Int),false,false,false,false,(0:Int),(0:Int),(0:Int),(0:Int)⟩:zL),(⟨([98,101,103,105,110]:List Int),true,false,false,false,(0:Int),(0:Int),(0:Int),(0:Int)⟩:zL),(⟨([101,110,100]:List Int),false,false,false,false,(0:Int),(0:Int),(0:Int),(0:Int)⟩:zL),(⟨([109,97,114,107]:List Int),true,false,false,false,(0:Int),(0:Int),(0:Int),(0:Int)⟩:zL),(⟨([99,111,117,110,116]:List Int),true,true,false,false,(-1000000000000000:Int),(1000000000000000:Int),(0:Int),(0:Int)⟩:zL),(⟨([115,97,109,112,108,101]:List Int),false,true,false,true,(1:Int),(1000000000000:Int),(0:Int),(0:Int)⟩:zL),(⟨([115,101,110,100]:List Int),false,true,false,false,(0:Int),(1000000000000000:Int),(0:Int),(0:Int)⟩:zL),(⟨([114,101,99,118]:List Int),false,true,false,false,(0:Int),(1000000000000000:Int),(0:Int),(0:Int)⟩:zL),(⟨([114,117,110]:List Int),false,true,false,false,(0:Int),(63:Int),(0:Int),(0:Int)⟩:zL),(⟨([115,116,111,112]:List Int),false,true,true,false,(0:Int),(3:Int),(0:Int),(1000000000000000:Int)⟩:zL),(⟨([119,97,107,101]:List Int),false,true,false,false,(0:Int),(1000000000000000:Int),(0:Int),(0:Int)⟩:zL),(⟨([97,108,108,111,99]:List Int),false,true,true,true,(0:Int),(1000000000000000:Int),(1:Int),(1000000000000:Int)⟩:zL),(⟨([102,114,101,101]:List Int),false,true,false,false,(0:Int),(1000000000000000:Int),(0:Int),(0:Int)⟩:zL)]:List zL))] zG an ?_
 refine wk [1] [] [.a 0 (.own 0 ((([(⟨([]:List Int),false,false,false,false,(0:Int),(0:Int),(0:Int),(0:Int)⟩:zL),(⟨([98,101,103,105,110]:List Int),true,false,false,false,(0:Int),(0:Int),(0:Int),(0:Int)⟩:zL),(⟨([101,110,100]:List Int),false,false,false,false,(0:Int),(0:Int),(0:Int),(0:Int)⟩:zL),(⟨([109,97,114,107]:List Int),true,false,false,false,(0:Int),(0:Int),(0:Int),(0:Int)⟩:zL),(⟨([99,111,117,110,116]:List Int),true,true,false,false,(-1000000000000000:Int),(1000000000000000:Int),(0:Int),(0:Int)⟩:zL),(⟨([115,97,109,112,108,101]:List Int),false,true,false,true,(1:Int),(1000000000000:Int),(0:Int),(0:Int)⟩:zL),(⟨([115,101,110,100]:List Int),false,true,false,false,(0:Int),(1000000000000000:Int),(0:Int),(0:Int)⟩:zL),(⟨([114,101,99,118]:List Int),false,true,false,false,(0:Int),(1000000000000000:Int),(0:Int),(0:Int)⟩:zL),(⟨([114,117,110]:List Int),false,true,false,false,(0:Int),(63:Int),(0:Int),(0:Int)⟩:zL),(⟨([115,116,111,112]:List Int),false,true,true,false,(0:Int),(3:Int),(0:Int),(1000000000000000:Int)⟩:zL),(⟨([119,97,107,101]:List Int),false,true,false,false,(0:Int),(1000000000000000:Int),(0:Int),(0:Int)⟩:zL),(⟨([97,108,108,111,99]:List Int),false,true,true,true,(0:Int),(1000000000000000:Int),(1:Int),(1000000000000:Int)⟩:zL),(⟨([102,114,101,101]:List Int),false,true,false,false,(0:Int),(1000000000000000:Int),(0:Int),(0:Int)⟩:zL)]:List zL)).length))] [.s 0] [(0,.own 0 ((([(⟨([]:List Int),false,false,false,false,(0:Int),(0:Int),(0:Int),(0:Int)⟩:zL),(⟨([98,101,103,105,110]:List Int),true,false,false,false,(0:Int),(0:Int),(0:Int),(0:Int)⟩:zL),(⟨([101,110,100]:List Int),false,false,false,false,(0:Int),(0:Int),(0:Int),(0:Int)⟩:zL),(⟨([109,97,114,107]:List Int),true,false,false,false,(0:Int),(0:Int),(0:Int),(0:Int)⟩:zL),(⟨([99,111,117,110,116]:List Int),true,true,false,false,(-1000000000000000:Int),(1000000000000000:Int),(0:Int),(0:Int)⟩:zL),(⟨([115,97,109,112,108,101]:List Int),false,true,false,true,(1:Int),(1000000000000:Int),(0:Int),(0:Int)⟩:zL),(⟨([115,101,110,100]:List Int),false,true,false,false,(0:Int),(1000000000000000:Int),(0:Int),(0:Int)⟩:zL),(⟨([114,101,99,118]:List Int),false,true,false,false,(0:Int),(1000000000000000:Int),(0:Int),(0:Int)⟩:zL),(⟨([114,117,110]:List Int),false,true,false,false,(0:Int),(63:Int),(0:Int),(0:Int)⟩:zL),(⟨([115,116,111,112]:List Int),false,true,true,false,(0:Int),(3:Int),(0:Int),(1000000000000000:Int)⟩:zL),(⟨([119,97,107,101]:List Int),false,true,false,false,(0:Int),(1000000000000000:Int),(0:Int),(0:Int)⟩:zL),(⟨([97,108,108,111,99]:List Int),false,true,true,true,(0:Int),(1000000000000000:Int),(1:Int),(1000000000000:Int)⟩:zL),(⟨([102,114,101,101]:List Int),false,true,false,false,(0:Int),(1000000000000000:Int),(0:Int),(0:Int)⟩:zL)]:List zL)).length))] [(0,Rb 127 9 (Mp xX ([(⟨([]:List Int),false,false,false,false,(0:Int),(0:Int),(0:Int),(0:Int)⟩:zL),(⟨([98,101,103,105,110]:List Int),true,false,false,false,(0:Int),(0:Int),(0:Int),(0:Int)⟩:zL),(⟨([101,110,100]:List Int),false,false,false,false,(0:Int),(0:Int),(0:Int),(0:Int)⟩:zL),(⟨([109,97,114,107]:List Int),true,false,false,false,(0:Int),(0:Int),(0:Int),(0:Int)⟩:zL),(⟨([99,111,117,110,116]:List Int),true,true,false,false,(-1000000000000000:Int),(1000000000000000:Int),(0:Int),(0:Int)⟩:zL),(⟨([115,97,109,112,108,101]:List Int),false,true,false,true,(1:Int),(1000000000000:Int),(0:Int),(0:Int)⟩:zL),(⟨([115,101,110,100]:List Int),false,true,false,false,(0:Int),(1000000000000000:Int),(0:Int),(0:Int)⟩:zL),(⟨([114,101,99,118]:List Int),false,true,false,false,(0:Int),(1000000000000000:Int),(0:Int),(0:Int)⟩:zL),(⟨([114,117,110]:List Int),false,true,false,false,(0:Int),(63:Int),(0:Int),(0:Int)⟩:zL),(⟨([115,116,111,112]:List Int),false,true,true,false,(0:Int),(3:Int),(0:Int),(1000000000000000:Int)⟩:zL),(⟨([119,97,107,101]:List Int),false,true,false,false,(0:Int),(1000000000000000:Int),(0:Int),(0:Int)⟩:zL),(⟨([97,108,108,111,99]:List Int),false,true,true,true,(0:Int),(1000000000000000:Int),(1:Int),(1000000000000:Int)⟩:zL),(⟨([102,114,101,101]:List Int),false,true,false,false,(0:Int),(1000000000000000:Int),(0:Int),(0:Int)⟩:zL)]:List zL)))] (ac (congrArg (AV.own _) (by first | (simp;done) | (simp;omega)):(.own 1 13:AV)=.own 1 ((([(⟨([]:List Int),false,false,false,false,(0:Int),(0:Int),(0:Int),(0:Int)⟩:zL),(⟨([98,101,103,105,110]:List Int),true,false,false,false,(0:Int),(0:Int),(0:Int),(0:Int)⟩:zL),(⟨([101,110,100]:List Int),false,false,false,false,(0:Int),(0:Int),(0:Int),(0:Int)⟩:zL),(⟨([109,97,114,107]:List Int),true,false,false,false,(0:Int),(0:Int),(0:Int),(0:Int)⟩:zL),(⟨([99,111,117,110,116]:List Int),true,true,false,false,(-1000000000000000:Int),(1000000000000000:Int),(0:Int),(0:Int)⟩:zL),(⟨([115,97,109,112,108,101]:List Int),false,true,false,true,(1:Int),(1000000000000:Int),(0:Int),(0:Int)⟩:zL),(⟨([115,101,110,100]:List Int),false,true,false,false,(0:Int),(1000000000000000:Int),(0:Int),(0:Int)⟩:zL),(⟨([114,101,99,118]:List Int),false,true,false,false,(0:Int),(1000000000000000:Int),(0:Int),(0:Int)⟩:zL),(⟨([114,117,110]:List Int),false,true,false,false,(0:Int),(63:Int),(0:Int),(0:Int)⟩:zL),(⟨([115,116,111,112]:List Int),false,true,true,false,(0:Int),(3:Int),(0:Int),(1000000000000000:Int)⟩:zL),(⟨([119,97,107,101]:List Int),false,true,false,false,(0:Int),(1000000000000000:Int),(0:Int),(0:Int)⟩:zL),(⟨([97,108,108,111,99]:List Int),false,true,true,true,(0:Int),(1000000000000000:Int),(1:Int),(1000000000000:Int)⟩:zL),(⟨([102,114,101,101]:List Int),false,true,false,false,(0:Int),(1000000000000000:Int),(0:Int),(0:Int)⟩:zL)]:List zL)).length)) an) ?_
 refine rt ?_
 cases h
 exact ⟨.inr rfl,Nat.le_of_ble_eq_true rfl,by kernel_rfl⟩

theorem zES (k_1:Int) (r:zL×Bool) (h:kJ k_1=some r):zX prog 84 [] [] [Ii k_1] [] (.tuple [xX r.1,.bool r.2]):=by
 refine yI (fn:=Go.Proofs.Try.f84) (code:=xQ Go.Proofs.Try.f84) (by kernel_rfl) (by kernel_rfl) (Nat.le_of_ble_eq_true (by kernel_rfl)) ?_
 unfold kJ at h
 refine sr [(0,{ id:=0 })] [0,2] [0] 1 [Ii k_1,Pp 0] [Vb 127 [.str ([]:List Int),.bool false,.bool false,.bool false,.bool false,Ii 0,Ii 0,Ii 0,Ii 0]] zG an ?_
 refine sq ?_
 obtain ⟨r_1,h_1,h⟩:=bind_some h
 refine rg [(0,{ av:=.own 0 ((r_1).length),ids:=[1],l:=[],post:=[(.row 127 9 (Mp xX r_1))] })] [0,2,4] [0,1] 2 [Ii k_1,Pp 0,.own 1 ((r_1).length)] [Vb 127 [.str ([]:List Int),.bool false,.bool false,.bool false,.bool false,Ii 0,Ii 0,Ii 0,Ii 0],Rb 127 9 (Mp xX r_1)] zG (ar ([]:List AV) (ac (rfl:([]:List zM)=[]) (ac (zFU r_1 h_1:zX prog 89 [] [] [] [(.row 127 9 (Mp xX r_1))] (.own 0 ((r_1).length))) an))) ?_
 refine sq ?_
 refine sq ?_
 refine wI (mk [(0,Ii k_1),(2,Pp 0),(4,.own 1 ((r_1).length)),(13,.bool (decide (k_1<(1:Int))||decide (k_1≥(lN (r_1)))))] [(0,Vb 127 [.str ([]:List Int),.bool false,.bool false,.bool false,.bool false,Ii 0,Ii 0,Ii 0,Ii 0]),(1,Rb 127 9 (Mp xX r_1))] 2) ?_ ?_
 ·rcases bft (decide (k_1<(1:Int))) with zJ | zJ
  ·refine rg [(3,Hg),(4,Hg),(5,Hg),(6,Hg),(7,Ht)] [0,2,4,13] [0,1] 2 [Ii k_1,Pp 0,.own 1 ((r_1).length),.bool true] [Vb 127 [.str ([]:List Int),.bool false,.bool false,.bool false,.bool false,Ii 0,Ii 0,Ii 0,Ii 0],Rb 127 9 (Mp xX r_1)] zG (ac zJ (ac zJ (ac zJ (ac zJ (ac zJ an))))) ?_
   exact ⟨rfl,(sw [0,1] [] [.s 0,.s 2,.s 4,.a 13 (.bool (decide (k_1<(1:Int))||decide (k_1≥(lN (r_1)))))] [.s 0,.s 1] (ac (congrArg AV.bool (ort zJ):(.bool true:AV)=.bool (decide (k_1<(1:Int))||decide (k_1≥(lN (r_1))))) an))⟩
  ·refine rg [(7,Hf)] [0,2,4,13] [0,1] 2 [Ii k_1,Pp 0,.own 1 ((r_1).length),.bool (decide (k_1≥(lN (r_1))))] [Vb 127 [.str ([]:List Int),.bool false,.bool false,.bool false,.bool false,Ii 0,Ii 0,Ii 0,Ii 0],Rb 127 9 (Mp xX r_1)] zG (ac zJ (ac zJ (ac zJ (ac zJ (ac zJ an))))) ?_
   exact ⟨rfl,(sw [0,1] [] [.s 0,.s 2,.s 4,.a 13 (.bool (decide (k_1<(1:Int))||decide (k_1≥(lN (r_1)))))] [.s 0,.s 1] (ac (congrArg AV.bool (orf zJ rfl):(.bool (decide (k_1≥(lN (r_1)))):AV)=.bool (decide (k_1<(1:Int))||decide (k_1≥(lN (r_1))))) an))⟩
 refine cd 13 (decide (k_1<(1:Int))||decide (k_1≥(lN (r_1)))) ?_ ?_
 ·intro g_1;replace h:=zV g_1 h
  refine sr [] [2,3] [0] 2 [Pp 0,.bool false] [Vb 127 [.str ([]:List Int),.bool false,.bool false,.bool false,.bool false,Ii 0,Ii 0,Ii 0,Ii 0]] zG an ?_
  refine wk [0] [] [.s 2,.s 3] [.a 0 (Vb 127 (yC (⟨([]:List Int),false,false,false,false,(0:Int),(0:Int),(0:Int),(0:Int)⟩:zL)))] [(2,Pp 0),(3,.bool false)] [(0,Vb 127 (yC (⟨([]:List Int),false,false,false,false,(0:Int),(0:Int),(0:Int),(0:Int)⟩:zL)))] (ar 127 (ac (rfl:vT [.str ((⟨([]:List Int),false,false,false,false,(0:Int),(0:Int),(0:Int),(0:Int)⟩:zL).word),.bool ((⟨([]:List Int),false,false,false,false,(0:Int),(0:Int),(0:Int),(0:Int)⟩:zL).name),.bool ((⟨([]:List Int),false,false,false,false,(0:Int),(0:Int),(0:Int),(0:Int)⟩:zL).n),.bool ((⟨([]:List Int),false,false,false,false,(0:Int),(0:Int),(0:Int),(0:Int)⟩:zL).m),.bool ((⟨([]:List Int),false,false,false,false,(0:Int),(0:Int),(0:Int),(0:Int)⟩:zL).stack),Ii ((⟨([]:List Int),false,false,false,false,(0:Int),(0:Int),(0:Int),(0:Int)⟩:zL).least),Ii ((⟨([]:List Int),false,false,false,false,(0:Int),(0:Int),(0:Int),(0:Int)⟩:zL).most),Ii ((⟨([]:List Int),false,false,false,false,(0:Int),(0:Int),(0:Int),(0:Int)⟩:zL).mLeast),Ii ((⟨([]:List Int),false,false,false,false,(0:Int),(0:Int),(0:Int),(0:Int)⟩:zL).mMost)]=true) (ac (rfl:(.str ([]:List Int):AV)=.str ((⟨([]:List Int),false,false,false,false,(0:Int),(0:Int),(0:Int),(0:Int)⟩:zL).word)) (ac (rfl:(.bool false:AV)=.bool ((⟨([]:List Int),false,false,false,false,(0:Int),(0:Int),(0:Int),(0:Int)⟩:zL).name)) (ac (rfl:(.bool false:AV)=.bool ((⟨([]:List Int),false,false,false,false,(0:Int),(0:Int),(0:Int),(0:Int)⟩:zL).n)) (ac (rfl:(.bool false:AV)=.bool ((⟨([]:List Int),false,false,false,false,(0:Int),(0:Int),(0:Int),(0:Int)⟩:zL).m)) (ac (rfl:(.bool false:AV)=.bool ((⟨([]:List Int),false,false,false,false,(0:Int),(0:Int),(0:Int),(0:Int)⟩:zL).stack)) (ac (rfl:(Ii 0:AV)=Ii ((⟨([]:List Int),false,false,false,false,(0:Int),(0:Int),(0:Int),(0:Int)⟩:zL).least)) (ac (rfl:(Ii 0:AV)=Ii ((⟨([]:List Int),false,false,false,false,(0:Int),(0:Int),(0:Int),(0:Int)⟩:zL).most)) (ac (rfl:(Ii 0:AV)=Ii ((⟨([]:List Int),false,false,false,false,(0:Int),(0:Int),(0:Int),(0:Int)⟩:zL).mLeast)) (ac (rfl:(Ii 0:AV)=Ii ((⟨([]:List Int),false,false,false,false,(0:Int),(0:Int),(0:Int),(0:Int)⟩:zL).mMost)) an))))))))))) ?_
  refine rt ?_
  cases h
  exact ⟨.inr rfl,Nat.le_of_ble_eq_true rfl,by kernel_rfl⟩
 intro g_1;replace h:=zU g_1 h
 refine sk ?_
 refine sq ?_
 obtain ⟨x_1,h_2,h⟩:=bind_some h
 refine rg [(3,{ av:=xX x_1 })] [2,3] [0] 2 [Pp 0,.bool true] [Vb 127 (yC x_1)] zG (ac (zAo h_2:(0:Int)≤k_1) (ac (by first | (simp;done) | simpa using zAj h_2:k_1<(((r_1).length:Nat):Int)) (ac (zBB h_2:(Mp xX r_1)[(k_1).toNat]?=some (xX x_1)) an))) ?_
 refine wk [0] [] [.s 2,.s 3] [.s 0] [(2,Pp 0),(3,.bool true)] [(0,Vb 127 (yC x_1))] an ?_
 refine rt ?_
 cases h
 exact ⟨.inr rfl,Nat.le_of_ble_eq_true rfl,by kernel_rfl⟩

theorem zEB (F:Nat) (l_1:List (List Int)) (r:Int) (h:j8 F l_1=some r):zX prog 90 [] [] [.sl false 1 (Ms l_1)] [] (Ii r):=by
 refine yI (fn:=Go.Proofs.Try.f90) (code:=xQ Go.Proofs.Try.f90) (by kernel_rfl) (by kernel_rfl) (Nat.le_of_ble_eq_true (by kernel_rfl)) ?_
 unfold j8 at h
 refine sr [] [0] [] 0 [.sl false 1 (Ms l_1)] [] zG an ?_
 refine sq ?_
 refine sr [(1,{ n:=(l_1).length })] [0,8] [] 0 [.sl false 1 (Ms l_1),.bool (decide ((lN (l_1))>(32:Int)))] [] zG (ac (yG _:((Ms l_1)).length=(l_1).length) an) ?_
 refine cd 8 (decide ((lN (l_1))>(32:Int))) ?_ ?_
 ·intro g_1;replace h:=zV g_1 h
  refine sr [] [2] [] 0 [Ii 7] [] zG an ?_
  refine rt ?_
  cases h
  exact ⟨.inr rfl,Nat.le_of_ble_eq_true rfl,by kernel_rfl⟩
 intro g_1;replace h:=zU g_1 h
 refine sk ?_
 refine sq ?_
 refine sr [(1,{ n:=(l_1).length })] [9,10,11] [] 0 [.sl false 1 (Ms l_1),Ii (lN (l_1)),Ii 0] [] zG (ac (yG _:((Ms l_1)).length=(l_1).length) an) ?_
 obtain ⟨o_1,h_1,h⟩:=bind_some h
 refine uG (K1:=(fun e st'=>match o_1 with | (.inl q0)=>e=.normal∧Sub 0 st' (mk [] [] 0) | (.inr q1)=>e=.ret∧kE prog Go.Proofs.Try.f90 0 [] (Ii q1) st')) ?_ ?_
 ·replace h:=h_1
  refine yZ (id:=0) (by kernel_rfl) ?_
  refine wk [] [] [.s 9,.s 10,.s 11] [] [(9,.sl false 1 (Ms l_1)),(10,Ii (lN (l_1))),(11,Ii 0)] [] an ?_
  refine wP (fun n st=>∃ (v_1:Int),st=mk [(9,.sl false 1 (Ms l_1)),(10,Ii (lN (l_1))),(11,Ii v_1)] [] 0∧qF F l_1 n v_1=some o_1) F (by kernel_rfl) ⟨_,rfl,h⟩ ?_ ?_
  ·rintro _ ⟨_,_,h⟩;exact w8 (h:(none:Option (Unit⊕Int))=some o_1)
  rintro n_1 _ ⟨v_1,rfl,h⟩
  replace h:uX F l_1 (qF F l_1 n_1) v_1=some o_1:=h
  unfold uX at h
  refine sr [] [9,10,11,12] [] 0 [.sl false 1 (Ms l_1),Ii (lN (l_1)),Ii v_1,.bool (decide (v_1<(lN (l_1))))] [] zG an ?_
  refine sq ?_
  refine cd 12 (decide (v_1<(lN (l_1)))) ?_ ?_
  rotate_left
  ·intro g_2;replace h:=zU g_2 h
   refine w4 (id:=0) (by kernel_rfl) ?_
   cases h
   exact ⟨rfl,(sw [] [] [] [] an)⟩
  intro g_2;replace h:=zV g_2 h
  refine sk ?_
  refine sq ?_
  refine yZ (id:=1) (by kernel_rfl) ?_
  refine sq ?_
  obtain ⟨x_1,h_2,h⟩:=bind_some h
  refine rg [(0,{ av:=.str x_1 })] [4,9,10,11] [] 0 [.str x_1,.sl false 1 (Ms l_1),Ii (lN (l_1)),Ii v_1] [] zG (ac (wA h_2:wX (Ms l_1) v_1=some (.str x_1)) an) ?_
  refine sq ?_
  obtain ⟨r_1,h_3,h⟩:=bind_some h
  refine rg [(1,{ av:=Ii r_1,l:=[.str x_1] })] [5,9,10,11] [] 0 [Ii r_1,.sl false 1 (Ms l_1),Ii (lN (l_1)),Ii v_1] [] zG (ar ([.str x_1]:List AV) (ac (rfl:([]:List zM)=[]) (ac (zAn F x_1 r_1 h_3:zX prog 64 [] [] [.str x_1] [] (Ii r_1)) an))) ?_
  refine sr [] [5,9,10,11,18] [] 0 [Ii r_1,.sl false 1 (Ms l_1),Ii (lN (l_1)),Ii v_1,.bool (r_1 != (0:Int))] [] zG an ?_
  refine cd 18 (r_1 != (0:Int)) ?_ ?_
  rotate_left
  ·intro g_3;replace h:=zU g_3 h
   refine sk ?_
   refine rg [] [9,10,11] [] 0 [.sl false 1 (Ms l_1),Ii (lN (l_1)),Ii (zP (v_1+(1:Int)))] [] zG an ?_
   exact ⟨_,(sw [] [] [.s 9,.s 10,.s 11] [] an),_,rfl,h⟩
  intro g_3;replace h:=zV g_3 h
  refine sr [] [2] [] 0 [Ii r_1] [] zG an ?_
  refine rt ?_
  cases h
  exact ⟨rfl,Nat.le_of_ble_eq_true rfl,by kernel_rfl⟩
 intro e st1 hk
 rcases o_1 with q_1 | q_2
 rotate_left
 ·obtain ⟨rfl,hf⟩:=hk
  cases h
  exact ⟨st1,Sub.refl _ _,.inr rfl,hf⟩
 obtain ⟨rfl,hs⟩:=hk
 refine ⟨_,hs,?_⟩
 refine sr [] [2] [] 0 [Ii 0] [] zG an ?_
 refine rt ?_
 cases h
 exact ⟨.inr rfl,Nat.le_of_ble_eq_true rfl,by kernel_rfl⟩

theorem zFO (F:Nat) (f_1:zL) (e_1:zH) (r:Int) (h:pQ F f_1 e_1=some r):zX prog 85 [] [] [xX f_1,zD e_1] [] (Ii r):=by
 refine yI (fn:=Go.Proofs.Try.f85) (code:=xQ Go.Proofs.Try.f85) (by kernel_rfl) (by kernel_rfl) (Nat.le_of_ble_eq_true (by kernel_rfl)) ?_
 unfold pQ at h
 refine sr [(0,{ id:=0 }),(1,{ id:=1 })] [2,3] [0,1] 2 [Pp 0,Pp 1] [Vb 127 (yC f_1),Vb 42 (z7 e_1)] zG an ?_
 refine sq ?_
 refine sr [] [3,6] [1] 2 [Pp 1,.bool f_1.name] [Vb 42 (z7 e_1)] zG an ?_
 refine cd 6 f_1.name ?_ ?_
 ·intro g_1;replace h:=zV g_1 h
  refine sq ?_
  obtain ⟨r_1,h_1,h⟩:=bind_some h
  refine rg [(2,{ av:=Ii r_1,l:=[.str e_1.Name] })] [4] [] 2 [Ii r_1] [] zG (ar ([.str e_1.Name]:List AV) (ac (rfl:([]:List zM)=[]) (ac (zAn F e_1.Name r_1 h_1:zX prog 64 [] [] [.str e_1.Name] [] (Ii r_1)) an))) ?_
  refine rt ?_
  cases h
  exact ⟨.inr rfl,Nat.le_of_ble_eq_true rfl,by kernel_rfl⟩
 intro g_1;replace h:=zU g_1 h
 refine sk ?_
 refine sq ?_
 obtain ⟨r_2,h_2,h⟩:=bind_some h
 refine rg [(2,{ av:=Ii r_2,l:=[.sl false 1 (Ms e_1.Stack)] })] [4] [] 2 [Ii r_2] [] zG (ar ([.sl false 1 (Ms e_1.Stack)]:List AV) (ac (rfl:([]:List zM)=[]) (ac (zEB F e_1.Stack r_2 h_2:zX prog 90 [] [] [.sl false 1 (Ms e_1.Stack)] [] (Ii r_2)) an))) ?_
 refine rt ?_
 cases h
 exact ⟨.inr rfl,Nat.le_of_ble_eq_true rfl,by kernel_rfl⟩

theorem zFL (F:Nat) (e_1:zH) (r:Int) (h:pO F e_1=some r):zX prog 74 [] [] [zD e_1] [] (Ii r):=by
 refine yI (fn:=Go.Proofs.Try.f74) (code:=xQ Go.Proofs.Try.f74) (by kernel_rfl) (by kernel_rfl) (Nat.le_of_ble_eq_true (by kernel_rfl)) ?_
 unfold pO at h
 refine sr [(0,{ id:=0 })] [1] [0] 1 [Pp 0] [Vb 42 (z7 e_1)] zG an ?_
 refine sq ?_
 refine sq ?_
 refine wI (mk [(1,Pp 0),(13,.bool (decide (e_1.At<(0:Int))||decide (e_1.At>(1000000000000:Int))))] [(0,Vb 42 (z7 e_1))] 1) ?_ ?_
 ·rcases bft (decide (e_1.At<(0:Int))) with zJ | zJ
  ·refine rg [(4,Hg),(5,Hg),(6,Hg),(7,Ht)] [1,13] [0] 1 [Pp 0,.bool true] [Vb 42 (z7 e_1)] zG (ac zJ (ac zJ (ac zJ (ac zJ an)))) ?_
   exact ⟨rfl,(sw [0] [] [.s 1,.a 13 (.bool (decide (e_1.At<(0:Int))||decide (e_1.At>(1000000000000:Int))))] [.s 0] (ac (congrArg AV.bool (ort zJ):(.bool true:AV)=.bool (decide (e_1.At<(0:Int))||decide (e_1.At>(1000000000000:Int)))) an))⟩
  ·refine rg [(7,Hf)] [1,13] [0] 1 [Pp 0,.bool (decide (e_1.At>(1000000000000:Int)))] [Vb 42 (z7 e_1)] zG (ac zJ (ac zJ (ac zJ (ac zJ an)))) ?_
   exact ⟨rfl,(sw [0] [] [.s 1,.a 13 (.bool (decide (e_1.At<(0:Int))||decide (e_1.At>(1000000000000:Int))))] [.s 0] (ac (congrArg AV.bool (orf zJ rfl):(.bool (decide (e_1.At>(1000000000000:Int))):AV)=.bool (decide (e_1.At<(0:Int))||decide (e_1.At>(1000000000000:Int)))) an))⟩
 refine cd 13 (decide (e_1.At<(0:Int))||decide (e_1.At>(1000000000000:Int))) ?_ ?_
 ·intro g_1;replace h:=zV g_1 h
  refine sr [] [2] [] 1 [Ii 2] [] zG an ?_
  refine rt ?_
  cases h
  exact ⟨.inr rfl,Nat.le_of_ble_eq_true rfl,by kernel_rfl⟩
 intro g_1;replace h:=zU g_1 h
 refine sk ?_
 refine sq ?_
 obtain ⟨r_1,h_1,h⟩:=bind_some h
 refine rg [(2,{ av:=.tuple [xX r_1.1,.bool r_1.2],l:=[Ii e_1.Kind] }),(6,{ id:=1 })] [1,3,4] [0,1] 2 [Pp 0,Pp 1,.bool r_1.2] [Vb 42 (z7 e_1),Vb 127 (yC r_1.1)] zG (ar ([Ii e_1.Kind]:List AV) (ac (rfl:([]:List zM)=[]) (ac (zES e_1.Kind r_1 h_1:zX prog 84 [] [] [Ii e_1.Kind] [] (.tuple [xX r_1.1,.bool r_1.2])) an))) ?_
 refine sq ?_
 refine sq ?_
 obtain ⟨p_1,h_2,h⟩:=bind_some h
 refine wI (mk [(1,Pp 0),(3,Pp 1),(62,.bool p_1)] [(0,Vb 42 (z7 e_1)),(1,Vb 127 (yC r_1.1))] 2) ?_ ?_
 ·replace h:=h_2
  rcases bft (!r_1.2) with zI | zI
  ·replace h:=zV zI h
   refine rg [(3,Hg),(4,Hg),(5,Hg),(6,Hg),(10,Hg),(11,Ht),(13,Hg),(14,Hg),(15,Hg),(16,Hg),(20,Hg),(21,Ht),(23,Hg),(24,Hg),(25,Hg),(26,Hg),(30,Hg),(31,Ht),(33,Hg),(34,Hg),(35,Hg),(36,Hg),(41,Hg),(42,Ht)] [1,3,62] [0,1] 2 [Pp 0,Pp 1,.bool true] [Vb 42 (z7 e_1),Vb 127 (yC r_1.1)] zG (ac zI (ac zI (ac zI (ac zI (ac zI (ac zI (ax (ax (ax (ax (ax (ar true (ax (ax (ax (ax (ax (ar true (ax (ax (ax (ax (ax (ar true an)))))))))))))))))))))))) ?_
   cases h
   exact ⟨rfl,(sw [0,1] [] [.s 1,.s 3,.s 62] [.s 0,.s 1] an)⟩
  ·replace h:=zU zI h
   rcases bft (!r_1.1.name) with zW | zW
   ·replace h:=zV zW h
    rcases bft (!(e_1.Name==([]:List Int))) with z4 | z4
    ·replace h:=zV z4 h
     refine rg [(10,Ht),(11,Hf),(13,Hg),(14,Hg),(15,Hg),(16,Hg),(20,Hg),(21,Ht),(23,Hg),(24,Hg),(25,Hg),(26,Hg),(30,Hg),(31,Ht),(33,Hg),(34,Hg),(35,Hg),(36,Hg),(41,Hg),(42,Ht)] [1,3,62] [0,1] 2 [Pp 0,Pp 1,.bool true] [Vb 42 (z7 e_1),Vb 127 (yC r_1.1)] zG (ac zI (ac zI (ac zI (ac zI (ac zW (ac zW (ac zW (ac zI (ac zW (ac zI (ac z4 (ac z4 (ac z4 (ac z4 (ac z4 (ac z4 (ax (ax (ax (ax (ax (ar true (ax (ax (ax (ax (ax (ar true an)))))))))))))))))))))))))))) ?_
     cases h
     exact ⟨rfl,(sw [0,1] [] [.s 1,.s 3,.s 62] [.s 0,.s 1] an)⟩
    ·replace h:=zU z4 h
     rcases bft (!r_1.1.n) with yW | yW
     ·replace h:=zV yW h
      rcases bft (e_1.N != (0:Int)) with xV | xV
      ·replace h:=zV xV h
       refine rg [(10,Ht),(11,Hf),(20,Ht),(21,Hf),(23,Hg),(24,Hg),(25,Hg),(26,Hg),(30,Hg),(31,Ht),(33,Hg),(34,Hg),(35,Hg),(36,Hg),(41,Hg),(42,Ht)] [1,3,62] [0,1] 2 [Pp 0,Pp 1,.bool true] [Vb 42 (z7 e_1),Vb 127 (yC r_1.1)] zG (ac zI (ac zI (ac zI (ac zI (ac zW (ac zW (ac zW (ac zI (ac zW (ac zI (ac z4 (ac z4 (ac z4 (ac z4 (ac yW (ac yW (ac yW (ac z4 (ac yW (ac z4 (ac xV (ac xV (ac xV (ac xV (ac xV (ac xV (ax (ax (ax (ax (ax (ar true an)))))))))))))))))))))))))))))))) ?_
       cases h
       exact ⟨rfl,(sw [0,1] [] [.s 1,.s 3,.s 62] [.s 0,.s 1] an)⟩
      ·replace h:=zU xV h
       rcases bft (!r_1.1.m) with xS | xS
       ·replace h:=zV xS h
        rcases bft (e_1.M != (0:Int)) with xP | xP
        ·replace h:=zV xP h
         refine rg [(10,Ht),(11,Hf),(20,Ht),(21,Hf),(30,Ht),(31,Hf),(33,Hg),(34,Hg),(35,Hg),(36,Hg),(41,Hg),(42,Ht)] [1,3,62] [0,1] 2 [Pp 0,Pp 1,.bool true] [Vb 42 (z7 e_1),Vb 127 (yC r_1.1)] zG (ac zI (ac zI (ac zI (ac zI (ac zW (ac zW (ac zW (ac zI (ac zW (ac zI (ac z4 (ac z4 (ac z4 (ac z4 (ac yW (ac yW (ac yW (ac z4 (ac yW (ac z4 (ac xV (ac xV (ac xV (ac xV (ac xS (ac xS (ac xS (ac xV (ac xS (ac xV (ac xP (ac xP (ac xP (ac xP (ac xP (ac xP an)))))))))))))))))))))))))))))))))))) ?_
         cases h
         exact ⟨rfl,(sw [0,1] [] [.s 1,.s 3,.s 62] [.s 0,.s 1] an)⟩
        ·replace h:=zU xP h
         rcases bft (!r_1.1.stack) with wU | wU
         ·replace h:=zV wU h
          refine rg [(10,Ht),(11,Hf),(20,Ht),(21,Hf),(30,Ht),(31,Hf),(39,{ n:=(e_1.Stack).length }),(41,Ht),(42,Hf)] [1,3,62] [0,1] 2 [Pp 0,Pp 1,.bool (decide ((lN (e_1.Stack))>(0:Int)))] [Vb 42 (z7 e_1),Vb 127 (yC r_1.1)] zG (ac zI (ac zI (ac zI (ac zI (ac zW (ac zW (ac zW (ac zI (ac zW (ac zI (ac z4 (ac z4 (ac z4 (ac z4 (ac yW (ac yW (ac yW (ac z4 (ac yW (ac z4 (ac xV (ac xV (ac xV (ac xV (ac xS (ac xS (ac xS (ac xV (ac xS (ac xV (ac xP (ac xP (ac xP (ac xP (ac wU (ac wU (ac wU (ac (yG _:((Ms e_1.Stack)).length=(e_1.Stack).length) (ac wU (ac xP (ac wU (ac xP an)))))))))))))))))))))))))))))))))))))))))) ?_
          cases h
          exact ⟨rfl,(sw [0,1] [] [.s 1,.s 3,.s 62] [.s 0,.s 1] an)⟩
         ·replace h:=zU wU h
          refine rg [(10,Ht),(11,Hf),(20,Ht),(21,Hf),(30,Ht),(31,Hf),(37,Hg),(38,Hg),(39,Hg),(40,Hg),(41,Hf),(42,Hf)] [1,3,62] [0,1] 2 [Pp 0,Pp 1,.bool false] [Vb 42 (z7 e_1),Vb 127 (yC r_1.1)] zG (ac zI (ac zI (ac zI (ac zI (ac zW (ac zW (ac zW (ac zI (ac zW (ac zI (ac z4 (ac z4 (ac z4 (ac z4 (ac yW (ac yW (ac yW (ac z4 (ac yW (ac z4 (ac xV (ac xV (ac xV (ac xV (ac xS (ac xS (ac xS (ac xV (ac xS (ac xV (ac xP (ac xP (ac xP (ac xP (ac wU (ac wU (ac wU (ac wU (ac xP (ac wU (ac xP an))))))))))))))))))))))))))))))))))))))))) ?_
          cases h
          exact ⟨rfl,(sw [0,1] [] [.s 1,.s 3,.s 62] [.s 0,.s 1] an)⟩
       ·replace h:=zU xS h
        rcases bft (!r_1.1.stack) with xO | xO
        ·replace h:=zV xO h
         refine rg [(10,Ht),(11,Hf),(20,Ht),(21,Hf),(27,Hg),(28,Hg),(29,Hg),(30,Hf),(31,Hf),(39,{ n:=(e_1.Stack).length }),(41,Ht),(42,Hf)] [1,3,62] [0,1] 2 [Pp 0,Pp 1,.bool (decide ((lN (e_1.Stack))>(0:Int)))] [Vb 42 (z7 e_1),Vb 127 (yC r_1.1)] zG (ac zI (ac zI (ac zI (ac zI (ac zW (ac zW (ac zW (ac zI (ac zW (ac zI (ac z4 (ac z4 (ac z4 (ac z4 (ac yW (ac yW (ac yW (ac z4 (ac yW (ac z4 (ac xV (ac xV (ac xV (ac xV (ac xS (ac xS (ac xS (ac xV (ac xS (ac xV (ar false (ar false (ar false (ar false (ac xO (ac xO (ac xO (ac (yG _:((Ms e_1.Stack)).length=(e_1.Stack).length) (ac xO (ar false (ac xO (ar false an)))))))))))))))))))))))))))))))))))))))))) ?_
         cases h
         exact ⟨rfl,(sw [0,1] [] [.s 1,.s 3,.s 62] [.s 0,.s 1] an)⟩
        ·replace h:=zU xO h
         refine rg [(10,Ht),(11,Hf),(20,Ht),(21,Hf),(27,Hg),(28,Hg),(29,Hg),(30,Hf),(31,Hf),(37,Hg),(38,Hg),(39,Hg),(40,Hg),(41,Hf),(42,Hf)] [1,3,62] [0,1] 2 [Pp 0,Pp 1,.bool false] [Vb 42 (z7 e_1),Vb 127 (yC r_1.1)] zG (ac zI (ac zI (ac zI (ac zI (ac zW (ac zW (ac zW (ac zI (ac zW (ac zI (ac z4 (ac z4 (ac z4 (ac z4 (ac yW (ac yW (ac yW (ac z4 (ac yW (ac z4 (ac xV (ac xV (ac xV (ac xV (ac xS (ac xS (ac xS (ac xV (ac xS (ac xV (ar false (ar false (ar false (ar false (ac xO (ac xO (ac xO (ac xO (ar false (ac xO (ar false an))))))))))))))))))))))))))))))))))))))))) ?_
         cases h
         exact ⟨rfl,(sw [0,1] [] [.s 1,.s 3,.s 62] [.s 0,.s 1] an)⟩
     ·replace h:=zU yW h
      rcases bft (!r_1.1.m) with x8 | x8
      ·replace h:=zV x8 h
       rcases bft (e_1.M != (0:Int)) with wK | wK
       ·replace h:=zV wK h
        refine rg [(10,Ht),(11,Hf),(17,Hg),(18,Hg),(19,Hg),(20,Hf),(21,Hf),(30,Ht),(31,Hf),(33,Hg),(34,Hg),(35,Hg),(36,Hg),(41,Hg),(42,Ht)] [1,3,62] [0,1] 2 [Pp 0,Pp 1,.bool true] [Vb 42 (z7 e_1),Vb 127 (yC r_1.1)] zG (ac zI (ac zI (ac zI (ac zI (ac zW (ac zW (ac zW (ac zI (ac zW (ac zI (ac z4 (ac z4 (ac z4 (ac z4 (ac yW (ac yW (ac yW (ac z4 (ac yW (ac z4 (ar false (ar false (ar false (ar false (ac x8 (ac x8 (ac x8 (ar false (ac x8 (ar false (ac wK (ac wK (ac wK (ac wK (ac wK (ac wK an)))))))))))))))))))))))))))))))))))) ?_
        cases h
        exact ⟨rfl,(sw [0,1] [] [.s 1,.s 3,.s 62] [.s 0,.s 1] an)⟩
       ·replace h:=zU wK h
        rcases bft (!r_1.1.stack) with uL | uL
        ·replace h:=zV uL h
         refine rg [(10,Ht),(11,Hf),(17,Hg),(18,Hg),(19,Hg),(20,Hf),(21,Hf),(30,Ht),(31,Hf),(39,{ n:=(e_1.Stack).length }),(41,Ht),(42,Hf)] [1,3,62] [0,1] 2 [Pp 0,Pp 1,.bool (decide ((lN (e_1.Stack))>(0:Int)))] [Vb 42 (z7 e_1),Vb 127 (yC r_1.1)] zG (ac zI (ac zI (ac zI (ac zI (ac zW (ac zW (ac zW (ac zI (ac zW (ac zI (ac z4 (ac z4 (ac z4 (ac z4 (ac yW (ac yW (ac yW (ac z4 (ac yW (ac z4 (ar false (ar false (ar false (ar false (ac x8 (ac x8 (ac x8 (ar false (ac x8 (ar false (ac wK (ac wK (ac wK (ac wK (ac uL (ac uL (ac uL (ac (yG _:((Ms e_1.Stack)).length=(e_1.Stack).length) (ac uL (ac wK (ac uL (ac wK an)))))))))))))))))))))))))))))))))))))))))) ?_
         cases h
         exact ⟨rfl,(sw [0,1] [] [.s 1,.s 3,.s 62] [.s 0,.s 1] an)⟩
        ·replace h:=zU uL h
         refine rg [(10,Ht),(11,Hf),(17,Hg),(18,Hg),(19,Hg),(20,Hf),(21,Hf),(30,Ht),(31,Hf),(37,Hg),(38,Hg),(39,Hg),(40,Hg),(41,Hf),(42,Hf)] [1,3,62] [0,1] 2 [Pp 0,Pp 1,.bool false] [Vb 42 (z7 e_1),Vb 127 (yC r_1.1)] zG (ac zI (ac zI (ac zI (ac zI (ac zW (ac zW (ac zW (ac zI (ac zW (ac zI (ac z4 (ac z4 (ac z4 (ac z4 (ac yW (ac yW (ac yW (ac z4 (ac yW (ac z4 (ar false (ar false (ar false (ar false (ac x8 (ac x8 (ac x8 (ar false (ac x8 (ar false (ac wK (ac wK (ac wK (ac wK (ac uL (ac uL (ac uL (ac uL (ac wK (ac uL (ac wK an))))))))))))))))))))))))))))))))))))))))) ?_
         cases h
         exact ⟨rfl,(sw [0,1] [] [.s 1,.s 3,.s 62] [.s 0,.s 1] an)⟩
      ·replace h:=zU x8 h
       rcases bft (!r_1.1.stack) with uU | uU
       ·replace h:=zV uU h
        refine rg [(10,Ht),(11,Hf),(17,Hg),(18,Hg),(19,Hg),(20,Hf),(21,Hf),(27,Hg),(28,Hg),(29,Hg),(30,Hf),(31,Hf),(39,{ n:=(e_1.Stack).length }),(41,Ht),(42,Hf)] [1,3,62] [0,1] 2 [Pp 0,Pp 1,.bool (decide ((lN (e_1.Stack))>(0:Int)))] [Vb 42 (z7 e_1),Vb 127 (yC r_1.1)] zG (ac zI (ac zI (ac zI (ac zI (ac zW (ac zW (ac zW (ac zI (ac zW (ac zI (ac z4 (ac z4 (ac z4 (ac z4 (ac yW (ac yW (ac yW (ac z4 (ac yW (ac z4 (ar false (ar false (ar false (ar false (ac x8 (ac x8 (ac x8 (ar false (ac x8 (ar false (ar false (ar false (ar false (ar false (ac uU (ac uU (ac uU (ac (yG _:((Ms e_1.Stack)).length=(e_1.Stack).length) (ac uU (ar false (ac uU (ar false an)))))))))))))))))))))))))))))))))))))))))) ?_
        cases h
        exact ⟨rfl,(sw [0,1] [] [.s 1,.s 3,.s 62] [.s 0,.s 1] an)⟩
       ·replace h:=zU uU h
        refine rg [(10,Ht),(11,Hf),(17,Hg),(18,Hg),(19,Hg),(20,Hf),(21,Hf),(27,Hg),(28,Hg),(29,Hg),(30,Hf),(31,Hf),(37,Hg),(38,Hg),(39,Hg),(40,Hg),(41,Hf),(42,Hf)] [1,3,62] [0,1] 2 [Pp 0,Pp 1,.bool false] [Vb 42 (z7 e_1),Vb 127 (yC r_1.1)] zG (ac zI (ac zI (ac zI (ac zI (ac zW (ac zW (ac zW (ac zI (ac zW (ac zI (ac z4 (ac z4 (ac z4 (ac z4 (ac yW (ac yW (ac yW (ac z4 (ac yW (ac z4 (ar false (ar false (ar false (ar false (ac x8 (ac x8 (ac x8 (ar false (ac x8 (ar false (ar false (ar false (ar false (ar false (ac uU (ac uU (ac uU (ac uU (ar false (ac uU (ar false an))))))))))))))))))))))))))))))))))))))))) ?_
        cases h
        exact ⟨rfl,(sw [0,1] [] [.s 1,.s 3,.s 62] [.s 0,.s 1] an)⟩
   ·replace h:=zU zW h
    rcases bft (!r_1.1.n) with wF | wF
    ·replace h:=zV wF h
     rcases bft (e_1.N != (0:Int)) with wZ | wZ
     ·replace h:=zV wZ h
      refine rg [(7,Hg),(8,Hg),(9,Hg),(10,Hf),(11,Hf),(20,Ht),(21,Hf),(23,Hg),(24,Hg),(25,Hg),(26,Hg),(30,Hg),(31,Ht),(33,Hg),(34,Hg),(35,Hg),(36,Hg),(41,Hg),(42,Ht)] [1,3,62] [0,1] 2 [Pp 0,Pp 1,.bool true] [Vb 42 (z7 e_1),Vb 127 (yC r_1.1)] zG (ac zI (ac zI (ac zI (ac zI (ac zW (ac zW (ac zW (ac zI (ac zW (ac zI (ar false (ar false (ar false (ar false (ac wF (ac wF (ac wF (ar false (ac wF (ar false (ac wZ (ac wZ (ac wZ (ac wZ (ac wZ (ac wZ (ax (ax (ax (ax (ax (ar true an)))))))))))))))))))))))))))))))) ?_
      cases h
      exact ⟨rfl,(sw [0,1] [] [.s 1,.s 3,.s 62] [.s 0,.s 1] an)⟩
     ·replace h:=zU wZ h
      rcases bft (!r_1.1.m) with u3 | u3
      ·replace h:=zV u3 h
       rcases bft (e_1.M != (0:Int)) with tI | tI
       ·replace h:=zV tI h
        refine rg [(7,Hg),(8,Hg),(9,Hg),(10,Hf),(11,Hf),(20,Ht),(21,Hf),(30,Ht),(31,Hf),(33,Hg),(34,Hg),(35,Hg),(36,Hg),(41,Hg),(42,Ht)] [1,3,62] [0,1] 2 [Pp 0,Pp 1,.bool true] [Vb 42 (z7 e_1),Vb 127 (yC r_1.1)] zG (ac zI (ac zI (ac zI (ac zI (ac zW (ac zW (ac zW (ac zI (ac zW (ac zI (ar false (ar false (ar false (ar false (ac wF (ac wF (ac wF (ar false (ac wF (ar false (ac wZ (ac wZ (ac wZ (ac wZ (ac u3 (ac u3 (ac u3 (ac wZ (ac u3 (ac wZ (ac tI (ac tI (ac tI (ac tI (ac tI (ac tI an)))))))))))))))))))))))))))))))))))) ?_
        cases h
        exact ⟨rfl,(sw [0,1] [] [.s 1,.s 3,.s 62] [.s 0,.s 1] an)⟩
       ·replace h:=zU tI h
        rcases bft (!r_1.1.stack) with k9 | k9
        ·replace h:=zV k9 h
         refine rg [(7,Hg),(8,Hg),(9,Hg),(10,Hf),(11,Hf),(20,Ht),(21,Hf),(30,Ht),(31,Hf),(39,{ n:=(e_1.Stack).length }),(41,Ht),(42,Hf)] [1,3,62] [0,1] 2 [Pp 0,Pp 1,.bool (decide ((lN (e_1.Stack))>(0:Int)))] [Vb 42 (z7 e_1),Vb 127 (yC r_1.1)] zG (ac zI (ac zI (ac zI (ac zI (ac zW (ac zW (ac zW (ac zI (ac zW (ac zI (ar false (ar false (ar false (ar false (ac wF (ac wF (ac wF (ar false (ac wF (ar false (ac wZ (ac wZ (ac wZ (ac wZ (ac u3 (ac u3 (ac u3 (ac wZ (ac u3 (ac wZ (ac tI (ac tI (ac tI (ac tI (ac k9 (ac k9 (ac k9 (ac (yG _:((Ms e_1.Stack)).length=(e_1.Stack).length) (ac k9 (ac tI (ac k9 (ac tI an)))))))))))))))))))))))))))))))))))))))))) ?_
         cases h
         exact ⟨rfl,(sw [0,1] [] [.s 1,.s 3,.s 62] [.s 0,.s 1] an)⟩
        ·replace h:=zU k9 h
         refine rg [(7,Hg),(8,Hg),(9,Hg),(10,Hf),(11,Hf),(20,Ht),(21,Hf),(30,Ht),(31,Hf),(37,Hg),(38,Hg),(39,Hg),(40,Hg),(41,Hf),(42,Hf)] [1,3,62] [0,1] 2 [Pp 0,Pp 1,.bool false] [Vb 42 (z7 e_1),Vb 127 (yC r_1.1)] zG (ac zI (ac zI (ac zI (ac zI (ac zW (ac zW (ac zW (ac zI (ac zW (ac zI (ar false (ar false (ar false (ar false (ac wF (ac wF (ac wF (ar false (ac wF (ar false (ac wZ (ac wZ (ac wZ (ac wZ (ac u3 (ac u3 (ac u3 (ac wZ (ac u3 (ac wZ (ac tI (ac tI (ac tI (ac tI (ac k9 (ac k9 (ac k9 (ac k9 (ac tI (ac k9 (ac tI an))))))))))))))))))))))))))))))))))))))))) ?_
         cases h
         exact ⟨rfl,(sw [0,1] [] [.s 1,.s 3,.s 62] [.s 0,.s 1] an)⟩
      ·replace h:=zU u3 h
       rcases bft (!r_1.1.stack) with pA | pA
       ·replace h:=zV pA h
        refine rg [(7,Hg),(8,Hg),(9,Hg),(10,Hf),(11,Hf),(20,Ht),(21,Hf),(27,Hg),(28,Hg),(29,Hg),(30,Hf),(31,Hf),(39,{ n:=(e_1.Stack).length }),(41,Ht),(42,Hf)] [1,3,62] [0,1] 2 [Pp 0,Pp 1,.bool (decide ((lN (e_1.Stack))>(0:Int)))] [Vb 42 (z7 e_1),Vb 127 (yC r_1.1)] zG (ac zI (ac zI (ac zI (ac zI (ac zW (ac zW (ac zW (ac zI (ac zW (ac zI (ar false (ar false (ar false (ar false (ac wF (ac wF (ac wF (ar false (ac wF (ar false (ac wZ (ac wZ (ac wZ (ac wZ (ac u3 (ac u3 (ac u3 (ac wZ (ac u3 (ac wZ (ar false (ar false (ar false (ar false (ac pA (ac pA (ac pA (ac (yG _:((Ms e_1.Stack)).length=(e_1.Stack).length) (ac pA (ar false (ac pA (ar false an)))))))))))))))))))))))))))))))))))))))))) ?_
        cases h
        exact ⟨rfl,(sw [0,1] [] [.s 1,.s 3,.s 62] [.s 0,.s 1] an)⟩
       ·replace h:=zU pA h
        refine rg [(7,Hg),(8,Hg),(9,Hg),(10,Hf),(11,Hf),(20,Ht),(21,Hf),(27,Hg),(28,Hg),(29,Hg),(30,Hf),(31,Hf),(37,Hg),(38,Hg),(39,Hg),(40,Hg),(41,Hf),(42,Hf)] [1,3,62] [0,1] 2 [Pp 0,Pp 1,.bool false] [Vb 42 (z7 e_1),Vb 127 (yC r_1.1)] zG (ac zI (ac zI (ac zI (ac zI (ac zW (ac zW (ac zW (ac zI (ac zW (ac zI (ar false (ar false (ar false (ar false (ac wF (ac wF (ac wF (ar false (ac wF (ar false (ac wZ (ac wZ (ac wZ (ac wZ (ac u3 (ac u3 (ac u3 (ac wZ (ac u3 (ac wZ (ar false (ar false (ar false (ar false (ac pA (ac pA (ac pA (ac pA (ar false (ac pA (ar false an))))))))))))))))))))))))))))))))))))))))) ?_
        cases h
        exact ⟨rfl,(sw [0,1] [] [.s 1,.s 3,.s 62] [.s 0,.s 1] an)⟩
    ·replace h:=zU wF h
     rcases bft (!r_1.1.m) with u4 | u4
     ·replace h:=zV u4 h
      rcases bft (e_1.M != (0:Int)) with tJ | tJ
      ·replace h:=zV tJ h
       refine rg [(7,Hg),(8,Hg),(9,Hg),(10,Hf),(11,Hf),(17,Hg),(18,Hg),(19,Hg),(20,Hf),(21,Hf),(30,Ht),(31,Hf),(33,Hg),(34,Hg),(35,Hg),(36,Hg),(41,Hg),(42,Ht)] [1,3,62] [0,1] 2 [Pp 0,Pp 1,.bool true] [Vb 42 (z7 e_1),Vb 127 (yC r_1.1)] zG (ac zI (ac zI (ac zI (ac zI (ac zW (ac zW (ac zW (ac zI (ac zW (ac zI (ar false (ar false (ar false (ar false (ac wF (ac wF (ac wF (ar false (ac wF (ar false (ar false (ar false (ar false (ar false (ac u4 (ac u4 (ac u4 (ar false (ac u4 (ar false (ac tJ (ac tJ (ac tJ (ac tJ (ac tJ (ac tJ an)))))))))))))))))))))))))))))))))))) ?_
       cases h
       exact ⟨rfl,(sw [0,1] [] [.s 1,.s 3,.s 62] [.s 0,.s 1] an)⟩
      ·replace h:=zU tJ h
       rcases bft (!r_1.1.stack) with pB | pB
       ·replace h:=zV pB h
        refine rg [(7,Hg),(8,Hg),(9,Hg),(10,Hf),(11,Hf),(17,Hg),(18,Hg),(19,Hg),(20,Hf),(21,Hf),(30,Ht),(31,Hf),(39,{ n:=(e_1.Stack).length }),(41,Ht),(42,Hf)] [1,3,62] [0,1] 2 [Pp 0,Pp 1,.bool (decide ((lN (e_1.Stack))>(0:Int)))] [Vb 42 (z7 e_1),Vb 127 (yC r_1.1)] zG (ac zI (ac zI (ac zI (ac zI (ac zW (ac zW (ac zW (ac zI (ac zW (ac zI (ar false (ar false (ar false (ar false (ac wF (ac wF (ac wF (ar false (ac wF (ar false (ar false (ar false (ar false (ar false (ac u4 (ac u4 (ac u4 (ar false (ac u4 (ar false (ac tJ (ac tJ (ac tJ (ac tJ (ac pB (ac pB (ac pB (ac (yG _:((Ms e_1.Stack)).length=(e_1.Stack).length) (ac pB (ac tJ (ac pB (ac tJ an)))))))))))))))))))))))))))))))))))))))))) ?_
        cases h
        exact ⟨rfl,(sw [0,1] [] [.s 1,.s 3,.s 62] [.s 0,.s 1] an)⟩
       ·replace h:=zU pB h
        refine rg [(7,Hg),(8,Hg),(9,Hg),(10,Hf),(11,Hf),(17,Hg),(18,Hg),(19,Hg),(20,Hf),(21,Hf),(30,Ht),(31,Hf),(37,Hg),(38,Hg),(39,Hg),(40,Hg),(41,Hf),(42,Hf)] [1,3,62] [0,1] 2 [Pp 0,Pp 1,.bool false] [Vb 42 (z7 e_1),Vb 127 (yC r_1.1)] zG (ac zI (ac zI (ac zI (ac zI (ac zW (ac zW (ac zW (ac zI (ac zW (ac zI (ar false (ar false (ar false (ar false (ac wF (ac wF (ac wF (ar false (ac wF (ar false (ar false (ar false (ar false (ar false (ac u4 (ac u4 (ac u4 (ar false (ac u4 (ar false (ac tJ (ac tJ (ac tJ (ac tJ (ac pB (ac pB (ac pB (ac pB (ac tJ (ac pB (ac tJ an))))))))))))))))))))))))))))))))))))))))) ?_
        cases h
        exact ⟨rfl,(sw [0,1] [] [.s 1,.s 3,.s 62] [.s 0,.s 1] an)⟩
     ·replace h:=zU u4 h
      rcases bft (!r_1.1.stack) with pC | pC
      ·replace h:=zV pC h
       refine rg [(7,Hg),(8,Hg),(9,Hg),(10,Hf),(11,Hf),(17,Hg),(18,Hg),(19,Hg),(20,Hf),(21,Hf),(27,Hg),(28,Hg),(29,Hg),(30,Hf),(31,Hf),(39,{ n:=(e_1.Stack).length }),(41,Ht),(42,Hf)] [1,3,62] [0,1] 2 [Pp 0,Pp 1,.bool (decide ((lN (e_1.Stack))>(0:Int)))] [Vb 42 (z7 e_1),Vb 127 (yC r_1.1)] zG (ac zI (ac zI (ac zI (ac zI (ac zW (ac zW (ac zW (ac zI (ac zW (ac zI (ar false (ar false (ar false (ar false (ac wF (ac wF (ac wF (ar false (ac wF (ar false (ar false (ar false (ar false (ar false (ac u4 (ac u4 (ac u4 (ar false (ac u4 (ar false (ar false (ar false (ar false (ar false (ac pC (ac pC (ac pC (ac (yG _:((Ms e_1.Stack)).length=(e_1.Stack).length) (ac pC (ar false (ac pC (ar false an)))))))))))))))))))))))))))))))))))))))))) ?_
       cases h
       exact ⟨rfl,(sw [0,1] [] [.s 1,.s 3,.s 62] [.s 0,.s 1] an)⟩
      ·replace h:=zU pC h
       refine rg [(7,Hg),(8,Hg),(9,Hg),(10,Hf),(11,Hf),(17,Hg),(18,Hg),(19,Hg),(20,Hf),(21,Hf),(27,Hg),(28,Hg),(29,Hg),(30,Hf),(31,Hf),(37,Hg),(38,Hg),(39,Hg),(40,Hg),(41,Hf),(42,Hf)] [1,3,62] [0,1] 2 [Pp 0,Pp 1,.bool false] [Vb 42 (z7 e_1),Vb 127 (yC r_1.1)] zG (ac zI (ac zI (ac zI (ac zI (ac zW (ac zW (ac zW (ac zI (ac zW (ac zI (ar false (ar false (ar false (ar false (ac wF (ac wF (ac wF (ar false (ac wF (ar false (ar false (ar false (ar false (ar false (ac u4 (ac u4 (ac u4 (ar false (ac u4 (ar false (ar false (ar false (ar false (ar false (ac pC (ac pC (ac pC (ac pC (ar false (ac pC (ar false an))))))))))))))))))))))))))))))))))))))))) ?_
       cases h
       exact ⟨rfl,(sw [0,1] [] [.s 1,.s 3,.s 62] [.s 0,.s 1] an)⟩
 refine cd 62 p_1 ?_ ?_
 ·intro g_2;replace h:=zV g_2 h
  refine sr [] [2] [] 2 [Ii 1] [] zG an ?_
  refine rt ?_
  cases h
  exact ⟨.inr rfl,Nat.le_of_ble_eq_true rfl,by kernel_rfl⟩
 intro g_2;replace h:=zU g_2 h
 refine sk ?_
 refine sq ?_
 refine sq ?_
 obtain ⟨r_2,h_3,h⟩:=bind_some h
 refine rg [(2,{ av:=Ii r_2,l:=[xX r_1.1,zD e_1] })] [1,3,5] [0,1] 2 [Pp 0,Pp 1,Ii r_2] [Vb 42 (z7 e_1),Vb 127 (yC r_1.1)] zG (ar ([xX r_1.1,zD e_1]:List AV) (ac (rfl:([]:List zM)=[]) (ac (zFO F r_1.1 e_1 r_2 h_3:zX prog 85 [] [] [xX r_1.1,zD e_1] [] (Ii r_2)) an))) ?_
 refine sr [] [1,3,5,67] [0,1] 2 [Pp 0,Pp 1,Ii r_2,.bool (r_2 != (0:Int))] [Vb 42 (z7 e_1),Vb 127 (yC r_1.1)] zG an ?_
 refine cd 67 (r_2 != (0:Int)) ?_ ?_
 ·intro g_3;replace h:=zV g_3 h
  refine sr [] [2] [] 2 [Ii r_2] [] zG an ?_
  refine rt ?_
  cases h
  exact ⟨.inr rfl,Nat.le_of_ble_eq_true rfl,by kernel_rfl⟩
 intro g_3;replace h:=zU g_3 h
 refine sk ?_
 refine sq ?_
 refine yZ (id:=0) (by kernel_rfl) ?_
 refine sq ?_
 refine wI (mk [(1,Pp 0),(3,Pp 1),(69,.bool (r_1.1.n&&(decide (e_1.N<r_1.1.least)||decide (e_1.N>r_1.1.most))))] [(0,Vb 42 (z7 e_1)),(1,Vb 127 (yC r_1.1))] 2) ?_ ?_
 ·rcases Bool.eq_false_or_eq_true r_1.1.n with v8 | v8
  ·rcases bft (decide (e_1.N<r_1.1.least)) with j4 | j4
   ·refine rg [(9,Hg),(10,Hg),(11,Hg),(12,Hg),(13,Hg),(14,Ht),(15,Ht)] [1,3,69] [0,1] 2 [Pp 0,Pp 1,.bool true] [Vb 42 (z7 e_1),Vb 127 (yC r_1.1)] zG (ac v8 (ac v8 (ac v8 (ac v8 (ac v8 (ac v8 (ac j4 (ac j4 (ac j4 (ac j4 (ac j4 (ac v8 (ac j4 (ac v8 an)))))))))))))) ?_
    exact ⟨rfl,(sw [0,1] [] [.s 1,.s 3,.a 69 (.bool (r_1.1.n&&(decide (e_1.N<r_1.1.least)||decide (e_1.N>r_1.1.most))))] [.s 0,.s 1] (ac (congrArg AV.bool (tQ v8 (ort j4)):(.bool true:AV)=.bool (r_1.1.n&&(decide (e_1.N<r_1.1.least)||decide (e_1.N>r_1.1.most)))) an))⟩
   ·refine rg [(14,Hf),(15,Ht)] [1,3,69] [0,1] 2 [Pp 0,Pp 1,.bool (decide (e_1.N>r_1.1.most))] [Vb 42 (z7 e_1),Vb 127 (yC r_1.1)] zG (ac v8 (ac v8 (ac v8 (ac v8 (ac v8 (ac v8 (ac j4 (ac j4 (ac j4 (ac j4 (ac j4 (ac v8 (ac j4 (ac v8 an)))))))))))))) ?_
    exact ⟨rfl,(sw [0,1] [] [.s 1,.s 3,.a 69 (.bool (r_1.1.n&&(decide (e_1.N<r_1.1.least)||decide (e_1.N>r_1.1.most))))] [.s 0,.s 1] (ac (congrArg AV.bool (tQ v8 (orf j4 rfl)):(.bool (decide (e_1.N>r_1.1.most)):AV)=.bool (r_1.1.n&&(decide (e_1.N<r_1.1.least)||decide (e_1.N>r_1.1.most)))) an))⟩
  ·refine rg [(3,Hg),(4,Hg),(5,Hg),(6,Hg),(7,Hg),(8,Hg),(14,Hg),(15,Hf)] [1,3,69] [0,1] 2 [Pp 0,Pp 1,.bool false] [Vb 42 (z7 e_1),Vb 127 (yC r_1.1)] zG (ac v8 (ac v8 (ac v8 (ac v8 (ac v8 (ac v8 (ac v8 (ac v8 an)))))))) ?_
   exact ⟨rfl,(sw [0,1] [] [.s 1,.s 3,.a 69 (.bool (r_1.1.n&&(decide (e_1.N<r_1.1.least)||decide (e_1.N>r_1.1.most))))] [.s 0,.s 1] (ac (congrArg AV.bool (zAR v8):(.bool false:AV)=.bool (r_1.1.n&&(decide (e_1.N<r_1.1.least)||decide (e_1.N>r_1.1.most)))) an))⟩
 refine cd 69 (r_1.1.n&&(decide (e_1.N<r_1.1.least)||decide (e_1.N>r_1.1.most))) ?_ ?_
 ·intro g_4;replace h:=zV g_4 h
  refine sr [] [2] [] 2 [Ii 2] [] zG an ?_
  refine rt ?_
  cases h
  exact ⟨.inr rfl,Nat.le_of_ble_eq_true rfl,by kernel_rfl⟩
 intro g_4;replace h:=zU g_4 h
 refine sq ?_
 refine wI (mk [(1,Pp 0),(3,Pp 1),(86,.bool ((e_1.Kind==(9:Int))&&((e_1.N != (2:Int))&&(e_1.M != (0:Int)))))] [(0,Vb 42 (z7 e_1)),(1,Vb 127 (yC r_1.1))] 2) ?_ ?_
 ·rcases bft (e_1.Kind==(9:Int)) with q9 | q9
  ·rcases bft (e_1.N != (2:Int)) with nZ | nZ
   ·refine rg [(7,Ht),(12,Ht)] [1,3,86] [0,1] 2 [Pp 0,Pp 1,.bool (e_1.M != (0:Int))] [Vb 42 (z7 e_1),Vb 127 (yC r_1.1)] zG (ac q9 (ac q9 (ac q9 (ac q9 (ac nZ (ac nZ (ac nZ (ac nZ an)))))))) ?_
    exact ⟨rfl,(sw [0,1] [] [.s 1,.s 3,.a 86 (.bool ((e_1.Kind==(9:Int))&&((e_1.N != (2:Int))&&(e_1.M != (0:Int)))))] [.s 0,.s 1] (ac (congrArg AV.bool (tQ q9 (tQ nZ rfl)):(.bool (e_1.M != (0:Int)):AV)=.bool ((e_1.Kind==(9:Int))&&((e_1.N != (2:Int))&&(e_1.M != (0:Int))))) an))⟩
   ·refine rg [(7,Ht),(9,Hg),(10,Hg),(11,Hg),(12,Hf)] [1,3,86] [0,1] 2 [Pp 0,Pp 1,.bool false] [Vb 42 (z7 e_1),Vb 127 (yC r_1.1)] zG (ac q9 (ac q9 (ac q9 (ac q9 (ac nZ (ac nZ (ac nZ (ac nZ an)))))))) ?_
    exact ⟨rfl,(sw [0,1] [] [.s 1,.s 3,.a 86 (.bool ((e_1.Kind==(9:Int))&&((e_1.N != (2:Int))&&(e_1.M != (0:Int)))))] [.s 0,.s 1] (ac (congrArg AV.bool (tQ q9 (zAR nZ)):(.bool false:AV)=.bool ((e_1.Kind==(9:Int))&&((e_1.N != (2:Int))&&(e_1.M != (0:Int))))) an))⟩
  ·refine rg [(4,Hg),(5,Hg),(6,Hg),(7,Hf),(9,Hg),(10,Hg),(11,Hg),(12,Hf)] [1,3,86] [0,1] 2 [Pp 0,Pp 1,.bool false] [Vb 42 (z7 e_1),Vb 127 (yC r_1.1)] zG (ac q9 (ac q9 (ac q9 (ac q9 (ac (rfl:false=!true) (ac (rfl:false=!true) (ac (rfl:false=!true) (ar false an)))))))) ?_
   exact ⟨rfl,(sw [0,1] [] [.s 1,.s 3,.a 86 (.bool ((e_1.Kind==(9:Int))&&((e_1.N != (2:Int))&&(e_1.M != (0:Int)))))] [.s 0,.s 1] (ac (congrArg AV.bool (zAR q9):(.bool false:AV)=.bool ((e_1.Kind==(9:Int))&&((e_1.N != (2:Int))&&(e_1.M != (0:Int))))) an))⟩
 refine cd 86 ((e_1.Kind==(9:Int))&&((e_1.N != (2:Int))&&(e_1.M != (0:Int)))) ?_ ?_
 ·intro g_5;replace h:=zV g_5 h
  refine sr [] [2] [] 2 [Ii 1] [] zG an ?_
  refine rt ?_
  cases h
  exact ⟨.inr rfl,Nat.le_of_ble_eq_true rfl,by kernel_rfl⟩
 intro g_5;replace h:=zU g_5 h
 refine sq ?_
 refine wI (mk [(100,.bool (r_1.1.m&&(bif decide (e_1.M<r_1.1.mLeast) then ((e_1.Kind != (9:Int))||(e_1.N==(2:Int))) else (decide (e_1.M>r_1.1.mMost)&&((e_1.Kind != (9:Int))||(e_1.N==(2:Int)))))))] [] 0) ?_ ?_
 ·rcases Bool.eq_false_or_eq_true r_1.1.m with xZ | xZ
  ·rcases bft (decide (e_1.M<r_1.1.mLeast)) with vB | vB
   ·rcases bft (e_1.Kind != (9:Int)) with zAa | zAa
    ·refine rg [(9,Hg),(10,Hg),(11,Hg),(12,Hg),(13,Hg),(14,Ht),(15,Ht),(21,Hg),(22,Hg),(23,Hg),(24,Ht),(25,Ht)] [100] [] 2 [.bool true] [] zG (ac xZ (ac xZ (ac xZ (ac xZ (ac xZ (ac xZ (ac vB (ac vB (ac vB (ac vB (ac vB (ac xZ (ac vB (ac xZ (ar true (ar true (ar true (ar true (ac zAa (ac zAa (ac zAa (ar true (ac zAa (ar true an)))))))))))))))))))))))) ?_
     exact ⟨rfl,(sw [] [] [.a 100 (.bool (r_1.1.m&&(bif decide (e_1.M<r_1.1.mLeast) then ((e_1.Kind != (9:Int))||(e_1.N==(2:Int))) else (decide (e_1.M>r_1.1.mMost)&&((e_1.Kind != (9:Int))||(e_1.N==(2:Int)))))))] [] (ac (congrArg AV.bool (tQ xZ (ctr vB (ort zAa))):(.bool true:AV)=.bool (r_1.1.m&&(bif decide (e_1.M<r_1.1.mLeast) then ((e_1.Kind != (9:Int))||(e_1.N==(2:Int))) else (decide (e_1.M>r_1.1.mMost)&&((e_1.Kind != (9:Int))||(e_1.N==(2:Int))))))) an))⟩
    ·refine rg [(9,Hg),(10,Hg),(11,Hg),(12,Hg),(13,Hg),(14,Ht),(15,Ht),(24,Hf),(25,Ht)] [100] [] 2 [.bool (e_1.N==(2:Int))] [] zG (ac xZ (ac xZ (ac xZ (ac xZ (ac xZ (ac xZ (ac vB (ac vB (ac vB (ac vB (ac vB (ac xZ (ac vB (ac xZ (ar true (ar true (ar true (ar true (ac zAa (ac zAa (ac zAa (ar true (ac zAa (ar true an)))))))))))))))))))))))) ?_
     exact ⟨rfl,(sw [] [] [.a 100 (.bool (r_1.1.m&&(bif decide (e_1.M<r_1.1.mLeast) then ((e_1.Kind != (9:Int))||(e_1.N==(2:Int))) else (decide (e_1.M>r_1.1.mMost)&&((e_1.Kind != (9:Int))||(e_1.N==(2:Int)))))))] [] (ac (congrArg AV.bool (tQ xZ (ctr vB (orf zAa rfl))):(.bool (e_1.N==(2:Int)):AV)=.bool (r_1.1.m&&(bif decide (e_1.M<r_1.1.mLeast) then ((e_1.Kind != (9:Int))||(e_1.N==(2:Int))) else (decide (e_1.M>r_1.1.mMost)&&((e_1.Kind != (9:Int))||(e_1.N==(2:Int))))))) an))⟩
   ·rcases bft (decide (e_1.M>r_1.1.mMost)) with u9 | u9
    ·rcases bft (e_1.Kind != (9:Int)) with zAb | zAb
     ·refine rg [(14,Hf),(15,Ht),(21,Hg),(22,Hg),(23,Hg),(24,Ht),(25,Ht)] [100] [] 2 [.bool true] [] zG (ac xZ (ac xZ (ac xZ (ac xZ (ac xZ (ac xZ (ac vB (ac vB (ac vB (ac vB (ac vB (ac xZ (ac vB (ac xZ (ac u9 (ac u9 (ac u9 (ac u9 (ac zAb (ac zAb (ac zAb (ac u9 (ac zAb (ac u9 an)))))))))))))))))))))))) ?_
      exact ⟨rfl,(sw [] [] [.a 100 (.bool (r_1.1.m&&(bif decide (e_1.M<r_1.1.mLeast) then ((e_1.Kind != (9:Int))||(e_1.N==(2:Int))) else (decide (e_1.M>r_1.1.mMost)&&((e_1.Kind != (9:Int))||(e_1.N==(2:Int)))))))] [] (ac (congrArg AV.bool (tQ xZ (cfr vB (tQ u9 (ort zAb)))):(.bool true:AV)=.bool (r_1.1.m&&(bif decide (e_1.M<r_1.1.mLeast) then ((e_1.Kind != (9:Int))||(e_1.N==(2:Int))) else (decide (e_1.M>r_1.1.mMost)&&((e_1.Kind != (9:Int))||(e_1.N==(2:Int))))))) an))⟩
     ·refine rg [(14,Hf),(15,Ht),(24,Hf),(25,Ht)] [100] [] 2 [.bool (e_1.N==(2:Int))] [] zG (ac xZ (ac xZ (ac xZ (ac xZ (ac xZ (ac xZ (ac vB (ac vB (ac vB (ac vB (ac vB (ac xZ (ac vB (ac xZ (ac u9 (ac u9 (ac u9 (ac u9 (ac zAb (ac zAb (ac zAb (ac u9 (ac zAb (ac u9 an)))))))))))))))))))))))) ?_
      exact ⟨rfl,(sw [] [] [.a 100 (.bool (r_1.1.m&&(bif decide (e_1.M<r_1.1.mLeast) then ((e_1.Kind != (9:Int))||(e_1.N==(2:Int))) else (decide (e_1.M>r_1.1.mMost)&&((e_1.Kind != (9:Int))||(e_1.N==(2:Int)))))))] [] (ac (congrArg AV.bool (tQ xZ (cfr vB (tQ u9 (orf zAb rfl)))):(.bool (e_1.N==(2:Int)):AV)=.bool (r_1.1.m&&(bif decide (e_1.M<r_1.1.mLeast) then ((e_1.Kind != (9:Int))||(e_1.N==(2:Int))) else (decide (e_1.M>r_1.1.mMost)&&((e_1.Kind != (9:Int))||(e_1.N==(2:Int))))))) an))⟩
    ·refine rg [(14,Hf),(15,Ht),(17,Hg),(18,Hg),(19,Hg),(20,Hg),(24,Hg),(25,Hf)] [100] [] 2 [.bool false] [] zG (ac xZ (ac xZ (ac xZ (ac xZ (ac xZ (ac xZ (ac vB (ac vB (ac vB (ac vB (ac vB (ac xZ (ac vB (ac xZ (ac u9 (ac u9 (ac u9 (ac u9 (ac u9 (ac u9 an)))))))))))))))))))) ?_
     exact ⟨rfl,(sw [] [] [.a 100 (.bool (r_1.1.m&&(bif decide (e_1.M<r_1.1.mLeast) then ((e_1.Kind != (9:Int))||(e_1.N==(2:Int))) else (decide (e_1.M>r_1.1.mMost)&&((e_1.Kind != (9:Int))||(e_1.N==(2:Int)))))))] [] (ac (congrArg AV.bool (tQ xZ (cfr vB (zAR u9))):(.bool false:AV)=.bool (r_1.1.m&&(bif decide (e_1.M<r_1.1.mLeast) then ((e_1.Kind != (9:Int))||(e_1.N==(2:Int))) else (decide (e_1.M>r_1.1.mMost)&&((e_1.Kind != (9:Int))||(e_1.N==(2:Int))))))) an))⟩
  ·refine rg [(3,Hg),(4,Hg),(5,Hg),(6,Hg),(7,Hg),(8,Hg),(14,Hg),(15,Hf),(17,Hg),(18,Hg),(19,Hg),(20,Hg),(24,Hg),(25,Hf)] [100] [] 2 [.bool false] [] zG (ac xZ (ac xZ (ac xZ (ac xZ (ac xZ (ac xZ (ac xZ (ac xZ (ac (rfl:false=!true) (ac (rfl:false=!true) (ac (rfl:false=!true) (ac (rfl:false=!true) (ac (rfl:false=!true) (ar false an)))))))))))))) ?_
   exact ⟨rfl,(sw [] [] [.a 100 (.bool (r_1.1.m&&(bif decide (e_1.M<r_1.1.mLeast) then ((e_1.Kind != (9:Int))||(e_1.N==(2:Int))) else (decide (e_1.M>r_1.1.mMost)&&((e_1.Kind != (9:Int))||(e_1.N==(2:Int)))))))] [] (ac (congrArg AV.bool (zAR xZ):(.bool false:AV)=.bool (r_1.1.m&&(bif decide (e_1.M<r_1.1.mLeast) then ((e_1.Kind != (9:Int))||(e_1.N==(2:Int))) else (decide (e_1.M>r_1.1.mMost)&&((e_1.Kind != (9:Int))||(e_1.N==(2:Int))))))) an))⟩
 refine cd 100 (r_1.1.m&&(bif decide (e_1.M<r_1.1.mLeast) then ((e_1.Kind != (9:Int))||(e_1.N==(2:Int))) else (decide (e_1.M>r_1.1.mMost)&&((e_1.Kind != (9:Int))||(e_1.N==(2:Int)))))) ?_ ?_
 ·intro g_6;replace h:=zV g_6 h
  refine sr [] [2] [] 0 [Ii 2] [] zG an ?_
  refine rt ?_
  cases h
  exact ⟨.inr rfl,Nat.le_of_ble_eq_true rfl,by kernel_rfl⟩
 intro g_6;replace h:=zU g_6 h
 refine sk ?_
 refine sr [] [2] [] 0 [Ii 0] [] zG an ?_
 refine rt ?_
 cases h
 exact ⟨.inr rfl,Nat.le_of_ble_eq_true rfl,by kernel_rfl⟩

theorem zDR (F:Nat) (l_1:List (zH)) (r:Int) (h:jM F l_1=some r):zX prog 61 [] [] [.sl false 6 (Mp zD l_1)] [] (Ii r):=by
 refine yI (fn:=Go.Proofs.Try.f61) (code:=xQ Go.Proofs.Try.f61) (by kernel_rfl) (by kernel_rfl) (Nat.le_of_ble_eq_true (by kernel_rfl)) ?_
 unfold jM at h
 refine sr [] [0] [] 0 [.sl false 6 (Mp zD l_1)] [] zG an ?_
 refine sq ?_
 refine sr [(1,{ n:=(l_1).length })] [0,6,7,8] [] 0 [.sl false 6 (Mp zD l_1),.sl false 6 (Mp zD l_1),Ii (lN (l_1)),Ii 0] [] zG (ac (yG _:((Mp zD l_1)).length=(l_1).length) an) ?_
 obtain ⟨o_1,h_1,h⟩:=bind_some h
 refine uG (K1:=(fun e st'=>match o_1 with | (.inl q0)=>e=.normal∧Sub 0 st' (mk [] [] 0) | (.inr q1)=>e=.ret∧kE prog Go.Proofs.Try.f61 0 [] (Ii q1) st')) ?_ ?_
 ·replace h:=h_1
  refine yZ (id:=0) (by kernel_rfl) ?_
  refine wk [] [] [.s 0,.s 6,.s 7,.s 8] [] [(0,.sl false 6 (Mp zD l_1)),(6,.sl false 6 (Mp zD l_1)),(7,Ii (lN (l_1))),(8,Ii 0)] [] an ?_
  refine wP (fun n st=>∃ (v_1:Int),st=mk [(0,.sl false 6 (Mp zD l_1)),(6,.sl false 6 (Mp zD l_1)),(7,Ii (lN (l_1))),(8,Ii v_1)] [] 0∧u6 F l_1 n v_1=some o_1) F (by kernel_rfl) ⟨_,rfl,h⟩ ?_ ?_
  ·rintro _ ⟨_,_,h⟩;exact w8 (h:(none:Option (Unit⊕Int))=some o_1)
  rintro n_1 _ ⟨v_1,rfl,h⟩
  replace h:uM F l_1 (u6 F l_1 n_1) v_1=some o_1:=h
  unfold uM at h
  refine sr [] [0,6,7,8,9] [] 0 [.sl false 6 (Mp zD l_1),.sl false 6 (Mp zD l_1),Ii (lN (l_1)),Ii v_1,.bool (decide (v_1<(lN (l_1))))] [] zG an ?_
  refine sq ?_
  refine cd 9 (decide (v_1<(lN (l_1)))) ?_ ?_
  rotate_left
  ·intro g_1;replace h:=zU g_1 h
   refine w4 (id:=0) (by kernel_rfl) ?_
   cases h
   exact ⟨rfl,(sw [] [] [] [] an)⟩
  intro g_1;replace h:=zV g_1 h
  refine sk ?_
  refine sq ?_
  refine yZ (id:=1) (by kernel_rfl) ?_
  refine sq ?_
  obtain ⟨x_1,h_2,h⟩:=bind_some h
  refine rg [(1,{ av:=zD x_1 }),(3,{ id:=0 })] [0,3,4,6,7,8] [0] 1 [.sl false 6 (Mp zD l_1),Ii v_1,Pp 0,.sl false 6 (Mp zD l_1),Ii (lN (l_1)),Ii v_1] [Vb 42 (z7 x_1)] zG (ac (wA h_2:wX (Mp zD l_1) v_1=some (zD x_1)) an) ?_
  refine sq ?_
  refine sq ?_
  obtain ⟨r_1,h_3,h⟩:=bind_some h
  refine rg [(1,{ av:=Ii r_1,l:=[zD x_1] })] [0,3,4,5,6,7,8] [0] 1 [.sl false 6 (Mp zD l_1),Ii v_1,Pp 0,Ii r_1,.sl false 6 (Mp zD l_1),Ii (lN (l_1)),Ii v_1] [Vb 42 (z7 x_1)] zG (ar ([zD x_1]:List AV) (ac (rfl:([]:List zM)=[]) (ac (zFL F x_1 r_1 h_3:zX prog 74 [] [] [zD x_1] [] (Ii r_1)) an))) ?_
  refine sr [] [0,3,4,5,6,7,8,16] [0] 1 [.sl false 6 (Mp zD l_1),Ii v_1,Pp 0,Ii r_1,.sl false 6 (Mp zD l_1),Ii (lN (l_1)),Ii v_1,.bool (r_1 != (0:Int))] [Vb 42 (z7 x_1)] zG an ?_
  refine cd 16 (r_1 != (0:Int)) ?_ ?_
  ·intro g_2;replace h:=zV g_2 h
   refine sr [] [2] [] 1 [Ii r_1] [] zG an ?_
   refine rt ?_
   cases h
   exact ⟨rfl,Nat.le_of_ble_eq_true rfl,by kernel_rfl⟩
  intro g_2;replace h:=zU g_2 h
  refine sk ?_
  refine sq ?_
  obtain ⟨p_1,h_5,h⟩:=bind_some h
  refine wI (mk [(0,.sl false 6 (Mp zD l_1)),(6,.sl false 6 (Mp zD l_1)),(7,Ii (lN (l_1))),(8,Ii v_1),(30,.bool p_1)] [] 0) ?_ ?_
  ·replace h:=h_5
   rcases bft (decide (v_1>(0:Int))) with z4 | z4
   ·replace h:=zV z4 h
    obtain ⟨x_2,h_4,h⟩:=bind_some h
    refine rg [(8,{ av:=zD x_2 }),(12,Ht)] [0,6,7,8,21,22,23,24,25,26,27,28,29,30] [0] 1 [.sl false 6 (Mp zD l_1),.sl false 6 (Mp zD l_1),Ii (lN (l_1)),Ii v_1,Pp 0,Ii x_1.At,.sl false 6 (Mp zD l_1),Ii v_1,Ii (zP (v_1 - (1:Int))),.ref (zD x_2),.ref (Ii x_2.At),Ii x_2.At,.bool (decide (x_1.At<x_2.At)),.bool (decide (x_1.At<x_2.At))] [Vb 42 (z7 x_1)] zG (ac z4 (ac z4 (ac z4 (ac z4 (ac z4 (ac z4 (ac (wA h_4:wX (Mp zD l_1) (zP (v_1 - (1:Int)))=some (zD x_2)) (ac z4 (ac z4 (ac z4 (ac z4 an))))))))))) ?_
    cases h
    exact ⟨rfl,(sw [] [] [.s 0,.s 6,.s 7,.s 8,.s 30] [] an)⟩
   ·replace h:=zU z4 h
    refine rg [(3,Hg),(4,Hg),(5,Hg),(6,Hg),(7,Hg),(8,Hg),(9,Hg),(10,Hg),(11,Hg),(12,Hf)] [0,6,7,8,21,22,23,24,25,26,27,28,29,30] [] 1 [.sl false 6 (Mp zD l_1),.sl false 6 (Mp zD l_1),Ii (lN (l_1)),Ii v_1,.tuple [],.tuple [],.tuple [],.tuple [],.tuple [],.tuple [],.tuple [],.tuple [],.tuple [],.bool false] [] zG (ac z4 (ac z4 (ac z4 (ac z4 (ac z4 (ac z4 (ac z4 (ac z4 (ac z4 (ac z4 an)))))))))) ?_
    cases h
    exact ⟨rfl,(sw [] [] [.s 0,.s 6,.s 7,.s 8,.s 30] [] an)⟩
  refine cd 30 p_1 ?_ ?_
  rotate_left
  ·intro g_3;replace h:=zU g_3 h
   refine sk ?_
   refine rg [] [0,6,7,8] [] 0 [.sl false 6 (Mp zD l_1),.sl false 6 (Mp zD l_1),Ii (lN (l_1)),Ii (zP (v_1+(1:Int)))] [] zG an ?_
   exact ⟨_,(sw [] [] [.s 0,.s 6,.s 7,.s 8] [] an),_,rfl,h⟩
  intro g_3;replace h:=zV g_3 h
  refine sr [] [2] [] 0 [Ii 11] [] zG an ?_
  refine rt ?_
  cases h
  exact ⟨rfl,Nat.le_of_ble_eq_true rfl,by kernel_rfl⟩
 intro e st1 hk
 rcases o_1 with q_1 | q_2
 rotate_left
 ·obtain ⟨rfl,hf⟩:=hk
  cases h
  exact ⟨st1,Sub.refl _ _,.inr rfl,hf⟩
 obtain ⟨rfl,hs⟩:=hk
 refine ⟨_,hs,?_⟩
 refine sr [] [2] [] 0 [Ii 0] [] zG an ?_
 refine rt ?_
 cases h
 exact ⟨.inr rfl,Nat.le_of_ble_eq_true rfl,by kernel_rfl⟩

theorem kF (F:Nat) (p_1:zB) (r:Int) (h:jD F p_1=some r):zX prog 43 [] [] [zA p_1] [] (Ii r):=by
 refine yI (fn:=Go.Proofs.Try.f43) (code:=xQ Go.Proofs.Try.f43) (by kernel_rfl) (by kernel_rfl) (Nat.le_of_ble_eq_true (by kernel_rfl)) ?_
 unfold jD at h
 refine sr [(0,{ id:=0 })] [1] [0] 1 [Pp 0] [Vb 59 (zR p_1)] zG an ?_
 refine sq ?_
 refine sr [(6,{ id:=1 })] [1,11,12,13] [0,1] 2 [Pp 0,.own 1 3,Ii ((3:Nat):Int),Ii 0] [Vb 59 (zR p_1),Rb 3 1 (Mi ([p_1.Thread,p_1.Serial,p_1.Lost]:List Int))] zG an ?_
 obtain ⟨o_1,h_1,h⟩:=bind_some h
 refine uG (K1:=(fun e st'=>match o_1 with | (.inl q0)=>e=.normal∧Sub 0 st' (mk [(1,Pp 0)] [(0,Vb 59 (zR p_1))] 1) | (.inr q1)=>e=.ret∧kE prog Go.Proofs.Try.f43 0 [] (Ii q1) st')) ?_ ?_
 ·replace h:=h_1
  refine yZ (id:=0) (by kernel_rfl) ?_
  refine wk [0,1] [] [.s 1,.a 11 (.own 1 ((([p_1.Thread,p_1.Serial,p_1.Lost]:List Int)).length)),.s 12,.s 13] [.s 0,.s 1] [(1,Pp 0),(11,.own 1 ((([p_1.Thread,p_1.Serial,p_1.Lost]:List Int)).length)),(12,Ii ((3:Nat):Int)),(13,Ii 0)] [(0,Vb 59 (zR p_1)),(1,Rb 3 1 (Mi ([p_1.Thread,p_1.Serial,p_1.Lost]:List Int)))] (ac (congrArg (AV.own _) (by first | (simp;done) | (simp;omega)):(.own 1 3:AV)=.own 1 ((([p_1.Thread,p_1.Serial,p_1.Lost]:List Int)).length)) an) ?_
  refine wP (fun n st=>∃ (v_1:Int),st=mk [(1,Pp 0),(11,.own 1 ((([p_1.Thread,p_1.Serial,p_1.Lost]:List Int)).length)),(12,Ii ((3:Nat):Int)),(13,Ii v_1)] [(0,Vb 59 (zR p_1)),(1,Rb 3 1 (Mi ([p_1.Thread,p_1.Serial,p_1.Lost]:List Int)))] 2∧qQ F p_1 n v_1=some o_1) F (by kernel_rfl) ⟨_,rfl,h⟩ ?_ ?_
  ·rintro _ ⟨_,_,h⟩;exact w8 (h:(none:Option (Unit⊕Int))=some o_1)
  rintro n_1 _ ⟨v_1,rfl,h⟩
  replace h:wY F p_1 (qQ F p_1 n_1) v_1=some o_1:=h
  unfold wY at h
  refine sr [] [1,11,12,13,14] [0,1] 2 [Pp 0,.own 1 ((([p_1.Thread,p_1.Serial,p_1.Lost]:List Int)).length),Ii ((3:Nat):Int),Ii v_1,.bool (decide (v_1<((3:Nat):Int)))] [Vb 59 (zR p_1),Rb 3 1 (Mi ([p_1.Thread,p_1.Serial,p_1.Lost]:List Int))] zG an ?_
  refine sq ?_
  refine cd 14 (decide (v_1<((3:Nat):Int))) ?_ ?_
  rotate_left
  ·intro g_1;replace h:=zU g_1 h
   refine w4 (id:=0) (by kernel_rfl) ?_
   cases h
   exact ⟨rfl,(sw [0] [] [.s 1] [.s 0] an)⟩
  intro g_1;replace h:=zV g_1 h
  refine sk ?_
  refine sq ?_
  refine yZ (id:=1) (by kernel_rfl) ?_
  refine sq ?_
  obtain ⟨x_1,h_2,h⟩:=bind_some h
  refine rg [(1,{ av:=Ii x_1 })] [1,4,11,12,13] [0,1] 2 [Pp 0,Ii x_1,.own 1 ((([p_1.Thread,p_1.Serial,p_1.Lost]:List Int)).length),Ii ((3:Nat):Int),Ii v_1] [Vb 59 (zR p_1),Rb 3 1 (Mi ([p_1.Thread,p_1.Serial,p_1.Lost]:List Int))] zG (ac (zAo h_2:(0:Int)≤v_1) (ac (by first | (simp;done) | simpa using zAj h_2:v_1<(((([p_1.Thread,p_1.Serial,p_1.Lost]:List Int)).length:Nat):Int)) (ac (zBB h_2:(Mi ([p_1.Thread,p_1.Serial,p_1.Lost]:List Int))[(v_1).toNat]?=some (Ii x_1)) an))) ?_
  refine sq ?_
  refine wI (mk [(1,Pp 0),(11,.own 1 ((([p_1.Thread,p_1.Serial,p_1.Lost]:List Int)).length)),(12,Ii ((3:Nat):Int)),(13,Ii v_1),(22,.bool (decide (x_1<(0:Int))||decide (x_1>(1000000000000000:Int))))] [(0,Vb 59 (zR p_1)),(1,Rb 3 1 (Mi ([p_1.Thread,p_1.Serial,p_1.Lost]:List Int)))] 2) ?_ ?_
  ·rcases bft (decide (x_1<(0:Int))) with z4 | z4
   ·refine rg [(3,Hg),(4,Hg),(5,Ht)] [1,11,12,13,20,21,22] [0,1] 2 [Pp 0,.own 1 ((([p_1.Thread,p_1.Serial,p_1.Lost]:List Int)).length),Ii ((3:Nat):Int),Ii v_1,.tuple [],.tuple [],.bool true] [Vb 59 (zR p_1),Rb 3 1 (Mi ([p_1.Thread,p_1.Serial,p_1.Lost]:List Int))] zG (ac z4 (ac z4 (ac z4 an))) ?_
    exact ⟨rfl,(sw [0,1] [] [.s 1,.s 11,.s 12,.s 13,.a 22 (.bool (decide (x_1<(0:Int))||decide (x_1>(1000000000000000:Int))))] [.s 0,.s 1] (ac (congrArg AV.bool (ort z4):(.bool true:AV)=.bool (decide (x_1<(0:Int))||decide (x_1>(1000000000000000:Int)))) an))⟩
   ·refine rg [(5,Hf)] [1,11,12,13,20,21,22] [0,1] 2 [Pp 0,.own 1 ((([p_1.Thread,p_1.Serial,p_1.Lost]:List Int)).length),Ii ((3:Nat):Int),Ii v_1,Ii x_1,.bool (decide (x_1>(1000000000000000:Int))),.bool (decide (x_1>(1000000000000000:Int)))] [Vb 59 (zR p_1),Rb 3 1 (Mi ([p_1.Thread,p_1.Serial,p_1.Lost]:List Int))] zG (ac z4 (ac z4 (ac z4 an))) ?_
    exact ⟨rfl,(sw [0,1] [] [.s 1,.s 11,.s 12,.s 13,.a 22 (.bool (decide (x_1<(0:Int))||decide (x_1>(1000000000000000:Int))))] [.s 0,.s 1] (ac (congrArg AV.bool (orf z4 rfl):(.bool (decide (x_1>(1000000000000000:Int))):AV)=.bool (decide (x_1<(0:Int))||decide (x_1>(1000000000000000:Int)))) an))⟩
  refine cd 22 (decide (x_1<(0:Int))||decide (x_1>(1000000000000000:Int))) ?_ ?_
  rotate_left
  ·intro g_2;replace h:=zU g_2 h
   refine sk ?_
   refine rg [] [1,11,12,13] [0,1] 2 [Pp 0,.own 1 ((([p_1.Thread,p_1.Serial,p_1.Lost]:List Int)).length),Ii ((3:Nat):Int),Ii (zP (v_1+(1:Int)))] [Vb 59 (zR p_1),Rb 3 1 (Mi ([p_1.Thread,p_1.Serial,p_1.Lost]:List Int))] zG an ?_
   exact ⟨_,(sw [0,1] [] [.s 1,.s 11,.s 12,.s 13] [.s 0,.s 1] an),_,rfl,h⟩
  intro g_2;replace h:=zV g_2 h
  refine sr [] [2] [] 2 [Ii 2] [] zG an ?_
  refine rt ?_
  cases h
  exact ⟨rfl,Nat.le_of_ble_eq_true rfl,by kernel_rfl⟩
 intro e st1 hk
 rcases o_1 with q_1 | q_2
 rotate_left
 ·obtain ⟨rfl,hf⟩:=hk
  cases h
  exact ⟨st1,Sub.refl _ _,.inr rfl,hf⟩
 obtain ⟨rfl,hs⟩:=hk
 refine ⟨_,hs,?_⟩
 refine sq ?_
 refine yZ (id:=2) (by kernel_rfl) ?_
 refine sq ?_
 refine sr [] [1,24] [0] 1 [Pp 0,.bool (decide (p_1.Lost>p_1.Serial))] [Vb 59 (zR p_1)] zG an ?_
 obtain ⟨o_2,h_3,h⟩:=bind_some h
 refine wI (mk [(1,Pp 0),(24,.bool o_2)] [(0,Vb 59 (zR p_1))] 1) ?_ ?_
 ·replace h:=h_3
  refine cd 24 (decide (p_1.Lost>p_1.Serial)) ?_ ?_
  ·intro g_3;replace h:=zV g_3 h
   refine sk ?_
   cases h
   exact ⟨rfl,(sw [0] [] [.s 1,.s 24] [.s 0] an)⟩
  intro g_3;replace h:=zU g_3 h
  refine rg [(4,{ n:=(p_1.Events).length })] [1,24] [0] 1 [Pp 0,.bool (decide ((zP (p_1.Serial+(lN (p_1.Events))))>(1000000000000000:Int)))] [Vb 59 (zR p_1)] zG (ac (yG _:((Mp zD p_1.Events)).length=(p_1.Events).length) an) ?_
  cases h
  exact ⟨rfl,(sw [0] [] [.s 1,.s 24] [.s 0] an)⟩
 refine cd 24 o_2 ?_ ?_
 ·intro g_4;replace h:=zV g_4 h
  refine sr [] [2] [] 1 [Ii 2] [] zG an ?_
  refine rt ?_
  cases h
  exact ⟨.inr rfl,Nat.le_of_ble_eq_true rfl,by kernel_rfl⟩
 intro g_4;replace h:=zU g_4 h
 refine sr [(2,{ n:=(p_1.Events).length })] [1,37] [0] 1 [Pp 0,.bool ((lN (p_1.Events))==(0:Int))] [Vb 59 (zR p_1)] zG (ac (yG _:((Mp zD p_1.Events)).length=(p_1.Events).length) an) ?_
 refine cd 37 ((lN (p_1.Events))==(0:Int)) ?_ ?_
 ·intro g_5;replace h:=zV g_5 h
  refine sr [] [2] [] 1 [Ii 8] [] zG an ?_
  refine rt ?_
  cases h
  exact ⟨.inr rfl,Nat.le_of_ble_eq_true rfl,by kernel_rfl⟩
 intro g_5;replace h:=zU g_5 h
 refine sr [(2,{ n:=(p_1.Events).length })] [1,42] [0] 1 [Pp 0,.bool (decide ((lN (p_1.Events))>(1000:Int)))] [Vb 59 (zR p_1)] zG (ac (yG _:((Mp zD p_1.Events)).length=(p_1.Events).length) an) ?_
 refine cd 42 (decide ((lN (p_1.Events))>(1000:Int))) ?_ ?_
 ·intro g_6;replace h:=zV g_6 h
  refine sr [] [2] [] 1 [Ii 7] [] zG an ?_
  refine rt ?_
  cases h
  exact ⟨.inr rfl,Nat.le_of_ble_eq_true rfl,by kernel_rfl⟩
 intro g_6;replace h:=zU g_6 h
 refine sk ?_
 refine sq ?_
 obtain ⟨r_1,h_4,h⟩:=bind_some h
 refine rg [(2,{ av:=Ii r_1,l:=[.sl false 6 (Mp zD p_1.Events)] })] [2] [] 1 [Ii r_1] [] zG (ar ([.sl false 6 (Mp zD p_1.Events)]:List AV) (ac (rfl:([]:List zM)=[]) (ac (zDR F p_1.Events r_1 h_4:zX prog 61 [] [] [.sl false 6 (Mp zD p_1.Events)] [] (Ii r_1)) an))) ?_
 refine rt ?_
 cases h
 exact ⟨.inr rfl,Nat.le_of_ble_eq_true rfl,by kernel_rfl⟩

theorem zC3 (t_1:y3) (p_1:zB) (r:Bool) (h:qD t_1 p_1=some r):zX prog 51 [(.var 100 (y7 t_1))] [] [Pp 0,zA p_1] [(.var 100 (y7 t_1))] (.bool r):=by
 refine yI (fn:=Go.Proofs.Try.f51) (code:=xQ Go.Proofs.Try.f51) (by kernel_rfl) (by kernel_rfl) (Nat.le_of_ble_eq_true (by kernel_rfl)) ?_
 unfold qD at h
 refine sr [(0,{ id:=1 })] [0,3] [0,1] 2 [Pp 0,Pp 1] [Vb 100 (y7 t_1),Vb 59 (zR p_1)] zG an ?_
 refine sq ?_
 obtain ⟨p_2,h_2,h⟩:=bind_some h
 refine wI (mk [(4,.bool p_2)] [(0,Vb 100 (y7 t_1))] 1) ?_ ?_
 ·replace h:=h_2
  rcases bft ((zP (p_1.Serial - p_1.Lost))==t_1.next) with zJ | zJ
  ·replace h:=zV zJ h
   obtain ⟨x_1,h_1,h⟩:=bind_some h
   refine rg [(13,{ av:=zD x_1 }),(21,Ht)] [4] [0] 2 [.bool (decide (x_1.At≥t_1.last))] [Vb 100 (y7 t_1)] zG (ac zJ (ac zJ (ac zJ (ac (wA h_1:wX (Mp zD p_1.Events) (0:Int)=some (zD x_1)) (ac zJ (ac zJ (ac zJ (ac zJ (ac zJ (ac zJ (ac zJ (ac zJ an)))))))))))) ?_
   cases h
   exact ⟨rfl,(sw [0] [] [.s 4] [.s 0] an)⟩
  ·replace h:=zU zJ h
   refine rg [(11,Hg),(12,Hg),(13,Hg),(14,Hg),(15,Hg),(16,Hg),(17,Hg),(18,Hg),(19,Hg),(20,Hg),(21,Hf)] [4] [0] 2 [.bool false] [Vb 100 (y7 t_1)] zG (ac zJ (ac zJ (ac zJ (ac zJ (ac zJ (ac zJ (ac zJ (ac zJ (ac zJ (ac zJ (ac zJ an))))))))))) ?_
   cases h
   exact ⟨rfl,(sw [0] [] [.s 4] [.s 0] an)⟩
 refine wk [0] [] [.s 4] [.s 0] [(4,.bool p_2)] [(0,Vb 100 (y7 t_1))] an ?_
 refine rt ?_
 cases h
 exact ⟨.inr rfl,Nat.le_of_ble_eq_true rfl,by kernel_rfl⟩

theorem zC5 (t_1:y3) (p_1:zB) (r:y3) (h:qB t_1 p_1=some r):zX prog 52 [(.var 100 (y7 t_1))] [] [Pp 0,zA p_1] [(.var 100 (y7 r))] (.tuple []):=by
 refine yI (fn:=Go.Proofs.Try.f52) (code:=xQ Go.Proofs.Try.f52) (by kernel_rfl) (by kernel_rfl) (Nat.le_of_ble_eq_true (by kernel_rfl)) ?_
 unfold qB at h
 refine sr [(0,{ id:=1 })] [0,3] [0,1] 2 [Pp 0,Pp 1] [Vb 100 (y7 t_1),Vb 59 (zR p_1)] zG an ?_
 refine sr [(5,{ n:=(p_1.Events).length })] [0,3] [0,1] 2 [Pp 0,Pp 1] [Vb 100 [Ii (zP (p_1.Serial+(lN (p_1.Events)))),Ii t_1.last],Vb 59 (zR p_1)] zG (ac (yG _:((Mp zD p_1.Events)).length=(p_1.Events).length) an) ?_
 obtain ⟨x_1,h_1,h⟩:=bind_some h
 refine rg [(5,{ n:=(p_1.Events).length }),(7,{ av:=zD x_1 })] [] [0] 2 [] [Vb 100 [Ii (zP (p_1.Serial+(lN (p_1.Events)))),Ii x_1.At]] zG (ac (yG _:((Mp zD p_1.Events)).length=(p_1.Events).length) (ac (wA h_1:wX (Mp zD p_1.Events) (zP ((lN (p_1.Events)) - (1:Int)))=some (zD x_1)) an)) ?_
 cases h
 exact ⟨.inl rfl,Nat.le_of_ble_eq_true rfl,by kernel_rfl⟩

theorem zHE (F:Nat) (h_1:zT) (l_1:List (zB)) (r:Int) (h:zAO F h_1 l_1=some r):zX prog 28 [] [] [y9 h_1,.sl false 4 (Mp zA l_1)] [] (Ii r):=by
 refine yI (fn:=Go.Proofs.Try.f28) (code:=xQ Go.Proofs.Try.f28) (by kernel_rfl) (by kernel_rfl) (Nat.le_of_ble_eq_true (by kernel_rfl)) ?_
 unfold zAO at h
 refine sr [(0,{ id:=0 })] [1,2] [0] 1 [.sl false 4 (Mp zA l_1),Pp 0] [Vb 26 (zS h_1)] zG an ?_
 refine sr [(0,{ id:=1,mag:=false,mks:=[.int .i64] })] [1,2,5] [0,1] 2 [.sl false 4 (Mp zA l_1),Pp 0,.mp 1] [Vb 26 (zS h_1),.live (.map false [.int .i64] [])] zG an ?_
 refine zIl 1 2 (ag:=false) (ks:=[.int .i64]) (.pm 100) (by kernel_rfl) (by kernel_rfl) (zL3 (by kernel_rfl)) ?_
 intro b_1
 refine wk [0,2] [] [.s 1,.s 2,.s 5] [.s 0,.s 1] [(1,.sl false 4 (Mp zA l_1)),(2,Pp 0),(5,.rawm b_1)] [(0,Vb 26 (zS h_1)),(1,.live (.fam (.cl b_1 false [.int .i64] (.pm 100) (List.map (mpE (AV.int .i64) yR) ([]:List (Int×y3))))))] an ?_
 refine sq ?_
 refine sr [(2,{ n:=(h_1.Threads).length })] [1,5,16,17,18] [1] 2 [.sl false 4 (Mp zA l_1),.rawm b_1,.sl false 3 (Mp zF h_1.Threads),Ii (lN (h_1.Threads)),Ii 0] [.live (.fam (.cl b_1 false [.int .i64] (.pm 100) (List.map (mpE (AV.int .i64) yR) ([]:List (Int×y3)))))] zG (ac (yG _:((Mp zF h_1.Threads)).length=(h_1.Threads).length) an) ?_
 obtain ⟨o_1,h_2,h⟩:=bind_some h
 refine wI (mk [(1,.sl false 4 (Mp zA l_1)),(5,.rawm b_1)] [(0,.live (.fam (.cl b_1 false [.int .i64] (.pm 100) (List.map (mpE (AV.int .i64) yR) o_1))))] 1) ?_ ?_
 ·replace h:=h_2
  refine yZ (id:=0) (by kernel_rfl) ?_
  refine wk [1] [] [.s 1,.s 5,.s 16,.s 17,.s 18] [.s 0] [(1,.sl false 4 (Mp zA l_1)),(5,.rawm b_1),(16,.sl false 3 (Mp zF h_1.Threads)),(17,Ii (lN (h_1.Threads))),(18,Ii 0)] [(0,.live (.fam (.cl b_1 false [.int .i64] (.pm 100) (List.map (mpE (AV.int .i64) yR) ([]:List (Int×y3))))))] an ?_
  refine wP (fun n st=>∃ (v_1:Int),∃ (zC:List (Int×y3)),st=mk [(1,.sl false 4 (Mp zA l_1)),(5,.rawm b_1),(16,.sl false 3 (Mp zF h_1.Threads)),(17,Ii (lN (h_1.Threads))),(18,Ii v_1)] [(0,.live (.fam (.cl b_1 false [.int .i64] (.pm 100) (List.map (mpE (AV.int .i64) yR) zC))))] 1∧tP F h_1 n v_1 zC=some o_1) F (by kernel_rfl) ⟨_,_,rfl,h⟩ ?_ ?_
  ·rintro _ ⟨_,_,_,h⟩;exact w8 (h:(none:Option (List (Int×y3)))=some o_1)
  rintro n_1 _ ⟨v_1,zC,rfl,h⟩
  replace h:tZ F h_1 (tP F h_1 n_1) v_1 zC=some o_1:=h
  unfold tZ at h
  refine sr [] [1,5,16,17,18,19] [0] 1 [.sl false 4 (Mp zA l_1),.rawm b_1,.sl false 3 (Mp zF h_1.Threads),Ii (lN (h_1.Threads)),Ii v_1,.bool (decide (v_1<(lN (h_1.Threads))))] [.live (.fam (.cl b_1 false [.int .i64] (.pm 100) (List.map (mpE (AV.int .i64) yR) zC)))] zG an ?_
  refine sq ?_
  refine cd 19 (decide (v_1<(lN (h_1.Threads)))) ?_ ?_
  rotate_left
  ·intro g_1;replace h:=zU g_1 h
   refine w4 (id:=0) (by kernel_rfl) ?_
   cases h
   exact ⟨rfl,(sw [0] [] [.s 1,.s 5] [.s 0] an)⟩
  intro g_1;replace h:=zV g_1 h
  refine sk ?_
  refine sq ?_
  refine yZ (id:=1) (by kernel_rfl) ?_
  refine sq ?_
  obtain ⟨x_1,h_3,h⟩:=bind_some h
  refine rg [(0,{ av:=zF x_1 }),(2,{ id:=1 })] [1,5,7,16,17,18] [0,1] 2 [.sl false 4 (Mp zA l_1),.rawm b_1,Pp 1,.sl false 3 (Mp zF h_1.Threads),Ii (lN (h_1.Threads)),Ii v_1] [.live (.fam (.cl b_1 false [.int .i64] (.pm 100) (List.map (mpE (AV.int .i64) yR) zC))),Vb 66 (z0 x_1)] zG (ac (wA h_3:wX (Mp zF h_1.Threads) v_1=some (zF x_1)) an) ?_
  obtain ⟨_,h_4,h⟩:=bind_some h;replace h_4:=wM h_4
  refine rg [(4,{ id:=2 }),(5,{ av:=(.agg [Ii 0,Ii 0]),dep:=true,es:=(List.map (mpE (AV.int .i64) yR) (v6 zC x_1.Id (⟨(0:Int),(0:Int)⟩:y3))),ids:=[2],n:=0,x:=true })] [1,5,16,17,18] [0] 3 [.sl false 4 (Mp zA l_1),.rawm b_1,.sl false 3 (Mp zF h_1.Threads),Ii (lN (h_1.Threads)),Ii v_1] [.live (.fam (.cl b_1 false [.int .i64] (.pm 100) (List.map (mpE (AV.int .i64) yR) (v6 zC x_1.Id (⟨(0:Int),(0:Int)⟩:y3)))))] zG (ar b_1 (ac (trivial:True) (ac (nL:vK prog 3 false [.int .i64]) (ac (zCK (f:=(AV.int .i64)) (g:=yR) nF zC x_1.Id (⟨(0:Int),(0:Int)⟩:y3):zBo (List.map (mpE (AV.int .i64) yR) zC) (Ii x_1.Id) (.agg [Ii 0,Ii 0]) (List.map (mpE (AV.int .i64) yR) (v6 zC x_1.Id (⟨(0:Int),(0:Int)⟩:y3)))) (ac (zF4 (l:=zC) h_4:(List.map (mpE (AV.int .i64) yR) zC:List (AV×AV)).length<maxLen) (ac (rfl:(Pp 2:AV)=Pp 2) (ac (rfl:([Vb 100 [Ii 0,Ii 0]]:List zM)=[Vb 100 [Ii 0,Ii 0]]) an))))))) ?_
  refine rg [] [1,5,16,17,18] [0] 3 [.sl false 4 (Mp zA l_1),.rawm b_1,.sl false 3 (Mp zF h_1.Threads),Ii (lN (h_1.Threads)),Ii (zP (v_1+(1:Int)))] [.live (.fam (.cl b_1 false [.int .i64] (.pm 100) (List.map (mpE (AV.int .i64) yR) (v6 zC x_1.Id (⟨(0:Int),(0:Int)⟩:y3)))))] zG an ?_
  exact ⟨_,(sw [0] [] [.s 1,.s 5,.s 16,.s 17,.s 18] [.s 0] an),_,_,rfl,h⟩
 refine sr [] [1,5,8] [0] 1 [.sl false 4 (Mp zA l_1),.rawm b_1,Ii 0] [.live (.fam (.cl b_1 false [.int .i64] (.pm 100) (List.map (mpE (AV.int .i64) yR) o_1)))] zG an ?_
 refine sq ?_
 refine sr [(1,{ n:=(l_1).length })] [5,8,28,29,30] [0] 1 [.rawm b_1,Ii 0,.sl false 4 (Mp zA l_1),Ii (lN (l_1)),Ii 0] [.live (.fam (.cl b_1 false [.int .i64] (.pm 100) (List.map (mpE (AV.int .i64) yR) o_1)))] zG (ac (yG _:((Mp zA l_1)).length=(l_1).length) an) ?_
 obtain ⟨o_2,h_5,h⟩:=bind_some h
 refine uG (K1:=(fun e st'=>match o_2 with | (.inl q0)=>e=.normal∧Sub 0 st' (mk [(8,Ii q0)] [] 0) | (.inr q1)=>e=.ret∧kE prog Go.Proofs.Try.f28 0 [] (Ii q1) st')) ?_ ?_
 ·replace h:=h_5
  refine yZ (id:=2) (by kernel_rfl) ?_
  refine wk [0] [] [.s 5,.s 8,.s 28,.s 29,.s 30] [.s 0] [(5,.rawm b_1),(8,Ii 0),(28,.sl false 4 (Mp zA l_1)),(29,Ii (lN (l_1))),(30,Ii 0)] [(0,.live (.fam (.cl b_1 false [.int .i64] (.pm 100) (List.map (mpE (AV.int .i64) yR) o_1))))] an ?_
  refine wP (fun n st=>∃ (vQ:Int),∃ (v_2:Int),∃ (yK:List (Int×y3)),st=mk [(5,.rawm b_1),(8,Ii vQ),(28,.sl false 4 (Mp zA l_1)),(29,Ii (lN (l_1))),(30,Ii v_2)] [(0,.live (.fam (.cl b_1 false [.int .i64] (.pm 100) (List.map (mpE (AV.int .i64) yR) yK))))] 1∧tL F l_1 n vQ v_2 yK=some o_2) F (by kernel_rfl) ⟨_,_,_,rfl,h⟩ ?_ ?_
  ·rintro _ ⟨_,_,_,_,h⟩;exact w8 (h:(none:Option (Int⊕Int))=some o_2)
  rintro n_2 _ ⟨vQ,v_2,yK,rfl,h⟩
  replace h:tV F l_1 (tL F l_1 n_2) vQ v_2 yK=some o_2:=h
  unfold tV at h
  refine sr [] [5,8,28,29,30,31] [0] 1 [.rawm b_1,Ii vQ,.sl false 4 (Mp zA l_1),Ii (lN (l_1)),Ii v_2,.bool (decide (v_2<(lN (l_1))))] [.live (.fam (.cl b_1 false [.int .i64] (.pm 100) (List.map (mpE (AV.int .i64) yR) yK)))] zG an ?_
  refine sq ?_
  refine cd 31 (decide (v_2<(lN (l_1)))) ?_ ?_
  rotate_left
  ·intro g_2;replace h:=zU g_2 h
   refine w4 (id:=2) (by kernel_rfl) ?_
   cases h
   exact ⟨rfl,(sw [] [] [.s 8] [] an)⟩
  intro g_2;replace h:=zV g_2 h
  refine sk ?_
  refine sq ?_
  refine yZ (id:=3) (by kernel_rfl) ?_
  refine sq ?_
  obtain ⟨x_2,h_6,h⟩:=bind_some h
  refine rg [(0,{ av:=zA x_2 }),(2,{ id:=1 })] [5,8,10,28,29,30] [0,1] 2 [.rawm b_1,Ii vQ,Pp 1,.sl false 4 (Mp zA l_1),Ii (lN (l_1)),Ii v_2] [.live (.fam (.cl b_1 false [.int .i64] (.pm 100) (List.map (mpE (AV.int .i64) yR) yK))),Vb 59 (zR x_2)] zG (ac (wA h_6:wX (Mp zA l_1) v_2=some (zA x_2)) an) ?_
  refine sq ?_
  refine sq ?_
  obtain ⟨r_1,h_7,h⟩:=bind_some h
  refine rg [(1,{ av:=Ii r_1,l:=[zA x_2] })] [5,8,10,11,28,29,30] [0,1] 2 [.rawm b_1,Ii vQ,Pp 1,Ii r_1,.sl false 4 (Mp zA l_1),Ii (lN (l_1)),Ii v_2] [.live (.fam (.cl b_1 false [.int .i64] (.pm 100) (List.map (mpE (AV.int .i64) yR) yK))),Vb 59 (zR x_2)] zG (ar ([zA x_2]:List AV) (ac (rfl:([]:List zM)=[]) (ac (kF F x_2 r_1 h_7:zX prog 43 [] [] [zA x_2] [] (Ii r_1)) an))) ?_
  refine sr [] [5,8,10,11,28,29,30,37] [0,1] 2 [.rawm b_1,Ii vQ,Pp 1,Ii r_1,.sl false 4 (Mp zA l_1),Ii (lN (l_1)),Ii v_2,.bool (r_1 != (0:Int))] [.live (.fam (.cl b_1 false [.int .i64] (.pm 100) (List.map (mpE (AV.int .i64) yR) yK))),Vb 59 (zR x_2)] zG an ?_
  refine cd 37 (r_1 != (0:Int)) ?_ ?_
  ·intro g_3;replace h:=zV g_3 h
   refine sr [] [4] [] 2 [Ii r_1] [] zG an ?_
   refine rt ?_
   cases h
   exact ⟨rfl,Nat.le_of_ble_eq_true rfl,by kernel_rfl⟩
  intro g_3;replace h:=zU g_3 h
  refine sk ?_
  refine sq ?_
  rcases zKs (z9 yK x_2.Thread) with h_8 | ⟨x_3,h_8⟩
  ·replace h:=zKA h_8 h
   refine rg [(3,{ dep:=true,g:=false,n:=0,x:=true })] [5,8,10,12,13,28,29,30] [0,1] 2 [.rawm b_1,Ii vQ,Pp 1,.nilp,.bool false,.sl false 4 (Mp zA l_1),Ii (lN (l_1)),Ii v_2] [.live (.fam (.cl b_1 false [.int .i64] (.pm 100) (List.map (mpE (AV.int .i64) yR) yK))),Vb 59 (zR x_2)] zG (ar b_1 (ac (nL:vK prog 3 false [.int .i64]) (ac (zKk (f:=(AV.int .i64)) (g:=yR) nF h_8 .junk:q6 (List.map (mpE (AV.int .i64) yR) yK) (Ii x_2.Thread) .junk .junk false) an))) ?_
   refine sq ?_
   refine sr [] [5,8,10,12,28,29,30,47] [0,1] 2 [.rawm b_1,Ii vQ,Pp 1,.nilp,.sl false 4 (Mp zA l_1),Ii (lN (l_1)),Ii v_2,.bool true] [.live (.fam (.cl b_1 false [.int .i64] (.pm 100) (List.map (mpE (AV.int .i64) yR) yK))),Vb 59 (zR x_2)] zG an ?_
   refine cd 47 true ?_ ?_
   rotate_left
   ·intro hg;exact Bool.noConfusion (hg)
   intro _
   refine sr [] [4] [] 2 [Ii 5] [] zG an ?_
   refine rt ?_
   cases h
   exact ⟨rfl,Nat.le_of_ble_eq_true rfl,by kernel_rfl⟩
  replace h:=zKm h_8 h
  refine rg [(3,{ av:=(.agg [Ii x_3.next,Ii x_3.last]),dep:=true,id:=2,n:=0,x:=true })] [5,8,10,12,13,28,29,30] [0,1,2] 3 [.rawm b_1,Ii vQ,Pp 1,Pp 2,.bool true,.sl false 4 (Mp zA l_1),Ii (lN (l_1)),Ii v_2] [.live (.fam (.opp b_1 false [.int .i64] (.pm 100) (List.map (mpE (AV.int .i64) yR) yK) (Ii x_2.Thread) 2)),Vb 59 (zR x_2),Vb 100 (y7 x_3)] zG (ar b_1 (ac (nL:vK prog 3 false [.int .i64]) (ac (zKl (f:=(AV.int .i64)) (g:=yR) h_8 .junk:q6 (List.map (mpE (AV.int .i64) yR) yK) (Ii x_2.Thread) .junk (.agg [Ii x_3.next,Ii x_3.last]) true) an))) ?_
  refine sq ?_
  refine sr [] [5,8,10,12,28,29,30,47] [0,1,2] 3 [.rawm b_1,Ii vQ,Pp 1,Pp 2,.sl false 4 (Mp zA l_1),Ii (lN (l_1)),Ii v_2,.bool false] [.live (.fam (.opp b_1 false [.int .i64] (.pm 100) (List.map (mpE (AV.int .i64) yR) yK) (Ii x_2.Thread) 2)),Vb 59 (zR x_2),Vb 100 (y7 x_3)] zG an ?_
  refine cd 47 false ?_ ?_
  ·intro hg;exact Bool.noConfusion (hg)
  intro _
  refine sk ?_
  refine sq ?_
  refine sq ?_
  obtain ⟨r_2,h_9,h⟩:=bind_some h
  refine rg [(2,{ av:=.bool r_2,ids:=[2],l:=[Pp 0,zA x_2],post:=[(.var 100 (y7 x_3))],pre:=[(.var 100 (y7 x_3))] })] [5,8,10,12,28,29,30,51] [0,1,2] 3 [.rawm b_1,Ii vQ,Pp 1,Pp 2,.sl false 4 (Mp zA l_1),Ii (lN (l_1)),Ii v_2,.bool (!r_2)] [.live (.fam (.opp b_1 false [.int .i64] (.pm 100) (List.map (mpE (AV.int .i64) yR) yK) (Ii x_2.Thread) 2)),Vb 59 (zR x_2),Vb 100 (y7 x_3)] zG (ar ([Pp 2,zA x_2]:List AV) (ac (rfl:([Vb 100 (y7 x_3)]:List zM)=[Vb 100 (y7 x_3)]) (ac (zC3 x_3 x_2 r_2 h_9:zX prog 51 [(.var 100 (y7 x_3))] [] [Pp 0,zA x_2] [(.var 100 (y7 x_3))] (.bool r_2)) an))) ?_
  refine cd 51 (!r_2) ?_ ?_
  ·intro g_4;replace h:=zV g_4 h
   refine sr [] [4] [] 3 [Ii 11] [] zG an ?_
   refine rt ?_
   cases h
   exact ⟨rfl,Nat.le_of_ble_eq_true rfl,by kernel_rfl⟩
  intro g_4;replace h:=zU g_4 h
  refine sk ?_
  refine sq ?_
  obtain ⟨r_3,qY,h⟩:=bind_some h
  refine rg [(2,{ av:=.tuple [],ids:=[2],l:=[Pp 0,zA x_2],post:=[(.var 100 (y7 r_3))],pre:=[(.var 100 (y7 x_3))] })] [5,8,10,28,29,30] [0,1,2] 3 [.rawm b_1,Ii vQ,Pp 1,.sl false 4 (Mp zA l_1),Ii (lN (l_1)),Ii v_2] [.live (.fam (.opp b_1 false [.int .i64] (.pm 100) (List.map (mpE (AV.int .i64) yR) yK) (Ii x_2.Thread) 2)),Vb 59 (zR x_2),Vb 100 (y7 r_3)] zG (ar ([Pp 2,zA x_2]:List AV) (ac (rfl:([Vb 100 (y7 x_3)]:List zM)=[Vb 100 (y7 x_3)]) (ac (zC5 x_3 x_2 r_3 qY:zX prog 52 [(.var 100 (y7 x_3))] [] [Pp 0,zA x_2] [(.var 100 (y7 r_3))] (.tuple [])) an))) ?_
  refine jO (zK3 (f:=.cl b_1 false [.int .i64] (.pm 100) (List.map (mpE (AV.int .i64) yR) (v6 yK x_2.Thread r_3))) 0 2 [Ii r_3.next,Ii r_3.last] (List.map (mpE (AV.int .i64) yR) (v6 yK x_2.Thread r_3)) (by kernel_rfl) (ac (rfl:(Vb 100 (y7 r_3):zM)=Vb 100 (y7 r_3)) (ac (zCK (f:=(AV.int .i64)) (g:=yR) nF yK x_2.Thread r_3:zBo (List.map (mpE (AV.int .i64) yR) yK) (Ii x_2.Thread) (.agg [Ii r_3.next,Ii r_3.last]) (List.map (mpE (AV.int .i64) yR) (v6 yK x_2.Thread r_3))) an))) ?_
  refine wk [0,1] [] [.s 5,.s 8,.s 10,.s 28,.s 29,.s 30] [.s 0,.s 1] [(5,.rawm b_1),(8,Ii vQ),(10,Pp 1),(28,.sl false 4 (Mp zA l_1)),(29,Ii (lN (l_1))),(30,Ii v_2)] [(0,.live (.fam (.cl b_1 false [.int .i64] (.pm 100) (List.map (mpE (AV.int .i64) yR) (v6 yK x_2.Thread r_3))))),(1,Vb 59 (zR x_2))] an ?_
  refine rg [(3,{ n:=(x_2.Events).length })] [5,8,28,29,30] [0] 2 [.rawm b_1,Ii (zP (vQ+(lN (x_2.Events)))),.sl false 4 (Mp zA l_1),Ii (lN (l_1)),Ii v_2] [.live (.fam (.cl b_1 false [.int .i64] (.pm 100) (List.map (mpE (AV.int .i64) yR) (v6 yK x_2.Thread r_3))))] zG (ac (yG _:((Mp zD x_2.Events)).length=(x_2.Events).length) an) ?_
  refine rg [] [5,8,28,29,30] [0] 2 [.rawm b_1,Ii (zP (vQ+(lN (x_2.Events)))),.sl false 4 (Mp zA l_1),Ii (lN (l_1)),Ii (zP (v_2+(1:Int)))] [.live (.fam (.cl b_1 false [.int .i64] (.pm 100) (List.map (mpE (AV.int .i64) yR) (v6 yK x_2.Thread r_3))))] zG an ?_
  exact ⟨_,(sw [0] [] [.s 5,.s 8,.s 28,.s 29,.s 30] [.s 0] an),_,_,_,rfl,h⟩
 intro e st1 hk
 rcases o_2 with q_1 | q_2
 rotate_left
 ·obtain ⟨rfl,hf⟩:=hk
  cases h
  exact ⟨st1,Sub.refl _ _,.inr rfl,hf⟩
 obtain ⟨rfl,hs⟩:=hk
 refine ⟨_,hs,?_⟩
 refine sq ?_
 refine sr [] [62] [] 0 [.bool (decide (q_1>(20000:Int)))] [] zG an ?_
 refine cd 62 (decide (q_1>(20000:Int))) ?_ ?_
 ·intro g_5;replace h:=zV g_5 h
  refine sr [] [4] [] 0 [Ii 7] [] zG an ?_
  refine rt ?_
  cases h
  exact ⟨.inr rfl,Nat.le_of_ble_eq_true rfl,by kernel_rfl⟩
 intro g_5;replace h:=zU g_5 h
 refine sk ?_
 refine sr [] [4] [] 0 [Ii 0] [] zG an ?_
 refine rt ?_
 cases h
 exact ⟨.inr rfl,Nat.le_of_ble_eq_true rfl,by kernel_rfl⟩

theorem zEr (l:List zB):fzV (yN l)=.sl false 4 (Mp zA l):=(congrArg (AV.sl false 4) (zG8 zA l _ rfl)).symm
theorem zEs (l:List zB):zEy (yN l)∧zDu 4 6 (yN l)=true:=⟨rfl,rfl⟩

theorem zIs (F:Nat) (vY:List (zB)) (events_1:List (zH)) (r:(List (zB))) (h:zBk F vY events_1=some r):zX prog 29 [] [(.rowQ 59 4 (Mp zA (ini vY)) (!(vY).isEmpty) (yB (lst vY)++[.own 1 ((lst vY).Events).length])),(.row 42 6 (Mp zD (lst vY).Events))] [.own 0 ((vY).length),.sl false 6 (Mp zD events_1)] [(.rowQ 59 4 (Mp zA (ini r)) (!(r).isEmpty) (yB (lst r)++[.own 1 ((lst r).Events).length])),(.row 42 6 (Mp zD (lst r).Events))] (.own 0 (r).length):=by
 refine zCZ (fn:=Go.Proofs.Try.f29) (code:=xQ Go.Proofs.Try.f29) (by kernel_rfl) (by kernel_rfl) (Nat.le_of_ble_eq_true (by kernel_rfl)) ?_
 unfold zBk at h
 refine sr [(0,{ id:=2,m:=1 })] [0,1] [0,1] 3 [.own 0 ((vY).length),.sl false 6 (Mp zD events_1)] [.live (.rowQ 59 4 (Mp zA (ini vY)) (!(vY).isEmpty) (yB (lst vY)++[.own 1 ((lst vY).Events).length])),Rb 42 6 (Mp zD (lst vY).Events)] zG an ?_
 refine sq ?_
 obtain ⟨o_1,h_1,h⟩:=bind_some h
 refine wI (mk [(0,.own 0 ((o_1).length))] [(0,.live (.rowQ 59 4 (Mp zA (ini o_1)) (!(o_1).isEmpty) (yB (lst o_1)++[.own 1 ((lst o_1).Events).length]))),(1,Rb 42 6 (Mp zD (lst o_1).Events))] 2) ?_ ?_
 ·replace h:=h_1
  refine yZ (id:=0) (by kernel_rfl) ?_
  refine wk [0,1] [] [.s 0,.s 1] [.s 0,.s 1] [(0,.own 0 ((vY).length)),(1,.sl false 6 (Mp zD events_1))] [(0,.live (.rowQ 59 4 (Mp zA (ini vY)) (!(vY).isEmpty) (yB (lst vY)++[.own 1 ((lst vY).Events).length]))),(1,Rb 42 6 (Mp zD (lst vY).Events))] an ?_
  refine wP (fun n st=>∃ (zQ:List zH),∃ (zC:List zB),st=mk [(0,.own 0 ((zC).length)),(1,.sl false 6 (Mp zD zQ))] [(0,.live (.rowQ 59 4 (Mp zA (ini zC)) (!(zC).isEmpty) (yB (lst zC)++[.own 1 ((lst zC).Events).length]))),(1,Rb 42 6 (Mp zD (lst zC).Events))] 2∧pM F n zQ zC=some o_1) F (by kernel_rfl) ⟨_,_,rfl,h⟩ ?_ ?_
  ·rintro _ ⟨_,_,_,h⟩;exact w8 (h:(none:Option (List zB))=some o_1)
  rintro n_1 _ ⟨zQ,zC,rfl,h⟩
  replace h:qG F (pM F n_1) zQ zC=some o_1:=h
  unfold qG at h
  refine sq ?_
  refine sr [(1,{ n:=(zQ).length })] [0,1,9] [0,1] 2 [.own 0 ((zC).length),.sl false 6 (Mp zD zQ),.bool (decide ((lN (zQ))>(0:Int)))] [.live (.rowQ 59 4 (Mp zA (ini zC)) (!(zC).isEmpty) (yB (lst zC)++[.own 1 ((lst zC).Events).length])),Rb 42 6 (Mp zD (lst zC).Events)] zG (ac (yG _:((Mp zD zQ)).length=(zQ).length) an) ?_
  refine cd 9 (decide ((lN (zQ))>(0:Int))) ?_ ?_
  rotate_left
  ·intro g_1;replace h:=zU g_1 h
   refine w4 (id:=0) (by kernel_rfl) ?_
   cases h
   exact ⟨rfl,(sw [0,1] [] [.s 0] [.s 0,.s 1] an)⟩
  intro g_1;replace h:=zV g_1 h
  refine sk ?_
  refine yZ (id:=1) (by kernel_rfl) ?_
  refine sq ?_
  obtain ⟨_,h_2,h⟩:=bind_some h;replace h_2:=wM h_2
  refine rg [] [0,1,5] [0,1] 2 [.own 0 ((zC).length),.sl false 6 (Mp zD zQ),.ptr 0 4 ((zP ((lN (zC)) - (1:Int))).toNat) 0] [.live (.rowQ 59 4 (Mp zA (ini zC)) (!(zC).isEmpty) (yB (lst zC)++[.own 1 ((lst zC).Events).length])),Rb 42 6 (Mp zD (lst zC).Events)] zG (ac h_2.1 (ac h_2.2 an)) ?_
  refine sq ?_
  obtain ⟨_,h_3,h⟩:=bind_some h;replace h_3:=wM h_3
  refine rg [(3,{ x:=true }),(7,{ n:=(zQ).length })] [0,1,5,6] [0,1] 2 [.own 0 ((zC).length),.sl false 6 (Mp zD zQ),.ptr 0 4 ((zP ((lN (zC)) - (1:Int))).toNat) 0,Ii (x4 (zP ((1000:Int) - (lN ((lst zC).Events)))) (lN (zQ)))] [.live (.rowQ 59 4 (Mp zA (ini zC)) (!(zC).isEmpty) (yB (lst zC)++[.own 1 ((lst zC).Events).length])),Rb 42 6 (Mp zD (lst zC).Events)] zG (ac (zG6 _ h_3:(zP ((lN (zC)) - (1:Int))).toNat=(Mp zA (ini zC)).length) (ac (zDp (Nat.lt_of_lt_of_eq (Nat.succ_pos _) h_3):(!(zC).isEmpty)=true) (ac (yG _:((Mp zD zQ)).length=(zQ).length) an))) ?_
  refine sq ?_
  refine sr [] [0,1,5,6,25] [0,1] 2 [.own 0 ((zC).length),.sl false 6 (Mp zD zQ),.ptr 0 4 ((zP ((lN (zC)) - (1:Int))).toNat) 0,Ii (x4 (zP ((1000:Int) - (lN ((lst zC).Events)))) (lN (zQ))),.bool ((x4 (zP ((1000:Int) - (lN ((lst zC).Events)))) (lN (zQ)))==(0:Int))] [.live (.rowQ 59 4 (Mp zA (ini zC)) (!(zC).isEmpty) (yB (lst zC)++[.own 1 ((lst zC).Events).length])),Rb 42 6 (Mp zD (lst zC).Events)] zG an ?_
  refine cd 25 ((x4 (zP ((1000:Int) - (lN ((lst zC).Events)))) (lN (zQ)))==(0:Int)) ?_ ?_
  ·intro g_2;replace h:=zV g_2 h
   refine sq ?_
   refine jO (zHd (e:=59) (sz:=4) 0 1 (Mp zA zC) (by kernel_rfl) (ac ((List.length_map _).symm:((lst zC).Events).length=(Mp zD (lst zC).Events:List AV).length) (ac (zG8 zA zC _ rfl:(Mp zA zC:List AV)=List.map zA (ini zC)++bif (!(zC).isEmpty) then [.agg (yB (lst zC)++[.sl false 6 (Mp zD (lst zC).Events)])] else []) an))) ?_
   refine wk [0] [] [.s 0,.s 1,.s 5] [.s 0] [(0,.own 0 ((zC).length)),(1,.sl false 6 (Mp zD zQ)),(5,.ptr 0 4 ((zP ((lN (zC)) - (1:Int))).toNat) 0)] [(0,Rb 59 4 (Mp zA zC))] an ?_
   obtain ⟨_,h_4,h⟩:=bind_some h;replace h_4:=wM h_4
   obtain ⟨_,h_5,h⟩:=bind_some h;replace h_5:=wM h_5
   obtain ⟨_,h_6,h⟩:=bind_some h;replace h_6:=wM h_6
   refine rg [(4,{ av:=zA (lst zC) }),(8,{ av:=zA (lst zC) }),(11,{ id:=1 }),(12,{ id:=2,l:=(Mp zA zC++[.agg [Ii ((lst zC).Thread),Ii (zP (((lst zC).Serial)+(1000:Int))),Ii 0,.nilsl]]),n:=((zC).length+1) })] [0,1] [2] 3 [.own 2 ((zC).length+1),.sl false 6 (Mp zD zQ)] [Rb 59 4 (Mp zA zC++[.agg [Ii ((lst zC).Thread),Ii (zP (((lst zC).Serial)+(1000:Int))),Ii 0,.nilsl]])] zG (ac (zL2 _ h_4:(Mp zA zC)[(zP ((lN (zC)) - (1:Int))).toNat]?=some (zA (lst zC))) (ac (zL2 _ h_5:(Mp zA zC)[(zP ((lN (zC)) - (1:Int))).toNat]?=some (zA (lst zC))) (ac ((List.length_map _).symm:(zC).length=(Mp zA zC).length) (ac (rfl:1=([.agg [Ii ((lst zC).Thread),Ii (zP (((lst zC).Serial)+(1000:Int))),Ii 0,.nilsl]]:List AV).length) (ac (rfl:((Mp zA zC++[.agg [Ii ((lst zC).Thread),Ii (zP (((lst zC).Serial)+(1000:Int))),Ii 0,.nilsl]]):List AV)=List.map zA zC++[.agg [Ii ((lst zC).Thread),Ii (zP (((lst zC).Serial)+(1000:Int))),Ii 0,.nilsl]]) (ac (by simp:((zC).length+1)=((List.map zA zC++[.agg [Ii ((lst zC).Thread),Ii (zP (((lst zC).Serial)+(1000:Int))),Ii 0,.nilsl]]):List AV).length) (ac (by rw [List.length_map];exact h_6:((List.map zA zC:List AV).length+([.agg [Ii ((lst zC).Thread),Ii (zP (((lst zC).Serial)+(1000:Int))),Ii 0,.nilsl]]:List AV).length) * 48≤140737488355328) an))))))) ?_
   refine jO (zFs (e:=59) (sz:=4) 2 3 42 6 (Mp zA zC) [Ii ((lst zC).Thread),Ii (zP (((lst zC).Serial)+(1000:Int))),Ii 0] (by kernel_rfl) (ac (rfl:(Mp zA zC++[.agg [Ii ((lst zC).Thread),Ii (zP (((lst zC).Serial)+(1000:Int))),Ii 0,.nilsl]]:List AV)=List.map zA zC++[.agg ([Ii ((lst zC).Thread),Ii (zP (((lst zC).Serial)+(1000:Int))),Ii 0]++[.nilsl])]) an)) ?_
   refine wk [2,3] [] [.a 0 (.own 0 (((zC++[(⟨(lst zC).Thread,zP (((lst zC).Serial)+(1000:Int)),(0:Int),[]⟩:zB)])).length)),.s 1] [.a 0 (.live (.rowQ 59 4 (Mp zA (ini (zC++[(⟨(lst zC).Thread,zP (((lst zC).Serial)+(1000:Int)),(0:Int),[]⟩:zB)]))) (!((zC++[(⟨(lst zC).Thread,zP (((lst zC).Serial)+(1000:Int)),(0:Int),[]⟩:zB)])).isEmpty) (yB (lst (zC++[(⟨(lst zC).Thread,zP (((lst zC).Serial)+(1000:Int)),(0:Int),[]⟩:zB)]))++[.own 1 ((lst (zC++[(⟨(lst zC).Thread,zP (((lst zC).Serial)+(1000:Int)),(0:Int),[]⟩:zB)])).Events).length]))),.a 1 (Rb 42 6 (Mp zD (lst (zC++[(⟨(lst zC).Thread,zP (((lst zC).Serial)+(1000:Int)),(0:Int),[]⟩:zB)])).Events))] [(0,.own 0 (((zC++[(⟨(lst zC).Thread,zP (((lst zC).Serial)+(1000:Int)),(0:Int),[]⟩:zB)])).length)),(1,.sl false 6 (Mp zD zQ))] [(0,.live (.rowQ 59 4 (Mp zA (ini (zC++[(⟨(lst zC).Thread,zP (((lst zC).Serial)+(1000:Int)),(0:Int),[]⟩:zB)]))) (!((zC++[(⟨(lst zC).Thread,zP (((lst zC).Serial)+(1000:Int)),(0:Int),[]⟩:zB)])).isEmpty) (yB (lst (zC++[(⟨(lst zC).Thread,zP (((lst zC).Serial)+(1000:Int)),(0:Int),[]⟩:zB)]))++[.own 1 ((lst (zC++[(⟨(lst zC).Thread,zP (((lst zC).Serial)+(1000:Int)),(0:Int),[]⟩:zB)])).Events).length]))),(1,Rb 42 6 (Mp zD (lst (zC++[(⟨(lst zC).Thread,zP (((lst zC).Serial)+(1000:Int)),(0:Int),[]⟩:zB)])).Events))] (ac (congrArg (AV.own _) (by first | (simp;done) | (simp;omega)):(.own 2 ((zC).length+1):AV)=.own 2 (((zC++[(⟨(lst zC).Thread,zP (((lst zC).Serial)+(1000:Int)),(0:Int),[]⟩:zB)])).length)) (ar 59 (ar 4 (ac ((congrArg (List.map _) (nC _ _)).symm:((Mp zA zC):List AV)=List.map zA (ini (zC++[(⟨(lst zC).Thread,zP (((lst zC).Serial)+(1000:Int)),(0:Int),[]⟩:zB)]))) (ac ((zHg _ _).symm:true=(!((zC++[(⟨(lst zC).Thread,zP (((lst zC).Serial)+(1000:Int)),(0:Int),[]⟩:zB)])).isEmpty)) (ac (rfl:vT (yB (lst (zC++[(⟨(lst zC).Thread,zP (((lst zC).Serial)+(1000:Int)),(0:Int),[]⟩:zB)]))++[.own 3 ((lst (zC++[(⟨(lst zC).Thread,zP (((lst zC).Serial)+(1000:Int)),(0:Int),[]⟩:zB)])).Events).length])=true) (ac (by first | (simp only [y6];done) | simp [y6]:(Ii ((lst zC).Thread):AV)=Ii ((lst (zC++[(⟨(lst zC).Thread,zP (((lst zC).Serial)+(1000:Int)),(0:Int),[]⟩:zB)])).Thread)) (ac (by first | (simp only [y6];done) | simp [y6]:(Ii (zP (((lst zC).Serial)+(1000:Int))):AV)=Ii ((lst (zC++[(⟨(lst zC).Thread,zP (((lst zC).Serial)+(1000:Int)),(0:Int),[]⟩:zB)])).Serial)) (ac (by first | (simp only [y6];done) | simp [y6]:(Ii 0:AV)=Ii ((lst (zC++[(⟨(lst zC).Thread,zP (((lst zC).Serial)+(1000:Int)),(0:Int),[]⟩:zB)])).Lost)) (ac (congrArg (AV.own _) (by first | (simp only [y6];done) | simp [y6]):(.own 3 0:AV)=.own 3 (((lst (zC++[(⟨(lst zC).Thread,zP (((lst zC).Serial)+(1000:Int)),(0:Int),[]⟩:zB)])).Events).length)) (ar 42 (ar 6 (ac (by first | (simp only [y6];done) | simp [y6]:([]:List AV)=List.map zD (lst (zC++[(⟨(lst zC).Thread,zP (((lst zC).Serial)+(1000:Int)),(0:Int),[]⟩:zB)])).Events) an))))))))))))) ?_
   refine w4 (id:=1) (by kernel_rfl) ?_
   exact ⟨_,(sw [0,1] [] [.s 0,.s 1] [.s 0,.s 1] an),_,_,rfl,h⟩
  intro g_2;replace h:=zU g_2 h
  refine sk ?_
  refine sq ?_
  obtain ⟨_,h_7,h⟩:=bind_some h;replace h_7:=wM h_7
  obtain ⟨_,h_8,h⟩:=bind_some h;replace h_8:=wM h_8
  obtain ⟨_,h_9,h⟩:=bind_some h;replace h_9:=wM h_9
  obtain ⟨_,qY,h⟩:=bind_some h;replace qY:=wM qY
  refine rg [(4,{ x:=true }),(7,{ l:=(Mp zD (sub zQ (0:Int) (x4 (zP ((1000:Int) - (lN ((lst zC).Events)))) (lN (zQ))))) }),(8,{ id:=2,l:=(Mp zD (((lst zC).Events)++(sub zQ (0:Int) (x4 (zP ((1000:Int) - (lN ((lst zC).Events)))) (lN (zQ)))))),n:=((((lst zC).Events)++(sub zQ (0:Int) (x4 (zP ((1000:Int) - (lN ((lst zC).Events)))) (lN (zQ)))))).length }),(11,{ x:=true })] [0,1,6] [0,2] 3 [.own 0 ((zC).length),.sl false 6 (Mp zD zQ),Ii (x4 (zP ((1000:Int) - (lN ((lst zC).Events)))) (lN (zQ)))] [.live (.rowQ 59 4 (Mp zA (ini zC)) (!(zC).isEmpty) [Ii ((lst zC).Thread),Ii ((lst zC).Serial),Ii ((lst zC).Lost),.own 2 (((((lst zC).Events)++(sub zQ (0:Int) (x4 (zP ((1000:Int) - (lN ((lst zC).Events)))) (lN (zQ)))))).length)]),Rb 42 6 (Mp zD (((lst zC).Events)++(sub zQ (0:Int) (x4 (zP ((1000:Int) - (lN ((lst zC).Events)))) (lN (zQ))))))] zG (ac (zG6 _ h_7:(zP ((lN (zC)) - (1:Int))).toNat=(Mp zA (ini zC)).length) (ac (zDp (Nat.lt_of_lt_of_eq (Nat.succ_pos _) h_7):(!(zC).isEmpty)=true) (ac (by decide:(0:Int)≤(0:Int)) (ac h_8.1 (ac (zBz h_8.2:(x4 (zP ((1000:Int) - (lN ((lst zC).Events)))) (lN (zQ)))≤(lN ((Mp zD zQ)))) (ac (zHk _ _ _:(Mp zD (sub zQ (0:Int) (x4 (zP ((1000:Int) - (lN ((lst zC).Events)))) (lN (zQ)))))=(((Mp zD zQ)).take (x4 (zP ((1000:Int) - (lN ((lst zC).Events)))) (lN (zQ))).toNat).drop ((0:Int)).toNat) (ac (by first | (simp;done) | (simp;omega):((lst zC).Events).length=((List.map zD ((lst zC).Events))).length) (ac (trivial:True) (ac (zBf _ _:(Mp zD (((lst zC).Events)++(sub zQ (0:Int) (x4 (zP ((1000:Int) - (lN ((lst zC).Events)))) (lN (zQ))))))=(Mp zD ((lst zC).Events))++(Mp zD (sub zQ (0:Int) (x4 (zP ((1000:Int) - (lN ((lst zC).Events)))) (lN (zQ)))))) (ac (by simp:((((lst zC).Events)++(sub zQ (0:Int) (x4 (zP ((1000:Int) - ((((lst zC).Events).length:Nat):Int))) (((zQ).length:Nat):Int))))).length=((List.map zD (((lst zC).Events)++(sub zQ (0:Int) (x4 (zP ((1000:Int) - ((((lst zC).Events).length:Nat):Int))) (((zQ).length:Nat):Int)))))).length) (ac (by first | (simp;done) | simpa using h_9:(((List.map zD ((lst zC).Events)):List AV).length+((List.map zD (sub zQ (0:Int) (x4 (zP ((1000:Int) - ((((lst zC).Events).length:Nat):Int))) (((zQ).length:Nat):Int)))):List AV).length) * 72≤140737488355328) (ac (zG6 _ qY:(zP ((lN (zC)) - (1:Int))).toNat=(Mp zA (ini zC)).length) (ac (zDp (Nat.lt_of_lt_of_eq (Nat.succ_pos _) qY):(!(zC).isEmpty)=true) an))))))))))))) ?_
  refine wk [0,2] [] [.a 0 (.own 0 ((((ini zC)++[(⟨(lst zC).Thread,(lst zC).Serial,(lst zC).Lost,(((lst zC).Events)++(sub zQ (0:Int) (x4 (zP ((1000:Int) - (lN ((lst zC).Events)))) (lN (zQ)))))⟩:zB)])).length)),.s 1,.s 6] [.a 0 (.live (.rowQ 59 4 (Mp zA (ini ((ini zC)++[(⟨(lst zC).Thread,(lst zC).Serial,(lst zC).Lost,(((lst zC).Events)++(sub zQ (0:Int) (x4 (zP ((1000:Int) - (lN ((lst zC).Events)))) (lN (zQ)))))⟩:zB)]))) (!(((ini zC)++[(⟨(lst zC).Thread,(lst zC).Serial,(lst zC).Lost,(((lst zC).Events)++(sub zQ (0:Int) (x4 (zP ((1000:Int) - (lN ((lst zC).Events)))) (lN (zQ)))))⟩:zB)])).isEmpty) (yB (lst ((ini zC)++[(⟨(lst zC).Thread,(lst zC).Serial,(lst zC).Lost,(((lst zC).Events)++(sub zQ (0:Int) (x4 (zP ((1000:Int) - (lN ((lst zC).Events)))) (lN (zQ)))))⟩:zB)]))++[.own 1 ((lst ((ini zC)++[(⟨(lst zC).Thread,(lst zC).Serial,(lst zC).Lost,(((lst zC).Events)++(sub zQ (0:Int) (x4 (zP ((1000:Int) - (lN ((lst zC).Events)))) (lN (zQ)))))⟩:zB)])).Events).length]))),.a 1 (Rb 42 6 (Mp zD (lst ((ini zC)++[(⟨(lst zC).Thread,(lst zC).Serial,(lst zC).Lost,(((lst zC).Events)++(sub zQ (0:Int) (x4 (zP ((1000:Int) - (lN ((lst zC).Events)))) (lN (zQ)))))⟩:zB)])).Events))] [(0,.own 0 ((((ini zC)++[(⟨(lst zC).Thread,(lst zC).Serial,(lst zC).Lost,(((lst zC).Events)++(sub zQ (0:Int) (x4 (zP ((1000:Int) - (lN ((lst zC).Events)))) (lN (zQ)))))⟩:zB)])).length)),(1,.sl false 6 (Mp zD zQ)),(6,Ii (x4 (zP ((1000:Int) - (lN ((lst zC).Events)))) (lN (zQ))))] [(0,.live (.rowQ 59 4 (Mp zA (ini ((ini zC)++[(⟨(lst zC).Thread,(lst zC).Serial,(lst zC).Lost,(((lst zC).Events)++(sub zQ (0:Int) (x4 (zP ((1000:Int) - (lN ((lst zC).Events)))) (lN (zQ)))))⟩:zB)]))) (!(((ini zC)++[(⟨(lst zC).Thread,(lst zC).Serial,(lst zC).Lost,(((lst zC).Events)++(sub zQ (0:Int) (x4 (zP ((1000:Int) - (lN ((lst zC).Events)))) (lN (zQ)))))⟩:zB)])).isEmpty) (yB (lst ((ini zC)++[(⟨(lst zC).Thread,(lst zC).Serial,(lst zC).Lost,(((lst zC).Events)++(sub zQ (0:Int) (x4 (zP ((1000:Int) - (lN ((lst zC).Events)))) (lN (zQ)))))⟩:zB)]))++[.own 1 ((lst ((ini zC)++[(⟨(lst zC).Thread,(lst zC).Serial,(lst zC).Lost,(((lst zC).Events)++(sub zQ (0:Int) (x4 (zP ((1000:Int) - (lN ((lst zC).Events)))) (lN (zQ)))))⟩:zB)])).Events).length]))),(1,Rb 42 6 (Mp zD (lst ((ini zC)++[(⟨(lst zC).Thread,(lst zC).Serial,(lst zC).Lost,(((lst zC).Events)++(sub zQ (0:Int) (x4 (zP ((1000:Int) - (lN ((lst zC).Events)))) (lN (zQ)))))⟩:zB)])).Events))] (ac (congrArg (AV.own _) (zNc _ qY).symm:(.own 0 ((zC).length):AV)=.own 0 ((((ini zC)++[(⟨(lst zC).Thread,(lst zC).Serial,(lst zC).Lost,(((lst zC).Events)++(sub zQ (0:Int) (x4 (zP ((1000:Int) - (lN ((lst zC).Events)))) (lN (zQ)))))⟩:zB)])).length)) (ar 59 (ar 4 (ac ((congrArg (List.map _) (nC _ _)).symm:((Mp zA (ini zC)):List AV)=List.map zA (ini ((ini zC)++[(⟨(lst zC).Thread,(lst zC).Serial,(lst zC).Lost,(((lst zC).Events)++(sub zQ (0:Int) (x4 (zP ((1000:Int) - (lN ((lst zC).Events)))) (lN (zQ)))))⟩:zB)]))) (ac ((zDp (Nat.lt_of_lt_of_eq (Nat.succ_pos _) qY)).trans (zHg _ _).symm:(!(zC).isEmpty)=(!(((ini zC)++[(⟨(lst zC).Thread,(lst zC).Serial,(lst zC).Lost,(((lst zC).Events)++(sub zQ (0:Int) (x4 (zP ((1000:Int) - (lN ((lst zC).Events)))) (lN (zQ)))))⟩:zB)])).isEmpty)) (ac (rfl:vT (yB (lst ((ini zC)++[(⟨(lst zC).Thread,(lst zC).Serial,(lst zC).Lost,(((lst zC).Events)++(sub zQ (0:Int) (x4 (zP ((1000:Int) - (lN ((lst zC).Events)))) (lN (zQ)))))⟩:zB)]))++[.own 2 ((lst ((ini zC)++[(⟨(lst zC).Thread,(lst zC).Serial,(lst zC).Lost,(((lst zC).Events)++(sub zQ (0:Int) (x4 (zP ((1000:Int) - (lN ((lst zC).Events)))) (lN (zQ)))))⟩:zB)])).Events).length])=true) (ac (by first | (simp only [y6];done) | simp [y6]:(Ii ((lst zC).Thread):AV)=Ii ((lst ((ini zC)++[(⟨(lst zC).Thread,(lst zC).Serial,(lst zC).Lost,(((lst zC).Events)++(sub zQ (0:Int) (x4 (zP ((1000:Int) - ((((lst zC).Events).length:Nat):Int))) (((zQ).length:Nat):Int))))⟩:zB)])).Thread)) (ac (by first | (simp only [y6];done) | simp [y6]:(Ii ((lst zC).Serial):AV)=Ii ((lst ((ini zC)++[(⟨(lst zC).Thread,(lst zC).Serial,(lst zC).Lost,(((lst zC).Events)++(sub zQ (0:Int) (x4 (zP ((1000:Int) - ((((lst zC).Events).length:Nat):Int))) (((zQ).length:Nat):Int))))⟩:zB)])).Serial)) (ac (by first | (simp only [y6];done) | simp [y6]:(Ii ((lst zC).Lost):AV)=Ii ((lst ((ini zC)++[(⟨(lst zC).Thread,(lst zC).Serial,(lst zC).Lost,(((lst zC).Events)++(sub zQ (0:Int) (x4 (zP ((1000:Int) - ((((lst zC).Events).length:Nat):Int))) (((zQ).length:Nat):Int))))⟩:zB)])).Lost)) (ac (congrArg (AV.own _) (by first | (simp only [y6];done) | simp [y6]):(.own 2 (((((lst zC).Events)++(sub zQ (0:Int) (x4 (zP ((1000:Int) - (lN ((lst zC).Events)))) (lN (zQ)))))).length):AV)=.own 2 (((lst ((ini zC)++[(⟨(lst zC).Thread,(lst zC).Serial,(lst zC).Lost,(((lst zC).Events)++(sub zQ (0:Int) (x4 (zP ((1000:Int) - (lN ((lst zC).Events)))) (lN (zQ)))))⟩:zB)])).Events).length)) (ar 42 (ar 6 (ac (by first | (simp only [y6];done) | simp [y6]:((List.map zD (((lst zC).Events)++(sub zQ (0:Int) (x4 (zP ((1000:Int) - ((((lst zC).Events).length:Nat):Int))) (((zQ).length:Nat):Int))))):List AV)=List.map zD (lst ((ini zC)++[(⟨(lst zC).Thread,(lst zC).Serial,(lst zC).Lost,(((lst zC).Events)++(sub zQ (0:Int) (x4 (zP ((1000:Int) - ((((lst zC).Events).length:Nat):Int))) (((zQ).length:Nat):Int))))⟩:zB)])).Events) an))))))))))))) ?_
  obtain ⟨_,t5,h⟩:=bind_some h;replace t5:=wM t5
  refine rg [(2,{ l:=(Mp zD (sub zQ (x4 (zP ((1000:Int) - (lN ((lst zC).Events)))) (lN (zQ))) (lN (zQ)))) })] [0,1] [0,1] 2 [.own 0 ((((ini zC)++[(⟨(lst zC).Thread,(lst zC).Serial,(lst zC).Lost,(((lst zC).Events)++(sub zQ (0:Int) (x4 (zP ((1000:Int) - (lN ((lst zC).Events)))) (lN (zQ)))))⟩:zB)])).length),.sl false 6 (Mp zD (sub zQ (x4 (zP ((1000:Int) - (lN ((lst zC).Events)))) (lN (zQ))) (lN (zQ))))] [.live (.rowQ 59 4 (Mp zA (ini ((ini zC)++[(⟨(lst zC).Thread,(lst zC).Serial,(lst zC).Lost,(((lst zC).Events)++(sub zQ (0:Int) (x4 (zP ((1000:Int) - (lN ((lst zC).Events)))) (lN (zQ)))))⟩:zB)]))) (!(((ini zC)++[(⟨(lst zC).Thread,(lst zC).Serial,(lst zC).Lost,(((lst zC).Events)++(sub zQ (0:Int) (x4 (zP ((1000:Int) - (lN ((lst zC).Events)))) (lN (zQ)))))⟩:zB)])).isEmpty) (yB (lst ((ini zC)++[(⟨(lst zC).Thread,(lst zC).Serial,(lst zC).Lost,(((lst zC).Events)++(sub zQ (0:Int) (x4 (zP ((1000:Int) - (lN ((lst zC).Events)))) (lN (zQ)))))⟩:zB)]))++[.own 1 ((lst ((ini zC)++[(⟨(lst zC).Thread,(lst zC).Serial,(lst zC).Lost,(((lst zC).Events)++(sub zQ (0:Int) (x4 (zP ((1000:Int) - (lN ((lst zC).Events)))) (lN (zQ)))))⟩:zB)])).Events).length])),Rb 42 6 (Mp zD (lst ((ini zC)++[(⟨(lst zC).Thread,(lst zC).Serial,(lst zC).Lost,(((lst zC).Events)++(sub zQ (0:Int) (x4 (zP ((1000:Int) - (lN ((lst zC).Events)))) (lN (zQ)))))⟩:zB)])).Events)] zG (ac t5.1 (ac (zBz t5.2:(x4 (zP ((1000:Int) - (lN ((lst zC).Events)))) (lN (zQ)))≤(lN ((Mp zD zQ)))) (ac (Int.le_refl _:(lN ((Mp zD zQ)))≤(lN ((Mp zD zQ)))) (ac (zI0 _ _:(Mp zD (sub zQ (x4 (zP ((1000:Int) - (lN ((lst zC).Events)))) (lN (zQ))) (lN (zQ))))=(((Mp zD zQ)).take ((lN ((Mp zD zQ)))).toNat).drop (x4 (zP ((1000:Int) - (lN ((lst zC).Events)))) (lN (zQ))).toNat) an)))) ?_
  exact ⟨_,(sw [0,1] [] [.s 0,.s 1] [.s 0,.s 1] an),_,_,rfl,h⟩
 refine sr [] [4] [0,1] 2 [.own 0 ((o_1).length)] [.live (.rowQ 59 4 (Mp zA (ini o_1)) (!(o_1).isEmpty) (yB (lst o_1)++[.own 1 ((lst o_1).Events).length])),Rb 42 6 (Mp zD (lst o_1).Events)] zG an ?_
 refine wk [0,1] [] [.s 4] [.s 0,.s 1] [(4,.own 0 ((o_1).length))] [(0,.live (.rowQ 59 4 (Mp zA (ini o_1)) (!(o_1).isEmpty) (yB (lst o_1)++[.own 1 ((lst o_1).Events).length]))),(1,Rb 42 6 (Mp zD (lst o_1).Events))] an ?_
 refine rt ?_
 cases h
 exact ⟨.inr rfl,Nat.le_of_ble_eq_true rfl,by kernel_rfl⟩

theorem nD (F:Nat) (h_1:zT) (l_1:List (zB)) (r:z8×Int) (h:pJ F h_1 l_1=some r):zX prog 10 [] [] [y9 h_1,.sl false 4 (Mp zA l_1)] [] (.tuple [yF r.1,Ii r.2]):=by
 refine yI (fn:=Go.Proofs.Try.f10) (code:=xQ Go.Proofs.Try.f10) (by kernel_rfl) (by kernel_rfl) (Nat.le_of_ble_eq_true (by kernel_rfl)) ?_
 unfold pJ at h
 refine sr [(0,{ id:=0 }),(1,{ id:=1 })] [1,2,4] [0,1] 2 [.sl false 4 (Mp zA l_1),Pp 0,Pp 1] [Vb 26 (zS h_1),Vb 31 [.nilsl,.nilsl,.nilsl,.nilsl]] zG an ?_
 refine jO (kP 1 3 2 59 4 (by kernel_rfl)) ?_
 refine wk [0,1,2] [] [.s 1,.s 2,.s 4] [.s 0,.s 1,.s 2] [(1,.sl false 4 (Mp zA l_1)),(2,Pp 0),(4,Pp 1)] [(0,Vb 26 (zS h_1)),(1,Vb 31 [.nilsl,.nilsl,.nilsl,.own 2 0]),(2,Rb 59 4 [])] an ?_
 refine sq ?_
 refine sq ?_
 obtain ⟨r_1,h_2,h⟩:=bind_some h
 refine rg [(1,{ av:=Ii r_1,l:=[y9 h_1] })] [1,2,4,6] [0,1,2] 3 [.sl false 4 (Mp zA l_1),Pp 0,Pp 1,Ii r_1] [Vb 26 (zS h_1),Vb 31 [.nilsl,.nilsl,.nilsl,.own 2 0],Rb 59 4 []] zG (ar ([y9 h_1]:List AV) (ac (rfl:([]:List zM)=[]) (ac (zHA F h_1 r_1 h_2:zX prog 27 [] [] [y9 h_1] [] (Ii r_1)) an))) ?_
 refine sr [] [1,2,4,6,18] [0,1,2] 3 [.sl false 4 (Mp zA l_1),Pp 0,Pp 1,Ii r_1,.bool (r_1 != (0:Int))] [Vb 26 (zS h_1),Vb 31 [.nilsl,.nilsl,.nilsl,.own 2 0],Rb 59 4 []] zG an ?_
 refine cd 18 (r_1 != (0:Int)) ?_ ?_
 ·intro g_1;replace h:=zV g_1 h
  refine sr [] [4,5] [1] 3 [Pp 1,Ii r_1] [Vb 31 [.nilsl,.nilsl,.nilsl,.nilsl]] zG an ?_
  refine jO (kP 1 3 3 59 4 (by kernel_rfl)) ?_
  refine wk [1,3] [] [.s 4,.s 5] [.s 0,.s 1] [(4,Pp 0),(5,Ii r_1)] [(0,Vb 31 [.nilsl,.nilsl,.nilsl,.own 1 0]),(1,Rb 59 4 [])] an ?_
  refine wk [0] [1] [.s 4,.s 5] [.a 0 (Vb 31 [.sl false 3 (Mp zF (((⟨(⟨[],[],[]⟩:zT),[]⟩:z8).Head).Threads)),.sl false 2 (Mp zE (((⟨(⟨[],[],[]⟩:zT),[]⟩:z8).Head).Domains)),.sl false 5 (Mp zN (((⟨(⟨[],[],[]⟩:zT),[]⟩:z8).Head).Snaps)),.sl false 4 (Mp zA ((⟨(⟨[],[],[]⟩:zT),[]⟩:z8).Parts))])] [(4,Pp 0),(5,Ii r_1)] [(0,Vb 31 [.sl false 3 (Mp zF (((⟨(⟨[],[],[]⟩:zT),[]⟩:z8).Head).Threads)),.sl false 2 (Mp zE (((⟨(⟨[],[],[]⟩:zT),[]⟩:z8).Head).Domains)),.sl false 5 (Mp zN (((⟨(⟨[],[],[]⟩:zT),[]⟩:z8).Head).Snaps)),.sl false 4 (Mp zA ((⟨(⟨[],[],[]⟩:zT),[]⟩:z8).Parts))])] (ar 31 (ac (rfl:vT [.sl false 3 (Mp zF (((⟨(⟨[],[],[]⟩:zT),[]⟩:z8).Head).Threads)),.sl false 2 (Mp zE (((⟨(⟨[],[],[]⟩:zT),[]⟩:z8).Head).Domains)),.sl false 5 (Mp zN (((⟨(⟨[],[],[]⟩:zT),[]⟩:z8).Head).Snaps)),.sl false 4 (Mp zA ((⟨(⟨[],[],[]⟩:zT),[]⟩:z8).Parts))]=true) (ac (by first | (simp;done) | (simp;omega):0=(([]:List AV)).length) (ac (rfl:((Mp zF (((⟨(⟨[],[],[]⟩:zT),[]⟩:z8).Head).Threads)):List AV)=[]) (ac (rfl:((Mp zE (((⟨(⟨[],[],[]⟩:zT),[]⟩:z8).Head).Domains)):List AV)=[]) (ac (rfl:((Mp zN (((⟨(⟨[],[],[]⟩:zT),[]⟩:z8).Head).Snaps)):List AV)=[]) (ar 4 (ac (rfl:([]:List AV)=(Mp zA ((⟨(⟨[],[],[]⟩:zT),[]⟩:z8).Parts))) (ac (rfl:(!false||false)=true) an))))))))) ?_
  refine rt ?_
  cases h
  exact ⟨.inr rfl,Nat.le_of_ble_eq_true rfl,by kernel_rfl⟩
 intro g_1;replace h:=zU g_1 h
 refine sk ?_
 refine sq ?_
 refine sq ?_
 obtain ⟨r_2,h_3,h⟩:=bind_some h
 refine rg [(2,{ av:=Ii r_2,l:=[y9 h_1,.sl false 4 (Mp zA l_1)] })] [1,2,4,7] [0,1,2] 3 [.sl false 4 (Mp zA l_1),Pp 0,Pp 1,Ii r_2] [Vb 26 (zS h_1),Vb 31 [.nilsl,.nilsl,.nilsl,.own 2 0],Rb 59 4 []] zG (ar ([y9 h_1,.sl false 4 (Mp zA l_1)]:List AV) (ac (rfl:([]:List zM)=[]) (ac (zHE F h_1 l_1 r_2 h_3:zX prog 28 [] [] [y9 h_1,.sl false 4 (Mp zA l_1)] [] (Ii r_2)) an))) ?_
 refine sr [] [1,2,4,7,25] [0,1,2] 3 [.sl false 4 (Mp zA l_1),Pp 0,Pp 1,Ii r_2,.bool (r_2 != (0:Int))] [Vb 26 (zS h_1),Vb 31 [.nilsl,.nilsl,.nilsl,.own 2 0],Rb 59 4 []] zG an ?_
 refine cd 25 (r_2 != (0:Int)) ?_ ?_
 ·intro g_2;replace h:=zV g_2 h
  refine sr [] [4,5] [1] 3 [Pp 1,Ii r_2] [Vb 31 [.nilsl,.nilsl,.nilsl,.nilsl]] zG an ?_
  refine jO (kP 1 3 3 59 4 (by kernel_rfl)) ?_
  refine wk [1,3] [] [.s 4,.s 5] [.s 0,.s 1] [(4,Pp 0),(5,Ii r_2)] [(0,Vb 31 [.nilsl,.nilsl,.nilsl,.own 1 0]),(1,Rb 59 4 [])] an ?_
  refine wk [0] [1] [.s 4,.s 5] [.a 0 (Vb 31 [.sl false 3 (Mp zF (((⟨(⟨[],[],[]⟩:zT),[]⟩:z8).Head).Threads)),.sl false 2 (Mp zE (((⟨(⟨[],[],[]⟩:zT),[]⟩:z8).Head).Domains)),.sl false 5 (Mp zN (((⟨(⟨[],[],[]⟩:zT),[]⟩:z8).Head).Snaps)),.sl false 4 (Mp zA ((⟨(⟨[],[],[]⟩:zT),[]⟩:z8).Parts))])] [(4,Pp 0),(5,Ii r_2)] [(0,Vb 31 [.sl false 3 (Mp zF (((⟨(⟨[],[],[]⟩:zT),[]⟩:z8).Head).Threads)),.sl false 2 (Mp zE (((⟨(⟨[],[],[]⟩:zT),[]⟩:z8).Head).Domains)),.sl false 5 (Mp zN (((⟨(⟨[],[],[]⟩:zT),[]⟩:z8).Head).Snaps)),.sl false 4 (Mp zA ((⟨(⟨[],[],[]⟩:zT),[]⟩:z8).Parts))])] (ar 31 (ac (rfl:vT [.sl false 3 (Mp zF (((⟨(⟨[],[],[]⟩:zT),[]⟩:z8).Head).Threads)),.sl false 2 (Mp zE (((⟨(⟨[],[],[]⟩:zT),[]⟩:z8).Head).Domains)),.sl false 5 (Mp zN (((⟨(⟨[],[],[]⟩:zT),[]⟩:z8).Head).Snaps)),.sl false 4 (Mp zA ((⟨(⟨[],[],[]⟩:zT),[]⟩:z8).Parts))]=true) (ac (by first | (simp;done) | (simp;omega):0=(([]:List AV)).length) (ac (rfl:((Mp zF (((⟨(⟨[],[],[]⟩:zT),[]⟩:z8).Head).Threads)):List AV)=[]) (ac (rfl:((Mp zE (((⟨(⟨[],[],[]⟩:zT),[]⟩:z8).Head).Domains)):List AV)=[]) (ac (rfl:((Mp zN (((⟨(⟨[],[],[]⟩:zT),[]⟩:z8).Head).Snaps)):List AV)=[]) (ar 4 (ac (rfl:([]:List AV)=(Mp zA ((⟨(⟨[],[],[]⟩:zT),[]⟩:z8).Parts))) (ac (rfl:(!false||false)=true) an))))))))) ?_
  refine rt ?_
  cases h
  exact ⟨.inr rfl,Nat.le_of_ble_eq_true rfl,by kernel_rfl⟩
 intro g_2;replace h:=zU g_2 h
 refine sk ?_
 refine sr [(0,{ id:=3,mag:=false,mks:=[.int .i64] })] [1,2,4,8] [0,1,2,3] 4 [.sl false 4 (Mp zA l_1),Pp 0,Pp 1,.mp 3] [Vb 26 (zS h_1),Vb 31 [.nilsl,.nilsl,.nilsl,.own 2 0],Rb 59 4 [],.live (.map false [.int .i64] [])] zG an ?_
 refine zIl 3 4 (ag:=false) (ks:=[.int .i64]) (.nm 59 4 42 6) (by kernel_rfl) (by kernel_rfl) (zL3 (by kernel_rfl)) ?_
 intro b_1
 refine wk [0,1,2,4] [] [.s 1,.s 2,.s 4,.s 8] [.s 0,.s 1,.s 2,.s 3] [(1,.sl false 4 (Mp zA l_1)),(2,Pp 0),(4,Pp 1),(8,.rawm b_1)] [(0,Vb 26 (zS h_1)),(1,Vb 31 [.nilsl,.nilsl,.nilsl,.own 2 0]),(2,Rb 59 4 []),(3,.live (.fam (.cl b_1 false [.int .i64] (.nm 59 4 42 6) (List.map (mpE (AV.int .i64) yN) ([]:List (Int×(List (zB))))))))] an ?_
 refine sq ?_
 refine sr [(1,{ n:=(l_1).length })] [2,4,8,29,30,31] [0,1,2,3] 4 [Pp 0,Pp 1,.rawm b_1,.sl false 4 (Mp zA l_1),Ii (lN (l_1)),Ii 0] [Vb 26 (zS h_1),Vb 31 [.nilsl,.nilsl,.nilsl,.own 2 0],Rb 59 4 [],.live (.fam (.cl b_1 false [.int .i64] (.nm 59 4 42 6) (List.map (mpE (AV.int .i64) yN) ([]:List (Int×(List (zB)))))))] zG (ac (yG _:((Mp zA l_1)).length=(l_1).length) an) ?_
 obtain ⟨o_1,h_4,h⟩:=bind_some h
 refine wI (mk [(2,Pp 0),(4,Pp 1),(8,.rawm b_1)] [(0,Vb 26 (zS h_1)),(1,Vb 31 [.nilsl,.nilsl,.nilsl,.own 2 0]),(2,Rb 59 4 []),(3,.live (.fam (.cl b_1 false [.int .i64] (.nm 59 4 42 6) (List.map (mpE (AV.int .i64) yN) o_1))))] 4) ?_ ?_
 ·replace h:=h_4
  refine yZ (id:=0) (by kernel_rfl) ?_
  refine wk [0,1,2,3] [] [.s 2,.s 4,.s 8,.s 29,.s 30,.s 31] [.s 0,.s 1,.s 2,.s 3] [(2,Pp 0),(4,Pp 1),(8,.rawm b_1),(29,.sl false 4 (Mp zA l_1)),(30,Ii (lN (l_1))),(31,Ii 0)] [(0,Vb 26 (zS h_1)),(1,Vb 31 [.nilsl,.nilsl,.nilsl,.own 2 0]),(2,Rb 59 4 []),(3,.live (.fam (.cl b_1 false [.int .i64] (.nm 59 4 42 6) (List.map (mpE (AV.int .i64) yN) ([]:List (Int×(List (zB))))))))] an ?_
  refine wP (fun n st=>∃ (v_1:Int),∃ (zC:List (Int×(List (zB)))),st=mk [(2,Pp 0),(4,Pp 1),(8,.rawm b_1),(29,.sl false 4 (Mp zA l_1)),(30,Ii (lN (l_1))),(31,Ii v_1)] [(0,Vb 26 (zS h_1)),(1,Vb 31 [.nilsl,.nilsl,.nilsl,.own 2 0]),(2,Rb 59 4 []),(3,.live (.fam (.cl b_1 false [.int .i64] (.nm 59 4 42 6) (List.map (mpE (AV.int .i64) yN) zC))))] 4∧jQ F l_1 n v_1 zC=some o_1) F (by kernel_rfl) ⟨_,_,rfl,h⟩ ?_ ?_
  ·rintro _ ⟨_,_,_,h⟩;exact w8 (h:(none:Option (List (Int×(List (zB)))))=some o_1)
  rintro n_1 _ ⟨v_1,zC,rfl,h⟩
  replace h:jA F l_1 (jQ F l_1 n_1) v_1 zC=some o_1:=h
  unfold jA at h
  refine sr [] [2,4,8,29,30,31,32] [0,1,2,3] 4 [Pp 0,Pp 1,.rawm b_1,.sl false 4 (Mp zA l_1),Ii (lN (l_1)),Ii v_1,.bool (decide (v_1<(lN (l_1))))] [Vb 26 (zS h_1),Vb 31 [.nilsl,.nilsl,.nilsl,.own 2 0],Rb 59 4 [],.live (.fam (.cl b_1 false [.int .i64] (.nm 59 4 42 6) (List.map (mpE (AV.int .i64) yN) zC)))] zG an ?_
  refine sq ?_
  refine cd 32 (decide (v_1<(lN (l_1)))) ?_ ?_
  rotate_left
  ·intro g_3;replace h:=zU g_3 h
   refine w4 (id:=0) (by kernel_rfl) ?_
   cases h
   exact ⟨rfl,(sw [0,1,2,3] [] [.s 2,.s 4,.s 8] [.s 0,.s 1,.s 2,.s 3] an)⟩
  intro g_3;replace h:=zV g_3 h
  refine sk ?_
  refine sq ?_
  refine yZ (id:=1) (by kernel_rfl) ?_
  refine sq ?_
  obtain ⟨x_1,h_5,h⟩:=bind_some h
  refine rg [(0,{ av:=zA x_1 }),(2,{ id:=4 })] [2,4,8,10,29,30,31] [0,1,2,3,4] 5 [Pp 0,Pp 1,.rawm b_1,Pp 4,.sl false 4 (Mp zA l_1),Ii (lN (l_1)),Ii v_1] [Vb 26 (zS h_1),Vb 31 [.nilsl,.nilsl,.nilsl,.own 2 0],Rb 59 4 [],.live (.fam (.cl b_1 false [.int .i64] (.nm 59 4 42 6) (List.map (mpE (AV.int .i64) yN) zC))),Vb 59 (zR x_1)] zG (ac (wA h_5:wX (Mp zA l_1) v_1=some (zA x_1)) an) ?_
  refine sr [(3,{ av:=(yN ((z9 zC x_1.Thread).getD [])),dep:=true,g:=(z9 zC x_1.Thread).isSome,ids:=[5,6],l:=(yB (lst ([]:List zB))),n:=3,x:=true })] [2,4,8,10,11,29,30,31] [0,1,2,3,4,5,6] 7 [Pp 0,Pp 1,.rawm b_1,Pp 4,.own 5 ((Mp zA (ini ((z9 zC x_1.Thread).getD []))).length+bif (!(((z9 zC x_1.Thread).getD [])).isEmpty) then 1 else 0),.sl false 4 (Mp zA l_1),Ii (lN (l_1)),Ii v_1] [Vb 26 (zS h_1),Vb 31 [.nilsl,.nilsl,.nilsl,.own 2 0],Rb 59 4 [],.live (.fam (.op b_1 false [.int .i64] (.nm 59 4 42 6) (List.map (mpE (AV.int .i64) yN) zC) (Ii x_1.Thread))),Vb 59 (zR x_1),.live (.rowQ 59 4 (Mp zA (ini ((z9 zC x_1.Thread).getD []))) (!(((z9 zC x_1.Thread).getD [])).isEmpty) (yB (lst ((z9 zC x_1.Thread).getD []))++[.own 6 (Mp zD (lst ((z9 zC x_1.Thread).getD [])).Events).length])),Rb 42 6 (Mp zD (lst ((z9 zC x_1.Thread).getD [])).Events)] zG (ar b_1 (ac (nL:vK prog 3 false [.int .i64]) (ac (zDo (f:=(AV.int .i64)) (g:=yN) nF zC x_1.Thread []:q6 (List.map (mpE (AV.int .i64) yN) zC) (Ii x_1.Thread) (zJm (.nm 59 4 42 6) (yB (lst ([]:List zB)))) (yN ((z9 zC x_1.Thread).getD [])) (z9 zC x_1.Thread).isSome) an))) ?_
  refine wk [0,1,2,3,4,5,6] [] [.s 2,.s 4,.s 8,.s 10,.a 11 (.own 5 ((((z9 zC x_1.Thread).getD [])).length)),.s 29,.s 30,.s 31] [.s 0,.s 1,.s 2,.s 3,.s 4,.a 5 (.live (.rowQ 59 4 (Mp zA (ini ((z9 zC x_1.Thread).getD []))) (!(((z9 zC x_1.Thread).getD [])).isEmpty) (yB (lst ((z9 zC x_1.Thread).getD []))++[.own 6 ((lst ((z9 zC x_1.Thread).getD [])).Events).length]))),.s 6] [(2,Pp 0),(4,Pp 1),(8,.rawm b_1),(10,Pp 4),(11,.own 5 ((((z9 zC x_1.Thread).getD [])).length)),(29,.sl false 4 (Mp zA l_1)),(30,Ii (lN (l_1))),(31,Ii v_1)] [(0,Vb 26 (zS h_1)),(1,Vb 31 [.nilsl,.nilsl,.nilsl,.own 2 0]),(2,Rb 59 4 []),(3,.live (.fam (.op b_1 false [.int .i64] (.nm 59 4 42 6) (List.map (mpE (AV.int .i64) yN) zC) (Ii x_1.Thread)))),(4,Vb 59 (zR x_1)),(5,.live (.rowQ 59 4 (Mp zA (ini ((z9 zC x_1.Thread).getD []))) (!(((z9 zC x_1.Thread).getD [])).isEmpty) (yB (lst ((z9 zC x_1.Thread).getD []))++[.own 6 ((lst ((z9 zC x_1.Thread).getD [])).Events).length]))),(6,Rb 42 6 (Mp zD (lst ((z9 zC x_1.Thread).getD [])).Events))] (ac (congrArg (AV.own _) (zL1 _ _):(.own 5 ((Mp zA (ini ((z9 zC x_1.Thread).getD []))).length+bif (!(((z9 zC x_1.Thread).getD [])).isEmpty) then 1 else 0):AV)=.own 5 ((((z9 zC x_1.Thread).getD [])).length)) (ar 59 (ar 4 (ar (Mp zA (ini ((z9 zC x_1.Thread).getD [])):List AV) (ar (!(((z9 zC x_1.Thread).getD [])).isEmpty) (ac (rfl:vT (yB (lst ((z9 zC x_1.Thread).getD []))++[.own 6 ((lst ((z9 zC x_1.Thread).getD [])).Events).length])=true) (ac (rfl:(Ii ((lst ((z9 zC x_1.Thread).getD [])).Thread):AV)=Ii ((lst ((z9 zC x_1.Thread).getD [])).Thread)) (ac (rfl:(Ii ((lst ((z9 zC x_1.Thread).getD [])).Serial):AV)=Ii ((lst ((z9 zC x_1.Thread).getD [])).Serial)) (ac (rfl:(Ii ((lst ((z9 zC x_1.Thread).getD [])).Lost):AV)=Ii ((lst ((z9 zC x_1.Thread).getD [])).Lost)) (ac (congrArg (AV.own _) (List.length_map _):(.own 6 (Mp zD (lst ((z9 zC x_1.Thread).getD [])).Events).length:AV)=.own 6 ((lst ((z9 zC x_1.Thread).getD [])).Events).length) an)))))))))) ?_
  refine sq ?_
  refine sq ?_
  refine wI (mk [(2,Pp 0),(4,Pp 1),(8,.rawm b_1),(10,Pp 4),(11,.own 5 ((((z9 zC x_1.Thread).getD [])).length)),(29,.sl false 4 (Mp zA l_1)),(30,Ii (lN (l_1))),(31,Ii v_1),(46,.bool (decide (x_1.Lost>(0:Int))||((lN (((z9 zC x_1.Thread).getD [])))==(0:Int))))] [(0,Vb 26 (zS h_1)),(1,Vb 31 [.nilsl,.nilsl,.nilsl,.own 2 0]),(2,Rb 59 4 []),(3,.live (.fam (.op b_1 false [.int .i64] (.nm 59 4 42 6) (List.map (mpE (AV.int .i64) yN) zC) (Ii x_1.Thread)))),(4,Vb 59 (zR x_1)),(5,.live (.rowQ 59 4 (Mp zA (ini ((z9 zC x_1.Thread).getD []))) (!(((z9 zC x_1.Thread).getD [])).isEmpty) (yB (lst ((z9 zC x_1.Thread).getD []))++[.own 6 ((lst ((z9 zC x_1.Thread).getD [])).Events).length]))),(6,Rb 42 6 (Mp zD (lst ((z9 zC x_1.Thread).getD [])).Events))] 7) ?_ ?_
  ·rcases bft (decide (x_1.Lost>(0:Int))) with z4 | z4
   ·refine rg [(4,Hg),(5,Hg),(6,Hg),(7,Ht)] [2,4,8,10,11,29,30,31,43,44,45,46] [0,1,2,3,4,5,6] 7 [Pp 0,Pp 1,.rawm b_1,Pp 4,.own 5 ((((z9 zC x_1.Thread).getD [])).length),.sl false 4 (Mp zA l_1),Ii (lN (l_1)),Ii v_1,.tuple [],.tuple [],.tuple [],.bool true] [Vb 26 (zS h_1),Vb 31 [.nilsl,.nilsl,.nilsl,.own 2 0],Rb 59 4 [],.live (.fam (.op b_1 false [.int .i64] (.nm 59 4 42 6) (List.map (mpE (AV.int .i64) yN) zC) (Ii x_1.Thread))),Vb 59 (zR x_1),.live (.rowQ 59 4 (Mp zA (ini ((z9 zC x_1.Thread).getD []))) (!(((z9 zC x_1.Thread).getD [])).isEmpty) (yB (lst ((z9 zC x_1.Thread).getD []))++[.own 6 ((lst ((z9 zC x_1.Thread).getD [])).Events).length])),Rb 42 6 (Mp zD (lst ((z9 zC x_1.Thread).getD [])).Events)] zG (ac z4 (ac z4 (ac z4 (ac z4 an)))) ?_
    exact ⟨rfl,(sw [0,1,2,3,4,5,6] [] [.s 2,.s 4,.s 8,.s 10,.s 11,.s 29,.s 30,.s 31,.a 46 (.bool (decide (x_1.Lost>(0:Int))||((lN (((z9 zC x_1.Thread).getD [])))==(0:Int))))] [.s 0,.s 1,.s 2,.s 3,.s 4,.s 5,.s 6] (ac (congrArg AV.bool (ort z4):(.bool true:AV)=.bool (decide (x_1.Lost>(0:Int))||((lN (((z9 zC x_1.Thread).getD [])))==(0:Int)))) an))⟩
   ·refine rg [(7,Hf)] [2,4,8,10,11,29,30,31,43,44,45,46] [0,1,2,3,4,5,6] 7 [Pp 0,Pp 1,.rawm b_1,Pp 4,.own 5 ((((z9 zC x_1.Thread).getD [])).length),.sl false 4 (Mp zA l_1),Ii (lN (l_1)),Ii v_1,.own 5 ((((z9 zC x_1.Thread).getD [])).length),Ii (lN (((z9 zC x_1.Thread).getD []))),.bool ((lN (((z9 zC x_1.Thread).getD [])))==(0:Int)),.bool ((lN (((z9 zC x_1.Thread).getD [])))==(0:Int))] [Vb 26 (zS h_1),Vb 31 [.nilsl,.nilsl,.nilsl,.own 2 0],Rb 59 4 [],.live (.fam (.op b_1 false [.int .i64] (.nm 59 4 42 6) (List.map (mpE (AV.int .i64) yN) zC) (Ii x_1.Thread))),Vb 59 (zR x_1),.live (.rowQ 59 4 (Mp zA (ini ((z9 zC x_1.Thread).getD []))) (!(((z9 zC x_1.Thread).getD [])).isEmpty) (yB (lst ((z9 zC x_1.Thread).getD []))++[.own 6 ((lst ((z9 zC x_1.Thread).getD [])).Events).length])),Rb 42 6 (Mp zD (lst ((z9 zC x_1.Thread).getD [])).Events)] zG (ac z4 (ac z4 (ac z4 (ac z4 an)))) ?_
    exact ⟨rfl,(sw [0,1,2,3,4,5,6] [] [.s 2,.s 4,.s 8,.s 10,.s 11,.s 29,.s 30,.s 31,.a 46 (.bool (decide (x_1.Lost>(0:Int))||((lN (((z9 zC x_1.Thread).getD [])))==(0:Int))))] [.s 0,.s 1,.s 2,.s 3,.s 4,.s 5,.s 6] (ac (congrArg AV.bool (orf z4 rfl):(.bool ((lN (((z9 zC x_1.Thread).getD [])))==(0:Int)):AV)=.bool (decide (x_1.Lost>(0:Int))||((lN (((z9 zC x_1.Thread).getD [])))==(0:Int)))) an))⟩
  obtain ⟨o_2,h_6,h⟩:=bind_some h
  refine wI (mk [(2,Pp 0),(4,Pp 1),(8,.rawm b_1),(10,Pp 4),(11,.own 5 ((o_2).length)),(29,.sl false 4 (Mp zA l_1)),(30,Ii (lN (l_1))),(31,Ii v_1)] [(0,Vb 26 (zS h_1)),(1,Vb 31 [.nilsl,.nilsl,.nilsl,.own 2 0]),(2,Rb 59 4 []),(3,.live (.fam (.op b_1 false [.int .i64] (.nm 59 4 42 6) (List.map (mpE (AV.int .i64) yN) zC) (Ii x_1.Thread)))),(4,Vb 59 (zR x_1)),(5,.live (.rowQ 59 4 (Mp zA (ini o_2)) (!(o_2).isEmpty) (yB (lst o_2)++[.own 6 ((lst o_2).Events).length]))),(6,Rb 42 6 (Mp zD (lst o_2).Events))] 7) ?_ ?_
  ·replace h:=h_6
   refine cd 46 (decide (x_1.Lost>(0:Int))||((lN (((z9 zC x_1.Thread).getD [])))==(0:Int))) ?_ ?_
   rotate_left
   ·intro g_4;replace h:=zU g_4 h
    refine sk ?_
    cases h
    exact ⟨rfl,(sw [0,1,2,3,4,5,6] [] [.s 2,.s 4,.s 8,.s 10,.s 11,.s 29,.s 30,.s 31] [.s 0,.s 1,.s 2,.s 3,.s 4,.s 5,.s 6] an)⟩
   intro g_4;replace h:=zV g_4 h
   refine jO (zHd (e:=59) (sz:=4) 5 6 (Mp zA ((z9 zC x_1.Thread).getD [])) (by kernel_rfl) (ac ((List.length_map _).symm:((lst ((z9 zC x_1.Thread).getD [])).Events).length=(Mp zD (lst ((z9 zC x_1.Thread).getD [])).Events:List AV).length) (ac (zG8 zA ((z9 zC x_1.Thread).getD []) _ rfl:(Mp zA ((z9 zC x_1.Thread).getD []):List AV)=List.map zA (ini ((z9 zC x_1.Thread).getD []))++bif (!(((z9 zC x_1.Thread).getD [])).isEmpty) then [.agg (yB (lst ((z9 zC x_1.Thread).getD []))++[.sl false 6 (Mp zD (lst ((z9 zC x_1.Thread).getD [])).Events)])] else []) an))) ?_
   refine wk [0,1,2,3,4,5] [] [.s 2,.s 4,.s 8,.s 10,.s 11,.s 29,.s 30,.s 31] [.s 0,.s 1,.s 2,.s 3,.s 4,.s 5] [(2,Pp 0),(4,Pp 1),(8,.rawm b_1),(10,Pp 4),(11,.own 5 ((((z9 zC x_1.Thread).getD [])).length)),(29,.sl false 4 (Mp zA l_1)),(30,Ii (lN (l_1))),(31,Ii v_1)] [(0,Vb 26 (zS h_1)),(1,Vb 31 [.nilsl,.nilsl,.nilsl,.own 2 0]),(2,Rb 59 4 []),(3,.live (.fam (.op b_1 false [.int .i64] (.nm 59 4 42 6) (List.map (mpE (AV.int .i64) yN) zC) (Ii x_1.Thread)))),(4,Vb 59 (zR x_1)),(5,Rb 59 4 (Mp zA ((z9 zC x_1.Thread).getD [])))] an ?_
   obtain ⟨_,h_7,h⟩:=bind_some h;replace h_7:=wM h_7
   refine rg [(8,{ id:=6 }),(9,{ id:=7,l:=(Mp zA ((z9 zC x_1.Thread).getD [])++[.agg [Ii x_1.Thread,Ii x_1.Serial,Ii x_1.Lost,.nilsl]]),n:=((((z9 zC x_1.Thread).getD [])).length+1) })] [2,4,8,10,11,29,30,31] [0,1,2,3,4,7] 8 [Pp 0,Pp 1,.rawm b_1,Pp 4,.own 7 ((((z9 zC x_1.Thread).getD [])).length+1),.sl false 4 (Mp zA l_1),Ii (lN (l_1)),Ii v_1] [Vb 26 (zS h_1),Vb 31 [.nilsl,.nilsl,.nilsl,.own 2 0],Rb 59 4 [],.live (.fam (.op b_1 false [.int .i64] (.nm 59 4 42 6) (List.map (mpE (AV.int .i64) yN) zC) (Ii x_1.Thread))),Vb 59 (zR x_1),Rb 59 4 (Mp zA ((z9 zC x_1.Thread).getD [])++[.agg [Ii x_1.Thread,Ii x_1.Serial,Ii x_1.Lost,.nilsl]])] zG (ac ((List.length_map _).symm:(((z9 zC x_1.Thread).getD [])).length=(Mp zA ((z9 zC x_1.Thread).getD [])).length) (ac (rfl:1=([.agg [Ii x_1.Thread,Ii x_1.Serial,Ii x_1.Lost,.nilsl]]:List AV).length) (ac (rfl:((Mp zA ((z9 zC x_1.Thread).getD [])++[.agg [Ii x_1.Thread,Ii x_1.Serial,Ii x_1.Lost,.nilsl]]):List AV)=List.map zA ((z9 zC x_1.Thread).getD [])++[.agg [Ii x_1.Thread,Ii x_1.Serial,Ii x_1.Lost,.nilsl]]) (ac (by simp:((((z9 zC x_1.Thread).getD [])).length+1)=((List.map zA ((z9 zC x_1.Thread).getD [])++[.agg [Ii x_1.Thread,Ii x_1.Serial,Ii x_1.Lost,.nilsl]]):List AV).length) (ac (by rw [List.length_map];exact h_7:((List.map zA ((z9 zC x_1.Thread).getD []):List AV).length+([.agg [Ii x_1.Thread,Ii x_1.Serial,Ii x_1.Lost,.nilsl]]:List AV).length) * 48≤140737488355328) an))))) ?_
   cases h
   exact ⟨rfl,(Sub.trans (zFs (e:=59) (sz:=4) 7 8 42 6 (Mp zA ((z9 zC x_1.Thread).getD [])) [Ii x_1.Thread,Ii x_1.Serial,Ii x_1.Lost] (by kernel_rfl) (ac (rfl:(Mp zA ((z9 zC x_1.Thread).getD [])++[.agg [Ii x_1.Thread,Ii x_1.Serial,Ii x_1.Lost,.nilsl]]:List AV)=List.map zA ((z9 zC x_1.Thread).getD [])++[.agg ([Ii x_1.Thread,Ii x_1.Serial,Ii x_1.Lost]++[.nilsl])]) an)) (Sub.trans (zFP [0,1,2,3,4,7,8] [] [.s 2,.s 4,.s 8,.s 10,.a 11 (.own 5 (((((z9 zC x_1.Thread).getD [])++[(⟨x_1.Thread,x_1.Serial,x_1.Lost,[]⟩:zB)])).length)),.s 29,.s 30,.s 31] [.s 0,.s 1,.s 2,.s 3,.s 4,.a 5 (.live (.rowQ 59 4 (Mp zA (ini (((z9 zC x_1.Thread).getD [])++[(⟨x_1.Thread,x_1.Serial,x_1.Lost,[]⟩:zB)]))) (!((((z9 zC x_1.Thread).getD [])++[(⟨x_1.Thread,x_1.Serial,x_1.Lost,[]⟩:zB)])).isEmpty) (yB (lst (((z9 zC x_1.Thread).getD [])++[(⟨x_1.Thread,x_1.Serial,x_1.Lost,[]⟩:zB)]))++[.own 6 ((lst (((z9 zC x_1.Thread).getD [])++[(⟨x_1.Thread,x_1.Serial,x_1.Lost,[]⟩:zB)])).Events).length]))),.a 6 (Rb 42 6 (Mp zD (lst (((z9 zC x_1.Thread).getD [])++[(⟨x_1.Thread,x_1.Serial,x_1.Lost,[]⟩:zB)])).Events))] (sl2:=[(2,Pp 0),(4,Pp 1),(8,.rawm b_1),(10,Pp 4),(11,.own 5 (((((z9 zC x_1.Thread).getD [])++[(⟨x_1.Thread,x_1.Serial,x_1.Lost,[]⟩:zB)])).length)),(29,.sl false 4 (Mp zA l_1)),(30,Ii (lN (l_1))),(31,Ii v_1)]) (bx2:=[(0,Vb 26 (zS h_1)),(1,Vb 31 [.nilsl,.nilsl,.nilsl,.own 2 0]),(2,Rb 59 4 []),(3,.live (.fam (.op b_1 false [.int .i64] (.nm 59 4 42 6) (List.map (mpE (AV.int .i64) yN) zC) (Ii x_1.Thread)))),(4,Vb 59 (zR x_1)),(5,.live (.rowQ 59 4 (Mp zA (ini (((z9 zC x_1.Thread).getD [])++[(⟨x_1.Thread,x_1.Serial,x_1.Lost,[]⟩:zB)]))) (!((((z9 zC x_1.Thread).getD [])++[(⟨x_1.Thread,x_1.Serial,x_1.Lost,[]⟩:zB)])).isEmpty) (yB (lst (((z9 zC x_1.Thread).getD [])++[(⟨x_1.Thread,x_1.Serial,x_1.Lost,[]⟩:zB)]))++[.own 6 ((lst (((z9 zC x_1.Thread).getD [])++[(⟨x_1.Thread,x_1.Serial,x_1.Lost,[]⟩:zB)])).Events).length]))),(6,Rb 42 6 (Mp zD (lst (((z9 zC x_1.Thread).getD [])++[(⟨x_1.Thread,x_1.Serial,x_1.Lost,[]⟩:zB)])).Events))]) (by kernel_rfl) (ac (congrArg (AV.own _) (by first | (simp;done) | (simp;omega)):(.own 7 ((((z9 zC x_1.Thread).getD [])).length+1):AV)=.own 7 (((((z9 zC x_1.Thread).getD [])++[(⟨x_1.Thread,x_1.Serial,x_1.Lost,[]⟩:zB)])).length)) (ar 59 (ar 4 (ac ((congrArg (List.map _) (nC _ _)).symm:((Mp zA ((z9 zC x_1.Thread).getD [])):List AV)=List.map zA (ini (((z9 zC x_1.Thread).getD [])++[(⟨x_1.Thread,x_1.Serial,x_1.Lost,[]⟩:zB)]))) (ac ((zHg _ _).symm:true=(!((((z9 zC x_1.Thread).getD [])++[(⟨x_1.Thread,x_1.Serial,x_1.Lost,[]⟩:zB)])).isEmpty)) (ac (rfl:vT (yB (lst (((z9 zC x_1.Thread).getD [])++[(⟨x_1.Thread,x_1.Serial,x_1.Lost,[]⟩:zB)]))++[.own 8 ((lst (((z9 zC x_1.Thread).getD [])++[(⟨x_1.Thread,x_1.Serial,x_1.Lost,[]⟩:zB)])).Events).length])=true) (ac (by first | (simp only [y6];done) | simp [y6]:(Ii x_1.Thread:AV)=Ii ((lst (((z9 zC x_1.Thread).getD [])++[(⟨x_1.Thread,x_1.Serial,x_1.Lost,[]⟩:zB)])).Thread)) (ac (by first | (simp only [y6];done) | simp [y6]:(Ii x_1.Serial:AV)=Ii ((lst (((z9 zC x_1.Thread).getD [])++[(⟨x_1.Thread,x_1.Serial,x_1.Lost,[]⟩:zB)])).Serial)) (ac (by first | (simp only [y6];done) | simp [y6]:(Ii x_1.Lost:AV)=Ii ((lst (((z9 zC x_1.Thread).getD [])++[(⟨x_1.Thread,x_1.Serial,x_1.Lost,[]⟩:zB)])).Lost)) (ac (congrArg (AV.own _) (by first | (simp only [y6];done) | simp [y6]):(.own 8 0:AV)=.own 8 (((lst (((z9 zC x_1.Thread).getD [])++[(⟨x_1.Thread,x_1.Serial,x_1.Lost,[]⟩:zB)])).Events).length)) (ar 42 (ar 6 (ac (by first | (simp only [y6];done) | simp [y6]:([]:List AV)=List.map zD (lst (((z9 zC x_1.Thread).getD [])++[(⟨x_1.Thread,x_1.Serial,x_1.Lost,[]⟩:zB)])).Events) an)))))))))))))) (sw [0,1,2,3,4,5,6] [] [.s 2,.s 4,.s 8,.s 10,.s 11,.s 29,.s 30,.s 31] [.s 0,.s 1,.s 2,.s 3,.s 4,.s 5,.s 6] an)))⟩
  obtain ⟨r_3,h_8,h⟩:=bind_some h
  obtain ⟨_,h_9,h⟩:=bind_some h;replace h_9:=wM h_9
  refine rg [(6,{ av:=(.own 0 (r_3).length),gids:=[5,6],giv:=[(.rowQ 59 4 (Mp zA (ini o_2)) (!(o_2).isEmpty) (yB (lst o_2)++[.own 1 ((lst o_2).Events).length])),(.row 42 6 (Mp zD (lst o_2).Events))],ids:=[7,8],l:=[.own 0 (o_2).length,.sl false 6 (Mp zD x_1.Events)],post:=[(.rowQ 59 4 (Mp zA (ini r_3)) (!(r_3).isEmpty) (yB (lst r_3)++[.own 1 ((lst r_3).Events).length])),(.row 42 6 (Mp zD (lst r_3).Events))] }),(7,{ av:=(yN r_3),dep:=true,es:=(List.map (mpE (AV.int .i64) yN) (v6 zC x_1.Thread r_3)),ids:=[7,8],n:=3,x:=true })] [2,4,8,29,30,31] [0,1,2,3] 9 [Pp 0,Pp 1,.rawm b_1,.sl false 4 (Mp zA l_1),Ii (lN (l_1)),Ii v_1] [Vb 26 (zS h_1),Vb 31 [.nilsl,.nilsl,.nilsl,.own 2 0],Rb 59 4 [],.live (.fam (.cl b_1 false [.int .i64] (.nm 59 4 42 6) (List.map (mpE (AV.int .i64) yN) (v6 zC x_1.Thread r_3))))] zG (ar ([.own 5 ((o_2).length),.sl false 6 (Mp zD x_1.Events)]:List AV) (ac (rfl:([.live (.rowQ 59 4 (Mp zA (ini o_2)) (!(o_2).isEmpty) (yB (lst o_2)++[.own 6 ((lst o_2).Events).length])),Rb 42 6 (Mp zD (lst o_2).Events)]:List zM)=[.live (.rowQ 59 4 (Mp zA (ini o_2)) (!(o_2).isEmpty) (yB (lst o_2)++[.own 6 ((lst o_2).Events).length])),Rb 42 6 (Mp zD (lst o_2).Events)]) (ac (zIs F o_2 x_1.Events r_3 h_8:zX prog 29 [] [(.rowQ 59 4 (Mp zA (ini o_2)) (!(o_2).isEmpty) (yB (lst o_2)++[.own 1 ((lst o_2).Events).length])),(.row 42 6 (Mp zD (lst o_2).Events))] [.own 0 (o_2).length,.sl false 6 (Mp zD x_1.Events)] [(.rowQ 59 4 (Mp zA (ini r_3)) (!(r_3).isEmpty) (yB (lst r_3)++[.own 1 ((lst r_3).Events).length])),(.row 42 6 (Mp zD (lst r_3).Events))] (.own 0 (r_3).length)) (ar b_1 (ac (rfl:(Ii x_1.Thread:AV)=Ii x_1.Thread) (ac (nL:vK prog 3 false [.int .i64]) (ac (zCK (f:=(AV.int .i64)) (g:=yN) nF zC x_1.Thread r_3:zBo (List.map (mpE (AV.int .i64) yN) zC) (Ii x_1.Thread) (yN r_3) (List.map (mpE (AV.int .i64) yN) (v6 zC x_1.Thread r_3))) (ac (zF4 (l:=zC) h_9:(List.map (mpE (AV.int .i64) yN) zC:List (AV×AV)).length<maxLen) (ac (congrArg (AV.own _) (zL1 _ _).symm:(.own 7 ((r_3).length):AV)=.own 7 ((Mp zA (ini r_3)).length+bif (!(r_3).isEmpty) then 1 else 0)) (ac (by rw [List.length_map]:([.live (.rowQ 59 4 (List.map zA (ini r_3)) (!(r_3).isEmpty) (yB (lst r_3)++[.own 8 ((lst r_3).Events).length])),Rb 42 6 (List.map zD (lst r_3).Events)]:List zM)=[.live (.rowQ 59 4 (List.map zA (ini r_3)) (!(r_3).isEmpty) (yB (lst r_3)++[.own 8 (List.map zD (lst r_3).Events).length])),Rb 42 6 (List.map zD (lst r_3).Events)]) an)))))))))) ?_
  refine rg [] [2,4,8,29,30,31] [0,1,2,3] 9 [Pp 0,Pp 1,.rawm b_1,.sl false 4 (Mp zA l_1),Ii (lN (l_1)),Ii (zP (v_1+(1:Int)))] [Vb 26 (zS h_1),Vb 31 [.nilsl,.nilsl,.nilsl,.own 2 0],Rb 59 4 [],.live (.fam (.cl b_1 false [.int .i64] (.nm 59 4 42 6) (List.map (mpE (AV.int .i64) yN) (v6 zC x_1.Thread r_3))))] zG an ?_
  exact ⟨_,(sw [0,1,2,3] [] [.s 2,.s 4,.s 8,.s 29,.s 30,.s 31] [.s 0,.s 1,.s 2,.s 3] an),_,_,rfl,h⟩
 refine sq ?_
 refine jO (zMx (ag:=false) (ks:=[.int .i64]) 3 4 [8] (List.map (mpE (AV.int .i64) (fun l=>AV.sl false 4 (l.map zA))) o_1) (by kernel_rfl) (ar ([.rawm b_1]:List AV) (ac (zMW (f:=(AV.int .i64)) (g:=yN) zEs o_1:∀ x∈List.map (mpE (AV.int .i64) yN) o_1,zEy x.2∧zDu 4 6 x.2=true) (ac (zM0 (f:=(AV.int .i64)) (g:=yN) (g2:=(fun l=>AV.sl false 4 (l.map zA))) zEr o_1:(List.map (mpE (AV.int .i64) (fun l=>AV.sl false 4 (l.map zA))) o_1)=(List.map (mpE (AV.int .i64) yN) o_1).map fun x=>(x.1,fzV x.2)) an)))) ?_
 refine wk [0,1,2,4] [] [.s 2,.s 4,.s 8] [.s 0,.s 1,.s 2,.s 3] [(2,Pp 0),(4,Pp 1),(8,.mp 3)] [(0,Vb 26 (zS h_1)),(1,Vb 31 [.nilsl,.nilsl,.nilsl,.own 2 0]),(2,Rb 59 4 []),(3,.live (.map false [.int .i64] (List.map (mpE (AV.int .i64) (fun l=>AV.sl false 4 (l.map zA))) o_1)))] an ?_
 refine rg [(2,{ id:=4 })] [2,4,8,12] [0,1,2,3,4] 5 [Pp 0,Pp 1,.mp 3,Pp 4] [Vb 26 (zS h_1),Vb 31 [.nilsl,.nilsl,.nilsl,.own 2 0],Rb 59 4 [],.live (.map false [.int .i64] (List.map (mpE (AV.int .i64) (fun l=>AV.sl false 4 (l.map zA))) o_1)),Vb 31 [.sl false 3 (Mp zF h_1.Threads),.sl false 2 (Mp zE h_1.Domains),.sl false 5 (Mp zN h_1.Snaps),.nilsl]] zG an ?_
 refine jO (kP 4 3 5 59 4 (by kernel_rfl)) ?_
 refine wk [0,1,2,3,4,5] [] [.s 2,.s 4,.s 8,.s 12] [.s 0,.s 1,.s 2,.s 3,.s 4,.s 5] [(2,Pp 0),(4,Pp 1),(8,.mp 3),(12,Pp 4)] [(0,Vb 26 (zS h_1)),(1,Vb 31 [.nilsl,.nilsl,.nilsl,.own 2 0]),(2,Rb 59 4 []),(3,.live (.map false [.int .i64] (List.map (mpE (AV.int .i64) (fun l=>AV.sl false 4 (l.map zA))) o_1))),(4,Vb 31 [.sl false 3 (Mp zF h_1.Threads),.sl false 2 (Mp zE h_1.Domains),.sl false 5 (Mp zN h_1.Snaps),.own 5 0]),(5,Rb 59 4 [])] an ?_
 refine sq ?_
 refine sr [(2,{ n:=(h_1.Threads).length })] [4,8,12,68,69,70] [1,2,3,4,5] 6 [Pp 1,.mp 3,Pp 4,.sl false 3 (Mp zF h_1.Threads),Ii (lN (h_1.Threads)),Ii 0] [Vb 31 [.nilsl,.nilsl,.nilsl,.own 2 0],Rb 59 4 [],.live (.map false [.int .i64] (List.map (mpE (AV.int .i64) (fun l=>AV.sl false 4 (l.map zA))) o_1)),Vb 31 [.sl false 3 (Mp zF h_1.Threads),.sl false 2 (Mp zE h_1.Domains),.sl false 5 (Mp zN h_1.Snaps),.own 5 0],Rb 59 4 []] zG (ac (yG _:((Mp zF h_1.Threads)).length=(h_1.Threads).length) an) ?_
 obtain ⟨o_3,qY,h⟩:=bind_some h
 refine wI (mk [(4,Pp 0),(12,Pp 2)] [(0,Vb 31 [.nilsl,.nilsl,.nilsl,.own 1 0]),(1,Rb 59 4 []),(2,Vb 31 [.sl false 3 (Mp zF h_1.Threads),.sl false 2 (Mp zE h_1.Domains),.sl false 5 (Mp zN h_1.Snaps),.own 3 ((o_3).length)]),(3,Rb 59 4 (Mp zA o_3))] 4) ?_ ?_
 ·replace h:=qY
  refine yZ (id:=2) (by kernel_rfl) ?_
  refine wk [1,2,3,4,5] [] [.s 4,.s 8,.s 12,.s 68,.s 69,.s 70] [.s 0,.s 1,.s 2,.s 3,.s 4] [(4,Pp 0),(8,.mp 2),(12,Pp 3),(68,.sl false 3 (Mp zF h_1.Threads)),(69,Ii (lN (h_1.Threads))),(70,Ii 0)] [(0,Vb 31 [.nilsl,.nilsl,.nilsl,.own 1 0]),(1,Rb 59 4 []),(2,.live (.map false [.int .i64] (List.map (mpE (AV.int .i64) (fun l=>AV.sl false 4 (l.map zA))) o_1))),(3,Vb 31 [.sl false 3 (Mp zF h_1.Threads),.sl false 2 (Mp zE h_1.Domains),.sl false 5 (Mp zN h_1.Snaps),.own 4 0]),(4,Rb 59 4 [])] an ?_
  refine wP (fun n st=>∃ (v_2:Int),∃ (yK:List zB),st=mk [(4,Pp 0),(8,.mp 2),(12,Pp 3),(68,.sl false 3 (Mp zF h_1.Threads)),(69,Ii (lN (h_1.Threads))),(70,Ii v_2)] [(0,Vb 31 [.nilsl,.nilsl,.nilsl,.own 1 0]),(1,Rb 59 4 []),(2,.live (.map false [.int .i64] (List.map (mpE (AV.int .i64) (fun l=>AV.sl false 4 (l.map zA))) o_1))),(3,Vb 31 [.sl false 3 (Mp zF h_1.Threads),.sl false 2 (Mp zE h_1.Domains),.sl false 5 (Mp zN h_1.Snaps),.own 4 ((yK).length)]),(4,Rb 59 4 (Mp zA yK))] 5∧p0 F h_1 o_1 n v_2 yK=some o_3) F (by kernel_rfl) ⟨_,_,rfl,h⟩ ?_ ?_
  ·rintro _ ⟨_,_,_,h⟩;exact w8 (h:(none:Option (List zB))=some o_3)
  rintro n_2 _ ⟨v_2,yK,rfl,h⟩
  replace h:jI F h_1 o_1 (p0 F h_1 o_1 n_2) v_2 yK=some o_3:=h
  unfold jI at h
  refine sr [] [4,8,12,68,69,70,71] [0,1,2,3,4] 5 [Pp 0,.mp 2,Pp 3,.sl false 3 (Mp zF h_1.Threads),Ii (lN (h_1.Threads)),Ii v_2,.bool (decide (v_2<(lN (h_1.Threads))))] [Vb 31 [.nilsl,.nilsl,.nilsl,.own 1 0],Rb 59 4 [],.live (.map false [.int .i64] (List.map (mpE (AV.int .i64) (fun l=>AV.sl false 4 (l.map zA))) o_1)),Vb 31 [.sl false 3 (Mp zF h_1.Threads),.sl false 2 (Mp zE h_1.Domains),.sl false 5 (Mp zN h_1.Snaps),.own 4 ((yK).length)],Rb 59 4 (Mp zA yK)] zG an ?_
  refine sq ?_
  refine cd 71 (decide (v_2<(lN (h_1.Threads)))) ?_ ?_
  rotate_left
  ·intro g_5;replace h:=zU g_5 h
   refine w4 (id:=2) (by kernel_rfl) ?_
   cases h
   exact ⟨rfl,(sw [0,1,3,4] [] [.s 4,.s 12] [.s 0,.s 1,.s 2,.s 3] an)⟩
  intro g_5;replace h:=zV g_5 h
  refine sk ?_
  refine sq ?_
  refine yZ (id:=3) (by kernel_rfl) ?_
  refine sq ?_
  obtain ⟨x_2,t5,h⟩:=bind_some h
  refine rg [(0,{ av:=zF x_2 }),(2,{ id:=5 })] [4,8,12,14,68,69,70] [0,1,2,3,4,5] 6 [Pp 0,.mp 2,Pp 3,Pp 5,.sl false 3 (Mp zF h_1.Threads),Ii (lN (h_1.Threads)),Ii v_2] [Vb 31 [.nilsl,.nilsl,.nilsl,.own 1 0],Rb 59 4 [],.live (.map false [.int .i64] (List.map (mpE (AV.int .i64) (fun l=>AV.sl false 4 (l.map zA))) o_1)),Vb 31 [.sl false 3 (Mp zF h_1.Threads),.sl false 2 (Mp zE h_1.Domains),.sl false 5 (Mp zN h_1.Snaps),.own 4 ((yK).length)],Rb 59 4 (Mp zA yK),Vb 66 (z0 x_2)] zG (ac (wA t5:wX (Mp zF h_1.Threads) v_2=some (zF x_2)) an) ?_
  obtain ⟨_,zCX,h⟩:=bind_some h;replace zCX:=wM zCX
  refine rg [(5,{ av:=(.sl false 4 (Mp zA ((z9 o_1 x_2.Id).getD []))),b:=true,g:=(z9 o_1 x_2.Id).isSome,n:=4 }),(6,{ id:=6,l:=(Mp zA (yK++((z9 o_1 x_2.Id).getD []))),n:=((yK++((z9 o_1 x_2.Id).getD []))).length })] [4,8,12,68,69,70] [0,1,2,3,6] 7 [Pp 0,.mp 2,Pp 3,.sl false 3 (Mp zF h_1.Threads),Ii (lN (h_1.Threads)),Ii v_2] [Vb 31 [.nilsl,.nilsl,.nilsl,.own 1 0],Rb 59 4 [],.live (.map false [.int .i64] (List.map (mpE (AV.int .i64) (fun l=>AV.sl false 4 (l.map zA))) o_1)),Vb 31 [.sl false 3 (Mp zF h_1.Threads),.sl false 2 (Mp zE h_1.Domains),.sl false 5 (Mp zN h_1.Snaps),.own 6 (((yK++((z9 o_1 x_2.Id).getD []))).length)],Rb 59 4 (Mp zA (yK++((z9 o_1 x_2.Id).getD [])))] zG (ac (nL:vK prog 3 false [.int .i64]) (ac (zDo (f:=(AV.int .i64)) (g:=(fun l=>AV.sl false 4 (l.map zA))) nF o_1 x_2.Id []:q6 (List.map (mpE (AV.int .i64) (fun l=>AV.sl false 4 (l.map zA))) o_1) (Ii x_2.Id) (.sl false 4 []) (.sl false 4 (Mp zA ((z9 o_1 x_2.Id).getD []))) (z9 o_1 x_2.Id).isSome) (ac (by first | (simp;done) | (simp;omega):(yK).length=((List.map zA yK)).length) (ac (trivial:True) (ac (zBf _ _:(Mp zA (yK++((z9 o_1 x_2.Id).getD [])))=(Mp zA yK)++(Mp zA ((z9 o_1 x_2.Id).getD []))) (ac (by simp:((yK++((z9 o_1 x_2.Id).getD []))).length=((List.map zA (yK++((z9 o_1 x_2.Id).getD [])))).length) (ac (by first | (simp;done) | simpa using zCX:(((List.map zA yK):List AV).length+((List.map zA ((z9 o_1 x_2.Id).getD [])):List AV).length) * 48≤140737488355328) an))))))) ?_
  refine rg [] [4,8,12,68,69,70] [0,1,2,3,6] 7 [Pp 0,.mp 2,Pp 3,.sl false 3 (Mp zF h_1.Threads),Ii (lN (h_1.Threads)),Ii (zP (v_2+(1:Int)))] [Vb 31 [.nilsl,.nilsl,.nilsl,.own 1 0],Rb 59 4 [],.live (.map false [.int .i64] (List.map (mpE (AV.int .i64) (fun l=>AV.sl false 4 (l.map zA))) o_1)),Vb 31 [.sl false 3 (Mp zF h_1.Threads),.sl false 2 (Mp zE h_1.Domains),.sl false 5 (Mp zN h_1.Snaps),.own 6 (((yK++((z9 o_1 x_2.Id).getD []))).length)],Rb 59 4 (Mp zA (yK++((z9 o_1 x_2.Id).getD [])))] zG an ?_
  exact ⟨_,(sw [0,1,2,3,6] [] [.s 4,.s 8,.s 12,.s 68,.s 69,.s 70] [.s 0,.s 1,.s 2,.s 3,.s 4] an),_,_,rfl,h⟩
 refine sr [] [4,5] [0,3] 4 [Pp 0,Ii 0] [Vb 31 [.sl false 3 (Mp zF h_1.Threads),.sl false 2 (Mp zE h_1.Domains),.sl false 5 (Mp zN h_1.Snaps),.own 3 ((o_3).length)],Rb 59 4 (Mp zA o_3)] zG an ?_
 refine wk [0] [3] [.s 4,.s 5] [.a 0 (Vb 31 [.sl false 3 (Mp zF (((⟨h_1,o_3⟩:z8).Head).Threads)),.sl false 2 (Mp zE (((⟨h_1,o_3⟩:z8).Head).Domains)),.sl false 5 (Mp zN (((⟨h_1,o_3⟩:z8).Head).Snaps)),.sl false 4 (Mp zA ((⟨h_1,o_3⟩:z8).Parts))])] [(4,Pp 0),(5,Ii 0)] [(0,Vb 31 [.sl false 3 (Mp zF (((⟨h_1,o_3⟩:z8).Head).Threads)),.sl false 2 (Mp zE (((⟨h_1,o_3⟩:z8).Head).Domains)),.sl false 5 (Mp zN (((⟨h_1,o_3⟩:z8).Head).Snaps)),.sl false 4 (Mp zA ((⟨h_1,o_3⟩:z8).Parts))])] (ar 31 (ac (rfl:vT [.sl false 3 (Mp zF (((⟨h_1,o_3⟩:z8).Head).Threads)),.sl false 2 (Mp zE (((⟨h_1,o_3⟩:z8).Head).Domains)),.sl false 5 (Mp zN (((⟨h_1,o_3⟩:z8).Head).Snaps)),.sl false 4 (Mp zA ((⟨h_1,o_3⟩:z8).Parts))]=true) (ac (by first | (simp;done) | (simp;omega):(o_3).length=((List.map zA o_3)).length) (ar 3 (ac (rfl:((Mp zF h_1.Threads):List AV)=(Mp zF (((⟨h_1,o_3⟩:z8).Head).Threads))) (ac (rfl:(!false||false)=true) (ar 2 (ac (rfl:((Mp zE h_1.Domains):List AV)=(Mp zE (((⟨h_1,o_3⟩:z8).Head).Domains))) (ac (rfl:(!false||false)=true) (ar 5 (ac (rfl:((Mp zN h_1.Snaps):List AV)=(Mp zN (((⟨h_1,o_3⟩:z8).Head).Snaps))) (ac (rfl:(!false||false)=true) (ar 4 (ac (rfl:((Mp zA o_3):List AV)=(Mp zA ((⟨h_1,o_3⟩:z8).Parts))) (ac (rfl:(!false||false)=true) an))))))))))))))) ?_
 refine rt ?_
 cases h
 exact ⟨.inr rfl,Nat.le_of_ble_eq_true rfl,by kernel_rfl⟩

end Go.Ab
