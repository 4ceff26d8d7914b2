/- Printed: the typed Lean functions of the Go functions, or the proofs that the Go functions meet them. No conditions but those that the theorems name. -/
import Derived.Test.YtbifmbdcejggkaaP16xD
import Derived.Test.YtbifmbdcejggkaaProg
namespace Go.Ab
open Go
set_option linter.unusedVariables false
noncomputable abbrev prog:=Go.Proofs.Try.prog
theorem zH:prog.follows .mixedOrders=true:=by kernel_rfl
theorem zNe:zFk prog 92:=⟨_,Go.Proofs.Try.func92,by kernel_rfl,by kernel_rfl,by kernel_rfl,by kernel_rfl⟩
theorem nQ:vZ prog 3 false [.int .i64]:=zKD (by kernel_rfl)
theorem zL3:vZ prog 68 true [.int .i64,.int .i64]:=zBY (by kernel_rfl) (by kernel_rfl) (by kernel_rfl) (by kernel_rfl)
theorem zBz:∀ a b:zM,zD a=zD b→a=b:=by
  intro a b h
  cases a;cases b;simpa [zD,uD] using h
theorem zJo:j9 prog 68 [.int .i64,.int .i64]:=zCU zL3 (by kernel_rfl) (by kernel_rfl)
theorem zLu:vZ prog 66 true [.int .i64,.str,.int .i64]:=zBY (by kernel_rfl) (by kernel_rfl) (by kernel_rfl) (by kernel_rfl)
theorem zEo:∀ a b:zQ,zG a=zG b→a=b:=by
  intro a b h
  cases a;cases b;simpa [zG,z4] using h
theorem zMy:j9 prog 66 [.int .i64,.str,.int .i64]:=zCU zLu (by kernel_rfl) (by kernel_rfl)
theorem zMe:vZ prog 86 true [.int .i64,.int .i64,.int .i64,.int .i64,.int .i64]:=zBY (by kernel_rfl) (by kernel_rfl) (by kernel_rfl) (by kernel_rfl)
theorem zF7:∀ a b:yC,zF a=zF b→a=b:=by
  rintro ⟨_,_,_,⟨_,_⟩⟩ ⟨_,_,_,⟨_,_⟩⟩ h
  simpa [zF,uN] using h
theorem zMx:j9 prog 86 [.int .i64,.int .i64,.int .i64,.int .i64,.int .i64]:=zCU zMe (by kernel_rfl) (by kernel_rfl)
theorem zLB:vZ prog 50 true [.int .i64,.int .i64,.int .i64]:=zBY (by kernel_rfl) (by kernel_rfl) (by kernel_rfl) (by kernel_rfl)
theorem kJ:∀ a b:yO,yR a=yR b→a=b:=by
  intro a b h
  cases a;cases b;simpa [yR,zEc] using h
theorem zCH:j9 prog 50 [.int .i64,.int .i64,.int .i64]:=zCU zLB (by kernel_rfl) (by kernel_rfl)
theorem zAk (F:Nat) (h_1:zS) (l_1:List (zB)) (r:Bool) (h:zAZ F h_1 l_1=some r):zW prog 8 [] [] [y6 h_1,.sl false 4 (Mp zA l_1)] [] (.bool r):=by
 refine yK (fn:=Go.Proofs.Try.f8) (code:=xY Go.Proofs.Try.f8) (by kernel_rfl) (by kernel_rfl) (Nat.le_of_ble_eq_true (by kernel_rfl)) ?_
 unfold zAZ at h
 refine sr [(0,{ id:=0 })] [1,2] [0] 1 [.sl false 4 (Mp zA l_1),Pp 0] [Vb 26 (zX h_1)] zH an ?_
 refine sr [] [1,2,5] [0] 1 [.sl false 4 (Mp zA l_1),Pp 0,Ii 0] [Vb 26 (zX h_1)] zH an ?_
 refine sq ?_
 refine sr [(1,{ n:=(l_1).length })] [1,2,5,8,9,10] [0] 1 [.sl false 4 (Mp zA l_1),Pp 0,Ii 0,.sl false 4 (Mp zA l_1),Ii (lN (l_1)),Ii 0] [Vb 26 (zX h_1)] zH (ac (yH _:((Mp zA l_1)).length=(l_1).length) an) ?_
 obtain ⟨o_1,h_2,h⟩:=bind_some h
 refine wO (mk [(1,.sl false 4 (Mp zA l_1)),(2,Pp 0),(5,Ii o_1)] [(0,Vb 26 (zX h_1))] 1) ?_ ?_
 ·replace h:=h_2
  refine yU (id:=0) (by kernel_rfl) ?_
  refine wk [0] [] [.s 1,.s 2,.s 5,.s 8,.s 9,.s 10] [.s 0] [(1,.sl false 4 (Mp zA l_1)),(2,Pp 0),(5,Ii 0),(8,.sl false 4 (Mp zA l_1)),(9,Ii (lN (l_1))),(10,Ii 0)] [(0,Vb 26 (zX h_1))] an ?_
  refine wT (fun n st=>∃ (n_1:Int),∃ (v_1:Int),st=mk [(1,.sl false 4 (Mp zA l_1)),(2,Pp 0),(5,Ii n_1),(8,.sl false 4 (Mp zA l_1)),(9,Ii (lN (l_1))),(10,Ii v_1)] [(0,Vb 26 (zX h_1))] 1∧u2 F l_1 n n_1 v_1=some o_1) F (by kernel_rfl) ⟨_,_,rfl,h⟩ ?_ ?_
  ·rintro _ ⟨_,_,_,h⟩;exact wV (h:(none:Option Int)=some o_1)
  rintro n_2 _ ⟨n_1,v_1,rfl,h⟩
  replace h:uW F l_1 (u2 F l_1 n_2) n_1 v_1=some o_1:=h
  unfold uW at h
  refine sr [] [1,2,5,8,9,10,11] [0] 1 [.sl false 4 (Mp zA l_1),Pp 0,Ii n_1,.sl false 4 (Mp zA l_1),Ii (lN (l_1)),Ii v_1,.bool (decide (v_1<(lN (l_1))))] [Vb 26 (zX h_1)] zH an ?_
  refine sq ?_
  refine cd 11 (decide (v_1<(lN (l_1)))) ?_ ?_
  rotate_left
  ·intro g_1;replace h:=zU g_1 h
   refine w5 (id:=0) (by kernel_rfl) ?_
   cases h
   exact ⟨rfl,(sw [0] [] [.s 1,.s 2,.s 5] [.s 0] an)⟩
  intro g_1;replace h:=zT g_1 h
  refine sk ?_
  refine sq ?_
  refine yU (id:=1) (by kernel_rfl) ?_
  refine sq ?_
  obtain ⟨x_1,h_3,h⟩:=bind_some h
  refine rg [(0,{ av:=zA x_1 }),(2,{ id:=1 })] [1,2,5,7,8,9,10] [0,1] 2 [.sl false 4 (Mp zA l_1),Pp 0,Ii n_1,Pp 1,.sl false 4 (Mp zA l_1),Ii (lN (l_1)),Ii v_1] [Vb 26 (zX h_1),Vb 59 (z6 x_1)] zH (ac (wI h_3:vA (Mp zA l_1) v_1=some (zA x_1)) an) ?_
  refine rg [(3,{ n:=(x_1.Events).length })] [1,2,5,8,9,10] [0] 2 [.sl false 4 (Mp zA l_1),Pp 0,Ii (zK (n_1+(lN (x_1.Events)))),.sl false 4 (Mp zA l_1),Ii (lN (l_1)),Ii v_1] [Vb 26 (zX h_1)] zH (ac (yH _:((Mp zE x_1.Events)).length=(x_1.Events).length) an) ?_
  refine rg [] [1,2,5,8,9,10] [0] 2 [.sl false 4 (Mp zA l_1),Pp 0,Ii (zK (n_1+(lN (x_1.Events)))),.sl false 4 (Mp zA l_1),Ii (lN (l_1)),Ii (zK (v_1+(1:Int)))] [Vb 26 (zX h_1)] zH an ?_
  exact ⟨_,(sw [0] [] [.s 1,.s 2,.s 5,.s 8,.s 9,.s 10] [.s 0] an),_,_,rfl,h⟩
 refine sq ?_
 refine wO (mk [(4,.bool (decide ((lN (h_1.Threads))≤(70:Int))&&(decide ((lN (h_1.Domains))≤(10:Int))&&(decide ((lN (h_1.Snaps))≤(20:Int))&&(decide ((lN (l_1))≤(30:Int))&&decide (o_1≤(3000:Int)))))))] [] 0) ?_ ?_
 ·rcases bft (decide ((lN (h_1.Threads))≤(70:Int))) with zL | zL
  ·rcases bft (decide ((lN (h_1.Domains))≤(10:Int))) with zJ | zJ
   ·rcases bft (decide ((lN (h_1.Snaps))≤(20:Int))) with zV | zV
    ·rcases bft (decide ((lN (l_1))≤(30:Int))) with zZ | zZ
     ·refine rg [(2,{ n:=(h_1.Threads).length }),(7,{ n:=(h_1.Domains).length }),(9,Ht),(13,{ n:=(h_1.Snaps).length }),(15,Ht),(18,{ n:=(l_1).length }),(20,Ht),(24,Ht)] [4] [] 1 [.bool (decide (o_1≤(3000:Int)))] [] zH (ac (yH _:((Mp zG h_1.Threads)).length=(h_1.Threads).length) (ac zL (ac zL (ac zL (ac (yH _:((Mp zD h_1.Domains)).length=(h_1.Domains).length) (ac zL (ac zL (ac zJ (ac zJ (ac zJ (ac (yH _:((Mp zF h_1.Snaps)).length=(h_1.Snaps).length) (ac zJ (ac zJ (ac zV (ac zV (ac (yH _:((Mp zA l_1)).length=(l_1).length) (ac zV (ac zV (ac zZ (ac zZ (ac zZ an))))))))))))))))))))) ?_
      exact ⟨rfl,(sw [] [] [.a 4 (.bool (decide ((lN (h_1.Threads))≤(70:Int))&&(decide ((lN (h_1.Domains))≤(10:Int))&&(decide ((lN (h_1.Snaps))≤(20:Int))&&(decide ((lN (l_1))≤(30:Int))&&decide (o_1≤(3000:Int)))))))] [] (ac (congrArg AV.bool (t3 zL (t3 zJ (t3 zV (t3 zZ rfl)))):(.bool (decide (o_1≤(3000:Int))):AV)=.bool (decide ((lN (h_1.Threads))≤(70:Int))&&(decide ((lN (h_1.Domains))≤(10:Int))&&(decide ((lN (h_1.Snaps))≤(20:Int))&&(decide ((lN (l_1))≤(30:Int))&&decide (o_1≤(3000:Int))))))) an))⟩
     ·refine rg [(2,{ n:=(h_1.Threads).length }),(7,{ n:=(h_1.Domains).length }),(9,Ht),(13,{ n:=(h_1.Snaps).length }),(15,Ht),(18,{ n:=(l_1).length }),(20,Ht),(22,Hg),(23,Hg),(24,Hf)] [4] [] 1 [.bool false] [] zH (ac (yH _:((Mp zG h_1.Threads)).length=(h_1.Threads).length) (ac zL (ac zL (ac zL (ac (yH _:((Mp zD h_1.Domains)).length=(h_1.Domains).length) (ac zL (ac zL (ac zJ (ac zJ (ac zJ (ac (yH _:((Mp zF h_1.Snaps)).length=(h_1.Snaps).length) (ac zJ (ac zJ (ac zV (ac zV (ac (yH _:((Mp zA l_1)).length=(l_1).length) (ac zV (ac zV (ac zZ (ac zZ (ac zZ an))))))))))))))))))))) ?_
      exact ⟨rfl,(sw [] [] [.a 4 (.bool (decide ((lN (h_1.Threads))≤(70:Int))&&(decide ((lN (h_1.Domains))≤(10:Int))&&(decide ((lN (h_1.Snaps))≤(20:Int))&&(decide ((lN (l_1))≤(30:Int))&&decide (o_1≤(3000:Int)))))))] [] (ac (congrArg AV.bool (t3 zL (t3 zJ (t3 zV (zBe zZ)))):(.bool false:AV)=.bool (decide ((lN (h_1.Threads))≤(70:Int))&&(decide ((lN (h_1.Domains))≤(10:Int))&&(decide ((lN (h_1.Snaps))≤(20:Int))&&(decide ((lN (l_1))≤(30:Int))&&decide (o_1≤(3000:Int))))))) an))⟩
    ·refine rg [(2,{ n:=(h_1.Threads).length }),(7,{ n:=(h_1.Domains).length }),(9,Ht),(13,{ n:=(h_1.Snaps).length }),(15,Ht),(17,Hg),(18,Hg),(19,Hg),(20,Hf),(22,Hg),(23,Hg),(24,Hf)] [4] [] 1 [.bool false] [] zH (ac (yH _:((Mp zG h_1.Threads)).length=(h_1.Threads).length) (ac zL (ac zL (ac zL (ac (yH _:((Mp zD h_1.Domains)).length=(h_1.Domains).length) (ac zL (ac zL (ac zJ (ac zJ (ac zJ (ac (yH _:((Mp zF h_1.Snaps)).length=(h_1.Snaps).length) (ac zJ (ac zJ (ac zV (ac zV (ac zV (ac zV (ac (rfl:false=!true) (ac (rfl:false=!true) (ar false an)))))))))))))))))))) ?_
     exact ⟨rfl,(sw [] [] [.a 4 (.bool (decide ((lN (h_1.Threads))≤(70:Int))&&(decide ((lN (h_1.Domains))≤(10:Int))&&(decide ((lN (h_1.Snaps))≤(20:Int))&&(decide ((lN (l_1))≤(30:Int))&&decide (o_1≤(3000:Int)))))))] [] (ac (congrArg AV.bool (t3 zL (t3 zJ (zBe zV))):(.bool false:AV)=.bool (decide ((lN (h_1.Threads))≤(70:Int))&&(decide ((lN (h_1.Domains))≤(10:Int))&&(decide ((lN (h_1.Snaps))≤(20:Int))&&(decide ((lN (l_1))≤(30:Int))&&decide (o_1≤(3000:Int))))))) an))⟩
   ·refine rg [(2,{ n:=(h_1.Threads).length }),(7,{ n:=(h_1.Domains).length }),(9,Ht),(11,Hg),(12,Hg),(13,Hg),(14,Hg),(15,Hf),(17,Hg),(18,Hg),(19,Hg),(20,Hf),(22,Hg),(23,Hg),(24,Hf)] [4] [] 1 [.bool false] [] zH (ac (yH _:((Mp zG h_1.Threads)).length=(h_1.Threads).length) (ac zL (ac zL (ac zL (ac (yH _:((Mp zD h_1.Domains)).length=(h_1.Domains).length) (ac zL (ac zL (ac zJ (ac zJ (ac zJ (ac zJ (ac zJ (ac (rfl:false=!true) (ac (rfl:false=!true) (ac (rfl:false=!true) (ar false (ac (rfl:false=!true) (ac (rfl:false=!true) (ar false an))))))))))))))))))) ?_
    exact ⟨rfl,(sw [] [] [.a 4 (.bool (decide ((lN (h_1.Threads))≤(70:Int))&&(decide ((lN (h_1.Domains))≤(10:Int))&&(decide ((lN (h_1.Snaps))≤(20:Int))&&(decide ((lN (l_1))≤(30:Int))&&decide (o_1≤(3000:Int)))))))] [] (ac (congrArg AV.bool (t3 zL (zBe zJ)):(.bool false:AV)=.bool (decide ((lN (h_1.Threads))≤(70:Int))&&(decide ((lN (h_1.Domains))≤(10:Int))&&(decide ((lN (h_1.Snaps))≤(20:Int))&&(decide ((lN (l_1))≤(30:Int))&&decide (o_1≤(3000:Int))))))) an))⟩
  ·refine rg [(2,{ n:=(h_1.Threads).length }),(5,Hg),(6,Hg),(7,Hg),(8,Hg),(9,Hf),(11,Hg),(12,Hg),(13,Hg),(14,Hg),(15,Hf),(17,Hg),(18,Hg),(19,Hg),(20,Hf),(22,Hg),(23,Hg),(24,Hf)] [4] [] 1 [.bool false] [] zH (ac (yH _:((Mp zG h_1.Threads)).length=(h_1.Threads).length) (ac zL (ac zL (ac zL (ac zL (ac zL (ac (rfl:false=!true) (ac (rfl:false=!true) (ac (rfl:false=!true) (ac (rfl:false=!true) (ar false (ac (rfl:false=!true) (ac (rfl:false=!true) (ac (rfl:false=!true) (ar false (ac (rfl:false=!true) (ac (rfl:false=!true) (ar false an)))))))))))))))))) ?_
   exact ⟨rfl,(sw [] [] [.a 4 (.bool (decide ((lN (h_1.Threads))≤(70:Int))&&(decide ((lN (h_1.Domains))≤(10:Int))&&(decide ((lN (h_1.Snaps))≤(20:Int))&&(decide ((lN (l_1))≤(30:Int))&&decide (o_1≤(3000:Int)))))))] [] (ac (congrArg AV.bool (zBe zL):(.bool false:AV)=.bool (decide ((lN (h_1.Threads))≤(70:Int))&&(decide ((lN (h_1.Domains))≤(10:Int))&&(decide ((lN (h_1.Snaps))≤(20:Int))&&(decide ((lN (l_1))≤(30:Int))&&decide (o_1≤(3000:Int))))))) an))⟩
 refine rt ?_
 cases h
 exact ⟨.inr rfl,Nat.le_of_ble_eq_true rfl,by kernel_rfl⟩

theorem zAm (F:Nat) (wY:Int) (vW:Int) (vN:List (Int)) (r:zB) (h:zAd F wY vW vN=some r):zW prog 26 [] [] [Ii wY,Ii vW,.sl false 1 (Mi vN)] [] (zA r):=by
 refine yK (fn:=Go.Proofs.Try.f26) (code:=xY Go.Proofs.Try.f26) (by kernel_rfl) (by kernel_rfl) (Nat.le_of_ble_eq_true (by kernel_rfl)) ?_
 unfold zAd at h
 refine sr [(0,{ id:=0 })] [0,1,2,6] [0] 1 [Ii wY,Ii vW,.sl false 1 (Mi vN),Pp 0] [Vb 59 [Ii 0,Ii 0,Ii 0,.nilsl]] zH an ?_
 refine qM (pC 0 3 1 42 6 (by kernel_rfl)) ?_
 refine wk [0,1] [] [.s 0,.s 1,.s 2,.s 6] [.s 0,.s 1] [(0,Ii wY),(1,Ii vW),(2,.sl false 1 (Mi vN)),(6,Pp 0)] [(0,Vb 59 [Ii 0,Ii 0,Ii 0,.own 1 0]),(1,Rb 42 6 [])] an ?_
 refine sr [(3,{ id:=2 })] [2,6,7] [0,1,2] 3 [.sl false 1 (Mi vN),Pp 0,Pp 2] [Vb 59 [Ii 0,Ii 0,Ii 0,.own 1 0],Rb 42 6 [],Vb 59 [Ii 1,Ii wY,Ii vW,.nilsl]] zH an ?_
 refine qM (pC 2 3 3 42 6 (by kernel_rfl)) ?_
 refine wk [0,1,2,3] [] [.s 2,.s 6,.s 7] [.s 0,.s 1,.s 2,.s 3] [(2,.sl false 1 (Mi vN)),(6,Pp 0),(7,Pp 2)] [(0,Vb 59 [Ii 0,Ii 0,Ii 0,.own 1 0]),(1,Rb 42 6 []),(2,Vb 59 [Ii 1,Ii wY,Ii vW,.own 3 0]),(3,Rb 42 6 [])] an ?_
 refine sq ?_
 refine sr [(1,{ n:=(vN).length })] [6,7,13,14,15] [0,1,2,3] 4 [Pp 0,Pp 2,.sl false 1 (Mi vN),Ii (lN (vN)),Ii 0] [Vb 59 [Ii 0,Ii 0,Ii 0,.own 1 0],Rb 42 6 [],Vb 59 [Ii 1,Ii wY,Ii vW,.own 3 0],Rb 42 6 []] zH (ac (yH _:((Mi vN)).length=(vN).length) an) ?_
 obtain ⟨o_1,h_1,h⟩:=bind_some h
 refine wO (mk [(6,Pp 0),(7,Pp 2)] [(0,Vb 59 [Ii 0,Ii 0,Ii 0,.own 1 0]),(1,Rb 42 6 []),(2,Vb 59 [Ii 1,Ii wY,Ii vW,.own 3 ((o_1).length)]),(3,Rb 42 6 (Mp zE o_1))] 4) ?_ ?_
 ·replace h:=h_1
  refine yU (id:=0) (by kernel_rfl) ?_
  refine wk [0,1,2,3] [] [.s 6,.s 7,.s 13,.s 14,.s 15] [.s 0,.s 1,.s 2,.s 3] [(6,Pp 0),(7,Pp 2),(13,.sl false 1 (Mi vN)),(14,Ii (lN (vN))),(15,Ii 0)] [(0,Vb 59 [Ii 0,Ii 0,Ii 0,.own 1 0]),(1,Rb 42 6 []),(2,Vb 59 [Ii 1,Ii wY,Ii vW,.own 3 0]),(3,Rb 42 6 [])] an ?_
  refine wT (fun n st=>∃ (v_1:Int),∃ (zC:List zI),st=mk [(6,Pp 0),(7,Pp 2),(13,.sl false 1 (Mi vN)),(14,Ii (lN (vN))),(15,Ii v_1)] [(0,Vb 59 [Ii 0,Ii 0,Ii 0,.own 1 0]),(1,Rb 42 6 []),(2,Vb 59 [Ii 1,Ii wY,Ii vW,.own 3 ((zC).length)]),(3,Rb 42 6 (Mp zE zC))] 4∧zAo F vN n v_1 zC=some o_1) F (by kernel_rfl) ⟨_,_,rfl,h⟩ ?_ ?_
  ·rintro _ ⟨_,_,_,h⟩;exact wV (h:(none:Option (List zI))=some o_1)
  rintro n_1 _ ⟨v_1,zC,rfl,h⟩
  replace h:pX F vN (zAo F vN n_1) v_1 zC=some o_1:=h
  unfold pX at h
  refine sr [] [6,7,13,14,15,16] [0,1,2,3] 4 [Pp 0,Pp 2,.sl false 1 (Mi vN),Ii (lN (vN)),Ii v_1,.bool (decide (v_1<(lN (vN))))] [Vb 59 [Ii 0,Ii 0,Ii 0,.own 1 0],Rb 42 6 [],Vb 59 [Ii 1,Ii wY,Ii vW,.own 3 ((zC).length)],Rb 42 6 (Mp zE zC)] zH an ?_
  refine sq ?_
  refine cd 16 (decide (v_1<(lN (vN)))) ?_ ?_
  rotate_left
  ·intro g_1;replace h:=zU g_1 h
   refine w5 (id:=0) (by kernel_rfl) ?_
   cases h
   exact ⟨rfl,(sw [0,1,2,3] [] [.s 6,.s 7] [.s 0,.s 1,.s 2,.s 3] an)⟩
  intro g_1;replace h:=zT g_1 h
  refine sk ?_
  refine sq ?_
  refine yU (id:=1) (by kernel_rfl) ?_
  refine sq ?_
  obtain ⟨x_1,h_2,h⟩:=bind_some h
  refine rg [(0,{ av:=Ii x_1 })] [6,7,9,13,14,15] [0,1,2,3] 4 [Pp 0,Pp 2,Ii x_1,.sl false 1 (Mi vN),Ii (lN (vN)),Ii v_1] [Vb 59 [Ii 0,Ii 0,Ii 0,.own 1 0],Rb 42 6 [],Vb 59 [Ii 1,Ii wY,Ii vW,.own 3 ((zC).length)],Rb 42 6 (Mp zE zC)] zH (ac (wI h_2:vA (Mi vN) v_1=some (Ii x_1)) an) ?_
  obtain ⟨_,h_3,h⟩:=bind_some h;replace h_3:=wS h_3
  refine rg [(4,{ id:=4,lo:=[(22,[0,0,0,0,0,1])] }),(5,{ id:=5,l:=(Mp zE (zC++([(⟨x_1,(3:Int),([97]:List Int),(0:Int),(0:Int),[]⟩:zI)]:List zI))),n:=((zC++([(⟨x_1,(3:Int),([97]:List Int),(0:Int),(0:Int),[]⟩:zI)]:List zI))).length })] [6,7,13,14,15] [0,1,2,5] 6 [Pp 0,Pp 2,.sl false 1 (Mi vN),Ii (lN (vN)),Ii v_1] [Vb 59 [Ii 0,Ii 0,Ii 0,.own 1 0],Rb 42 6 [],Vb 59 [Ii 1,Ii wY,Ii vW,.own 5 (((zC++([(⟨x_1,(3:Int),([97]:List Int),(0:Int),(0:Int),[]⟩:zI)]:List zI))).length)],Rb 42 6 (Mp zE (zC++([(⟨x_1,(3:Int),([97]:List Int),(0:Int),(0:Int),[]⟩:zI)]:List zI)))] zH (ac (by first | (simp;done) | (simp;omega):(zC).length=((List.map zE zC)).length) (ac (by first | (simp;done) | (simp;omega):1=((List.map zE ([(⟨x_1,(3:Int),([97]:List Int),(0:Int),(0:Int),[]⟩:zI)]:List zI))).length) (ac (zBE _ _:(Mp zE (zC++([(⟨x_1,(3:Int),([97]:List Int),(0:Int),(0:Int),[]⟩:zI)]:List zI)))=(Mp zE zC)++(Mp zE ([(⟨x_1,(3:Int),([97]:List Int),(0:Int),(0:Int),[]⟩:zI)]:List zI))) (ac (by simp:((zC++([(⟨x_1,(3:Int),([97]:List Int),(0:Int),(0:Int),[]⟩:zI)]:List zI))).length=((List.map zE (zC++([(⟨x_1,(3:Int),([97]:List Int),(0:Int),(0:Int),[]⟩:zI)]:List zI)))).length) (ac (by first | (simp;done) | simpa using h_3:(((List.map zE zC):List AV).length+((List.map zE ([(⟨x_1,(3:Int),([97]:List Int),(0:Int),(0:Int),[]⟩:zI)]:List zI)):List AV).length) * 72≤140737488355328) an))))) ?_
  refine rg [] [6,7,13,14,15] [0,1,2,5] 6 [Pp 0,Pp 2,.sl false 1 (Mi vN),Ii (lN (vN)),Ii (zK (v_1+(1:Int)))] [Vb 59 [Ii 0,Ii 0,Ii 0,.own 1 0],Rb 42 6 [],Vb 59 [Ii 1,Ii wY,Ii vW,.own 5 (((zC++([(⟨x_1,(3:Int),([97]:List Int),(0:Int),(0:Int),[]⟩:zI)]:List zI))).length)],Rb 42 6 (Mp zE (zC++([(⟨x_1,(3:Int),([97]:List Int),(0:Int),(0:Int),[]⟩:zI)]:List zI)))] zH an ?_
  exact ⟨_,(sw [0,1,2,5] [] [.s 6,.s 7,.s 13,.s 14,.s 15] [.s 0,.s 1,.s 2,.s 3] an),_,_,rfl,h⟩
 refine sr [] [6] [0,3] 4 [Pp 0] [Vb 59 [Ii 1,Ii wY,Ii vW,.own 3 ((o_1).length)],Rb 42 6 (Mp zE o_1)] zH an ?_
 refine wk [0] [3] [.s 6] [.a 0 (Vb 59 (z6 (⟨(1:Int),wY,vW,o_1⟩:zB)))] [(6,Pp 0)] [(0,Vb 59 (z6 (⟨(1:Int),wY,vW,o_1⟩:zB)))] (ar 59 (ac (rfl:uJ [Ii ((⟨(1:Int),wY,vW,o_1⟩:zB).Thread),Ii ((⟨(1:Int),wY,vW,o_1⟩:zB).Serial),Ii ((⟨(1:Int),wY,vW,o_1⟩:zB).Lost),.sl false 6 (Mp zE ((⟨(1:Int),wY,vW,o_1⟩:zB).Events))]=true) (ac (by first | (simp;done) | (simp;omega):(o_1).length=((List.map zE o_1)).length) (ac (rfl:(Ii 1:AV)=Ii ((⟨(1:Int),wY,vW,o_1⟩:zB).Thread)) (ac (rfl:(Ii wY:AV)=Ii ((⟨(1:Int),wY,vW,o_1⟩:zB).Serial)) (ac (rfl:(Ii vW:AV)=Ii ((⟨(1:Int),wY,vW,o_1⟩:zB).Lost)) (ar 6 (ac (rfl:((Mp zE o_1):List AV)=(Mp zE ((⟨(1:Int),wY,vW,o_1⟩:zB).Events))) (ac (rfl:(!false||false)=true) an))))))))) ?_
 refine rt ?_
 cases h
 exact ⟨.inr rfl,Nat.le_of_ble_eq_true rfl,by kernel_rfl⟩

theorem zBM (s_1:List Int) (c_1:Int) (r:Int) (h:t8 s_1 c_1=some r):zW prog 91 [] [] [.str s_1,Iu c_1] [] (Ii r):=by
 refine yK (fn:=Go.Proofs.Try.f91) (code:=xY Go.Proofs.Try.f91) (by kernel_rfl) (by kernel_rfl) (Nat.le_of_ble_eq_true (by kernel_rfl)) ?_
 unfold t8 at h
 refine sr [] [0,1] [] 0 [.str s_1,Iu c_1] [] zH an ?_
 refine sr [] [4] [] 0 [Ii (uS s_1 c_1)] [] zH (ac (zNe:zFk prog 92) an) ?_
 refine rt ?_
 cases h
 exact ⟨.inr rfl,Nat.le_of_ble_eq_true rfl,by kernel_rfl⟩

theorem vQ (s_1:List Int) (c_1:Int) (r:Int) (h:vC s_1 c_1=some r):zW prog 86 [] [] [.str s_1,Iu c_1] [] (Ii r):=by
 refine yK (fn:=Go.Proofs.Try.f86) (code:=xY Go.Proofs.Try.f86) (by kernel_rfl) (by kernel_rfl) (Nat.le_of_ble_eq_true (by kernel_rfl)) ?_
 unfold vC at h
 refine sr [] [0,1] [] 0 [.str s_1,Iu c_1] [] zH an ?_
 refine sq ?_
 obtain ⟨r_1,h_1,h⟩:=bind_some h
 refine rg [(2,{ av:=Ii r_1,l:=[.str s_1,Iu c_1] })] [4] [] 0 [Ii r_1] [] zH (ar ([.str s_1,Iu c_1]:List AV) (ac (rfl:([]:List zO)=[]) (ac (zBM s_1 c_1 r_1 h_1:zW prog 91 [] [] [.str s_1,Iu c_1] [] (Ii r_1)) an))) ?_
 refine rt ?_
 cases h
 exact ⟨.inr rfl,Nat.le_of_ble_eq_true rfl,by kernel_rfl⟩

theorem zEA (c_1:Int) (r:Bool) (h:kI c_1=some r):zW prog 75 [] [] [Iu c_1] [] (.bool r):=by
 refine yK (fn:=Go.Proofs.Try.f75) (code:=xY Go.Proofs.Try.f75) (by kernel_rfl) (by kernel_rfl) (Nat.le_of_ble_eq_true (by kernel_rfl)) ?_
 unfold kI at h
 refine sr [] [0] [] 0 [Iu c_1] [] zH an ?_
 refine sq ?_
 obtain ⟨p_1,h_2,h⟩:=bind_some h
 refine wO (mk [(2,.bool p_1)] [] 0) ?_ ?_
 ·replace h:=h_2
  rcases bft (decide (c_1≥(97:Int))) with zL | zL
  ·replace h:=zT zL h
   rcases bft (decide (c_1≤(122:Int))) with zJ | zJ
   ·replace h:=zT zJ h
    refine rg [(5,Ht),(7,Hg),(8,Hg),(9,Hg),(12,Hg),(13,Ht),(15,Hg),(16,Hg),(17,Hg),(20,Hg),(21,Ht),(23,Hg),(24,Hg),(25,Hg),(26,Ht)] [2] [] 0 [.bool true] [] zH (ac zL (ac zL (ac zL (ac zJ (ac zJ (ac zJ (ac zJ (ac zJ (ax (ax (ax (ax (ar true (ax (ax (ax (ar true an))))))))))))))))) ?_
    cases h
    exact ⟨rfl,(sw [] [] [.s 2] [] an)⟩
   ·replace h:=zU zJ h
    rcases bft (decide (c_1≥(65:Int))) with zV | zV
    ·replace h:=zT zV h
     rcases bft (decide (c_1≤(90:Int))) with zZ | zZ
     ·replace h:=zT zZ h
      refine rg [(5,Ht),(12,Ht),(13,Hf),(15,Hg),(16,Hg),(17,Hg),(20,Hg),(21,Ht),(23,Hg),(24,Hg),(25,Hg),(26,Ht)] [2] [] 0 [.bool true] [] zH (ac zL (ac zL (ac zL (ac zJ (ac zJ (ac zJ (ac zV (ac zV (ac zJ (ac zV (ac zJ (ac zZ (ac zZ (ac zZ (ac zZ (ac zZ (ax (ax (ax (ar true an)))))))))))))))))))) ?_
      cases h
      exact ⟨rfl,(sw [] [] [.s 2] [] an)⟩
     ·replace h:=zU zZ h
      rcases bft (decide (c_1≥(48:Int))) with yV | yV
      ·replace h:=zT yV h
       rcases bft (decide (c_1≤(57:Int))) with wC | wC
       ·replace h:=zT wC h
        refine rg [(5,Ht),(12,Ht),(13,Hf),(20,Ht),(21,Hf),(23,Hg),(24,Hg),(25,Hg),(26,Ht)] [2] [] 0 [.bool true] [] zH (ac zL (ac zL (ac zL (ac zJ (ac zJ (ac zJ (ac zV (ac zV (ac zJ (ac zV (ac zJ (ac zZ (ac zZ (ac zZ (ac yV (ac yV (ac zZ (ac yV (ac zZ (ac wC (ac wC (ac wC (ac wC an))))))))))))))))))))))) ?_
        cases h
        exact ⟨rfl,(sw [] [] [.s 2] [] an)⟩
       ·replace h:=zU wC h
        obtain ⟨r_1,h_1,h⟩:=bind_some h
        refine rg [(5,Ht),(12,Ht),(13,Hf),(20,Ht),(21,Hf),(24,{ av:=Ii r_1,l:=[.str ([95,46,58,47,60,62,36,42,126,45]:List Int),Iu c_1] }),(26,Hf)] [2] [] 0 [.bool (decide (r_1≥(0:Int)))] [] zH (ac zL (ac zL (ac zL (ac zJ (ac zJ (ac zJ (ac zV (ac zV (ac zJ (ac zV (ac zJ (ac zZ (ac zZ (ac zZ (ac yV (ac yV (ac zZ (ac yV (ac zZ (ac wC (ac wC (ar ([.str ([95,46,58,47,60,62,36,42,126,45]:List Int),Iu c_1]:List AV) (ac (rfl:([]:List zO)=[]) (ac (vQ ([95,46,58,47,60,62,36,42,126,45]:List Int) c_1 r_1 h_1:zW prog 86 [] [] [.str ([95,46,58,47,60,62,36,42,126,45]:List Int),Iu c_1] [] (Ii r_1)) (ac wC (ac wC an)))))))))))))))))))))))))) ?_
        cases h
        exact ⟨rfl,(sw [] [] [.s 2] [] an)⟩
      ·replace h:=zU yV h
       obtain ⟨r_1,h_1,h⟩:=bind_some h
       refine rg [(5,Ht),(12,Ht),(13,Hf),(18,Hg),(19,Hg),(20,Hf),(21,Hf),(24,{ av:=Ii r_1,l:=[.str ([95,46,58,47,60,62,36,42,126,45]:List Int),Iu c_1] }),(26,Hf)] [2] [] 0 [.bool (decide (r_1≥(0:Int)))] [] zH (ac zL (ac zL (ac zL (ac zJ (ac zJ (ac zJ (ac zV (ac zV (ac zJ (ac zV (ac zJ (ac zZ (ac zZ (ac zZ (ac yV (ac yV (ac zZ (ac yV (ac zZ (ar false (ar false (ar ([.str ([95,46,58,47,60,62,36,42,126,45]:List Int),Iu c_1]:List AV) (ac (rfl:([]:List zO)=[]) (ac (vQ ([95,46,58,47,60,62,36,42,126,45]:List Int) c_1 r_1 h_1:zW prog 86 [] [] [.str ([95,46,58,47,60,62,36,42,126,45]:List Int),Iu c_1] [] (Ii r_1)) (ar false (ar false an)))))))))))))))))))))))))) ?_
       cases h
       exact ⟨rfl,(sw [] [] [.s 2] [] an)⟩
    ·replace h:=zU zV h
     rcases bft (decide (c_1≥(48:Int))) with x9 | x9
     ·replace h:=zT x9 h
      rcases bft (decide (c_1≤(57:Int))) with x8 | x8
      ·replace h:=zT x8 h
       refine rg [(5,Ht),(10,Hg),(11,Hg),(12,Hf),(13,Hf),(20,Ht),(21,Hf),(23,Hg),(24,Hg),(25,Hg),(26,Ht)] [2] [] 0 [.bool true] [] zH (ac zL (ac zL (ac zL (ac zJ (ac zJ (ac zJ (ac zV (ac zV (ac zJ (ac zV (ac zJ (ar false (ar false (ar false (ac x9 (ac x9 (ar false (ac x9 (ar false (ac x8 (ac x8 (ac x8 (ac x8 an))))))))))))))))))))))) ?_
       cases h
       exact ⟨rfl,(sw [] [] [.s 2] [] an)⟩
      ·replace h:=zU x8 h
       obtain ⟨r_1,h_1,h⟩:=bind_some h
       refine rg [(5,Ht),(10,Hg),(11,Hg),(12,Hf),(13,Hf),(20,Ht),(21,Hf),(24,{ av:=Ii r_1,l:=[.str ([95,46,58,47,60,62,36,42,126,45]:List Int),Iu c_1] }),(26,Hf)] [2] [] 0 [.bool (decide (r_1≥(0:Int)))] [] zH (ac zL (ac zL (ac zL (ac zJ (ac zJ (ac zJ (ac zV (ac zV (ac zJ (ac zV (ac zJ (ar false (ar false (ar false (ac x9 (ac x9 (ar false (ac x9 (ar false (ac x8 (ac x8 (ar ([.str ([95,46,58,47,60,62,36,42,126,45]:List Int),Iu c_1]:List AV) (ac (rfl:([]:List zO)=[]) (ac (vQ ([95,46,58,47,60,62,36,42,126,45]:List Int) c_1 r_1 h_1:zW prog 86 [] [] [.str ([95,46,58,47,60,62,36,42,126,45]:List Int),Iu c_1] [] (Ii r_1)) (ac x8 (ac x8 an)))))))))))))))))))))))))) ?_
       cases h
       exact ⟨rfl,(sw [] [] [.s 2] [] an)⟩
     ·replace h:=zU x9 h
      obtain ⟨r_1,h_1,h⟩:=bind_some h
      refine rg [(5,Ht),(10,Hg),(11,Hg),(12,Hf),(13,Hf),(18,Hg),(19,Hg),(20,Hf),(21,Hf),(24,{ av:=Ii r_1,l:=[.str ([95,46,58,47,60,62,36,42,126,45]:List Int),Iu c_1] }),(26,Hf)] [2] [] 0 [.bool (decide (r_1≥(0:Int)))] [] zH (ac zL (ac zL (ac zL (ac zJ (ac zJ (ac zJ (ac zV (ac zV (ac zJ (ac zV (ac zJ (ar false (ar false (ar false (ac x9 (ac x9 (ar false (ac x9 (ar false (ar false (ar false (ar ([.str ([95,46,58,47,60,62,36,42,126,45]:List Int),Iu c_1]:List AV) (ac (rfl:([]:List zO)=[]) (ac (vQ ([95,46,58,47,60,62,36,42,126,45]:List Int) c_1 r_1 h_1:zW prog 86 [] [] [.str ([95,46,58,47,60,62,36,42,126,45]:List Int),Iu c_1] [] (Ii r_1)) (ar false (ar false an)))))))))))))))))))))))))) ?_
      cases h
      exact ⟨rfl,(sw [] [] [.s 2] [] an)⟩
  ·replace h:=zU zL h
   rcases bft (decide (c_1≥(65:Int))) with vD | vD
   ·replace h:=zT vD h
    rcases bft (decide (c_1≤(90:Int))) with x7 | x7
    ·replace h:=zT x7 h
     refine rg [(3,Hg),(4,Hg),(5,Hf),(12,Ht),(13,Hf),(15,Hg),(16,Hg),(17,Hg),(20,Hg),(21,Ht),(23,Hg),(24,Hg),(25,Hg),(26,Ht)] [2] [] 0 [.bool true] [] zH (ac zL (ac zL (ac zL (ar false (ar false (ar false (ac vD (ac vD (ar false (ac vD (ar false (ac x7 (ac x7 (ac x7 (ac x7 (ac x7 (ax (ax (ax (ar true an)))))))))))))))))))) ?_
     cases h
     exact ⟨rfl,(sw [] [] [.s 2] [] an)⟩
    ·replace h:=zU x7 h
     rcases bft (decide (c_1≥(48:Int))) with wM | wM
     ·replace h:=zT wM h
      rcases bft (decide (c_1≤(57:Int))) with wZ | wZ
      ·replace h:=zT wZ h
       refine rg [(3,Hg),(4,Hg),(5,Hf),(12,Ht),(13,Hf),(20,Ht),(21,Hf),(23,Hg),(24,Hg),(25,Hg),(26,Ht)] [2] [] 0 [.bool true] [] zH (ac zL (ac zL (ac zL (ar false (ar false (ar false (ac vD (ac vD (ar false (ac vD (ar false (ac x7 (ac x7 (ac x7 (ac wM (ac wM (ac x7 (ac wM (ac x7 (ac wZ (ac wZ (ac wZ (ac wZ an))))))))))))))))))))))) ?_
       cases h
       exact ⟨rfl,(sw [] [] [.s 2] [] an)⟩
      ·replace h:=zU wZ h
       obtain ⟨r_1,h_1,h⟩:=bind_some h
       refine rg [(3,Hg),(4,Hg),(5,Hf),(12,Ht),(13,Hf),(20,Ht),(21,Hf),(24,{ av:=Ii r_1,l:=[.str ([95,46,58,47,60,62,36,42,126,45]:List Int),Iu c_1] }),(26,Hf)] [2] [] 0 [.bool (decide (r_1≥(0:Int)))] [] zH (ac zL (ac zL (ac zL (ar false (ar false (ar false (ac vD (ac vD (ar false (ac vD (ar false (ac x7 (ac x7 (ac x7 (ac wM (ac wM (ac x7 (ac wM (ac x7 (ac wZ (ac wZ (ar ([.str ([95,46,58,47,60,62,36,42,126,45]:List Int),Iu c_1]:List AV) (ac (rfl:([]:List zO)=[]) (ac (vQ ([95,46,58,47,60,62,36,42,126,45]:List Int) c_1 r_1 h_1:zW prog 86 [] [] [.str ([95,46,58,47,60,62,36,42,126,45]:List Int),Iu c_1] [] (Ii r_1)) (ac wZ (ac wZ an)))))))))))))))))))))))))) ?_
       cases h
       exact ⟨rfl,(sw [] [] [.s 2] [] an)⟩
     ·replace h:=zU wM h
      obtain ⟨r_1,h_1,h⟩:=bind_some h
      refine rg [(3,Hg),(4,Hg),(5,Hf),(12,Ht),(13,Hf),(18,Hg),(19,Hg),(20,Hf),(21,Hf),(24,{ av:=Ii r_1,l:=[.str ([95,46,58,47,60,62,36,42,126,45]:List Int),Iu c_1] }),(26,Hf)] [2] [] 0 [.bool (decide (r_1≥(0:Int)))] [] zH (ac zL (ac zL (ac zL (ar false (ar false (ar false (ac vD (ac vD (ar false (ac vD (ar false (ac x7 (ac x7 (ac x7 (ac wM (ac wM (ac x7 (ac wM (ac x7 (ar false (ar false (ar ([.str ([95,46,58,47,60,62,36,42,126,45]:List Int),Iu c_1]:List AV) (ac (rfl:([]:List zO)=[]) (ac (vQ ([95,46,58,47,60,62,36,42,126,45]:List Int) c_1 r_1 h_1:zW prog 86 [] [] [.str ([95,46,58,47,60,62,36,42,126,45]:List Int),Iu c_1] [] (Ii r_1)) (ar false (ar false an)))))))))))))))))))))))))) ?_
      cases h
      exact ⟨rfl,(sw [] [] [.s 2] [] an)⟩
   ·replace h:=zU vD h
    rcases bft (decide (c_1≥(48:Int))) with uY | uY
    ·replace h:=zT uY h
     rcases bft (decide (c_1≤(57:Int))) with u6 | u6
     ·replace h:=zT u6 h
      refine rg [(3,Hg),(4,Hg),(5,Hf),(10,Hg),(11,Hg),(12,Hf),(13,Hf),(20,Ht),(21,Hf),(23,Hg),(24,Hg),(25,Hg),(26,Ht)] [2] [] 0 [.bool true] [] zH (ac zL (ac zL (ac zL (ar false (ar false (ar false (ac vD (ac vD (ar false (ac vD (ar false (ar false (ar false (ar false (ac uY (ac uY (ar false (ac uY (ar false (ac u6 (ac u6 (ac u6 (ac u6 an))))))))))))))))))))))) ?_
      cases h
      exact ⟨rfl,(sw [] [] [.s 2] [] an)⟩
     ·replace h:=zU u6 h
      obtain ⟨r_1,h_1,h⟩:=bind_some h
      refine rg [(3,Hg),(4,Hg),(5,Hf),(10,Hg),(11,Hg),(12,Hf),(13,Hf),(20,Ht),(21,Hf),(24,{ av:=Ii r_1,l:=[.str ([95,46,58,47,60,62,36,42,126,45]:List Int),Iu c_1] }),(26,Hf)] [2] [] 0 [.bool (decide (r_1≥(0:Int)))] [] zH (ac zL (ac zL (ac zL (ar false (ar false (ar false (ac vD (ac vD (ar false (ac vD (ar false (ar false (ar false (ar false (ac uY (ac uY (ar false (ac uY (ar false (ac u6 (ac u6 (ar ([.str ([95,46,58,47,60,62,36,42,126,45]:List Int),Iu c_1]:List AV) (ac (rfl:([]:List zO)=[]) (ac (vQ ([95,46,58,47,60,62,36,42,126,45]:List Int) c_1 r_1 h_1:zW prog 86 [] [] [.str ([95,46,58,47,60,62,36,42,126,45]:List Int),Iu c_1] [] (Ii r_1)) (ac u6 (ac u6 an)))))))))))))))))))))))))) ?_
      cases h
      exact ⟨rfl,(sw [] [] [.s 2] [] an)⟩
    ·replace h:=zU uY h
     obtain ⟨r_1,h_1,h⟩:=bind_some h
     refine rg [(3,Hg),(4,Hg),(5,Hf),(10,Hg),(11,Hg),(12,Hf),(13,Hf),(18,Hg),(19,Hg),(20,Hf),(21,Hf),(24,{ av:=Ii r_1,l:=[.str ([95,46,58,47,60,62,36,42,126,45]:List Int),Iu c_1] }),(26,Hf)] [2] [] 0 [.bool (decide (r_1≥(0:Int)))] [] zH (ac zL (ac zL (ac zL (ar false (ar false (ar false (ac vD (ac vD (ar false (ac vD (ar false (ar false (ar false (ar false (ac uY (ac uY (ar false (ac uY (ar false (ar false (ar false (ar ([.str ([95,46,58,47,60,62,36,42,126,45]:List Int),Iu c_1]:List AV) (ac (rfl:([]:List zO)=[]) (ac (vQ ([95,46,58,47,60,62,36,42,126,45]:List Int) c_1 r_1 h_1:zW prog 86 [] [] [.str ([95,46,58,47,60,62,36,42,126,45]:List Int),Iu c_1] [] (Ii r_1)) (ar false (ar false an)))))))))))))))))))))))))) ?_
     cases h
     exact ⟨rfl,(sw [] [] [.s 2] [] an)⟩
 refine rt ?_
 cases h
 exact ⟨.inr rfl,Nat.le_of_ble_eq_true rfl,by kernel_rfl⟩

theorem zAL (F:Nat) (s_1:List Int) (r:Int) (h:jF F s_1=some r):zW prog 64 [] [] [.str s_1] [] (Ii r):=by
 refine yK (fn:=Go.Proofs.Try.f64) (code:=xY Go.Proofs.Try.f64) (by kernel_rfl) (by kernel_rfl) (Nat.le_of_ble_eq_true (by kernel_rfl)) ?_
 unfold jF at h
 refine sr [] [0] [] 0 [.str s_1] [] zH an ?_
 refine sq ?_
 refine sq ?_
 refine wO (mk [(0,.str s_1),(10,.bool ((s_1==([]:List Int))||decide ((lN (s_1))>(40:Int))))] [] 0) ?_ ?_
 ·rcases bft (s_1==([]:List Int)) with zL | zL
  ·refine rg [(3,Hg),(4,Hg),(5,Hg),(6,Ht)] [0,10] [] 0 [.str s_1,.bool true] [] zH (ac zL (ac zL (ac zL (ac zL an)))) ?_
   exact ⟨rfl,(sw [] [] [.s 0,.a 10 (.bool ((s_1==([]:List Int))||decide ((lN (s_1))>(40:Int))))] [] (ac (congrArg AV.bool (ort zL):(.bool true:AV)=.bool ((s_1==([]:List Int))||decide ((lN (s_1))>(40:Int)))) an))⟩
  ·refine rg [(6,Hf)] [0,10] [] 0 [.str s_1,.bool (decide ((lN (s_1))>(40:Int)))] [] zH (ac zL (ac zL (ac zL (ac zL an)))) ?_
   exact ⟨rfl,(sw [] [] [.s 0,.a 10 (.bool ((s_1==([]:List Int))||decide ((lN (s_1))>(40:Int))))] [] (ac (congrArg AV.bool (orf zL rfl):(.bool (decide ((lN (s_1))>(40:Int))):AV)=.bool ((s_1==([]:List Int))||decide ((lN (s_1))>(40:Int)))) an))⟩
 refine cd 10 ((s_1==([]:List Int))||decide ((lN (s_1))>(40:Int))) ?_ ?_
 ·intro g_1;replace h:=zT g_1 h
  refine sr [] [2] [] 0 [Ii 3] [] zH an ?_
  refine rt ?_
  cases h
  exact ⟨.inr rfl,Nat.le_of_ble_eq_true rfl,by kernel_rfl⟩
 intro g_1;replace h:=zU g_1 h
 refine sk ?_
 refine sq ?_
 refine sr [] [0,12,13] [] 0 [.str s_1,Ii (lN (s_1)),Ii 0] [] zH an ?_
 obtain ⟨o_1,h_1,h⟩:=bind_some h
 refine uR (K1:=(fun e st'=>match o_1 with | (.inl q0)=>e=.normal∧Sub 0 st' (mk [] [] 0) | (.inr q1)=>e=.ret∧kO prog Go.Proofs.Try.f64 0 [] (Ii q1) st')) ?_ ?_
 ·replace h:=h_1
  refine yU (id:=0) (by kernel_rfl) ?_
  refine wk [] [] [.s 0,.s 12,.s 13] [] [(0,.str s_1),(12,Ii (lN (s_1))),(13,Ii 0)] [] an ?_
  refine wT (fun n st=>∃ (v_1:Int),st=mk [(0,.str s_1),(12,Ii (lN (s_1))),(13,Ii v_1)] [] 0∧jT F s_1 n v_1=some o_1) F (by kernel_rfl) ⟨_,rfl,h⟩ ?_ ?_
  ·rintro _ ⟨_,_,h⟩;exact wV (h:(none:Option (Unit⊕Int))=some o_1)
  rintro n_1 _ ⟨v_1,rfl,h⟩
  replace h:tQ F s_1 (jT F s_1 n_1) v_1=some o_1:=h
  unfold tQ at h
  refine sr [] [0,12,13,14] [] 0 [.str s_1,Ii (lN (s_1)),Ii v_1,.bool (decide (v_1<(lN (s_1))))] [] zH an ?_
  refine sq ?_
  refine cd 14 (decide (v_1<(lN (s_1)))) ?_ ?_
  rotate_left
  ·intro g_2;replace h:=zU g_2 h
   refine w5 (id:=0) (by kernel_rfl) ?_
   cases h
   exact ⟨rfl,(sw [] [] [] [] an)⟩
  intro g_2;replace h:=zT g_2 h
  refine sk ?_
  refine sq ?_
  refine yU (id:=1) (by kernel_rfl) ?_
  refine sr [] [0,3,12,13] [] 0 [.str s_1,Ii v_1,Ii (lN (s_1)),Ii v_1] [] zH an ?_
  refine sq ?_
  obtain ⟨c_1,h_2,h⟩:=bind_some h
  obtain ⟨r_1,h_3,h⟩:=bind_some h
  refine rg [(2,{ z:=c_1 }),(3,{ av:=.bool r_1,l:=[Iu c_1] })] [0,12,13,20] [] 0 [.str s_1,Ii (lN (s_1)),Ii v_1,.bool (!r_1)] [] zH (ac h_2 (ar ([Iu c_1]:List AV) (ac (rfl:([]:List zO)=[]) (ac (zEA c_1 r_1 h_3:zW prog 75 [] [] [Iu c_1] [] (.bool r_1)) an)))) ?_
  refine cd 20 (!r_1) ?_ ?_
  rotate_left
  ·intro g_3;replace h:=zU g_3 h
   refine sk ?_
   refine rg [] [0,12,13] [] 0 [.str s_1,Ii (lN (s_1)),Ii (zK (v_1+(1:Int)))] [] zH an ?_
   exact ⟨_,(sw [] [] [.s 0,.s 12,.s 13] [] an),_,rfl,h⟩
  intro g_3;replace h:=zT g_3 h
  refine sr [] [2] [] 0 [Ii 3] [] zH an ?_
  refine rt ?_
  cases h
  exact ⟨rfl,Nat.le_of_ble_eq_true rfl,by kernel_rfl⟩
 intro e st1 hk
 rcases o_1 with q_1 | q_2
 rotate_left
 ·obtain ⟨rfl,hf⟩:=hk
  cases h
  exact ⟨st1,Sub.refl _ _,.inr rfl,hf⟩
 obtain ⟨rfl,hs⟩:=hk
 refine ⟨_,hs,?_⟩
 refine sr [] [2] [] 0 [Ii 0] [] zH an ?_
 refine rt ?_
 cases h
 exact ⟨.inr rfl,Nat.le_of_ble_eq_true rfl,by kernel_rfl⟩

theorem zDt (F:Nat) (t_1:zQ) (r:Int) (h:jA F t_1=some r):zW prog 47 [] [] [zG t_1] [] (Ii r):=by
 refine yK (fn:=Go.Proofs.Try.f47) (code:=xY Go.Proofs.Try.f47) (by kernel_rfl) (by kernel_rfl) (Nat.le_of_ble_eq_true (by kernel_rfl)) ?_
 unfold jA at h
 refine sr [(0,{ id:=0 })] [1] [0] 1 [Pp 0] [Vb 66 (z4 t_1)] zH an ?_
 refine sq ?_
 refine sq ?_
 refine wO (mk [(1,Pp 0),(20,.bool (decide (t_1.Id<(0:Int))||(decide (t_1.Id>(1000000000000000:Int))||(decide (t_1.Domain<(0:Int))||decide (t_1.Domain≥(8:Int))))))] [(0,Vb 66 (z4 t_1))] 1) ?_ ?_
 ·rcases bft (decide (t_1.Id<(0:Int))) with zL | zL
  ·refine rg [(4,Hg),(5,Hg),(6,Hg),(7,Ht),(9,Hg),(10,Hg),(11,Hg),(12,Ht),(14,Hg),(15,Hg),(16,Hg),(17,Ht)] [1,20] [0] 1 [Pp 0,.bool true] [Vb 66 (z4 t_1)] zH (ac zL (ac zL (ac zL (ac zL (ax (ax (ax (ar true (ax (ax (ax (ar true an)))))))))))) ?_
   exact ⟨rfl,(sw [0] [] [.s 1,.a 20 (.bool (decide (t_1.Id<(0:Int))||(decide (t_1.Id>(1000000000000000:Int))||(decide (t_1.Domain<(0:Int))||decide (t_1.Domain≥(8:Int))))))] [.s 0] (ac (congrArg AV.bool (ort zL):(.bool true:AV)=.bool (decide (t_1.Id<(0:Int))||(decide (t_1.Id>(1000000000000000:Int))||(decide (t_1.Domain<(0:Int))||decide (t_1.Domain≥(8:Int)))))) an))⟩
  ·rcases bft (decide (t_1.Id>(1000000000000000:Int))) with zJ | zJ
   ·refine rg [(7,Hf),(9,Hg),(10,Hg),(11,Hg),(12,Ht),(14,Hg),(15,Hg),(16,Hg),(17,Ht)] [1,20] [0] 1 [Pp 0,.bool true] [Vb 66 (z4 t_1)] zH (ac zL (ac zL (ac zL (ac zL (ac zJ (ac zJ (ac zJ (ac zJ (ax (ax (ax (ar true an)))))))))))) ?_
    exact ⟨rfl,(sw [0] [] [.s 1,.a 20 (.bool (decide (t_1.Id<(0:Int))||(decide (t_1.Id>(1000000000000000:Int))||(decide (t_1.Domain<(0:Int))||decide (t_1.Domain≥(8:Int))))))] [.s 0] (ac (congrArg AV.bool (orf zL (ort zJ)):(.bool true:AV)=.bool (decide (t_1.Id<(0:Int))||(decide (t_1.Id>(1000000000000000:Int))||(decide (t_1.Domain<(0:Int))||decide (t_1.Domain≥(8:Int)))))) an))⟩
   ·rcases bft (decide (t_1.Domain<(0:Int))) with zV | zV
    ·refine rg [(7,Hf),(12,Hf),(14,Hg),(15,Hg),(16,Hg),(17,Ht)] [1,20] [0] 1 [Pp 0,.bool true] [Vb 66 (z4 t_1)] zH (ac zL (ac zL (ac zL (ac zL (ac zJ (ac zJ (ac zJ (ac zJ (ac zV (ac zV (ac zV (ac zV an)))))))))))) ?_
     exact ⟨rfl,(sw [0] [] [.s 1,.a 20 (.bool (decide (t_1.Id<(0:Int))||(decide (t_1.Id>(1000000000000000:Int))||(decide (t_1.Domain<(0:Int))||decide (t_1.Domain≥(8:Int))))))] [.s 0] (ac (congrArg AV.bool (orf zL (orf zJ (ort zV))):(.bool true:AV)=.bool (decide (t_1.Id<(0:Int))||(decide (t_1.Id>(1000000000000000:Int))||(decide (t_1.Domain<(0:Int))||decide (t_1.Domain≥(8:Int)))))) an))⟩
    ·refine rg [(7,Hf),(12,Hf),(17,Hf)] [1,20] [0] 1 [Pp 0,.bool (decide (t_1.Domain≥(8:Int)))] [Vb 66 (z4 t_1)] zH (ac zL (ac zL (ac zL (ac zL (ac zJ (ac zJ (ac zJ (ac zJ (ac zV (ac zV (ac zV (ac zV an)))))))))))) ?_
     exact ⟨rfl,(sw [0] [] [.s 1,.a 20 (.bool (decide (t_1.Id<(0:Int))||(decide (t_1.Id>(1000000000000000:Int))||(decide (t_1.Domain<(0:Int))||decide (t_1.Domain≥(8:Int))))))] [.s 0] (ac (congrArg AV.bool (orf zL (orf zJ (orf zV rfl))):(.bool (decide (t_1.Domain≥(8:Int))):AV)=.bool (decide (t_1.Id<(0:Int))||(decide (t_1.Id>(1000000000000000:Int))||(decide (t_1.Domain<(0:Int))||decide (t_1.Domain≥(8:Int)))))) an))⟩
 refine cd 20 (decide (t_1.Id<(0:Int))||(decide (t_1.Id>(1000000000000000:Int))||(decide (t_1.Domain<(0:Int))||decide (t_1.Domain≥(8:Int))))) ?_ ?_
 ·intro g_1;replace h:=zT g_1 h
  refine sr [] [2] [] 1 [Ii 2] [] zH an ?_
  refine rt ?_
  cases h
  exact ⟨.inr rfl,Nat.le_of_ble_eq_true rfl,by kernel_rfl⟩
 intro g_1;replace h:=zU g_1 h
 refine sk ?_
 refine sq ?_
 obtain ⟨r_1,h_1,h⟩:=bind_some h
 refine rg [(2,{ av:=Ii r_1,l:=[.str t_1.Name] })] [2] [] 1 [Ii r_1] [] zH (ar ([.str t_1.Name]:List AV) (ac (rfl:([]:List zO)=[]) (ac (zAL F t_1.Name r_1 h_1:zW prog 64 [] [] [.str t_1.Name] [] (Ii r_1)) an))) ?_
 refine rt ?_
 cases h
 exact ⟨.inr rfl,Nat.le_of_ble_eq_true rfl,by kernel_rfl⟩

theorem zER (x_1:zM) (a_1:Int) (r:Bool) (h:nI x_1 a_1=some r):zW prog 87 [(.var 3 [Ii a_1])] [] [zD x_1,Pp 0] [(.var 3 [Ii a_1])] (.bool r):=by
 refine yK (fn:=Go.Proofs.Try.f87) (code:=xY Go.Proofs.Try.f87) (by kernel_rfl) (by kernel_rfl) (Nat.le_of_ble_eq_true (by kernel_rfl)) ?_
 unfold nI at h
 refine sr [(0,{ id:=1 })] [1,2] [0,1] 2 [Pp 0,Pp 1] [Vb 3 [Ii a_1],Vb 68 (uD x_1)] zH an ?_
 refine sr [] [3] [0] 2 [.bool (x_1.Id==a_1)] [Vb 3 [Ii a_1]] zH an ?_
 refine wk [0] [] [.s 3] [.s 0] [(3,.bool (x_1.Id==a_1))] [(0,Vb 3 [Ii a_1])] an ?_
 refine rt ?_
 cases h
 exact ⟨.inr rfl,Nat.le_of_ble_eq_true rfl,by kernel_rfl⟩

theorem tD (F:Nat) (s_1:List (zM)) (c_1:Int) (r:Int) (h:xH F s_1 c_1=some r):zW prog 67 [(.var 3 [Ii c_1])] [] [.sl false 2 (Mp zD s_1),.fn 87 [Pp 0]] [(.var 3 [Ii c_1])] (Ii r):=by
 refine yK (fn:=Go.Proofs.Try.f67) (code:=xY Go.Proofs.Try.f67) (by kernel_rfl) (by kernel_rfl) (Nat.le_of_ble_eq_true (by kernel_rfl)) ?_
 unfold xH at h
 refine sr [] [0,1] [0] 1 [.sl false 2 (Mp zD s_1),.fn 87 [Pp 0]] [Vb 3 [Ii c_1]] zH an ?_
 refine sq ?_
 refine sr [(1,{ n:=(s_1).length })] [0,1,7,8] [0] 1 [.sl false 2 (Mp zD s_1),.fn 87 [Pp 0],Ii (lN (s_1)),Ii 0] [Vb 3 [Ii c_1]] zH (ac (yH _:((Mp zD s_1)).length=(s_1).length) an) ?_
 obtain ⟨o_1,h_1,h⟩:=bind_some h
 refine uR (K1:=(fun e st'=>match o_1 with | (.inl q0)=>e=.normal∧Sub 1 st' (mk [] [(0,Vb 3 [Ii c_1])] 1) | (.inr q1)=>e=.ret∧kO prog Go.Proofs.Try.f67 1 [(.var 3 [Ii c_1])] (Ii q1) st')) ?_ ?_
 ·replace h:=h_1
  refine yU (id:=0) (by kernel_rfl) ?_
  refine wk [0] [] [.s 0,.s 1,.s 7,.s 8] [.s 0] [(0,.sl false 2 (Mp zD s_1)),(1,.fn 87 [Pp 0]),(7,Ii (lN (s_1))),(8,Ii 0)] [(0,Vb 3 [Ii c_1])] an ?_
  refine wT (fun n st=>∃ (v_1:Int),st=mk [(0,.sl false 2 (Mp zD s_1)),(1,.fn 87 [Pp 0]),(7,Ii (lN (s_1))),(8,Ii v_1)] [(0,Vb 3 [Ii c_1])] 1∧xD F s_1 c_1 n v_1=some o_1) F (by kernel_rfl) ⟨_,rfl,h⟩ ?_ ?_
  ·rintro _ ⟨_,_,h⟩;exact wV (h:(none:Option (Unit⊕Int))=some o_1)
  rintro n_1 _ ⟨v_1,rfl,h⟩
  replace h:yQ F s_1 c_1 (xD F s_1 c_1 n_1) v_1=some o_1:=h
  unfold yQ at h
  refine sr [] [0,1,7,8,9] [0] 1 [.sl false 2 (Mp zD s_1),.fn 87 [Pp 0],Ii (lN (s_1)),Ii v_1,.bool (decide (v_1<(lN (s_1))))] [Vb 3 [Ii c_1]] zH an ?_
  refine sq ?_
  refine cd 9 (decide (v_1<(lN (s_1)))) ?_ ?_
  rotate_left
  ·intro g_1;replace h:=zU g_1 h
   refine w5 (id:=0) (by kernel_rfl) ?_
   cases h
   exact ⟨rfl,(sw [0] [] [] [.s 0] an)⟩
  intro g_1;replace h:=zT g_1 h
  refine sk ?_
  refine sq ?_
  refine yU (id:=1) (by kernel_rfl) ?_
  refine sr [] [0,1,5,7,8] [0] 1 [.sl false 2 (Mp zD s_1),.fn 87 [Pp 0],Ii v_1,Ii (lN (s_1)),Ii v_1] [Vb 3 [Ii c_1]] zH an ?_
  refine sq ?_
  obtain ⟨x_1,h_2,h⟩:=bind_some h
  obtain ⟨r_1,h_3,h⟩:=bind_some h
  refine rg [(3,{ av:=zD x_1 }),(5,{ av:=.bool r_1,ids:=[0],l:=[zD x_1,Pp 0],post:=[(.var 3 [Ii c_1])],pre:=[(.var 3 [Ii c_1])] })] [0,1,5,7,8,16] [0] 1 [.sl false 2 (Mp zD s_1),.fn 87 [Pp 0],Ii v_1,Ii (lN (s_1)),Ii v_1,.bool r_1] [Vb 3 [Ii c_1]] zH (ac (wI h_2:vA (Mp zD s_1) v_1=some (zD x_1)) (ar ([zD x_1,Pp 0]:List AV) (ac (rfl:([Vb 3 [Ii c_1]]:List zO)=[Vb 3 [Ii c_1]]) (ac (zER x_1 c_1 r_1 h_3:zW prog 87 [(.var 3 [Ii c_1])] [] [zD x_1,Pp 0] [(.var 3 [Ii c_1])] (.bool r_1)) an)))) ?_
  refine cd 16 r_1 ?_ ?_
  rotate_left
  ·intro g_2;replace h:=zU g_2 h
   refine sk ?_
   refine rg [] [0,1,7,8] [0] 1 [.sl false 2 (Mp zD s_1),.fn 87 [Pp 0],Ii (lN (s_1)),Ii (zK (v_1+(1:Int)))] [Vb 3 [Ii c_1]] zH an ?_
   exact ⟨_,(sw [0] [] [.s 0,.s 1,.s 7,.s 8] [.s 0] an),_,rfl,h⟩
  intro g_2;replace h:=zT g_2 h
  refine sr [] [4] [0] 1 [Ii v_1] [Vb 3 [Ii c_1]] zH an ?_
  refine wk [0] [] [.s 4] [.s 0] [(4,Ii v_1)] [(0,Vb 3 [Ii c_1])] an ?_
  refine rt ?_
  cases h
  exact ⟨rfl,Nat.le_of_ble_eq_true rfl,by kernel_rfl⟩
 intro e st1 hk
 rcases o_1 with q_1 | q_2
 rotate_left
 ·obtain ⟨rfl,hf⟩:=hk
  cases h
  exact ⟨st1,Sub.refl _ _,.inr rfl,hf⟩
 obtain ⟨rfl,hs⟩:=hk
 refine ⟨_,hs,?_⟩
 refine sr [] [4] [0] 1 [Ii (-1)] [Vb 3 [Ii c_1]] zH an ?_
 refine wk [0] [] [.s 4] [.s 0] [(4,Ii (-1))] [(0,Vb 3 [Ii c_1])] an ?_
 refine rt ?_
 cases h
 exact ⟨.inr rfl,Nat.le_of_ble_eq_true rfl,by kernel_rfl⟩

theorem zAx (F:Nat) (d_1:List (zM)) (x4:Int) (r:Int) (h:jH F d_1 x4=some r):zW prog 76 [] [] [.sl false 2 (Mp zD d_1),Ii x4] [] (Ii r):=by
 refine yK (fn:=Go.Proofs.Try.f76) (code:=xY Go.Proofs.Try.f76) (by kernel_rfl) (by kernel_rfl) (Nat.le_of_ble_eq_true (by kernel_rfl)) ?_
 unfold jH at h
 refine sr [(0,{ id:=0 })] [0,3] [0] 1 [.sl false 2 (Mp zD d_1),Pp 0] [Vb 3 [Ii x4]] zH an ?_
 refine sq ?_
 obtain ⟨r_1,h_1,h⟩:=bind_some h
 refine rg [(2,{ av:=Ii r_1,ids:=[0],l:=[.sl false 2 (Mp zD d_1),.fn 87 [Pp 0]],post:=[(.var 3 [Ii x4])],pre:=[(.var 3 [Ii x4])] })] [4] [] 1 [Ii r_1] [] zH (ar ([.sl false 2 (Mp zD d_1),.fn 87 [Pp 0]]:List AV) (ac (rfl:([Vb 3 [Ii x4]]:List zO)=[Vb 3 [Ii x4]]) (ac (tD F d_1 x4 r_1 h_1:zW prog 67 [(.var 3 [Ii x4])] [] [.sl false 2 (Mp zD d_1),.fn 87 [Pp 0]] [(.var 3 [Ii x4])] (Ii r_1)) an))) ?_
 refine rt ?_
 cases h
 exact ⟨.inr rfl,Nat.le_of_ble_eq_true rfl,by kernel_rfl⟩

theorem zEp (F:Nat) (d_1:List (zM)) (r:Int) (h:kF F d_1=some r):zW prog 65 [] [] [.sl false 2 (Mp zD d_1)] [] (Ii r):=by
 refine yK (fn:=Go.Proofs.Try.f65) (code:=xY Go.Proofs.Try.f65) (by kernel_rfl) (by kernel_rfl) (Nat.le_of_ble_eq_true (by kernel_rfl)) ?_
 unfold kF at h
 refine sr [] [0] [] 0 [.sl false 2 (Mp zD d_1)] [] zH an ?_
 refine sq ?_
 refine sr [(1,{ n:=(d_1).length })] [0,5,6,7] [] 0 [.sl false 2 (Mp zD d_1),.sl false 2 (Mp zD d_1),Ii (lN (d_1)),Ii 0] [] zH (ac (yH _:((Mp zD d_1)).length=(d_1).length) an) ?_
 obtain ⟨o_1,h_1,h⟩:=bind_some h
 refine uR (K1:=(fun e st'=>match o_1 with | (.inl q0)=>e=.normal∧Sub 0 st' (mk [] [] 0) | (.inr q1)=>e=.ret∧kO prog Go.Proofs.Try.f65 0 [] (Ii q1) st')) ?_ ?_
 ·replace h:=h_1
  refine yU (id:=0) (by kernel_rfl) ?_
  refine wk [] [] [.s 0,.s 5,.s 6,.s 7] [] [(0,.sl false 2 (Mp zD d_1)),(5,.sl false 2 (Mp zD d_1)),(6,Ii (lN (d_1))),(7,Ii 0)] [] an ?_
  refine wT (fun n st=>∃ (v_1:Int),st=mk [(0,.sl false 2 (Mp zD d_1)),(5,.sl false 2 (Mp zD d_1)),(6,Ii (lN (d_1))),(7,Ii v_1)] [] 0∧qS F d_1 n v_1=some o_1) F (by kernel_rfl) ⟨_,rfl,h⟩ ?_ ?_
  ·rintro _ ⟨_,_,h⟩;exact wV (h:(none:Option (Unit⊕Int))=some o_1)
  rintro n_1 _ ⟨v_1,rfl,h⟩
  replace h:v3 F d_1 (qS F d_1 n_1) v_1=some o_1:=h
  unfold v3 at h
  refine sr [] [0,5,6,7,8] [] 0 [.sl false 2 (Mp zD d_1),.sl false 2 (Mp zD d_1),Ii (lN (d_1)),Ii v_1,.bool (decide (v_1<(lN (d_1))))] [] zH an ?_
  refine sq ?_
  refine cd 8 (decide (v_1<(lN (d_1)))) ?_ ?_
  rotate_left
  ·intro g_1;replace h:=zU g_1 h
   refine w5 (id:=0) (by kernel_rfl) ?_
   cases h
   exact ⟨rfl,(sw [] [] [] [] an)⟩
  intro g_1;replace h:=zT g_1 h
  refine sk ?_
  refine sq ?_
  refine yU (id:=1) (by kernel_rfl) ?_
  refine sq ?_
  obtain ⟨x_1,h_2,h⟩:=bind_some h
  refine rg [(1,{ av:=zD x_1 }),(3,{ id:=0 })] [0,3,4,5,6,7] [0] 1 [.sl false 2 (Mp zD d_1),Ii v_1,Pp 0,.sl false 2 (Mp zD d_1),Ii (lN (d_1)),Ii v_1] [Vb 68 (uD x_1)] zH (ac (wI h_2:vA (Mp zD d_1) v_1=some (zD x_1)) an) ?_
  refine sq ?_
  refine sq ?_
  refine wO (mk [(0,.sl false 2 (Mp zD d_1)),(3,Ii v_1),(4,Pp 0),(5,.sl false 2 (Mp zD d_1)),(6,Ii (lN (d_1))),(7,Ii v_1),(29,.bool (decide (x_1.Id<(0:Int))||(decide (x_1.Id≥(8:Int))||(decide (x_1.Ppm<(0:Int))||decide (x_1.Ppm>(10000:Int))))))] [(0,Vb 68 (uD x_1))] 1) ?_ ?_
  ·rcases bft (decide (x_1.Id<(0:Int))) with x7 | x7
   ·refine rg [(4,Hg),(5,Hg),(6,Hg),(7,Ht),(9,Hg),(10,Hg),(11,Hg),(12,Ht),(14,Hg),(15,Hg),(16,Hg),(17,Ht)] [0,3,4,5,6,7,16,17,18,21,22,23,26,27,28,29] [0] 1 [.sl false 2 (Mp zD d_1),Ii v_1,Pp 0,.sl false 2 (Mp zD d_1),Ii (lN (d_1)),Ii v_1,.tuple [],.tuple [],.tuple [],.tuple [],.tuple [],.tuple [],.tuple [],.tuple [],.tuple [],.bool true] [Vb 68 (uD x_1)] zH (ac x7 (ac x7 (ac x7 (ac x7 (ax (ax (ax (ar true (ax (ax (ax (ar true an)))))))))))) ?_
    exact ⟨rfl,(sw [0] [] [.s 0,.s 3,.s 4,.s 5,.s 6,.s 7,.a 29 (.bool (decide (x_1.Id<(0:Int))||(decide (x_1.Id≥(8:Int))||(decide (x_1.Ppm<(0:Int))||decide (x_1.Ppm>(10000:Int))))))] [.s 0] (ac (congrArg AV.bool (ort x7):(.bool true:AV)=.bool (decide (x_1.Id<(0:Int))||(decide (x_1.Id≥(8:Int))||(decide (x_1.Ppm<(0:Int))||decide (x_1.Ppm>(10000:Int)))))) an))⟩
   ·rcases bft (decide (x_1.Id≥(8:Int))) with wM | wM
    ·refine rg [(7,Hf),(9,Hg),(10,Hg),(11,Hg),(12,Ht),(14,Hg),(15,Hg),(16,Hg),(17,Ht)] [0,3,4,5,6,7,16,17,18,21,22,23,26,27,28,29] [0] 1 [.sl false 2 (Mp zD d_1),Ii v_1,Pp 0,.sl false 2 (Mp zD d_1),Ii (lN (d_1)),Ii v_1,Pp 0,Ii x_1.Id,.bool (decide (x_1.Id≥(8:Int))),.tuple [],.tuple [],.tuple [],.tuple [],.tuple [],.tuple [],.bool true] [Vb 68 (uD x_1)] zH (ac x7 (ac x7 (ac x7 (ac x7 (ac wM (ac wM (ac wM (ac wM (ax (ax (ax (ar true an)))))))))))) ?_
     exact ⟨rfl,(sw [0] [] [.s 0,.s 3,.s 4,.s 5,.s 6,.s 7,.a 29 (.bool (decide (x_1.Id<(0:Int))||(decide (x_1.Id≥(8:Int))||(decide (x_1.Ppm<(0:Int))||decide (x_1.Ppm>(10000:Int))))))] [.s 0] (ac (congrArg AV.bool (orf x7 (ort wM)):(.bool true:AV)=.bool (decide (x_1.Id<(0:Int))||(decide (x_1.Id≥(8:Int))||(decide (x_1.Ppm<(0:Int))||decide (x_1.Ppm>(10000:Int)))))) an))⟩
    ·rcases bft (decide (x_1.Ppm<(0:Int))) with wZ | wZ
     ·refine rg [(7,Hf),(12,Hf),(14,Hg),(15,Hg),(16,Hg),(17,Ht)] [0,3,4,5,6,7,16,17,18,21,22,23,26,27,28,29] [0] 1 [.sl false 2 (Mp zD d_1),Ii v_1,Pp 0,.sl false 2 (Mp zD d_1),Ii (lN (d_1)),Ii v_1,Pp 0,Ii x_1.Id,.bool (decide (x_1.Id≥(8:Int))),.ptr 0 0 0 1,Ii x_1.Ppm,.bool (decide (x_1.Ppm<(0:Int))),.tuple [],.tuple [],.tuple [],.bool true] [Vb 68 (uD x_1)] zH (ac x7 (ac x7 (ac x7 (ac x7 (ac wM (ac wM (ac wM (ac wM (ac wZ (ac wZ (ac wZ (ac wZ an)))))))))))) ?_
      exact ⟨rfl,(sw [0] [] [.s 0,.s 3,.s 4,.s 5,.s 6,.s 7,.a 29 (.bool (decide (x_1.Id<(0:Int))||(decide (x_1.Id≥(8:Int))||(decide (x_1.Ppm<(0:Int))||decide (x_1.Ppm>(10000:Int))))))] [.s 0] (ac (congrArg AV.bool (orf x7 (orf wM (ort wZ))):(.bool true:AV)=.bool (decide (x_1.Id<(0:Int))||(decide (x_1.Id≥(8:Int))||(decide (x_1.Ppm<(0:Int))||decide (x_1.Ppm>(10000:Int)))))) an))⟩
     ·refine rg [(7,Hf),(12,Hf),(17,Hf)] [0,3,4,5,6,7,16,17,18,21,22,23,26,27,28,29] [0] 1 [.sl false 2 (Mp zD d_1),Ii v_1,Pp 0,.sl false 2 (Mp zD d_1),Ii (lN (d_1)),Ii v_1,Pp 0,Ii x_1.Id,.bool (decide (x_1.Id≥(8:Int))),.ptr 0 0 0 1,Ii x_1.Ppm,.bool (decide (x_1.Ppm<(0:Int))),.ptr 0 0 0 1,Ii x_1.Ppm,.bool (decide (x_1.Ppm>(10000:Int))),.bool (decide (x_1.Ppm>(10000:Int)))] [Vb 68 (uD x_1)] zH (ac x7 (ac x7 (ac x7 (ac x7 (ac wM (ac wM (ac wM (ac wM (ac wZ (ac wZ (ac wZ (ac wZ an)))))))))))) ?_
      exact ⟨rfl,(sw [0] [] [.s 0,.s 3,.s 4,.s 5,.s 6,.s 7,.a 29 (.bool (decide (x_1.Id<(0:Int))||(decide (x_1.Id≥(8:Int))||(decide (x_1.Ppm<(0:Int))||decide (x_1.Ppm>(10000:Int))))))] [.s 0] (ac (congrArg AV.bool (orf x7 (orf wM (orf wZ rfl))):(.bool (decide (x_1.Ppm>(10000:Int))):AV)=.bool (decide (x_1.Id<(0:Int))||(decide (x_1.Id≥(8:Int))||(decide (x_1.Ppm<(0:Int))||decide (x_1.Ppm>(10000:Int)))))) an))⟩
  refine cd 29 (decide (x_1.Id<(0:Int))||(decide (x_1.Id≥(8:Int))||(decide (x_1.Ppm<(0:Int))||decide (x_1.Ppm>(10000:Int))))) ?_ ?_
  ·intro g_2;replace h:=zT g_2 h
   refine sr [] [2] [] 1 [Ii 2] [] zH an ?_
   refine rt ?_
   cases h
   exact ⟨rfl,Nat.le_of_ble_eq_true rfl,by kernel_rfl⟩
  intro g_2;replace h:=zU g_2 h
  refine sk ?_
  refine sq ?_
  obtain ⟨_,h_3,h⟩:=bind_some h;replace h_3:=wS h_3
  obtain ⟨r_1,h_4,h⟩:=bind_some h
  refine rg [(2,{ l:=(Mp zD (sub d_1 (0:Int) v_1)) }),(5,{ av:=Ii r_1,l:=[.sl false 2 (Mp zD (sub d_1 (0:Int) v_1)),Ii x_1.Id] })] [0,5,6,7,36] [] 1 [.sl false 2 (Mp zD d_1),.sl false 2 (Mp zD d_1),Ii (lN (d_1)),Ii v_1,.bool (decide (r_1≥(0:Int)))] [] zH (ac (by decide:(0:Int)≤(0:Int)) (ac h_3.1 (ac (zBU h_3.2:v_1≤(lN ((Mp zD d_1)))) (ac (zIr _ _ _:(Mp zD (sub d_1 (0:Int) v_1))=(((Mp zD d_1)).take (v_1).toNat).drop ((0:Int)).toNat) (ar ([.sl false 2 (Mp zD (sub d_1 (0:Int) v_1)),Ii x_1.Id]:List AV) (ac (rfl:([]:List zO)=[]) (ac (zAx F (sub d_1 (0:Int) v_1) x_1.Id r_1 h_4:zW prog 76 [] [] [.sl false 2 (Mp zD (sub d_1 (0:Int) v_1)),Ii x_1.Id] [] (Ii r_1)) an))))))) ?_
  refine cd 36 (decide (r_1≥(0:Int))) ?_ ?_
  rotate_left
  ·intro g_3;replace h:=zU g_3 h
   refine sk ?_
   refine rg [] [0,5,6,7] [] 1 [.sl false 2 (Mp zD d_1),.sl false 2 (Mp zD d_1),Ii (lN (d_1)),Ii (zK (v_1+(1:Int)))] [] zH an ?_
   exact ⟨_,(sw [] [] [.s 0,.s 5,.s 6,.s 7] [] an),_,rfl,h⟩
  intro g_3;replace h:=zT g_3 h
  refine sr [] [2] [] 1 [Ii 4] [] zH an ?_
  refine rt ?_
  cases h
  exact ⟨rfl,Nat.le_of_ble_eq_true rfl,by kernel_rfl⟩
 intro e st1 hk
 rcases o_1 with q_1 | q_2
 rotate_left
 ·obtain ⟨rfl,hf⟩:=hk
  cases h
  exact ⟨st1,Sub.refl _ _,.inr rfl,hf⟩
 obtain ⟨rfl,hs⟩:=hk
 refine ⟨_,hs,?_⟩
 refine sr [] [2] [] 0 [Ii 0] [] zH an ?_
 refine rt ?_
 cases h
 exact ⟨.inr rfl,Nat.le_of_ble_eq_true rfl,by kernel_rfl⟩

theorem nP (n_1:Int) (r:Bool) (h:qX n_1=some r):zW prog 77 [] [] [Ii n_1] [] (.bool r):=by
 refine yK (fn:=Go.Proofs.Try.f77) (code:=xY Go.Proofs.Try.f77) (by kernel_rfl) (by kernel_rfl) (Nat.le_of_ble_eq_true (by kernel_rfl)) ?_
 unfold qX at h
 refine sr [] [0] [] 0 [Ii n_1] [] zH an ?_
 refine sq ?_
 refine wO (mk [(2,.bool (decide (n_1≥(0:Int))&&decide (n_1≤(1000000000000:Int))))] [] 0) ?_ ?_
 ·rcases bft (decide (n_1≥(0:Int))) with zL | zL
  ·refine rg [(5,Ht)] [2] [] 0 [.bool (decide (n_1≤(1000000000000:Int)))] [] zH (ac zL (ac zL (ac zL an))) ?_
   exact ⟨rfl,(sw [] [] [.a 2 (.bool (decide (n_1≥(0:Int))&&decide (n_1≤(1000000000000:Int))))] [] (ac (congrArg AV.bool (t3 zL rfl):(.bool (decide (n_1≤(1000000000000:Int))):AV)=.bool (decide (n_1≥(0:Int))&&decide (n_1≤(1000000000000:Int)))) an))⟩
  ·refine rg [(3,Hg),(4,Hg),(5,Hf)] [2] [] 0 [.bool false] [] zH (ac zL (ac zL (ac zL an))) ?_
   exact ⟨rfl,(sw [] [] [.a 2 (.bool (decide (n_1≥(0:Int))&&decide (n_1≤(1000000000000:Int))))] [] (ac (congrArg AV.bool (zBe zL):(.bool false:AV)=.bool (decide (n_1≥(0:Int))&&decide (n_1≤(1000000000000:Int)))) an))⟩
 refine rt ?_
 cases h
 exact ⟨.inr rfl,Nat.le_of_ble_eq_true rfl,by kernel_rfl⟩

theorem zG8 (F:Nat) (d_1:List (zM)) (x_1:yC) (r:Int) (h:zAn F d_1 x_1=some r):zW prog 66 [] [] [.sl false 2 (Mp zD d_1),zF x_1] [] (Ii r):=by
 refine yK (fn:=Go.Proofs.Try.f66) (code:=xY Go.Proofs.Try.f66) (by kernel_rfl) (by kernel_rfl) (Nat.le_of_ble_eq_true (by kernel_rfl)) ?_
 unfold zAn at h
 refine sr [(0,{ id:=0 })] [0,3] [0] 1 [.sl false 2 (Mp zD d_1),Pp 0] [Vb 86 (uN x_1)] zH an ?_
 refine sq ?_
 refine yU (id:=0) (by kernel_rfl) ?_
 refine sq ?_
 refine sq ?_
 obtain ⟨r_1,h_1,h⟩:=bind_some h
 refine rg [(3,{ av:=Ii r_1,l:=[.sl false 2 (Mp zD d_1),Ii x_1.A] })] [0,3,5] [0] 1 [.sl false 2 (Mp zD d_1),Pp 0,.bool (decide (r_1<(0:Int)))] [Vb 86 (uN x_1)] zH (ar ([.sl false 2 (Mp zD d_1),Ii x_1.A]:List AV) (ac (rfl:([]:List zO)=[]) (ac (zAx F d_1 x_1.A r_1 h_1:zW prog 76 [] [] [.sl false 2 (Mp zD d_1),Ii x_1.A] [] (Ii r_1)) an))) ?_
 obtain ⟨o_1,h_2,h⟩:=bind_some h
 refine wO (mk [(3,Pp 0),(5,.bool o_1)] [(0,Vb 86 (uN x_1))] 1) ?_ ?_
 ·replace h:=h_2
  refine cd 5 (decide (r_1<(0:Int))) ?_ ?_
  ·intro g_1;replace h:=zT g_1 h
   refine sk ?_
   cases h
   exact ⟨rfl,(sw [0] [] [.s 3,.s 5] [.s 0] an)⟩
  intro g_1;replace h:=zU g_1 h
  obtain ⟨r_2,h_3,h⟩:=bind_some h
  refine rg [(3,{ av:=Ii r_2,l:=[.sl false 2 (Mp zD d_1),Ii x_1.B] })] [3,5] [0] 1 [Pp 0,.bool (decide (r_2<(0:Int)))] [Vb 86 (uN x_1)] zH (ar ([.sl false 2 (Mp zD d_1),Ii x_1.B]:List AV) (ac (rfl:([]:List zO)=[]) (ac (zAx F d_1 x_1.B r_2 h_3:zW prog 76 [] [] [.sl false 2 (Mp zD d_1),Ii x_1.B] [] (Ii r_2)) an))) ?_
  cases h
  exact ⟨rfl,(sw [0] [] [.s 3,.s 5] [.s 0] an)⟩
 refine cd 5 o_1 ?_ ?_
 ·intro g_2;replace h:=zT g_2 h
  refine sr [] [4] [] 1 [Ii 5] [] zH an ?_
  refine rt ?_
  cases h
  exact ⟨.inr rfl,Nat.le_of_ble_eq_true rfl,by kernel_rfl⟩
 intro g_2;replace h:=zU g_2 h
 refine sr [] [3,16] [0] 1 [Pp 0,.bool (x_1.A==x_1.B)] [Vb 86 (uN x_1)] zH an ?_
 refine cd 16 (x_1.A==x_1.B) ?_ ?_
 ·intro g_3;replace h:=zT g_3 h
  refine sr [] [4] [] 1 [Ii 1] [] zH an ?_
  refine rt ?_
  cases h
  exact ⟨.inr rfl,Nat.le_of_ble_eq_true rfl,by kernel_rfl⟩
 intro g_3;replace h:=zU g_3 h
 refine sq ?_
 refine sq ?_
 obtain ⟨r_3,h_4,h⟩:=bind_some h
 refine rg [(2,{ av:=.bool r_3,l:=[Ii x_1.AtA] })] [3,22] [0] 1 [Pp 0,.bool (!r_3)] [Vb 86 (uN x_1)] zH (ar ([Ii x_1.AtA]:List AV) (ac (rfl:([]:List zO)=[]) (ac (nP x_1.AtA r_3 h_4:zW prog 77 [] [] [Ii x_1.AtA] [] (.bool r_3)) an))) ?_
 refine cd 22 (!r_3) ?_ ?_
 ·intro g_4;replace h:=zT g_4 h
  refine sk ?_
  refine cd 22 (!r_3) ?_ ?_
  rotate_left
  ·intro hg;exact Bool.noConfusion ((g_4).symm.trans hg)
  intro _
  refine sr [] [4] [] 1 [Ii 2] [] zH an ?_
  refine rt ?_
  cases h
  exact ⟨.inr rfl,Nat.le_of_ble_eq_true rfl,by kernel_rfl⟩
 intro g_4;replace h:=zU g_4 h
 refine sq ?_
 obtain ⟨r_4,h_5,h⟩:=bind_some h
 refine rg [(3,{ av:=.bool r_4,l:=[Ii x_1.AtB.Lo] })] [3,22] [0] 1 [Pp 0,.bool (!r_4)] [Vb 86 (uN x_1)] zH (ar ([Ii x_1.AtB.Lo]:List AV) (ac (rfl:([]:List zO)=[]) (ac (nP x_1.AtB.Lo r_4 h_5:zW prog 77 [] [] [Ii x_1.AtB.Lo] [] (.bool r_4)) an))) ?_
 refine cd 22 (!r_4) ?_ ?_
 ·intro g_5;replace h:=zT g_5 h
  refine sk ?_
  refine cd 22 (!r_4) ?_ ?_
  rotate_left
  ·intro hg;exact Bool.noConfusion ((g_5).symm.trans hg)
  intro _
  refine sr [] [4] [] 1 [Ii 2] [] zH an ?_
  refine rt ?_
  cases h
  exact ⟨.inr rfl,Nat.le_of_ble_eq_true rfl,by kernel_rfl⟩
 intro g_5;replace h:=zU g_5 h
 refine sq ?_
 obtain ⟨r_5,h_6,h⟩:=bind_some h
 refine rg [(3,{ av:=.bool r_5,l:=[Ii x_1.AtB.Hi] })] [3,22] [0] 1 [Pp 0,.bool (!r_5)] [Vb 86 (uN x_1)] zH (ar ([Ii x_1.AtB.Hi]:List AV) (ac (rfl:([]:List zO)=[]) (ac (nP x_1.AtB.Hi r_5 h_6:zW prog 77 [] [] [Ii x_1.AtB.Hi] [] (.bool r_5)) an))) ?_
 refine cd 22 (!r_5) ?_ ?_
 ·intro g_6;replace h:=zT g_6 h
  refine sk ?_
  refine cd 22 (!r_5) ?_ ?_
  rotate_left
  ·intro hg;exact Bool.noConfusion ((g_6).symm.trans hg)
  intro _
  refine sr [] [4] [] 1 [Ii 2] [] zH an ?_
  refine rt ?_
  cases h
  exact ⟨.inr rfl,Nat.le_of_ble_eq_true rfl,by kernel_rfl⟩
 intro g_6;replace h:=zU g_6 h
 refine rg [] [22] [] 1 [.bool (decide (x_1.AtB.Lo>x_1.AtB.Hi))] [] zH an ?_
 refine cd 22 (decide (x_1.AtB.Lo>x_1.AtB.Hi)) ?_ ?_
 ·intro g_7;replace h:=zT g_7 h
  refine sr [] [4] [] 1 [Ii 2] [] zH an ?_
  refine rt ?_
  cases h
  exact ⟨.inr rfl,Nat.le_of_ble_eq_true rfl,by kernel_rfl⟩
 intro g_7;replace h:=zU g_7 h
 refine sk ?_
 refine sr [] [4] [] 1 [Ii 0] [] zH an ?_
 refine rt ?_
 cases h
 exact ⟨.inr rfl,Nat.le_of_ble_eq_true rfl,by kernel_rfl⟩

theorem zGf (F:Nat) (d_1:List (zM)) (l_1:List (yC)) (r:Int) (h:p0 F d_1 l_1=some r):zW prog 48 [] [] [.sl false 2 (Mp zD d_1),.sl false 5 (Mp zF l_1)] [] (Ii r):=by
 refine yK (fn:=Go.Proofs.Try.f48) (code:=xY Go.Proofs.Try.f48) (by kernel_rfl) (by kernel_rfl) (Nat.le_of_ble_eq_true (by kernel_rfl)) ?_
 unfold p0 at h
 refine sr [] [0,1] [] 0 [.sl false 2 (Mp zD d_1),.sl false 5 (Mp zF l_1)] [] zH an ?_
 refine sq ?_
 refine sr [(1,{ n:=(d_1).length })] [0,1,11] [] 0 [.sl false 2 (Mp zD d_1),.sl false 5 (Mp zF l_1),.bool ((lN (d_1))==(0:Int))] [] zH (ac (yH _:((Mp zD d_1)).length=(d_1).length) an) ?_
 refine cd 11 ((lN (d_1))==(0:Int)) ?_ ?_
 ·intro g_1;replace h:=zT g_1 h
  refine sr [] [4] [] 0 [Ii 8] [] zH an ?_
  refine rt ?_
  cases h
  exact ⟨.inr rfl,Nat.le_of_ble_eq_true rfl,by kernel_rfl⟩
 intro g_1;replace h:=zU g_1 h
 refine sk ?_
 refine sq ?_
 refine sq ?_
 refine wO (mk [(0,.sl false 2 (Mp zD d_1)),(1,.sl false 5 (Mp zF l_1)),(19,.bool (decide ((lN (d_1))>(8:Int))||decide ((lN (l_1))>(200:Int))))] [] 0) ?_ ?_
 ·rcases bft (decide ((lN (d_1))>(8:Int))) with zL | zL
  ·refine rg [(1,{ n:=(d_1).length }),(4,Hg),(5,Hg),(6,Hg),(7,Ht)] [0,1,19] [] 0 [.sl false 2 (Mp zD d_1),.sl false 5 (Mp zF l_1),.bool true] [] zH (ac (yH _:((Mp zD d_1)).length=(d_1).length) (ac zL (ac zL (ac zL (ac zL an))))) ?_
   exact ⟨rfl,(sw [] [] [.s 0,.s 1,.a 19 (.bool (decide ((lN (d_1))>(8:Int))||decide ((lN (l_1))>(200:Int))))] [] (ac (congrArg AV.bool (ort zL):(.bool true:AV)=.bool (decide ((lN (d_1))>(8:Int))||decide ((lN (l_1))>(200:Int)))) an))⟩
  ·refine rg [(1,{ n:=(d_1).length }),(5,{ n:=(l_1).length }),(7,Hf)] [0,1,19] [] 0 [.sl false 2 (Mp zD d_1),.sl false 5 (Mp zF l_1),.bool (decide ((lN (l_1))>(200:Int)))] [] zH (ac (yH _:((Mp zD d_1)).length=(d_1).length) (ac zL (ac zL (ac (yH _:((Mp zF l_1)).length=(l_1).length) (ac zL (ac zL an)))))) ?_
   exact ⟨rfl,(sw [] [] [.s 0,.s 1,.a 19 (.bool (decide ((lN (d_1))>(8:Int))||decide ((lN (l_1))>(200:Int))))] [] (ac (congrArg AV.bool (orf zL rfl):(.bool (decide ((lN (l_1))>(200:Int))):AV)=.bool (decide ((lN (d_1))>(8:Int))||decide ((lN (l_1))>(200:Int)))) an))⟩
 refine cd 19 (decide ((lN (d_1))>(8:Int))||decide ((lN (l_1))>(200:Int))) ?_ ?_
 ·intro g_2;replace h:=zT g_2 h
  refine sr [] [4] [] 0 [Ii 7] [] zH an ?_
  refine rt ?_
  cases h
  exact ⟨.inr rfl,Nat.le_of_ble_eq_true rfl,by kernel_rfl⟩
 intro g_2;replace h:=zU g_2 h
 refine sk ?_
 refine sq ?_
 refine sq ?_
 obtain ⟨x_1,h_1,h⟩:=bind_some h
 refine rg [(1,{ av:=zD x_1 }),(4,{ b:=(decide (x_1=(⟨(0:Int),(0:Int)⟩:zM))),mks:=[.int .i64,.int .i64] })] [0,1,24] [] 0 [.sl false 2 (Mp zD d_1),.sl false 5 (Mp zF l_1),.bool (!(decide (x_1=(⟨(0:Int),(0:Int)⟩:zM))))] [] zH (ac (wI h_1:vA (Mp zD d_1) (0:Int)=some (zD x_1)) (ac (zJo:j9 prog 68 [.int .i64,.int .i64]) (ac (zAe (f:=zD) zBz x_1 (⟨(0:Int),(0:Int)⟩:zM):((decide (x_1=(⟨(0:Int),(0:Int)⟩:zM)))=true↔AV.agg [Ii x_1.Id,Ii x_1.Ppm]=AV.agg [Ii 0,Ii 0])) an))) ?_
 refine cd 24 (!(decide (x_1=(⟨(0:Int),(0:Int)⟩:zM)))) ?_ ?_
 ·intro g_3;replace h:=zT g_3 h
  refine sr [] [4] [] 0 [Ii 10] [] zH an ?_
  refine rt ?_
  cases h
  exact ⟨.inr rfl,Nat.le_of_ble_eq_true rfl,by kernel_rfl⟩
 intro g_3;replace h:=zU g_3 h
 refine sk ?_
 refine sq ?_
 refine sq ?_
 obtain ⟨r_1,h_2,h⟩:=bind_some h
 refine rg [(1,{ av:=Ii r_1,l:=[.sl false 2 (Mp zD d_1)] })] [0,1,5] [] 0 [.sl false 2 (Mp zD d_1),.sl false 5 (Mp zF l_1),Ii r_1] [] zH (ar ([.sl false 2 (Mp zD d_1)]:List AV) (ac (rfl:([]:List zO)=[]) (ac (zEp F d_1 r_1 h_2:zW prog 65 [] [] [.sl false 2 (Mp zD d_1)] [] (Ii r_1)) an))) ?_
 refine sr [] [0,1,5,28] [] 0 [.sl false 2 (Mp zD d_1),.sl false 5 (Mp zF l_1),Ii r_1,.bool (r_1 != (0:Int))] [] zH an ?_
 refine cd 28 (r_1 != (0:Int)) ?_ ?_
 ·intro g_4;replace h:=zT g_4 h
  refine sr [] [4] [] 0 [Ii r_1] [] zH an ?_
  refine rt ?_
  cases h
  exact ⟨.inr rfl,Nat.le_of_ble_eq_true rfl,by kernel_rfl⟩
 intro g_4;replace h:=zU g_4 h
 refine sk ?_
 refine sq ?_
 refine sr [(1,{ n:=(l_1).length })] [0,30,31,32] [] 0 [.sl false 2 (Mp zD d_1),.sl false 5 (Mp zF l_1),Ii (lN (l_1)),Ii 0] [] zH (ac (yH _:((Mp zF l_1)).length=(l_1).length) an) ?_
 obtain ⟨o_1,h_3,h⟩:=bind_some h
 refine uR (K1:=(fun e st'=>match o_1 with | (.inl q0)=>e=.normal∧Sub 0 st' (mk [] [] 0) | (.inr q1)=>e=.ret∧kO prog Go.Proofs.Try.f48 0 [] (Ii q1) st')) ?_ ?_
 ·replace h:=h_3
  refine yU (id:=0) (by kernel_rfl) ?_
  refine wk [] [] [.s 0,.s 30,.s 31,.s 32] [] [(0,.sl false 2 (Mp zD d_1)),(30,.sl false 5 (Mp zF l_1)),(31,Ii (lN (l_1))),(32,Ii 0)] [] an ?_
  refine wT (fun n st=>∃ (v_1:Int),st=mk [(0,.sl false 2 (Mp zD d_1)),(30,.sl false 5 (Mp zF l_1)),(31,Ii (lN (l_1))),(32,Ii v_1)] [] 0∧jO F d_1 l_1 n v_1=some o_1) F (by kernel_rfl) ⟨_,rfl,h⟩ ?_ ?_
  ·rintro _ ⟨_,_,h⟩;exact wV (h:(none:Option (Unit⊕Int))=some o_1)
  rintro n_1 _ ⟨v_1,rfl,h⟩
  replace h:uG F d_1 l_1 (jO F d_1 l_1 n_1) v_1=some o_1:=h
  unfold uG at h
  refine sr [] [0,30,31,32,33] [] 0 [.sl false 2 (Mp zD d_1),.sl false 5 (Mp zF l_1),Ii (lN (l_1)),Ii v_1,.bool (decide (v_1<(lN (l_1))))] [] zH an ?_
  refine sq ?_
  refine cd 33 (decide (v_1<(lN (l_1)))) ?_ ?_
  rotate_left
  ·intro g_5;replace h:=zU g_5 h
   refine w5 (id:=0) (by kernel_rfl) ?_
   cases h
   exact ⟨rfl,(sw [] [] [] [] an)⟩
  intro g_5;replace h:=zT g_5 h
  refine sk ?_
  refine sq ?_
  refine yU (id:=1) (by kernel_rfl) ?_
  refine sq ?_
  obtain ⟨x_2,h_4,h⟩:=bind_some h
  refine rg [(0,{ av:=zF x_2 }),(2,{ id:=0 })] [0,7,30,31,32] [0] 1 [.sl false 2 (Mp zD d_1),Pp 0,.sl false 5 (Mp zF l_1),Ii (lN (l_1)),Ii v_1] [Vb 86 (uN x_2)] zH (ac (wI h_4:vA (Mp zF l_1) v_1=some (zF x_2)) an) ?_
  refine sq ?_
  obtain ⟨r_2,h_5,h⟩:=bind_some h
  refine rg [(2,{ av:=Ii r_2,l:=[.sl false 2 (Mp zD d_1),zF x_2] })] [0,8,30,31,32] [] 1 [.sl false 2 (Mp zD d_1),Ii r_2,.sl false 5 (Mp zF l_1),Ii (lN (l_1)),Ii v_1] [] zH (ar ([.sl false 2 (Mp zD d_1),zF x_2]:List AV) (ac (rfl:([]:List zO)=[]) (ac (zG8 F d_1 x_2 r_2 h_5:zW prog 66 [] [] [.sl false 2 (Mp zD d_1),zF x_2] [] (Ii r_2)) an))) ?_
  refine sr [] [0,8,30,31,32,40] [] 1 [.sl false 2 (Mp zD d_1),Ii r_2,.sl false 5 (Mp zF l_1),Ii (lN (l_1)),Ii v_1,.bool (r_2 != (0:Int))] [] zH an ?_
  refine cd 40 (r_2 != (0:Int)) ?_ ?_
  rotate_left
  ·intro g_6;replace h:=zU g_6 h
   refine sk ?_
   refine rg [] [0,30,31,32] [] 1 [.sl false 2 (Mp zD d_1),.sl false 5 (Mp zF l_1),Ii (lN (l_1)),Ii (zK (v_1+(1:Int)))] [] zH an ?_
   exact ⟨_,(sw [] [] [.s 0,.s 30,.s 31,.s 32] [] an),_,rfl,h⟩
  intro g_6;replace h:=zT g_6 h
  refine sr [] [4] [] 1 [Ii r_2] [] zH an ?_
  refine rt ?_
  cases h
  exact ⟨rfl,Nat.le_of_ble_eq_true rfl,by kernel_rfl⟩
 intro e st1 hk
 rcases o_1 with q_1 | q_2
 rotate_left
 ·obtain ⟨rfl,hf⟩:=hk
  cases h
  exact ⟨st1,Sub.refl _ _,.inr rfl,hf⟩
 obtain ⟨rfl,hs⟩:=hk
 refine ⟨_,hs,?_⟩
 refine sr [] [4] [] 0 [Ii 0] [] zH an ?_
 refine rt ?_
 cases h
 exact ⟨.inr rfl,Nat.le_of_ble_eq_true rfl,by kernel_rfl⟩

theorem zGk (d_1:zM) (a_1:zQ) (r:Bool) (h:zAQ d_1 a_1=some r):zW prog 50 [(.var 66 (z4 a_1))] [] [zD d_1,Pp 0] [(.var 66 (z4 a_1))] (.bool r):=by
 refine yK (fn:=Go.Proofs.Try.f50) (code:=xY Go.Proofs.Try.f50) (by kernel_rfl) (by kernel_rfl) (Nat.le_of_ble_eq_true (by kernel_rfl)) ?_
 unfold zAQ at h
 refine sr [(0,{ id:=1 })] [1,2] [0,1] 2 [Pp 0,Pp 1] [Vb 66 (z4 a_1),Vb 68 (uD d_1)] zH an ?_
 refine sr [] [3] [0] 2 [.bool (d_1.Id==a_1.Domain)] [Vb 66 (z4 a_1)] zH an ?_
 refine wk [0] [] [.s 3] [.s 0] [(3,.bool (d_1.Id==a_1.Domain))] [(0,Vb 66 (z4 a_1))] an ?_
 refine rt ?_
 cases h
 exact ⟨.inr rfl,Nat.le_of_ble_eq_true rfl,by kernel_rfl⟩

theorem u7 (F:Nat) (s_1:List (zM)) (c_1:zQ) (r:Int) (h:xC F s_1 c_1=some r):zW prog 67 [(.var 66 (z4 c_1))] [] [.sl false 2 (Mp zD s_1),.fn 50 [Pp 0]] [(.var 66 (z4 c_1))] (Ii r):=by
 refine yK (fn:=Go.Proofs.Try.f67) (code:=xY Go.Proofs.Try.f67) (by kernel_rfl) (by kernel_rfl) (Nat.le_of_ble_eq_true (by kernel_rfl)) ?_
 unfold xC at h
 refine sr [] [0,1] [0] 1 [.sl false 2 (Mp zD s_1),.fn 50 [Pp 0]] [Vb 66 (z4 c_1)] zH an ?_
 refine sq ?_
 refine sr [(1,{ n:=(s_1).length })] [0,1,7,8] [0] 1 [.sl false 2 (Mp zD s_1),.fn 50 [Pp 0],Ii (lN (s_1)),Ii 0] [Vb 66 (z4 c_1)] zH (ac (yH _:((Mp zD s_1)).length=(s_1).length) an) ?_
 obtain ⟨o_1,h_1,h⟩:=bind_some h
 refine uR (K1:=(fun e st'=>match o_1 with | (.inl q0)=>e=.normal∧Sub 1 st' (mk [] [(0,Vb 66 (z4 c_1))] 1) | (.inr q1)=>e=.ret∧kO prog Go.Proofs.Try.f67 1 [(.var 66 (z4 c_1))] (Ii q1) st')) ?_ ?_
 ·replace h:=h_1
  refine yU (id:=0) (by kernel_rfl) ?_
  refine wk [0] [] [.s 0,.s 1,.s 7,.s 8] [.s 0] [(0,.sl false 2 (Mp zD s_1)),(1,.fn 50 [Pp 0]),(7,Ii (lN (s_1))),(8,Ii 0)] [(0,Vb 66 (z4 c_1))] an ?_
  refine wT (fun n st=>∃ (v_1:Int),st=mk [(0,.sl false 2 (Mp zD s_1)),(1,.fn 50 [Pp 0]),(7,Ii (lN (s_1))),(8,Ii v_1)] [(0,Vb 66 (z4 c_1))] 1∧xA F s_1 c_1 n v_1=some o_1) F (by kernel_rfl) ⟨_,rfl,h⟩ ?_ ?_
  ·rintro _ ⟨_,_,h⟩;exact wV (h:(none:Option (Unit⊕Int))=some o_1)
  rintro n_1 _ ⟨v_1,rfl,h⟩
  replace h:yP F s_1 c_1 (xA F s_1 c_1 n_1) v_1=some o_1:=h
  unfold yP at h
  refine sr [] [0,1,7,8,9] [0] 1 [.sl false 2 (Mp zD s_1),.fn 50 [Pp 0],Ii (lN (s_1)),Ii v_1,.bool (decide (v_1<(lN (s_1))))] [Vb 66 (z4 c_1)] zH an ?_
  refine sq ?_
  refine cd 9 (decide (v_1<(lN (s_1)))) ?_ ?_
  rotate_left
  ·intro g_1;replace h:=zU g_1 h
   refine w5 (id:=0) (by kernel_rfl) ?_
   cases h
   exact ⟨rfl,(sw [0] [] [] [.s 0] an)⟩
  intro g_1;replace h:=zT g_1 h
  refine sk ?_
  refine sq ?_
  refine yU (id:=1) (by kernel_rfl) ?_
  refine sr [] [0,1,5,7,8] [0] 1 [.sl false 2 (Mp zD s_1),.fn 50 [Pp 0],Ii v_1,Ii (lN (s_1)),Ii v_1] [Vb 66 (z4 c_1)] zH an ?_
  refine sq ?_
  obtain ⟨x_1,h_2,h⟩:=bind_some h
  obtain ⟨r_1,h_3,h⟩:=bind_some h
  refine rg [(3,{ av:=zD x_1 }),(5,{ av:=.bool r_1,ids:=[0],l:=[zD x_1,Pp 0],post:=[(.var 66 (z4 c_1))],pre:=[(.var 66 (z4 c_1))] })] [0,1,5,7,8,16] [0] 1 [.sl false 2 (Mp zD s_1),.fn 50 [Pp 0],Ii v_1,Ii (lN (s_1)),Ii v_1,.bool r_1] [Vb 66 (z4 c_1)] zH (ac (wI h_2:vA (Mp zD s_1) v_1=some (zD x_1)) (ar ([zD x_1,Pp 0]:List AV) (ac (rfl:([Vb 66 (z4 c_1)]:List zO)=[Vb 66 (z4 c_1)]) (ac (zGk x_1 c_1 r_1 h_3:zW prog 50 [(.var 66 (z4 c_1))] [] [zD x_1,Pp 0] [(.var 66 (z4 c_1))] (.bool r_1)) an)))) ?_
  refine cd 16 r_1 ?_ ?_
  rotate_left
  ·intro g_2;replace h:=zU g_2 h
   refine sk ?_
   refine rg [] [0,1,7,8] [0] 1 [.sl false 2 (Mp zD s_1),.fn 50 [Pp 0],Ii (lN (s_1)),Ii (zK (v_1+(1:Int)))] [Vb 66 (z4 c_1)] zH an ?_
   exact ⟨_,(sw [0] [] [.s 0,.s 1,.s 7,.s 8] [.s 0] an),_,rfl,h⟩
  intro g_2;replace h:=zT g_2 h
  refine sr [] [4] [0] 1 [Ii v_1] [Vb 66 (z4 c_1)] zH an ?_
  refine wk [0] [] [.s 4] [.s 0] [(4,Ii v_1)] [(0,Vb 66 (z4 c_1))] an ?_
  refine rt ?_
  cases h
  exact ⟨rfl,Nat.le_of_ble_eq_true rfl,by kernel_rfl⟩
 intro e st1 hk
 rcases o_1 with q_1 | q_2
 rotate_left
 ·obtain ⟨rfl,hf⟩:=hk
  cases h
  exact ⟨st1,Sub.refl _ _,.inr rfl,hf⟩
 obtain ⟨rfl,hs⟩:=hk
 refine ⟨_,hs,?_⟩
 refine sr [] [4] [0] 1 [Ii (-1)] [Vb 66 (z4 c_1)] zH an ?_
 refine wk [0] [] [.s 4] [.s 0] [(4,Ii (-1))] [(0,Vb 66 (z4 c_1))] an ?_
 refine rt ?_
 cases h
 exact ⟨.inr rfl,Nat.le_of_ble_eq_true rfl,by kernel_rfl⟩

theorem u9 (F:Nat) (s_1:List (zM)) (c_1:zQ) (r:Bool) (h:x3 F s_1 c_1=some r):zW prog 49 [(.var 66 (z4 c_1))] [] [.sl false 2 (Mp zD s_1),.fn 50 [Pp 0]] [(.var 66 (z4 c_1))] (.bool r):=by
 refine yK (fn:=Go.Proofs.Try.f49) (code:=xY Go.Proofs.Try.f49) (by kernel_rfl) (by kernel_rfl) (Nat.le_of_ble_eq_true (by kernel_rfl)) ?_
 unfold x3 at h
 refine sr [] [0,1] [0] 1 [.sl false 2 (Mp zD s_1),.fn 50 [Pp 0]] [Vb 66 (z4 c_1)] zH an ?_
 refine sq ?_
 obtain ⟨r_1,h_1,h⟩:=bind_some h
 refine rg [(2,{ av:=Ii r_1,ids:=[0],l:=[.sl false 2 (Mp zD s_1),.fn 50 [Pp 0]],post:=[(.var 66 (z4 c_1))],pre:=[(.var 66 (z4 c_1))] })] [4] [0] 1 [.bool (decide (r_1≥(0:Int)))] [Vb 66 (z4 c_1)] zH (ar ([.sl false 2 (Mp zD s_1),.fn 50 [Pp 0]]:List AV) (ac (rfl:([Vb 66 (z4 c_1)]:List zO)=[Vb 66 (z4 c_1)]) (ac (u7 F s_1 c_1 r_1 h_1:zW prog 67 [(.var 66 (z4 c_1))] [] [.sl false 2 (Mp zD s_1),.fn 50 [Pp 0]] [(.var 66 (z4 c_1))] (Ii r_1)) an))) ?_
 refine wk [0] [] [.s 4] [.s 0] [(4,.bool (decide (r_1≥(0:Int))))] [(0,Vb 66 (z4 c_1))] an ?_
 refine rt ?_
 cases h
 exact ⟨.inr rfl,Nat.le_of_ble_eq_true rfl,by kernel_rfl⟩

theorem zIu (F:Nat) (h_1:zS) (r:Int) (h:zA8 F h_1=some r):zW prog 27 [] [] [y6 h_1] [] (Ii r):=by
 refine yK (fn:=Go.Proofs.Try.f27) (code:=xY Go.Proofs.Try.f27) (by kernel_rfl) (by kernel_rfl) (Nat.le_of_ble_eq_true (by kernel_rfl)) ?_
 unfold zA8 at h
 refine sr [(0,{ id:=0 })] [1] [0] 1 [Pp 0] [Vb 26 (zX h_1)] zH an ?_
 refine sq ?_
 refine yU (id:=0) (by kernel_rfl) ?_
 refine sr [(2,{ n:=(h_1.Threads).length })] [1,10] [0] 1 [Pp 0,.bool ((lN (h_1.Threads))==(0:Int))] [Vb 26 (zX h_1)] zH (ac (yH _:((Mp zG h_1.Threads)).length=(h_1.Threads).length) an) ?_
 refine cd 10 ((lN (h_1.Threads))==(0:Int)) ?_ ?_
 ·intro g_1;replace h:=zT g_1 h
  refine sr [] [2] [] 1 [Ii 8] [] zH an ?_
  refine rt ?_
  cases h
  exact ⟨.inr rfl,Nat.le_of_ble_eq_true rfl,by kernel_rfl⟩
 intro g_1;replace h:=zU g_1 h
 refine sr [(2,{ n:=(h_1.Threads).length })] [1,15] [0] 1 [Pp 0,.bool (decide ((lN (h_1.Threads))>(64:Int)))] [Vb 26 (zX h_1)] zH (ac (yH _:((Mp zG h_1.Threads)).length=(h_1.Threads).length) an) ?_
 refine cd 15 (decide ((lN (h_1.Threads))>(64:Int))) ?_ ?_
 ·intro g_2;replace h:=zT g_2 h
  refine sr [] [2] [] 1 [Ii 7] [] zH an ?_
  refine rt ?_
  cases h
  exact ⟨.inr rfl,Nat.le_of_ble_eq_true rfl,by kernel_rfl⟩
 intro g_2;replace h:=zU g_2 h
 refine sk ?_
 refine sr [(0,{ id:=1,mag:=false,mks:=[.int .i64] })] [1,3] [0,1] 2 [Pp 0,.mp 1] [Vb 26 (zX h_1),.live (.map false [.int .i64] [])] zH an ?_
 refine sq ?_
 refine sr [(2,{ n:=(h_1.Threads).length })] [1,3,22,23,24] [0,1] 2 [Pp 0,.mp 1,.sl false 3 (Mp zG h_1.Threads),Ii (lN (h_1.Threads)),Ii 0] [Vb 26 (zX h_1),.live (.map false [.int .i64] [])] zH (ac (yH _:((Mp zG h_1.Threads)).length=(h_1.Threads).length) an) ?_
 obtain ⟨o_1,h_2,h⟩:=bind_some h
 refine uR (K1:=(fun e st'=>match o_1 with | (.inl q0)=>e=.normal∧Sub 0 st' (mk [(1,Pp 0)] [(0,Vb 26 (zX h_1))] 1) | (.inr q1)=>e=.ret∧kO prog Go.Proofs.Try.f27 0 [] (Ii q1) st')) ?_ ?_
 ·replace h:=h_2
  refine yU (id:=1) (by kernel_rfl) ?_
  refine wk [0,1] [] [.s 1,.s 3,.s 22,.s 23,.s 24] [.s 0,.s 1] [(1,Pp 0),(3,.mp 1),(22,.sl false 3 (Mp zG h_1.Threads)),(23,Ii (lN (h_1.Threads))),(24,Ii 0)] [(0,Vb 26 (zX h_1)),(1,.live (.map false [.int .i64] []))] an ?_
  refine wT (fun n st=>∃ (v_1:Int),∃ (zC:List (Int×Bool)),st=mk [(1,Pp 0),(3,.mp 1),(22,.sl false 3 (Mp zG h_1.Threads)),(23,Ii (lN (h_1.Threads))),(24,Ii v_1)] [(0,Vb 26 (zX h_1)),(1,.live (.map false [.int .i64] (List.map (mpE (AV.int .i64) AV.bool) zC)))] 2∧jN F h_1 n v_1 zC=some o_1) F (by kernel_rfl) ⟨_,_,rfl,h⟩ ?_ ?_
  ·rintro _ ⟨_,_,_,h⟩;exact wV (h:(none:Option (Unit⊕Int))=some o_1)
  rintro n_1 _ ⟨v_1,zC,rfl,h⟩
  replace h:qE F h_1 (jN F h_1 n_1) v_1 zC=some o_1:=h
  unfold qE at h
  refine sr [] [1,3,22,23,24,25] [0,1] 2 [Pp 0,.mp 1,.sl false 3 (Mp zG h_1.Threads),Ii (lN (h_1.Threads)),Ii v_1,.bool (decide (v_1<(lN (h_1.Threads))))] [Vb 26 (zX h_1),.live (.map false [.int .i64] (List.map (mpE (AV.int .i64) AV.bool) zC))] zH an ?_
  refine sq ?_
  refine cd 25 (decide (v_1<(lN (h_1.Threads)))) ?_ ?_
  rotate_left
  ·intro g_3;replace h:=zU g_3 h
   refine w5 (id:=1) (by kernel_rfl) ?_
   cases h
   exact ⟨rfl,(sw [0] [] [.s 1] [.s 0] an)⟩
  intro g_3;replace h:=zT g_3 h
  refine sk ?_
  refine sq ?_
  refine yU (id:=2) (by kernel_rfl) ?_
  refine sq ?_
  obtain ⟨x_1,h_3,h⟩:=bind_some h
  refine rg [(0,{ av:=zG x_1 }),(2,{ id:=2 })] [1,3,5,22,23,24] [0,1,2] 3 [Pp 0,.mp 1,Pp 2,.sl false 3 (Mp zG h_1.Threads),Ii (lN (h_1.Threads)),Ii v_1] [Vb 26 (zX h_1),.live (.map false [.int .i64] (List.map (mpE (AV.int .i64) AV.bool) zC)),Vb 66 (z4 x_1)] zH (ac (wI h_3:vA (Mp zG h_1.Threads) v_1=some (zG x_1)) an) ?_
  refine sq ?_
  refine sq ?_
  obtain ⟨r_1,h_4,h⟩:=bind_some h
  refine rg [(1,{ av:=Ii r_1,l:=[zG x_1] })] [1,3,5,6,22,23,24] [0,1,2] 3 [Pp 0,.mp 1,Pp 2,Ii r_1,.sl false 3 (Mp zG h_1.Threads),Ii (lN (h_1.Threads)),Ii v_1] [Vb 26 (zX h_1),.live (.map false [.int .i64] (List.map (mpE (AV.int .i64) AV.bool) zC)),Vb 66 (z4 x_1)] zH (ar ([zG x_1]:List AV) (ac (rfl:([]:List zO)=[]) (ac (zDt F x_1 r_1 h_4:zW prog 47 [] [] [zG x_1] [] (Ii r_1)) an))) ?_
  refine sr [] [1,3,5,6,22,23,24,31] [0,1,2] 3 [Pp 0,.mp 1,Pp 2,Ii r_1,.sl false 3 (Mp zG h_1.Threads),Ii (lN (h_1.Threads)),Ii v_1,.bool (r_1 != (0:Int))] [Vb 26 (zX h_1),.live (.map false [.int .i64] (List.map (mpE (AV.int .i64) AV.bool) zC)),Vb 66 (z4 x_1)] zH an ?_
  refine cd 31 (r_1 != (0:Int)) ?_ ?_
  ·intro g_4;replace h:=zT g_4 h
   refine sr [] [2] [] 3 [Ii r_1] [] zH an ?_
   refine rt ?_
   cases h
   exact ⟨rfl,Nat.le_of_ble_eq_true rfl,by kernel_rfl⟩
  intro g_4;replace h:=zU g_4 h
  refine sk ?_
  refine sq ?_
  refine sr [(3,{ av:=(.bool ((yA zC x_1.Id).getD false)),g:=(yA zC x_1.Id).isSome })] [1,3,5,22,23,24,36] [0,1,2] 3 [Pp 0,.mp 1,Pp 2,.sl false 3 (Mp zG h_1.Threads),Ii (lN (h_1.Threads)),Ii v_1,.bool ((yA zC x_1.Id).getD false)] [Vb 26 (zX h_1),.live (.map false [.int .i64] (List.map (mpE (AV.int .i64) AV.bool) zC)),Vb 66 (z4 x_1)] zH (ac (nQ:vZ prog 3 false [.int .i64]) (ac (zDv (f:=(AV.int .i64)) (g:=AV.bool) nR zC x_1.Id false:jL (List.map (mpE (AV.int .i64) AV.bool) zC) (Ii x_1.Id) (.bool false) (.bool ((yA zC x_1.Id).getD false)) (yA zC x_1.Id).isSome) an)) ?_
  refine cd 36 ((yA zC x_1.Id).getD false) ?_ ?_
  ·intro g_5;replace h:=zT g_5 h
   refine sr [] [2] [] 3 [Ii 4] [] zH an ?_
   refine rt ?_
   cases h
   exact ⟨rfl,Nat.le_of_ble_eq_true rfl,by kernel_rfl⟩
  intro g_5;replace h:=zU g_5 h
  refine sk ?_
  obtain ⟨_,h_5,h⟩:=bind_some h;replace h_5:=wS h_5
  refine rg [(3,{ es:=(List.map (mpE (AV.int .i64) AV.bool) (uI zC x_1.Id true)) })] [1,3,22,23,24] [0,1] 3 [Pp 0,.mp 1,.sl false 3 (Mp zG h_1.Threads),Ii (lN (h_1.Threads)),Ii v_1] [Vb 26 (zX h_1),.live (.map false [.int .i64] (List.map (mpE (AV.int .i64) AV.bool) (uI zC x_1.Id true)))] zH (ac (nQ:vZ prog 3 false [.int .i64]) (ac (zC0 (f:=(AV.int .i64)) (g:=AV.bool) nR zC x_1.Id true:zBN (List.map (mpE (AV.int .i64) AV.bool) zC) (Ii x_1.Id) (.bool true) (List.map (mpE (AV.int .i64) AV.bool) (uI zC x_1.Id true))) (ac (zFZ (l:=zC) h_5:((List.map (mpE (AV.int .i64) AV.bool) zC):List (AV×AV)).length<maxLen) an))) ?_
  refine rg [] [1,3,22,23,24] [0,1] 3 [Pp 0,.mp 1,.sl false 3 (Mp zG h_1.Threads),Ii (lN (h_1.Threads)),Ii (zK (v_1+(1:Int)))] [Vb 26 (zX h_1),.live (.map false [.int .i64] (List.map (mpE (AV.int .i64) AV.bool) (uI zC x_1.Id true)))] zH an ?_
  exact ⟨_,(sw [0,1] [] [.s 1,.s 3,.s 22,.s 23,.s 24] [.s 0,.s 1] an),_,_,rfl,h⟩
 intro e st1 hk
 rcases o_1 with q_1 | q_2
 rotate_left
 ·obtain ⟨rfl,hf⟩:=hk
  cases h
  exact ⟨st1,Sub.refl _ _,.inr rfl,hf⟩
 obtain ⟨rfl,hs⟩:=hk
 refine ⟨_,hs,?_⟩
 refine sq ?_
 refine sq ?_
 obtain ⟨r_2,h_6,h⟩:=bind_some h
 refine rg [(4,{ av:=Ii r_2,l:=[.sl false 2 (Mp zD h_1.Domains),.sl false 5 (Mp zF h_1.Snaps)] })] [1,7] [0] 1 [Pp 0,Ii r_2] [Vb 26 (zX h_1)] zH (ar ([.sl false 2 (Mp zD h_1.Domains),.sl false 5 (Mp zF h_1.Snaps)]:List AV) (ac (rfl:([]:List zO)=[]) (ac (zGf F h_1.Domains h_1.Snaps r_2 h_6:zW prog 48 [] [] [.sl false 2 (Mp zD h_1.Domains),.sl false 5 (Mp zF h_1.Snaps)] [] (Ii r_2)) an))) ?_
 refine sr [] [1,7,47] [0] 1 [Pp 0,Ii r_2,.bool (r_2 != (0:Int))] [Vb 26 (zX h_1)] zH an ?_
 refine cd 47 (r_2 != (0:Int)) ?_ ?_
 ·intro g_6;replace h:=zT g_6 h
  refine sr [] [2] [] 1 [Ii r_2] [] zH an ?_
  refine rt ?_
  cases h
  exact ⟨.inr rfl,Nat.le_of_ble_eq_true rfl,by kernel_rfl⟩
 intro g_6;replace h:=zU g_6 h
 refine sk ?_
 refine sq ?_
 refine sr [(2,{ n:=(h_1.Threads).length })] [1,50,51,52] [0] 1 [Pp 0,.sl false 3 (Mp zG h_1.Threads),Ii (lN (h_1.Threads)),Ii 0] [Vb 26 (zX h_1)] zH (ac (yH _:((Mp zG h_1.Threads)).length=(h_1.Threads).length) an) ?_
 obtain ⟨o_2,h_7,h⟩:=bind_some h
 refine uR (K1:=(fun e st'=>match o_2 with | (.inl q0)=>e=.normal∧Sub 0 st' (mk [] [] 0) | (.inr q1)=>e=.ret∧kO prog Go.Proofs.Try.f27 0 [] (Ii q1) st')) ?_ ?_
 ·replace h:=h_7
  refine yU (id:=3) (by kernel_rfl) ?_
  refine wk [0] [] [.s 1,.s 50,.s 51,.s 52] [.s 0] [(1,Pp 0),(50,.sl false 3 (Mp zG h_1.Threads)),(51,Ii (lN (h_1.Threads))),(52,Ii 0)] [(0,Vb 26 (zX h_1))] an ?_
  refine wT (fun n st=>∃ (v_2:Int),st=mk [(1,Pp 0),(50,.sl false 3 (Mp zG h_1.Threads)),(51,Ii (lN (h_1.Threads))),(52,Ii v_2)] [(0,Vb 26 (zX h_1))] 1∧jV F h_1 n v_2=some o_2) F (by kernel_rfl) ⟨_,rfl,h⟩ ?_ ?_
  ·rintro _ ⟨_,_,h⟩;exact wV (h:(none:Option (Unit⊕Int))=some o_2)
  rintro n_2 _ ⟨v_2,rfl,h⟩
  replace h:uU F h_1 (jV F h_1 n_2) v_2=some o_2:=h
  unfold uU at h
  refine sr [] [1,50,51,52,53] [0] 1 [Pp 0,.sl false 3 (Mp zG h_1.Threads),Ii (lN (h_1.Threads)),Ii v_2,.bool (decide (v_2<(lN (h_1.Threads))))] [Vb 26 (zX h_1)] zH an ?_
  refine sq ?_
  refine cd 53 (decide (v_2<(lN (h_1.Threads)))) ?_ ?_
  rotate_left
  ·intro g_7;replace h:=zU g_7 h
   refine w5 (id:=3) (by kernel_rfl) ?_
   cases h
   exact ⟨rfl,(sw [] [] [] [] an)⟩
  intro g_7;replace h:=zT g_7 h
  refine sk ?_
  refine sq ?_
  refine yU (id:=4) (by kernel_rfl) ?_
  refine sq ?_
  obtain ⟨x_2,h_8,h⟩:=bind_some h
  refine rg [(0,{ av:=zG x_2 }),(2,{ id:=1 })] [1,9,50,51,52] [0,1] 2 [Pp 0,Pp 1,.sl false 3 (Mp zG h_1.Threads),Ii (lN (h_1.Threads)),Ii v_2] [Vb 26 (zX h_1),Vb 66 (z4 x_2)] zH (ac (wI h_8:vA (Mp zG h_1.Threads) v_2=some (zG x_2)) an) ?_
  refine sq ?_
  obtain ⟨r_3,h_9,h⟩:=bind_some h
  refine rg [(3,{ av:=.bool r_3,ids:=[1],l:=[.sl false 2 (Mp zD h_1.Domains),.fn 50 [Pp 0]],post:=[(.var 66 (z4 x_2))],pre:=[(.var 66 (z4 x_2))] })] [1,50,51,52,60] [0] 2 [Pp 0,.sl false 3 (Mp zG h_1.Threads),Ii (lN (h_1.Threads)),Ii v_2,.bool (!r_3)] [Vb 26 (zX h_1)] zH (ar ([.sl false 2 (Mp zD h_1.Domains),.fn 50 [Pp 1]]:List AV) (ac (rfl:([Vb 66 (z4 x_2)]:List zO)=[Vb 66 (z4 x_2)]) (ac (u9 F h_1.Domains x_2 r_3 h_9:zW prog 49 [(.var 66 (z4 x_2))] [] [.sl false 2 (Mp zD h_1.Domains),.fn 50 [Pp 0]] [(.var 66 (z4 x_2))] (.bool r_3)) an))) ?_
  refine cd 60 (!r_3) ?_ ?_
  rotate_left
  ·intro g_8;replace h:=zU g_8 h
   refine sk ?_
   refine rg [] [1,50,51,52] [0] 2 [Pp 0,.sl false 3 (Mp zG h_1.Threads),Ii (lN (h_1.Threads)),Ii (zK (v_2+(1:Int)))] [Vb 26 (zX h_1)] zH an ?_
   exact ⟨_,(sw [0] [] [.s 1,.s 50,.s 51,.s 52] [.s 0] an),_,rfl,h⟩
  intro g_8;replace h:=zT g_8 h
  refine sr [] [2] [] 2 [Ii 5] [] zH an ?_
  refine rt ?_
  cases h
  exact ⟨rfl,Nat.le_of_ble_eq_true rfl,by kernel_rfl⟩
 intro e st1 hk
 rcases o_2 with q_3 | q_4
 rotate_left
 ·obtain ⟨rfl,hf⟩:=hk
  cases h
  exact ⟨st1,Sub.refl _ _,.inr rfl,hf⟩
 obtain ⟨rfl,hs⟩:=hk
 refine ⟨_,hs,?_⟩
 refine sr [] [2] [] 0 [Ii 0] [] zH an ?_
 refine rt ?_
 cases h
 exact ⟨.inr rfl,Nat.le_of_ble_eq_true rfl,by kernel_rfl⟩

theorem zFV (r:(List (zN))) (h:kM=some r):zW prog 89 [] [] [] [.row 127 9 (Mp wE r)] (.own 0 ((r).length)):=by
 refine yK (fn:=Go.Proofs.Try.f89) (code:=xY Go.Proofs.Try.f89) (by kernel_rfl) (by kernel_rfl) (Nat.le_of_ble_eq_true (by kernel_rfl)) ?_
 unfold kM at h
 refine sr [(0,{ id:=0,m:=1 })] [] [] 1 [] [] zH an ?_
 refine sr [(13,{ id:=1 })] [0] [1] 2 [.own 1 13] [Rb 127 9 (Mp wE ([(⟨([]:List Int),false,false,false,false,(0:Int),(0:Int),(0:Int),(0:Int)⟩:zN),(⟨([98,101,103,105,110]:List Int),true,false,false,false,(0:Int),(0:Int),(0:Int),(0:Int)⟩:zN),(⟨([101,110,100]:List Int),false,false,false,false,(0:Int),(0:Int),(0:Int),(0:Int)⟩:zN),(⟨([109,97,114,107]:List Int),true,false,false,false,(0:Int),(0:Int),(0:Int),(0:Int)⟩:zN),(⟨([99,111,117,110,116]:List Int),true,true,false,false,(-1000000000000000:Int),(1000000000000000:Int),(0:Int),(0:Int)⟩:zN),(⟨([115,97,109,112,108,101]:List Int),false,true,false,true,(1:Int),(1000000000000:Int),(0:Int),(0:Int)⟩:zN),(⟨([115,101,110,100]:List Int),false,true,false,false,(0:Int),(1000000000000000:Int),(0:Int),(0:Int)⟩:zN),(⟨([114,101,99,118]:List Int),false,true,false,false,(0:Int),(1000000000000000:Int),(0:Int),(0:Int)⟩:zN),(⟨([114,117,110]:List Int),false,true,false,false,(0:Int),(63:Int),(0:Int),(0:Int)⟩:zN),(⟨([115,116,111,112]:List Int),false,true,true,false,(0:Int),(3:Int),(0:Int),(1000000000000000:Int)⟩:zN),(⟨([119,97,107,101]:List Int),false,true,false,false,(0:Int),(1000000000000000:Int),(0:Int),(0:Int)⟩:zN),(⟨([97,108,108,111,99]:List Int),false,true,true,true,(0:Int),(1000000000000000:Int),(1:Int),(1000000000000:Int)⟩:zN),(⟨([102,114,101,101]:List Int),false,true,false,false,(0:Int),(1000000000000000:Int),(0:Int),(0:Int)⟩:zN)]:List zN))] zH an ?_
 refine wk [1] [] [.a 0 (.own 0 ((([(⟨([]:List Int),false,false,false,false,(0:Int),(0:Int),(0:Int),(0:Int)⟩:zN),(⟨([98,101,103,105,110]:List Int),true,false,false,false,(0:Int),(0:Int),(0:Int),(0:Int)⟩:zN),(⟨([101,110,100]:List Int),false,false,false,false,(0:Int),(0:Int),(0:Int),(0:Int)⟩:zN),(⟨([109,97,114,107]:List Int),true,false,false,false,(0:Int),(0:Int),(0:Int),(0:Int)⟩:zN),(⟨([99,111,117,110,116]:List Int),true,true,false,false,(-1000000000000000:Int),(1000000000000000:Int),(0:Int),(0:Int)⟩:zN),(⟨([115,97,109,112,108,101]:List Int),false,true,false,true,(1:Int),(1000000000000:Int),(0:Int),(0:Int)⟩:zN),(⟨([115,101,110,100]:List Int),false,true,false,false,(0:Int),(1000000000000000:Int),(0:Int),(0:Int)⟩:zN),(⟨([114,101,99,118]:List Int),false,true,false,false,(0:Int),(1000000000000000:Int),(0:Int),(0:Int)⟩:zN),(⟨([114,117,110]:List Int),false,true,false,false,(0:Int),(63:Int),(0:Int),(0:Int)⟩:zN),(⟨([115,116,111,112]:List Int),false,true,true,false,(0:Int),(3:Int),(0:Int),(1000000000000000:Int)⟩:zN),(⟨([119,97,107,101]:List Int),false,true,false,false,(0:Int),(1000000000000000:Int),(0:Int),(0:Int)⟩:zN),(⟨([97,108,108,111,99]:List Int),false,true,true,true,(0:Int),(1000000000000000:Int),(1:Int),(1000000000000:Int)⟩:zN),(⟨([102,114,101,101]:List Int),false,true,false,false,(0:Int),(1000000000000000:Int),(0:Int),(0:Int)⟩:zN)]:List zN)).length))] [.s 0] [(0,.own 0 ((([(⟨([]:List Int),false,false,false,false,(0:Int),(0:Int),(0:Int),(0:Int)⟩:zN),(⟨([98,101,103,105,110]:List Int),true,false,false,false,(0:Int),(0:Int),(0:Int),(0:Int)⟩:zN),(⟨([101,110,100]:List Int),false,false,false,false,(0:Int),(0:Int),(0:Int),(0:Int)⟩:zN),(⟨([109,97,114,107]:List Int),true,false,false,false,(0:Int),(0:Int),(0:Int),(0:Int)⟩:zN),(⟨([99,111,117,110,116]:List Int),true,true,false,false,(-1000000000000000:Int),(1000000000000000:Int),(0:Int),(0:Int)⟩:zN),(⟨([115,97,109,112,108,101]:List Int),false,true,false,true,(1:Int),(1000000000000:Int),(0:Int),(0:Int)⟩:zN),(⟨([115,101,110,100]:List Int),false,true,false,false,(0:Int),(1000000000000000:Int),(0:Int),(0:Int)⟩:zN),(⟨([114,101,99,118]:List Int),false,true,false,false,(0:Int),(1000000000000000:Int),(0:Int),(0:Int)⟩:zN),(⟨([114,117,110]:List Int),false,true,false,false,(0:Int),(63:Int),(0:Int),(0:Int)⟩:zN),(⟨([115,116,111,112]:List Int),false,true,true,false,(0:Int),(3:Int),(0:Int),(1000000000000000:Int)⟩:zN),(⟨([119,97,107,101]:List Int),false,true,false,false,(0:Int),(1000000000000000:Int),(0:Int),(0:Int)⟩:zN),(⟨([97,108,108,111,99]:List Int),false,true,true,true,(0:Int),(1000000000000000:Int),(1:Int),(1000000000000:Int)⟩:zN),(⟨([102,114,101,101]:List Int),false,true,false,false,(0:Int),(1000000000000000:Int),(0:Int),(0:Int)⟩:zN)]:List zN)).length))] [(0,Rb 127 9 (Mp wE ([(⟨([]:List Int),false,false,false,false,(0:Int),(0:Int),(0:Int),(0:Int)⟩:zN),(⟨([98,101,103,105,110]:List Int),true,false,false,false,(0:Int),(0:Int),(0:Int),(0:Int)⟩:zN),(⟨([101,110,100]:List Int),false,false,false,false,(0:Int),(0:Int),(0:Int),(0:Int)⟩:zN),(⟨([109,97,114,107]:List Int),true,false,false,false,(0:Int),(0:Int),(0:Int),(0:Int)⟩:zN),(⟨([99,111,117,110,116]:List Int),true,true,false,false,(-1000000000000000:Int),(1000000000000000:Int),(0:Int),(0:Int)⟩:zN),(⟨([115,97,109,112,108,101]:List Int),false,true,false,true,(1:Int),(1000000000000:Int),(0:Int),(0:Int)⟩:zN),(⟨([115,101,110,100]:List Int),false,true,false,false,(0:Int),(1000000000000000:Int),(0:Int),(0:Int)⟩:zN),(⟨([114,101,99,118]:List Int),false,true,false,false,(0:Int),(1000000000000000:Int),(0:Int),(0:Int)⟩:zN),(⟨([114,117,110]:List Int),false,true,false,false,(0:Int),(63:Int),(0:Int),(0:Int)⟩:zN),(⟨([115,116,111,112]:List Int),false,true,true,false,(0:Int),(3:Int),(0:Int),(1000000000000000:Int)⟩:zN),(⟨([119,97,107,101]:List Int),false,true,false,false,(0:Int),(1000000000000000:Int),(0:Int),(0:Int)⟩:zN),(⟨([97,108,108,111,99]:List Int),false,true,true,true,(0:Int),(1000000000000000:Int),(1:Int),(1000000000000:Int)⟩:zN),(⟨([102,114,101,101]:List Int),false,true,false,false,(0:Int),(1000000000000000:Int),(0:Int),(0:Int)⟩:zN)]:List zN)))] (ac (congrArg (AV.own _) (by first | (simp;done) | (simp;omega)):(.own 1 13:AV)=.own 1 ((([(⟨([]:List Int),false,false,false,false,(0:Int),(0:Int),(0:Int),(0:Int)⟩:zN),(⟨([98,101,103,105,110]:List Int),true,false,false,false,(0:Int),(0:Int),(0:Int),(0:Int)⟩:zN),(⟨([101,110,100]:List Int),false,false,false,false,(0:Int),(0:Int),(0:Int),(0:Int)⟩:zN),(⟨([109,97,114,107]:List Int),true,false,false,false,(0:Int),(0:Int),(0:Int),(0:Int)⟩:zN),(⟨([99,111,117,110,116]:List Int),true,true,false,false,(-1000000000000000:Int),(1000000000000000:Int),(0:Int),(0:Int)⟩:zN),(⟨([115,97,109,112,108,101]:List Int),false,true,false,true,(1:Int),(1000000000000:Int),(0:Int),(0:Int)⟩:zN),(⟨([115,101,110,100]:List Int),false,true,false,false,(0:Int),(1000000000000000:Int),(0:Int),(0:Int)⟩:zN),(⟨([114,101,99,118]:List Int),false,true,false,false,(0:Int),(1000000000000000:Int),(0:Int),(0:Int)⟩:zN),(⟨([114,117,110]:List Int),false,true,false,false,(0:Int),(63:Int),(0:Int),(0:Int)⟩:zN),(⟨([115,116,111,112]:List Int),false,true,true,false,(0:Int),(3:Int),(0:Int),(1000000000000000:Int)⟩:zN),(⟨([119,97,107,101]:List Int),false,true,false,false,(0:Int),(1000000000000000:Int),(0:Int),(0:Int)⟩:zN),(⟨([97,108,108,111,99]:List Int),false,true,true,true,(0:Int),(1000000000000000:Int),(1:Int),(1000000000000:Int)⟩:zN),(⟨([102,114,101,101]:List Int),false,true,false,false,(0:Int),(1000000000000000:Int),(0:Int),(0:Int)⟩:zN)]:List zN)).length)) an) ?_
 refine rt ?_
 cases h
 exact ⟨.inr rfl,Nat.le_of_ble_eq_true rfl,by kernel_rfl⟩

theorem zFy (k_1:Int) (r:zN×Bool) (h:k0 k_1=some r):zW prog 84 [] [] [Ii k_1] [] (.tuple [wE r.1,.bool r.2]):=by
 refine yK (fn:=Go.Proofs.Try.f84) (code:=xY Go.Proofs.Try.f84) (by kernel_rfl) (by kernel_rfl) (Nat.le_of_ble_eq_true (by kernel_rfl)) ?_
 unfold k0 at h
 refine sr [(0,{ id:=0 })] [0,2] [0] 1 [Ii k_1,Pp 0] [Vb 127 [.str ([]:List Int),.bool false,.bool false,.bool false,.bool false,Ii 0,Ii 0,Ii 0,Ii 0]] zH an ?_
 refine sq ?_
 obtain ⟨r_1,h_1,h⟩:=bind_some h
 refine rg [(0,{ av:=.own 0 ((r_1).length),ids:=[1],l:=[],post:=[(.row 127 9 (Mp wE r_1))] })] [0,2,4] [0,1] 2 [Ii k_1,Pp 0,.own 1 ((r_1).length)] [Vb 127 [.str ([]:List Int),.bool false,.bool false,.bool false,.bool false,Ii 0,Ii 0,Ii 0,Ii 0],Rb 127 9 (Mp wE r_1)] zH (ar ([]:List AV) (ac (rfl:([]:List zO)=[]) (ac (zFV r_1 h_1:zW prog 89 [] [] [] [(.row 127 9 (Mp wE r_1))] (.own 0 ((r_1).length))) an))) ?_
 refine sq ?_
 refine sq ?_
 refine wO (mk [(0,Ii k_1),(2,Pp 0),(4,.own 1 ((r_1).length)),(13,.bool (decide (k_1<(1:Int))||decide (k_1≥(lN (r_1)))))] [(0,Vb 127 [.str ([]:List Int),.bool false,.bool false,.bool false,.bool false,Ii 0,Ii 0,Ii 0,Ii 0]),(1,Rb 127 9 (Mp wE r_1))] 2) ?_ ?_
 ·rcases bft (decide (k_1<(1:Int))) with zL | zL
  ·refine rg [(3,Hg),(4,Hg),(5,Hg),(6,Hg),(7,Ht)] [0,2,4,13] [0,1] 2 [Ii k_1,Pp 0,.own 1 ((r_1).length),.bool true] [Vb 127 [.str ([]:List Int),.bool false,.bool false,.bool false,.bool false,Ii 0,Ii 0,Ii 0,Ii 0],Rb 127 9 (Mp wE r_1)] zH (ac zL (ac zL (ac zL (ac zL (ac zL an))))) ?_
   exact ⟨rfl,(sw [0,1] [] [.s 0,.s 2,.s 4,.a 13 (.bool (decide (k_1<(1:Int))||decide (k_1≥(lN (r_1)))))] [.s 0,.s 1] (ac (congrArg AV.bool (ort zL):(.bool true:AV)=.bool (decide (k_1<(1:Int))||decide (k_1≥(lN (r_1))))) an))⟩
  ·refine rg [(7,Hf)] [0,2,4,13] [0,1] 2 [Ii k_1,Pp 0,.own 1 ((r_1).length),.bool (decide (k_1≥(lN (r_1))))] [Vb 127 [.str ([]:List Int),.bool false,.bool false,.bool false,.bool false,Ii 0,Ii 0,Ii 0,Ii 0],Rb 127 9 (Mp wE r_1)] zH (ac zL (ac zL (ac zL (ac zL (ac zL an))))) ?_
   exact ⟨rfl,(sw [0,1] [] [.s 0,.s 2,.s 4,.a 13 (.bool (decide (k_1<(1:Int))||decide (k_1≥(lN (r_1)))))] [.s 0,.s 1] (ac (congrArg AV.bool (orf zL rfl):(.bool (decide (k_1≥(lN (r_1)))):AV)=.bool (decide (k_1<(1:Int))||decide (k_1≥(lN (r_1))))) an))⟩
 refine cd 13 (decide (k_1<(1:Int))||decide (k_1≥(lN (r_1)))) ?_ ?_
 ·intro g_1;replace h:=zT g_1 h
  refine sr [] [2,3] [0] 2 [Pp 0,.bool false] [Vb 127 [.str ([]:List Int),.bool false,.bool false,.bool false,.bool false,Ii 0,Ii 0,Ii 0,Ii 0]] zH an ?_
  refine wk [0] [] [.s 2,.s 3] [.a 0 (Vb 127 (yI (⟨([]:List Int),false,false,false,false,(0:Int),(0:Int),(0:Int),(0:Int)⟩:zN)))] [(2,Pp 0),(3,.bool false)] [(0,Vb 127 (yI (⟨([]:List Int),false,false,false,false,(0:Int),(0:Int),(0:Int),(0:Int)⟩:zN)))] (ar 127 (ac (rfl:uJ [.str ((⟨([]:List Int),false,false,false,false,(0:Int),(0:Int),(0:Int),(0:Int)⟩:zN).word),.bool ((⟨([]:List Int),false,false,false,false,(0:Int),(0:Int),(0:Int),(0:Int)⟩:zN).name),.bool ((⟨([]:List Int),false,false,false,false,(0:Int),(0:Int),(0:Int),(0:Int)⟩:zN).n),.bool ((⟨([]:List Int),false,false,false,false,(0:Int),(0:Int),(0:Int),(0:Int)⟩:zN).m),.bool ((⟨([]:List Int),false,false,false,false,(0:Int),(0:Int),(0:Int),(0:Int)⟩:zN).stack),Ii ((⟨([]:List Int),false,false,false,false,(0:Int),(0:Int),(0:Int),(0:Int)⟩:zN).least),Ii ((⟨([]:List Int),false,false,false,false,(0:Int),(0:Int),(0:Int),(0:Int)⟩:zN).most),Ii ((⟨([]:List Int),false,false,false,false,(0:Int),(0:Int),(0:Int),(0:Int)⟩:zN).mLeast),Ii ((⟨([]:List Int),false,false,false,false,(0:Int),(0:Int),(0:Int),(0:Int)⟩:zN).mMost)]=true) (ac (rfl:(.str ([]:List Int):AV)=.str ((⟨([]:List Int),false,false,false,false,(0:Int),(0:Int),(0:Int),(0:Int)⟩:zN).word)) (ac (rfl:(.bool false:AV)=.bool ((⟨([]:List Int),false,false,false,false,(0:Int),(0:Int),(0:Int),(0:Int)⟩:zN).name)) (ac (rfl:(.bool false:AV)=.bool ((⟨([]:List Int),false,false,false,false,(0:Int),(0:Int),(0:Int),(0:Int)⟩:zN).n)) (ac (rfl:(.bool false:AV)=.bool ((⟨([]:List Int),false,false,false,false,(0:Int),(0:Int),(0:Int),(0:Int)⟩:zN).m)) (ac (rfl:(.bool false:AV)=.bool ((⟨([]:List Int),false,false,false,false,(0:Int),(0:Int),(0:Int),(0:Int)⟩:zN).stack)) (ac (rfl:(Ii 0:AV)=Ii ((⟨([]:List Int),false,false,false,false,(0:Int),(0:Int),(0:Int),(0:Int)⟩:zN).least)) (ac (rfl:(Ii 0:AV)=Ii ((⟨([]:List Int),false,false,false,false,(0:Int),(0:Int),(0:Int),(0:Int)⟩:zN).most)) (ac (rfl:(Ii 0:AV)=Ii ((⟨([]:List Int),false,false,false,false,(0:Int),(0:Int),(0:Int),(0:Int)⟩:zN).mLeast)) (ac (rfl:(Ii 0:AV)=Ii ((⟨([]:List Int),false,false,false,false,(0:Int),(0:Int),(0:Int),(0:Int)⟩:zN).mMost)) an))))))))))) ?_
  refine rt ?_
  cases h
  exact ⟨.inr rfl,Nat.le_of_ble_eq_true rfl,by kernel_rfl⟩
 intro g_1;replace h:=zU g_1 h
 refine sk ?_
 refine sq ?_
 obtain ⟨x_1,h_2,h⟩:=bind_some h
 refine rg [(3,{ av:=wE x_1 })] [2,3] [0] 2 [Pp 0,.bool true] [Vb 127 (yI x_1)] zH (ac (zAw h_2:(0:Int)≤k_1) (ac (by first | (simp;done) | simpa using zAD h_2:k_1<(((r_1).length:Nat):Int)) (ac (zBK h_2:(Mp wE r_1)[(k_1).toNat]?=some (wE x_1)) an))) ?_
 refine wk [0] [] [.s 2,.s 3] [.s 0] [(2,Pp 0),(3,.bool true)] [(0,Vb 127 (yI x_1))] an ?_
 refine rt ?_
 cases h
 exact ⟨.inr rfl,Nat.le_of_ble_eq_true rfl,by kernel_rfl⟩

theorem zEM (F:Nat) (l_1:List (List Int)) (r:Int) (h:kE F l_1=some r):zW prog 90 [] [] [.sl false 1 (Ms l_1)] [] (Ii r):=by
 refine yK (fn:=Go.Proofs.Try.f90) (code:=xY Go.Proofs.Try.f90) (by kernel_rfl) (by kernel_rfl) (Nat.le_of_ble_eq_true (by kernel_rfl)) ?_
 unfold kE at h
 refine sr [] [0] [] 0 [.sl false 1 (Ms l_1)] [] zH an ?_
 refine sq ?_
 refine sr [(1,{ n:=(l_1).length })] [0,8] [] 0 [.sl false 1 (Ms l_1),.bool (decide ((lN (l_1))>(32:Int)))] [] zH (ac (yH _:((Ms l_1)).length=(l_1).length) an) ?_
 refine cd 8 (decide ((lN (l_1))>(32:Int))) ?_ ?_
 ·intro g_1;replace h:=zT g_1 h
  refine sr [] [2] [] 0 [Ii 7] [] zH an ?_
  refine rt ?_
  cases h
  exact ⟨.inr rfl,Nat.le_of_ble_eq_true rfl,by kernel_rfl⟩
 intro g_1;replace h:=zU g_1 h
 refine sk ?_
 refine sq ?_
 refine sr [(1,{ n:=(l_1).length })] [9,10,11] [] 0 [.sl false 1 (Ms l_1),Ii (lN (l_1)),Ii 0] [] zH (ac (yH _:((Ms l_1)).length=(l_1).length) an) ?_
 obtain ⟨o_1,h_1,h⟩:=bind_some h
 refine uR (K1:=(fun e st'=>match o_1 with | (.inl q0)=>e=.normal∧Sub 0 st' (mk [] [] 0) | (.inr q1)=>e=.ret∧kO prog Go.Proofs.Try.f90 0 [] (Ii q1) st')) ?_ ?_
 ·replace h:=h_1
  refine yU (id:=0) (by kernel_rfl) ?_
  refine wk [] [] [.s 9,.s 10,.s 11] [] [(9,.sl false 1 (Ms l_1)),(10,Ii (lN (l_1))),(11,Ii 0)] [] an ?_
  refine wT (fun n st=>∃ (v_1:Int),st=mk [(9,.sl false 1 (Ms l_1)),(10,Ii (lN (l_1))),(11,Ii v_1)] [] 0∧qO F l_1 n v_1=some o_1) F (by kernel_rfl) ⟨_,rfl,h⟩ ?_ ?_
  ·rintro _ ⟨_,_,h⟩;exact wV (h:(none:Option (Unit⊕Int))=some o_1)
  rintro n_1 _ ⟨v_1,rfl,h⟩
  replace h:tB F l_1 (qO F l_1 n_1) v_1=some o_1:=h
  unfold tB at h
  refine sr [] [9,10,11,12] [] 0 [.sl false 1 (Ms l_1),Ii (lN (l_1)),Ii v_1,.bool (decide (v_1<(lN (l_1))))] [] zH an ?_
  refine sq ?_
  refine cd 12 (decide (v_1<(lN (l_1)))) ?_ ?_
  rotate_left
  ·intro g_2;replace h:=zU g_2 h
   refine w5 (id:=0) (by kernel_rfl) ?_
   cases h
   exact ⟨rfl,(sw [] [] [] [] an)⟩
  intro g_2;replace h:=zT g_2 h
  refine sk ?_
  refine sq ?_
  refine yU (id:=1) (by kernel_rfl) ?_
  refine sq ?_
  obtain ⟨x_1,h_2,h⟩:=bind_some h
  refine rg [(0,{ av:=.str x_1 })] [4,9,10,11] [] 0 [.str x_1,.sl false 1 (Ms l_1),Ii (lN (l_1)),Ii v_1] [] zH (ac (wI h_2:vA (Ms l_1) v_1=some (.str x_1)) an) ?_
  refine sq ?_
  obtain ⟨r_1,h_3,h⟩:=bind_some h
  refine rg [(1,{ av:=Ii r_1,l:=[.str x_1] })] [5,9,10,11] [] 0 [Ii r_1,.sl false 1 (Ms l_1),Ii (lN (l_1)),Ii v_1] [] zH (ar ([.str x_1]:List AV) (ac (rfl:([]:List zO)=[]) (ac (zAL F x_1 r_1 h_3:zW prog 64 [] [] [.str x_1] [] (Ii r_1)) an))) ?_
  refine sr [] [5,9,10,11,18] [] 0 [Ii r_1,.sl false 1 (Ms l_1),Ii (lN (l_1)),Ii v_1,.bool (r_1 != (0:Int))] [] zH an ?_
  refine cd 18 (r_1 != (0:Int)) ?_ ?_
  rotate_left
  ·intro g_3;replace h:=zU g_3 h
   refine sk ?_
   refine rg [] [9,10,11] [] 0 [.sl false 1 (Ms l_1),Ii (lN (l_1)),Ii (zK (v_1+(1:Int)))] [] zH an ?_
   exact ⟨_,(sw [] [] [.s 9,.s 10,.s 11] [] an),_,rfl,h⟩
  intro g_3;replace h:=zT g_3 h
  refine sr [] [2] [] 0 [Ii r_1] [] zH an ?_
  refine rt ?_
  cases h
  exact ⟨rfl,Nat.le_of_ble_eq_true rfl,by kernel_rfl⟩
 intro e st1 hk
 rcases o_1 with q_1 | q_2
 rotate_left
 ·obtain ⟨rfl,hf⟩:=hk
  cases h
  exact ⟨st1,Sub.refl _ _,.inr rfl,hf⟩
 obtain ⟨rfl,hs⟩:=hk
 refine ⟨_,hs,?_⟩
 refine sr [] [2] [] 0 [Ii 0] [] zH an ?_
 refine rt ?_
 cases h
 exact ⟨.inr rfl,Nat.le_of_ble_eq_true rfl,by kernel_rfl⟩

theorem zGr (F:Nat) (f_1:zN) (e_1:zI) (r:Int) (h:pZ F f_1 e_1=some r):zW prog 85 [] [] [wE f_1,zE e_1] [] (Ii r):=by
 refine yK (fn:=Go.Proofs.Try.f85) (code:=xY Go.Proofs.Try.f85) (by kernel_rfl) (by kernel_rfl) (Nat.le_of_ble_eq_true (by kernel_rfl)) ?_
 unfold pZ at h
 refine sr [(0,{ id:=0 }),(1,{ id:=1 })] [2,3] [0,1] 2 [Pp 0,Pp 1] [Vb 127 (yI f_1),Vb 42 (z8 e_1)] zH an ?_
 refine sq ?_
 refine sr [] [3,6] [1] 2 [Pp 1,.bool f_1.name] [Vb 42 (z8 e_1)] zH an ?_
 refine cd 6 f_1.name ?_ ?_
 ·intro g_1;replace h:=zT g_1 h
  refine sq ?_
  obtain ⟨r_1,h_1,h⟩:=bind_some h
  refine rg [(2,{ av:=Ii r_1,l:=[.str e_1.Name] })] [4] [] 2 [Ii r_1] [] zH (ar ([.str e_1.Name]:List AV) (ac (rfl:([]:List zO)=[]) (ac (zAL F e_1.Name r_1 h_1:zW prog 64 [] [] [.str e_1.Name] [] (Ii r_1)) an))) ?_
  refine rt ?_
  cases h
  exact ⟨.inr rfl,Nat.le_of_ble_eq_true rfl,by kernel_rfl⟩
 intro g_1;replace h:=zU g_1 h
 refine sk ?_
 refine sq ?_
 obtain ⟨r_2,h_2,h⟩:=bind_some h
 refine rg [(2,{ av:=Ii r_2,l:=[.sl false 1 (Ms e_1.Stack)] })] [4] [] 2 [Ii r_2] [] zH (ar ([.sl false 1 (Ms e_1.Stack)]:List AV) (ac (rfl:([]:List zO)=[]) (ac (zEM F e_1.Stack r_2 h_2:zW prog 90 [] [] [.sl false 1 (Ms e_1.Stack)] [] (Ii r_2)) an))) ?_
 refine rt ?_
 cases h
 exact ⟨.inr rfl,Nat.le_of_ble_eq_true rfl,by kernel_rfl⟩

theorem zGc (F:Nat) (e_1:zI) (r:Int) (h:nD F e_1=some r):zW prog 74 [] [] [zE e_1] [] (Ii r):=by
 refine yK (fn:=Go.Proofs.Try.f74) (code:=xY Go.Proofs.Try.f74) (by kernel_rfl) (by kernel_rfl) (Nat.le_of_ble_eq_true (by kernel_rfl)) ?_
 unfold nD at h
 refine sr [(0,{ id:=0 })] [1] [0] 1 [Pp 0] [Vb 42 (z8 e_1)] zH an ?_
 refine sq ?_
 refine sq ?_
 refine wO (mk [(1,Pp 0),(13,.bool (decide (e_1.At<(0:Int))||decide (e_1.At>(1000000000000:Int))))] [(0,Vb 42 (z8 e_1))] 1) ?_ ?_
 ·rcases bft (decide (e_1.At<(0:Int))) with zL | zL
  ·refine rg [(4,Hg),(5,Hg),(6,Hg),(7,Ht)] [1,13] [0] 1 [Pp 0,.bool true] [Vb 42 (z8 e_1)] zH (ac zL (ac zL (ac zL (ac zL an)))) ?_
   exact ⟨rfl,(sw [0] [] [.s 1,.a 13 (.bool (decide (e_1.At<(0:Int))||decide (e_1.At>(1000000000000:Int))))] [.s 0] (ac (congrArg AV.bool (ort zL):(.bool true:AV)=.bool (decide (e_1.At<(0:Int))||decide (e_1.At>(1000000000000:Int)))) an))⟩
  ·refine rg [(7,Hf)] [1,13] [0] 1 [Pp 0,.bool (decide (e_1.At>(1000000000000:Int)))] [Vb 42 (z8 e_1)] zH (ac zL (ac zL (ac zL (ac zL an)))) ?_
   exact ⟨rfl,(sw [0] [] [.s 1,.a 13 (.bool (decide (e_1.At<(0:Int))||decide (e_1.At>(1000000000000:Int))))] [.s 0] (ac (congrArg AV.bool (orf zL rfl):(.bool (decide (e_1.At>(1000000000000:Int))):AV)=.bool (decide (e_1.At<(0:Int))||decide (e_1.At>(1000000000000:Int)))) an))⟩
 refine cd 13 (decide (e_1.At<(0:Int))||decide (e_1.At>(1000000000000:Int))) ?_ ?_
 ·intro g_1;replace h:=zT g_1 h
  refine sr [] [2] [] 1 [Ii 2] [] zH an ?_
  refine rt ?_
  cases h
  exact ⟨.inr rfl,Nat.le_of_ble_eq_true rfl,by kernel_rfl⟩
 intro g_1;replace h:=zU g_1 h
 refine sk ?_
 refine sq ?_
 obtain ⟨r_1,h_1,h⟩:=bind_some h
 refine rg [(2,{ av:=.tuple [wE r_1.1,.bool r_1.2],l:=[Ii e_1.Kind] }),(6,{ id:=1 })] [1,3,4] [0,1] 2 [Pp 0,Pp 1,.bool r_1.2] [Vb 42 (z8 e_1),Vb 127 (yI r_1.1)] zH (ar ([Ii e_1.Kind]:List AV) (ac (rfl:([]:List zO)=[]) (ac (zFy e_1.Kind r_1 h_1:zW prog 84 [] [] [Ii e_1.Kind] [] (.tuple [wE r_1.1,.bool r_1.2])) an))) ?_
 refine sq ?_
 refine sq ?_
 obtain ⟨p_1,h_2,h⟩:=bind_some h
 refine wO (mk [(1,Pp 0),(3,Pp 1),(62,.bool p_1)] [(0,Vb 42 (z8 e_1)),(1,Vb 127 (yI r_1.1))] 2) ?_ ?_
 ·replace h:=h_2
  rcases bft (!r_1.2) with zJ | zJ
  ·replace h:=zT zJ h
   refine rg [(3,Hg),(4,Hg),(5,Hg),(6,Hg),(10,Hg),(11,Ht),(13,Hg),(14,Hg),(15,Hg),(16,Hg),(20,Hg),(21,Ht),(23,Hg),(24,Hg),(25,Hg),(26,Hg),(30,Hg),(31,Ht),(33,Hg),(34,Hg),(35,Hg),(36,Hg),(41,Hg),(42,Ht)] [1,3,62] [0,1] 2 [Pp 0,Pp 1,.bool true] [Vb 42 (z8 e_1),Vb 127 (yI r_1.1)] zH (ac zJ (ac zJ (ac zJ (ac zJ (ac zJ (ac zJ (ax (ax (ax (ax (ax (ar true (ax (ax (ax (ax (ax (ar true (ax (ax (ax (ax (ax (ar true an)))))))))))))))))))))))) ?_
   cases h
   exact ⟨rfl,(sw [0,1] [] [.s 1,.s 3,.s 62] [.s 0,.s 1] an)⟩
  ·replace h:=zU zJ h
   rcases bft (!r_1.1.name) with zV | zV
   ·replace h:=zT zV h
    rcases bft (!(e_1.Name==([]:List Int))) with zZ | zZ
    ·replace h:=zT zZ h
     refine rg [(10,Ht),(11,Hf),(13,Hg),(14,Hg),(15,Hg),(16,Hg),(20,Hg),(21,Ht),(23,Hg),(24,Hg),(25,Hg),(26,Hg),(30,Hg),(31,Ht),(33,Hg),(34,Hg),(35,Hg),(36,Hg),(41,Hg),(42,Ht)] [1,3,62] [0,1] 2 [Pp 0,Pp 1,.bool true] [Vb 42 (z8 e_1),Vb 127 (yI r_1.1)] zH (ac zJ (ac zJ (ac zJ (ac zJ (ac zV (ac zV (ac zV (ac zJ (ac zV (ac zJ (ac zZ (ac zZ (ac zZ (ac zZ (ac zZ (ac zZ (ax (ax (ax (ax (ax (ar true (ax (ax (ax (ax (ax (ar true an)))))))))))))))))))))))))))) ?_
     cases h
     exact ⟨rfl,(sw [0,1] [] [.s 1,.s 3,.s 62] [.s 0,.s 1] an)⟩
    ·replace h:=zU zZ h
     rcases bft (!r_1.1.n) with yV | yV
     ·replace h:=zT yV h
      rcases bft (e_1.N != (0:Int)) with wC | wC
      ·replace h:=zT wC h
       refine rg [(10,Ht),(11,Hf),(20,Ht),(21,Hf),(23,Hg),(24,Hg),(25,Hg),(26,Hg),(30,Hg),(31,Ht),(33,Hg),(34,Hg),(35,Hg),(36,Hg),(41,Hg),(42,Ht)] [1,3,62] [0,1] 2 [Pp 0,Pp 1,.bool true] [Vb 42 (z8 e_1),Vb 127 (yI r_1.1)] zH (ac zJ (ac zJ (ac zJ (ac zJ (ac zV (ac zV (ac zV (ac zJ (ac zV (ac zJ (ac zZ (ac zZ (ac zZ (ac zZ (ac yV (ac yV (ac yV (ac zZ (ac yV (ac zZ (ac wC (ac wC (ac wC (ac wC (ac wC (ac wC (ax (ax (ax (ax (ax (ar true an)))))))))))))))))))))))))))))))) ?_
       cases h
       exact ⟨rfl,(sw [0,1] [] [.s 1,.s 3,.s 62] [.s 0,.s 1] an)⟩
      ·replace h:=zU wC h
       rcases bft (!r_1.1.m) with x9 | x9
       ·replace h:=zT x9 h
        rcases bft (e_1.M != (0:Int)) with x8 | x8
        ·replace h:=zT x8 h
         refine rg [(10,Ht),(11,Hf),(20,Ht),(21,Hf),(30,Ht),(31,Hf),(33,Hg),(34,Hg),(35,Hg),(36,Hg),(41,Hg),(42,Ht)] [1,3,62] [0,1] 2 [Pp 0,Pp 1,.bool true] [Vb 42 (z8 e_1),Vb 127 (yI r_1.1)] zH (ac zJ (ac zJ (ac zJ (ac zJ (ac zV (ac zV (ac zV (ac zJ (ac zV (ac zJ (ac zZ (ac zZ (ac zZ (ac zZ (ac yV (ac yV (ac yV (ac zZ (ac yV (ac zZ (ac wC (ac wC (ac wC (ac wC (ac x9 (ac x9 (ac x9 (ac wC (ac x9 (ac wC (ac x8 (ac x8 (ac x8 (ac x8 (ac x8 (ac x8 an)))))))))))))))))))))))))))))))))))) ?_
         cases h
         exact ⟨rfl,(sw [0,1] [] [.s 1,.s 3,.s 62] [.s 0,.s 1] an)⟩
        ·replace h:=zU x8 h
         rcases bft (!r_1.1.stack) with vD | vD
         ·replace h:=zT vD h
          refine rg [(10,Ht),(11,Hf),(20,Ht),(21,Hf),(30,Ht),(31,Hf),(39,{ n:=(e_1.Stack).length }),(41,Ht),(42,Hf)] [1,3,62] [0,1] 2 [Pp 0,Pp 1,.bool (decide ((lN (e_1.Stack))>(0:Int)))] [Vb 42 (z8 e_1),Vb 127 (yI r_1.1)] zH (ac zJ (ac zJ (ac zJ (ac zJ (ac zV (ac zV (ac zV (ac zJ (ac zV (ac zJ (ac zZ (ac zZ (ac zZ (ac zZ (ac yV (ac yV (ac yV (ac zZ (ac yV (ac zZ (ac wC (ac wC (ac wC (ac wC (ac x9 (ac x9 (ac x9 (ac wC (ac x9 (ac wC (ac x8 (ac x8 (ac x8 (ac x8 (ac vD (ac vD (ac vD (ac (yH _:((Ms e_1.Stack)).length=(e_1.Stack).length) (ac vD (ac x8 (ac vD (ac x8 an)))))))))))))))))))))))))))))))))))))))))) ?_
          cases h
          exact ⟨rfl,(sw [0,1] [] [.s 1,.s 3,.s 62] [.s 0,.s 1] an)⟩
         ·replace h:=zU vD h
          refine rg [(10,Ht),(11,Hf),(20,Ht),(21,Hf),(30,Ht),(31,Hf),(37,Hg),(38,Hg),(39,Hg),(40,Hg),(41,Hf),(42,Hf)] [1,3,62] [0,1] 2 [Pp 0,Pp 1,.bool false] [Vb 42 (z8 e_1),Vb 127 (yI r_1.1)] zH (ac zJ (ac zJ (ac zJ (ac zJ (ac zV (ac zV (ac zV (ac zJ (ac zV (ac zJ (ac zZ (ac zZ (ac zZ (ac zZ (ac yV (ac yV (ac yV (ac zZ (ac yV (ac zZ (ac wC (ac wC (ac wC (ac wC (ac x9 (ac x9 (ac x9 (ac wC (ac x9 (ac wC (ac x8 (ac x8 (ac x8 (ac x8 (ac vD (ac vD (ac vD (ac vD (ac x8 (ac vD (ac x8 an))))))))))))))))))))))))))))))))))))))))) ?_
          cases h
          exact ⟨rfl,(sw [0,1] [] [.s 1,.s 3,.s 62] [.s 0,.s 1] an)⟩
       ·replace h:=zU x9 h
        rcases bft (!r_1.1.stack) with x7 | x7
        ·replace h:=zT x7 h
         refine rg [(10,Ht),(11,Hf),(20,Ht),(21,Hf),(27,Hg),(28,Hg),(29,Hg),(30,Hf),(31,Hf),(39,{ n:=(e_1.Stack).length }),(41,Ht),(42,Hf)] [1,3,62] [0,1] 2 [Pp 0,Pp 1,.bool (decide ((lN (e_1.Stack))>(0:Int)))] [Vb 42 (z8 e_1),Vb 127 (yI r_1.1)] zH (ac zJ (ac zJ (ac zJ (ac zJ (ac zV (ac zV (ac zV (ac zJ (ac zV (ac zJ (ac zZ (ac zZ (ac zZ (ac zZ (ac yV (ac yV (ac yV (ac zZ (ac yV (ac zZ (ac wC (ac wC (ac wC (ac wC (ac x9 (ac x9 (ac x9 (ac wC (ac x9 (ac wC (ar false (ar false (ar false (ar false (ac x7 (ac x7 (ac x7 (ac (yH _:((Ms e_1.Stack)).length=(e_1.Stack).length) (ac x7 (ar false (ac x7 (ar false an)))))))))))))))))))))))))))))))))))))))))) ?_
         cases h
         exact ⟨rfl,(sw [0,1] [] [.s 1,.s 3,.s 62] [.s 0,.s 1] an)⟩
        ·replace h:=zU x7 h
         refine rg [(10,Ht),(11,Hf),(20,Ht),(21,Hf),(27,Hg),(28,Hg),(29,Hg),(30,Hf),(31,Hf),(37,Hg),(38,Hg),(39,Hg),(40,Hg),(41,Hf),(42,Hf)] [1,3,62] [0,1] 2 [Pp 0,Pp 1,.bool false] [Vb 42 (z8 e_1),Vb 127 (yI r_1.1)] zH (ac zJ (ac zJ (ac zJ (ac zJ (ac zV (ac zV (ac zV (ac zJ (ac zV (ac zJ (ac zZ (ac zZ (ac zZ (ac zZ (ac yV (ac yV (ac yV (ac zZ (ac yV (ac zZ (ac wC (ac wC (ac wC (ac wC (ac x9 (ac x9 (ac x9 (ac wC (ac x9 (ac wC (ar false (ar false (ar false (ar false (ac x7 (ac x7 (ac x7 (ac x7 (ar false (ac x7 (ar false an))))))))))))))))))))))))))))))))))))))))) ?_
         cases h
         exact ⟨rfl,(sw [0,1] [] [.s 1,.s 3,.s 62] [.s 0,.s 1] an)⟩
     ·replace h:=zU yV h
      rcases bft (!r_1.1.m) with wM | wM
      ·replace h:=zT wM h
       rcases bft (e_1.M != (0:Int)) with wZ | wZ
       ·replace h:=zT wZ h
        refine rg [(10,Ht),(11,Hf),(17,Hg),(18,Hg),(19,Hg),(20,Hf),(21,Hf),(30,Ht),(31,Hf),(33,Hg),(34,Hg),(35,Hg),(36,Hg),(41,Hg),(42,Ht)] [1,3,62] [0,1] 2 [Pp 0,Pp 1,.bool true] [Vb 42 (z8 e_1),Vb 127 (yI r_1.1)] zH (ac zJ (ac zJ (ac zJ (ac zJ (ac zV (ac zV (ac zV (ac zJ (ac zV (ac zJ (ac zZ (ac zZ (ac zZ (ac zZ (ac yV (ac yV (ac yV (ac zZ (ac yV (ac zZ (ar false (ar false (ar false (ar false (ac wM (ac wM (ac wM (ar false (ac wM (ar false (ac wZ (ac wZ (ac wZ (ac wZ (ac wZ (ac wZ an)))))))))))))))))))))))))))))))))))) ?_
        cases h
        exact ⟨rfl,(sw [0,1] [] [.s 1,.s 3,.s 62] [.s 0,.s 1] an)⟩
       ·replace h:=zU wZ h
        rcases bft (!r_1.1.stack) with uY | uY
        ·replace h:=zT uY h
         refine rg [(10,Ht),(11,Hf),(17,Hg),(18,Hg),(19,Hg),(20,Hf),(21,Hf),(30,Ht),(31,Hf),(39,{ n:=(e_1.Stack).length }),(41,Ht),(42,Hf)] [1,3,62] [0,1] 2 [Pp 0,Pp 1,.bool (decide ((lN (e_1.Stack))>(0:Int)))] [Vb 42 (z8 e_1),Vb 127 (yI r_1.1)] zH (ac zJ (ac zJ (ac zJ (ac zJ (ac zV (ac zV (ac zV (ac zJ (ac zV (ac zJ (ac zZ (ac zZ (ac zZ (ac zZ (ac yV (ac yV (ac yV (ac zZ (ac yV (ac zZ (ar false (ar false (ar false (ar false (ac wM (ac wM (ac wM (ar false (ac wM (ar false (ac wZ (ac wZ (ac wZ (ac wZ (ac uY (ac uY (ac uY (ac (yH _:((Ms e_1.Stack)).length=(e_1.Stack).length) (ac uY (ac wZ (ac uY (ac wZ an)))))))))))))))))))))))))))))))))))))))))) ?_
         cases h
         exact ⟨rfl,(sw [0,1] [] [.s 1,.s 3,.s 62] [.s 0,.s 1] an)⟩
        ·replace h:=zU uY h
         refine rg [(10,Ht),(11,Hf),(17,Hg),(18,Hg),(19,Hg),(20,Hf),(21,Hf),(30,Ht),(31,Hf),(37,Hg),(38,Hg),(39,Hg),(40,Hg),(41,Hf),(42,Hf)] [1,3,62] [0,1] 2 [Pp 0,Pp 1,.bool false] [Vb 42 (z8 e_1),Vb 127 (yI r_1.1)] zH (ac zJ (ac zJ (ac zJ (ac zJ (ac zV (ac zV (ac zV (ac zJ (ac zV (ac zJ (ac zZ (ac zZ (ac zZ (ac zZ (ac yV (ac yV (ac yV (ac zZ (ac yV (ac zZ (ar false (ar false (ar false (ar false (ac wM (ac wM (ac wM (ar false (ac wM (ar false (ac wZ (ac wZ (ac wZ (ac wZ (ac uY (ac uY (ac uY (ac uY (ac wZ (ac uY (ac wZ an))))))))))))))))))))))))))))))))))))))))) ?_
         cases h
         exact ⟨rfl,(sw [0,1] [] [.s 1,.s 3,.s 62] [.s 0,.s 1] an)⟩
      ·replace h:=zU wM h
       rcases bft (!r_1.1.stack) with u6 | u6
       ·replace h:=zT u6 h
        refine rg [(10,Ht),(11,Hf),(17,Hg),(18,Hg),(19,Hg),(20,Hf),(21,Hf),(27,Hg),(28,Hg),(29,Hg),(30,Hf),(31,Hf),(39,{ n:=(e_1.Stack).length }),(41,Ht),(42,Hf)] [1,3,62] [0,1] 2 [Pp 0,Pp 1,.bool (decide ((lN (e_1.Stack))>(0:Int)))] [Vb 42 (z8 e_1),Vb 127 (yI r_1.1)] zH (ac zJ (ac zJ (ac zJ (ac zJ (ac zV (ac zV (ac zV (ac zJ (ac zV (ac zJ (ac zZ (ac zZ (ac zZ (ac zZ (ac yV (ac yV (ac yV (ac zZ (ac yV (ac zZ (ar false (ar false (ar false (ar false (ac wM (ac wM (ac wM (ar false (ac wM (ar false (ar false (ar false (ar false (ar false (ac u6 (ac u6 (ac u6 (ac (yH _:((Ms e_1.Stack)).length=(e_1.Stack).length) (ac u6 (ar false (ac u6 (ar false an)))))))))))))))))))))))))))))))))))))))))) ?_
        cases h
        exact ⟨rfl,(sw [0,1] [] [.s 1,.s 3,.s 62] [.s 0,.s 1] an)⟩
       ·replace h:=zU u6 h
        refine rg [(10,Ht),(11,Hf),(17,Hg),(18,Hg),(19,Hg),(20,Hf),(21,Hf),(27,Hg),(28,Hg),(29,Hg),(30,Hf),(31,Hf),(37,Hg),(38,Hg),(39,Hg),(40,Hg),(41,Hf),(42,Hf)] [1,3,62] [0,1] 2 [Pp 0,Pp 1,.bool false] [Vb 42 (z8 e_1),Vb 127 (yI r_1.1)] zH (ac zJ (ac zJ (ac zJ (ac zJ (ac zV (ac zV (ac zV (ac zJ (ac zV (ac zJ (ac zZ (ac zZ (ac zZ (ac zZ (ac yV (ac yV (ac yV (ac zZ (ac yV (ac zZ (ar false (ar false (ar false (ar false (ac wM (ac wM (ac wM (ar false (ac wM (ar false (ar false (ar false (ar false (ar false (ac u6 (ac u6 (ac u6 (ac u6 (ar false (ac u6 (ar false an))))))))))))))))))))))))))))))))))))))))) ?_
        cases h
        exact ⟨rfl,(sw [0,1] [] [.s 1,.s 3,.s 62] [.s 0,.s 1] an)⟩
   ·replace h:=zU zV h
    rcases bft (!r_1.1.n) with wU | wU
    ·replace h:=zT wU h
     rcases bft (e_1.N != (0:Int)) with vH | vH
     ·replace h:=zT vH h
      refine rg [(7,Hg),(8,Hg),(9,Hg),(10,Hf),(11,Hf),(20,Ht),(21,Hf),(23,Hg),(24,Hg),(25,Hg),(26,Hg),(30,Hg),(31,Ht),(33,Hg),(34,Hg),(35,Hg),(36,Hg),(41,Hg),(42,Ht)] [1,3,62] [0,1] 2 [Pp 0,Pp 1,.bool true] [Vb 42 (z8 e_1),Vb 127 (yI r_1.1)] zH (ac zJ (ac zJ (ac zJ (ac zJ (ac zV (ac zV (ac zV (ac zJ (ac zV (ac zJ (ar false (ar false (ar false (ar false (ac wU (ac wU (ac wU (ar false (ac wU (ar false (ac vH (ac vH (ac vH (ac vH (ac vH (ac vH (ax (ax (ax (ax (ax (ar true an)))))))))))))))))))))))))))))))) ?_
      cases h
      exact ⟨rfl,(sw [0,1] [] [.s 1,.s 3,.s 62] [.s 0,.s 1] an)⟩
     ·replace h:=zU vH h
      rcases bft (!r_1.1.m) with tI | tI
      ·replace h:=zT tI h
       rcases bft (e_1.M != (0:Int)) with tV | tV
       ·replace h:=zT tV h
        refine rg [(7,Hg),(8,Hg),(9,Hg),(10,Hf),(11,Hf),(20,Ht),(21,Hf),(30,Ht),(31,Hf),(33,Hg),(34,Hg),(35,Hg),(36,Hg),(41,Hg),(42,Ht)] [1,3,62] [0,1] 2 [Pp 0,Pp 1,.bool true] [Vb 42 (z8 e_1),Vb 127 (yI r_1.1)] zH (ac zJ (ac zJ (ac zJ (ac zJ (ac zV (ac zV (ac zV (ac zJ (ac zV (ac zJ (ar false (ar false (ar false (ar false (ac wU (ac wU (ac wU (ar false (ac wU (ar false (ac vH (ac vH (ac vH (ac vH (ac tI (ac tI (ac tI (ac vH (ac tI (ac vH (ac tV (ac tV (ac tV (ac tV (ac tV (ac tV an)))))))))))))))))))))))))))))))))))) ?_
        cases h
        exact ⟨rfl,(sw [0,1] [] [.s 1,.s 3,.s 62] [.s 0,.s 1] an)⟩
       ·replace h:=zU tV h
        rcases bft (!r_1.1.stack) with pO | pO
        ·replace h:=zT pO h
         refine rg [(7,Hg),(8,Hg),(9,Hg),(10,Hf),(11,Hf),(20,Ht),(21,Hf),(30,Ht),(31,Hf),(39,{ n:=(e_1.Stack).length }),(41,Ht),(42,Hf)] [1,3,62] [0,1] 2 [Pp 0,Pp 1,.bool (decide ((lN (e_1.Stack))>(0:Int)))] [Vb 42 (z8 e_1),Vb 127 (yI r_1.1)] zH (ac zJ (ac zJ (ac zJ (ac zJ (ac zV (ac zV (ac zV (ac zJ (ac zV (ac zJ (ar false (ar false (ar false (ar false (ac wU (ac wU (ac wU (ar false (ac wU (ar false (ac vH (ac vH (ac vH (ac vH (ac tI (ac tI (ac tI (ac vH (ac tI (ac vH (ac tV (ac tV (ac tV (ac tV (ac pO (ac pO (ac pO (ac (yH _:((Ms e_1.Stack)).length=(e_1.Stack).length) (ac pO (ac tV (ac pO (ac tV an)))))))))))))))))))))))))))))))))))))))))) ?_
         cases h
         exact ⟨rfl,(sw [0,1] [] [.s 1,.s 3,.s 62] [.s 0,.s 1] an)⟩
        ·replace h:=zU pO h
         refine rg [(7,Hg),(8,Hg),(9,Hg),(10,Hf),(11,Hf),(20,Ht),(21,Hf),(30,Ht),(31,Hf),(37,Hg),(38,Hg),(39,Hg),(40,Hg),(41,Hf),(42,Hf)] [1,3,62] [0,1] 2 [Pp 0,Pp 1,.bool false] [Vb 42 (z8 e_1),Vb 127 (yI r_1.1)] zH (ac zJ (ac zJ (ac zJ (ac zJ (ac zV (ac zV (ac zV (ac zJ (ac zV (ac zJ (ar false (ar false (ar false (ar false (ac wU (ac wU (ac wU (ar false (ac wU (ar false (ac vH (ac vH (ac vH (ac vH (ac tI (ac tI (ac tI (ac vH (ac tI (ac vH (ac tV (ac tV (ac tV (ac tV (ac pO (ac pO (ac pO (ac pO (ac tV (ac pO (ac tV an))))))))))))))))))))))))))))))))))))))))) ?_
         cases h
         exact ⟨rfl,(sw [0,1] [] [.s 1,.s 3,.s 62] [.s 0,.s 1] an)⟩
      ·replace h:=zU tI h
       rcases bft (!r_1.1.stack) with pP | pP
       ·replace h:=zT pP h
        refine rg [(7,Hg),(8,Hg),(9,Hg),(10,Hf),(11,Hf),(20,Ht),(21,Hf),(27,Hg),(28,Hg),(29,Hg),(30,Hf),(31,Hf),(39,{ n:=(e_1.Stack).length }),(41,Ht),(42,Hf)] [1,3,62] [0,1] 2 [Pp 0,Pp 1,.bool (decide ((lN (e_1.Stack))>(0:Int)))] [Vb 42 (z8 e_1),Vb 127 (yI r_1.1)] zH (ac zJ (ac zJ (ac zJ (ac zJ (ac zV (ac zV (ac zV (ac zJ (ac zV (ac zJ (ar false (ar false (ar false (ar false (ac wU (ac wU (ac wU (ar false (ac wU (ar false (ac vH (ac vH (ac vH (ac vH (ac tI (ac tI (ac tI (ac vH (ac tI (ac vH (ar false (ar false (ar false (ar false (ac pP (ac pP (ac pP (ac (yH _:((Ms e_1.Stack)).length=(e_1.Stack).length) (ac pP (ar false (ac pP (ar false an)))))))))))))))))))))))))))))))))))))))))) ?_
        cases h
        exact ⟨rfl,(sw [0,1] [] [.s 1,.s 3,.s 62] [.s 0,.s 1] an)⟩
       ·replace h:=zU pP h
        refine rg [(7,Hg),(8,Hg),(9,Hg),(10,Hf),(11,Hf),(20,Ht),(21,Hf),(27,Hg),(28,Hg),(29,Hg),(30,Hf),(31,Hf),(37,Hg),(38,Hg),(39,Hg),(40,Hg),(41,Hf),(42,Hf)] [1,3,62] [0,1] 2 [Pp 0,Pp 1,.bool false] [Vb 42 (z8 e_1),Vb 127 (yI r_1.1)] zH (ac zJ (ac zJ (ac zJ (ac zJ (ac zV (ac zV (ac zV (ac zJ (ac zV (ac zJ (ar false (ar false (ar false (ar false (ac wU (ac wU (ac wU (ar false (ac wU (ar false (ac vH (ac vH (ac vH (ac vH (ac tI (ac tI (ac tI (ac vH (ac tI (ac vH (ar false (ar false (ar false (ar false (ac pP (ac pP (ac pP (ac pP (ar false (ac pP (ar false an))))))))))))))))))))))))))))))))))))))))) ?_
        cases h
        exact ⟨rfl,(sw [0,1] [] [.s 1,.s 3,.s 62] [.s 0,.s 1] an)⟩
    ·replace h:=zU wU h
     rcases bft (!r_1.1.m) with tJ | tJ
     ·replace h:=zT tJ h
      rcases bft (e_1.M != (0:Int)) with tW | tW
      ·replace h:=zT tW h
       refine rg [(7,Hg),(8,Hg),(9,Hg),(10,Hf),(11,Hf),(17,Hg),(18,Hg),(19,Hg),(20,Hf),(21,Hf),(30,Ht),(31,Hf),(33,Hg),(34,Hg),(35,Hg),(36,Hg),(41,Hg),(42,Ht)] [1,3,62] [0,1] 2 [Pp 0,Pp 1,.bool true] [Vb 42 (z8 e_1),Vb 127 (yI r_1.1)] zH (ac zJ (ac zJ (ac zJ (ac zJ (ac zV (ac zV (ac zV (ac zJ (ac zV (ac zJ (ar false (ar false (ar false (ar false (ac wU (ac wU (ac wU (ar false (ac wU (ar false (ar false (ar false (ar false (ar false (ac tJ (ac tJ (ac tJ (ar false (ac tJ (ar false (ac tW (ac tW (ac tW (ac tW (ac tW (ac tW an)))))))))))))))))))))))))))))))))))) ?_
       cases h
       exact ⟨rfl,(sw [0,1] [] [.s 1,.s 3,.s 62] [.s 0,.s 1] an)⟩
      ·replace h:=zU tW h
       rcases bft (!r_1.1.stack) with pQ | pQ
       ·replace h:=zT pQ h
        refine rg [(7,Hg),(8,Hg),(9,Hg),(10,Hf),(11,Hf),(17,Hg),(18,Hg),(19,Hg),(20,Hf),(21,Hf),(30,Ht),(31,Hf),(39,{ n:=(e_1.Stack).length }),(41,Ht),(42,Hf)] [1,3,62] [0,1] 2 [Pp 0,Pp 1,.bool (decide ((lN (e_1.Stack))>(0:Int)))] [Vb 42 (z8 e_1),Vb 127 (yI r_1.1)] zH (ac zJ (ac zJ (ac zJ (ac zJ (ac zV (ac zV (ac zV (ac zJ (ac zV (ac zJ (ar false (ar false (ar false (ar false (ac wU (ac wU (ac wU (ar false (ac wU (ar false (ar false (ar false (ar false (ar false (ac tJ (ac tJ (ac tJ (ar false (ac tJ (ar false (ac tW (ac tW (ac tW (ac tW (ac pQ (ac pQ (ac pQ (ac (yH _:((Ms e_1.Stack)).length=(e_1.Stack).length) (ac pQ (ac tW (ac pQ (ac tW an)))))))))))))))))))))))))))))))))))))))))) ?_
        cases h
        exact ⟨rfl,(sw [0,1] [] [.s 1,.s 3,.s 62] [.s 0,.s 1] an)⟩
       ·replace h:=zU pQ h
        refine rg [(7,Hg),(8,Hg),(9,Hg),(10,Hf),(11,Hf),(17,Hg),(18,Hg),(19,Hg),(20,Hf),(21,Hf),(30,Ht),(31,Hf),(37,Hg),(38,Hg),(39,Hg),(40,Hg),(41,Hf),(42,Hf)] [1,3,62] [0,1] 2 [Pp 0,Pp 1,.bool false] [Vb 42 (z8 e_1),Vb 127 (yI r_1.1)] zH (ac zJ (ac zJ (ac zJ (ac zJ (ac zV (ac zV (ac zV (ac zJ (ac zV (ac zJ (ar false (ar false (ar false (ar false (ac wU (ac wU (ac wU (ar false (ac wU (ar false (ar false (ar false (ar false (ar false (ac tJ (ac tJ (ac tJ (ar false (ac tJ (ar false (ac tW (ac tW (ac tW (ac tW (ac pQ (ac pQ (ac pQ (ac pQ (ac tW (ac pQ (ac tW an))))))))))))))))))))))))))))))))))))))))) ?_
        cases h
        exact ⟨rfl,(sw [0,1] [] [.s 1,.s 3,.s 62] [.s 0,.s 1] an)⟩
     ·replace h:=zU tJ h
      rcases bft (!r_1.1.stack) with pR | pR
      ·replace h:=zT pR h
       refine rg [(7,Hg),(8,Hg),(9,Hg),(10,Hf),(11,Hf),(17,Hg),(18,Hg),(19,Hg),(20,Hf),(21,Hf),(27,Hg),(28,Hg),(29,Hg),(30,Hf),(31,Hf),(39,{ n:=(e_1.Stack).length }),(41,Ht),(42,Hf)] [1,3,62] [0,1] 2 [Pp 0,Pp 1,.bool (decide ((lN (e_1.Stack))>(0:Int)))] [Vb 42 (z8 e_1),Vb 127 (yI r_1.1)] zH (ac zJ (ac zJ (ac zJ (ac zJ (ac zV (ac zV (ac zV (ac zJ (ac zV (ac zJ (ar false (ar false (ar false (ar false (ac wU (ac wU (ac wU (ar false (ac wU (ar false (ar false (ar false (ar false (ar false (ac tJ (ac tJ (ac tJ (ar false (ac tJ (ar false (ar false (ar false (ar false (ar false (ac pR (ac pR (ac pR (ac (yH _:((Ms e_1.Stack)).length=(e_1.Stack).length) (ac pR (ar false (ac pR (ar false an)))))))))))))))))))))))))))))))))))))))))) ?_
       cases h
       exact ⟨rfl,(sw [0,1] [] [.s 1,.s 3,.s 62] [.s 0,.s 1] an)⟩
      ·replace h:=zU pR h
       refine rg [(7,Hg),(8,Hg),(9,Hg),(10,Hf),(11,Hf),(17,Hg),(18,Hg),(19,Hg),(20,Hf),(21,Hf),(27,Hg),(28,Hg),(29,Hg),(30,Hf),(31,Hf),(37,Hg),(38,Hg),(39,Hg),(40,Hg),(41,Hf),(42,Hf)] [1,3,62] [0,1] 2 [Pp 0,Pp 1,.bool false] [Vb 42 (z8 e_1),Vb 127 (yI r_1.1)] zH (ac zJ (ac zJ (ac zJ (ac zJ (ac zV (ac zV (ac zV (ac zJ (ac zV (ac zJ (ar false (ar false (ar false (ar false (ac wU (ac wU (ac wU (ar false (ac wU (ar false (ar false (ar false (ar false (ar false (ac tJ (ac tJ (ac tJ (ar false (ac tJ (ar false (ar false (ar false (ar false (ar false (ac pR (ac pR (ac pR (ac pR (ar false (ac pR (ar false an))))))))))))))))))))))))))))))))))))))))) ?_
       cases h
       exact ⟨rfl,(sw [0,1] [] [.s 1,.s 3,.s 62] [.s 0,.s 1] an)⟩
 refine cd 62 p_1 ?_ ?_
 ·intro g_2;replace h:=zT g_2 h
  refine sr [] [2] [] 2 [Ii 1] [] zH an ?_
  refine rt ?_
  cases h
  exact ⟨.inr rfl,Nat.le_of_ble_eq_true rfl,by kernel_rfl⟩
 intro g_2;replace h:=zU g_2 h
 refine sk ?_
 refine sq ?_
 refine sq ?_
 obtain ⟨r_2,h_3,h⟩:=bind_some h
 refine rg [(2,{ av:=Ii r_2,l:=[wE r_1.1,zE e_1] })] [1,3,5] [0,1] 2 [Pp 0,Pp 1,Ii r_2] [Vb 42 (z8 e_1),Vb 127 (yI r_1.1)] zH (ar ([wE r_1.1,zE e_1]:List AV) (ac (rfl:([]:List zO)=[]) (ac (zGr F r_1.1 e_1 r_2 h_3:zW prog 85 [] [] [wE r_1.1,zE e_1] [] (Ii r_2)) an))) ?_
 refine sr [] [1,3,5,67] [0,1] 2 [Pp 0,Pp 1,Ii r_2,.bool (r_2 != (0:Int))] [Vb 42 (z8 e_1),Vb 127 (yI r_1.1)] zH an ?_
 refine cd 67 (r_2 != (0:Int)) ?_ ?_
 ·intro g_3;replace h:=zT g_3 h
  refine sr [] [2] [] 2 [Ii r_2] [] zH an ?_
  refine rt ?_
  cases h
  exact ⟨.inr rfl,Nat.le_of_ble_eq_true rfl,by kernel_rfl⟩
 intro g_3;replace h:=zU g_3 h
 refine sk ?_
 refine sq ?_
 refine yU (id:=0) (by kernel_rfl) ?_
 refine sq ?_
 refine wO (mk [(1,Pp 0),(3,Pp 1),(69,.bool (r_1.1.n&&(decide (e_1.N<r_1.1.least)||decide (e_1.N>r_1.1.most))))] [(0,Vb 42 (z8 e_1)),(1,Vb 127 (yI r_1.1))] 2) ?_ ?_
 ·rcases Bool.eq_false_or_eq_true r_1.1.n with uK | uK
  ·rcases bft (decide (e_1.N<r_1.1.least)) with kD | kD
   ·refine rg [(9,Hg),(10,Hg),(11,Hg),(12,Hg),(13,Hg),(14,Ht),(15,Ht)] [1,3,69] [0,1] 2 [Pp 0,Pp 1,.bool true] [Vb 42 (z8 e_1),Vb 127 (yI r_1.1)] zH (ac uK (ac uK (ac uK (ac uK (ac uK (ac uK (ac kD (ac kD (ac kD (ac kD (ac kD (ac uK (ac kD (ac uK an)))))))))))))) ?_
    exact ⟨rfl,(sw [0,1] [] [.s 1,.s 3,.a 69 (.bool (r_1.1.n&&(decide (e_1.N<r_1.1.least)||decide (e_1.N>r_1.1.most))))] [.s 0,.s 1] (ac (congrArg AV.bool (t3 uK (ort kD)):(.bool true:AV)=.bool (r_1.1.n&&(decide (e_1.N<r_1.1.least)||decide (e_1.N>r_1.1.most)))) an))⟩
   ·refine rg [(14,Hf),(15,Ht)] [1,3,69] [0,1] 2 [Pp 0,Pp 1,.bool (decide (e_1.N>r_1.1.most))] [Vb 42 (z8 e_1),Vb 127 (yI r_1.1)] zH (ac uK (ac uK (ac uK (ac uK (ac uK (ac uK (ac kD (ac kD (ac kD (ac kD (ac kD (ac uK (ac kD (ac uK an)))))))))))))) ?_
    exact ⟨rfl,(sw [0,1] [] [.s 1,.s 3,.a 69 (.bool (r_1.1.n&&(decide (e_1.N<r_1.1.least)||decide (e_1.N>r_1.1.most))))] [.s 0,.s 1] (ac (congrArg AV.bool (t3 uK (orf kD rfl)):(.bool (decide (e_1.N>r_1.1.most)):AV)=.bool (r_1.1.n&&(decide (e_1.N<r_1.1.least)||decide (e_1.N>r_1.1.most)))) an))⟩
  ·refine rg [(3,Hg),(4,Hg),(5,Hg),(6,Hg),(7,Hg),(8,Hg),(14,Hg),(15,Hf)] [1,3,69] [0,1] 2 [Pp 0,Pp 1,.bool false] [Vb 42 (z8 e_1),Vb 127 (yI r_1.1)] zH (ac uK (ac uK (ac uK (ac uK (ac uK (ac uK (ac uK (ac uK an)))))))) ?_
   exact ⟨rfl,(sw [0,1] [] [.s 1,.s 3,.a 69 (.bool (r_1.1.n&&(decide (e_1.N<r_1.1.least)||decide (e_1.N>r_1.1.most))))] [.s 0,.s 1] (ac (congrArg AV.bool (zBe uK):(.bool false:AV)=.bool (r_1.1.n&&(decide (e_1.N<r_1.1.least)||decide (e_1.N>r_1.1.most)))) an))⟩
 refine cd 69 (r_1.1.n&&(decide (e_1.N<r_1.1.least)||decide (e_1.N>r_1.1.most))) ?_ ?_
 ·intro g_4;replace h:=zT g_4 h
  refine sr [] [2] [] 2 [Ii 2] [] zH an ?_
  refine rt ?_
  cases h
  exact ⟨.inr rfl,Nat.le_of_ble_eq_true rfl,by kernel_rfl⟩
 intro g_4;replace h:=zU g_4 h
 refine sq ?_
 refine wO (mk [(1,Pp 0),(3,Pp 1),(86,.bool ((e_1.Kind==(9:Int))&&((e_1.N != (2:Int))&&(e_1.M != (0:Int)))))] [(0,Vb 42 (z8 e_1)),(1,Vb 127 (yI r_1.1))] 2) ?_ ?_
 ·rcases bft (e_1.Kind==(9:Int)) with jM | jM
  ·rcases bft (e_1.N != (2:Int)) with zAq | zAq
   ·refine rg [(7,Ht),(12,Ht)] [1,3,86] [0,1] 2 [Pp 0,Pp 1,.bool (e_1.M != (0:Int))] [Vb 42 (z8 e_1),Vb 127 (yI r_1.1)] zH (ac jM (ac jM (ac jM (ac jM (ac zAq (ac zAq (ac zAq (ac zAq an)))))))) ?_
    exact ⟨rfl,(sw [0,1] [] [.s 1,.s 3,.a 86 (.bool ((e_1.Kind==(9:Int))&&((e_1.N != (2:Int))&&(e_1.M != (0:Int)))))] [.s 0,.s 1] (ac (congrArg AV.bool (t3 jM (t3 zAq rfl)):(.bool (e_1.M != (0:Int)):AV)=.bool ((e_1.Kind==(9:Int))&&((e_1.N != (2:Int))&&(e_1.M != (0:Int))))) an))⟩
   ·refine rg [(7,Ht),(9,Hg),(10,Hg),(11,Hg),(12,Hf)] [1,3,86] [0,1] 2 [Pp 0,Pp 1,.bool false] [Vb 42 (z8 e_1),Vb 127 (yI r_1.1)] zH (ac jM (ac jM (ac jM (ac jM (ac zAq (ac zAq (ac zAq (ac zAq an)))))))) ?_
    exact ⟨rfl,(sw [0,1] [] [.s 1,.s 3,.a 86 (.bool ((e_1.Kind==(9:Int))&&((e_1.N != (2:Int))&&(e_1.M != (0:Int)))))] [.s 0,.s 1] (ac (congrArg AV.bool (t3 jM (zBe zAq)):(.bool false:AV)=.bool ((e_1.Kind==(9:Int))&&((e_1.N != (2:Int))&&(e_1.M != (0:Int))))) an))⟩
  ·refine rg [(4,Hg),(5,Hg),(6,Hg),(7,Hf),(9,Hg),(10,Hg),(11,Hg),(12,Hf)] [1,3,86] [0,1] 2 [Pp 0,Pp 1,.bool false] [Vb 42 (z8 e_1),Vb 127 (yI r_1.1)] zH (ac jM (ac jM (ac jM (ac jM (ac (rfl:false=!true) (ac (rfl:false=!true) (ac (rfl:false=!true) (ar false an)))))))) ?_
   exact ⟨rfl,(sw [0,1] [] [.s 1,.s 3,.a 86 (.bool ((e_1.Kind==(9:Int))&&((e_1.N != (2:Int))&&(e_1.M != (0:Int)))))] [.s 0,.s 1] (ac (congrArg AV.bool (zBe jM):(.bool false:AV)=.bool ((e_1.Kind==(9:Int))&&((e_1.N != (2:Int))&&(e_1.M != (0:Int))))) an))⟩
 refine cd 86 ((e_1.Kind==(9:Int))&&((e_1.N != (2:Int))&&(e_1.M != (0:Int)))) ?_ ?_
 ·intro g_5;replace h:=zT g_5 h
  refine sr [] [2] [] 2 [Ii 1] [] zH an ?_
  refine rt ?_
  cases h
  exact ⟨.inr rfl,Nat.le_of_ble_eq_true rfl,by kernel_rfl⟩
 intro g_5;replace h:=zU g_5 h
 refine sq ?_
 refine wO (mk [(100,.bool (r_1.1.m&&(bif decide (e_1.M<r_1.1.mLeast) then ((e_1.Kind != (9:Int))||(e_1.N==(2:Int))) else (decide (e_1.M>r_1.1.mMost)&&((e_1.Kind != (9:Int))||(e_1.N==(2:Int)))))))] [] 0) ?_ ?_
 ·rcases Bool.eq_false_or_eq_true r_1.1.m with wF | wF
  ·rcases bft (decide (e_1.M<r_1.1.mLeast)) with vP | vP
   ·rcases bft (e_1.Kind != (9:Int)) with zAr | zAr
    ·refine rg [(9,Hg),(10,Hg),(11,Hg),(12,Hg),(13,Hg),(14,Ht),(15,Ht),(21,Hg),(22,Hg),(23,Hg),(24,Ht),(25,Ht)] [100] [] 2 [.bool true] [] zH (ac wF (ac wF (ac wF (ac wF (ac wF (ac wF (ac vP (ac vP (ac vP (ac vP (ac vP (ac wF (ac vP (ac wF (ar true (ar true (ar true (ar true (ac zAr (ac zAr (ac zAr (ar true (ac zAr (ar true an)))))))))))))))))))))))) ?_
     exact ⟨rfl,(sw [] [] [.a 100 (.bool (r_1.1.m&&(bif decide (e_1.M<r_1.1.mLeast) then ((e_1.Kind != (9:Int))||(e_1.N==(2:Int))) else (decide (e_1.M>r_1.1.mMost)&&((e_1.Kind != (9:Int))||(e_1.N==(2:Int)))))))] [] (ac (congrArg AV.bool (t3 wF (ctr vP (ort zAr))):(.bool true:AV)=.bool (r_1.1.m&&(bif decide (e_1.M<r_1.1.mLeast) then ((e_1.Kind != (9:Int))||(e_1.N==(2:Int))) else (decide (e_1.M>r_1.1.mMost)&&((e_1.Kind != (9:Int))||(e_1.N==(2:Int))))))) an))⟩
    ·refine rg [(9,Hg),(10,Hg),(11,Hg),(12,Hg),(13,Hg),(14,Ht),(15,Ht),(24,Hf),(25,Ht)] [100] [] 2 [.bool (e_1.N==(2:Int))] [] zH (ac wF (ac wF (ac wF (ac wF (ac wF (ac wF (ac vP (ac vP (ac vP (ac vP (ac vP (ac wF (ac vP (ac wF (ar true (ar true (ar true (ar true (ac zAr (ac zAr (ac zAr (ar true (ac zAr (ar true an)))))))))))))))))))))))) ?_
     exact ⟨rfl,(sw [] [] [.a 100 (.bool (r_1.1.m&&(bif decide (e_1.M<r_1.1.mLeast) then ((e_1.Kind != (9:Int))||(e_1.N==(2:Int))) else (decide (e_1.M>r_1.1.mMost)&&((e_1.Kind != (9:Int))||(e_1.N==(2:Int)))))))] [] (ac (congrArg AV.bool (t3 wF (ctr vP (orf zAr rfl))):(.bool (e_1.N==(2:Int)):AV)=.bool (r_1.1.m&&(bif decide (e_1.M<r_1.1.mLeast) then ((e_1.Kind != (9:Int))||(e_1.N==(2:Int))) else (decide (e_1.M>r_1.1.mMost)&&((e_1.Kind != (9:Int))||(e_1.N==(2:Int))))))) an))⟩
   ·rcases bft (decide (e_1.M>r_1.1.mMost)) with tO | tO
    ·rcases bft (e_1.Kind != (9:Int)) with zAs | zAs
     ·refine rg [(14,Hf),(15,Ht),(21,Hg),(22,Hg),(23,Hg),(24,Ht),(25,Ht)] [100] [] 2 [.bool true] [] zH (ac wF (ac wF (ac wF (ac wF (ac wF (ac wF (ac vP (ac vP (ac vP (ac vP (ac vP (ac wF (ac vP (ac wF (ac tO (ac tO (ac tO (ac tO (ac zAs (ac zAs (ac zAs (ac tO (ac zAs (ac tO an)))))))))))))))))))))))) ?_
      exact ⟨rfl,(sw [] [] [.a 100 (.bool (r_1.1.m&&(bif decide (e_1.M<r_1.1.mLeast) then ((e_1.Kind != (9:Int))||(e_1.N==(2:Int))) else (decide (e_1.M>r_1.1.mMost)&&((e_1.Kind != (9:Int))||(e_1.N==(2:Int)))))))] [] (ac (congrArg AV.bool (t3 wF (cfr vP (t3 tO (ort zAs)))):(.bool true:AV)=.bool (r_1.1.m&&(bif decide (e_1.M<r_1.1.mLeast) then ((e_1.Kind != (9:Int))||(e_1.N==(2:Int))) else (decide (e_1.M>r_1.1.mMost)&&((e_1.Kind != (9:Int))||(e_1.N==(2:Int))))))) an))⟩
     ·refine rg [(14,Hf),(15,Ht),(24,Hf),(25,Ht)] [100] [] 2 [.bool (e_1.N==(2:Int))] [] zH (ac wF (ac wF (ac wF (ac wF (ac wF (ac wF (ac vP (ac vP (ac vP (ac vP (ac vP (ac wF (ac vP (ac wF (ac tO (ac tO (ac tO (ac tO (ac zAs (ac zAs (ac zAs (ac tO (ac zAs (ac tO an)))))))))))))))))))))))) ?_
      exact ⟨rfl,(sw [] [] [.a 100 (.bool (r_1.1.m&&(bif decide (e_1.M<r_1.1.mLeast) then ((e_1.Kind != (9:Int))||(e_1.N==(2:Int))) else (decide (e_1.M>r_1.1.mMost)&&((e_1.Kind != (9:Int))||(e_1.N==(2:Int)))))))] [] (ac (congrArg AV.bool (t3 wF (cfr vP (t3 tO (orf zAs rfl)))):(.bool (e_1.N==(2:Int)):AV)=.bool (r_1.1.m&&(bif decide (e_1.M<r_1.1.mLeast) then ((e_1.Kind != (9:Int))||(e_1.N==(2:Int))) else (decide (e_1.M>r_1.1.mMost)&&((e_1.Kind != (9:Int))||(e_1.N==(2:Int))))))) an))⟩
    ·refine rg [(14,Hf),(15,Ht),(17,Hg),(18,Hg),(19,Hg),(20,Hg),(24,Hg),(25,Hf)] [100] [] 2 [.bool false] [] zH (ac wF (ac wF (ac wF (ac wF (ac wF (ac wF (ac vP (ac vP (ac vP (ac vP (ac vP (ac wF (ac vP (ac wF (ac tO (ac tO (ac tO (ac tO (ac tO (ac tO an)))))))))))))))))))) ?_
     exact ⟨rfl,(sw [] [] [.a 100 (.bool (r_1.1.m&&(bif decide (e_1.M<r_1.1.mLeast) then ((e_1.Kind != (9:Int))||(e_1.N==(2:Int))) else (decide (e_1.M>r_1.1.mMost)&&((e_1.Kind != (9:Int))||(e_1.N==(2:Int)))))))] [] (ac (congrArg AV.bool (t3 wF (cfr vP (zBe tO))):(.bool false:AV)=.bool (r_1.1.m&&(bif decide (e_1.M<r_1.1.mLeast) then ((e_1.Kind != (9:Int))||(e_1.N==(2:Int))) else (decide (e_1.M>r_1.1.mMost)&&((e_1.Kind != (9:Int))||(e_1.N==(2:Int))))))) an))⟩
  ·refine rg [(3,Hg),(4,Hg),(5,Hg),(6,Hg),(7,Hg),(8,Hg),(14,Hg),(15,Hf),(17,Hg),(18,Hg),(19,Hg),(20,Hg),(24,Hg),(25,Hf)] [100] [] 2 [.bool false] [] zH (ac wF (ac wF (ac wF (ac wF (ac wF (ac wF (ac wF (ac wF (ac (rfl:false=!true) (ac (rfl:false=!true) (ac (rfl:false=!true) (ac (rfl:false=!true) (ac (rfl:false=!true) (ar false an)))))))))))))) ?_
   exact ⟨rfl,(sw [] [] [.a 100 (.bool (r_1.1.m&&(bif decide (e_1.M<r_1.1.mLeast) then ((e_1.Kind != (9:Int))||(e_1.N==(2:Int))) else (decide (e_1.M>r_1.1.mMost)&&((e_1.Kind != (9:Int))||(e_1.N==(2:Int)))))))] [] (ac (congrArg AV.bool (zBe wF):(.bool false:AV)=.bool (r_1.1.m&&(bif decide (e_1.M<r_1.1.mLeast) then ((e_1.Kind != (9:Int))||(e_1.N==(2:Int))) else (decide (e_1.M>r_1.1.mMost)&&((e_1.Kind != (9:Int))||(e_1.N==(2:Int))))))) an))⟩
 refine cd 100 (r_1.1.m&&(bif decide (e_1.M<r_1.1.mLeast) then ((e_1.Kind != (9:Int))||(e_1.N==(2:Int))) else (decide (e_1.M>r_1.1.mMost)&&((e_1.Kind != (9:Int))||(e_1.N==(2:Int)))))) ?_ ?_
 ·intro g_6;replace h:=zT g_6 h
  refine sr [] [2] [] 0 [Ii 2] [] zH an ?_
  refine rt ?_
  cases h
  exact ⟨.inr rfl,Nat.le_of_ble_eq_true rfl,by kernel_rfl⟩
 intro g_6;replace h:=zU g_6 h
 refine sk ?_
 refine sr [] [2] [] 0 [Ii 0] [] zH an ?_
 refine rt ?_
 cases h
 exact ⟨.inr rfl,Nat.le_of_ble_eq_true rfl,by kernel_rfl⟩

theorem zD4 (F:Nat) (l_1:List (zI)) (r:Int) (h:jS F l_1=some r):zW prog 61 [] [] [.sl false 6 (Mp zE l_1)] [] (Ii r):=by
 refine yK (fn:=Go.Proofs.Try.f61) (code:=xY Go.Proofs.Try.f61) (by kernel_rfl) (by kernel_rfl) (Nat.le_of_ble_eq_true (by kernel_rfl)) ?_
 unfold jS at h
 refine sr [] [0] [] 0 [.sl false 6 (Mp zE l_1)] [] zH an ?_
 refine sq ?_
 refine sr [(1,{ n:=(l_1).length })] [0,6,7,8] [] 0 [.sl false 6 (Mp zE l_1),.sl false 6 (Mp zE l_1),Ii (lN (l_1)),Ii 0] [] zH (ac (yH _:((Mp zE l_1)).length=(l_1).length) an) ?_
 obtain ⟨o_1,h_1,h⟩:=bind_some h
 refine uR (K1:=(fun e st'=>match o_1 with | (.inl q0)=>e=.normal∧Sub 0 st' (mk [] [] 0) | (.inr q1)=>e=.ret∧kO prog Go.Proofs.Try.f61 0 [] (Ii q1) st')) ?_ ?_
 ·replace h:=h_1
  refine yU (id:=0) (by kernel_rfl) ?_
  refine wk [] [] [.s 0,.s 6,.s 7,.s 8] [] [(0,.sl false 6 (Mp zE l_1)),(6,.sl false 6 (Mp zE l_1)),(7,Ii (lN (l_1))),(8,Ii 0)] [] an ?_
  refine wT (fun n st=>∃ (v_1:Int),st=mk [(0,.sl false 6 (Mp zE l_1)),(6,.sl false 6 (Mp zE l_1)),(7,Ii (lN (l_1))),(8,Ii v_1)] [] 0∧tK F l_1 n v_1=some o_1) F (by kernel_rfl) ⟨_,rfl,h⟩ ?_ ?_
  ·rintro _ ⟨_,_,h⟩;exact wV (h:(none:Option (Unit⊕Int))=some o_1)
  rintro n_1 _ ⟨v_1,rfl,h⟩
  replace h:u0 F l_1 (tK F l_1 n_1) v_1=some o_1:=h
  unfold u0 at h
  refine sr [] [0,6,7,8,9] [] 0 [.sl false 6 (Mp zE l_1),.sl false 6 (Mp zE l_1),Ii (lN (l_1)),Ii v_1,.bool (decide (v_1<(lN (l_1))))] [] zH an ?_
  refine sq ?_
  refine cd 9 (decide (v_1<(lN (l_1)))) ?_ ?_
  rotate_left
  ·intro g_1;replace h:=zU g_1 h
   refine w5 (id:=0) (by kernel_rfl) ?_
   cases h
   exact ⟨rfl,(sw [] [] [] [] an)⟩
  intro g_1;replace h:=zT g_1 h
  refine sk ?_
  refine sq ?_
  refine yU (id:=1) (by kernel_rfl) ?_
  refine sq ?_
  obtain ⟨x_1,h_2,h⟩:=bind_some h
  refine rg [(1,{ av:=zE x_1 }),(3,{ id:=0 })] [0,3,4,6,7,8] [0] 1 [.sl false 6 (Mp zE l_1),Ii v_1,Pp 0,.sl false 6 (Mp zE l_1),Ii (lN (l_1)),Ii v_1] [Vb 42 (z8 x_1)] zH (ac (wI h_2:vA (Mp zE l_1) v_1=some (zE x_1)) an) ?_
  refine sq ?_
  refine sq ?_
  obtain ⟨r_1,h_3,h⟩:=bind_some h
  refine rg [(1,{ av:=Ii r_1,l:=[zE x_1] })] [0,3,4,5,6,7,8] [0] 1 [.sl false 6 (Mp zE l_1),Ii v_1,Pp 0,Ii r_1,.sl false 6 (Mp zE l_1),Ii (lN (l_1)),Ii v_1] [Vb 42 (z8 x_1)] zH (ar ([zE x_1]:List AV) (ac (rfl:([]:List zO)=[]) (ac (zGc F x_1 r_1 h_3:zW prog 74 [] [] [zE x_1] [] (Ii r_1)) an))) ?_
  refine sr [] [0,3,4,5,6,7,8,16] [0] 1 [.sl false 6 (Mp zE l_1),Ii v_1,Pp 0,Ii r_1,.sl false 6 (Mp zE l_1),Ii (lN (l_1)),Ii v_1,.bool (r_1 != (0:Int))] [Vb 42 (z8 x_1)] zH an ?_
  refine cd 16 (r_1 != (0:Int)) ?_ ?_
  ·intro g_2;replace h:=zT g_2 h
   refine sr [] [2] [] 1 [Ii r_1] [] zH an ?_
   refine rt ?_
   cases h
   exact ⟨rfl,Nat.le_of_ble_eq_true rfl,by kernel_rfl⟩
  intro g_2;replace h:=zU g_2 h
  refine sk ?_
  refine sq ?_
  obtain ⟨p_1,h_5,h⟩:=bind_some h
  refine wO (mk [(0,.sl false 6 (Mp zE l_1)),(6,.sl false 6 (Mp zE l_1)),(7,Ii (lN (l_1))),(8,Ii v_1),(30,.bool p_1)] [] 0) ?_ ?_
  ·replace h:=h_5
   rcases bft (decide (v_1>(0:Int))) with zZ | zZ
   ·replace h:=zT zZ h
    obtain ⟨x_2,h_4,h⟩:=bind_some h
    refine rg [(8,{ av:=zE x_2 }),(12,Ht)] [0,6,7,8,21,22,23,24,25,26,27,28,29,30] [0] 1 [.sl false 6 (Mp zE l_1),.sl false 6 (Mp zE l_1),Ii (lN (l_1)),Ii v_1,Pp 0,Ii x_1.At,.sl false 6 (Mp zE l_1),Ii v_1,Ii (zK (v_1 - (1:Int))),.ref (zE x_2),.ref (Ii x_2.At),Ii x_2.At,.bool (decide (x_1.At<x_2.At)),.bool (decide (x_1.At<x_2.At))] [Vb 42 (z8 x_1)] zH (ac zZ (ac zZ (ac zZ (ac zZ (ac zZ (ac zZ (ac (wI h_4:vA (Mp zE l_1) (zK (v_1 - (1:Int)))=some (zE x_2)) (ac zZ (ac zZ (ac zZ (ac zZ an))))))))))) ?_
    cases h
    exact ⟨rfl,(sw [] [] [.s 0,.s 6,.s 7,.s 8,.s 30] [] an)⟩
   ·replace h:=zU zZ h
    refine rg [(3,Hg),(4,Hg),(5,Hg),(6,Hg),(7,Hg),(8,Hg),(9,Hg),(10,Hg),(11,Hg),(12,Hf)] [0,6,7,8,21,22,23,24,25,26,27,28,29,30] [] 1 [.sl false 6 (Mp zE l_1),.sl false 6 (Mp zE l_1),Ii (lN (l_1)),Ii v_1,.tuple [],.tuple [],.tuple [],.tuple [],.tuple [],.tuple [],.tuple [],.tuple [],.tuple [],.bool false] [] zH (ac zZ (ac zZ (ac zZ (ac zZ (ac zZ (ac zZ (ac zZ (ac zZ (ac zZ (ac zZ an)))))))))) ?_
    cases h
    exact ⟨rfl,(sw [] [] [.s 0,.s 6,.s 7,.s 8,.s 30] [] an)⟩
  refine cd 30 p_1 ?_ ?_
  rotate_left
  ·intro g_3;replace h:=zU g_3 h
   refine sk ?_
   refine rg [] [0,6,7,8] [] 0 [.sl false 6 (Mp zE l_1),.sl false 6 (Mp zE l_1),Ii (lN (l_1)),Ii (zK (v_1+(1:Int)))] [] zH an ?_
   exact ⟨_,(sw [] [] [.s 0,.s 6,.s 7,.s 8] [] an),_,rfl,h⟩
  intro g_3;replace h:=zT g_3 h
  refine sr [] [2] [] 0 [Ii 11] [] zH an ?_
  refine rt ?_
  cases h
  exact ⟨rfl,Nat.le_of_ble_eq_true rfl,by kernel_rfl⟩
 intro e st1 hk
 rcases o_1 with q_1 | q_2
 rotate_left
 ·obtain ⟨rfl,hf⟩:=hk
  cases h
  exact ⟨st1,Sub.refl _ _,.inr rfl,hf⟩
 obtain ⟨rfl,hs⟩:=hk
 refine ⟨_,hs,?_⟩
 refine sr [] [2] [] 0 [Ii 0] [] zH an ?_
 refine rt ?_
 cases h
 exact ⟨.inr rfl,Nat.le_of_ble_eq_true rfl,by kernel_rfl⟩

theorem zFn (F:Nat) (p_1:zB) (r:Int) (h:kV F p_1=some r):zW prog 43 [] [] [zA p_1] [] (Ii r):=by
 refine yK (fn:=Go.Proofs.Try.f43) (code:=xY Go.Proofs.Try.f43) (by kernel_rfl) (by kernel_rfl) (Nat.le_of_ble_eq_true (by kernel_rfl)) ?_
 unfold kV at h
 refine sr [(0,{ id:=0 })] [1] [0] 1 [Pp 0] [Vb 59 (z6 p_1)] zH an ?_
 refine sq ?_
 refine sr [(6,{ id:=1 })] [1,11,12,13] [0,1] 2 [Pp 0,.own 1 3,Ii ((3:Nat):Int),Ii 0] [Vb 59 (z6 p_1),Rb 3 1 (Mi ([p_1.Thread,p_1.Serial,p_1.Lost]:List Int))] zH an ?_
 obtain ⟨o_1,h_1,h⟩:=bind_some h
 refine uR (K1:=(fun e st'=>match o_1 with | (.inl q0)=>e=.normal∧Sub 0 st' (mk [(1,Pp 0)] [(0,Vb 59 (z6 p_1))] 1) | (.inr q1)=>e=.ret∧kO prog Go.Proofs.Try.f43 0 [] (Ii q1) st')) ?_ ?_
 ·replace h:=h_1
  refine yU (id:=0) (by kernel_rfl) ?_
  refine wk [0,1] [] [.s 1,.a 11 (.own 1 ((([p_1.Thread,p_1.Serial,p_1.Lost]:List Int)).length)),.s 12,.s 13] [.s 0,.s 1] [(1,Pp 0),(11,.own 1 ((([p_1.Thread,p_1.Serial,p_1.Lost]:List Int)).length)),(12,Ii ((3:Nat):Int)),(13,Ii 0)] [(0,Vb 59 (z6 p_1)),(1,Rb 3 1 (Mi ([p_1.Thread,p_1.Serial,p_1.Lost]:List Int)))] (ac (congrArg (AV.own _) (by first | (simp;done) | (simp;omega)):(.own 1 3:AV)=.own 1 ((([p_1.Thread,p_1.Serial,p_1.Lost]:List Int)).length)) an) ?_
  refine wT (fun n st=>∃ (v_1:Int),st=mk [(1,Pp 0),(11,.own 1 ((([p_1.Thread,p_1.Serial,p_1.Lost]:List Int)).length)),(12,Ii ((3:Nat):Int)),(13,Ii v_1)] [(0,Vb 59 (z6 p_1)),(1,Rb 3 1 (Mi ([p_1.Thread,p_1.Serial,p_1.Lost]:List Int)))] 2∧q7 F p_1 n v_1=some o_1) F (by kernel_rfl) ⟨_,rfl,h⟩ ?_ ?_
  ·rintro _ ⟨_,_,h⟩;exact wV (h:(none:Option (Unit⊕Int))=some o_1)
  rintro n_1 _ ⟨v_1,rfl,h⟩
  replace h:vG F p_1 (q7 F p_1 n_1) v_1=some o_1:=h
  unfold vG at h
  refine sr [] [1,11,12,13,14] [0,1] 2 [Pp 0,.own 1 ((([p_1.Thread,p_1.Serial,p_1.Lost]:List Int)).length),Ii ((3:Nat):Int),Ii v_1,.bool (decide (v_1<((3:Nat):Int)))] [Vb 59 (z6 p_1),Rb 3 1 (Mi ([p_1.Thread,p_1.Serial,p_1.Lost]:List Int))] zH an ?_
  refine sq ?_
  refine cd 14 (decide (v_1<((3:Nat):Int))) ?_ ?_
  rotate_left
  ·intro g_1;replace h:=zU g_1 h
   refine w5 (id:=0) (by kernel_rfl) ?_
   cases h
   exact ⟨rfl,(sw [0] [] [.s 1] [.s 0] an)⟩
  intro g_1;replace h:=zT g_1 h
  refine sk ?_
  refine sq ?_
  refine yU (id:=1) (by kernel_rfl) ?_
  refine sq ?_
  obtain ⟨x_1,h_2,h⟩:=bind_some h
  refine rg [(1,{ av:=Ii x_1 })] [1,4,11,12,13] [0,1] 2 [Pp 0,Ii x_1,.own 1 ((([p_1.Thread,p_1.Serial,p_1.Lost]:List Int)).length),Ii ((3:Nat):Int),Ii v_1] [Vb 59 (z6 p_1),Rb 3 1 (Mi ([p_1.Thread,p_1.Serial,p_1.Lost]:List Int))] zH (ac (zAw h_2:(0:Int)≤v_1) (ac (by first | (simp;done) | simpa using zAD h_2:v_1<(((([p_1.Thread,p_1.Serial,p_1.Lost]:List Int)).length:Nat):Int)) (ac (zBK h_2:(Mi ([p_1.Thread,p_1.Serial,p_1.Lost]:List Int))[(v_1).toNat]?=some (Ii x_1)) an))) ?_
  refine sq ?_
  refine wO (mk [(1,Pp 0),(11,.own 1 ((([p_1.Thread,p_1.Serial,p_1.Lost]:List Int)).length)),(12,Ii ((3:Nat):Int)),(13,Ii v_1),(22,.bool (decide (x_1<(0:Int))||decide (x_1>(1000000000000000:Int))))] [(0,Vb 59 (z6 p_1)),(1,Rb 3 1 (Mi ([p_1.Thread,p_1.Serial,p_1.Lost]:List Int)))] 2) ?_ ?_
  ·rcases bft (decide (x_1<(0:Int))) with zZ | zZ
   ·refine rg [(3,Hg),(4,Hg),(5,Ht)] [1,11,12,13,20,21,22] [0,1] 2 [Pp 0,.own 1 ((([p_1.Thread,p_1.Serial,p_1.Lost]:List Int)).length),Ii ((3:Nat):Int),Ii v_1,.tuple [],.tuple [],.bool true] [Vb 59 (z6 p_1),Rb 3 1 (Mi ([p_1.Thread,p_1.Serial,p_1.Lost]:List Int))] zH (ac zZ (ac zZ (ac zZ an))) ?_
    exact ⟨rfl,(sw [0,1] [] [.s 1,.s 11,.s 12,.s 13,.a 22 (.bool (decide (x_1<(0:Int))||decide (x_1>(1000000000000000:Int))))] [.s 0,.s 1] (ac (congrArg AV.bool (ort zZ):(.bool true:AV)=.bool (decide (x_1<(0:Int))||decide (x_1>(1000000000000000:Int)))) an))⟩
   ·refine rg [(5,Hf)] [1,11,12,13,20,21,22] [0,1] 2 [Pp 0,.own 1 ((([p_1.Thread,p_1.Serial,p_1.Lost]:List Int)).length),Ii ((3:Nat):Int),Ii v_1,Ii x_1,.bool (decide (x_1>(1000000000000000:Int))),.bool (decide (x_1>(1000000000000000:Int)))] [Vb 59 (z6 p_1),Rb 3 1 (Mi ([p_1.Thread,p_1.Serial,p_1.Lost]:List Int))] zH (ac zZ (ac zZ (ac zZ an))) ?_
    exact ⟨rfl,(sw [0,1] [] [.s 1,.s 11,.s 12,.s 13,.a 22 (.bool (decide (x_1<(0:Int))||decide (x_1>(1000000000000000:Int))))] [.s 0,.s 1] (ac (congrArg AV.bool (orf zZ rfl):(.bool (decide (x_1>(1000000000000000:Int))):AV)=.bool (decide (x_1<(0:Int))||decide (x_1>(1000000000000000:Int)))) an))⟩
  refine cd 22 (decide (x_1<(0:Int))||decide (x_1>(1000000000000000:Int))) ?_ ?_
  rotate_left
  ·intro g_2;replace h:=zU g_2 h
   refine sk ?_
   refine rg [] [1,11,12,13] [0,1] 2 [Pp 0,.own 1 ((([p_1.Thread,p_1.Serial,p_1.Lost]:List Int)).length),Ii ((3:Nat):Int),Ii (zK (v_1+(1:Int)))] [Vb 59 (z6 p_1),Rb 3 1 (Mi ([p_1.Thread,p_1.Serial,p_1.Lost]:List Int))] zH an ?_
   exact ⟨_,(sw [0,1] [] [.s 1,.s 11,.s 12,.s 13] [.s 0,.s 1] an),_,rfl,h⟩
  intro g_2;replace h:=zT g_2 h
  refine sr [] [2] [] 2 [Ii 2] [] zH an ?_
  refine rt ?_
  cases h
  exact ⟨rfl,Nat.le_of_ble_eq_true rfl,by kernel_rfl⟩
 intro e st1 hk
 rcases o_1 with q_1 | q_2
 rotate_left
 ·obtain ⟨rfl,hf⟩:=hk
  cases h
  exact ⟨st1,Sub.refl _ _,.inr rfl,hf⟩
 obtain ⟨rfl,hs⟩:=hk
 refine ⟨_,hs,?_⟩
 refine sq ?_
 refine yU (id:=2) (by kernel_rfl) ?_
 refine sq ?_
 refine sr [] [1,24] [0] 1 [Pp 0,.bool (decide (p_1.Lost>p_1.Serial))] [Vb 59 (z6 p_1)] zH an ?_
 obtain ⟨o_2,h_3,h⟩:=bind_some h
 refine wO (mk [(1,Pp 0),(24,.bool o_2)] [(0,Vb 59 (z6 p_1))] 1) ?_ ?_
 ·replace h:=h_3
  refine cd 24 (decide (p_1.Lost>p_1.Serial)) ?_ ?_
  ·intro g_3;replace h:=zT g_3 h
   refine sk ?_
   cases h
   exact ⟨rfl,(sw [0] [] [.s 1,.s 24] [.s 0] an)⟩
  intro g_3;replace h:=zU g_3 h
  refine rg [(4,{ n:=(p_1.Events).length })] [1,24] [0] 1 [Pp 0,.bool (decide ((zK (p_1.Serial+(lN (p_1.Events))))>(1000000000000000:Int)))] [Vb 59 (z6 p_1)] zH (ac (yH _:((Mp zE p_1.Events)).length=(p_1.Events).length) an) ?_
  cases h
  exact ⟨rfl,(sw [0] [] [.s 1,.s 24] [.s 0] an)⟩
 refine cd 24 o_2 ?_ ?_
 ·intro g_4;replace h:=zT g_4 h
  refine sr [] [2] [] 1 [Ii 2] [] zH an ?_
  refine rt ?_
  cases h
  exact ⟨.inr rfl,Nat.le_of_ble_eq_true rfl,by kernel_rfl⟩
 intro g_4;replace h:=zU g_4 h
 refine sr [(2,{ n:=(p_1.Events).length })] [1,37] [0] 1 [Pp 0,.bool ((lN (p_1.Events))==(0:Int))] [Vb 59 (z6 p_1)] zH (ac (yH _:((Mp zE p_1.Events)).length=(p_1.Events).length) an) ?_
 refine cd 37 ((lN (p_1.Events))==(0:Int)) ?_ ?_
 ·intro g_5;replace h:=zT g_5 h
  refine sr [] [2] [] 1 [Ii 8] [] zH an ?_
  refine rt ?_
  cases h
  exact ⟨.inr rfl,Nat.le_of_ble_eq_true rfl,by kernel_rfl⟩
 intro g_5;replace h:=zU g_5 h
 refine sr [(2,{ n:=(p_1.Events).length })] [1,42] [0] 1 [Pp 0,.bool (decide ((lN (p_1.Events))>(1000:Int)))] [Vb 59 (z6 p_1)] zH (ac (yH _:((Mp zE p_1.Events)).length=(p_1.Events).length) an) ?_
 refine cd 42 (decide ((lN (p_1.Events))>(1000:Int))) ?_ ?_
 ·intro g_6;replace h:=zT g_6 h
  refine sr [] [2] [] 1 [Ii 7] [] zH an ?_
  refine rt ?_
  cases h
  exact ⟨.inr rfl,Nat.le_of_ble_eq_true rfl,by kernel_rfl⟩
 intro g_6;replace h:=zU g_6 h
 refine sk ?_
 refine sq ?_
 obtain ⟨r_1,h_4,h⟩:=bind_some h
 refine rg [(2,{ av:=Ii r_1,l:=[.sl false 6 (Mp zE p_1.Events)] })] [2] [] 1 [Ii r_1] [] zH (ar ([.sl false 6 (Mp zE p_1.Events)]:List AV) (ac (rfl:([]:List zO)=[]) (ac (zD4 F p_1.Events r_1 h_4:zW prog 61 [] [] [.sl false 6 (Mp zE p_1.Events)] [] (Ii r_1)) an))) ?_
 refine rt ?_
 cases h
 exact ⟨.inr rfl,Nat.le_of_ble_eq_true rfl,by kernel_rfl⟩

theorem zDi (t_1:xB) (p_1:zB) (r:Bool) (h:qQ t_1 p_1=some r):zW prog 51 [(.var 100 (xF t_1))] [] [Pp 0,zA p_1] [(.var 100 (xF t_1))] (.bool r):=by
 refine yK (fn:=Go.Proofs.Try.f51) (code:=xY Go.Proofs.Try.f51) (by kernel_rfl) (by kernel_rfl) (Nat.le_of_ble_eq_true (by kernel_rfl)) ?_
 unfold qQ at h
 refine sr [(0,{ id:=1 })] [0,3] [0,1] 2 [Pp 0,Pp 1] [Vb 100 (xF t_1),Vb 59 (z6 p_1)] zH an ?_
 refine sq ?_
 obtain ⟨p_2,h_2,h⟩:=bind_some h
 refine wO (mk [(4,.bool p_2)] [(0,Vb 100 (xF t_1))] 1) ?_ ?_
 ·replace h:=h_2
  rcases bft ((zK (p_1.Serial - p_1.Lost))==t_1.next) with zL | zL
  ·replace h:=zT zL h
   obtain ⟨x_1,h_1,h⟩:=bind_some h
   refine rg [(13,{ av:=zE x_1 }),(21,Ht)] [4] [0] 2 [.bool (decide (x_1.At≥t_1.last))] [Vb 100 (xF t_1)] zH (ac zL (ac zL (ac zL (ac (wI h_1:vA (Mp zE p_1.Events) (0:Int)=some (zE x_1)) (ac zL (ac zL (ac zL (ac zL (ac zL (ac zL (ac zL (ac zL an)))))))))))) ?_
   cases h
   exact ⟨rfl,(sw [0] [] [.s 4] [.s 0] an)⟩
  ·replace h:=zU zL h
   refine rg [(11,Hg),(12,Hg),(13,Hg),(14,Hg),(15,Hg),(16,Hg),(17,Hg),(18,Hg),(19,Hg),(20,Hg),(21,Hf)] [4] [0] 2 [.bool false] [Vb 100 (xF t_1)] zH (ac zL (ac zL (ac zL (ac zL (ac zL (ac zL (ac zL (ac zL (ac zL (ac zL (ac zL an))))))))))) ?_
   cases h
   exact ⟨rfl,(sw [0] [] [.s 4] [.s 0] an)⟩
 refine wk [0] [] [.s 4] [.s 0] [(4,.bool p_2)] [(0,Vb 100 (xF t_1))] an ?_
 refine rt ?_
 cases h
 exact ⟨.inr rfl,Nat.le_of_ble_eq_true rfl,by kernel_rfl⟩

theorem zDg (t_1:xB) (p_1:zB) (r:xB) (h:qK t_1 p_1=some r):zW prog 52 [(.var 100 (xF t_1))] [] [Pp 0,zA p_1] [(.var 100 (xF r))] (.tuple []):=by
 refine yK (fn:=Go.Proofs.Try.f52) (code:=xY Go.Proofs.Try.f52) (by kernel_rfl) (by kernel_rfl) (Nat.le_of_ble_eq_true (by kernel_rfl)) ?_
 unfold qK at h
 refine sr [(0,{ id:=1 })] [0,3] [0,1] 2 [Pp 0,Pp 1] [Vb 100 (xF t_1),Vb 59 (z6 p_1)] zH an ?_
 refine sr [(5,{ n:=(p_1.Events).length })] [0,3] [0,1] 2 [Pp 0,Pp 1] [Vb 100 [Ii (zK (p_1.Serial+(lN (p_1.Events)))),Ii t_1.last],Vb 59 (z6 p_1)] zH (ac (yH _:((Mp zE p_1.Events)).length=(p_1.Events).length) an) ?_
 obtain ⟨x_1,h_1,h⟩:=bind_some h
 refine rg [(5,{ n:=(p_1.Events).length }),(7,{ av:=zE x_1 })] [] [0] 2 [] [Vb 100 [Ii (zK (p_1.Serial+(lN (p_1.Events)))),Ii x_1.At]] zH (ac (yH _:((Mp zE p_1.Events)).length=(p_1.Events).length) (ac (wI h_1:vA (Mp zE p_1.Events) (zK ((lN (p_1.Events)) - (1:Int)))=some (zE x_1)) an)) ?_
 cases h
 exact ⟨.inl rfl,Nat.le_of_ble_eq_true rfl,by kernel_rfl⟩

theorem zHq (F:Nat) (h_1:zS) (l_1:List (zB)) (r:Int) (h:zAY F h_1 l_1=some r):zW prog 28 [] [] [y6 h_1,.sl false 4 (Mp zA l_1)] [] (Ii r):=by
 refine yK (fn:=Go.Proofs.Try.f28) (code:=xY Go.Proofs.Try.f28) (by kernel_rfl) (by kernel_rfl) (Nat.le_of_ble_eq_true (by kernel_rfl)) ?_
 unfold zAY at h
 refine sr [(0,{ id:=0 })] [1,2] [0] 1 [.sl false 4 (Mp zA l_1),Pp 0] [Vb 26 (zX h_1)] zH an ?_
 refine sr [(0,{ id:=1,mag:=false,mks:=[.int .i64] })] [1,2,5] [0,1] 2 [.sl false 4 (Mp zA l_1),Pp 0,.mp 1] [Vb 26 (zX h_1),.live (.map false [.int .i64] [])] zH an ?_
 refine zHC 1 2 (ag:=false) (ks:=[.int .i64]) (.pm 100) (by kernel_rfl) (by kernel_rfl) (zMp (by kernel_rfl)) ?_
 intro b_1
 refine wk [0,2] [] [.s 1,.s 2,.s 5] [.s 0,.s 1] [(1,.sl false 4 (Mp zA l_1)),(2,Pp 0),(5,.rawm b_1)] [(0,Vb 26 (zX h_1)),(1,.live (.fam (.cl b_1 false [.int .i64] (.pm 100) (List.map (mpE (AV.int .i64) yZ) ([]:List (Int×xB))))))] an ?_
 refine sq ?_
 refine sr [(2,{ n:=(h_1.Threads).length })] [1,5,16,17,18] [1] 2 [.sl false 4 (Mp zA l_1),.rawm b_1,.sl false 3 (Mp zG h_1.Threads),Ii (lN (h_1.Threads)),Ii 0] [.live (.fam (.cl b_1 false [.int .i64] (.pm 100) (List.map (mpE (AV.int .i64) yZ) ([]:List (Int×xB)))))] zH (ac (yH _:((Mp zG h_1.Threads)).length=(h_1.Threads).length) an) ?_
 obtain ⟨o_1,h_2,h⟩:=bind_some h
 refine wO (mk [(1,.sl false 4 (Mp zA l_1)),(5,.rawm b_1)] [(0,.live (.fam (.cl b_1 false [.int .i64] (.pm 100) (List.map (mpE (AV.int .i64) yZ) o_1))))] 1) ?_ ?_
 ·replace h:=h_2
  refine yU (id:=0) (by kernel_rfl) ?_
  refine wk [1] [] [.s 1,.s 5,.s 16,.s 17,.s 18] [.s 0] [(1,.sl false 4 (Mp zA l_1)),(5,.rawm b_1),(16,.sl false 3 (Mp zG h_1.Threads)),(17,Ii (lN (h_1.Threads))),(18,Ii 0)] [(0,.live (.fam (.cl b_1 false [.int .i64] (.pm 100) (List.map (mpE (AV.int .i64) yZ) ([]:List (Int×xB))))))] an ?_
  refine wT (fun n st=>∃ (v_1:Int),∃ (zC:List (Int×xB)),st=mk [(1,.sl false 4 (Mp zA l_1)),(5,.rawm b_1),(16,.sl false 3 (Mp zG h_1.Threads)),(17,Ii (lN (h_1.Threads))),(18,Ii v_1)] [(0,.live (.fam (.cl b_1 false [.int .i64] (.pm 100) (List.map (mpE (AV.int .i64) yZ) zC))))] 1∧tX F h_1 n v_1 zC=some o_1) F (by kernel_rfl) ⟨_,_,rfl,h⟩ ?_ ?_
  ·rintro _ ⟨_,_,_,h⟩;exact wV (h:(none:Option (List (Int×xB)))=some o_1)
  rintro n_1 _ ⟨v_1,zC,rfl,h⟩
  replace h:qD F h_1 (tX F h_1 n_1) v_1 zC=some o_1:=h
  unfold qD at h
  refine sr [] [1,5,16,17,18,19] [0] 1 [.sl false 4 (Mp zA l_1),.rawm b_1,.sl false 3 (Mp zG h_1.Threads),Ii (lN (h_1.Threads)),Ii v_1,.bool (decide (v_1<(lN (h_1.Threads))))] [.live (.fam (.cl b_1 false [.int .i64] (.pm 100) (List.map (mpE (AV.int .i64) yZ) zC)))] zH an ?_
  refine sq ?_
  refine cd 19 (decide (v_1<(lN (h_1.Threads)))) ?_ ?_
  rotate_left
  ·intro g_1;replace h:=zU g_1 h
   refine w5 (id:=0) (by kernel_rfl) ?_
   cases h
   exact ⟨rfl,(sw [0] [] [.s 1,.s 5] [.s 0] an)⟩
  intro g_1;replace h:=zT g_1 h
  refine sk ?_
  refine sq ?_
  refine yU (id:=1) (by kernel_rfl) ?_
  refine sq ?_
  obtain ⟨x_1,h_3,h⟩:=bind_some h
  refine rg [(0,{ av:=zG x_1 }),(2,{ id:=1 })] [1,5,7,16,17,18] [0,1] 2 [.sl false 4 (Mp zA l_1),.rawm b_1,Pp 1,.sl false 3 (Mp zG h_1.Threads),Ii (lN (h_1.Threads)),Ii v_1] [.live (.fam (.cl b_1 false [.int .i64] (.pm 100) (List.map (mpE (AV.int .i64) yZ) zC))),Vb 66 (z4 x_1)] zH (ac (wI h_3:vA (Mp zG h_1.Threads) v_1=some (zG x_1)) an) ?_
  obtain ⟨_,h_4,h⟩:=bind_some h;replace h_4:=wS h_4
  refine rg [(4,{ id:=2 }),(5,{ av:=(.agg [Ii 0,Ii 0]),dep:=true,es:=(List.map (mpE (AV.int .i64) yZ) (uI zC x_1.Id (⟨(0:Int),(0:Int)⟩:xB))),ids:=[2],n:=0,x:=true })] [1,5,16,17,18] [0] 3 [.sl false 4 (Mp zA l_1),.rawm b_1,.sl false 3 (Mp zG h_1.Threads),Ii (lN (h_1.Threads)),Ii v_1] [.live (.fam (.cl b_1 false [.int .i64] (.pm 100) (List.map (mpE (AV.int .i64) yZ) (uI zC x_1.Id (⟨(0:Int),(0:Int)⟩:xB)))))] zH (ar b_1 (ac (trivial:True) (ac (nQ:vZ prog 3 false [.int .i64]) (ac (zC0 (f:=(AV.int .i64)) (g:=yZ) nR zC x_1.Id (⟨(0:Int),(0:Int)⟩:xB):zBN (List.map (mpE (AV.int .i64) yZ) zC) (Ii x_1.Id) (.agg [Ii 0,Ii 0]) (List.map (mpE (AV.int .i64) yZ) (uI zC x_1.Id (⟨(0:Int),(0:Int)⟩:xB)))) (ac (zFZ (l:=zC) h_4:(List.map (mpE (AV.int .i64) yZ) zC:List (AV×AV)).length<maxLen) (ac (rfl:(Pp 2:AV)=Pp 2) (ac (rfl:([Vb 100 [Ii 0,Ii 0]]:List zO)=[Vb 100 [Ii 0,Ii 0]]) an))))))) ?_
  refine rg [] [1,5,16,17,18] [0] 3 [.sl false 4 (Mp zA l_1),.rawm b_1,.sl false 3 (Mp zG h_1.Threads),Ii (lN (h_1.Threads)),Ii (zK (v_1+(1:Int)))] [.live (.fam (.cl b_1 false [.int .i64] (.pm 100) (List.map (mpE (AV.int .i64) yZ) (uI zC x_1.Id (⟨(0:Int),(0:Int)⟩:xB)))))] zH an ?_
  exact ⟨_,(sw [0] [] [.s 1,.s 5,.s 16,.s 17,.s 18] [.s 0] an),_,_,rfl,h⟩
 refine sr [] [1,5,8] [0] 1 [.sl false 4 (Mp zA l_1),.rawm b_1,Ii 0] [.live (.fam (.cl b_1 false [.int .i64] (.pm 100) (List.map (mpE (AV.int .i64) yZ) o_1)))] zH an ?_
 refine sq ?_
 refine sr [(1,{ n:=(l_1).length })] [5,8,28,29,30] [0] 1 [.rawm b_1,Ii 0,.sl false 4 (Mp zA l_1),Ii (lN (l_1)),Ii 0] [.live (.fam (.cl b_1 false [.int .i64] (.pm 100) (List.map (mpE (AV.int .i64) yZ) o_1)))] zH (ac (yH _:((Mp zA l_1)).length=(l_1).length) an) ?_
 obtain ⟨o_2,h_5,h⟩:=bind_some h
 refine uR (K1:=(fun e st'=>match o_2 with | (.inl q0)=>e=.normal∧Sub 0 st' (mk [(8,Ii q0)] [] 0) | (.inr q1)=>e=.ret∧kO prog Go.Proofs.Try.f28 0 [] (Ii q1) st')) ?_ ?_
 ·replace h:=h_5
  refine yU (id:=2) (by kernel_rfl) ?_
  refine wk [0] [] [.s 5,.s 8,.s 28,.s 29,.s 30] [.s 0] [(5,.rawm b_1),(8,Ii 0),(28,.sl false 4 (Mp zA l_1)),(29,Ii (lN (l_1))),(30,Ii 0)] [(0,.live (.fam (.cl b_1 false [.int .i64] (.pm 100) (List.map (mpE (AV.int .i64) yZ) o_1))))] an ?_
  refine wT (fun n st=>∃ (v7:Int),∃ (v_2:Int),∃ (x6:List (Int×xB)),st=mk [(5,.rawm b_1),(8,Ii v7),(28,.sl false 4 (Mp zA l_1)),(29,Ii (lN (l_1))),(30,Ii v_2)] [(0,.live (.fam (.cl b_1 false [.int .i64] (.pm 100) (List.map (mpE (AV.int .i64) yZ) x6))))] 1∧tZ F l_1 n v7 v_2 x6=some o_2) F (by kernel_rfl) ⟨_,_,_,rfl,h⟩ ?_ ?_
  ·rintro _ ⟨_,_,_,_,h⟩;exact wV (h:(none:Option (Int⊕Int))=some o_2)
  rintro n_2 _ ⟨v7,v_2,x6,rfl,h⟩
  replace h:qG F l_1 (tZ F l_1 n_2) v7 v_2 x6=some o_2:=h
  unfold qG at h
  refine sr [] [5,8,28,29,30,31] [0] 1 [.rawm b_1,Ii v7,.sl false 4 (Mp zA l_1),Ii (lN (l_1)),Ii v_2,.bool (decide (v_2<(lN (l_1))))] [.live (.fam (.cl b_1 false [.int .i64] (.pm 100) (List.map (mpE (AV.int .i64) yZ) x6)))] zH an ?_
  refine sq ?_
  refine cd 31 (decide (v_2<(lN (l_1)))) ?_ ?_
  rotate_left
  ·intro g_2;replace h:=zU g_2 h
   refine w5 (id:=2) (by kernel_rfl) ?_
   cases h
   exact ⟨rfl,(sw [] [] [.s 8] [] an)⟩
  intro g_2;replace h:=zT g_2 h
  refine sk ?_
  refine sq ?_
  refine yU (id:=3) (by kernel_rfl) ?_
  refine sq ?_
  obtain ⟨x_2,h_6,h⟩:=bind_some h
  refine rg [(0,{ av:=zA x_2 }),(2,{ id:=1 })] [5,8,10,28,29,30] [0,1] 2 [.rawm b_1,Ii v7,Pp 1,.sl false 4 (Mp zA l_1),Ii (lN (l_1)),Ii v_2] [.live (.fam (.cl b_1 false [.int .i64] (.pm 100) (List.map (mpE (AV.int .i64) yZ) x6))),Vb 59 (z6 x_2)] zH (ac (wI h_6:vA (Mp zA l_1) v_2=some (zA x_2)) an) ?_
  refine sq ?_
  refine sq ?_
  obtain ⟨r_1,h_7,h⟩:=bind_some h
  refine rg [(1,{ av:=Ii r_1,l:=[zA x_2] })] [5,8,10,11,28,29,30] [0,1] 2 [.rawm b_1,Ii v7,Pp 1,Ii r_1,.sl false 4 (Mp zA l_1),Ii (lN (l_1)),Ii v_2] [.live (.fam (.cl b_1 false [.int .i64] (.pm 100) (List.map (mpE (AV.int .i64) yZ) x6))),Vb 59 (z6 x_2)] zH (ar ([zA x_2]:List AV) (ac (rfl:([]:List zO)=[]) (ac (zFn F x_2 r_1 h_7:zW prog 43 [] [] [zA x_2] [] (Ii r_1)) an))) ?_
  refine sr [] [5,8,10,11,28,29,30,37] [0,1] 2 [.rawm b_1,Ii v7,Pp 1,Ii r_1,.sl false 4 (Mp zA l_1),Ii (lN (l_1)),Ii v_2,.bool (r_1 != (0:Int))] [.live (.fam (.cl b_1 false [.int .i64] (.pm 100) (List.map (mpE (AV.int .i64) yZ) x6))),Vb 59 (z6 x_2)] zH an ?_
  refine cd 37 (r_1 != (0:Int)) ?_ ?_
  ·intro g_3;replace h:=zT g_3 h
   refine sr [] [4] [] 2 [Ii r_1] [] zH an ?_
   refine rt ?_
   cases h
   exact ⟨rfl,Nat.le_of_ble_eq_true rfl,by kernel_rfl⟩
  intro g_3;replace h:=zU g_3 h
  refine sk ?_
  refine sq ?_
  rcases zKy (yA x6 x_2.Thread) with h_8 | ⟨x_3,h_8⟩
  ·replace h:=zKP h_8 h
   refine rg [(3,{ dep:=true,g:=false,n:=0,x:=true })] [5,8,10,12,13,28,29,30] [0,1] 2 [.rawm b_1,Ii v7,Pp 1,.nilp,.bool false,.sl false 4 (Mp zA l_1),Ii (lN (l_1)),Ii v_2] [.live (.fam (.cl b_1 false [.int .i64] (.pm 100) (List.map (mpE (AV.int .i64) yZ) x6))),Vb 59 (z6 x_2)] zH (ar b_1 (ac (nQ:vZ prog 3 false [.int .i64]) (ac (zKW (f:=(AV.int .i64)) (g:=yZ) nR h_8 .junk:jL (List.map (mpE (AV.int .i64) yZ) x6) (Ii x_2.Thread) .junk .junk false) an))) ?_
   refine sq ?_
   refine sr [] [5,8,10,12,28,29,30,47] [0,1] 2 [.rawm b_1,Ii v7,Pp 1,.nilp,.sl false 4 (Mp zA l_1),Ii (lN (l_1)),Ii v_2,.bool true] [.live (.fam (.cl b_1 false [.int .i64] (.pm 100) (List.map (mpE (AV.int .i64) yZ) x6))),Vb 59 (z6 x_2)] zH an ?_
   refine cd 47 true ?_ ?_
   rotate_left
   ·intro hg;exact Bool.noConfusion (hg)
   intro _
   refine sr [] [4] [] 2 [Ii 5] [] zH an ?_
   refine rt ?_
   cases h
   exact ⟨rfl,Nat.le_of_ble_eq_true rfl,by kernel_rfl⟩
  replace h:=zLc h_8 h
  refine rg [(3,{ av:=(.agg [Ii x_3.next,Ii x_3.last]),dep:=true,id:=2,n:=0,x:=true })] [5,8,10,12,13,28,29,30] [0,1,2] 3 [.rawm b_1,Ii v7,Pp 1,Pp 2,.bool true,.sl false 4 (Mp zA l_1),Ii (lN (l_1)),Ii v_2] [.live (.fam (.opp b_1 false [.int .i64] (.pm 100) (List.map (mpE (AV.int .i64) yZ) x6) (Ii x_2.Thread) 2)),Vb 59 (z6 x_2),Vb 100 (xF x_3)] zH (ar b_1 (ac (nQ:vZ prog 3 false [.int .i64]) (ac (zLi (f:=(AV.int .i64)) (g:=yZ) h_8 .junk:jL (List.map (mpE (AV.int .i64) yZ) x6) (Ii x_2.Thread) .junk (.agg [Ii x_3.next,Ii x_3.last]) true) an))) ?_
  refine sq ?_
  refine sr [] [5,8,10,12,28,29,30,47] [0,1,2] 3 [.rawm b_1,Ii v7,Pp 1,Pp 2,.sl false 4 (Mp zA l_1),Ii (lN (l_1)),Ii v_2,.bool false] [.live (.fam (.opp b_1 false [.int .i64] (.pm 100) (List.map (mpE (AV.int .i64) yZ) x6) (Ii x_2.Thread) 2)),Vb 59 (z6 x_2),Vb 100 (xF x_3)] zH an ?_
  refine cd 47 false ?_ ?_
  ·intro hg;exact Bool.noConfusion (hg)
  intro _
  refine sk ?_
  refine sq ?_
  refine sq ?_
  obtain ⟨r_2,h_9,h⟩:=bind_some h
  refine rg [(2,{ av:=.bool r_2,ids:=[2],l:=[Pp 0,zA x_2],post:=[(.var 100 (xF x_3))],pre:=[(.var 100 (xF x_3))] })] [5,8,10,12,28,29,30,51] [0,1,2] 3 [.rawm b_1,Ii v7,Pp 1,Pp 2,.sl false 4 (Mp zA l_1),Ii (lN (l_1)),Ii v_2,.bool (!r_2)] [.live (.fam (.opp b_1 false [.int .i64] (.pm 100) (List.map (mpE (AV.int .i64) yZ) x6) (Ii x_2.Thread) 2)),Vb 59 (z6 x_2),Vb 100 (xF x_3)] zH (ar ([Pp 2,zA x_2]:List AV) (ac (rfl:([Vb 100 (xF x_3)]:List zO)=[Vb 100 (xF x_3)]) (ac (zDi x_3 x_2 r_2 h_9:zW prog 51 [(.var 100 (xF x_3))] [] [Pp 0,zA x_2] [(.var 100 (xF x_3))] (.bool r_2)) an))) ?_
  refine cd 51 (!r_2) ?_ ?_
  ·intro g_4;replace h:=zT g_4 h
   refine sr [] [4] [] 3 [Ii 11] [] zH an ?_
   refine rt ?_
   cases h
   exact ⟨rfl,Nat.le_of_ble_eq_true rfl,by kernel_rfl⟩
  intro g_4;replace h:=zU g_4 h
  refine sk ?_
  refine sq ?_
  obtain ⟨r_3,qU,h⟩:=bind_some h
  refine rg [(2,{ av:=.tuple [],ids:=[2],l:=[Pp 0,zA x_2],post:=[(.var 100 (xF r_3))],pre:=[(.var 100 (xF x_3))] })] [5,8,10,28,29,30] [0,1,2] 3 [.rawm b_1,Ii v7,Pp 1,.sl false 4 (Mp zA l_1),Ii (lN (l_1)),Ii v_2] [.live (.fam (.opp b_1 false [.int .i64] (.pm 100) (List.map (mpE (AV.int .i64) yZ) x6) (Ii x_2.Thread) 2)),Vb 59 (z6 x_2),Vb 100 (xF r_3)] zH (ar ([Pp 2,zA x_2]:List AV) (ac (rfl:([Vb 100 (xF x_3)]:List zO)=[Vb 100 (xF x_3)]) (ac (zDg x_3 x_2 r_3 qU:zW prog 52 [(.var 100 (xF x_3))] [] [Pp 0,zA x_2] [(.var 100 (xF r_3))] (.tuple [])) an))) ?_
  refine qM (zKu (f:=.cl b_1 false [.int .i64] (.pm 100) (List.map (mpE (AV.int .i64) yZ) (uI x6 x_2.Thread r_3))) 0 2 [Ii r_3.next,Ii r_3.last] (List.map (mpE (AV.int .i64) yZ) (uI x6 x_2.Thread r_3)) (by kernel_rfl) (ac (rfl:(Vb 100 (xF r_3):zO)=Vb 100 (xF r_3)) (ac (zC0 (f:=(AV.int .i64)) (g:=yZ) nR x6 x_2.Thread r_3:zBN (List.map (mpE (AV.int .i64) yZ) x6) (Ii x_2.Thread) (.agg [Ii r_3.next,Ii r_3.last]) (List.map (mpE (AV.int .i64) yZ) (uI x6 x_2.Thread r_3))) an))) ?_
  refine wk [0,1] [] [.s 5,.s 8,.s 10,.s 28,.s 29,.s 30] [.s 0,.s 1] [(5,.rawm b_1),(8,Ii v7),(10,Pp 1),(28,.sl false 4 (Mp zA l_1)),(29,Ii (lN (l_1))),(30,Ii v_2)] [(0,.live (.fam (.cl b_1 false [.int .i64] (.pm 100) (List.map (mpE (AV.int .i64) yZ) (uI x6 x_2.Thread r_3))))),(1,Vb 59 (z6 x_2))] an ?_
  refine rg [(3,{ n:=(x_2.Events).length })] [5,8,28,29,30] [0] 2 [.rawm b_1,Ii (zK (v7+(lN (x_2.Events)))),.sl false 4 (Mp zA l_1),Ii (lN (l_1)),Ii v_2] [.live (.fam (.cl b_1 false [.int .i64] (.pm 100) (List.map (mpE (AV.int .i64) yZ) (uI x6 x_2.Thread r_3))))] zH (ac (yH _:((Mp zE x_2.Events)).length=(x_2.Events).length) an) ?_
  refine rg [] [5,8,28,29,30] [0] 2 [.rawm b_1,Ii (zK (v7+(lN (x_2.Events)))),.sl false 4 (Mp zA l_1),Ii (lN (l_1)),Ii (zK (v_2+(1:Int)))] [.live (.fam (.cl b_1 false [.int .i64] (.pm 100) (List.map (mpE (AV.int .i64) yZ) (uI x6 x_2.Thread r_3))))] zH an ?_
  exact ⟨_,(sw [0] [] [.s 5,.s 8,.s 28,.s 29,.s 30] [.s 0] an),_,_,_,rfl,h⟩
 intro e st1 hk
 rcases o_2 with q_1 | q_2
 rotate_left
 ·obtain ⟨rfl,hf⟩:=hk
  cases h
  exact ⟨st1,Sub.refl _ _,.inr rfl,hf⟩
 obtain ⟨rfl,hs⟩:=hk
 refine ⟨_,hs,?_⟩
 refine sq ?_
 refine sr [] [62] [] 0 [.bool (decide (q_1>(20000:Int)))] [] zH an ?_
 refine cd 62 (decide (q_1>(20000:Int))) ?_ ?_
 ·intro g_5;replace h:=zT g_5 h
  refine sr [] [4] [] 0 [Ii 7] [] zH an ?_
  refine rt ?_
  cases h
  exact ⟨.inr rfl,Nat.le_of_ble_eq_true rfl,by kernel_rfl⟩
 intro g_5;replace h:=zU g_5 h
 refine sk ?_
 refine sr [] [4] [] 0 [Ii 0] [] zH an ?_
 refine rt ?_
 cases h
 exact ⟨.inr rfl,Nat.le_of_ble_eq_true rfl,by kernel_rfl⟩

theorem zES (l:List zB):fzV (yS l)=.sl false 4 (Mp zA l):=(congrArg (AV.sl false 4) (zHB zA l _ rfl)).symm
theorem zEW (l:List zB):zEy (yS l)∧zDu 4 6 (yS l)=true:=⟨rfl,rfl⟩

theorem zJc (F:Nat) (uE:List (zB)) (events_1:List (zI)) (r:(List (zB))) (h:zBI F uE events_1=some r):zW prog 29 [] [(.rowQ 59 4 (Mp zA (ini uE)) (!(uE).isEmpty) (yG (lst uE)++[.own 1 ((lst uE).Events).length])),(.row 42 6 (Mp zE (lst uE).Events))] [.own 0 ((uE).length),.sl false 6 (Mp zE events_1)] [(.rowQ 59 4 (Mp zA (ini r)) (!(r).isEmpty) (yG (lst r)++[.own 1 ((lst r).Events).length])),(.row 42 6 (Mp zE (lst r).Events))] (.own 0 (r).length):=by
 refine zDb (fn:=Go.Proofs.Try.f29) (code:=xY Go.Proofs.Try.f29) (by kernel_rfl) (by kernel_rfl) (Nat.le_of_ble_eq_true (by kernel_rfl)) ?_
 unfold zBI at h
 refine sr [(0,{ id:=2,m:=1 })] [0,1] [0,1] 3 [.own 0 ((uE).length),.sl false 6 (Mp zE events_1)] [.live (.rowQ 59 4 (Mp zA (ini uE)) (!(uE).isEmpty) (yG (lst uE)++[.own 1 ((lst uE).Events).length])),Rb 42 6 (Mp zE (lst uE).Events)] zH an ?_
 refine sq ?_
 obtain ⟨o_1,h_1,h⟩:=bind_some h
 refine wO (mk [(0,.own 0 ((o_1).length))] [(0,.live (.rowQ 59 4 (Mp zA (ini o_1)) (!(o_1).isEmpty) (yG (lst o_1)++[.own 1 ((lst o_1).Events).length]))),(1,Rb 42 6 (Mp zE (lst o_1).Events))] 2) ?_ ?_
 ·replace h:=h_1
  refine yU (id:=0) (by kernel_rfl) ?_
  refine wk [0,1] [] [.s 0,.s 1] [.s 0,.s 1] [(0,.own 0 ((uE).length)),(1,.sl false 6 (Mp zE events_1))] [(0,.live (.rowQ 59 4 (Mp zA (ini uE)) (!(uE).isEmpty) (yG (lst uE)++[.own 1 ((lst uE).Events).length]))),(1,Rb 42 6 (Mp zE (lst uE).Events))] an ?_
  refine wT (fun n st=>∃ (zR:List zI),∃ (zC:List zB),st=mk [(0,.own 0 ((zC).length)),(1,.sl false 6 (Mp zE zR))] [(0,.live (.rowQ 59 4 (Mp zA (ini zC)) (!(zC).isEmpty) (yG (lst zC)++[.own 1 ((lst zC).Events).length]))),(1,Rb 42 6 (Mp zE (lst zC).Events))] 2∧pY F n zR zC=some o_1) F (by kernel_rfl) ⟨_,_,rfl,h⟩ ?_ ?_
  ·rintro _ ⟨_,_,_,h⟩;exact wV (h:(none:Option (List zB))=some o_1)
  rintro n_1 _ ⟨zR,zC,rfl,h⟩
  replace h:qT F (pY F n_1) zR zC=some o_1:=h
  unfold qT at h
  refine sq ?_
  refine sr [(1,{ n:=(zR).length })] [0,1,9] [0,1] 2 [.own 0 ((zC).length),.sl false 6 (Mp zE zR),.bool (decide ((lN (zR))>(0:Int)))] [.live (.rowQ 59 4 (Mp zA (ini zC)) (!(zC).isEmpty) (yG (lst zC)++[.own 1 ((lst zC).Events).length])),Rb 42 6 (Mp zE (lst zC).Events)] zH (ac (yH _:((Mp zE zR)).length=(zR).length) an) ?_
  refine cd 9 (decide ((lN (zR))>(0:Int))) ?_ ?_
  rotate_left
  ·intro g_1;replace h:=zU g_1 h
   refine w5 (id:=0) (by kernel_rfl) ?_
   cases h
   exact ⟨rfl,(sw [0,1] [] [.s 0] [.s 0,.s 1] an)⟩
  intro g_1;replace h:=zT g_1 h
  refine sk ?_
  refine yU (id:=1) (by kernel_rfl) ?_
  refine sq ?_
  obtain ⟨_,h_2,h⟩:=bind_some h;replace h_2:=wS h_2
  refine rg [] [0,1,5] [0,1] 2 [.own 0 ((zC).length),.sl false 6 (Mp zE zR),.ptr 0 4 ((zK ((lN (zC)) - (1:Int))).toNat) 0] [.live (.rowQ 59 4 (Mp zA (ini zC)) (!(zC).isEmpty) (yG (lst zC)++[.own 1 ((lst zC).Events).length])),Rb 42 6 (Mp zE (lst zC).Events)] zH (ac h_2.1 (ac h_2.2 an)) ?_
  refine sq ?_
  obtain ⟨_,h_3,h⟩:=bind_some h;replace h_3:=wS h_3
  refine rg [(3,{ x:=true }),(7,{ n:=(zR).length })] [0,1,5,6] [0,1] 2 [.own 0 ((zC).length),.sl false 6 (Mp zE zR),.ptr 0 4 ((zK ((lN (zC)) - (1:Int))).toNat) 0,Ii (wH (zK ((1000:Int) - (lN ((lst zC).Events)))) (lN (zR)))] [.live (.rowQ 59 4 (Mp zA (ini zC)) (!(zC).isEmpty) (yG (lst zC)++[.own 1 ((lst zC).Events).length])),Rb 42 6 (Mp zE (lst zC).Events)] zH (ac (zHh _ h_3:(zK ((lN (zC)) - (1:Int))).toNat=(Mp zA (ini zC)).length) (ac (zDq (Nat.lt_of_lt_of_eq (Nat.succ_pos _) h_3):(!(zC).isEmpty)=true) (ac (yH _:((Mp zE zR)).length=(zR).length) an))) ?_
  refine sq ?_
  refine sr [] [0,1,5,6,25] [0,1] 2 [.own 0 ((zC).length),.sl false 6 (Mp zE zR),.ptr 0 4 ((zK ((lN (zC)) - (1:Int))).toNat) 0,Ii (wH (zK ((1000:Int) - (lN ((lst zC).Events)))) (lN (zR))),.bool ((wH (zK ((1000:Int) - (lN ((lst zC).Events)))) (lN (zR)))==(0:Int))] [.live (.rowQ 59 4 (Mp zA (ini zC)) (!(zC).isEmpty) (yG (lst zC)++[.own 1 ((lst zC).Events).length])),Rb 42 6 (Mp zE (lst zC).Events)] zH an ?_
  refine cd 25 ((wH (zK ((1000:Int) - (lN ((lst zC).Events)))) (lN (zR)))==(0:Int)) ?_ ?_
  ·intro g_2;replace h:=zT g_2 h
   refine sq ?_
   refine qM (zIf (e:=59) (sz:=4) 0 1 (Mp zA zC) (by kernel_rfl) (ac ((List.length_map _).symm:((lst zC).Events).length=(Mp zE (lst zC).Events:List AV).length) (ac (zHB zA zC _ rfl:(Mp zA zC:List AV)=List.map zA (ini zC)++bif (!(zC).isEmpty) then [.agg (yG (lst zC)++[.sl false 6 (Mp zE (lst zC).Events)])] else []) an))) ?_
   refine wk [0] [] [.s 0,.s 1,.s 5] [.s 0] [(0,.own 0 ((zC).length)),(1,.sl false 6 (Mp zE zR)),(5,.ptr 0 4 ((zK ((lN (zC)) - (1:Int))).toNat) 0)] [(0,Rb 59 4 (Mp zA zC))] an ?_
   obtain ⟨_,h_4,h⟩:=bind_some h;replace h_4:=wS h_4
   obtain ⟨_,h_5,h⟩:=bind_some h;replace h_5:=wS h_5
   obtain ⟨_,h_6,h⟩:=bind_some h;replace h_6:=wS h_6
   refine rg [(4,{ av:=zA (lst zC) }),(8,{ av:=zA (lst zC) }),(11,{ id:=1 }),(12,{ id:=2,l:=(Mp zA zC++[.agg [Ii ((lst zC).Thread),Ii (zK (((lst zC).Serial)+(1000:Int))),Ii 0,.nilsl]]),n:=((zC).length+1) })] [0,1] [2] 3 [.own 2 ((zC).length+1),.sl false 6 (Mp zE zR)] [Rb 59 4 (Mp zA zC++[.agg [Ii ((lst zC).Thread),Ii (zK (((lst zC).Serial)+(1000:Int))),Ii 0,.nilsl]])] zH (ac (zMs _ h_4:(Mp zA zC)[(zK ((lN (zC)) - (1:Int))).toNat]?=some (zA (lst zC))) (ac (zMs _ h_5:(Mp zA zC)[(zK ((lN (zC)) - (1:Int))).toNat]?=some (zA (lst zC))) (ac ((List.length_map _).symm:(zC).length=(Mp zA zC).length) (ac (rfl:1=([.agg [Ii ((lst zC).Thread),Ii (zK (((lst zC).Serial)+(1000:Int))),Ii 0,.nilsl]]:List AV).length) (ac (rfl:((Mp zA zC++[.agg [Ii ((lst zC).Thread),Ii (zK (((lst zC).Serial)+(1000:Int))),Ii 0,.nilsl]]):List AV)=List.map zA zC++[.agg [Ii ((lst zC).Thread),Ii (zK (((lst zC).Serial)+(1000:Int))),Ii 0,.nilsl]]) (ac (by simp:((zC).length+1)=((List.map zA zC++[.agg [Ii ((lst zC).Thread),Ii (zK (((lst zC).Serial)+(1000:Int))),Ii 0,.nilsl]]):List AV).length) (ac (by rw [List.length_map];exact h_6:((List.map zA zC:List AV).length+([.agg [Ii ((lst zC).Thread),Ii (zK (((lst zC).Serial)+(1000:Int))),Ii 0,.nilsl]]:List AV).length) * 48≤140737488355328) an))))))) ?_
   refine qM (zFg (e:=59) (sz:=4) 2 3 42 6 (Mp zA zC) [Ii ((lst zC).Thread),Ii (zK (((lst zC).Serial)+(1000:Int))),Ii 0] (by kernel_rfl) (ac (rfl:(Mp zA zC++[.agg [Ii ((lst zC).Thread),Ii (zK (((lst zC).Serial)+(1000:Int))),Ii 0,.nilsl]]:List AV)=List.map zA zC++[.agg ([Ii ((lst zC).Thread),Ii (zK (((lst zC).Serial)+(1000:Int))),Ii 0]++[.nilsl])]) an)) ?_
   refine wk [2,3] [] [.a 0 (.own 0 (((zC++[(⟨(lst zC).Thread,zK (((lst zC).Serial)+(1000:Int)),(0:Int),[]⟩:zB)])).length)),.s 1] [.a 0 (.live (.rowQ 59 4 (Mp zA (ini (zC++[(⟨(lst zC).Thread,zK (((lst zC).Serial)+(1000:Int)),(0:Int),[]⟩:zB)]))) (!((zC++[(⟨(lst zC).Thread,zK (((lst zC).Serial)+(1000:Int)),(0:Int),[]⟩:zB)])).isEmpty) (yG (lst (zC++[(⟨(lst zC).Thread,zK (((lst zC).Serial)+(1000:Int)),(0:Int),[]⟩:zB)]))++[.own 1 ((lst (zC++[(⟨(lst zC).Thread,zK (((lst zC).Serial)+(1000:Int)),(0:Int),[]⟩:zB)])).Events).length]))),.a 1 (Rb 42 6 (Mp zE (lst (zC++[(⟨(lst zC).Thread,zK (((lst zC).Serial)+(1000:Int)),(0:Int),[]⟩:zB)])).Events))] [(0,.own 0 (((zC++[(⟨(lst zC).Thread,zK (((lst zC).Serial)+(1000:Int)),(0:Int),[]⟩:zB)])).length)),(1,.sl false 6 (Mp zE zR))] [(0,.live (.rowQ 59 4 (Mp zA (ini (zC++[(⟨(lst zC).Thread,zK (((lst zC).Serial)+(1000:Int)),(0:Int),[]⟩:zB)]))) (!((zC++[(⟨(lst zC).Thread,zK (((lst zC).Serial)+(1000:Int)),(0:Int),[]⟩:zB)])).isEmpty) (yG (lst (zC++[(⟨(lst zC).Thread,zK (((lst zC).Serial)+(1000:Int)),(0:Int),[]⟩:zB)]))++[.own 1 ((lst (zC++[(⟨(lst zC).Thread,zK (((lst zC).Serial)+(1000:Int)),(0:Int),[]⟩:zB)])).Events).length]))),(1,Rb 42 6 (Mp zE (lst (zC++[(⟨(lst zC).Thread,zK (((lst zC).Serial)+(1000:Int)),(0:Int),[]⟩:zB)])).Events))] (ac (congrArg (AV.own _) (by first | (simp;done) | (simp;omega)):(.own 2 ((zC).length+1):AV)=.own 2 (((zC++[(⟨(lst zC).Thread,zK (((lst zC).Serial)+(1000:Int)),(0:Int),[]⟩:zB)])).length)) (ar 59 (ar 4 (ac ((congrArg (List.map _) (qY _ _)).symm:((Mp zA zC):List AV)=List.map zA (ini (zC++[(⟨(lst zC).Thread,zK (((lst zC).Serial)+(1000:Int)),(0:Int),[]⟩:zB)]))) (ac ((zHv _ _).symm:true=(!((zC++[(⟨(lst zC).Thread,zK (((lst zC).Serial)+(1000:Int)),(0:Int),[]⟩:zB)])).isEmpty)) (ac (rfl:uJ (yG (lst (zC++[(⟨(lst zC).Thread,zK (((lst zC).Serial)+(1000:Int)),(0:Int),[]⟩:zB)]))++[.own 3 ((lst (zC++[(⟨(lst zC).Thread,zK (((lst zC).Serial)+(1000:Int)),(0:Int),[]⟩:zB)])).Events).length])=true) (ac (by first | (simp only [y8];done) | simp [y8]:(Ii ((lst zC).Thread):AV)=Ii ((lst (zC++[(⟨(lst zC).Thread,zK (((lst zC).Serial)+(1000:Int)),(0:Int),[]⟩:zB)])).Thread)) (ac (by first | (simp only [y8];done) | simp [y8]:(Ii (zK (((lst zC).Serial)+(1000:Int))):AV)=Ii ((lst (zC++[(⟨(lst zC).Thread,zK (((lst zC).Serial)+(1000:Int)),(0:Int),[]⟩:zB)])).Serial)) (ac (by first | (simp only [y8];done) | simp [y8]:(Ii 0:AV)=Ii ((lst (zC++[(⟨(lst zC).Thread,zK (((lst zC).Serial)+(1000:Int)),(0:Int),[]⟩:zB)])).Lost)) (ac (congrArg (AV.own _) (by first | (simp only [y8];done) | simp [y8]):(.own 3 0:AV)=.own 3 (((lst (zC++[(⟨(lst zC).Thread,zK (((lst zC).Serial)+(1000:Int)),(0:Int),[]⟩:zB)])).Events).length)) (ar 42 (ar 6 (ac (by first | (simp only [y8];done) | simp [y8]:([]:List AV)=List.map zE (lst (zC++[(⟨(lst zC).Thread,zK (((lst zC).Serial)+(1000:Int)),(0:Int),[]⟩:zB)])).Events) an))))))))))))) ?_
   refine w5 (id:=1) (by kernel_rfl) ?_
   exact ⟨_,(sw [0,1] [] [.s 0,.s 1] [.s 0,.s 1] an),_,_,rfl,h⟩
  intro g_2;replace h:=zU g_2 h
  refine sk ?_
  refine sq ?_
  obtain ⟨_,h_7,h⟩:=bind_some h;replace h_7:=wS h_7
  obtain ⟨_,h_8,h⟩:=bind_some h;replace h_8:=wS h_8
  obtain ⟨_,h_9,h⟩:=bind_some h;replace h_9:=wS h_9
  obtain ⟨_,qU,h⟩:=bind_some h;replace qU:=wS qU
  refine rg [(4,{ x:=true }),(7,{ l:=(Mp zE (sub zR (0:Int) (wH (zK ((1000:Int) - (lN ((lst zC).Events)))) (lN (zR))))) }),(8,{ id:=2,l:=(Mp zE (((lst zC).Events)++(sub zR (0:Int) (wH (zK ((1000:Int) - (lN ((lst zC).Events)))) (lN (zR)))))),n:=((((lst zC).Events)++(sub zR (0:Int) (wH (zK ((1000:Int) - (lN ((lst zC).Events)))) (lN (zR)))))).length }),(11,{ x:=true })] [0,1,6] [0,2] 3 [.own 0 ((zC).length),.sl false 6 (Mp zE zR),Ii (wH (zK ((1000:Int) - (lN ((lst zC).Events)))) (lN (zR)))] [.live (.rowQ 59 4 (Mp zA (ini zC)) (!(zC).isEmpty) [Ii ((lst zC).Thread),Ii ((lst zC).Serial),Ii ((lst zC).Lost),.own 2 (((((lst zC).Events)++(sub zR (0:Int) (wH (zK ((1000:Int) - (lN ((lst zC).Events)))) (lN (zR)))))).length)]),Rb 42 6 (Mp zE (((lst zC).Events)++(sub zR (0:Int) (wH (zK ((1000:Int) - (lN ((lst zC).Events)))) (lN (zR))))))] zH (ac (zHh _ h_7:(zK ((lN (zC)) - (1:Int))).toNat=(Mp zA (ini zC)).length) (ac (zDq (Nat.lt_of_lt_of_eq (Nat.succ_pos _) h_7):(!(zC).isEmpty)=true) (ac (by decide:(0:Int)≤(0:Int)) (ac h_8.1 (ac (zBU h_8.2:(wH (zK ((1000:Int) - (lN ((lst zC).Events)))) (lN (zR)))≤(lN ((Mp zE zR)))) (ac (zIr _ _ _:(Mp zE (sub zR (0:Int) (wH (zK ((1000:Int) - (lN ((lst zC).Events)))) (lN (zR)))))=(((Mp zE zR)).take (wH (zK ((1000:Int) - (lN ((lst zC).Events)))) (lN (zR))).toNat).drop ((0:Int)).toNat) (ac (by first | (simp;done) | (simp;omega):((lst zC).Events).length=((List.map zE ((lst zC).Events))).length) (ac (trivial:True) (ac (zBE _ _:(Mp zE (((lst zC).Events)++(sub zR (0:Int) (wH (zK ((1000:Int) - (lN ((lst zC).Events)))) (lN (zR))))))=(Mp zE ((lst zC).Events))++(Mp zE (sub zR (0:Int) (wH (zK ((1000:Int) - (lN ((lst zC).Events)))) (lN (zR)))))) (ac (by simp:((((lst zC).Events)++(sub zR (0:Int) (wH (zK ((1000:Int) - ((((lst zC).Events).length:Nat):Int))) (((zR).length:Nat):Int))))).length=((List.map zE (((lst zC).Events)++(sub zR (0:Int) (wH (zK ((1000:Int) - ((((lst zC).Events).length:Nat):Int))) (((zR).length:Nat):Int)))))).length) (ac (by first | (simp;done) | simpa using h_9:(((List.map zE ((lst zC).Events)):List AV).length+((List.map zE (sub zR (0:Int) (wH (zK ((1000:Int) - ((((lst zC).Events).length:Nat):Int))) (((zR).length:Nat):Int)))):List AV).length) * 72≤140737488355328) (ac (zHh _ qU:(zK ((lN (zC)) - (1:Int))).toNat=(Mp zA (ini zC)).length) (ac (zDq (Nat.lt_of_lt_of_eq (Nat.succ_pos _) qU):(!(zC).isEmpty)=true) an))))))))))))) ?_
  refine wk [0,2] [] [.a 0 (.own 0 ((((ini zC)++[(⟨(lst zC).Thread,(lst zC).Serial,(lst zC).Lost,(((lst zC).Events)++(sub zR (0:Int) (wH (zK ((1000:Int) - (lN ((lst zC).Events)))) (lN (zR)))))⟩:zB)])).length)),.s 1,.s 6] [.a 0 (.live (.rowQ 59 4 (Mp zA (ini ((ini zC)++[(⟨(lst zC).Thread,(lst zC).Serial,(lst zC).Lost,(((lst zC).Events)++(sub zR (0:Int) (wH (zK ((1000:Int) - (lN ((lst zC).Events)))) (lN (zR)))))⟩:zB)]))) (!(((ini zC)++[(⟨(lst zC).Thread,(lst zC).Serial,(lst zC).Lost,(((lst zC).Events)++(sub zR (0:Int) (wH (zK ((1000:Int) - (lN ((lst zC).Events)))) (lN (zR)))))⟩:zB)])).isEmpty) (yG (lst ((ini zC)++[(⟨(lst zC).Thread,(lst zC).Serial,(lst zC).Lost,(((lst zC).Events)++(sub zR (0:Int) (wH (zK ((1000:Int) - (lN ((lst zC).Events)))) (lN (zR)))))⟩:zB)]))++[.own 1 ((lst ((ini zC)++[(⟨(lst zC).Thread,(lst zC).Serial,(lst zC).Lost,(((lst zC).Events)++(sub zR (0:Int) (wH (zK ((1000:Int) - (lN ((lst zC).Events)))) (lN (zR)))))⟩:zB)])).Events).length]))),.a 1 (Rb 42 6 (Mp zE (lst ((ini zC)++[(⟨(lst zC).Thread,(lst zC).Serial,(lst zC).Lost,(((lst zC).Events)++(sub zR (0:Int) (wH (zK ((1000:Int) - (lN ((lst zC).Events)))) (lN (zR)))))⟩:zB)])).Events))] [(0,.own 0 ((((ini zC)++[(⟨(lst zC).Thread,(lst zC).Serial,(lst zC).Lost,(((lst zC).Events)++(sub zR (0:Int) (wH (zK ((1000:Int) - (lN ((lst zC).Events)))) (lN (zR)))))⟩:zB)])).length)),(1,.sl false 6 (Mp zE zR)),(6,Ii (wH (zK ((1000:Int) - (lN ((lst zC).Events)))) (lN (zR))))] [(0,.live (.rowQ 59 4 (Mp zA (ini ((ini zC)++[(⟨(lst zC).Thread,(lst zC).Serial,(lst zC).Lost,(((lst zC).Events)++(sub zR (0:Int) (wH (zK ((1000:Int) - (lN ((lst zC).Events)))) (lN (zR)))))⟩:zB)]))) (!(((ini zC)++[(⟨(lst zC).Thread,(lst zC).Serial,(lst zC).Lost,(((lst zC).Events)++(sub zR (0:Int) (wH (zK ((1000:Int) - (lN ((lst zC).Events)))) (lN (zR)))))⟩:zB)])).isEmpty) (yG (lst ((ini zC)++[(⟨(lst zC).Thread,(lst zC).Serial,(lst zC).Lost,(((lst zC).Events)++(sub zR (0:Int) (wH (zK ((1000:Int) - (lN ((lst zC).Events)))) (lN (zR)))))⟩:zB)]))++[.own 1 ((lst ((ini zC)++[(⟨(lst zC).Thread,(lst zC).Serial,(lst zC).Lost,(((lst zC).Events)++(sub zR (0:Int) (wH (zK ((1000:Int) - (lN ((lst zC).Events)))) (lN (zR)))))⟩:zB)])).Events).length]))),(1,Rb 42 6 (Mp zE (lst ((ini zC)++[(⟨(lst zC).Thread,(lst zC).Serial,(lst zC).Lost,(((lst zC).Events)++(sub zR (0:Int) (wH (zK ((1000:Int) - (lN ((lst zC).Events)))) (lN (zR)))))⟩:zB)])).Events))] (ac (congrArg (AV.own _) (zNy _ qU).symm:(.own 0 ((zC).length):AV)=.own 0 ((((ini zC)++[(⟨(lst zC).Thread,(lst zC).Serial,(lst zC).Lost,(((lst zC).Events)++(sub zR (0:Int) (wH (zK ((1000:Int) - (lN ((lst zC).Events)))) (lN (zR)))))⟩:zB)])).length)) (ar 59 (ar 4 (ac ((congrArg (List.map _) (qY _ _)).symm:((Mp zA (ini zC)):List AV)=List.map zA (ini ((ini zC)++[(⟨(lst zC).Thread,(lst zC).Serial,(lst zC).Lost,(((lst zC).Events)++(sub zR (0:Int) (wH (zK ((1000:Int) - (lN ((lst zC).Events)))) (lN (zR)))))⟩:zB)]))) (ac ((zDq (Nat.lt_of_lt_of_eq (Nat.succ_pos _) qU)).trans (zHv _ _).symm:(!(zC).isEmpty)=(!(((ini zC)++[(⟨(lst zC).Thread,(lst zC).Serial,(lst zC).Lost,(((lst zC).Events)++(sub zR (0:Int) (wH (zK ((1000:Int) - (lN ((lst zC).Events)))) (lN (zR)))))⟩:zB)])).isEmpty)) (ac (rfl:uJ (yG (lst ((ini zC)++[(⟨(lst zC).Thread,(lst zC).Serial,(lst zC).Lost,(((lst zC).Events)++(sub zR (0:Int) (wH (zK ((1000:Int) - (lN ((lst zC).Events)))) (lN (zR)))))⟩:zB)]))++[.own 2 ((lst ((ini zC)++[(⟨(lst zC).Thread,(lst zC).Serial,(lst zC).Lost,(((lst zC).Events)++(sub zR (0:Int) (wH (zK ((1000:Int) - (lN ((lst zC).Events)))) (lN (zR)))))⟩:zB)])).Events).length])=true) (ac (by first | (simp only [y8];done) | simp [y8]:(Ii ((lst zC).Thread):AV)=Ii ((lst ((ini zC)++[(⟨(lst zC).Thread,(lst zC).Serial,(lst zC).Lost,(((lst zC).Events)++(sub zR (0:Int) (wH (zK ((1000:Int) - ((((lst zC).Events).length:Nat):Int))) (((zR).length:Nat):Int))))⟩:zB)])).Thread)) (ac (by first | (simp only [y8];done) | simp [y8]:(Ii ((lst zC).Serial):AV)=Ii ((lst ((ini zC)++[(⟨(lst zC).Thread,(lst zC).Serial,(lst zC).Lost,(((lst zC).Events)++(sub zR (0:Int) (wH (zK ((1000:Int) - ((((lst zC).Events).length:Nat):Int))) (((zR).length:Nat):Int))))⟩:zB)])).Serial)) (ac (by first | (simp only [y8];done) | simp [y8]:(Ii ((lst zC).Lost):AV)=Ii ((lst ((ini zC)++[(⟨(lst zC).Thread,(lst zC).Serial,(lst zC).Lost,(((lst zC).Events)++(sub zR (0:Int) (wH (zK ((1000:Int) - ((((lst zC).Events).length:Nat):Int))) (((zR).length:Nat):Int))))⟩:zB)])).Lost)) (ac (congrArg (AV.own _) (by first | (simp only [y8];done) | simp [y8]):(.own 2 (((((lst zC).Events)++(sub zR (0:Int) (wH (zK ((1000:Int) - (lN ((lst zC).Events)))) (lN (zR)))))).length):AV)=.own 2 (((lst ((ini zC)++[(⟨(lst zC).Thread,(lst zC).Serial,(lst zC).Lost,(((lst zC).Events)++(sub zR (0:Int) (wH (zK ((1000:Int) - (lN ((lst zC).Events)))) (lN (zR)))))⟩:zB)])).Events).length)) (ar 42 (ar 6 (ac (by first | (simp only [y8];done) | simp [y8]:((List.map zE (((lst zC).Events)++(sub zR (0:Int) (wH (zK ((1000:Int) - ((((lst zC).Events).length:Nat):Int))) (((zR).length:Nat):Int))))):List AV)=List.map zE (lst ((ini zC)++[(⟨(lst zC).Thread,(lst zC).Serial,(lst zC).Lost,(((lst zC).Events)++(sub zR (0:Int) (wH (zK ((1000:Int) - ((((lst zC).Events).length:Nat):Int))) (((zR).length:Nat):Int))))⟩:zB)])).Events) an))))))))))))) ?_
  obtain ⟨_,t7,h⟩:=bind_some h;replace t7:=wS t7
  refine rg [(2,{ l:=(Mp zE (sub zR (wH (zK ((1000:Int) - (lN ((lst zC).Events)))) (lN (zR))) (lN (zR)))) })] [0,1] [0,1] 2 [.own 0 ((((ini zC)++[(⟨(lst zC).Thread,(lst zC).Serial,(lst zC).Lost,(((lst zC).Events)++(sub zR (0:Int) (wH (zK ((1000:Int) - (lN ((lst zC).Events)))) (lN (zR)))))⟩:zB)])).length),.sl false 6 (Mp zE (sub zR (wH (zK ((1000:Int) - (lN ((lst zC).Events)))) (lN (zR))) (lN (zR))))] [.live (.rowQ 59 4 (Mp zA (ini ((ini zC)++[(⟨(lst zC).Thread,(lst zC).Serial,(lst zC).Lost,(((lst zC).Events)++(sub zR (0:Int) (wH (zK ((1000:Int) - (lN ((lst zC).Events)))) (lN (zR)))))⟩:zB)]))) (!(((ini zC)++[(⟨(lst zC).Thread,(lst zC).Serial,(lst zC).Lost,(((lst zC).Events)++(sub zR (0:Int) (wH (zK ((1000:Int) - (lN ((lst zC).Events)))) (lN (zR)))))⟩:zB)])).isEmpty) (yG (lst ((ini zC)++[(⟨(lst zC).Thread,(lst zC).Serial,(lst zC).Lost,(((lst zC).Events)++(sub zR (0:Int) (wH (zK ((1000:Int) - (lN ((lst zC).Events)))) (lN (zR)))))⟩:zB)]))++[.own 1 ((lst ((ini zC)++[(⟨(lst zC).Thread,(lst zC).Serial,(lst zC).Lost,(((lst zC).Events)++(sub zR (0:Int) (wH (zK ((1000:Int) - (lN ((lst zC).Events)))) (lN (zR)))))⟩:zB)])).Events).length])),Rb 42 6 (Mp zE (lst ((ini zC)++[(⟨(lst zC).Thread,(lst zC).Serial,(lst zC).Lost,(((lst zC).Events)++(sub zR (0:Int) (wH (zK ((1000:Int) - (lN ((lst zC).Events)))) (lN (zR)))))⟩:zB)])).Events)] zH (ac t7.1 (ac (zBU t7.2:(wH (zK ((1000:Int) - (lN ((lst zC).Events)))) (lN (zR)))≤(lN ((Mp zE zR)))) (ac (Int.le_refl _:(lN ((Mp zE zR)))≤(lN ((Mp zE zR)))) (ac (zJg _ _:(Mp zE (sub zR (wH (zK ((1000:Int) - (lN ((lst zC).Events)))) (lN (zR))) (lN (zR))))=(((Mp zE zR)).take ((lN ((Mp zE zR)))).toNat).drop (wH (zK ((1000:Int) - (lN ((lst zC).Events)))) (lN (zR))).toNat) an)))) ?_
  exact ⟨_,(sw [0,1] [] [.s 0,.s 1] [.s 0,.s 1] an),_,_,rfl,h⟩
 refine sr [] [4] [0,1] 2 [.own 0 ((o_1).length)] [.live (.rowQ 59 4 (Mp zA (ini o_1)) (!(o_1).isEmpty) (yG (lst o_1)++[.own 1 ((lst o_1).Events).length])),Rb 42 6 (Mp zE (lst o_1).Events)] zH an ?_
 refine wk [0,1] [] [.s 4] [.s 0,.s 1] [(4,.own 0 ((o_1).length))] [(0,.live (.rowQ 59 4 (Mp zA (ini o_1)) (!(o_1).isEmpty) (yG (lst o_1)++[.own 1 ((lst o_1).Events).length]))),(1,Rb 42 6 (Mp zE (lst o_1).Events))] an ?_
 refine rt ?_
 cases h
 exact ⟨.inr rfl,Nat.le_of_ble_eq_true rfl,by kernel_rfl⟩

theorem kX (F:Nat) (h_1:zS) (l_1:List (zB)) (r:z9×Int) (h:kT F h_1 l_1=some r):zW prog 10 [] [] [y6 h_1,.sl false 4 (Mp zA l_1)] [] (.tuple [yB r.1,Ii r.2]):=by
 refine yK (fn:=Go.Proofs.Try.f10) (code:=xY Go.Proofs.Try.f10) (by kernel_rfl) (by kernel_rfl) (Nat.le_of_ble_eq_true (by kernel_rfl)) ?_
 unfold kT at h
 refine sr [(0,{ id:=0 }),(1,{ id:=1 })] [1,2,4] [0,1] 2 [.sl false 4 (Mp zA l_1),Pp 0,Pp 1] [Vb 26 (zX h_1),Vb 31 [.nilsl,.nilsl,.nilsl,.nilsl]] zH an ?_
 refine qM (pC 1 3 2 59 4 (by kernel_rfl)) ?_
 refine wk [0,1,2] [] [.s 1,.s 2,.s 4] [.s 0,.s 1,.s 2] [(1,.sl false 4 (Mp zA l_1)),(2,Pp 0),(4,Pp 1)] [(0,Vb 26 (zX h_1)),(1,Vb 31 [.nilsl,.nilsl,.nilsl,.own 2 0]),(2,Rb 59 4 [])] an ?_
 refine sq ?_
 refine sq ?_
 obtain ⟨r_1,h_2,h⟩:=bind_some h
 refine rg [(1,{ av:=Ii r_1,l:=[y6 h_1] })] [1,2,4,6] [0,1,2] 3 [.sl false 4 (Mp zA l_1),Pp 0,Pp 1,Ii r_1] [Vb 26 (zX h_1),Vb 31 [.nilsl,.nilsl,.nilsl,.own 2 0],Rb 59 4 []] zH (ar ([y6 h_1]:List AV) (ac (rfl:([]:List zO)=[]) (ac (zIu F h_1 r_1 h_2:zW prog 27 [] [] [y6 h_1] [] (Ii r_1)) an))) ?_
 refine sr [] [1,2,4,6,18] [0,1,2] 3 [.sl false 4 (Mp zA l_1),Pp 0,Pp 1,Ii r_1,.bool (r_1 != (0:Int))] [Vb 26 (zX h_1),Vb 31 [.nilsl,.nilsl,.nilsl,.own 2 0],Rb 59 4 []] zH an ?_
 refine cd 18 (r_1 != (0:Int)) ?_ ?_
 ·intro g_1;replace h:=zT g_1 h
  refine sr [] [4,5] [1] 3 [Pp 1,Ii r_1] [Vb 31 [.nilsl,.nilsl,.nilsl,.nilsl]] zH an ?_
  refine qM (pC 1 3 3 59 4 (by kernel_rfl)) ?_
  refine wk [1,3] [] [.s 4,.s 5] [.s 0,.s 1] [(4,Pp 0),(5,Ii r_1)] [(0,Vb 31 [.nilsl,.nilsl,.nilsl,.own 1 0]),(1,Rb 59 4 [])] an ?_
  refine wk [0] [1] [.s 4,.s 5] [.a 0 (Vb 31 [.sl false 3 (Mp zG (((⟨(⟨[],[],[]⟩:zS),[]⟩:z9).Head).Threads)),.sl false 2 (Mp zD (((⟨(⟨[],[],[]⟩:zS),[]⟩:z9).Head).Domains)),.sl false 5 (Mp zF (((⟨(⟨[],[],[]⟩:zS),[]⟩:z9).Head).Snaps)),.sl false 4 (Mp zA ((⟨(⟨[],[],[]⟩:zS),[]⟩:z9).Parts))])] [(4,Pp 0),(5,Ii r_1)] [(0,Vb 31 [.sl false 3 (Mp zG (((⟨(⟨[],[],[]⟩:zS),[]⟩:z9).Head).Threads)),.sl false 2 (Mp zD (((⟨(⟨[],[],[]⟩:zS),[]⟩:z9).Head).Domains)),.sl false 5 (Mp zF (((⟨(⟨[],[],[]⟩:zS),[]⟩:z9).Head).Snaps)),.sl false 4 (Mp zA ((⟨(⟨[],[],[]⟩:zS),[]⟩:z9).Parts))])] (ar 31 (ac (rfl:uJ [.sl false 3 (Mp zG (((⟨(⟨[],[],[]⟩:zS),[]⟩:z9).Head).Threads)),.sl false 2 (Mp zD (((⟨(⟨[],[],[]⟩:zS),[]⟩:z9).Head).Domains)),.sl false 5 (Mp zF (((⟨(⟨[],[],[]⟩:zS),[]⟩:z9).Head).Snaps)),.sl false 4 (Mp zA ((⟨(⟨[],[],[]⟩:zS),[]⟩:z9).Parts))]=true) (ac (by first | (simp;done) | (simp;omega):0=(([]:List AV)).length) (ac (rfl:((Mp zG (((⟨(⟨[],[],[]⟩:zS),[]⟩:z9).Head).Threads)):List AV)=[]) (ac (rfl:((Mp zD (((⟨(⟨[],[],[]⟩:zS),[]⟩:z9).Head).Domains)):List AV)=[]) (ac (rfl:((Mp zF (((⟨(⟨[],[],[]⟩:zS),[]⟩:z9).Head).Snaps)):List AV)=[]) (ar 4 (ac (rfl:([]:List AV)=(Mp zA ((⟨(⟨[],[],[]⟩:zS),[]⟩:z9).Parts))) (ac (rfl:(!false||false)=true) an))))))))) ?_
  refine rt ?_
  cases h
  exact ⟨.inr rfl,Nat.le_of_ble_eq_true rfl,by kernel_rfl⟩
 intro g_1;replace h:=zU g_1 h
 refine sk ?_
 refine sq ?_
 refine sq ?_
 obtain ⟨r_2,h_3,h⟩:=bind_some h
 refine rg [(2,{ av:=Ii r_2,l:=[y6 h_1,.sl false 4 (Mp zA l_1)] })] [1,2,4,7] [0,1,2] 3 [.sl false 4 (Mp zA l_1),Pp 0,Pp 1,Ii r_2] [Vb 26 (zX h_1),Vb 31 [.nilsl,.nilsl,.nilsl,.own 2 0],Rb 59 4 []] zH (ar ([y6 h_1,.sl false 4 (Mp zA l_1)]:List AV) (ac (rfl:([]:List zO)=[]) (ac (zHq F h_1 l_1 r_2 h_3:zW prog 28 [] [] [y6 h_1,.sl false 4 (Mp zA l_1)] [] (Ii r_2)) an))) ?_
 refine sr [] [1,2,4,7,25] [0,1,2] 3 [.sl false 4 (Mp zA l_1),Pp 0,Pp 1,Ii r_2,.bool (r_2 != (0:Int))] [Vb 26 (zX h_1),Vb 31 [.nilsl,.nilsl,.nilsl,.own 2 0],Rb 59 4 []] zH an ?_
 refine cd 25 (r_2 != (0:Int)) ?_ ?_
 ·intro g_2;replace h:=zT g_2 h
  refine sr [] [4,5] [1] 3 [Pp 1,Ii r_2] [Vb 31 [.nilsl,.nilsl,.nilsl,.nilsl]] zH an ?_
  refine qM (pC 1 3 3 59 4 (by kernel_rfl)) ?_
  refine wk [1,3] [] [.s 4,.s 5] [.s 0,.s 1] [(4,Pp 0),(5,Ii r_2)] [(0,Vb 31 [.nilsl,.nilsl,.nilsl,.own 1 0]),(1,Rb 59 4 [])] an ?_
  refine wk [0] [1] [.s 4,.s 5] [.a 0 (Vb 31 [.sl false 3 (Mp zG (((⟨(⟨[],[],[]⟩:zS),[]⟩:z9).Head).Threads)),.sl false 2 (Mp zD (((⟨(⟨[],[],[]⟩:zS),[]⟩:z9).Head).Domains)),.sl false 5 (Mp zF (((⟨(⟨[],[],[]⟩:zS),[]⟩:z9).Head).Snaps)),.sl false 4 (Mp zA ((⟨(⟨[],[],[]⟩:zS),[]⟩:z9).Parts))])] [(4,Pp 0),(5,Ii r_2)] [(0,Vb 31 [.sl false 3 (Mp zG (((⟨(⟨[],[],[]⟩:zS),[]⟩:z9).Head).Threads)),.sl false 2 (Mp zD (((⟨(⟨[],[],[]⟩:zS),[]⟩:z9).Head).Domains)),.sl false 5 (Mp zF (((⟨(⟨[],[],[]⟩:zS),[]⟩:z9).Head).Snaps)),.sl false 4 (Mp zA ((⟨(⟨[],[],[]⟩:zS),[]⟩:z9).Parts))])] (ar 31 (ac (rfl:uJ [.sl false 3 (Mp zG (((⟨(⟨[],[],[]⟩:zS),[]⟩:z9).Head).Threads)),.sl false 2 (Mp zD (((⟨(⟨[],[],[]⟩:zS),[]⟩:z9).Head).Domains)),.sl false 5 (Mp zF (((⟨(⟨[],[],[]⟩:zS),[]⟩:z9).Head).Snaps)),.sl false 4 (Mp zA ((⟨(⟨[],[],[]⟩:zS),[]⟩:z9).Parts))]=true) (ac (by first | (simp;done) | (simp;omega):0=(([]:List AV)).length) (ac (rfl:((Mp zG (((⟨(⟨[],[],[]⟩:zS),[]⟩:z9).Head).Threads)):List AV)=[]) (ac (rfl:((Mp zD (((⟨(⟨[],[],[]⟩:zS),[]⟩:z9).Head).Domains)):List AV)=[]) (ac (rfl:((Mp zF (((⟨(⟨[],[],[]⟩:zS),[]⟩:z9).Head).Snaps)):List AV)=[]) (ar 4 (ac (rfl:([]:List AV)=(Mp zA ((⟨(⟨[],[],[]⟩:zS),[]⟩:z9).Parts))) (ac (rfl:(!false||false)=true) an))))))))) ?_
  refine rt ?_
  cases h
  exact ⟨.inr rfl,Nat.le_of_ble_eq_true rfl,by kernel_rfl⟩
 intro g_2;replace h:=zU g_2 h
 refine sk ?_
 refine sr [(0,{ id:=3,mag:=false,mks:=[.int .i64] })] [1,2,4,8] [0,1,2,3] 4 [.sl false 4 (Mp zA l_1),Pp 0,Pp 1,.mp 3] [Vb 26 (zX h_1),Vb 31 [.nilsl,.nilsl,.nilsl,.own 2 0],Rb 59 4 [],.live (.map false [.int .i64] [])] zH an ?_
 refine zHC 3 4 (ag:=false) (ks:=[.int .i64]) (.nm 59 4 42 6) (by kernel_rfl) (by kernel_rfl) (zMp (by kernel_rfl)) ?_
 intro b_1
 refine wk [0,1,2,4] [] [.s 1,.s 2,.s 4,.s 8] [.s 0,.s 1,.s 2,.s 3] [(1,.sl false 4 (Mp zA l_1)),(2,Pp 0),(4,Pp 1),(8,.rawm b_1)] [(0,Vb 26 (zX h_1)),(1,Vb 31 [.nilsl,.nilsl,.nilsl,.own 2 0]),(2,Rb 59 4 []),(3,.live (.fam (.cl b_1 false [.int .i64] (.nm 59 4 42 6) (List.map (mpE (AV.int .i64) yS) ([]:List (Int×(List (zB))))))))] an ?_
 refine sq ?_
 refine sr [(1,{ n:=(l_1).length })] [2,4,8,29,30,31] [0,1,2,3] 4 [Pp 0,Pp 1,.rawm b_1,.sl false 4 (Mp zA l_1),Ii (lN (l_1)),Ii 0] [Vb 26 (zX h_1),Vb 31 [.nilsl,.nilsl,.nilsl,.own 2 0],Rb 59 4 [],.live (.fam (.cl b_1 false [.int .i64] (.nm 59 4 42 6) (List.map (mpE (AV.int .i64) yS) ([]:List (Int×(List (zB)))))))] zH (ac (yH _:((Mp zA l_1)).length=(l_1).length) an) ?_
 obtain ⟨o_1,h_4,h⟩:=bind_some h
 refine wO (mk [(2,Pp 0),(4,Pp 1),(8,.rawm b_1)] [(0,Vb 26 (zX h_1)),(1,Vb 31 [.nilsl,.nilsl,.nilsl,.own 2 0]),(2,Rb 59 4 []),(3,.live (.fam (.cl b_1 false [.int .i64] (.nm 59 4 42 6) (List.map (mpE (AV.int .i64) yS) o_1))))] 4) ?_ ?_
 ·replace h:=h_4
  refine yU (id:=0) (by kernel_rfl) ?_
  refine wk [0,1,2,3] [] [.s 2,.s 4,.s 8,.s 29,.s 30,.s 31] [.s 0,.s 1,.s 2,.s 3] [(2,Pp 0),(4,Pp 1),(8,.rawm b_1),(29,.sl false 4 (Mp zA l_1)),(30,Ii (lN (l_1))),(31,Ii 0)] [(0,Vb 26 (zX h_1)),(1,Vb 31 [.nilsl,.nilsl,.nilsl,.own 2 0]),(2,Rb 59 4 []),(3,.live (.fam (.cl b_1 false [.int .i64] (.nm 59 4 42 6) (List.map (mpE (AV.int .i64) yS) ([]:List (Int×(List (zB))))))))] an ?_
  refine wT (fun n st=>∃ (v_1:Int),∃ (zC:List (Int×(List (zB)))),st=mk [(2,Pp 0),(4,Pp 1),(8,.rawm b_1),(29,.sl false 4 (Mp zA l_1)),(30,Ii (lN (l_1))),(31,Ii v_1)] [(0,Vb 26 (zX h_1)),(1,Vb 31 [.nilsl,.nilsl,.nilsl,.own 2 0]),(2,Rb 59 4 []),(3,.live (.fam (.cl b_1 false [.int .i64] (.nm 59 4 42 6) (List.map (mpE (AV.int .i64) yS) zC))))] 4∧j4 F l_1 n v_1 zC=some o_1) F (by kernel_rfl) ⟨_,_,rfl,h⟩ ?_ ?_
  ·rintro _ ⟨_,_,_,h⟩;exact wV (h:(none:Option (List (Int×(List (zB)))))=some o_1)
  rintro n_1 _ ⟨v_1,zC,rfl,h⟩
  replace h:jU F l_1 (j4 F l_1 n_1) v_1 zC=some o_1:=h
  unfold jU at h
  refine sr [] [2,4,8,29,30,31,32] [0,1,2,3] 4 [Pp 0,Pp 1,.rawm b_1,.sl false 4 (Mp zA l_1),Ii (lN (l_1)),Ii v_1,.bool (decide (v_1<(lN (l_1))))] [Vb 26 (zX h_1),Vb 31 [.nilsl,.nilsl,.nilsl,.own 2 0],Rb 59 4 [],.live (.fam (.cl b_1 false [.int .i64] (.nm 59 4 42 6) (List.map (mpE (AV.int .i64) yS) zC)))] zH an ?_
  refine sq ?_
  refine cd 32 (decide (v_1<(lN (l_1)))) ?_ ?_
  rotate_left
  ·intro g_3;replace h:=zU g_3 h
   refine w5 (id:=0) (by kernel_rfl) ?_
   cases h
   exact ⟨rfl,(sw [0,1,2,3] [] [.s 2,.s 4,.s 8] [.s 0,.s 1,.s 2,.s 3] an)⟩
  intro g_3;replace h:=zT g_3 h
  refine sk ?_
  refine sq ?_
  refine yU (id:=1) (by kernel_rfl) ?_
  refine sq ?_
  obtain ⟨x_1,h_5,h⟩:=bind_some h
  refine rg [(0,{ av:=zA x_1 }),(2,{ id:=4 })] [2,4,8,10,29,30,31] [0,1,2,3,4] 5 [Pp 0,Pp 1,.rawm b_1,Pp 4,.sl false 4 (Mp zA l_1),Ii (lN (l_1)),Ii v_1] [Vb 26 (zX h_1),Vb 31 [.nilsl,.nilsl,.nilsl,.own 2 0],Rb 59 4 [],.live (.fam (.cl b_1 false [.int .i64] (.nm 59 4 42 6) (List.map (mpE (AV.int .i64) yS) zC))),Vb 59 (z6 x_1)] zH (ac (wI h_5:vA (Mp zA l_1) v_1=some (zA x_1)) an) ?_
  refine sr [(3,{ av:=(yS ((yA zC x_1.Thread).getD [])),dep:=true,g:=(yA zC x_1.Thread).isSome,ids:=[5,6],l:=(yG (lst ([]:List zB))),n:=3,x:=true })] [2,4,8,10,11,29,30,31] [0,1,2,3,4,5,6] 7 [Pp 0,Pp 1,.rawm b_1,Pp 4,.own 5 ((Mp zA (ini ((yA zC x_1.Thread).getD []))).length+bif (!(((yA zC x_1.Thread).getD [])).isEmpty) then 1 else 0),.sl false 4 (Mp zA l_1),Ii (lN (l_1)),Ii v_1] [Vb 26 (zX h_1),Vb 31 [.nilsl,.nilsl,.nilsl,.own 2 0],Rb 59 4 [],.live (.fam (.op b_1 false [.int .i64] (.nm 59 4 42 6) (List.map (mpE (AV.int .i64) yS) zC) (Ii x_1.Thread))),Vb 59 (z6 x_1),.live (.rowQ 59 4 (Mp zA (ini ((yA zC x_1.Thread).getD []))) (!(((yA zC x_1.Thread).getD [])).isEmpty) (yG (lst ((yA zC x_1.Thread).getD []))++[.own 6 (Mp zE (lst ((yA zC x_1.Thread).getD [])).Events).length])),Rb 42 6 (Mp zE (lst ((yA zC x_1.Thread).getD [])).Events)] zH (ar b_1 (ac (nQ:vZ prog 3 false [.int .i64]) (ac (zDv (f:=(AV.int .i64)) (g:=yS) nR zC x_1.Thread []:jL (List.map (mpE (AV.int .i64) yS) zC) (Ii x_1.Thread) (zJU (.nm 59 4 42 6) (yG (lst ([]:List zB)))) (yS ((yA zC x_1.Thread).getD [])) (yA zC x_1.Thread).isSome) an))) ?_
  refine wk [0,1,2,3,4,5,6] [] [.s 2,.s 4,.s 8,.s 10,.a 11 (.own 5 ((((yA zC x_1.Thread).getD [])).length)),.s 29,.s 30,.s 31] [.s 0,.s 1,.s 2,.s 3,.s 4,.a 5 (.live (.rowQ 59 4 (Mp zA (ini ((yA zC x_1.Thread).getD []))) (!(((yA zC x_1.Thread).getD [])).isEmpty) (yG (lst ((yA zC x_1.Thread).getD []))++[.own 6 ((lst ((yA zC x_1.Thread).getD [])).Events).length]))),.s 6] [(2,Pp 0),(4,Pp 1),(8,.rawm b_1),(10,Pp 4),(11,.own 5 ((((yA zC x_1.Thread).getD [])).length)),(29,.sl false 4 (Mp zA l_1)),(30,Ii (lN (l_1))),(31,Ii v_1)] [(0,Vb 26 (zX h_1)),(1,Vb 31 [.nilsl,.nilsl,.nilsl,.own 2 0]),(2,Rb 59 4 []),(3,.live (.fam (.op b_1 false [.int .i64] (.nm 59 4 42 6) (List.map (mpE (AV.int .i64) yS) zC) (Ii x_1.Thread)))),(4,Vb 59 (z6 x_1)),(5,.live (.rowQ 59 4 (Mp zA (ini ((yA zC x_1.Thread).getD []))) (!(((yA zC x_1.Thread).getD [])).isEmpty) (yG (lst ((yA zC x_1.Thread).getD []))++[.own 6 ((lst ((yA zC x_1.Thread).getD [])).Events).length]))),(6,Rb 42 6 (Mp zE (lst ((yA zC x_1.Thread).getD [])).Events))] (ac (congrArg (AV.own _) (zMu _ _):(.own 5 ((Mp zA (ini ((yA zC x_1.Thread).getD []))).length+bif (!(((yA zC x_1.Thread).getD [])).isEmpty) then 1 else 0):AV)=.own 5 ((((yA zC x_1.Thread).getD [])).length)) (ar 59 (ar 4 (ar (Mp zA (ini ((yA zC x_1.Thread).getD [])):List AV) (ar (!(((yA zC x_1.Thread).getD [])).isEmpty) (ac (rfl:uJ (yG (lst ((yA zC x_1.Thread).getD []))++[.own 6 ((lst ((yA zC x_1.Thread).getD [])).Events).length])=true) (ac (rfl:(Ii ((lst ((yA zC x_1.Thread).getD [])).Thread):AV)=Ii ((lst ((yA zC x_1.Thread).getD [])).Thread)) (ac (rfl:(Ii ((lst ((yA zC x_1.Thread).getD [])).Serial):AV)=Ii ((lst ((yA zC x_1.Thread).getD [])).Serial)) (ac (rfl:(Ii ((lst ((yA zC x_1.Thread).getD [])).Lost):AV)=Ii ((lst ((yA zC x_1.Thread).getD [])).Lost)) (ac (congrArg (AV.own _) (List.length_map _):(.own 6 (Mp zE (lst ((yA zC x_1.Thread).getD [])).Events).length:AV)=.own 6 ((lst ((yA zC x_1.Thread).getD [])).Events).length) an)))))))))) ?_
  refine sq ?_
  refine sq ?_
  refine wO (mk [(2,Pp 0),(4,Pp 1),(8,.rawm b_1),(10,Pp 4),(11,.own 5 ((((yA zC x_1.Thread).getD [])).length)),(29,.sl false 4 (Mp zA l_1)),(30,Ii (lN (l_1))),(31,Ii v_1),(46,.bool (decide (x_1.Lost>(0:Int))||((lN (((yA zC x_1.Thread).getD [])))==(0:Int))))] [(0,Vb 26 (zX h_1)),(1,Vb 31 [.nilsl,.nilsl,.nilsl,.own 2 0]),(2,Rb 59 4 []),(3,.live (.fam (.op b_1 false [.int .i64] (.nm 59 4 42 6) (List.map (mpE (AV.int .i64) yS) zC) (Ii x_1.Thread)))),(4,Vb 59 (z6 x_1)),(5,.live (.rowQ 59 4 (Mp zA (ini ((yA zC x_1.Thread).getD []))) (!(((yA zC x_1.Thread).getD [])).isEmpty) (yG (lst ((yA zC x_1.Thread).getD []))++[.own 6 ((lst ((yA zC x_1.Thread).getD [])).Events).length]))),(6,Rb 42 6 (Mp zE (lst ((yA zC x_1.Thread).getD [])).Events))] 7) ?_ ?_
  ·rcases bft (decide (x_1.Lost>(0:Int))) with zZ | zZ
   ·refine rg [(4,Hg),(5,Hg),(6,Hg),(7,Ht)] [2,4,8,10,11,29,30,31,43,44,45,46] [0,1,2,3,4,5,6] 7 [Pp 0,Pp 1,.rawm b_1,Pp 4,.own 5 ((((yA zC x_1.Thread).getD [])).length),.sl false 4 (Mp zA l_1),Ii (lN (l_1)),Ii v_1,.tuple [],.tuple [],.tuple [],.bool true] [Vb 26 (zX h_1),Vb 31 [.nilsl,.nilsl,.nilsl,.own 2 0],Rb 59 4 [],.live (.fam (.op b_1 false [.int .i64] (.nm 59 4 42 6) (List.map (mpE (AV.int .i64) yS) zC) (Ii x_1.Thread))),Vb 59 (z6 x_1),.live (.rowQ 59 4 (Mp zA (ini ((yA zC x_1.Thread).getD []))) (!(((yA zC x_1.Thread).getD [])).isEmpty) (yG (lst ((yA zC x_1.Thread).getD []))++[.own 6 ((lst ((yA zC x_1.Thread).getD [])).Events).length])),Rb 42 6 (Mp zE (lst ((yA zC x_1.Thread).getD [])).Events)] zH (ac zZ (ac zZ (ac zZ (ac zZ an)))) ?_
    exact ⟨rfl,(sw [0,1,2,3,4,5,6] [] [.s 2,.s 4,.s 8,.s 10,.s 11,.s 29,.s 30,.s 31,.a 46 (.bool (decide (x_1.Lost>(0:Int))||((lN (((yA zC x_1.Thread).getD [])))==(0:Int))))] [.s 0,.s 1,.s 2,.s 3,.s 4,.s 5,.s 6] (ac (congrArg AV.bool (ort zZ):(.bool true:AV)=.bool (decide (x_1.Lost>(0:Int))||((lN (((yA zC x_1.Thread).getD [])))==(0:Int)))) an))⟩
   ·refine rg [(7,Hf)] [2,4,8,10,11,29,30,31,43,44,45,46] [0,1,2,3,4,5,6] 7 [Pp 0,Pp 1,.rawm b_1,Pp 4,.own 5 ((((yA zC x_1.Thread).getD [])).length),.sl false 4 (Mp zA l_1),Ii (lN (l_1)),Ii v_1,.own 5 ((((yA zC x_1.Thread).getD [])).length),Ii (lN (((yA zC x_1.Thread).getD []))),.bool ((lN (((yA zC x_1.Thread).getD [])))==(0:Int)),.bool ((lN (((yA zC x_1.Thread).getD [])))==(0:Int))] [Vb 26 (zX h_1),Vb 31 [.nilsl,.nilsl,.nilsl,.own 2 0],Rb 59 4 [],.live (.fam (.op b_1 false [.int .i64] (.nm 59 4 42 6) (List.map (mpE (AV.int .i64) yS) zC) (Ii x_1.Thread))),Vb 59 (z6 x_1),.live (.rowQ 59 4 (Mp zA (ini ((yA zC x_1.Thread).getD []))) (!(((yA zC x_1.Thread).getD [])).isEmpty) (yG (lst ((yA zC x_1.Thread).getD []))++[.own 6 ((lst ((yA zC x_1.Thread).getD [])).Events).length])),Rb 42 6 (Mp zE (lst ((yA zC x_1.Thread).getD [])).Events)] zH (ac zZ (ac zZ (ac zZ (ac zZ an)))) ?_
    exact ⟨rfl,(sw [0,1,2,3,4,5,6] [] [.s 2,.s 4,.s 8,.s 10,.s 11,.s 29,.s 30,.s 31,.a 46 (.bool (decide (x_1.Lost>(0:Int))||((lN (((yA zC x_1.Thread).getD [])))==(0:Int))))] [.s 0,.s 1,.s 2,.s 3,.s 4,.s 5,.s 6] (ac (congrArg AV.bool (orf zZ rfl):(.bool ((lN (((yA zC x_1.Thread).getD [])))==(0:Int)):AV)=.bool (decide (x_1.Lost>(0:Int))||((lN (((yA zC x_1.Thread).getD [])))==(0:Int)))) an))⟩
  obtain ⟨o_2,h_6,h⟩:=bind_some h
  refine wO (mk [(2,Pp 0),(4,Pp 1),(8,.rawm b_1),(10,Pp 4),(11,.own 5 ((o_2).length)),(29,.sl false 4 (Mp zA l_1)),(30,Ii (lN (l_1))),(31,Ii v_1)] [(0,Vb 26 (zX h_1)),(1,Vb 31 [.nilsl,.nilsl,.nilsl,.own 2 0]),(2,Rb 59 4 []),(3,.live (.fam (.op b_1 false [.int .i64] (.nm 59 4 42 6) (List.map (mpE (AV.int .i64) yS) zC) (Ii x_1.Thread)))),(4,Vb 59 (z6 x_1)),(5,.live (.rowQ 59 4 (Mp zA (ini o_2)) (!(o_2).isEmpty) (yG (lst o_2)++[.own 6 ((lst o_2).Events).length]))),(6,Rb 42 6 (Mp zE (lst o_2).Events))] 7) ?_ ?_
  ·replace h:=h_6
   refine cd 46 (decide (x_1.Lost>(0:Int))||((lN (((yA zC x_1.Thread).getD [])))==(0:Int))) ?_ ?_
   rotate_left
   ·intro g_4;replace h:=zU g_4 h
    refine sk ?_
    cases h
    exact ⟨rfl,(sw [0,1,2,3,4,5,6] [] [.s 2,.s 4,.s 8,.s 10,.s 11,.s 29,.s 30,.s 31] [.s 0,.s 1,.s 2,.s 3,.s 4,.s 5,.s 6] an)⟩
   intro g_4;replace h:=zT g_4 h
   refine qM (zIf (e:=59) (sz:=4) 5 6 (Mp zA ((yA zC x_1.Thread).getD [])) (by kernel_rfl) (ac ((List.length_map _).symm:((lst ((yA zC x_1.Thread).getD [])).Events).length=(Mp zE (lst ((yA zC x_1.Thread).getD [])).Events:List AV).length) (ac (zHB zA ((yA zC x_1.Thread).getD []) _ rfl:(Mp zA ((yA zC x_1.Thread).getD []):List AV)=List.map zA (ini ((yA zC x_1.Thread).getD []))++bif (!(((yA zC x_1.Thread).getD [])).isEmpty) then [.agg (yG (lst ((yA zC x_1.Thread).getD []))++[.sl false 6 (Mp zE (lst ((yA zC x_1.Thread).getD [])).Events)])] else []) an))) ?_
   refine wk [0,1,2,3,4,5] [] [.s 2,.s 4,.s 8,.s 10,.s 11,.s 29,.s 30,.s 31] [.s 0,.s 1,.s 2,.s 3,.s 4,.s 5] [(2,Pp 0),(4,Pp 1),(8,.rawm b_1),(10,Pp 4),(11,.own 5 ((((yA zC x_1.Thread).getD [])).length)),(29,.sl false 4 (Mp zA l_1)),(30,Ii (lN (l_1))),(31,Ii v_1)] [(0,Vb 26 (zX h_1)),(1,Vb 31 [.nilsl,.nilsl,.nilsl,.own 2 0]),(2,Rb 59 4 []),(3,.live (.fam (.op b_1 false [.int .i64] (.nm 59 4 42 6) (List.map (mpE (AV.int .i64) yS) zC) (Ii x_1.Thread)))),(4,Vb 59 (z6 x_1)),(5,Rb 59 4 (Mp zA ((yA zC x_1.Thread).getD [])))] an ?_
   obtain ⟨_,h_7,h⟩:=bind_some h;replace h_7:=wS h_7
   refine rg [(8,{ id:=6 }),(9,{ id:=7,l:=(Mp zA ((yA zC x_1.Thread).getD [])++[.agg [Ii x_1.Thread,Ii x_1.Serial,Ii x_1.Lost,.nilsl]]),n:=((((yA zC x_1.Thread).getD [])).length+1) })] [2,4,8,10,11,29,30,31] [0,1,2,3,4,7] 8 [Pp 0,Pp 1,.rawm b_1,Pp 4,.own 7 ((((yA zC x_1.Thread).getD [])).length+1),.sl false 4 (Mp zA l_1),Ii (lN (l_1)),Ii v_1] [Vb 26 (zX h_1),Vb 31 [.nilsl,.nilsl,.nilsl,.own 2 0],Rb 59 4 [],.live (.fam (.op b_1 false [.int .i64] (.nm 59 4 42 6) (List.map (mpE (AV.int .i64) yS) zC) (Ii x_1.Thread))),Vb 59 (z6 x_1),Rb 59 4 (Mp zA ((yA zC x_1.Thread).getD [])++[.agg [Ii x_1.Thread,Ii x_1.Serial,Ii x_1.Lost,.nilsl]])] zH (ac ((List.length_map _).symm:(((yA zC x_1.Thread).getD [])).length=(Mp zA ((yA zC x_1.Thread).getD [])).length) (ac (rfl:1=([.agg [Ii x_1.Thread,Ii x_1.Serial,Ii x_1.Lost,.nilsl]]:List AV).length) (ac (rfl:((Mp zA ((yA zC x_1.Thread).getD [])++[.agg [Ii x_1.Thread,Ii x_1.Serial,Ii x_1.Lost,.nilsl]]):List AV)=List.map zA ((yA zC x_1.Thread).getD [])++[.agg [Ii x_1.Thread,Ii x_1.Serial,Ii x_1.Lost,.nilsl]]) (ac (by simp:((((yA zC x_1.Thread).getD [])).length+1)=((List.map zA ((yA zC x_1.Thread).getD [])++[.agg [Ii x_1.Thread,Ii x_1.Serial,Ii x_1.Lost,.nilsl]]):List AV).length) (ac (by rw [List.length_map];exact h_7:((List.map zA ((yA zC x_1.Thread).getD []):List AV).length+([.agg [Ii x_1.Thread,Ii x_1.Serial,Ii x_1.Lost,.nilsl]]:List AV).length) * 48≤140737488355328) an))))) ?_
   cases h
   exact ⟨rfl,(Sub.trans (zFg (e:=59) (sz:=4) 7 8 42 6 (Mp zA ((yA zC x_1.Thread).getD [])) [Ii x_1.Thread,Ii x_1.Serial,Ii x_1.Lost] (by kernel_rfl) (ac (rfl:(Mp zA ((yA zC x_1.Thread).getD [])++[.agg [Ii x_1.Thread,Ii x_1.Serial,Ii x_1.Lost,.nilsl]]:List AV)=List.map zA ((yA zC x_1.Thread).getD [])++[.agg ([Ii x_1.Thread,Ii x_1.Serial,Ii x_1.Lost]++[.nilsl])]) an)) (Sub.trans (zF4 [0,1,2,3,4,7,8] [] [.s 2,.s 4,.s 8,.s 10,.a 11 (.own 5 (((((yA zC x_1.Thread).getD [])++[(⟨x_1.Thread,x_1.Serial,x_1.Lost,[]⟩:zB)])).length)),.s 29,.s 30,.s 31] [.s 0,.s 1,.s 2,.s 3,.s 4,.a 5 (.live (.rowQ 59 4 (Mp zA (ini (((yA zC x_1.Thread).getD [])++[(⟨x_1.Thread,x_1.Serial,x_1.Lost,[]⟩:zB)]))) (!((((yA zC x_1.Thread).getD [])++[(⟨x_1.Thread,x_1.Serial,x_1.Lost,[]⟩:zB)])).isEmpty) (yG (lst (((yA zC x_1.Thread).getD [])++[(⟨x_1.Thread,x_1.Serial,x_1.Lost,[]⟩:zB)]))++[.own 6 ((lst (((yA zC x_1.Thread).getD [])++[(⟨x_1.Thread,x_1.Serial,x_1.Lost,[]⟩:zB)])).Events).length]))),.a 6 (Rb 42 6 (Mp zE (lst (((yA zC x_1.Thread).getD [])++[(⟨x_1.Thread,x_1.Serial,x_1.Lost,[]⟩:zB)])).Events))] (sl2:=[(2,Pp 0),(4,Pp 1),(8,.rawm b_1),(10,Pp 4),(11,.own 5 (((((yA zC x_1.Thread).getD [])++[(⟨x_1.Thread,x_1.Serial,x_1.Lost,[]⟩:zB)])).length)),(29,.sl false 4 (Mp zA l_1)),(30,Ii (lN (l_1))),(31,Ii v_1)]) (bx2:=[(0,Vb 26 (zX h_1)),(1,Vb 31 [.nilsl,.nilsl,.nilsl,.own 2 0]),(2,Rb 59 4 []),(3,.live (.fam (.op b_1 false [.int .i64] (.nm 59 4 42 6) (List.map (mpE (AV.int .i64) yS) zC) (Ii x_1.Thread)))),(4,Vb 59 (z6 x_1)),(5,.live (.rowQ 59 4 (Mp zA (ini (((yA zC x_1.Thread).getD [])++[(⟨x_1.Thread,x_1.Serial,x_1.Lost,[]⟩:zB)]))) (!((((yA zC x_1.Thread).getD [])++[(⟨x_1.Thread,x_1.Serial,x_1.Lost,[]⟩:zB)])).isEmpty) (yG (lst (((yA zC x_1.Thread).getD [])++[(⟨x_1.Thread,x_1.Serial,x_1.Lost,[]⟩:zB)]))++[.own 6 ((lst (((yA zC x_1.Thread).getD [])++[(⟨x_1.Thread,x_1.Serial,x_1.Lost,[]⟩:zB)])).Events).length]))),(6,Rb 42 6 (Mp zE (lst (((yA zC x_1.Thread).getD [])++[(⟨x_1.Thread,x_1.Serial,x_1.Lost,[]⟩:zB)])).Events))]) (by kernel_rfl) (ac (congrArg (AV.own _) (by first | (simp;done) | (simp;omega)):(.own 7 ((((yA zC x_1.Thread).getD [])).length+1):AV)=.own 7 (((((yA zC x_1.Thread).getD [])++[(⟨x_1.Thread,x_1.Serial,x_1.Lost,[]⟩:zB)])).length)) (ar 59 (ar 4 (ac ((congrArg (List.map _) (qY _ _)).symm:((Mp zA ((yA zC x_1.Thread).getD [])):List AV)=List.map zA (ini (((yA zC x_1.Thread).getD [])++[(⟨x_1.Thread,x_1.Serial,x_1.Lost,[]⟩:zB)]))) (ac ((zHv _ _).symm:true=(!((((yA zC x_1.Thread).getD [])++[(⟨x_1.Thread,x_1.Serial,x_1.Lost,[]⟩:zB)])).isEmpty)) (ac (rfl:uJ (yG (lst (((yA zC x_1.Thread).getD [])++[(⟨x_1.Thread,x_1.Serial,x_1.Lost,[]⟩:zB)]))++[.own 8 ((lst (((yA zC x_1.Thread).getD [])++[(⟨x_1.Thread,x_1.Serial,x_1.Lost,[]⟩:zB)])).Events).length])=true) (ac (by first | (simp only [y8];done) | simp [y8]:(Ii x_1.Thread:AV)=Ii ((lst (((yA zC x_1.Thread).getD [])++[(⟨x_1.Thread,x_1.Serial,x_1.Lost,[]⟩:zB)])).Thread)) (ac (by first | (simp only [y8];done) | simp [y8]:(Ii x_1.Serial:AV)=Ii ((lst (((yA zC x_1.Thread).getD [])++[(⟨x_1.Thread,x_1.Serial,x_1.Lost,[]⟩:zB)])).Serial)) (ac (by first | (simp only [y8];done) | simp [y8]:(Ii x_1.Lost:AV)=Ii ((lst (((yA zC x_1.Thread).getD [])++[(⟨x_1.Thread,x_1.Serial,x_1.Lost,[]⟩:zB)])).Lost)) (ac (congrArg (AV.own _) (by first | (simp only [y8];done) | simp [y8]):(.own 8 0:AV)=.own 8 (((lst (((yA zC x_1.Thread).getD [])++[(⟨x_1.Thread,x_1.Serial,x_1.Lost,[]⟩:zB)])).Events).length)) (ar 42 (ar 6 (ac (by first | (simp only [y8];done) | simp [y8]:([]:List AV)=List.map zE (lst (((yA zC x_1.Thread).getD [])++[(⟨x_1.Thread,x_1.Serial,x_1.Lost,[]⟩:zB)])).Events) an)))))))))))))) (sw [0,1,2,3,4,5,6] [] [.s 2,.s 4,.s 8,.s 10,.s 11,.s 29,.s 30,.s 31] [.s 0,.s 1,.s 2,.s 3,.s 4,.s 5,.s 6] an)))⟩
  obtain ⟨r_3,h_8,h⟩:=bind_some h
  obtain ⟨_,h_9,h⟩:=bind_some h;replace h_9:=wS h_9
  refine rg [(6,{ av:=(.own 0 (r_3).length),gids:=[5,6],giv:=[(.rowQ 59 4 (Mp zA (ini o_2)) (!(o_2).isEmpty) (yG (lst o_2)++[.own 1 ((lst o_2).Events).length])),(.row 42 6 (Mp zE (lst o_2).Events))],ids:=[7,8],l:=[.own 0 (o_2).length,.sl false 6 (Mp zE x_1.Events)],post:=[(.rowQ 59 4 (Mp zA (ini r_3)) (!(r_3).isEmpty) (yG (lst r_3)++[.own 1 ((lst r_3).Events).length])),(.row 42 6 (Mp zE (lst r_3).Events))] }),(7,{ av:=(yS r_3),dep:=true,es:=(List.map (mpE (AV.int .i64) yS) (uI zC x_1.Thread r_3)),ids:=[7,8],n:=3,x:=true })] [2,4,8,29,30,31] [0,1,2,3] 9 [Pp 0,Pp 1,.rawm b_1,.sl false 4 (Mp zA l_1),Ii (lN (l_1)),Ii v_1] [Vb 26 (zX h_1),Vb 31 [.nilsl,.nilsl,.nilsl,.own 2 0],Rb 59 4 [],.live (.fam (.cl b_1 false [.int .i64] (.nm 59 4 42 6) (List.map (mpE (AV.int .i64) yS) (uI zC x_1.Thread r_3))))] zH (ar ([.own 5 ((o_2).length),.sl false 6 (Mp zE x_1.Events)]:List AV) (ac (rfl:([.live (.rowQ 59 4 (Mp zA (ini o_2)) (!(o_2).isEmpty) (yG (lst o_2)++[.own 6 ((lst o_2).Events).length])),Rb 42 6 (Mp zE (lst o_2).Events)]:List zO)=[.live (.rowQ 59 4 (Mp zA (ini o_2)) (!(o_2).isEmpty) (yG (lst o_2)++[.own 6 ((lst o_2).Events).length])),Rb 42 6 (Mp zE (lst o_2).Events)]) (ac (zJc F o_2 x_1.Events r_3 h_8:zW prog 29 [] [(.rowQ 59 4 (Mp zA (ini o_2)) (!(o_2).isEmpty) (yG (lst o_2)++[.own 1 ((lst o_2).Events).length])),(.row 42 6 (Mp zE (lst o_2).Events))] [.own 0 (o_2).length,.sl false 6 (Mp zE x_1.Events)] [(.rowQ 59 4 (Mp zA (ini r_3)) (!(r_3).isEmpty) (yG (lst r_3)++[.own 1 ((lst r_3).Events).length])),(.row 42 6 (Mp zE (lst r_3).Events))] (.own 0 (r_3).length)) (ar b_1 (ac (rfl:(Ii x_1.Thread:AV)=Ii x_1.Thread) (ac (nQ:vZ prog 3 false [.int .i64]) (ac (zC0 (f:=(AV.int .i64)) (g:=yS) nR zC x_1.Thread r_3:zBN (List.map (mpE (AV.int .i64) yS) zC) (Ii x_1.Thread) (yS r_3) (List.map (mpE (AV.int .i64) yS) (uI zC x_1.Thread r_3))) (ac (zFZ (l:=zC) h_9:(List.map (mpE (AV.int .i64) yS) zC:List (AV×AV)).length<maxLen) (ac (congrArg (AV.own _) (zMu _ _).symm:(.own 7 ((r_3).length):AV)=.own 7 ((Mp zA (ini r_3)).length+bif (!(r_3).isEmpty) then 1 else 0)) (ac (by rw [List.length_map]:([.live (.rowQ 59 4 (List.map zA (ini r_3)) (!(r_3).isEmpty) (yG (lst r_3)++[.own 8 ((lst r_3).Events).length])),Rb 42 6 (List.map zE (lst r_3).Events)]:List zO)=[.live (.rowQ 59 4 (List.map zA (ini r_3)) (!(r_3).isEmpty) (yG (lst r_3)++[.own 8 (List.map zE (lst r_3).Events).length])),Rb 42 6 (List.map zE (lst r_3).Events)]) an)))))))))) ?_
  refine rg [] [2,4,8,29,30,31] [0,1,2,3] 9 [Pp 0,Pp 1,.rawm b_1,.sl false 4 (Mp zA l_1),Ii (lN (l_1)),Ii (zK (v_1+(1:Int)))] [Vb 26 (zX h_1),Vb 31 [.nilsl,.nilsl,.nilsl,.own 2 0],Rb 59 4 [],.live (.fam (.cl b_1 false [.int .i64] (.nm 59 4 42 6) (List.map (mpE (AV.int .i64) yS) (uI zC x_1.Thread r_3))))] zH an ?_
  exact ⟨_,(sw [0,1,2,3] [] [.s 2,.s 4,.s 8,.s 29,.s 30,.s 31] [.s 0,.s 1,.s 2,.s 3] an),_,_,rfl,h⟩
 refine sq ?_
 refine qM (zM1 (ag:=false) (ks:=[.int .i64]) 3 4 [8] (List.map (mpE (AV.int .i64) (fun l=>AV.sl false 4 (l.map zA))) o_1) (by kernel_rfl) (ar ([.rawm b_1]:List AV) (ac (zM7 (f:=(AV.int .i64)) (g:=yS) zEW o_1:∀ x∈List.map (mpE (AV.int .i64) yS) o_1,zEy x.2∧zDu 4 6 x.2=true) (ac (zNh (f:=(AV.int .i64)) (g:=yS) (g2:=(fun l=>AV.sl false 4 (l.map zA))) zES o_1:(List.map (mpE (AV.int .i64) (fun l=>AV.sl false 4 (l.map zA))) o_1)=(List.map (mpE (AV.int .i64) yS) o_1).map fun x=>(x.1,fzV x.2)) an)))) ?_
 refine wk [0,1,2,4] [] [.s 2,.s 4,.s 8] [.s 0,.s 1,.s 2,.s 3] [(2,Pp 0),(4,Pp 1),(8,.mp 3)] [(0,Vb 26 (zX h_1)),(1,Vb 31 [.nilsl,.nilsl,.nilsl,.own 2 0]),(2,Rb 59 4 []),(3,.live (.map false [.int .i64] (List.map (mpE (AV.int .i64) (fun l=>AV.sl false 4 (l.map zA))) o_1)))] an ?_
 refine rg [(2,{ id:=4 })] [2,4,8,12] [0,1,2,3,4] 5 [Pp 0,Pp 1,.mp 3,Pp 4] [Vb 26 (zX h_1),Vb 31 [.nilsl,.nilsl,.nilsl,.own 2 0],Rb 59 4 [],.live (.map false [.int .i64] (List.map (mpE (AV.int .i64) (fun l=>AV.sl false 4 (l.map zA))) o_1)),Vb 31 [.sl false 3 (Mp zG h_1.Threads),.sl false 2 (Mp zD h_1.Domains),.sl false 5 (Mp zF h_1.Snaps),.nilsl]] zH an ?_
 refine qM (pC 4 3 5 59 4 (by kernel_rfl)) ?_
 refine wk [0,1,2,3,4,5] [] [.s 2,.s 4,.s 8,.s 12] [.s 0,.s 1,.s 2,.s 3,.s 4,.s 5] [(2,Pp 0),(4,Pp 1),(8,.mp 3),(12,Pp 4)] [(0,Vb 26 (zX h_1)),(1,Vb 31 [.nilsl,.nilsl,.nilsl,.own 2 0]),(2,Rb 59 4 []),(3,.live (.map false [.int .i64] (List.map (mpE (AV.int .i64) (fun l=>AV.sl false 4 (l.map zA))) o_1))),(4,Vb 31 [.sl false 3 (Mp zG h_1.Threads),.sl false 2 (Mp zD h_1.Domains),.sl false 5 (Mp zF h_1.Snaps),.own 5 0]),(5,Rb 59 4 [])] an ?_
 refine sq ?_
 refine sr [(2,{ n:=(h_1.Threads).length })] [4,8,12,68,69,70] [1,2,3,4,5] 6 [Pp 1,.mp 3,Pp 4,.sl false 3 (Mp zG h_1.Threads),Ii (lN (h_1.Threads)),Ii 0] [Vb 31 [.nilsl,.nilsl,.nilsl,.own 2 0],Rb 59 4 [],.live (.map false [.int .i64] (List.map (mpE (AV.int .i64) (fun l=>AV.sl false 4 (l.map zA))) o_1)),Vb 31 [.sl false 3 (Mp zG h_1.Threads),.sl false 2 (Mp zD h_1.Domains),.sl false 5 (Mp zF h_1.Snaps),.own 5 0],Rb 59 4 []] zH (ac (yH _:((Mp zG h_1.Threads)).length=(h_1.Threads).length) an) ?_
 obtain ⟨o_3,qU,h⟩:=bind_some h
 refine wO (mk [(4,Pp 0),(12,Pp 2)] [(0,Vb 31 [.nilsl,.nilsl,.nilsl,.own 1 0]),(1,Rb 59 4 []),(2,Vb 31 [.sl false 3 (Mp zG h_1.Threads),.sl false 2 (Mp zD h_1.Domains),.sl false 5 (Mp zF h_1.Snaps),.own 3 ((o_3).length)]),(3,Rb 59 4 (Mp zA o_3))] 4) ?_ ?_
 ·replace h:=qU
  refine yU (id:=2) (by kernel_rfl) ?_
  refine wk [1,2,3,4,5] [] [.s 4,.s 8,.s 12,.s 68,.s 69,.s 70] [.s 0,.s 1,.s 2,.s 3,.s 4] [(4,Pp 0),(8,.mp 2),(12,Pp 3),(68,.sl false 3 (Mp zG h_1.Threads)),(69,Ii (lN (h_1.Threads))),(70,Ii 0)] [(0,Vb 31 [.nilsl,.nilsl,.nilsl,.own 1 0]),(1,Rb 59 4 []),(2,.live (.map false [.int .i64] (List.map (mpE (AV.int .i64) (fun l=>AV.sl false 4 (l.map zA))) o_1))),(3,Vb 31 [.sl false 3 (Mp zG h_1.Threads),.sl false 2 (Mp zD h_1.Domains),.sl false 5 (Mp zF h_1.Snaps),.own 4 0]),(4,Rb 59 4 [])] an ?_
  refine wT (fun n st=>∃ (v_2:Int),∃ (x6:List zB),st=mk [(4,Pp 0),(8,.mp 2),(12,Pp 3),(68,.sl false 3 (Mp zG h_1.Threads)),(69,Ii (lN (h_1.Threads))),(70,Ii v_2)] [(0,Vb 31 [.nilsl,.nilsl,.nilsl,.own 1 0]),(1,Rb 59 4 []),(2,.live (.map false [.int .i64] (List.map (mpE (AV.int .i64) (fun l=>AV.sl false 4 (l.map zA))) o_1))),(3,Vb 31 [.sl false 3 (Mp zG h_1.Threads),.sl false 2 (Mp zD h_1.Domains),.sl false 5 (Mp zF h_1.Snaps),.own 4 ((x6).length)]),(4,Rb 59 4 (Mp zA x6))] 5∧nS F h_1 o_1 n v_2 x6=some o_3) F (by kernel_rfl) ⟨_,_,rfl,h⟩ ?_ ?_
  ·rintro _ ⟨_,_,_,h⟩;exact wV (h:(none:Option (List zB))=some o_3)
  rintro n_2 _ ⟨v_2,x6,rfl,h⟩
  replace h:jP F h_1 o_1 (nS F h_1 o_1 n_2) v_2 x6=some o_3:=h
  unfold jP at h
  refine sr [] [4,8,12,68,69,70,71] [0,1,2,3,4] 5 [Pp 0,.mp 2,Pp 3,.sl false 3 (Mp zG h_1.Threads),Ii (lN (h_1.Threads)),Ii v_2,.bool (decide (v_2<(lN (h_1.Threads))))] [Vb 31 [.nilsl,.nilsl,.nilsl,.own 1 0],Rb 59 4 [],.live (.map false [.int .i64] (List.map (mpE (AV.int .i64) (fun l=>AV.sl false 4 (l.map zA))) o_1)),Vb 31 [.sl false 3 (Mp zG h_1.Threads),.sl false 2 (Mp zD h_1.Domains),.sl false 5 (Mp zF h_1.Snaps),.own 4 ((x6).length)],Rb 59 4 (Mp zA x6)] zH an ?_
  refine sq ?_
  refine cd 71 (decide (v_2<(lN (h_1.Threads)))) ?_ ?_
  rotate_left
  ·intro g_5;replace h:=zU g_5 h
   refine w5 (id:=2) (by kernel_rfl) ?_
   cases h
   exact ⟨rfl,(sw [0,1,3,4] [] [.s 4,.s 12] [.s 0,.s 1,.s 2,.s 3] an)⟩
  intro g_5;replace h:=zT g_5 h
  refine sk ?_
  refine sq ?_
  refine yU (id:=3) (by kernel_rfl) ?_
  refine sq ?_
  obtain ⟨x_2,t7,h⟩:=bind_some h
  refine rg [(0,{ av:=zG x_2 }),(2,{ id:=5 })] [4,8,12,14,68,69,70] [0,1,2,3,4,5] 6 [Pp 0,.mp 2,Pp 3,Pp 5,.sl false 3 (Mp zG h_1.Threads),Ii (lN (h_1.Threads)),Ii v_2] [Vb 31 [.nilsl,.nilsl,.nilsl,.own 1 0],Rb 59 4 [],.live (.map false [.int .i64] (List.map (mpE (AV.int .i64) (fun l=>AV.sl false 4 (l.map zA))) o_1)),Vb 31 [.sl false 3 (Mp zG h_1.Threads),.sl false 2 (Mp zD h_1.Domains),.sl false 5 (Mp zF h_1.Snaps),.own 4 ((x6).length)],Rb 59 4 (Mp zA x6),Vb 66 (z4 x_2)] zH (ac (wI t7:vA (Mp zG h_1.Threads) v_2=some (zG x_2)) an) ?_
  obtain ⟨_,zEY,h⟩:=bind_some h;replace zEY:=wS zEY
  refine rg [(5,{ av:=(.sl false 4 (Mp zA ((yA o_1 x_2.Id).getD []))),b:=true,g:=(yA o_1 x_2.Id).isSome,n:=4 }),(6,{ id:=6,l:=(Mp zA (x6++((yA o_1 x_2.Id).getD []))),n:=((x6++((yA o_1 x_2.Id).getD []))).length })] [4,8,12,68,69,70] [0,1,2,3,6] 7 [Pp 0,.mp 2,Pp 3,.sl false 3 (Mp zG h_1.Threads),Ii (lN (h_1.Threads)),Ii v_2] [Vb 31 [.nilsl,.nilsl,.nilsl,.own 1 0],Rb 59 4 [],.live (.map false [.int .i64] (List.map (mpE (AV.int .i64) (fun l=>AV.sl false 4 (l.map zA))) o_1)),Vb 31 [.sl false 3 (Mp zG h_1.Threads),.sl false 2 (Mp zD h_1.Domains),.sl false 5 (Mp zF h_1.Snaps),.own 6 (((x6++((yA o_1 x_2.Id).getD []))).length)],Rb 59 4 (Mp zA (x6++((yA o_1 x_2.Id).getD [])))] zH (ac (nQ:vZ prog 3 false [.int .i64]) (ac (zDv (f:=(AV.int .i64)) (g:=(fun l=>AV.sl false 4 (l.map zA))) nR o_1 x_2.Id []:jL (List.map (mpE (AV.int .i64) (fun l=>AV.sl false 4 (l.map zA))) o_1) (Ii x_2.Id) (.sl false 4 []) (.sl false 4 (Mp zA ((yA o_1 x_2.Id).getD []))) (yA o_1 x_2.Id).isSome) (ac (by first | (simp;done) | (simp;omega):(x6).length=((List.map zA x6)).length) (ac (trivial:True) (ac (zBE _ _:(Mp zA (x6++((yA o_1 x_2.Id).getD [])))=(Mp zA x6)++(Mp zA ((yA o_1 x_2.Id).getD []))) (ac (by simp:((x6++((yA o_1 x_2.Id).getD []))).length=((List.map zA (x6++((yA o_1 x_2.Id).getD [])))).length) (ac (by first | (simp;done) | simpa using zEY:(((List.map zA x6):List AV).length+((List.map zA ((yA o_1 x_2.Id).getD [])):List AV).length) * 48≤140737488355328) an))))))) ?_
  refine rg [] [4,8,12,68,69,70] [0,1,2,3,6] 7 [Pp 0,.mp 2,Pp 3,.sl false 3 (Mp zG h_1.Threads),Ii (lN (h_1.Threads)),Ii (zK (v_2+(1:Int)))] [Vb 31 [.nilsl,.nilsl,.nilsl,.own 1 0],Rb 59 4 [],.live (.map false [.int .i64] (List.map (mpE (AV.int .i64) (fun l=>AV.sl false 4 (l.map zA))) o_1)),Vb 31 [.sl false 3 (Mp zG h_1.Threads),.sl false 2 (Mp zD h_1.Domains),.sl false 5 (Mp zF h_1.Snaps),.own 6 (((x6++((yA o_1 x_2.Id).getD []))).length)],Rb 59 4 (Mp zA (x6++((yA o_1 x_2.Id).getD [])))] zH an ?_
  exact ⟨_,(sw [0,1,2,3,6] [] [.s 4,.s 8,.s 12,.s 68,.s 69,.s 70] [.s 0,.s 1,.s 2,.s 3,.s 4] an),_,_,rfl,h⟩
 refine sr [] [4,5] [0,3] 4 [Pp 0,Ii 0] [Vb 31 [.sl false 3 (Mp zG h_1.Threads),.sl false 2 (Mp zD h_1.Domains),.sl false 5 (Mp zF h_1.Snaps),.own 3 ((o_3).length)],Rb 59 4 (Mp zA o_3)] zH an ?_
 refine wk [0] [3] [.s 4,.s 5] [.a 0 (Vb 31 [.sl false 3 (Mp zG (((⟨h_1,o_3⟩:z9).Head).Threads)),.sl false 2 (Mp zD (((⟨h_1,o_3⟩:z9).Head).Domains)),.sl false 5 (Mp zF (((⟨h_1,o_3⟩:z9).Head).Snaps)),.sl false 4 (Mp zA ((⟨h_1,o_3⟩:z9).Parts))])] [(4,Pp 0),(5,Ii 0)] [(0,Vb 31 [.sl false 3 (Mp zG (((⟨h_1,o_3⟩:z9).Head).Threads)),.sl false 2 (Mp zD (((⟨h_1,o_3⟩:z9).Head).Domains)),.sl false 5 (Mp zF (((⟨h_1,o_3⟩:z9).Head).Snaps)),.sl false 4 (Mp zA ((⟨h_1,o_3⟩:z9).Parts))])] (ar 31 (ac (rfl:uJ [.sl false 3 (Mp zG (((⟨h_1,o_3⟩:z9).Head).Threads)),.sl false 2 (Mp zD (((⟨h_1,o_3⟩:z9).Head).Domains)),.sl false 5 (Mp zF (((⟨h_1,o_3⟩:z9).Head).Snaps)),.sl false 4 (Mp zA ((⟨h_1,o_3⟩:z9).Parts))]=true) (ac (by first | (simp;done) | (simp;omega):(o_3).length=((List.map zA o_3)).length) (ar 3 (ac (rfl:((Mp zG h_1.Threads):List AV)=(Mp zG (((⟨h_1,o_3⟩:z9).Head).Threads))) (ac (rfl:(!false||false)=true) (ar 2 (ac (rfl:((Mp zD h_1.Domains):List AV)=(Mp zD (((⟨h_1,o_3⟩:z9).Head).Domains))) (ac (rfl:(!false||false)=true) (ar 5 (ac (rfl:((Mp zF h_1.Snaps):List AV)=(Mp zF (((⟨h_1,o_3⟩:z9).Head).Snaps))) (ac (rfl:(!false||false)=true) (ar 4 (ac (rfl:((Mp zA o_3):List AV)=(Mp zA ((⟨h_1,o_3⟩:z9).Parts))) (ac (rfl:(!false||false)=true) an))))))))))))))) ?_
 refine rt ?_
 cases h
 exact ⟨.inr rfl,Nat.le_of_ble_eq_true rfl,by kernel_rfl⟩

end Go.Ab
