/- Printed: the typed Lean functions of the Go functions, or the proofs that the Go functions meet them. No conditions but those that the theorems name. -/
import Derived.Test.YtbifmbdcejggkaaP16xD
import Derived.Test.YtbifmbdcejggkaaProg
namespace Go.Ab
open Go
set_option linter.unusedVariables false
noncomputable abbrev prog:=Go.Proofs.Try.prog
theorem zF:prog.follows .mixedOrders=true:=by kernel_rfl
theorem zPT:zHG prog 92:=⟨_,Go.Proofs.Try.func92,by kernel_rfl,by kernel_rfl,by kernel_rfl,by kernel_rfl⟩
theorem zBv:v3 prog 3 false [.int .i64]:=zN5 (by kernel_rfl)
theorem zO0:v3 prog 68 true [.int .i64,.int .i64]:=zCr (by kernel_rfl) (by kernel_rfl) (by kernel_rfl) (by kernel_rfl)
theorem zBb:∀ a b:zU,zC a=zC b→a=b:=by
  intro a b h
  cases a;cases b;simpa [zC,uR] using h
theorem zIh:jG prog 68 [.int .i64,.int .i64]:=zC3 zO0 (by kernel_rfl) (by kernel_rfl)
theorem zOE:v3 prog 66 true [.int .i64,.str,.int .i64]:=zCr (by kernel_rfl) (by kernel_rfl) (by kernel_rfl) (by kernel_rfl)
theorem zC4:∀ a b:z0,zG a=zG b→a=b:=by
  intro a b h
  cases a;cases b;simpa [zG,yI] using h
theorem zL3:jG prog 66 [.int .i64,.str,.int .i64]:=zC3 zOE (by kernel_rfl) (by kernel_rfl)
theorem zOJ:v3 prog 86 true [.int .i64,.int .i64,.int .i64,.int .i64,.int .i64]:=zCr (by kernel_rfl) (by kernel_rfl) (by kernel_rfl) (by kernel_rfl)
theorem zEh:∀ a b:xR,zK a=zK b→a=b:=by
  rintro ⟨_,_,_,⟨_,_⟩⟩ ⟨_,_,_,⟨_,_⟩⟩ h
  simpa [zK,vE] using h
theorem zL2:jG prog 86 [.int .i64,.int .i64,.int .i64,.int .i64,.int .i64]:=zC3 zOJ (by kernel_rfl) (by kernel_rfl)
theorem zOq:v3 prog 50 true [.int .i64,.int .i64,.int .i64]:=zCr (by kernel_rfl) (by kernel_rfl) (by kernel_rfl) (by kernel_rfl)
theorem j9:∀ a b:yC,z9 a=z9 b→a=b:=by
  intro a b h
  cases a;cases b;simpa [z9,zGo] using h
theorem zCV:jG prog 50 [.int .i64,.int .i64,.int .i64]:=zC3 zOq (by kernel_rfl) (by kernel_rfl)
theorem zOt:v3 prog 37 true [.int .i64,.int .i64]:=zCr (by kernel_rfl) (by kernel_rfl) (by kernel_rfl) (by kernel_rfl)
theorem zKl:∀ a b:z6,yA a=yA b→a=b:=by
  intro a b h
  cases a;cases b;simpa [yA,xZ] using h
theorem zPs:jG prog 37 [.int .i64,.int .i64]:=zC3 zOt (by kernel_rfl) (by kernel_rfl)
theorem zDm (F:Nat) (h_1:zL) (l_1:List (zB)) (r:Bool) (h:zAj F h_1 l_1=some r):zV prog 8 [] [] [yU h_1,.sl false 4 (Mp zA l_1)] [] (.bool r):=by
 refine yG (fn:=Go.Proofs.Try.f8) (code:=xC Go.Proofs.Try.f8) (by kernel_rfl) (by kernel_rfl) (Nat.le_of_ble_eq_true (by kernel_rfl)) ?_
 unfold zAj at h
 refine sr [(0,{ id:=0 })] [1,2] [0] 1 [.sl false 4 (Mp zA l_1),Pp 0] [Vb 26 (zN h_1)] zF an ?_
 refine sr [] [1,2,5] [0] 1 [.sl false 4 (Mp zA l_1),Pp 0,Ii 0] [Vb 26 (zN h_1)] zF an ?_
 refine sq ?_
 refine sr [(1,{ n:=(l_1).length })] [1,2,5,8,9,10] [0] 1 [.sl false 4 (Mp zA l_1),Pp 0,Ii 0,.sl false 4 (Mp zA l_1),Ii (lN (l_1)),Ii 0] [Vb 26 (zN h_1)] zF (ac (yF _:((Mp zA l_1)).length=(l_1).length) an) ?_
 obtain ⟨o_1,h_2,h⟩:=bind_some h
 refine y4 (mk [(1,.sl false 4 (Mp zA l_1)),(2,Pp 0),(5,Ii o_1)] [(0,Vb 26 (zN h_1))] 1) ?_ ?_
 ·replace h:=h_2
  refine yD (id:=0) (by kernel_rfl) ?_
  refine wk [0] [] [.s 1,.s 2,.s 5,.s 8,.s 9,.s 10] [.s 0] [(1,.sl false 4 (Mp zA l_1)),(2,Pp 0),(5,Ii 0),(8,.sl false 4 (Mp zA l_1)),(9,Ii (lN (l_1))),(10,Ii 0)] [(0,Vb 26 (zN h_1))] an ?_
  refine xI (fun n st=>∃ (n_1:Int),∃ (v_1:Int),st=mk [(1,.sl false 4 (Mp zA l_1)),(2,Pp 0),(5,Ii n_1),(8,.sl false 4 (Mp zA l_1)),(9,Ii (lN (l_1))),(10,Ii v_1)] [(0,Vb 26 (zN h_1))] 1∧tP F l_1 n n_1 v_1=some o_1) F (by kernel_rfl) ⟨_,_,rfl,h⟩ ?_ ?_
  ·rintro _ ⟨_,_,_,h⟩;exact xN (h:(none:Option Int)=some o_1)
  rintro n_2 _ ⟨n_1,v_1,rfl,h⟩
  replace h:tJ F l_1 (tP F l_1 n_2) n_1 v_1=some o_1:=h
  unfold tJ at h
  refine sr [] [1,2,5,8,9,10,11] [0] 1 [.sl false 4 (Mp zA l_1),Pp 0,Ii n_1,.sl false 4 (Mp zA l_1),Ii (lN (l_1)),Ii v_1,.bool (decide (v_1<(lN (l_1))))] [Vb 26 (zN h_1)] zF an ?_
  refine sq ?_
  refine cd 11 (decide (v_1<(lN (l_1)))) ?_ ?_
  rotate_left
  ·intro g_1;replace h:=zQ g_1 h
   refine xM (id:=0) (by kernel_rfl) ?_
   cases h
   exact ⟨rfl,(sw [0] [] [.s 1,.s 2,.s 5] [.s 0] an)⟩
  intro g_1;replace h:=zR g_1 h
  refine sk ?_
  refine sq ?_
  refine yD (id:=1) (by kernel_rfl) ?_
  refine sq ?_
  obtain ⟨x_1,h_3,h⟩:=bind_some h
  refine rg [(0,{ av:=zA x_1 }),(2,{ id:=1 })] [1,2,5,7,8,9,10] [0,1] 2 [.sl false 4 (Mp zA l_1),Pp 0,Ii n_1,Pp 1,.sl false 4 (Mp zA l_1),Ii (lN (l_1)),Ii v_1] [Vb 26 (zN h_1),Vb 59 (zX x_1)] zF (ac (yR h_3:xJ (Mp zA l_1) v_1=some (zA x_1)) an) ?_
  refine rg [(3,{ n:=(x_1.Events).length })] [1,2,5,8,9,10] [0] 2 [.sl false 4 (Mp zA l_1),Pp 0,Ii (zP (n_1+(lN (x_1.Events)))),.sl false 4 (Mp zA l_1),Ii (lN (l_1)),Ii v_1] [Vb 26 (zN h_1)] zF (ac (yF _:((Mp zD x_1.Events)).length=(x_1.Events).length) an) ?_
  refine rg [] [1,2,5,8,9,10] [0] 2 [.sl false 4 (Mp zA l_1),Pp 0,Ii (zP (n_1+(lN (x_1.Events)))),.sl false 4 (Mp zA l_1),Ii (lN (l_1)),Ii (zP (v_1+(1:Int)))] [Vb 26 (zN h_1)] zF an ?_
  exact ⟨_,(sw [0] [] [.s 1,.s 2,.s 5,.s 8,.s 9,.s 10] [.s 0] an),_,_,rfl,h⟩
 refine sq ?_
 refine y4 (mk [(4,.bool (decide ((lN (h_1.Threads))≤(70:Int))&&(decide ((lN (h_1.Domains))≤(10:Int))&&(decide ((lN (h_1.Snaps))≤(20:Int))&&(decide ((lN (l_1))≤(30:Int))&&decide (o_1≤(3000:Int)))))))] [] 0) ?_ ?_
 ·rcases bft (decide ((lN (h_1.Threads))≤(70:Int))) with zH | zH
  ·rcases bft (decide ((lN (h_1.Domains))≤(10:Int))) with zJ | zJ
   ·rcases bft (decide ((lN (h_1.Snaps))≤(20:Int))) with zO | zO
    ·rcases bft (decide ((lN (l_1))≤(30:Int))) with zS | zS
     ·refine rg [(2,{ n:=(h_1.Threads).length }),(7,{ n:=(h_1.Domains).length }),(9,Ht),(13,{ n:=(h_1.Snaps).length }),(15,Ht),(18,{ n:=(l_1).length }),(20,Ht),(24,Ht)] [4] [] 1 [.bool (decide (o_1≤(3000:Int)))] [] zF (ac (yF _:((Mp zG h_1.Threads)).length=(h_1.Threads).length) (ac zH (ac zH (ac zH (ac (yF _:((Mp zC h_1.Domains)).length=(h_1.Domains).length) (ac zH (ac zH (ac zJ (ac zJ (ac zJ (ac (yF _:((Mp zK h_1.Snaps)).length=(h_1.Snaps).length) (ac zJ (ac zJ (ac zO (ac zO (ac (yF _:((Mp zA l_1)).length=(l_1).length) (ac zO (ac zO (ac zS (ac zS (ac zS an))))))))))))))))))))) ?_
      exact ⟨rfl,(sw [] [] [.a 4 (.bool (decide ((lN (h_1.Threads))≤(70:Int))&&(decide ((lN (h_1.Domains))≤(10:Int))&&(decide ((lN (h_1.Snaps))≤(20:Int))&&(decide ((lN (l_1))≤(30:Int))&&decide (o_1≤(3000:Int)))))))] [] (ac (congrArg AV.bool (uO zH (uO zJ (uO zO (uO zS rfl)))):(.bool (decide (o_1≤(3000:Int))):AV)=.bool (decide ((lN (h_1.Threads))≤(70:Int))&&(decide ((lN (h_1.Domains))≤(10:Int))&&(decide ((lN (h_1.Snaps))≤(20:Int))&&(decide ((lN (l_1))≤(30:Int))&&decide (o_1≤(3000:Int))))))) an))⟩
     ·refine rg [(2,{ n:=(h_1.Threads).length }),(7,{ n:=(h_1.Domains).length }),(9,Ht),(13,{ n:=(h_1.Snaps).length }),(15,Ht),(18,{ n:=(l_1).length }),(20,Ht),(22,Hg),(23,Hg),(24,Hf)] [4] [] 1 [.bool false] [] zF (ac (yF _:((Mp zG h_1.Threads)).length=(h_1.Threads).length) (ac zH (ac zH (ac zH (ac (yF _:((Mp zC h_1.Domains)).length=(h_1.Domains).length) (ac zH (ac zH (ac zJ (ac zJ (ac zJ (ac (yF _:((Mp zK h_1.Snaps)).length=(h_1.Snaps).length) (ac zJ (ac zJ (ac zO (ac zO (ac (yF _:((Mp zA l_1)).length=(l_1).length) (ac zO (ac zO (ac zS (ac zS (ac zS an))))))))))))))))))))) ?_
      exact ⟨rfl,(sw [] [] [.a 4 (.bool (decide ((lN (h_1.Threads))≤(70:Int))&&(decide ((lN (h_1.Domains))≤(10:Int))&&(decide ((lN (h_1.Snaps))≤(20:Int))&&(decide ((lN (l_1))≤(30:Int))&&decide (o_1≤(3000:Int)))))))] [] (ac (congrArg AV.bool (uO zH (uO zJ (uO zO (j0 zS)))):(.bool false:AV)=.bool (decide ((lN (h_1.Threads))≤(70:Int))&&(decide ((lN (h_1.Domains))≤(10:Int))&&(decide ((lN (h_1.Snaps))≤(20:Int))&&(decide ((lN (l_1))≤(30:Int))&&decide (o_1≤(3000:Int))))))) an))⟩
    ·refine rg [(2,{ n:=(h_1.Threads).length }),(7,{ n:=(h_1.Domains).length }),(9,Ht),(13,{ n:=(h_1.Snaps).length }),(15,Ht),(17,Hg),(18,Hg),(19,Hg),(20,Hf),(22,Hg),(23,Hg),(24,Hf)] [4] [] 1 [.bool false] [] zF (ac (yF _:((Mp zG h_1.Threads)).length=(h_1.Threads).length) (ac zH (ac zH (ac zH (ac (yF _:((Mp zC h_1.Domains)).length=(h_1.Domains).length) (ac zH (ac zH (ac zJ (ac zJ (ac zJ (ac (yF _:((Mp zK h_1.Snaps)).length=(h_1.Snaps).length) (ac zJ (ac zJ (ac zO (ac zO (ac zO (ac zO (ac (rfl:false=!true) (ac (rfl:false=!true) (ar false an)))))))))))))))))))) ?_
     exact ⟨rfl,(sw [] [] [.a 4 (.bool (decide ((lN (h_1.Threads))≤(70:Int))&&(decide ((lN (h_1.Domains))≤(10:Int))&&(decide ((lN (h_1.Snaps))≤(20:Int))&&(decide ((lN (l_1))≤(30:Int))&&decide (o_1≤(3000:Int)))))))] [] (ac (congrArg AV.bool (uO zH (uO zJ (j0 zO))):(.bool false:AV)=.bool (decide ((lN (h_1.Threads))≤(70:Int))&&(decide ((lN (h_1.Domains))≤(10:Int))&&(decide ((lN (h_1.Snaps))≤(20:Int))&&(decide ((lN (l_1))≤(30:Int))&&decide (o_1≤(3000:Int))))))) an))⟩
   ·refine rg [(2,{ n:=(h_1.Threads).length }),(7,{ n:=(h_1.Domains).length }),(9,Ht),(11,Hg),(12,Hg),(13,Hg),(14,Hg),(15,Hf),(17,Hg),(18,Hg),(19,Hg),(20,Hf),(22,Hg),(23,Hg),(24,Hf)] [4] [] 1 [.bool false] [] zF (ac (yF _:((Mp zG h_1.Threads)).length=(h_1.Threads).length) (ac zH (ac zH (ac zH (ac (yF _:((Mp zC h_1.Domains)).length=(h_1.Domains).length) (ac zH (ac zH (ac zJ (ac zJ (ac zJ (ac zJ (ac zJ (ac (rfl:false=!true) (ac (rfl:false=!true) (ac (rfl:false=!true) (ar false (ac (rfl:false=!true) (ac (rfl:false=!true) (ar false an))))))))))))))))))) ?_
    exact ⟨rfl,(sw [] [] [.a 4 (.bool (decide ((lN (h_1.Threads))≤(70:Int))&&(decide ((lN (h_1.Domains))≤(10:Int))&&(decide ((lN (h_1.Snaps))≤(20:Int))&&(decide ((lN (l_1))≤(30:Int))&&decide (o_1≤(3000:Int)))))))] [] (ac (congrArg AV.bool (uO zH (j0 zJ)):(.bool false:AV)=.bool (decide ((lN (h_1.Threads))≤(70:Int))&&(decide ((lN (h_1.Domains))≤(10:Int))&&(decide ((lN (h_1.Snaps))≤(20:Int))&&(decide ((lN (l_1))≤(30:Int))&&decide (o_1≤(3000:Int))))))) an))⟩
  ·refine rg [(2,{ n:=(h_1.Threads).length }),(5,Hg),(6,Hg),(7,Hg),(8,Hg),(9,Hf),(11,Hg),(12,Hg),(13,Hg),(14,Hg),(15,Hf),(17,Hg),(18,Hg),(19,Hg),(20,Hf),(22,Hg),(23,Hg),(24,Hf)] [4] [] 1 [.bool false] [] zF (ac (yF _:((Mp zG h_1.Threads)).length=(h_1.Threads).length) (ac zH (ac zH (ac zH (ac zH (ac zH (ac (rfl:false=!true) (ac (rfl:false=!true) (ac (rfl:false=!true) (ac (rfl:false=!true) (ar false (ac (rfl:false=!true) (ac (rfl:false=!true) (ac (rfl:false=!true) (ar false (ac (rfl:false=!true) (ac (rfl:false=!true) (ar false an)))))))))))))))))) ?_
   exact ⟨rfl,(sw [] [] [.a 4 (.bool (decide ((lN (h_1.Threads))≤(70:Int))&&(decide ((lN (h_1.Domains))≤(10:Int))&&(decide ((lN (h_1.Snaps))≤(20:Int))&&(decide ((lN (l_1))≤(30:Int))&&decide (o_1≤(3000:Int)))))))] [] (ac (congrArg AV.bool (j0 zH):(.bool false:AV)=.bool (decide ((lN (h_1.Threads))≤(70:Int))&&(decide ((lN (h_1.Domains))≤(10:Int))&&(decide ((lN (h_1.Snaps))≤(20:Int))&&(decide ((lN (l_1))≤(30:Int))&&decide (o_1≤(3000:Int))))))) an))⟩
 refine rt ?_
 cases h
 exact ⟨.inr rfl,Nat.le_of_ble_eq_true rfl,by kernel_rfl⟩
theorem zBI (F:Nat) (w5:Int) (v6:Int) (vQ:List (Int)) (r:zB) (h:zBt F w5 v6 vQ=some r):zV prog 26 [] [] [Ii w5,Ii v6,.sl false 1 (Mi vQ)] [] (zA r):=by
 refine yG (fn:=Go.Proofs.Try.f26) (code:=xC Go.Proofs.Try.f26) (by kernel_rfl) (by kernel_rfl) (Nat.le_of_ble_eq_true (by kernel_rfl)) ?_
 unfold zBt at h
 refine sr [(0,{ id:=0 })] [0,1,2,6] [0] 1 [Ii w5,Ii v6,.sl false 1 (Mi vQ),Pp 0] [Vb 59 [Ii 0,Ii 0,Ii 0,.nilsl]] zF an ?_
 refine uW (u6 0 3 1 42 6 (by kernel_rfl)) ?_
 refine wk [0,1] [] [.s 0,.s 1,.s 2,.s 6] [.s 0,.s 1] [(0,Ii w5),(1,Ii v6),(2,.sl false 1 (Mi vQ)),(6,Pp 0)] [(0,Vb 59 [Ii 0,Ii 0,Ii 0,.own 1 0]),(1,Rb 42 6 [])] an ?_
 refine sr [(3,{ id:=2 })] [2,6,7] [0,1,2] 3 [.sl false 1 (Mi vQ),Pp 0,Pp 2] [Vb 59 [Ii 0,Ii 0,Ii 0,.own 1 0],Rb 42 6 [],Vb 59 [Ii 1,Ii w5,Ii v6,.nilsl]] zF an ?_
 refine uW (u6 2 3 3 42 6 (by kernel_rfl)) ?_
 refine wk [0,1,2,3] [] [.s 2,.s 6,.s 7] [.s 0,.s 1,.s 2,.s 3] [(2,.sl false 1 (Mi vQ)),(6,Pp 0),(7,Pp 2)] [(0,Vb 59 [Ii 0,Ii 0,Ii 0,.own 1 0]),(1,Rb 42 6 []),(2,Vb 59 [Ii 1,Ii w5,Ii v6,.own 3 0]),(3,Rb 42 6 [])] an ?_
 refine sq ?_
 refine sr [(1,{ n:=(vQ).length })] [6,7,13,14,15] [0,1,2,3] 4 [Pp 0,Pp 2,.sl false 1 (Mi vQ),Ii (lN (vQ)),Ii 0] [Vb 59 [Ii 0,Ii 0,Ii 0,.own 1 0],Rb 42 6 [],Vb 59 [Ii 1,Ii w5,Ii v6,.own 3 0],Rb 42 6 []] zF (ac (yF _:((Mi vQ)).length=(vQ).length) an) ?_
 obtain ⟨o_1,h_1,h⟩:=bind_some h
 refine y4 (mk [(6,Pp 0),(7,Pp 2)] [(0,Vb 59 [Ii 0,Ii 0,Ii 0,.own 1 0]),(1,Rb 42 6 []),(2,Vb 59 [Ii 1,Ii w5,Ii v6,.own 3 ((o_1).length)]),(3,Rb 42 6 (Mp zD o_1))] 4) ?_ ?_
 ·replace h:=h_1
  refine yD (id:=0) (by kernel_rfl) ?_
  refine wk [0,1,2,3] [] [.s 6,.s 7,.s 13,.s 14,.s 15] [.s 0,.s 1,.s 2,.s 3] [(6,Pp 0),(7,Pp 2),(13,.sl false 1 (Mi vQ)),(14,Ii (lN (vQ))),(15,Ii 0)] [(0,Vb 59 [Ii 0,Ii 0,Ii 0,.own 1 0]),(1,Rb 42 6 []),(2,Vb 59 [Ii 1,Ii w5,Ii v6,.own 3 0]),(3,Rb 42 6 [])] an ?_
  refine xI (fun n st=>∃ (v_1:Int),∃ (zE:List zI),st=mk [(6,Pp 0),(7,Pp 2),(13,.sl false 1 (Mi vQ)),(14,Ii (lN (vQ))),(15,Ii v_1)] [(0,Vb 59 [Ii 0,Ii 0,Ii 0,.own 1 0]),(1,Rb 42 6 []),(2,Vb 59 [Ii 1,Ii w5,Ii v6,.own 3 ((zE).length)]),(3,Rb 42 6 (Mp zD zE))] 4∧zBF F vQ n v_1 zE=some o_1) F (by kernel_rfl) ⟨_,_,rfl,h⟩ ?_ ?_
  ·rintro _ ⟨_,_,_,h⟩;exact xN (h:(none:Option (List zI))=some o_1)
  rintro n_1 _ ⟨v_1,zE,rfl,h⟩
  replace h:zAK F vQ (zBF F vQ n_1) v_1 zE=some o_1:=h
  unfold zAK at h
  refine sr [] [6,7,13,14,15,16] [0,1,2,3] 4 [Pp 0,Pp 2,.sl false 1 (Mi vQ),Ii (lN (vQ)),Ii v_1,.bool (decide (v_1<(lN (vQ))))] [Vb 59 [Ii 0,Ii 0,Ii 0,.own 1 0],Rb 42 6 [],Vb 59 [Ii 1,Ii w5,Ii v6,.own 3 ((zE).length)],Rb 42 6 (Mp zD zE)] zF an ?_
  refine sq ?_
  refine cd 16 (decide (v_1<(lN (vQ)))) ?_ ?_
  rotate_left
  ·intro g_1;replace h:=zQ g_1 h
   refine xM (id:=0) (by kernel_rfl) ?_
   cases h
   exact ⟨rfl,(sw [0,1,2,3] [] [.s 6,.s 7] [.s 0,.s 1,.s 2,.s 3] an)⟩
  intro g_1;replace h:=zR g_1 h
  refine sk ?_
  refine sq ?_
  refine yD (id:=1) (by kernel_rfl) ?_
  refine sq ?_
  obtain ⟨x_1,h_2,h⟩:=bind_some h
  refine rg [(0,{ av:=Ii x_1 })] [6,7,9,13,14,15] [0,1,2,3] 4 [Pp 0,Pp 2,Ii x_1,.sl false 1 (Mi vQ),Ii (lN (vQ)),Ii v_1] [Vb 59 [Ii 0,Ii 0,Ii 0,.own 1 0],Rb 42 6 [],Vb 59 [Ii 1,Ii w5,Ii v6,.own 3 ((zE).length)],Rb 42 6 (Mp zD zE)] zF (ac (yR h_2:xJ (Mi vQ) v_1=some (Ii x_1)) an) ?_
  obtain ⟨_,h_3,h⟩:=bind_some h;replace h_3:=wK h_3
  refine rg [(4,{ id:=4,lo:=[(22,[0,0,0,0,0,1])] }),(5,{ id:=5,l:=(Mp zD (zE++([(⟨x_1,(3:Int),([97]:List Int),(0:Int),(0:Int),[]⟩:zI)]:List zI))),n:=((zE++([(⟨x_1,(3:Int),([97]:List Int),(0:Int),(0:Int),[]⟩:zI)]:List zI))).length })] [6,7,13,14,15] [0,1,2,5] 6 [Pp 0,Pp 2,.sl false 1 (Mi vQ),Ii (lN (vQ)),Ii v_1] [Vb 59 [Ii 0,Ii 0,Ii 0,.own 1 0],Rb 42 6 [],Vb 59 [Ii 1,Ii w5,Ii v6,.own 5 (((zE++([(⟨x_1,(3:Int),([97]:List Int),(0:Int),(0:Int),[]⟩:zI)]:List zI))).length)],Rb 42 6 (Mp zD (zE++([(⟨x_1,(3:Int),([97]:List Int),(0:Int),(0:Int),[]⟩:zI)]:List zI)))] zF (ac (by first | (simp;done) | (simp;omega):(zE).length=((List.map zD zE)).length) (ac (by first | (simp;done) | (simp;omega):1=((List.map zD ([(⟨x_1,(3:Int),([97]:List Int),(0:Int),(0:Int),[]⟩:zI)]:List zI))).length) (ac (zBD _ _:(Mp zD (zE++([(⟨x_1,(3:Int),([97]:List Int),(0:Int),(0:Int),[]⟩:zI)]:List zI)))=(Mp zD zE)++(Mp zD ([(⟨x_1,(3:Int),([97]:List Int),(0:Int),(0:Int),[]⟩:zI)]:List zI))) (ac (by simp:((zE++([(⟨x_1,(3:Int),([97]:List Int),(0:Int),(0:Int),[]⟩:zI)]:List zI))).length=((List.map zD (zE++([(⟨x_1,(3:Int),([97]:List Int),(0:Int),(0:Int),[]⟩:zI)]:List zI)))).length) (ac (by first | (simp;done) | simpa using h_3:(((List.map zD zE):List AV).length+((List.map zD ([(⟨x_1,(3:Int),([97]:List Int),(0:Int),(0:Int),[]⟩:zI)]:List zI)):List AV).length) * 72≤140737488355328) an))))) ?_
  refine rg [] [6,7,13,14,15] [0,1,2,5] 6 [Pp 0,Pp 2,.sl false 1 (Mi vQ),Ii (lN (vQ)),Ii (zP (v_1+(1:Int)))] [Vb 59 [Ii 0,Ii 0,Ii 0,.own 1 0],Rb 42 6 [],Vb 59 [Ii 1,Ii w5,Ii v6,.own 5 (((zE++([(⟨x_1,(3:Int),([97]:List Int),(0:Int),(0:Int),[]⟩:zI)]:List zI))).length)],Rb 42 6 (Mp zD (zE++([(⟨x_1,(3:Int),([97]:List Int),(0:Int),(0:Int),[]⟩:zI)]:List zI)))] zF an ?_
  exact ⟨_,(sw [0,1,2,5] [] [.s 6,.s 7,.s 13,.s 14,.s 15] [.s 0,.s 1,.s 2,.s 3] an),_,_,rfl,h⟩
 refine sr [] [6] [0,3] 4 [Pp 0] [Vb 59 [Ii 1,Ii w5,Ii v6,.own 3 ((o_1).length)],Rb 42 6 (Mp zD o_1)] zF an ?_
 refine wk [0] [3] [.s 6] [.a 0 (Vb 59 (zX (⟨(1:Int),w5,v6,o_1⟩:zB)))] [(6,Pp 0)] [(0,Vb 59 (zX (⟨(1:Int),w5,v6,o_1⟩:zB)))] (ar 59 (ac (rfl:v7 [Ii ((⟨(1:Int),w5,v6,o_1⟩:zB).Thread),Ii ((⟨(1:Int),w5,v6,o_1⟩:zB).Serial),Ii ((⟨(1:Int),w5,v6,o_1⟩:zB).Lost),.sl false 6 (Mp zD ((⟨(1:Int),w5,v6,o_1⟩:zB).Events))]=true) (ac (by first | (simp;done) | (simp;omega):(o_1).length=((List.map zD o_1)).length) (ac (rfl:(Ii 1:AV)=Ii ((⟨(1:Int),w5,v6,o_1⟩:zB).Thread)) (ac (rfl:(Ii w5:AV)=Ii ((⟨(1:Int),w5,v6,o_1⟩:zB).Serial)) (ac (rfl:(Ii v6:AV)=Ii ((⟨(1:Int),w5,v6,o_1⟩:zB).Lost)) (ar 6 (ac (rfl:((Mp zD o_1):List AV)=(Mp zD ((⟨(1:Int),w5,v6,o_1⟩:zB).Events))) (ac (rfl:(!false||false)=true) an))))))))) ?_
 refine rt ?_
 cases h
 exact ⟨.inr rfl,Nat.le_of_ble_eq_true rfl,by kernel_rfl⟩
theorem zC7 (s_1:List Int) (c_1:Int) (r:Int) (h:jD s_1 c_1=some r):zV prog 91 [] [] [.str s_1,Iu c_1] [] (Ii r):=by
 refine yG (fn:=Go.Proofs.Try.f91) (code:=xC Go.Proofs.Try.f91) (by kernel_rfl) (by kernel_rfl) (Nat.le_of_ble_eq_true (by kernel_rfl)) ?_
 unfold jD at h
 refine sr [] [0,1] [] 0 [.str s_1,Iu c_1] [] zF an ?_
 refine sr [] [4] [] 0 [Ii (u9 s_1 c_1)] [] zF (ac (zPT:zHG prog 92) an) ?_
 refine rt ?_
 cases h
 exact ⟨.inr rfl,Nat.le_of_ble_eq_true rfl,by kernel_rfl⟩
theorem vV (s_1:List Int) (c_1:Int) (r:Int) (h:vF s_1 c_1=some r):zV prog 86 [] [] [.str s_1,Iu c_1] [] (Ii r):=by
 refine yG (fn:=Go.Proofs.Try.f86) (code:=xC Go.Proofs.Try.f86) (by kernel_rfl) (by kernel_rfl) (Nat.le_of_ble_eq_true (by kernel_rfl)) ?_
 unfold vF at h
 refine sr [] [0,1] [] 0 [.str s_1,Iu c_1] [] zF an ?_
 refine sq ?_
 obtain ⟨r_1,h_1,h⟩:=bind_some h
 refine rg [(2,{ av:=Ii r_1,l:=[.str s_1,Iu c_1] })] [4] [] 0 [Ii r_1] [] zF (ar ([.str s_1,Iu c_1]:List AV) (ac (rfl:([]:List zW)=[]) (ac (zC7 s_1 c_1 r_1 h_1:zV prog 91 [] [] [.str s_1,Iu c_1] [] (Ii r_1)) an))) ?_
 refine rt ?_
 cases h
 exact ⟨.inr rfl,Nat.le_of_ble_eq_true rfl,by kernel_rfl⟩
theorem zGy (c_1:Int) (r:Bool) (h:nS c_1=some r):zV prog 75 [] [] [Iu c_1] [] (.bool r):=by
 refine yG (fn:=Go.Proofs.Try.f75) (code:=xC Go.Proofs.Try.f75) (by kernel_rfl) (by kernel_rfl) (Nat.le_of_ble_eq_true (by kernel_rfl)) ?_
 unfold nS at h
 refine sr [] [0] [] 0 [Iu c_1] [] zF an ?_
 refine sq ?_
 obtain ⟨p_1,h_2,h⟩:=bind_some h
 refine y4 (mk [(2,.bool p_1)] [] 0) ?_ ?_
 ·replace h:=h_2
  rcases bft (decide (c_1≥(97:Int))) with zH | zH
  ·replace h:=zR zH h
   rcases bft (decide (c_1≤(122:Int))) with zJ | zJ
   ·replace h:=zR zJ h
    refine rg [(5,Ht),(7,Hg),(8,Hg),(9,Hg),(12,Hg),(13,Ht),(15,Hg),(16,Hg),(17,Hg),(20,Hg),(21,Ht),(23,Hg),(24,Hg),(25,Hg),(26,Ht)] [2] [] 0 [.bool true] [] zF (ac zH (ac zH (ac zH (ac zJ (ac zJ (ac zJ (ac zJ (ac zJ (ax (ax (ax (ax (ar true (ax (ax (ax (ar true an))))))))))))))))) ?_
    cases h
    exact ⟨rfl,(sw [] [] [.s 2] [] an)⟩
   ·replace h:=zQ zJ h
    rcases bft (decide (c_1≥(65:Int))) with zO | zO
    ·replace h:=zR zO h
     rcases bft (decide (c_1≤(90:Int))) with zS | zS
     ·replace h:=zR zS h
      refine rg [(5,Ht),(12,Ht),(13,Hf),(15,Hg),(16,Hg),(17,Hg),(20,Hg),(21,Ht),(23,Hg),(24,Hg),(25,Hg),(26,Ht)] [2] [] 0 [.bool true] [] zF (ac zH (ac zH (ac zH (ac zJ (ac zJ (ac zJ (ac zO (ac zO (ac zJ (ac zO (ac zJ (ac zS (ac zS (ac zS (ac zS (ac zS (ax (ax (ax (ar true an)))))))))))))))))))) ?_
      cases h
      exact ⟨rfl,(sw [] [] [.s 2] [] an)⟩
     ·replace h:=zQ zS h
      rcases bft (decide (c_1≥(48:Int))) with yE | yE
      ·replace h:=zR yE h
       rcases bft (decide (c_1≤(57:Int))) with yZ | yZ
       ·replace h:=zR yZ h
        refine rg [(5,Ht),(12,Ht),(13,Hf),(20,Ht),(21,Hf),(23,Hg),(24,Hg),(25,Hg),(26,Ht)] [2] [] 0 [.bool true] [] zF (ac zH (ac zH (ac zH (ac zJ (ac zJ (ac zJ (ac zO (ac zO (ac zJ (ac zO (ac zJ (ac zS (ac zS (ac zS (ac yE (ac yE (ac zS (ac yE (ac zS (ac yZ (ac yZ (ac yZ (ac yZ an))))))))))))))))))))))) ?_
        cases h
        exact ⟨rfl,(sw [] [] [.s 2] [] an)⟩
       ·replace h:=zQ yZ h
        obtain ⟨r_1,h_1,h⟩:=bind_some h
        refine rg [(5,Ht),(12,Ht),(13,Hf),(20,Ht),(21,Hf),(24,{ av:=Ii r_1,l:=[.str ([95,46,58,47,60,62,36,42,126,45]:List Int),Iu c_1] }),(26,Hf)] [2] [] 0 [.bool (decide (r_1≥(0:Int)))] [] zF (ac zH (ac zH (ac zH (ac zJ (ac zJ (ac zJ (ac zO (ac zO (ac zJ (ac zO (ac zJ (ac zS (ac zS (ac zS (ac yE (ac yE (ac zS (ac yE (ac zS (ac yZ (ac yZ (ar ([.str ([95,46,58,47,60,62,36,42,126,45]:List Int),Iu c_1]:List AV) (ac (rfl:([]:List zW)=[]) (ac (vV ([95,46,58,47,60,62,36,42,126,45]:List Int) c_1 r_1 h_1:zV prog 86 [] [] [.str ([95,46,58,47,60,62,36,42,126,45]:List Int),Iu c_1] [] (Ii r_1)) (ac yZ (ac yZ an)))))))))))))))))))))))))) ?_
        cases h
        exact ⟨rfl,(sw [] [] [.s 2] [] an)⟩
      ·replace h:=zQ yE h
       obtain ⟨r_1,h_1,h⟩:=bind_some h
       refine rg [(5,Ht),(12,Ht),(13,Hf),(18,Hg),(19,Hg),(20,Hf),(21,Hf),(24,{ av:=Ii r_1,l:=[.str ([95,46,58,47,60,62,36,42,126,45]:List Int),Iu c_1] }),(26,Hf)] [2] [] 0 [.bool (decide (r_1≥(0:Int)))] [] zF (ac zH (ac zH (ac zH (ac zJ (ac zJ (ac zJ (ac zO (ac zO (ac zJ (ac zO (ac zJ (ac zS (ac zS (ac zS (ac yE (ac yE (ac zS (ac yE (ac zS (ar false (ar false (ar ([.str ([95,46,58,47,60,62,36,42,126,45]:List Int),Iu c_1]:List AV) (ac (rfl:([]:List zW)=[]) (ac (vV ([95,46,58,47,60,62,36,42,126,45]:List Int) c_1 r_1 h_1:zV prog 86 [] [] [.str ([95,46,58,47,60,62,36,42,126,45]:List Int),Iu c_1] [] (Ii r_1)) (ar false (ar false an)))))))))))))))))))))))))) ?_
       cases h
       exact ⟨rfl,(sw [] [] [.s 2] [] an)⟩
    ·replace h:=zQ zO h
     rcases bft (decide (c_1≥(48:Int))) with yQ | yQ
     ·replace h:=zR yQ h
      rcases bft (decide (c_1≤(57:Int))) with yS | yS
      ·replace h:=zR yS h
       refine rg [(5,Ht),(10,Hg),(11,Hg),(12,Hf),(13,Hf),(20,Ht),(21,Hf),(23,Hg),(24,Hg),(25,Hg),(26,Ht)] [2] [] 0 [.bool true] [] zF (ac zH (ac zH (ac zH (ac zJ (ac zJ (ac zJ (ac zO (ac zO (ac zJ (ac zO (ac zJ (ar false (ar false (ar false (ac yQ (ac yQ (ar false (ac yQ (ar false (ac yS (ac yS (ac yS (ac yS an))))))))))))))))))))))) ?_
       cases h
       exact ⟨rfl,(sw [] [] [.s 2] [] an)⟩
      ·replace h:=zQ yS h
       obtain ⟨r_1,h_1,h⟩:=bind_some h
       refine rg [(5,Ht),(10,Hg),(11,Hg),(12,Hf),(13,Hf),(20,Ht),(21,Hf),(24,{ av:=Ii r_1,l:=[.str ([95,46,58,47,60,62,36,42,126,45]:List Int),Iu c_1] }),(26,Hf)] [2] [] 0 [.bool (decide (r_1≥(0:Int)))] [] zF (ac zH (ac zH (ac zH (ac zJ (ac zJ (ac zJ (ac zO (ac zO (ac zJ (ac zO (ac zJ (ar false (ar false (ar false (ac yQ (ac yQ (ar false (ac yQ (ar false (ac yS (ac yS (ar ([.str ([95,46,58,47,60,62,36,42,126,45]:List Int),Iu c_1]:List AV) (ac (rfl:([]:List zW)=[]) (ac (vV ([95,46,58,47,60,62,36,42,126,45]:List Int) c_1 r_1 h_1:zV prog 86 [] [] [.str ([95,46,58,47,60,62,36,42,126,45]:List Int),Iu c_1] [] (Ii r_1)) (ac yS (ac yS an)))))))))))))))))))))))))) ?_
       cases h
       exact ⟨rfl,(sw [] [] [.s 2] [] an)⟩
     ·replace h:=zQ yQ h
      obtain ⟨r_1,h_1,h⟩:=bind_some h
      refine rg [(5,Ht),(10,Hg),(11,Hg),(12,Hf),(13,Hf),(18,Hg),(19,Hg),(20,Hf),(21,Hf),(24,{ av:=Ii r_1,l:=[.str ([95,46,58,47,60,62,36,42,126,45]:List Int),Iu c_1] }),(26,Hf)] [2] [] 0 [.bool (decide (r_1≥(0:Int)))] [] zF (ac zH (ac zH (ac zH (ac zJ (ac zJ (ac zJ (ac zO (ac zO (ac zJ (ac zO (ac zJ (ar false (ar false (ar false (ac yQ (ac yQ (ar false (ac yQ (ar false (ar false (ar false (ar ([.str ([95,46,58,47,60,62,36,42,126,45]:List Int),Iu c_1]:List AV) (ac (rfl:([]:List zW)=[]) (ac (vV ([95,46,58,47,60,62,36,42,126,45]:List Int) c_1 r_1 h_1:zV prog 86 [] [] [.str ([95,46,58,47,60,62,36,42,126,45]:List Int),Iu c_1] [] (Ii r_1)) (ar false (ar false an)))))))))))))))))))))))))) ?_
      cases h
      exact ⟨rfl,(sw [] [] [.s 2] [] an)⟩
  ·replace h:=zQ zH h
   rcases bft (decide (c_1≥(65:Int))) with xW | xW
   ·replace h:=zR xW h
    rcases bft (decide (c_1≤(90:Int))) with xK | xK
    ·replace h:=zR xK h
     refine rg [(3,Hg),(4,Hg),(5,Hf),(12,Ht),(13,Hf),(15,Hg),(16,Hg),(17,Hg),(20,Hg),(21,Ht),(23,Hg),(24,Hg),(25,Hg),(26,Ht)] [2] [] 0 [.bool true] [] zF (ac zH (ac zH (ac zH (ar false (ar false (ar false (ac xW (ac xW (ar false (ac xW (ar false (ac xK (ac xK (ac xK (ac xK (ac xK (ax (ax (ax (ar true an)))))))))))))))))))) ?_
     cases h
     exact ⟨rfl,(sw [] [] [.s 2] [] an)⟩
    ·replace h:=zQ xK h
     rcases bft (decide (c_1≥(48:Int))) with xO | xO
     ·replace h:=zR xO h
      rcases bft (decide (c_1≤(57:Int))) with xB | xB
      ·replace h:=zR xB h
       refine rg [(3,Hg),(4,Hg),(5,Hf),(12,Ht),(13,Hf),(20,Ht),(21,Hf),(23,Hg),(24,Hg),(25,Hg),(26,Ht)] [2] [] 0 [.bool true] [] zF (ac zH (ac zH (ac zH (ar false (ar false (ar false (ac xW (ac xW (ar false (ac xW (ar false (ac xK (ac xK (ac xK (ac xO (ac xO (ac xK (ac xO (ac xK (ac xB (ac xB (ac xB (ac xB an))))))))))))))))))))))) ?_
       cases h
       exact ⟨rfl,(sw [] [] [.s 2] [] an)⟩
      ·replace h:=zQ xB h
       obtain ⟨r_1,h_1,h⟩:=bind_some h
       refine rg [(3,Hg),(4,Hg),(5,Hf),(12,Ht),(13,Hf),(20,Ht),(21,Hf),(24,{ av:=Ii r_1,l:=[.str ([95,46,58,47,60,62,36,42,126,45]:List Int),Iu c_1] }),(26,Hf)] [2] [] 0 [.bool (decide (r_1≥(0:Int)))] [] zF (ac zH (ac zH (ac zH (ar false (ar false (ar false (ac xW (ac xW (ar false (ac xW (ar false (ac xK (ac xK (ac xK (ac xO (ac xO (ac xK (ac xO (ac xK (ac xB (ac xB (ar ([.str ([95,46,58,47,60,62,36,42,126,45]:List Int),Iu c_1]:List AV) (ac (rfl:([]:List zW)=[]) (ac (vV ([95,46,58,47,60,62,36,42,126,45]:List Int) c_1 r_1 h_1:zV prog 86 [] [] [.str ([95,46,58,47,60,62,36,42,126,45]:List Int),Iu c_1] [] (Ii r_1)) (ac xB (ac xB an)))))))))))))))))))))))))) ?_
       cases h
       exact ⟨rfl,(sw [] [] [.s 2] [] an)⟩
     ·replace h:=zQ xO h
      obtain ⟨r_1,h_1,h⟩:=bind_some h
      refine rg [(3,Hg),(4,Hg),(5,Hf),(12,Ht),(13,Hf),(18,Hg),(19,Hg),(20,Hf),(21,Hf),(24,{ av:=Ii r_1,l:=[.str ([95,46,58,47,60,62,36,42,126,45]:List Int),Iu c_1] }),(26,Hf)] [2] [] 0 [.bool (decide (r_1≥(0:Int)))] [] zF (ac zH (ac zH (ac zH (ar false (ar false (ar false (ac xW (ac xW (ar false (ac xW (ar false (ac xK (ac xK (ac xK (ac xO (ac xO (ac xK (ac xO (ac xK (ar false (ar false (ar ([.str ([95,46,58,47,60,62,36,42,126,45]:List Int),Iu c_1]:List AV) (ac (rfl:([]:List zW)=[]) (ac (vV ([95,46,58,47,60,62,36,42,126,45]:List Int) c_1 r_1 h_1:zV prog 86 [] [] [.str ([95,46,58,47,60,62,36,42,126,45]:List Int),Iu c_1] [] (Ii r_1)) (ar false (ar false an)))))))))))))))))))))))))) ?_
      cases h
      exact ⟨rfl,(sw [] [] [.s 2] [] an)⟩
   ·replace h:=zQ xW h
    rcases bft (decide (c_1≥(48:Int))) with wA | wA
    ·replace h:=zR wA h
     rcases bft (decide (c_1≤(57:Int))) with wJ | wJ
     ·replace h:=zR wJ h
      refine rg [(3,Hg),(4,Hg),(5,Hf),(10,Hg),(11,Hg),(12,Hf),(13,Hf),(20,Ht),(21,Hf),(23,Hg),(24,Hg),(25,Hg),(26,Ht)] [2] [] 0 [.bool true] [] zF (ac zH (ac zH (ac zH (ar false (ar false (ar false (ac xW (ac xW (ar false (ac xW (ar false (ar false (ar false (ar false (ac wA (ac wA (ar false (ac wA (ar false (ac wJ (ac wJ (ac wJ (ac wJ an))))))))))))))))))))))) ?_
      cases h
      exact ⟨rfl,(sw [] [] [.s 2] [] an)⟩
     ·replace h:=zQ wJ h
      obtain ⟨r_1,h_1,h⟩:=bind_some h
      refine rg [(3,Hg),(4,Hg),(5,Hf),(10,Hg),(11,Hg),(12,Hf),(13,Hf),(20,Ht),(21,Hf),(24,{ av:=Ii r_1,l:=[.str ([95,46,58,47,60,62,36,42,126,45]:List Int),Iu c_1] }),(26,Hf)] [2] [] 0 [.bool (decide (r_1≥(0:Int)))] [] zF (ac zH (ac zH (ac zH (ar false (ar false (ar false (ac xW (ac xW (ar false (ac xW (ar false (ar false (ar false (ar false (ac wA (ac wA (ar false (ac wA (ar false (ac wJ (ac wJ (ar ([.str ([95,46,58,47,60,62,36,42,126,45]:List Int),Iu c_1]:List AV) (ac (rfl:([]:List zW)=[]) (ac (vV ([95,46,58,47,60,62,36,42,126,45]:List Int) c_1 r_1 h_1:zV prog 86 [] [] [.str ([95,46,58,47,60,62,36,42,126,45]:List Int),Iu c_1] [] (Ii r_1)) (ac wJ (ac wJ an)))))))))))))))))))))))))) ?_
      cases h
      exact ⟨rfl,(sw [] [] [.s 2] [] an)⟩
    ·replace h:=zQ wA h
     obtain ⟨r_1,h_1,h⟩:=bind_some h
     refine rg [(3,Hg),(4,Hg),(5,Hf),(10,Hg),(11,Hg),(12,Hf),(13,Hf),(18,Hg),(19,Hg),(20,Hf),(21,Hf),(24,{ av:=Ii r_1,l:=[.str ([95,46,58,47,60,62,36,42,126,45]:List Int),Iu c_1] }),(26,Hf)] [2] [] 0 [.bool (decide (r_1≥(0:Int)))] [] zF (ac zH (ac zH (ac zH (ar false (ar false (ar false (ac xW (ac xW (ar false (ac xW (ar false (ar false (ar false (ar false (ac wA (ac wA (ar false (ac wA (ar false (ar false (ar false (ar ([.str ([95,46,58,47,60,62,36,42,126,45]:List Int),Iu c_1]:List AV) (ac (rfl:([]:List zW)=[]) (ac (vV ([95,46,58,47,60,62,36,42,126,45]:List Int) c_1 r_1 h_1:zV prog 86 [] [] [.str ([95,46,58,47,60,62,36,42,126,45]:List Int),Iu c_1] [] (Ii r_1)) (ar false (ar false an)))))))))))))))))))))))))) ?_
     cases h
     exact ⟨rfl,(sw [] [] [.s 2] [] an)⟩
 refine rt ?_
 cases h
 exact ⟨.inr rfl,Nat.le_of_ble_eq_true rfl,by kernel_rfl⟩
theorem zB7 (F:Nat) (s_1:List Int) (r:Int) (h:kV F s_1=some r):zV prog 64 [] [] [.str s_1] [] (Ii r):=by
 refine yG (fn:=Go.Proofs.Try.f64) (code:=xC Go.Proofs.Try.f64) (by kernel_rfl) (by kernel_rfl) (Nat.le_of_ble_eq_true (by kernel_rfl)) ?_
 unfold kV at h
 refine sr [] [0] [] 0 [.str s_1] [] zF an ?_
 refine sq ?_
 refine sq ?_
 refine y4 (mk [(0,.str s_1),(10,.bool ((s_1==([]:List Int))||decide ((lN (s_1))>(40:Int))))] [] 0) ?_ ?_
 ·rcases bft (s_1==([]:List Int)) with zH | zH
  ·refine rg [(3,Hg),(4,Hg),(5,Hg),(6,Ht)] [0,10] [] 0 [.str s_1,.bool true] [] zF (ac zH (ac zH (ac zH (ac zH an)))) ?_
   exact ⟨rfl,(sw [] [] [.s 0,.a 10 (.bool ((s_1==([]:List Int))||decide ((lN (s_1))>(40:Int))))] [] (ac (congrArg AV.bool (ort zH):(.bool true:AV)=.bool ((s_1==([]:List Int))||decide ((lN (s_1))>(40:Int)))) an))⟩
  ·refine rg [(6,Hf)] [0,10] [] 0 [.str s_1,.bool (decide ((lN (s_1))>(40:Int)))] [] zF (ac zH (ac zH (ac zH (ac zH an)))) ?_
   exact ⟨rfl,(sw [] [] [.s 0,.a 10 (.bool ((s_1==([]:List Int))||decide ((lN (s_1))>(40:Int))))] [] (ac (congrArg AV.bool (orf zH rfl):(.bool (decide ((lN (s_1))>(40:Int))):AV)=.bool ((s_1==([]:List Int))||decide ((lN (s_1))>(40:Int)))) an))⟩
 refine cd 10 ((s_1==([]:List Int))||decide ((lN (s_1))>(40:Int))) ?_ ?_
 ·intro g_1;replace h:=zR g_1 h
  refine sr [] [2] [] 0 [Ii 3] [] zF an ?_
  refine rt ?_
  cases h
  exact ⟨.inr rfl,Nat.le_of_ble_eq_true rfl,by kernel_rfl⟩
 intro g_1;replace h:=zQ g_1 h
 refine sk ?_
 refine sq ?_
 refine sr [] [0,12,13] [] 0 [.str s_1,Ii (lN (s_1)),Ii 0] [] zF an ?_
 obtain ⟨o_1,h_1,h⟩:=bind_some h
 refine wI (K1:=(fun e st'=>match o_1 with | (.inl q0)=>e=.normal∧Sub 0 st' (mk [] [] 0) | (.inr q1)=>e=.ret∧uE prog Go.Proofs.Try.f64 0 [] (Ii q1) st')) ?_ ?_
 ·replace h:=h_1
  refine yD (id:=0) (by kernel_rfl) ?_
  refine wk [] [] [.s 0,.s 12,.s 13] [] [(0,.str s_1),(12,Ii (lN (s_1))),(13,Ii 0)] [] an ?_
  refine xI (fun n st=>∃ (v_1:Int),st=mk [(0,.str s_1),(12,Ii (lN (s_1))),(13,Ii v_1)] [] 0∧pG F s_1 n v_1=some o_1) F (by kernel_rfl) ⟨_,rfl,h⟩ ?_ ?_
  ·rintro _ ⟨_,_,h⟩;exact xN (h:(none:Option (Unit⊕Int))=some o_1)
  rintro n_1 _ ⟨v_1,rfl,h⟩
  replace h:qR F s_1 (pG F s_1 n_1) v_1=some o_1:=h
  unfold qR at h
  refine sr [] [0,12,13,14] [] 0 [.str s_1,Ii (lN (s_1)),Ii v_1,.bool (decide (v_1<(lN (s_1))))] [] zF an ?_
  refine sq ?_
  refine cd 14 (decide (v_1<(lN (s_1)))) ?_ ?_
  rotate_left
  ·intro g_2;replace h:=zQ g_2 h
   refine xM (id:=0) (by kernel_rfl) ?_
   cases h
   exact ⟨rfl,(sw [] [] [] [] an)⟩
  intro g_2;replace h:=zR g_2 h
  refine sk ?_
  refine sq ?_
  refine yD (id:=1) (by kernel_rfl) ?_
  refine sr [] [0,3,12,13] [] 0 [.str s_1,Ii v_1,Ii (lN (s_1)),Ii v_1] [] zF an ?_
  refine sq ?_
  obtain ⟨c_1,h_2,h⟩:=bind_some h
  obtain ⟨r_1,h_3,h⟩:=bind_some h
  refine rg [(2,{ z:=c_1 }),(3,{ av:=.bool r_1,l:=[Iu c_1] })] [0,12,13,20] [] 0 [.str s_1,Ii (lN (s_1)),Ii v_1,.bool (!r_1)] [] zF (ac h_2 (ar ([Iu c_1]:List AV) (ac (rfl:([]:List zW)=[]) (ac (zGy c_1 r_1 h_3:zV prog 75 [] [] [Iu c_1] [] (.bool r_1)) an)))) ?_
  refine cd 20 (!r_1) ?_ ?_
  rotate_left
  ·intro g_3;replace h:=zQ g_3 h
   refine sk ?_
   refine rg [] [0,12,13] [] 0 [.str s_1,Ii (lN (s_1)),Ii (zP (v_1+(1:Int)))] [] zF an ?_
   exact ⟨_,(sw [] [] [.s 0,.s 12,.s 13] [] an),_,rfl,h⟩
  intro g_3;replace h:=zR g_3 h
  refine sr [] [2] [] 0 [Ii 3] [] zF an ?_
  refine rt ?_
  cases h
  exact ⟨rfl,Nat.le_of_ble_eq_true rfl,by kernel_rfl⟩
 intro e st1 hk
 rcases o_1 with q_1 | q_2
 rotate_left
 ·obtain ⟨rfl,hf⟩:=hk
  cases h
  exact ⟨st1,Sub.refl _ _,.inr rfl,hf⟩
 obtain ⟨rfl,hs⟩:=hk
 refine ⟨_,hs,?_⟩
 refine sr [] [2] [] 0 [Ii 0] [] zF an ?_
 refine rt ?_
 cases h
 exact ⟨.inr rfl,Nat.le_of_ble_eq_true rfl,by kernel_rfl⟩
theorem zFt (F:Nat) (t_1:z0) (r:Int) (h:kU F t_1=some r):zV prog 47 [] [] [zG t_1] [] (Ii r):=by
 refine yG (fn:=Go.Proofs.Try.f47) (code:=xC Go.Proofs.Try.f47) (by kernel_rfl) (by kernel_rfl) (Nat.le_of_ble_eq_true (by kernel_rfl)) ?_
 unfold kU at h
 refine sr [(0,{ id:=0 })] [1] [0] 1 [Pp 0] [Vb 66 (yI t_1)] zF an ?_
 refine sq ?_
 refine sq ?_
 refine y4 (mk [(1,Pp 0),(20,.bool (decide (t_1.Id<(0:Int))||(decide (t_1.Id>(1000000000000000:Int))||(decide (t_1.Domain<(0:Int))||decide (t_1.Domain≥(8:Int))))))] [(0,Vb 66 (yI t_1))] 1) ?_ ?_
 ·rcases bft (decide (t_1.Id<(0:Int))) with zH | zH
  ·refine rg [(4,Hg),(5,Hg),(6,Hg),(7,Ht),(9,Hg),(10,Hg),(11,Hg),(12,Ht),(14,Hg),(15,Hg),(16,Hg),(17,Ht)] [1,20] [0] 1 [Pp 0,.bool true] [Vb 66 (yI t_1)] zF (ac zH (ac zH (ac zH (ac zH (ax (ax (ax (ar true (ax (ax (ax (ar true an)))))))))))) ?_
   exact ⟨rfl,(sw [0] [] [.s 1,.a 20 (.bool (decide (t_1.Id<(0:Int))||(decide (t_1.Id>(1000000000000000:Int))||(decide (t_1.Domain<(0:Int))||decide (t_1.Domain≥(8:Int))))))] [.s 0] (ac (congrArg AV.bool (ort zH):(.bool true:AV)=.bool (decide (t_1.Id<(0:Int))||(decide (t_1.Id>(1000000000000000:Int))||(decide (t_1.Domain<(0:Int))||decide (t_1.Domain≥(8:Int)))))) an))⟩
  ·rcases bft (decide (t_1.Id>(1000000000000000:Int))) with zJ | zJ
   ·refine rg [(7,Hf),(9,Hg),(10,Hg),(11,Hg),(12,Ht),(14,Hg),(15,Hg),(16,Hg),(17,Ht)] [1,20] [0] 1 [Pp 0,.bool true] [Vb 66 (yI t_1)] zF (ac zH (ac zH (ac zH (ac zH (ac zJ (ac zJ (ac zJ (ac zJ (ax (ax (ax (ar true an)))))))))))) ?_
    exact ⟨rfl,(sw [0] [] [.s 1,.a 20 (.bool (decide (t_1.Id<(0:Int))||(decide (t_1.Id>(1000000000000000:Int))||(decide (t_1.Domain<(0:Int))||decide (t_1.Domain≥(8:Int))))))] [.s 0] (ac (congrArg AV.bool (orf zH (ort zJ)):(.bool true:AV)=.bool (decide (t_1.Id<(0:Int))||(decide (t_1.Id>(1000000000000000:Int))||(decide (t_1.Domain<(0:Int))||decide (t_1.Domain≥(8:Int)))))) an))⟩
   ·rcases bft (decide (t_1.Domain<(0:Int))) with zO | zO
    ·refine rg [(7,Hf),(12,Hf),(14,Hg),(15,Hg),(16,Hg),(17,Ht)] [1,20] [0] 1 [Pp 0,.bool true] [Vb 66 (yI t_1)] zF (ac zH (ac zH (ac zH (ac zH (ac zJ (ac zJ (ac zJ (ac zJ (ac zO (ac zO (ac zO (ac zO an)))))))))))) ?_
     exact ⟨rfl,(sw [0] [] [.s 1,.a 20 (.bool (decide (t_1.Id<(0:Int))||(decide (t_1.Id>(1000000000000000:Int))||(decide (t_1.Domain<(0:Int))||decide (t_1.Domain≥(8:Int))))))] [.s 0] (ac (congrArg AV.bool (orf zH (orf zJ (ort zO))):(.bool true:AV)=.bool (decide (t_1.Id<(0:Int))||(decide (t_1.Id>(1000000000000000:Int))||(decide (t_1.Domain<(0:Int))||decide (t_1.Domain≥(8:Int)))))) an))⟩
    ·refine rg [(7,Hf),(12,Hf),(17,Hf)] [1,20] [0] 1 [Pp 0,.bool (decide (t_1.Domain≥(8:Int)))] [Vb 66 (yI t_1)] zF (ac zH (ac zH (ac zH (ac zH (ac zJ (ac zJ (ac zJ (ac zJ (ac zO (ac zO (ac zO (ac zO an)))))))))))) ?_
     exact ⟨rfl,(sw [0] [] [.s 1,.a 20 (.bool (decide (t_1.Id<(0:Int))||(decide (t_1.Id>(1000000000000000:Int))||(decide (t_1.Domain<(0:Int))||decide (t_1.Domain≥(8:Int))))))] [.s 0] (ac (congrArg AV.bool (orf zH (orf zJ (orf zO rfl))):(.bool (decide (t_1.Domain≥(8:Int))):AV)=.bool (decide (t_1.Id<(0:Int))||(decide (t_1.Id>(1000000000000000:Int))||(decide (t_1.Domain<(0:Int))||decide (t_1.Domain≥(8:Int)))))) an))⟩
 refine cd 20 (decide (t_1.Id<(0:Int))||(decide (t_1.Id>(1000000000000000:Int))||(decide (t_1.Domain<(0:Int))||decide (t_1.Domain≥(8:Int))))) ?_ ?_
 ·intro g_1;replace h:=zR g_1 h
  refine sr [] [2] [] 1 [Ii 2] [] zF an ?_
  refine rt ?_
  cases h
  exact ⟨.inr rfl,Nat.le_of_ble_eq_true rfl,by kernel_rfl⟩
 intro g_1;replace h:=zQ g_1 h
 refine sk ?_
 refine sq ?_
 obtain ⟨r_1,h_1,h⟩:=bind_some h
 refine rg [(2,{ av:=Ii r_1,l:=[.str t_1.Name] })] [2] [] 1 [Ii r_1] [] zF (ar ([.str t_1.Name]:List AV) (ac (rfl:([]:List zW)=[]) (ac (zB7 F t_1.Name r_1 h_1:zV prog 64 [] [] [.str t_1.Name] [] (Ii r_1)) an))) ?_
 refine rt ?_
 cases h
 exact ⟨.inr rfl,Nat.le_of_ble_eq_true rfl,by kernel_rfl⟩
theorem zGK (x_1:zU) (a_1:Int) (r:Bool) (h:zA3 x_1 a_1=some r):zV prog 87 [(.var 3 [Ii a_1])] [] [zC x_1,Pp 0] [(.var 3 [Ii a_1])] (.bool r):=by
 refine yG (fn:=Go.Proofs.Try.f87) (code:=xC Go.Proofs.Try.f87) (by kernel_rfl) (by kernel_rfl) (Nat.le_of_ble_eq_true (by kernel_rfl)) ?_
 unfold zA3 at h
 refine sr [(0,{ id:=1 })] [1,2] [0,1] 2 [Pp 0,Pp 1] [Vb 3 [Ii a_1],Vb 68 (uR x_1)] zF an ?_
 refine sr [] [3] [0] 2 [.bool (x_1.Id==a_1)] [Vb 3 [Ii a_1]] zF an ?_
 refine wk [0] [] [.s 3] [.s 0] [(3,.bool (x_1.Id==a_1))] [(0,Vb 3 [Ii a_1])] an ?_
 refine rt ?_
 cases h
 exact ⟨.inr rfl,Nat.le_of_ble_eq_true rfl,by kernel_rfl⟩
theorem qD (F:Nat) (s_1:List (zU)) (c_1:Int) (r:Int) (h:x3 F s_1 c_1=some r):zV prog 67 [(.var 3 [Ii c_1])] [] [.sl false 2 (Mp zC s_1),.fn 87 [Pp 0]] [(.var 3 [Ii c_1])] (Ii r):=by
 refine yG (fn:=Go.Proofs.Try.f67) (code:=xC Go.Proofs.Try.f67) (by kernel_rfl) (by kernel_rfl) (Nat.le_of_ble_eq_true (by kernel_rfl)) ?_
 unfold x3 at h
 refine sr [] [0,1] [0] 1 [.sl false 2 (Mp zC s_1),.fn 87 [Pp 0]] [Vb 3 [Ii c_1]] zF an ?_
 refine sq ?_
 refine sr [(1,{ n:=(s_1).length })] [0,1,7,8] [0] 1 [.sl false 2 (Mp zC s_1),.fn 87 [Pp 0],Ii (lN (s_1)),Ii 0] [Vb 3 [Ii c_1]] zF (ac (yF _:((Mp zC s_1)).length=(s_1).length) an) ?_
 obtain ⟨o_1,h_1,h⟩:=bind_some h
 refine wI (K1:=(fun e st'=>match o_1 with | (.inl q0)=>e=.normal∧Sub 1 st' (mk [] [(0,Vb 3 [Ii c_1])] 1) | (.inr q1)=>e=.ret∧uE prog Go.Proofs.Try.f67 1 [(.var 3 [Ii c_1])] (Ii q1) st')) ?_ ?_
 ·replace h:=h_1
  refine yD (id:=0) (by kernel_rfl) ?_
  refine wk [0] [] [.s 0,.s 1,.s 7,.s 8] [.s 0] [(0,.sl false 2 (Mp zC s_1)),(1,.fn 87 [Pp 0]),(7,Ii (lN (s_1))),(8,Ii 0)] [(0,Vb 3 [Ii c_1])] an ?_
  refine xI (fun n st=>∃ (v_1:Int),st=mk [(0,.sl false 2 (Mp zC s_1)),(1,.fn 87 [Pp 0]),(7,Ii (lN (s_1))),(8,Ii v_1)] [(0,Vb 3 [Ii c_1])] 1∧xU F s_1 c_1 n v_1=some o_1) F (by kernel_rfl) ⟨_,rfl,h⟩ ?_ ?_
  ·rintro _ ⟨_,_,h⟩;exact xN (h:(none:Option (Unit⊕Int))=some o_1)
  rintro n_1 _ ⟨v_1,rfl,h⟩
  replace h:y2 F s_1 c_1 (xU F s_1 c_1 n_1) v_1=some o_1:=h
  unfold y2 at h
  refine sr [] [0,1,7,8,9] [0] 1 [.sl false 2 (Mp zC s_1),.fn 87 [Pp 0],Ii (lN (s_1)),Ii v_1,.bool (decide (v_1<(lN (s_1))))] [Vb 3 [Ii c_1]] zF an ?_
  refine sq ?_
  refine cd 9 (decide (v_1<(lN (s_1)))) ?_ ?_
  rotate_left
  ·intro g_1;replace h:=zQ g_1 h
   refine xM (id:=0) (by kernel_rfl) ?_
   cases h
   exact ⟨rfl,(sw [0] [] [] [.s 0] an)⟩
  intro g_1;replace h:=zR g_1 h
  refine sk ?_
  refine sq ?_
  refine yD (id:=1) (by kernel_rfl) ?_
  refine sr [] [0,1,5,7,8] [0] 1 [.sl false 2 (Mp zC s_1),.fn 87 [Pp 0],Ii v_1,Ii (lN (s_1)),Ii v_1] [Vb 3 [Ii c_1]] zF an ?_
  refine sq ?_
  obtain ⟨x_1,h_2,h⟩:=bind_some h
  obtain ⟨r_1,h_3,h⟩:=bind_some h
  refine rg [(3,{ av:=zC x_1 }),(5,{ av:=.bool r_1,ids:=[0],l:=[zC x_1,Pp 0],post:=[(.var 3 [Ii c_1])],pre:=[(.var 3 [Ii c_1])] })] [0,1,5,7,8,16] [0] 1 [.sl false 2 (Mp zC s_1),.fn 87 [Pp 0],Ii v_1,Ii (lN (s_1)),Ii v_1,.bool r_1] [Vb 3 [Ii c_1]] zF (ac (yR h_2:xJ (Mp zC s_1) v_1=some (zC x_1)) (ar ([zC x_1,Pp 0]:List AV) (ac (rfl:([Vb 3 [Ii c_1]]:List zW)=[Vb 3 [Ii c_1]]) (ac (zGK x_1 c_1 r_1 h_3:zV prog 87 [(.var 3 [Ii c_1])] [] [zC x_1,Pp 0] [(.var 3 [Ii c_1])] (.bool r_1)) an)))) ?_
  refine cd 16 r_1 ?_ ?_
  rotate_left
  ·intro g_2;replace h:=zQ g_2 h
   refine sk ?_
   refine rg [] [0,1,7,8] [0] 1 [.sl false 2 (Mp zC s_1),.fn 87 [Pp 0],Ii (lN (s_1)),Ii (zP (v_1+(1:Int)))] [Vb 3 [Ii c_1]] zF an ?_
   exact ⟨_,(sw [0] [] [.s 0,.s 1,.s 7,.s 8] [.s 0] an),_,rfl,h⟩
  intro g_2;replace h:=zR g_2 h
  refine sr [] [4] [0] 1 [Ii v_1] [Vb 3 [Ii c_1]] zF an ?_
  refine wk [0] [] [.s 4] [.s 0] [(4,Ii v_1)] [(0,Vb 3 [Ii c_1])] an ?_
  refine rt ?_
  cases h
  exact ⟨rfl,Nat.le_of_ble_eq_true rfl,by kernel_rfl⟩
 intro e st1 hk
 rcases o_1 with q_1 | q_2
 rotate_left
 ·obtain ⟨rfl,hf⟩:=hk
  cases h
  exact ⟨st1,Sub.refl _ _,.inr rfl,hf⟩
 obtain ⟨rfl,hs⟩:=hk
 refine ⟨_,hs,?_⟩
 refine sr [] [4] [0] 1 [Ii (-1)] [Vb 3 [Ii c_1]] zF an ?_
 refine wk [0] [] [.s 4] [.s 0] [(4,Ii (-1))] [(0,Vb 3 [Ii c_1])] an ?_
 refine rt ?_
 cases h
 exact ⟨.inr rfl,Nat.le_of_ble_eq_true rfl,by kernel_rfl⟩
theorem zBU (F:Nat) (d_1:List (zU)) (yM:Int) (r:Int) (h:kZ F d_1 yM=some r):zV prog 76 [] [] [.sl false 2 (Mp zC d_1),Ii yM] [] (Ii r):=by
 refine yG (fn:=Go.Proofs.Try.f76) (code:=xC Go.Proofs.Try.f76) (by kernel_rfl) (by kernel_rfl) (Nat.le_of_ble_eq_true (by kernel_rfl)) ?_
 unfold kZ at h
 refine sr [(0,{ id:=0 })] [0,3] [0] 1 [.sl false 2 (Mp zC d_1),Pp 0] [Vb 3 [Ii yM]] zF an ?_
 refine sq ?_
 obtain ⟨r_1,h_1,h⟩:=bind_some h
 refine rg [(2,{ av:=Ii r_1,ids:=[0],l:=[.sl false 2 (Mp zC d_1),.fn 87 [Pp 0]],post:=[(.var 3 [Ii yM])],pre:=[(.var 3 [Ii yM])] })] [4] [] 1 [Ii r_1] [] zF (ar ([.sl false 2 (Mp zC d_1),.fn 87 [Pp 0]]:List AV) (ac (rfl:([Vb 3 [Ii yM]]:List zW)=[Vb 3 [Ii yM]]) (ac (qD F d_1 yM r_1 h_1:zV prog 67 [(.var 3 [Ii yM])] [] [.sl false 2 (Mp zC d_1),.fn 87 [Pp 0]] [(.var 3 [Ii yM])] (Ii r_1)) an))) ?_
 refine rt ?_
 cases h
 exact ⟨.inr rfl,Nat.le_of_ble_eq_true rfl,by kernel_rfl⟩
theorem zGz (F:Nat) (d_1:List (zU)) (r:Int) (h:nQ F d_1=some r):zV prog 65 [] [] [.sl false 2 (Mp zC d_1)] [] (Ii r):=by
 refine yG (fn:=Go.Proofs.Try.f65) (code:=xC Go.Proofs.Try.f65) (by kernel_rfl) (by kernel_rfl) (Nat.le_of_ble_eq_true (by kernel_rfl)) ?_
 unfold nQ at h
 refine sr [] [0] [] 0 [.sl false 2 (Mp zC d_1)] [] zF an ?_
 refine sq ?_
 refine sr [(1,{ n:=(d_1).length })] [0,5,6,7] [] 0 [.sl false 2 (Mp zC d_1),.sl false 2 (Mp zC d_1),Ii (lN (d_1)),Ii 0] [] zF (ac (yF _:((Mp zC d_1)).length=(d_1).length) an) ?_
 obtain ⟨o_1,h_1,h⟩:=bind_some h
 refine wI (K1:=(fun e st'=>match o_1 with | (.inl q0)=>e=.normal∧Sub 0 st' (mk [] [] 0) | (.inr q1)=>e=.ret∧uE prog Go.Proofs.Try.f65 0 [] (Ii q1) st')) ?_ ?_
 ·replace h:=h_1
  refine yD (id:=0) (by kernel_rfl) ?_
  refine wk [] [] [.s 0,.s 5,.s 6,.s 7] [] [(0,.sl false 2 (Mp zC d_1)),(5,.sl false 2 (Mp zC d_1)),(6,Ii (lN (d_1))),(7,Ii 0)] [] an ?_
  refine xI (fun n st=>∃ (v_1:Int),st=mk [(0,.sl false 2 (Mp zC d_1)),(5,.sl false 2 (Mp zC d_1)),(6,Ii (lN (d_1))),(7,Ii v_1)] [] 0∧jT F d_1 n v_1=some o_1) F (by kernel_rfl) ⟨_,rfl,h⟩ ?_ ?_
  ·rintro _ ⟨_,_,h⟩;exact xN (h:(none:Option (Unit⊕Int))=some o_1)
  rintro n_1 _ ⟨v_1,rfl,h⟩
  replace h:v9 F d_1 (jT F d_1 n_1) v_1=some o_1:=h
  unfold v9 at h
  refine sr [] [0,5,6,7,8] [] 0 [.sl false 2 (Mp zC d_1),.sl false 2 (Mp zC d_1),Ii (lN (d_1)),Ii v_1,.bool (decide (v_1<(lN (d_1))))] [] zF an ?_
  refine sq ?_
  refine cd 8 (decide (v_1<(lN (d_1)))) ?_ ?_
  rotate_left
  ·intro g_1;replace h:=zQ g_1 h
   refine xM (id:=0) (by kernel_rfl) ?_
   cases h
   exact ⟨rfl,(sw [] [] [] [] an)⟩
  intro g_1;replace h:=zR g_1 h
  refine sk ?_
  refine sq ?_
  refine yD (id:=1) (by kernel_rfl) ?_
  refine sq ?_
  obtain ⟨x_1,h_2,h⟩:=bind_some h
  refine rg [(1,{ av:=zC x_1 }),(3,{ id:=0 })] [0,3,4,5,6,7] [0] 1 [.sl false 2 (Mp zC d_1),Ii v_1,Pp 0,.sl false 2 (Mp zC d_1),Ii (lN (d_1)),Ii v_1] [Vb 68 (uR x_1)] zF (ac (yR h_2:xJ (Mp zC d_1) v_1=some (zC x_1)) an) ?_
  refine sq ?_
  refine sq ?_
  refine y4 (mk [(0,.sl false 2 (Mp zC d_1)),(3,Ii v_1),(4,Pp 0),(5,.sl false 2 (Mp zC d_1)),(6,Ii (lN (d_1))),(7,Ii v_1),(29,.bool (decide (x_1.Id<(0:Int))||(decide (x_1.Id≥(8:Int))||(decide (x_1.Ppm<(0:Int))||decide (x_1.Ppm>(10000:Int))))))] [(0,Vb 68 (uR x_1))] 1) ?_ ?_
  ·rcases bft (decide (x_1.Id<(0:Int))) with xK | xK
   ·refine rg [(4,Hg),(5,Hg),(6,Hg),(7,Ht),(9,Hg),(10,Hg),(11,Hg),(12,Ht),(14,Hg),(15,Hg),(16,Hg),(17,Ht)] [0,3,4,5,6,7,16,17,18,21,22,23,26,27,28,29] [0] 1 [.sl false 2 (Mp zC d_1),Ii v_1,Pp 0,.sl false 2 (Mp zC d_1),Ii (lN (d_1)),Ii v_1,.tuple [],.tuple [],.tuple [],.tuple [],.tuple [],.tuple [],.tuple [],.tuple [],.tuple [],.bool true] [Vb 68 (uR x_1)] zF (ac xK (ac xK (ac xK (ac xK (ax (ax (ax (ar true (ax (ax (ax (ar true an)))))))))))) ?_
    exact ⟨rfl,(sw [0] [] [.s 0,.s 3,.s 4,.s 5,.s 6,.s 7,.a 29 (.bool (decide (x_1.Id<(0:Int))||(decide (x_1.Id≥(8:Int))||(decide (x_1.Ppm<(0:Int))||decide (x_1.Ppm>(10000:Int))))))] [.s 0] (ac (congrArg AV.bool (ort xK):(.bool true:AV)=.bool (decide (x_1.Id<(0:Int))||(decide (x_1.Id≥(8:Int))||(decide (x_1.Ppm<(0:Int))||decide (x_1.Ppm>(10000:Int)))))) an))⟩
   ·rcases bft (decide (x_1.Id≥(8:Int))) with xO | xO
    ·refine rg [(7,Hf),(9,Hg),(10,Hg),(11,Hg),(12,Ht),(14,Hg),(15,Hg),(16,Hg),(17,Ht)] [0,3,4,5,6,7,16,17,18,21,22,23,26,27,28,29] [0] 1 [.sl false 2 (Mp zC d_1),Ii v_1,Pp 0,.sl false 2 (Mp zC d_1),Ii (lN (d_1)),Ii v_1,Pp 0,Ii x_1.Id,.bool (decide (x_1.Id≥(8:Int))),.tuple [],.tuple [],.tuple [],.tuple [],.tuple [],.tuple [],.bool true] [Vb 68 (uR x_1)] zF (ac xK (ac xK (ac xK (ac xK (ac xO (ac xO (ac xO (ac xO (ax (ax (ax (ar true an)))))))))))) ?_
     exact ⟨rfl,(sw [0] [] [.s 0,.s 3,.s 4,.s 5,.s 6,.s 7,.a 29 (.bool (decide (x_1.Id<(0:Int))||(decide (x_1.Id≥(8:Int))||(decide (x_1.Ppm<(0:Int))||decide (x_1.Ppm>(10000:Int))))))] [.s 0] (ac (congrArg AV.bool (orf xK (ort xO)):(.bool true:AV)=.bool (decide (x_1.Id<(0:Int))||(decide (x_1.Id≥(8:Int))||(decide (x_1.Ppm<(0:Int))||decide (x_1.Ppm>(10000:Int)))))) an))⟩
    ·rcases bft (decide (x_1.Ppm<(0:Int))) with xB | xB
     ·refine rg [(7,Hf),(12,Hf),(14,Hg),(15,Hg),(16,Hg),(17,Ht)] [0,3,4,5,6,7,16,17,18,21,22,23,26,27,28,29] [0] 1 [.sl false 2 (Mp zC d_1),Ii v_1,Pp 0,.sl false 2 (Mp zC d_1),Ii (lN (d_1)),Ii v_1,Pp 0,Ii x_1.Id,.bool (decide (x_1.Id≥(8:Int))),.ptr 0 0 0 1,Ii x_1.Ppm,.bool (decide (x_1.Ppm<(0:Int))),.tuple [],.tuple [],.tuple [],.bool true] [Vb 68 (uR x_1)] zF (ac xK (ac xK (ac xK (ac xK (ac xO (ac xO (ac xO (ac xO (ac xB (ac xB (ac xB (ac xB an)))))))))))) ?_
      exact ⟨rfl,(sw [0] [] [.s 0,.s 3,.s 4,.s 5,.s 6,.s 7,.a 29 (.bool (decide (x_1.Id<(0:Int))||(decide (x_1.Id≥(8:Int))||(decide (x_1.Ppm<(0:Int))||decide (x_1.Ppm>(10000:Int))))))] [.s 0] (ac (congrArg AV.bool (orf xK (orf xO (ort xB))):(.bool true:AV)=.bool (decide (x_1.Id<(0:Int))||(decide (x_1.Id≥(8:Int))||(decide (x_1.Ppm<(0:Int))||decide (x_1.Ppm>(10000:Int)))))) an))⟩
     ·refine rg [(7,Hf),(12,Hf),(17,Hf)] [0,3,4,5,6,7,16,17,18,21,22,23,26,27,28,29] [0] 1 [.sl false 2 (Mp zC d_1),Ii v_1,Pp 0,.sl false 2 (Mp zC d_1),Ii (lN (d_1)),Ii v_1,Pp 0,Ii x_1.Id,.bool (decide (x_1.Id≥(8:Int))),.ptr 0 0 0 1,Ii x_1.Ppm,.bool (decide (x_1.Ppm<(0:Int))),.ptr 0 0 0 1,Ii x_1.Ppm,.bool (decide (x_1.Ppm>(10000:Int))),.bool (decide (x_1.Ppm>(10000:Int)))] [Vb 68 (uR x_1)] zF (ac xK (ac xK (ac xK (ac xK (ac xO (ac xO (ac xO (ac xO (ac xB (ac xB (ac xB (ac xB an)))))))))))) ?_
      exact ⟨rfl,(sw [0] [] [.s 0,.s 3,.s 4,.s 5,.s 6,.s 7,.a 29 (.bool (decide (x_1.Id<(0:Int))||(decide (x_1.Id≥(8:Int))||(decide (x_1.Ppm<(0:Int))||decide (x_1.Ppm>(10000:Int))))))] [.s 0] (ac (congrArg AV.bool (orf xK (orf xO (orf xB rfl))):(.bool (decide (x_1.Ppm>(10000:Int))):AV)=.bool (decide (x_1.Id<(0:Int))||(decide (x_1.Id≥(8:Int))||(decide (x_1.Ppm<(0:Int))||decide (x_1.Ppm>(10000:Int)))))) an))⟩
  refine cd 29 (decide (x_1.Id<(0:Int))||(decide (x_1.Id≥(8:Int))||(decide (x_1.Ppm<(0:Int))||decide (x_1.Ppm>(10000:Int))))) ?_ ?_
  ·intro g_2;replace h:=zR g_2 h
   refine sr [] [2] [] 1 [Ii 2] [] zF an ?_
   refine rt ?_
   cases h
   exact ⟨rfl,Nat.le_of_ble_eq_true rfl,by kernel_rfl⟩
  intro g_2;replace h:=zQ g_2 h
  refine sk ?_
  refine sq ?_
  obtain ⟨_,h_3,h⟩:=bind_some h;replace h_3:=wK h_3
  obtain ⟨r_1,h_4,h⟩:=bind_some h
  refine rg [(2,{ l:=(Mp zC (sub d_1 (0:Int) v_1)) }),(5,{ av:=Ii r_1,l:=[.sl false 2 (Mp zC (sub d_1 (0:Int) v_1)),Ii x_1.Id] })] [0,5,6,7,36] [] 1 [.sl false 2 (Mp zC d_1),.sl false 2 (Mp zC d_1),Ii (lN (d_1)),Ii v_1,.bool (decide (r_1≥(0:Int)))] [] zF (ac (by decide:(0:Int)≤(0:Int)) (ac h_3.1 (ac (zEn h_3.2:v_1≤(lN ((Mp zC d_1)))) (ac (zK6 _ _ _:(Mp zC (sub d_1 (0:Int) v_1))=(((Mp zC d_1)).take (v_1).toNat).drop ((0:Int)).toNat) (ar ([.sl false 2 (Mp zC (sub d_1 (0:Int) v_1)),Ii x_1.Id]:List AV) (ac (rfl:([]:List zW)=[]) (ac (zBU F (sub d_1 (0:Int) v_1) x_1.Id r_1 h_4:zV prog 76 [] [] [.sl false 2 (Mp zC (sub d_1 (0:Int) v_1)),Ii x_1.Id] [] (Ii r_1)) an))))))) ?_
  refine cd 36 (decide (r_1≥(0:Int))) ?_ ?_
  rotate_left
  ·intro g_3;replace h:=zQ g_3 h
   refine sk ?_
   refine rg [] [0,5,6,7] [] 1 [.sl false 2 (Mp zC d_1),.sl false 2 (Mp zC d_1),Ii (lN (d_1)),Ii (zP (v_1+(1:Int)))] [] zF an ?_
   exact ⟨_,(sw [] [] [.s 0,.s 5,.s 6,.s 7] [] an),_,rfl,h⟩
  intro g_3;replace h:=zR g_3 h
  refine sr [] [2] [] 1 [Ii 4] [] zF an ?_
  refine rt ?_
  cases h
  exact ⟨rfl,Nat.le_of_ble_eq_true rfl,by kernel_rfl⟩
 intro e st1 hk
 rcases o_1 with q_1 | q_2
 rotate_left
 ·obtain ⟨rfl,hf⟩:=hk
  cases h
  exact ⟨st1,Sub.refl _ _,.inr rfl,hf⟩
 obtain ⟨rfl,hs⟩:=hk
 refine ⟨_,hs,?_⟩
 refine sr [] [2] [] 0 [Ii 0] [] zF an ?_
 refine rt ?_
 cases h
 exact ⟨.inr rfl,Nat.le_of_ble_eq_true rfl,by kernel_rfl⟩
theorem zBe (n_1:Int) (r:Bool) (h:kA n_1=some r):zV prog 77 [] [] [Ii n_1] [] (.bool r):=by
 refine yG (fn:=Go.Proofs.Try.f77) (code:=xC Go.Proofs.Try.f77) (by kernel_rfl) (by kernel_rfl) (Nat.le_of_ble_eq_true (by kernel_rfl)) ?_
 unfold kA at h
 refine sr [] [0] [] 0 [Ii n_1] [] zF an ?_
 refine sq ?_
 refine y4 (mk [(2,.bool (decide (n_1≥(0:Int))&&decide (n_1≤(1000000000000:Int))))] [] 0) ?_ ?_
 ·rcases bft (decide (n_1≥(0:Int))) with zH | zH
  ·refine rg [(5,Ht)] [2] [] 0 [.bool (decide (n_1≤(1000000000000:Int)))] [] zF (ac zH (ac zH (ac zH an))) ?_
   exact ⟨rfl,(sw [] [] [.a 2 (.bool (decide (n_1≥(0:Int))&&decide (n_1≤(1000000000000:Int))))] [] (ac (congrArg AV.bool (uO zH rfl):(.bool (decide (n_1≤(1000000000000:Int))):AV)=.bool (decide (n_1≥(0:Int))&&decide (n_1≤(1000000000000:Int)))) an))⟩
  ·refine rg [(3,Hg),(4,Hg),(5,Hf)] [2] [] 0 [.bool false] [] zF (ac zH (ac zH (ac zH an))) ?_
   exact ⟨rfl,(sw [] [] [.a 2 (.bool (decide (n_1≥(0:Int))&&decide (n_1≤(1000000000000:Int))))] [] (ac (congrArg AV.bool (j0 zH):(.bool false:AV)=.bool (decide (n_1≥(0:Int))&&decide (n_1≤(1000000000000:Int)))) an))⟩
 refine rt ?_
 cases h
 exact ⟨.inr rfl,Nat.le_of_ble_eq_true rfl,by kernel_rfl⟩
theorem zJm (F:Nat) (d_1:List (zU)) (x_1:xR) (r:Int) (h:zBA F d_1 x_1=some r):zV prog 66 [] [] [.sl false 2 (Mp zC d_1),zK x_1] [] (Ii r):=by
 refine yG (fn:=Go.Proofs.Try.f66) (code:=xC Go.Proofs.Try.f66) (by kernel_rfl) (by kernel_rfl) (Nat.le_of_ble_eq_true (by kernel_rfl)) ?_
 unfold zBA at h
 refine sr [(0,{ id:=0 })] [0,3] [0] 1 [.sl false 2 (Mp zC d_1),Pp 0] [Vb 86 (vE x_1)] zF an ?_
 refine sq ?_
 refine yD (id:=0) (by kernel_rfl) ?_
 refine sq ?_
 refine sq ?_
 obtain ⟨r_1,h_1,h⟩:=bind_some h
 refine rg [(3,{ av:=Ii r_1,l:=[.sl false 2 (Mp zC d_1),Ii x_1.A] })] [0,3,5] [0] 1 [.sl false 2 (Mp zC d_1),Pp 0,.bool (decide (r_1<(0:Int)))] [Vb 86 (vE x_1)] zF (ar ([.sl false 2 (Mp zC d_1),Ii x_1.A]:List AV) (ac (rfl:([]:List zW)=[]) (ac (zBU F d_1 x_1.A r_1 h_1:zV prog 76 [] [] [.sl false 2 (Mp zC d_1),Ii x_1.A] [] (Ii r_1)) an))) ?_
 obtain ⟨o_1,h_2,h⟩:=bind_some h
 refine y4 (mk [(3,Pp 0),(5,.bool o_1)] [(0,Vb 86 (vE x_1))] 1) ?_ ?_
 ·replace h:=h_2
  refine cd 5 (decide (r_1<(0:Int))) ?_ ?_
  ·intro g_1;replace h:=zR g_1 h
   refine sk ?_
   cases h
   exact ⟨rfl,(sw [0] [] [.s 3,.s 5] [.s 0] an)⟩
  intro g_1;replace h:=zQ g_1 h
  obtain ⟨r_2,h_3,h⟩:=bind_some h
  refine rg [(3,{ av:=Ii r_2,l:=[.sl false 2 (Mp zC d_1),Ii x_1.B] })] [3,5] [0] 1 [Pp 0,.bool (decide (r_2<(0:Int)))] [Vb 86 (vE x_1)] zF (ar ([.sl false 2 (Mp zC d_1),Ii x_1.B]:List AV) (ac (rfl:([]:List zW)=[]) (ac (zBU F d_1 x_1.B r_2 h_3:zV prog 76 [] [] [.sl false 2 (Mp zC d_1),Ii x_1.B] [] (Ii r_2)) an))) ?_
  cases h
  exact ⟨rfl,(sw [0] [] [.s 3,.s 5] [.s 0] an)⟩
 refine cd 5 o_1 ?_ ?_
 ·intro g_2;replace h:=zR g_2 h
  refine sr [] [4] [] 1 [Ii 5] [] zF an ?_
  refine rt ?_
  cases h
  exact ⟨.inr rfl,Nat.le_of_ble_eq_true rfl,by kernel_rfl⟩
 intro g_2;replace h:=zQ g_2 h
 refine sr [] [3,16] [0] 1 [Pp 0,.bool (x_1.A==x_1.B)] [Vb 86 (vE x_1)] zF an ?_
 refine cd 16 (x_1.A==x_1.B) ?_ ?_
 ·intro g_3;replace h:=zR g_3 h
  refine sr [] [4] [] 1 [Ii 1] [] zF an ?_
  refine rt ?_
  cases h
  exact ⟨.inr rfl,Nat.le_of_ble_eq_true rfl,by kernel_rfl⟩
 intro g_3;replace h:=zQ g_3 h
 refine sq ?_
 refine sq ?_
 obtain ⟨r_3,h_4,h⟩:=bind_some h
 refine rg [(2,{ av:=.bool r_3,l:=[Ii x_1.AtA] })] [3,22] [0] 1 [Pp 0,.bool (!r_3)] [Vb 86 (vE x_1)] zF (ar ([Ii x_1.AtA]:List AV) (ac (rfl:([]:List zW)=[]) (ac (zBe x_1.AtA r_3 h_4:zV prog 77 [] [] [Ii x_1.AtA] [] (.bool r_3)) an))) ?_
 refine cd 22 (!r_3) ?_ ?_
 ·intro g_4;replace h:=zR g_4 h
  refine sk ?_
  refine cd 22 (!r_3) ?_ ?_
  rotate_left
  ·intro hg;exact Bool.noConfusion ((g_4).symm.trans hg)
  intro _
  refine sr [] [4] [] 1 [Ii 2] [] zF an ?_
  refine rt ?_
  cases h
  exact ⟨.inr rfl,Nat.le_of_ble_eq_true rfl,by kernel_rfl⟩
 intro g_4;replace h:=zQ g_4 h
 refine sq ?_
 obtain ⟨r_4,h_5,h⟩:=bind_some h
 refine rg [(3,{ av:=.bool r_4,l:=[Ii x_1.AtB.Lo] })] [3,22] [0] 1 [Pp 0,.bool (!r_4)] [Vb 86 (vE x_1)] zF (ar ([Ii x_1.AtB.Lo]:List AV) (ac (rfl:([]:List zW)=[]) (ac (zBe x_1.AtB.Lo r_4 h_5:zV prog 77 [] [] [Ii x_1.AtB.Lo] [] (.bool r_4)) an))) ?_
 refine cd 22 (!r_4) ?_ ?_
 ·intro g_5;replace h:=zR g_5 h
  refine sk ?_
  refine cd 22 (!r_4) ?_ ?_
  rotate_left
  ·intro hg;exact Bool.noConfusion ((g_5).symm.trans hg)
  intro _
  refine sr [] [4] [] 1 [Ii 2] [] zF an ?_
  refine rt ?_
  cases h
  exact ⟨.inr rfl,Nat.le_of_ble_eq_true rfl,by kernel_rfl⟩
 intro g_5;replace h:=zQ g_5 h
 refine sq ?_
 obtain ⟨r_5,h_6,h⟩:=bind_some h
 refine rg [(3,{ av:=.bool r_5,l:=[Ii x_1.AtB.Hi] })] [3,22] [0] 1 [Pp 0,.bool (!r_5)] [Vb 86 (vE x_1)] zF (ar ([Ii x_1.AtB.Hi]:List AV) (ac (rfl:([]:List zW)=[]) (ac (zBe x_1.AtB.Hi r_5 h_6:zV prog 77 [] [] [Ii x_1.AtB.Hi] [] (.bool r_5)) an))) ?_
 refine cd 22 (!r_5) ?_ ?_
 ·intro g_6;replace h:=zR g_6 h
  refine sk ?_
  refine cd 22 (!r_5) ?_ ?_
  rotate_left
  ·intro hg;exact Bool.noConfusion ((g_6).symm.trans hg)
  intro _
  refine sr [] [4] [] 1 [Ii 2] [] zF an ?_
  refine rt ?_
  cases h
  exact ⟨.inr rfl,Nat.le_of_ble_eq_true rfl,by kernel_rfl⟩
 intro g_6;replace h:=zQ g_6 h
 refine rg [] [22] [] 1 [.bool (decide (x_1.AtB.Lo>x_1.AtB.Hi))] [] zF an ?_
 refine cd 22 (decide (x_1.AtB.Lo>x_1.AtB.Hi)) ?_ ?_
 ·intro g_7;replace h:=zR g_7 h
  refine sr [] [4] [] 1 [Ii 2] [] zF an ?_
  refine rt ?_
  cases h
  exact ⟨.inr rfl,Nat.le_of_ble_eq_true rfl,by kernel_rfl⟩
 intro g_7;replace h:=zQ g_7 h
 refine sk ?_
 refine sr [] [4] [] 1 [Ii 0] [] zF an ?_
 refine rt ?_
 cases h
 exact ⟨.inr rfl,Nat.le_of_ble_eq_true rfl,by kernel_rfl⟩
theorem zH8 (F:Nat) (d_1:List (zU)) (l_1:List (xR)) (r:Int) (h:zAZ F d_1 l_1=some r):zV prog 48 [] [] [.sl false 2 (Mp zC d_1),.sl false 5 (Mp zK l_1)] [] (Ii r):=by
 refine yG (fn:=Go.Proofs.Try.f48) (code:=xC Go.Proofs.Try.f48) (by kernel_rfl) (by kernel_rfl) (Nat.le_of_ble_eq_true (by kernel_rfl)) ?_
 unfold zAZ at h
 refine sr [] [0,1] [] 0 [.sl false 2 (Mp zC d_1),.sl false 5 (Mp zK l_1)] [] zF an ?_
 refine sq ?_
 refine sr [(1,{ n:=(d_1).length })] [0,1,11] [] 0 [.sl false 2 (Mp zC d_1),.sl false 5 (Mp zK l_1),.bool ((lN (d_1))==(0:Int))] [] zF (ac (yF _:((Mp zC d_1)).length=(d_1).length) an) ?_
 refine cd 11 ((lN (d_1))==(0:Int)) ?_ ?_
 ·intro g_1;replace h:=zR g_1 h
  refine sr [] [4] [] 0 [Ii 8] [] zF an ?_
  refine rt ?_
  cases h
  exact ⟨.inr rfl,Nat.le_of_ble_eq_true rfl,by kernel_rfl⟩
 intro g_1;replace h:=zQ g_1 h
 refine sk ?_
 refine sq ?_
 refine sq ?_
 refine y4 (mk [(0,.sl false 2 (Mp zC d_1)),(1,.sl false 5 (Mp zK l_1)),(19,.bool (decide ((lN (d_1))>(8:Int))||decide ((lN (l_1))>(200:Int))))] [] 0) ?_ ?_
 ·rcases bft (decide ((lN (d_1))>(8:Int))) with zH | zH
  ·refine rg [(1,{ n:=(d_1).length }),(4,Hg),(5,Hg),(6,Hg),(7,Ht)] [0,1,19] [] 0 [.sl false 2 (Mp zC d_1),.sl false 5 (Mp zK l_1),.bool true] [] zF (ac (yF _:((Mp zC d_1)).length=(d_1).length) (ac zH (ac zH (ac zH (ac zH an))))) ?_
   exact ⟨rfl,(sw [] [] [.s 0,.s 1,.a 19 (.bool (decide ((lN (d_1))>(8:Int))||decide ((lN (l_1))>(200:Int))))] [] (ac (congrArg AV.bool (ort zH):(.bool true:AV)=.bool (decide ((lN (d_1))>(8:Int))||decide ((lN (l_1))>(200:Int)))) an))⟩
  ·refine rg [(1,{ n:=(d_1).length }),(5,{ n:=(l_1).length }),(7,Hf)] [0,1,19] [] 0 [.sl false 2 (Mp zC d_1),.sl false 5 (Mp zK l_1),.bool (decide ((lN (l_1))>(200:Int)))] [] zF (ac (yF _:((Mp zC d_1)).length=(d_1).length) (ac zH (ac zH (ac (yF _:((Mp zK l_1)).length=(l_1).length) (ac zH (ac zH an)))))) ?_
   exact ⟨rfl,(sw [] [] [.s 0,.s 1,.a 19 (.bool (decide ((lN (d_1))>(8:Int))||decide ((lN (l_1))>(200:Int))))] [] (ac (congrArg AV.bool (orf zH rfl):(.bool (decide ((lN (l_1))>(200:Int))):AV)=.bool (decide ((lN (d_1))>(8:Int))||decide ((lN (l_1))>(200:Int)))) an))⟩
 refine cd 19 (decide ((lN (d_1))>(8:Int))||decide ((lN (l_1))>(200:Int))) ?_ ?_
 ·intro g_2;replace h:=zR g_2 h
  refine sr [] [4] [] 0 [Ii 7] [] zF an ?_
  refine rt ?_
  cases h
  exact ⟨.inr rfl,Nat.le_of_ble_eq_true rfl,by kernel_rfl⟩
 intro g_2;replace h:=zQ g_2 h
 refine sk ?_
 refine sq ?_
 refine sq ?_
 obtain ⟨x_1,h_1,h⟩:=bind_some h
 refine rg [(1,{ av:=zC x_1 }),(4,{ b:=(decide (x_1=(⟨(0:Int),(0:Int)⟩:zU))),mks:=[.int .i64,.int .i64] })] [0,1,24] [] 0 [.sl false 2 (Mp zC d_1),.sl false 5 (Mp zK l_1),.bool (!(decide (x_1=(⟨(0:Int),(0:Int)⟩:zU))))] [] zF (ac (yR h_1:xJ (Mp zC d_1) (0:Int)=some (zC x_1)) (ac (zIh:jG prog 68 [.int .i64,.int .i64]) (ac (kC (f:=zC) zBb x_1 (⟨(0:Int),(0:Int)⟩:zU):((decide (x_1=(⟨(0:Int),(0:Int)⟩:zU)))=true↔AV.agg [Ii x_1.Id,Ii x_1.Ppm]=AV.agg [Ii 0,Ii 0])) an))) ?_
 refine cd 24 (!(decide (x_1=(⟨(0:Int),(0:Int)⟩:zU)))) ?_ ?_
 ·intro g_3;replace h:=zR g_3 h
  refine sr [] [4] [] 0 [Ii 10] [] zF an ?_
  refine rt ?_
  cases h
  exact ⟨.inr rfl,Nat.le_of_ble_eq_true rfl,by kernel_rfl⟩
 intro g_3;replace h:=zQ g_3 h
 refine sk ?_
 refine sq ?_
 refine sq ?_
 obtain ⟨r_1,h_2,h⟩:=bind_some h
 refine rg [(1,{ av:=Ii r_1,l:=[.sl false 2 (Mp zC d_1)] })] [0,1,5] [] 0 [.sl false 2 (Mp zC d_1),.sl false 5 (Mp zK l_1),Ii r_1] [] zF (ar ([.sl false 2 (Mp zC d_1)]:List AV) (ac (rfl:([]:List zW)=[]) (ac (zGz F d_1 r_1 h_2:zV prog 65 [] [] [.sl false 2 (Mp zC d_1)] [] (Ii r_1)) an))) ?_
 refine sr [] [0,1,5,28] [] 0 [.sl false 2 (Mp zC d_1),.sl false 5 (Mp zK l_1),Ii r_1,.bool (r_1 != (0:Int))] [] zF an ?_
 refine cd 28 (r_1 != (0:Int)) ?_ ?_
 ·intro g_4;replace h:=zR g_4 h
  refine sr [] [4] [] 0 [Ii r_1] [] zF an ?_
  refine rt ?_
  cases h
  exact ⟨.inr rfl,Nat.le_of_ble_eq_true rfl,by kernel_rfl⟩
 intro g_4;replace h:=zQ g_4 h
 refine sk ?_
 refine sq ?_
 refine sr [(1,{ n:=(l_1).length })] [0,30,31,32] [] 0 [.sl false 2 (Mp zC d_1),.sl false 5 (Mp zK l_1),Ii (lN (l_1)),Ii 0] [] zF (ac (yF _:((Mp zK l_1)).length=(l_1).length) an) ?_
 obtain ⟨o_1,h_3,h⟩:=bind_some h
 refine wI (K1:=(fun e st'=>match o_1 with | (.inl q0)=>e=.normal∧Sub 0 st' (mk [] [] 0) | (.inr q1)=>e=.ret∧uE prog Go.Proofs.Try.f48 0 [] (Ii q1) st')) ?_ ?_
 ·replace h:=h_3
  refine yD (id:=0) (by kernel_rfl) ?_
  refine wk [] [] [.s 0,.s 30,.s 31,.s 32] [] [(0,.sl false 2 (Mp zC d_1)),(30,.sl false 5 (Mp zK l_1)),(31,Ii (lN (l_1))),(32,Ii 0)] [] an ?_
  refine xI (fun n st=>∃ (v_1:Int),st=mk [(0,.sl false 2 (Mp zC d_1)),(30,.sl false 5 (Mp zK l_1)),(31,Ii (lN (l_1))),(32,Ii v_1)] [] 0∧pD F d_1 l_1 n v_1=some o_1) F (by kernel_rfl) ⟨_,rfl,h⟩ ?_ ?_
  ·rintro _ ⟨_,_,h⟩;exact xN (h:(none:Option (Unit⊕Int))=some o_1)
  rintro n_1 _ ⟨v_1,rfl,h⟩
  replace h:uV F d_1 l_1 (pD F d_1 l_1 n_1) v_1=some o_1:=h
  unfold uV at h
  refine sr [] [0,30,31,32,33] [] 0 [.sl false 2 (Mp zC d_1),.sl false 5 (Mp zK l_1),Ii (lN (l_1)),Ii v_1,.bool (decide (v_1<(lN (l_1))))] [] zF an ?_
  refine sq ?_
  refine cd 33 (decide (v_1<(lN (l_1)))) ?_ ?_
  rotate_left
  ·intro g_5;replace h:=zQ g_5 h
   refine xM (id:=0) (by kernel_rfl) ?_
   cases h
   exact ⟨rfl,(sw [] [] [] [] an)⟩
  intro g_5;replace h:=zR g_5 h
  refine sk ?_
  refine sq ?_
  refine yD (id:=1) (by kernel_rfl) ?_
  refine sq ?_
  obtain ⟨x_2,h_4,h⟩:=bind_some h
  refine rg [(0,{ av:=zK x_2 }),(2,{ id:=0 })] [0,7,30,31,32] [0] 1 [.sl false 2 (Mp zC d_1),Pp 0,.sl false 5 (Mp zK l_1),Ii (lN (l_1)),Ii v_1] [Vb 86 (vE x_2)] zF (ac (yR h_4:xJ (Mp zK l_1) v_1=some (zK x_2)) an) ?_
  refine sq ?_
  obtain ⟨r_2,h_5,h⟩:=bind_some h
  refine rg [(2,{ av:=Ii r_2,l:=[.sl false 2 (Mp zC d_1),zK x_2] })] [0,8,30,31,32] [] 1 [.sl false 2 (Mp zC d_1),Ii r_2,.sl false 5 (Mp zK l_1),Ii (lN (l_1)),Ii v_1] [] zF (ar ([.sl false 2 (Mp zC d_1),zK x_2]:List AV) (ac (rfl:([]:List zW)=[]) (ac (zJm F d_1 x_2 r_2 h_5:zV prog 66 [] [] [.sl false 2 (Mp zC d_1),zK x_2] [] (Ii r_2)) an))) ?_
  refine sr [] [0,8,30,31,32,40] [] 1 [.sl false 2 (Mp zC d_1),Ii r_2,.sl false 5 (Mp zK l_1),Ii (lN (l_1)),Ii v_1,.bool (r_2 != (0:Int))] [] zF an ?_
  refine cd 40 (r_2 != (0:Int)) ?_ ?_
  rotate_left
  ·intro g_6;replace h:=zQ g_6 h
   refine sk ?_
   refine rg [] [0,30,31,32] [] 1 [.sl false 2 (Mp zC d_1),.sl false 5 (Mp zK l_1),Ii (lN (l_1)),Ii (zP (v_1+(1:Int)))] [] zF an ?_
   exact ⟨_,(sw [] [] [.s 0,.s 30,.s 31,.s 32] [] an),_,rfl,h⟩
  intro g_6;replace h:=zR g_6 h
  refine sr [] [4] [] 1 [Ii r_2] [] zF an ?_
  refine rt ?_
  cases h
  exact ⟨rfl,Nat.le_of_ble_eq_true rfl,by kernel_rfl⟩
 intro e st1 hk
 rcases o_1 with q_1 | q_2
 rotate_left
 ·obtain ⟨rfl,hf⟩:=hk
  cases h
  exact ⟨st1,Sub.refl _ _,.inr rfl,hf⟩
 obtain ⟨rfl,hs⟩:=hk
 refine ⟨_,hs,?_⟩
 refine sr [] [4] [] 0 [Ii 0] [] zF an ?_
 refine rt ?_
 cases h
 exact ⟨.inr rfl,Nat.le_of_ble_eq_true rfl,by kernel_rfl⟩
theorem zIb (d_1:zU) (a_1:z0) (r:Bool) (h:zCe d_1 a_1=some r):zV prog 50 [(.var 66 (yI a_1))] [] [zC d_1,Pp 0] [(.var 66 (yI a_1))] (.bool r):=by
 refine yG (fn:=Go.Proofs.Try.f50) (code:=xC Go.Proofs.Try.f50) (by kernel_rfl) (by kernel_rfl) (Nat.le_of_ble_eq_true (by kernel_rfl)) ?_
 unfold zCe at h
 refine sr [(0,{ id:=1 })] [1,2] [0,1] 2 [Pp 0,Pp 1] [Vb 66 (yI a_1),Vb 68 (uR d_1)] zF an ?_
 refine sr [] [3] [0] 2 [.bool (d_1.Id==a_1.Domain)] [Vb 66 (yI a_1)] zF an ?_
 refine wk [0] [] [.s 3] [.s 0] [(3,.bool (d_1.Id==a_1.Domain))] [(0,Vb 66 (yI a_1))] an ?_
 refine rt ?_
 cases h
 exact ⟨.inr rfl,Nat.le_of_ble_eq_true rfl,by kernel_rfl⟩
theorem t6 (F:Nat) (s_1:List (zU)) (c_1:z0) (r:Int) (h:xV F s_1 c_1=some r):zV prog 67 [(.var 66 (yI c_1))] [] [.sl false 2 (Mp zC s_1),.fn 50 [Pp 0]] [(.var 66 (yI c_1))] (Ii r):=by
 refine yG (fn:=Go.Proofs.Try.f67) (code:=xC Go.Proofs.Try.f67) (by kernel_rfl) (by kernel_rfl) (Nat.le_of_ble_eq_true (by kernel_rfl)) ?_
 unfold xV at h
 refine sr [] [0,1] [0] 1 [.sl false 2 (Mp zC s_1),.fn 50 [Pp 0]] [Vb 66 (yI c_1)] zF an ?_
 refine sq ?_
 refine sr [(1,{ n:=(s_1).length })] [0,1,7,8] [0] 1 [.sl false 2 (Mp zC s_1),.fn 50 [Pp 0],Ii (lN (s_1)),Ii 0] [Vb 66 (yI c_1)] zF (ac (yF _:((Mp zC s_1)).length=(s_1).length) an) ?_
 obtain ⟨o_1,h_1,h⟩:=bind_some h
 refine wI (K1:=(fun e st'=>match o_1 with | (.inl q0)=>e=.normal∧Sub 1 st' (mk [] [(0,Vb 66 (yI c_1))] 1) | (.inr q1)=>e=.ret∧uE prog Go.Proofs.Try.f67 1 [(.var 66 (yI c_1))] (Ii q1) st')) ?_ ?_
 ·replace h:=h_1
  refine yD (id:=0) (by kernel_rfl) ?_
  refine wk [0] [] [.s 0,.s 1,.s 7,.s 8] [.s 0] [(0,.sl false 2 (Mp zC s_1)),(1,.fn 50 [Pp 0]),(7,Ii (lN (s_1))),(8,Ii 0)] [(0,Vb 66 (yI c_1))] an ?_
  refine xI (fun n st=>∃ (v_1:Int),st=mk [(0,.sl false 2 (Mp zC s_1)),(1,.fn 50 [Pp 0]),(7,Ii (lN (s_1))),(8,Ii v_1)] [(0,Vb 66 (yI c_1))] 1∧xP F s_1 c_1 n v_1=some o_1) F (by kernel_rfl) ⟨_,rfl,h⟩ ?_ ?_
  ·rintro _ ⟨_,_,h⟩;exact xN (h:(none:Option (Unit⊕Int))=some o_1)
  rintro n_1 _ ⟨v_1,rfl,h⟩
  replace h:y0 F s_1 c_1 (xP F s_1 c_1 n_1) v_1=some o_1:=h
  unfold y0 at h
  refine sr [] [0,1,7,8,9] [0] 1 [.sl false 2 (Mp zC s_1),.fn 50 [Pp 0],Ii (lN (s_1)),Ii v_1,.bool (decide (v_1<(lN (s_1))))] [Vb 66 (yI c_1)] zF an ?_
  refine sq ?_
  refine cd 9 (decide (v_1<(lN (s_1)))) ?_ ?_
  rotate_left
  ·intro g_1;replace h:=zQ g_1 h
   refine xM (id:=0) (by kernel_rfl) ?_
   cases h
   exact ⟨rfl,(sw [0] [] [] [.s 0] an)⟩
  intro g_1;replace h:=zR g_1 h
  refine sk ?_
  refine sq ?_
  refine yD (id:=1) (by kernel_rfl) ?_
  refine sr [] [0,1,5,7,8] [0] 1 [.sl false 2 (Mp zC s_1),.fn 50 [Pp 0],Ii v_1,Ii (lN (s_1)),Ii v_1] [Vb 66 (yI c_1)] zF an ?_
  refine sq ?_
  obtain ⟨x_1,h_2,h⟩:=bind_some h
  obtain ⟨r_1,h_3,h⟩:=bind_some h
  refine rg [(3,{ av:=zC x_1 }),(5,{ av:=.bool r_1,ids:=[0],l:=[zC x_1,Pp 0],post:=[(.var 66 (yI c_1))],pre:=[(.var 66 (yI c_1))] })] [0,1,5,7,8,16] [0] 1 [.sl false 2 (Mp zC s_1),.fn 50 [Pp 0],Ii v_1,Ii (lN (s_1)),Ii v_1,.bool r_1] [Vb 66 (yI c_1)] zF (ac (yR h_2:xJ (Mp zC s_1) v_1=some (zC x_1)) (ar ([zC x_1,Pp 0]:List AV) (ac (rfl:([Vb 66 (yI c_1)]:List zW)=[Vb 66 (yI c_1)]) (ac (zIb x_1 c_1 r_1 h_3:zV prog 50 [(.var 66 (yI c_1))] [] [zC x_1,Pp 0] [(.var 66 (yI c_1))] (.bool r_1)) an)))) ?_
  refine cd 16 r_1 ?_ ?_
  rotate_left
  ·intro g_2;replace h:=zQ g_2 h
   refine sk ?_
   refine rg [] [0,1,7,8] [0] 1 [.sl false 2 (Mp zC s_1),.fn 50 [Pp 0],Ii (lN (s_1)),Ii (zP (v_1+(1:Int)))] [Vb 66 (yI c_1)] zF an ?_
   exact ⟨_,(sw [0] [] [.s 0,.s 1,.s 7,.s 8] [.s 0] an),_,rfl,h⟩
  intro g_2;replace h:=zR g_2 h
  refine sr [] [4] [0] 1 [Ii v_1] [Vb 66 (yI c_1)] zF an ?_
  refine wk [0] [] [.s 4] [.s 0] [(4,Ii v_1)] [(0,Vb 66 (yI c_1))] an ?_
  refine rt ?_
  cases h
  exact ⟨rfl,Nat.le_of_ble_eq_true rfl,by kernel_rfl⟩
 intro e st1 hk
 rcases o_1 with q_1 | q_2
 rotate_left
 ·obtain ⟨rfl,hf⟩:=hk
  cases h
  exact ⟨st1,Sub.refl _ _,.inr rfl,hf⟩
 obtain ⟨rfl,hs⟩:=hk
 refine ⟨_,hs,?_⟩
 refine sr [] [4] [0] 1 [Ii (-1)] [Vb 66 (yI c_1)] zF an ?_
 refine wk [0] [] [.s 4] [.s 0] [(4,Ii (-1))] [(0,Vb 66 (yI c_1))] an ?_
 refine rt ?_
 cases h
 exact ⟨.inr rfl,Nat.le_of_ble_eq_true rfl,by kernel_rfl⟩
theorem tY (F:Nat) (s_1:List (zU)) (c_1:z0) (r:Bool) (h:wF F s_1 c_1=some r):zV prog 49 [(.var 66 (yI c_1))] [] [.sl false 2 (Mp zC s_1),.fn 50 [Pp 0]] [(.var 66 (yI c_1))] (.bool r):=by
 refine yG (fn:=Go.Proofs.Try.f49) (code:=xC Go.Proofs.Try.f49) (by kernel_rfl) (by kernel_rfl) (Nat.le_of_ble_eq_true (by kernel_rfl)) ?_
 unfold wF at h
 refine sr [] [0,1] [0] 1 [.sl false 2 (Mp zC s_1),.fn 50 [Pp 0]] [Vb 66 (yI c_1)] zF an ?_
 refine sq ?_
 obtain ⟨r_1,h_1,h⟩:=bind_some h
 refine rg [(2,{ av:=Ii r_1,ids:=[0],l:=[.sl false 2 (Mp zC s_1),.fn 50 [Pp 0]],post:=[(.var 66 (yI c_1))],pre:=[(.var 66 (yI c_1))] })] [4] [0] 1 [.bool (decide (r_1≥(0:Int)))] [Vb 66 (yI c_1)] zF (ar ([.sl false 2 (Mp zC s_1),.fn 50 [Pp 0]]:List AV) (ac (rfl:([Vb 66 (yI c_1)]:List zW)=[Vb 66 (yI c_1)]) (ac (t6 F s_1 c_1 r_1 h_1:zV prog 67 [(.var 66 (yI c_1))] [] [.sl false 2 (Mp zC s_1),.fn 50 [Pp 0]] [(.var 66 (yI c_1))] (Ii r_1)) an))) ?_
 refine wk [0] [] [.s 4] [.s 0] [(4,.bool (decide (r_1≥(0:Int))))] [(0,Vb 66 (yI c_1))] an ?_
 refine rt ?_
 cases h
 exact ⟨.inr rfl,Nat.le_of_ble_eq_true rfl,by kernel_rfl⟩
theorem zJS (F:Nat) (h_1:zL) (r:Int) (h:zCs F h_1=some r):zV prog 27 [] [] [yU h_1] [] (Ii r):=by
 refine yG (fn:=Go.Proofs.Try.f27) (code:=xC Go.Proofs.Try.f27) (by kernel_rfl) (by kernel_rfl) (Nat.le_of_ble_eq_true (by kernel_rfl)) ?_
 unfold zCs at h
 refine sr [(0,{ id:=0 })] [1] [0] 1 [Pp 0] [Vb 26 (zN h_1)] zF an ?_
 refine sq ?_
 refine yD (id:=0) (by kernel_rfl) ?_
 refine sr [(2,{ n:=(h_1.Threads).length })] [1,10] [0] 1 [Pp 0,.bool ((lN (h_1.Threads))==(0:Int))] [Vb 26 (zN h_1)] zF (ac (yF _:((Mp zG h_1.Threads)).length=(h_1.Threads).length) an) ?_
 refine cd 10 ((lN (h_1.Threads))==(0:Int)) ?_ ?_
 ·intro g_1;replace h:=zR g_1 h
  refine sr [] [2] [] 1 [Ii 8] [] zF an ?_
  refine rt ?_
  cases h
  exact ⟨.inr rfl,Nat.le_of_ble_eq_true rfl,by kernel_rfl⟩
 intro g_1;replace h:=zQ g_1 h
 refine sr [(2,{ n:=(h_1.Threads).length })] [1,15] [0] 1 [Pp 0,.bool (decide ((lN (h_1.Threads))>(64:Int)))] [Vb 26 (zN h_1)] zF (ac (yF _:((Mp zG h_1.Threads)).length=(h_1.Threads).length) an) ?_
 refine cd 15 (decide ((lN (h_1.Threads))>(64:Int))) ?_ ?_
 ·intro g_2;replace h:=zR g_2 h
  refine sr [] [2] [] 1 [Ii 7] [] zF an ?_
  refine rt ?_
  cases h
  exact ⟨.inr rfl,Nat.le_of_ble_eq_true rfl,by kernel_rfl⟩
 intro g_2;replace h:=zQ g_2 h
 refine sk ?_
 refine sr [(0,{ id:=1,mag:=false,mks:=[.int .i64] })] [1,3] [0,1] 2 [Pp 0,.mp 1] [Vb 26 (zN h_1),.live (.map false [.int .i64] [])] zF an ?_
 refine sq ?_
 refine sr [(2,{ n:=(h_1.Threads).length })] [1,3,22,23,24] [0,1] 2 [Pp 0,.mp 1,.sl false 3 (Mp zG h_1.Threads),Ii (lN (h_1.Threads)),Ii 0] [Vb 26 (zN h_1),.live (.map false [.int .i64] [])] zF (ac (yF _:((Mp zG h_1.Threads)).length=(h_1.Threads).length) an) ?_
 obtain ⟨o_1,h_2,h⟩:=bind_some h
 refine wI (K1:=(fun e st'=>match o_1 with | (.inl q0)=>e=.normal∧Sub 0 st' (mk [(1,Pp 0)] [(0,Vb 26 (zN h_1))] 1) | (.inr q1)=>e=.ret∧uE prog Go.Proofs.Try.f27 0 [] (Ii q1) st')) ?_ ?_
 ·replace h:=h_2
  refine yD (id:=1) (by kernel_rfl) ?_
  refine wk [0,1] [] [.s 1,.s 3,.s 22,.s 23,.s 24] [.s 0,.s 1] [(1,Pp 0),(3,.mp 1),(22,.sl false 3 (Mp zG h_1.Threads)),(23,Ii (lN (h_1.Threads))),(24,Ii 0)] [(0,Vb 26 (zN h_1)),(1,.live (.map false [.int .i64] []))] an ?_
  refine xI (fun n st=>∃ (v_1:Int),∃ (zE:List (Int×Bool)),st=mk [(1,Pp 0),(3,.mp 1),(22,.sl false 3 (Mp zG h_1.Threads)),(23,Ii (lN (h_1.Threads))),(24,Ii v_1)] [(0,Vb 26 (zN h_1)),(1,.live (.map false [.int .i64] (List.map (mpE (AV.int .i64) AV.bool) zE)))] 2∧pM F h_1 n v_1 zE=some o_1) F (by kernel_rfl) ⟨_,_,rfl,h⟩ ?_ ?_
  ·rintro _ ⟨_,_,_,h⟩;exact xN (h:(none:Option (Unit⊕Int))=some o_1)
  rintro n_1 _ ⟨v_1,zE,rfl,h⟩
  replace h:jO F h_1 (pM F h_1 n_1) v_1 zE=some o_1:=h
  unfold jO at h
  refine sr [] [1,3,22,23,24,25] [0,1] 2 [Pp 0,.mp 1,.sl false 3 (Mp zG h_1.Threads),Ii (lN (h_1.Threads)),Ii v_1,.bool (decide (v_1<(lN (h_1.Threads))))] [Vb 26 (zN h_1),.live (.map false [.int .i64] (List.map (mpE (AV.int .i64) AV.bool) zE))] zF an ?_
  refine sq ?_
  refine cd 25 (decide (v_1<(lN (h_1.Threads)))) ?_ ?_
  rotate_left
  ·intro g_3;replace h:=zQ g_3 h
   refine xM (id:=1) (by kernel_rfl) ?_
   cases h
   exact ⟨rfl,(sw [0] [] [.s 1] [.s 0] an)⟩
  intro g_3;replace h:=zR g_3 h
  refine sk ?_
  refine sq ?_
  refine yD (id:=2) (by kernel_rfl) ?_
  refine sq ?_
  obtain ⟨x_1,h_3,h⟩:=bind_some h
  refine rg [(0,{ av:=zG x_1 }),(2,{ id:=2 })] [1,3,5,22,23,24] [0,1,2] 3 [Pp 0,.mp 1,Pp 2,.sl false 3 (Mp zG h_1.Threads),Ii (lN (h_1.Threads)),Ii v_1] [Vb 26 (zN h_1),.live (.map false [.int .i64] (List.map (mpE (AV.int .i64) AV.bool) zE)),Vb 66 (yI x_1)] zF (ac (yR h_3:xJ (Mp zG h_1.Threads) v_1=some (zG x_1)) an) ?_
  refine sq ?_
  refine sq ?_
  obtain ⟨r_1,h_4,h⟩:=bind_some h
  refine rg [(1,{ av:=Ii r_1,l:=[zG x_1] })] [1,3,5,6,22,23,24] [0,1,2] 3 [Pp 0,.mp 1,Pp 2,Ii r_1,.sl false 3 (Mp zG h_1.Threads),Ii (lN (h_1.Threads)),Ii v_1] [Vb 26 (zN h_1),.live (.map false [.int .i64] (List.map (mpE (AV.int .i64) AV.bool) zE)),Vb 66 (yI x_1)] zF (ar ([zG x_1]:List AV) (ac (rfl:([]:List zW)=[]) (ac (zFt F x_1 r_1 h_4:zV prog 47 [] [] [zG x_1] [] (Ii r_1)) an))) ?_
  refine sr [] [1,3,5,6,22,23,24,31] [0,1,2] 3 [Pp 0,.mp 1,Pp 2,Ii r_1,.sl false 3 (Mp zG h_1.Threads),Ii (lN (h_1.Threads)),Ii v_1,.bool (r_1 != (0:Int))] [Vb 26 (zN h_1),.live (.map false [.int .i64] (List.map (mpE (AV.int .i64) AV.bool) zE)),Vb 66 (yI x_1)] zF an ?_
  refine cd 31 (r_1 != (0:Int)) ?_ ?_
  ·intro g_4;replace h:=zR g_4 h
   refine sr [] [2] [] 3 [Ii r_1] [] zF an ?_
   refine rt ?_
   cases h
   exact ⟨rfl,Nat.le_of_ble_eq_true rfl,by kernel_rfl⟩
  intro g_4;replace h:=zQ g_4 h
  refine sk ?_
  refine sq ?_
  refine sr [(3,{ av:=(.bool ((yO zE x_1.Id).getD false)),g:=(yO zE x_1.Id).isSome })] [1,3,5,22,23,24,36] [0,1,2] 3 [Pp 0,.mp 1,Pp 2,.sl false 3 (Mp zG h_1.Threads),Ii (lN (h_1.Threads)),Ii v_1,.bool ((yO zE x_1.Id).getD false)] [Vb 26 (zN h_1),.live (.map false [.int .i64] (List.map (mpE (AV.int .i64) AV.bool) zE)),Vb 66 (yI x_1)] zF (ac (zBv:v3 prog 3 false [.int .i64]) (ac (zFk (f:=(AV.int .i64)) (g:=AV.bool) zBq zE x_1.Id false:k0 (List.map (mpE (AV.int .i64) AV.bool) zE) (Ii x_1.Id) (.bool false) (.bool ((yO zE x_1.Id).getD false)) (yO zE x_1.Id).isSome) an)) ?_
  refine cd 36 ((yO zE x_1.Id).getD false) ?_ ?_
  ·intro g_5;replace h:=zR g_5 h
   refine sr [] [2] [] 3 [Ii 4] [] zF an ?_
   refine rt ?_
   cases h
   exact ⟨rfl,Nat.le_of_ble_eq_true rfl,by kernel_rfl⟩
  intro g_5;replace h:=zQ g_5 h
  refine sk ?_
  obtain ⟨_,h_5,h⟩:=bind_some h;replace h_5:=wK h_5
  refine rg [(3,{ es:=(List.map (mpE (AV.int .i64) AV.bool) (u1 zE x_1.Id true)) })] [1,3,22,23,24] [0,1] 3 [Pp 0,.mp 1,.sl false 3 (Mp zG h_1.Threads),Ii (lN (h_1.Threads)),Ii v_1] [Vb 26 (zN h_1),.live (.map false [.int .i64] (List.map (mpE (AV.int .i64) AV.bool) (u1 zE x_1.Id true)))] zF (ac (zBv:v3 prog 3 false [.int .i64]) (ac (zEy (f:=(AV.int .i64)) (g:=AV.bool) zBq zE x_1.Id true:zDj (List.map (mpE (AV.int .i64) AV.bool) zE) (Ii x_1.Id) (.bool true) (List.map (mpE (AV.int .i64) AV.bool) (u1 zE x_1.Id true))) (ac (zIf (l:=zE) h_5:((List.map (mpE (AV.int .i64) AV.bool) zE):List (AV×AV)).length<maxLen) an))) ?_
  refine rg [] [1,3,22,23,24] [0,1] 3 [Pp 0,.mp 1,.sl false 3 (Mp zG h_1.Threads),Ii (lN (h_1.Threads)),Ii (zP (v_1+(1:Int)))] [Vb 26 (zN h_1),.live (.map false [.int .i64] (List.map (mpE (AV.int .i64) AV.bool) (u1 zE x_1.Id true)))] zF an ?_
  exact ⟨_,(sw [0,1] [] [.s 1,.s 3,.s 22,.s 23,.s 24] [.s 0,.s 1] an),_,_,rfl,h⟩
 intro e st1 hk
 rcases o_1 with q_1 | q_2
 rotate_left
 ·obtain ⟨rfl,hf⟩:=hk
  cases h
  exact ⟨st1,Sub.refl _ _,.inr rfl,hf⟩
 obtain ⟨rfl,hs⟩:=hk
 refine ⟨_,hs,?_⟩
 refine sq ?_
 refine sq ?_
 obtain ⟨r_2,h_6,h⟩:=bind_some h
 refine rg [(4,{ av:=Ii r_2,l:=[.sl false 2 (Mp zC h_1.Domains),.sl false 5 (Mp zK h_1.Snaps)] })] [1,7] [0] 1 [Pp 0,Ii r_2] [Vb 26 (zN h_1)] zF (ar ([.sl false 2 (Mp zC h_1.Domains),.sl false 5 (Mp zK h_1.Snaps)]:List AV) (ac (rfl:([]:List zW)=[]) (ac (zH8 F h_1.Domains h_1.Snaps r_2 h_6:zV prog 48 [] [] [.sl false 2 (Mp zC h_1.Domains),.sl false 5 (Mp zK h_1.Snaps)] [] (Ii r_2)) an))) ?_
 refine sr [] [1,7,47] [0] 1 [Pp 0,Ii r_2,.bool (r_2 != (0:Int))] [Vb 26 (zN h_1)] zF an ?_
 refine cd 47 (r_2 != (0:Int)) ?_ ?_
 ·intro g_6;replace h:=zR g_6 h
  refine sr [] [2] [] 1 [Ii r_2] [] zF an ?_
  refine rt ?_
  cases h
  exact ⟨.inr rfl,Nat.le_of_ble_eq_true rfl,by kernel_rfl⟩
 intro g_6;replace h:=zQ g_6 h
 refine sk ?_
 refine sq ?_
 refine sr [(2,{ n:=(h_1.Threads).length })] [1,50,51,52] [0] 1 [Pp 0,.sl false 3 (Mp zG h_1.Threads),Ii (lN (h_1.Threads)),Ii 0] [Vb 26 (zN h_1)] zF (ac (yF _:((Mp zG h_1.Threads)).length=(h_1.Threads).length) an) ?_
 obtain ⟨o_2,h_7,h⟩:=bind_some h
 refine wI (K1:=(fun e st'=>match o_2 with | (.inl q0)=>e=.normal∧Sub 0 st' (mk [] [] 0) | (.inr q1)=>e=.ret∧uE prog Go.Proofs.Try.f27 0 [] (Ii q1) st')) ?_ ?_
 ·replace h:=h_7
  refine yD (id:=3) (by kernel_rfl) ?_
  refine wk [0] [] [.s 1,.s 50,.s 51,.s 52] [.s 0] [(1,Pp 0),(50,.sl false 3 (Mp zG h_1.Threads)),(51,Ii (lN (h_1.Threads))),(52,Ii 0)] [(0,Vb 26 (zN h_1))] an ?_
  refine xI (fun n st=>∃ (v_2:Int),st=mk [(1,Pp 0),(50,.sl false 3 (Mp zG h_1.Threads)),(51,Ii (lN (h_1.Threads))),(52,Ii v_2)] [(0,Vb 26 (zN h_1))] 1∧pC F h_1 n v_2=some o_2) F (by kernel_rfl) ⟨_,rfl,h⟩ ?_ ?_
  ·rintro _ ⟨_,_,h⟩;exact xN (h:(none:Option (Unit⊕Int))=some o_2)
  rintro n_2 _ ⟨v_2,rfl,h⟩
  replace h:tH F h_1 (pC F h_1 n_2) v_2=some o_2:=h
  unfold tH at h
  refine sr [] [1,50,51,52,53] [0] 1 [Pp 0,.sl false 3 (Mp zG h_1.Threads),Ii (lN (h_1.Threads)),Ii v_2,.bool (decide (v_2<(lN (h_1.Threads))))] [Vb 26 (zN h_1)] zF an ?_
  refine sq ?_
  refine cd 53 (decide (v_2<(lN (h_1.Threads)))) ?_ ?_
  rotate_left
  ·intro g_7;replace h:=zQ g_7 h
   refine xM (id:=3) (by kernel_rfl) ?_
   cases h
   exact ⟨rfl,(sw [] [] [] [] an)⟩
  intro g_7;replace h:=zR g_7 h
  refine sk ?_
  refine sq ?_
  refine yD (id:=4) (by kernel_rfl) ?_
  refine sq ?_
  obtain ⟨x_2,h_8,h⟩:=bind_some h
  refine rg [(0,{ av:=zG x_2 }),(2,{ id:=1 })] [1,9,50,51,52] [0,1] 2 [Pp 0,Pp 1,.sl false 3 (Mp zG h_1.Threads),Ii (lN (h_1.Threads)),Ii v_2] [Vb 26 (zN h_1),Vb 66 (yI x_2)] zF (ac (yR h_8:xJ (Mp zG h_1.Threads) v_2=some (zG x_2)) an) ?_
  refine sq ?_
  obtain ⟨r_3,h_9,h⟩:=bind_some h
  refine rg [(3,{ av:=.bool r_3,ids:=[1],l:=[.sl false 2 (Mp zC h_1.Domains),.fn 50 [Pp 0]],post:=[(.var 66 (yI x_2))],pre:=[(.var 66 (yI x_2))] })] [1,50,51,52,60] [0] 2 [Pp 0,.sl false 3 (Mp zG h_1.Threads),Ii (lN (h_1.Threads)),Ii v_2,.bool (!r_3)] [Vb 26 (zN h_1)] zF (ar ([.sl false 2 (Mp zC h_1.Domains),.fn 50 [Pp 1]]:List AV) (ac (rfl:([Vb 66 (yI x_2)]:List zW)=[Vb 66 (yI x_2)]) (ac (tY F h_1.Domains x_2 r_3 h_9:zV prog 49 [(.var 66 (yI x_2))] [] [.sl false 2 (Mp zC h_1.Domains),.fn 50 [Pp 0]] [(.var 66 (yI x_2))] (.bool r_3)) an))) ?_
  refine cd 60 (!r_3) ?_ ?_
  rotate_left
  ·intro g_8;replace h:=zQ g_8 h
   refine sk ?_
   refine rg [] [1,50,51,52] [0] 2 [Pp 0,.sl false 3 (Mp zG h_1.Threads),Ii (lN (h_1.Threads)),Ii (zP (v_2+(1:Int)))] [Vb 26 (zN h_1)] zF an ?_
   exact ⟨_,(sw [0] [] [.s 1,.s 50,.s 51,.s 52] [.s 0] an),_,rfl,h⟩
  intro g_8;replace h:=zR g_8 h
  refine sr [] [2] [] 2 [Ii 5] [] zF an ?_
  refine rt ?_
  cases h
  exact ⟨rfl,Nat.le_of_ble_eq_true rfl,by kernel_rfl⟩
 intro e st1 hk
 rcases o_2 with q_3 | q_4
 rotate_left
 ·obtain ⟨rfl,hf⟩:=hk
  cases h
  exact ⟨st1,Sub.refl _ _,.inr rfl,hf⟩
 obtain ⟨rfl,hs⟩:=hk
 refine ⟨_,hs,?_⟩
 refine sr [] [2] [] 0 [Ii 0] [] zF an ?_
 refine rt ?_
 cases h
 exact ⟨.inr rfl,Nat.le_of_ble_eq_true rfl,by kernel_rfl⟩
theorem zIp (r:(List (zZ))) (h:zAb=some r):zV prog 89 [] [] [] [.row 127 9 (Mp wN r)] (.own 0 ((r).length)):=by
 refine yG (fn:=Go.Proofs.Try.f89) (code:=xC Go.Proofs.Try.f89) (by kernel_rfl) (by kernel_rfl) (Nat.le_of_ble_eq_true (by kernel_rfl)) ?_
 unfold zAb at h
 refine sr [(0,{ id:=0,m:=1 })] [] [] 1 [] [] zF an ?_
 refine sr [(13,{ id:=1 })] [0] [1] 2 [.own 1 13] [Rb 127 9 (Mp wN ([(⟨([]:List Int),false,false,false,false,(0:Int),(0:Int),(0:Int),(0:Int)⟩:zZ),(⟨([98,101,103,105,110]:List Int),true,false,false,false,(0:Int),(0:Int),(0:Int),(0:Int)⟩:zZ),(⟨([101,110,100]:List Int),false,false,false,false,(0:Int),(0:Int),(0:Int),(0:Int)⟩:zZ),(⟨([109,97,114,107]:List Int),true,false,false,false,(0:Int),(0:Int),(0:Int),(0:Int)⟩:zZ),(⟨([99,111,117,110,116]:List Int),true,true,false,false,(-1000000000000000:Int),(1000000000000000:Int),(0:Int),(0:Int)⟩:zZ),(⟨([115,97,109,112,108,101]:List Int),false,true,false,true,(1:Int),(1000000000000:Int),(0:Int),(0:Int)⟩:zZ),(⟨([115,101,110,100]:List Int),false,true,false,false,(0:Int),(1000000000000000:Int),(0:Int),(0:Int)⟩:zZ),(⟨([114,101,99,118]:List Int),false,true,false,false,(0:Int),(1000000000000000:Int),(0:Int),(0:Int)⟩:zZ),(⟨([114,117,110]:List Int),false,true,false,false,(0:Int),(63:Int),(0:Int),(0:Int)⟩:zZ),(⟨([115,116,111,112]:List Int),false,true,true,false,(0:Int),(3:Int),(0:Int),(1000000000000000:Int)⟩:zZ),(⟨([119,97,107,101]:List Int),false,true,false,false,(0:Int),(1000000000000000:Int),(0:Int),(0:Int)⟩:zZ),(⟨([97,108,108,111,99]:List Int),false,true,true,true,(0:Int),(1000000000000000:Int),(1:Int),(1000000000000:Int)⟩:zZ),(⟨([102,114,101,101]:List Int),false,true,false,false,(0:Int),(1000000000000000:Int),(0:Int),(0:Int)⟩:zZ)]:List zZ))] zF an ?_
 refine wk [1] [] [.a 0 (.own 0 ((([(⟨([]:List Int),false,false,false,false,(0:Int),(0:Int),(0:Int),(0:Int)⟩:zZ),(⟨([98,101,103,105,110]:List Int),true,false,false,false,(0:Int),(0:Int),(0:Int),(0:Int)⟩:zZ),(⟨([101,110,100]:List Int),false,false,false,false,(0:Int),(0:Int),(0:Int),(0:Int)⟩:zZ),(⟨([109,97,114,107]:List Int),true,false,false,false,(0:Int),(0:Int),(0:Int),(0:Int)⟩:zZ),(⟨([99,111,117,110,116]:List Int),true,true,false,false,(-1000000000000000:Int),(1000000000000000:Int),(0:Int),(0:Int)⟩:zZ),(⟨([115,97,109,112,108,101]:List Int),false,true,false,true,(1:Int),(1000000000000:Int),(0:Int),(0:Int)⟩:zZ),(⟨([115,101,110,100]:List Int),false,true,false,false,(0:Int),(1000000000000000:Int),(0:Int),(0:Int)⟩:zZ),(⟨([114,101,99,118]:List Int),false,true,false,false,(0:Int),(1000000000000000:Int),(0:Int),(0:Int)⟩:zZ),(⟨([114,117,110]:List Int),false,true,false,false,(0:Int),(63:Int),(0:Int),(0:Int)⟩:zZ),(⟨([115,116,111,112]:List Int),false,true,true,false,(0:Int),(3:Int),(0:Int),(1000000000000000:Int)⟩:zZ),(⟨([119,97,107,101]:List Int),false,true,false,false,(0:Int),(1000000000000000:Int),(0:Int),(0:Int)⟩:zZ),(⟨([97,108,108,111,99]:List Int),false,true,true,true,(0:Int),(1000000000000000:Int),(1:Int),(1000000000000:Int)⟩:zZ),(⟨([102,114,101,101]:List Int),false,true,false,false,(0:Int),(1000000000000000:Int),(0:Int),(0:Int)⟩:zZ)]:List zZ)).length))] [.s 0] [(0,.own 0 ((([(⟨([]:List Int),false,false,false,false,(0:Int),(0:Int),(0:Int),(0:Int)⟩:zZ),(⟨([98,101,103,105,110]:List Int),true,false,false,false,(0:Int),(0:Int),(0:Int),(0:Int)⟩:zZ),(⟨([101,110,100]:List Int),false,false,false,false,(0:Int),(0:Int),(0:Int),(0:Int)⟩:zZ),(⟨([109,97,114,107]:List Int),true,false,false,false,(0:Int),(0:Int),(0:Int),(0:Int)⟩:zZ),(⟨([99,111,117,110,116]:List Int),true,true,false,false,(-1000000000000000:Int),(1000000000000000:Int),(0:Int),(0:Int)⟩:zZ),(⟨([115,97,109,112,108,101]:List Int),false,true,false,true,(1:Int),(1000000000000:Int),(0:Int),(0:Int)⟩:zZ),(⟨([115,101,110,100]:List Int),false,true,false,false,(0:Int),(1000000000000000:Int),(0:Int),(0:Int)⟩:zZ),(⟨([114,101,99,118]:List Int),false,true,false,false,(0:Int),(1000000000000000:Int),(0:Int),(0:Int)⟩:zZ),(⟨([114,117,110]:List Int),false,true,false,false,(0:Int),(63:Int),(0:Int),(0:Int)⟩:zZ),(⟨([115,116,111,112]:List Int),false,true,true,false,(0:Int),(3:Int),(0:Int),(1000000000000000:Int)⟩:zZ),(⟨([119,97,107,101]:List Int),false,true,false,false,(0:Int),(1000000000000000:Int),(0:Int),(0:Int)⟩:zZ),(⟨([97,108,108,111,99]:List Int),false,true,true,true,(0:Int),(1000000000000000:Int),(1:Int),(1000000000000:Int)⟩:zZ),(⟨([102,114,101,101]:List Int),false,true,false,false,(0:Int),(1000000000000000:Int),(0:Int),(0:Int)⟩:zZ)]:List zZ)).length))] [(0,Rb 127 9 (Mp wN ([(⟨([]:List Int),false,false,false,false,(0:Int),(0:Int),(0:Int),(0:Int)⟩:zZ),(⟨([98,101,103,105,110]:List Int),true,false,false,false,(0:Int),(0:Int),(0:Int),(0:Int)⟩:zZ),(⟨([101,110,100]:List Int),false,false,false,false,(0:Int),(0:Int),(0:Int),(0:Int)⟩:zZ),(⟨([109,97,114,107]:List Int),true,false,false,false,(0:Int),(0:Int),(0:Int),(0:Int)⟩:zZ),(⟨([99,111,117,110,116]:List Int),true,true,false,false,(-1000000000000000:Int),(1000000000000000:Int),(0:Int),(0:Int)⟩:zZ),(⟨([115,97,109,112,108,101]:List Int),false,true,false,true,(1:Int),(1000000000000:Int),(0:Int),(0:Int)⟩:zZ),(⟨([115,101,110,100]:List Int),false,true,false,false,(0:Int),(1000000000000000:Int),(0:Int),(0:Int)⟩:zZ),(⟨([114,101,99,118]:List Int),false,true,false,false,(0:Int),(1000000000000000:Int),(0:Int),(0:Int)⟩:zZ),(⟨([114,117,110]:List Int),false,true,false,false,(0:Int),(63:Int),(0:Int),(0:Int)⟩:zZ),(⟨([115,116,111,112]:List Int),false,true,true,false,(0:Int),(3:Int),(0:Int),(1000000000000000:Int)⟩:zZ),(⟨([119,97,107,101]:List Int),false,true,false,false,(0:Int),(1000000000000000:Int),(0:Int),(0:Int)⟩:zZ),(⟨([97,108,108,111,99]:List Int),false,true,true,true,(0:Int),(1000000000000000:Int),(1:Int),(1000000000000:Int)⟩:zZ),(⟨([102,114,101,101]:List Int),false,true,false,false,(0:Int),(1000000000000000:Int),(0:Int),(0:Int)⟩:zZ)]:List zZ)))] (ac (congrArg (AV.own _) (by first | (simp;done) | (simp;omega)):(.own 1 13:AV)=.own 1 ((([(⟨([]:List Int),false,false,false,false,(0:Int),(0:Int),(0:Int),(0:Int)⟩:zZ),(⟨([98,101,103,105,110]:List Int),true,false,false,false,(0:Int),(0:Int),(0:Int),(0:Int)⟩:zZ),(⟨([101,110,100]:List Int),false,false,false,false,(0:Int),(0:Int),(0:Int),(0:Int)⟩:zZ),(⟨([109,97,114,107]:List Int),true,false,false,false,(0:Int),(0:Int),(0:Int),(0:Int)⟩:zZ),(⟨([99,111,117,110,116]:List Int),true,true,false,false,(-1000000000000000:Int),(1000000000000000:Int),(0:Int),(0:Int)⟩:zZ),(⟨([115,97,109,112,108,101]:List Int),false,true,false,true,(1:Int),(1000000000000:Int),(0:Int),(0:Int)⟩:zZ),(⟨([115,101,110,100]:List Int),false,true,false,false,(0:Int),(1000000000000000:Int),(0:Int),(0:Int)⟩:zZ),(⟨([114,101,99,118]:List Int),false,true,false,false,(0:Int),(1000000000000000:Int),(0:Int),(0:Int)⟩:zZ),(⟨([114,117,110]:List Int),false,true,false,false,(0:Int),(63:Int),(0:Int),(0:Int)⟩:zZ),(⟨([115,116,111,112]:List Int),false,true,true,false,(0:Int),(3:Int),(0:Int),(1000000000000000:Int)⟩:zZ),(⟨([119,97,107,101]:List Int),false,true,false,false,(0:Int),(1000000000000000:Int),(0:Int),(0:Int)⟩:zZ),(⟨([97,108,108,111,99]:List Int),false,true,true,true,(0:Int),(1000000000000000:Int),(1:Int),(1000000000000:Int)⟩:zZ),(⟨([102,114,101,101]:List Int),false,true,false,false,(0:Int),(1000000000000000:Int),(0:Int),(0:Int)⟩:zZ)]:List zZ)).length)) an) ?_
 refine rt ?_
 cases h
 exact ⟨.inr rfl,Nat.le_of_ble_eq_true rfl,by kernel_rfl⟩
theorem zHy (k_1:Int) (r:zZ×Bool) (h:zAp k_1=some r):zV prog 84 [] [] [Ii k_1] [] (.tuple [wN r.1,.bool r.2]):=by
 refine yG (fn:=Go.Proofs.Try.f84) (code:=xC Go.Proofs.Try.f84) (by kernel_rfl) (by kernel_rfl) (Nat.le_of_ble_eq_true (by kernel_rfl)) ?_
 unfold zAp at h
 refine sr [(0,{ id:=0 })] [0,2] [0] 1 [Ii k_1,Pp 0] [Vb 127 [.str ([]:List Int),.bool false,.bool false,.bool false,.bool false,Ii 0,Ii 0,Ii 0,Ii 0]] zF an ?_
 refine sq ?_
 obtain ⟨r_1,h_1,h⟩:=bind_some h
 refine rg [(0,{ av:=.own 0 ((r_1).length),ids:=[1],l:=[],post:=[(.row 127 9 (Mp wN r_1))] })] [0,2,4] [0,1] 2 [Ii k_1,Pp 0,.own 1 ((r_1).length)] [Vb 127 [.str ([]:List Int),.bool false,.bool false,.bool false,.bool false,Ii 0,Ii 0,Ii 0,Ii 0],Rb 127 9 (Mp wN r_1)] zF (ar ([]:List AV) (ac (rfl:([]:List zW)=[]) (ac (zIp r_1 h_1:zV prog 89 [] [] [] [(.row 127 9 (Mp wN r_1))] (.own 0 ((r_1).length))) an))) ?_
 refine sq ?_
 refine sq ?_
 refine y4 (mk [(0,Ii k_1),(2,Pp 0),(4,.own 1 ((r_1).length)),(13,.bool (decide (k_1<(1:Int))||decide (k_1≥(lN (r_1)))))] [(0,Vb 127 [.str ([]:List Int),.bool false,.bool false,.bool false,.bool false,Ii 0,Ii 0,Ii 0,Ii 0]),(1,Rb 127 9 (Mp wN r_1))] 2) ?_ ?_
 ·rcases bft (decide (k_1<(1:Int))) with zH | zH
  ·refine rg [(3,Hg),(4,Hg),(5,Hg),(6,Hg),(7,Ht)] [0,2,4,13] [0,1] 2 [Ii k_1,Pp 0,.own 1 ((r_1).length),.bool true] [Vb 127 [.str ([]:List Int),.bool false,.bool false,.bool false,.bool false,Ii 0,Ii 0,Ii 0,Ii 0],Rb 127 9 (Mp wN r_1)] zF (ac zH (ac zH (ac zH (ac zH (ac zH an))))) ?_
   exact ⟨rfl,(sw [0,1] [] [.s 0,.s 2,.s 4,.a 13 (.bool (decide (k_1<(1:Int))||decide (k_1≥(lN (r_1)))))] [.s 0,.s 1] (ac (congrArg AV.bool (ort zH):(.bool true:AV)=.bool (decide (k_1<(1:Int))||decide (k_1≥(lN (r_1))))) an))⟩
  ·refine rg [(7,Hf)] [0,2,4,13] [0,1] 2 [Ii k_1,Pp 0,.own 1 ((r_1).length),.bool (decide (k_1≥(lN (r_1))))] [Vb 127 [.str ([]:List Int),.bool false,.bool false,.bool false,.bool false,Ii 0,Ii 0,Ii 0,Ii 0],Rb 127 9 (Mp wN r_1)] zF (ac zH (ac zH (ac zH (ac zH (ac zH an))))) ?_
   exact ⟨rfl,(sw [0,1] [] [.s 0,.s 2,.s 4,.a 13 (.bool (decide (k_1<(1:Int))||decide (k_1≥(lN (r_1)))))] [.s 0,.s 1] (ac (congrArg AV.bool (orf zH rfl):(.bool (decide (k_1≥(lN (r_1)))):AV)=.bool (decide (k_1<(1:Int))||decide (k_1≥(lN (r_1))))) an))⟩
 refine cd 13 (decide (k_1<(1:Int))||decide (k_1≥(lN (r_1)))) ?_ ?_
 ·intro g_1;replace h:=zR g_1 h
  refine sr [] [2,3] [0] 2 [Pp 0,.bool false] [Vb 127 [.str ([]:List Int),.bool false,.bool false,.bool false,.bool false,Ii 0,Ii 0,Ii 0,Ii 0]] zF an ?_
  refine wk [0] [] [.s 2,.s 3] [.a 0 (Vb 127 (yW (⟨([]:List Int),false,false,false,false,(0:Int),(0:Int),(0:Int),(0:Int)⟩:zZ)))] [(2,Pp 0),(3,.bool false)] [(0,Vb 127 (yW (⟨([]:List Int),false,false,false,false,(0:Int),(0:Int),(0:Int),(0:Int)⟩:zZ)))] (ar 127 (ac (rfl:v7 [.str ((⟨([]:List Int),false,false,false,false,(0:Int),(0:Int),(0:Int),(0:Int)⟩:zZ).word),.bool ((⟨([]:List Int),false,false,false,false,(0:Int),(0:Int),(0:Int),(0:Int)⟩:zZ).name),.bool ((⟨([]:List Int),false,false,false,false,(0:Int),(0:Int),(0:Int),(0:Int)⟩:zZ).n),.bool ((⟨([]:List Int),false,false,false,false,(0:Int),(0:Int),(0:Int),(0:Int)⟩:zZ).m),.bool ((⟨([]:List Int),false,false,false,false,(0:Int),(0:Int),(0:Int),(0:Int)⟩:zZ).stack),Ii ((⟨([]:List Int),false,false,false,false,(0:Int),(0:Int),(0:Int),(0:Int)⟩:zZ).least),Ii ((⟨([]:List Int),false,false,false,false,(0:Int),(0:Int),(0:Int),(0:Int)⟩:zZ).most),Ii ((⟨([]:List Int),false,false,false,false,(0:Int),(0:Int),(0:Int),(0:Int)⟩:zZ).mLeast),Ii ((⟨([]:List Int),false,false,false,false,(0:Int),(0:Int),(0:Int),(0:Int)⟩:zZ).mMost)]=true) (ac (rfl:(.str ([]:List Int):AV)=.str ((⟨([]:List Int),false,false,false,false,(0:Int),(0:Int),(0:Int),(0:Int)⟩:zZ).word)) (ac (rfl:(.bool false:AV)=.bool ((⟨([]:List Int),false,false,false,false,(0:Int),(0:Int),(0:Int),(0:Int)⟩:zZ).name)) (ac (rfl:(.bool false:AV)=.bool ((⟨([]:List Int),false,false,false,false,(0:Int),(0:Int),(0:Int),(0:Int)⟩:zZ).n)) (ac (rfl:(.bool false:AV)=.bool ((⟨([]:List Int),false,false,false,false,(0:Int),(0:Int),(0:Int),(0:Int)⟩:zZ).m)) (ac (rfl:(.bool false:AV)=.bool ((⟨([]:List Int),false,false,false,false,(0:Int),(0:Int),(0:Int),(0:Int)⟩:zZ).stack)) (ac (rfl:(Ii 0:AV)=Ii ((⟨([]:List Int),false,false,false,false,(0:Int),(0:Int),(0:Int),(0:Int)⟩:zZ).least)) (ac (rfl:(Ii 0:AV)=Ii ((⟨([]:List Int),false,false,false,false,(0:Int),(0:Int),(0:Int),(0:Int)⟩:zZ).most)) (ac (rfl:(Ii 0:AV)=Ii ((⟨([]:List Int),false,false,false,false,(0:Int),(0:Int),(0:Int),(0:Int)⟩:zZ).mLeast)) (ac (rfl:(Ii 0:AV)=Ii ((⟨([]:List Int),false,false,false,false,(0:Int),(0:Int),(0:Int),(0:Int)⟩:zZ).mMost)) an))))))))))) ?_
  refine rt ?_
  cases h
  exact ⟨.inr rfl,Nat.le_of_ble_eq_true rfl,by kernel_rfl⟩
 intro g_1;replace h:=zQ g_1 h
 refine sk ?_
 refine sq ?_
 obtain ⟨x_1,h_2,h⟩:=bind_some h
 refine rg [(3,{ av:=wN x_1 })] [2,3] [0] 2 [Pp 0,.bool true] [Vb 127 (yW x_1)] zF (ac (pT h_2:(0:Int)≤k_1) (ac (by first | (simp;done) | simpa using pK h_2:k_1<(((r_1).length:Nat):Int)) (ac (zAl h_2:(Mp wN r_1)[(k_1).toNat]?=some (wN x_1)) an))) ?_
 refine wk [0] [] [.s 2,.s 3] [.s 0] [(2,Pp 0),(3,.bool true)] [(0,Vb 127 (yW x_1))] an ?_
 refine rt ?_
 cases h
 exact ⟨.inr rfl,Nat.le_of_ble_eq_true rfl,by kernel_rfl⟩
theorem zGV (F:Nat) (l_1:List (List Int)) (r:Int) (h:nU F l_1=some r):zV prog 90 [] [] [.sl false 1 (Ms l_1)] [] (Ii r):=by
 refine yG (fn:=Go.Proofs.Try.f90) (code:=xC Go.Proofs.Try.f90) (by kernel_rfl) (by kernel_rfl) (Nat.le_of_ble_eq_true (by kernel_rfl)) ?_
 unfold nU at h
 refine sr [] [0] [] 0 [.sl false 1 (Ms l_1)] [] zF an ?_
 refine sq ?_
 refine sr [(1,{ n:=(l_1).length })] [0,8] [] 0 [.sl false 1 (Ms l_1),.bool (decide ((lN (l_1))>(32:Int)))] [] zF (ac (yF _:((Ms l_1)).length=(l_1).length) an) ?_
 refine cd 8 (decide ((lN (l_1))>(32:Int))) ?_ ?_
 ·intro g_1;replace h:=zR g_1 h
  refine sr [] [2] [] 0 [Ii 7] [] zF an ?_
  refine rt ?_
  cases h
  exact ⟨.inr rfl,Nat.le_of_ble_eq_true rfl,by kernel_rfl⟩
 intro g_1;replace h:=zQ g_1 h
 refine sk ?_
 refine sq ?_
 refine sr [(1,{ n:=(l_1).length })] [9,10,11] [] 0 [.sl false 1 (Ms l_1),Ii (lN (l_1)),Ii 0] [] zF (ac (yF _:((Ms l_1)).length=(l_1).length) an) ?_
 obtain ⟨o_1,h_1,h⟩:=bind_some h
 refine wI (K1:=(fun e st'=>match o_1 with | (.inl q0)=>e=.normal∧Sub 0 st' (mk [] [] 0) | (.inr q1)=>e=.ret∧uE prog Go.Proofs.Try.f90 0 [] (Ii q1) st')) ?_ ?_
 ·replace h:=h_1
  refine yD (id:=0) (by kernel_rfl) ?_
  refine wk [] [] [.s 9,.s 10,.s 11] [] [(9,.sl false 1 (Ms l_1)),(10,Ii (lN (l_1))),(11,Ii 0)] [] an ?_
  refine xI (fun n st=>∃ (v_1:Int),st=mk [(9,.sl false 1 (Ms l_1)),(10,Ii (lN (l_1))),(11,Ii v_1)] [] 0∧jX F l_1 n v_1=some o_1) F (by kernel_rfl) ⟨_,rfl,h⟩ ?_ ?_
  ·rintro _ ⟨_,_,h⟩;exact xN (h:(none:Option (Unit⊕Int))=some o_1)
  rintro n_1 _ ⟨v_1,rfl,h⟩
  replace h:qA F l_1 (jX F l_1 n_1) v_1=some o_1:=h
  unfold qA at h
  refine sr [] [9,10,11,12] [] 0 [.sl false 1 (Ms l_1),Ii (lN (l_1)),Ii v_1,.bool (decide (v_1<(lN (l_1))))] [] zF an ?_
  refine sq ?_
  refine cd 12 (decide (v_1<(lN (l_1)))) ?_ ?_
  rotate_left
  ·intro g_2;replace h:=zQ g_2 h
   refine xM (id:=0) (by kernel_rfl) ?_
   cases h
   exact ⟨rfl,(sw [] [] [] [] an)⟩
  intro g_2;replace h:=zR g_2 h
  refine sk ?_
  refine sq ?_
  refine yD (id:=1) (by kernel_rfl) ?_
  refine sq ?_
  obtain ⟨x_1,h_2,h⟩:=bind_some h
  refine rg [(0,{ av:=.str x_1 })] [4,9,10,11] [] 0 [.str x_1,.sl false 1 (Ms l_1),Ii (lN (l_1)),Ii v_1] [] zF (ac (yR h_2:xJ (Ms l_1) v_1=some (.str x_1)) an) ?_
  refine sq ?_
  obtain ⟨r_1,h_3,h⟩:=bind_some h
  refine rg [(1,{ av:=Ii r_1,l:=[.str x_1] })] [5,9,10,11] [] 0 [Ii r_1,.sl false 1 (Ms l_1),Ii (lN (l_1)),Ii v_1] [] zF (ar ([.str x_1]:List AV) (ac (rfl:([]:List zW)=[]) (ac (zB7 F x_1 r_1 h_3:zV prog 64 [] [] [.str x_1] [] (Ii r_1)) an))) ?_
  refine sr [] [5,9,10,11,18] [] 0 [Ii r_1,.sl false 1 (Ms l_1),Ii (lN (l_1)),Ii v_1,.bool (r_1 != (0:Int))] [] zF an ?_
  refine cd 18 (r_1 != (0:Int)) ?_ ?_
  rotate_left
  ·intro g_3;replace h:=zQ g_3 h
   refine sk ?_
   refine rg [] [9,10,11] [] 0 [.sl false 1 (Ms l_1),Ii (lN (l_1)),Ii (zP (v_1+(1:Int)))] [] zF an ?_
   exact ⟨_,(sw [] [] [.s 9,.s 10,.s 11] [] an),_,rfl,h⟩
  intro g_3;replace h:=zR g_3 h
  refine sr [] [2] [] 0 [Ii r_1] [] zF an ?_
  refine rt ?_
  cases h
  exact ⟨rfl,Nat.le_of_ble_eq_true rfl,by kernel_rfl⟩
 intro e st1 hk
 rcases o_1 with q_1 | q_2
 rotate_left
 ·obtain ⟨rfl,hf⟩:=hk
  cases h
  exact ⟨st1,Sub.refl _ _,.inr rfl,hf⟩
 obtain ⟨rfl,hs⟩:=hk
 refine ⟨_,hs,?_⟩
 refine sr [] [2] [] 0 [Ii 0] [] zF an ?_
 refine rt ?_
 cases h
 exact ⟨.inr rfl,Nat.le_of_ble_eq_true rfl,by kernel_rfl⟩
theorem zIs (F:Nat) (f_1:zZ) (e_1:zI) (r:Int) (h:zAR F f_1 e_1=some r):zV prog 85 [] [] [wN f_1,zD e_1] [] (Ii r):=by
 refine yG (fn:=Go.Proofs.Try.f85) (code:=xC Go.Proofs.Try.f85) (by kernel_rfl) (by kernel_rfl) (Nat.le_of_ble_eq_true (by kernel_rfl)) ?_
 unfold zAR at h
 refine sr [(0,{ id:=0 }),(1,{ id:=1 })] [2,3] [0,1] 2 [Pp 0,Pp 1] [Vb 127 (yW f_1),Vb 42 (zT e_1)] zF an ?_
 refine sq ?_
 refine sr [] [3,6] [1] 2 [Pp 1,.bool f_1.name] [Vb 42 (zT e_1)] zF an ?_
 refine cd 6 f_1.name ?_ ?_
 ·intro g_1;replace h:=zR g_1 h
  refine sq ?_
  obtain ⟨r_1,h_1,h⟩:=bind_some h
  refine rg [(2,{ av:=Ii r_1,l:=[.str e_1.Name] })] [4] [] 2 [Ii r_1] [] zF (ar ([.str e_1.Name]:List AV) (ac (rfl:([]:List zW)=[]) (ac (zB7 F e_1.Name r_1 h_1:zV prog 64 [] [] [.str e_1.Name] [] (Ii r_1)) an))) ?_
  refine rt ?_
  cases h
  exact ⟨.inr rfl,Nat.le_of_ble_eq_true rfl,by kernel_rfl⟩
 intro g_1;replace h:=zQ g_1 h
 refine sk ?_
 refine sq ?_
 obtain ⟨r_2,h_2,h⟩:=bind_some h
 refine rg [(2,{ av:=Ii r_2,l:=[.sl false 1 (Ms e_1.Stack)] })] [4] [] 2 [Ii r_2] [] zF (ar ([.sl false 1 (Ms e_1.Stack)]:List AV) (ac (rfl:([]:List zW)=[]) (ac (zGV F e_1.Stack r_2 h_2:zV prog 90 [] [] [.sl false 1 (Ms e_1.Stack)] [] (Ii r_2)) an))) ?_
 refine rt ?_
 cases h
 exact ⟨.inr rfl,Nat.le_of_ble_eq_true rfl,by kernel_rfl⟩
theorem zIB (F:Nat) (e_1:zI) (r:Int) (h:zAV F e_1=some r):zV prog 74 [] [] [zD e_1] [] (Ii r):=by
 refine yG (fn:=Go.Proofs.Try.f74) (code:=xC Go.Proofs.Try.f74) (by kernel_rfl) (by kernel_rfl) (Nat.le_of_ble_eq_true (by kernel_rfl)) ?_
 unfold zAV at h
 refine sr [(0,{ id:=0 })] [1] [0] 1 [Pp 0] [Vb 42 (zT e_1)] zF an ?_
 refine sq ?_
 refine sq ?_
 refine y4 (mk [(1,Pp 0),(13,.bool (decide (e_1.At<(0:Int))||decide (e_1.At>(1000000000000:Int))))] [(0,Vb 42 (zT e_1))] 1) ?_ ?_
 ·rcases bft (decide (e_1.At<(0:Int))) with zH | zH
  ·refine rg [(4,Hg),(5,Hg),(6,Hg),(7,Ht)] [1,13] [0] 1 [Pp 0,.bool true] [Vb 42 (zT e_1)] zF (ac zH (ac zH (ac zH (ac zH an)))) ?_
   exact ⟨rfl,(sw [0] [] [.s 1,.a 13 (.bool (decide (e_1.At<(0:Int))||decide (e_1.At>(1000000000000:Int))))] [.s 0] (ac (congrArg AV.bool (ort zH):(.bool true:AV)=.bool (decide (e_1.At<(0:Int))||decide (e_1.At>(1000000000000:Int)))) an))⟩
  ·refine rg [(7,Hf)] [1,13] [0] 1 [Pp 0,.bool (decide (e_1.At>(1000000000000:Int)))] [Vb 42 (zT e_1)] zF (ac zH (ac zH (ac zH (ac zH an)))) ?_
   exact ⟨rfl,(sw [0] [] [.s 1,.a 13 (.bool (decide (e_1.At<(0:Int))||decide (e_1.At>(1000000000000:Int))))] [.s 0] (ac (congrArg AV.bool (orf zH rfl):(.bool (decide (e_1.At>(1000000000000:Int))):AV)=.bool (decide (e_1.At<(0:Int))||decide (e_1.At>(1000000000000:Int)))) an))⟩
 refine cd 13 (decide (e_1.At<(0:Int))||decide (e_1.At>(1000000000000:Int))) ?_ ?_
 ·intro g_1;replace h:=zR g_1 h
  refine sr [] [2] [] 1 [Ii 2] [] zF an ?_
  refine rt ?_
  cases h
  exact ⟨.inr rfl,Nat.le_of_ble_eq_true rfl,by kernel_rfl⟩
 intro g_1;replace h:=zQ g_1 h
 refine sk ?_
 refine sq ?_
 obtain ⟨r_1,h_1,h⟩:=bind_some h
 refine rg [(2,{ av:=.tuple [wN r_1.1,.bool r_1.2],l:=[Ii e_1.Kind] }),(6,{ id:=1 })] [1,3,4] [0,1] 2 [Pp 0,Pp 1,.bool r_1.2] [Vb 42 (zT e_1),Vb 127 (yW r_1.1)] zF (ar ([Ii e_1.Kind]:List AV) (ac (rfl:([]:List zW)=[]) (ac (zHy e_1.Kind r_1 h_1:zV prog 84 [] [] [Ii e_1.Kind] [] (.tuple [wN r_1.1,.bool r_1.2])) an))) ?_
 refine sq ?_
 refine sq ?_
 obtain ⟨p_1,h_2,h⟩:=bind_some h
 refine y4 (mk [(1,Pp 0),(3,Pp 1),(62,.bool p_1)] [(0,Vb 42 (zT e_1)),(1,Vb 127 (yW r_1.1))] 2) ?_ ?_
 ·replace h:=h_2
  rcases bft (!r_1.2) with zJ | zJ
  ·replace h:=zR zJ h
   refine rg [(3,Hg),(4,Hg),(5,Hg),(6,Hg),(10,Hg),(11,Ht),(13,Hg),(14,Hg),(15,Hg),(16,Hg),(20,Hg),(21,Ht),(23,Hg),(24,Hg),(25,Hg),(26,Hg),(30,Hg),(31,Ht),(33,Hg),(34,Hg),(35,Hg),(36,Hg),(41,Hg),(42,Ht)] [1,3,62] [0,1] 2 [Pp 0,Pp 1,.bool true] [Vb 42 (zT e_1),Vb 127 (yW r_1.1)] zF (ac zJ (ac zJ (ac zJ (ac zJ (ac zJ (ac zJ (ax (ax (ax (ax (ax (ar true (ax (ax (ax (ax (ax (ar true (ax (ax (ax (ax (ax (ar true an)))))))))))))))))))))))) ?_
   cases h
   exact ⟨rfl,(sw [0,1] [] [.s 1,.s 3,.s 62] [.s 0,.s 1] an)⟩
  ·replace h:=zQ zJ h
   rcases bft (!r_1.1.name) with zO | zO
   ·replace h:=zR zO h
    rcases bft (!(e_1.Name==([]:List Int))) with zS | zS
    ·replace h:=zR zS h
     refine rg [(10,Ht),(11,Hf),(13,Hg),(14,Hg),(15,Hg),(16,Hg),(20,Hg),(21,Ht),(23,Hg),(24,Hg),(25,Hg),(26,Hg),(30,Hg),(31,Ht),(33,Hg),(34,Hg),(35,Hg),(36,Hg),(41,Hg),(42,Ht)] [1,3,62] [0,1] 2 [Pp 0,Pp 1,.bool true] [Vb 42 (zT e_1),Vb 127 (yW r_1.1)] zF (ac zJ (ac zJ (ac zJ (ac zJ (ac zO (ac zO (ac zO (ac zJ (ac zO (ac zJ (ac zS (ac zS (ac zS (ac zS (ac zS (ac zS (ax (ax (ax (ax (ax (ar true (ax (ax (ax (ax (ax (ar true an)))))))))))))))))))))))))))) ?_
     cases h
     exact ⟨rfl,(sw [0,1] [] [.s 1,.s 3,.s 62] [.s 0,.s 1] an)⟩
    ·replace h:=zQ zS h
     rcases bft (!r_1.1.n) with yE | yE
     ·replace h:=zR yE h
      rcases bft (e_1.N != (0:Int)) with yZ | yZ
      ·replace h:=zR yZ h
       refine rg [(10,Ht),(11,Hf),(20,Ht),(21,Hf),(23,Hg),(24,Hg),(25,Hg),(26,Hg),(30,Hg),(31,Ht),(33,Hg),(34,Hg),(35,Hg),(36,Hg),(41,Hg),(42,Ht)] [1,3,62] [0,1] 2 [Pp 0,Pp 1,.bool true] [Vb 42 (zT e_1),Vb 127 (yW r_1.1)] zF (ac zJ (ac zJ (ac zJ (ac zJ (ac zO (ac zO (ac zO (ac zJ (ac zO (ac zJ (ac zS (ac zS (ac zS (ac zS (ac yE (ac yE (ac yE (ac zS (ac yE (ac zS (ac yZ (ac yZ (ac yZ (ac yZ (ac yZ (ac yZ (ax (ax (ax (ax (ax (ar true an)))))))))))))))))))))))))))))))) ?_
       cases h
       exact ⟨rfl,(sw [0,1] [] [.s 1,.s 3,.s 62] [.s 0,.s 1] an)⟩
      ·replace h:=zQ yZ h
       rcases bft (!r_1.1.m) with yQ | yQ
       ·replace h:=zR yQ h
        rcases bft (e_1.M != (0:Int)) with yS | yS
        ·replace h:=zR yS h
         refine rg [(10,Ht),(11,Hf),(20,Ht),(21,Hf),(30,Ht),(31,Hf),(33,Hg),(34,Hg),(35,Hg),(36,Hg),(41,Hg),(42,Ht)] [1,3,62] [0,1] 2 [Pp 0,Pp 1,.bool true] [Vb 42 (zT e_1),Vb 127 (yW r_1.1)] zF (ac zJ (ac zJ (ac zJ (ac zJ (ac zO (ac zO (ac zO (ac zJ (ac zO (ac zJ (ac zS (ac zS (ac zS (ac zS (ac yE (ac yE (ac yE (ac zS (ac yE (ac zS (ac yZ (ac yZ (ac yZ (ac yZ (ac yQ (ac yQ (ac yQ (ac yZ (ac yQ (ac yZ (ac yS (ac yS (ac yS (ac yS (ac yS (ac yS an)))))))))))))))))))))))))))))))))))) ?_
         cases h
         exact ⟨rfl,(sw [0,1] [] [.s 1,.s 3,.s 62] [.s 0,.s 1] an)⟩
        ·replace h:=zQ yS h
         rcases bft (!r_1.1.stack) with xW | xW
         ·replace h:=zR xW h
          refine rg [(10,Ht),(11,Hf),(20,Ht),(21,Hf),(30,Ht),(31,Hf),(39,{ n:=(e_1.Stack).length }),(41,Ht),(42,Hf)] [1,3,62] [0,1] 2 [Pp 0,Pp 1,.bool (decide ((lN (e_1.Stack))>(0:Int)))] [Vb 42 (zT e_1),Vb 127 (yW r_1.1)] zF (ac zJ (ac zJ (ac zJ (ac zJ (ac zO (ac zO (ac zO (ac zJ (ac zO (ac zJ (ac zS (ac zS (ac zS (ac zS (ac yE (ac yE (ac yE (ac zS (ac yE (ac zS (ac yZ (ac yZ (ac yZ (ac yZ (ac yQ (ac yQ (ac yQ (ac yZ (ac yQ (ac yZ (ac yS (ac yS (ac yS (ac yS (ac xW (ac xW (ac xW (ac (yF _:((Ms e_1.Stack)).length=(e_1.Stack).length) (ac xW (ac yS (ac xW (ac yS an)))))))))))))))))))))))))))))))))))))))))) ?_
          cases h
          exact ⟨rfl,(sw [0,1] [] [.s 1,.s 3,.s 62] [.s 0,.s 1] an)⟩
         ·replace h:=zQ xW h
          refine rg [(10,Ht),(11,Hf),(20,Ht),(21,Hf),(30,Ht),(31,Hf),(37,Hg),(38,Hg),(39,Hg),(40,Hg),(41,Hf),(42,Hf)] [1,3,62] [0,1] 2 [Pp 0,Pp 1,.bool false] [Vb 42 (zT e_1),Vb 127 (yW r_1.1)] zF (ac zJ (ac zJ (ac zJ (ac zJ (ac zO (ac zO (ac zO (ac zJ (ac zO (ac zJ (ac zS (ac zS (ac zS (ac zS (ac yE (ac yE (ac yE (ac zS (ac yE (ac zS (ac yZ (ac yZ (ac yZ (ac yZ (ac yQ (ac yQ (ac yQ (ac yZ (ac yQ (ac yZ (ac yS (ac yS (ac yS (ac yS (ac xW (ac xW (ac xW (ac xW (ac yS (ac xW (ac yS an))))))))))))))))))))))))))))))))))))))))) ?_
          cases h
          exact ⟨rfl,(sw [0,1] [] [.s 1,.s 3,.s 62] [.s 0,.s 1] an)⟩
       ·replace h:=zQ yQ h
        rcases bft (!r_1.1.stack) with xK | xK
        ·replace h:=zR xK h
         refine rg [(10,Ht),(11,Hf),(20,Ht),(21,Hf),(27,Hg),(28,Hg),(29,Hg),(30,Hf),(31,Hf),(39,{ n:=(e_1.Stack).length }),(41,Ht),(42,Hf)] [1,3,62] [0,1] 2 [Pp 0,Pp 1,.bool (decide ((lN (e_1.Stack))>(0:Int)))] [Vb 42 (zT e_1),Vb 127 (yW r_1.1)] zF (ac zJ (ac zJ (ac zJ (ac zJ (ac zO (ac zO (ac zO (ac zJ (ac zO (ac zJ (ac zS (ac zS (ac zS (ac zS (ac yE (ac yE (ac yE (ac zS (ac yE (ac zS (ac yZ (ac yZ (ac yZ (ac yZ (ac yQ (ac yQ (ac yQ (ac yZ (ac yQ (ac yZ (ar false (ar false (ar false (ar false (ac xK (ac xK (ac xK (ac (yF _:((Ms e_1.Stack)).length=(e_1.Stack).length) (ac xK (ar false (ac xK (ar false an)))))))))))))))))))))))))))))))))))))))))) ?_
         cases h
         exact ⟨rfl,(sw [0,1] [] [.s 1,.s 3,.s 62] [.s 0,.s 1] an)⟩
        ·replace h:=zQ xK h
         refine rg [(10,Ht),(11,Hf),(20,Ht),(21,Hf),(27,Hg),(28,Hg),(29,Hg),(30,Hf),(31,Hf),(37,Hg),(38,Hg),(39,Hg),(40,Hg),(41,Hf),(42,Hf)] [1,3,62] [0,1] 2 [Pp 0,Pp 1,.bool false] [Vb 42 (zT e_1),Vb 127 (yW r_1.1)] zF (ac zJ (ac zJ (ac zJ (ac zJ (ac zO (ac zO (ac zO (ac zJ (ac zO (ac zJ (ac zS (ac zS (ac zS (ac zS (ac yE (ac yE (ac yE (ac zS (ac yE (ac zS (ac yZ (ac yZ (ac yZ (ac yZ (ac yQ (ac yQ (ac yQ (ac yZ (ac yQ (ac yZ (ar false (ar false (ar false (ar false (ac xK (ac xK (ac xK (ac xK (ar false (ac xK (ar false an))))))))))))))))))))))))))))))))))))))))) ?_
         cases h
         exact ⟨rfl,(sw [0,1] [] [.s 1,.s 3,.s 62] [.s 0,.s 1] an)⟩
     ·replace h:=zQ yE h
      rcases bft (!r_1.1.m) with xO | xO
      ·replace h:=zR xO h
       rcases bft (e_1.M != (0:Int)) with xB | xB
       ·replace h:=zR xB h
        refine rg [(10,Ht),(11,Hf),(17,Hg),(18,Hg),(19,Hg),(20,Hf),(21,Hf),(30,Ht),(31,Hf),(33,Hg),(34,Hg),(35,Hg),(36,Hg),(41,Hg),(42,Ht)] [1,3,62] [0,1] 2 [Pp 0,Pp 1,.bool true] [Vb 42 (zT e_1),Vb 127 (yW r_1.1)] zF (ac zJ (ac zJ (ac zJ (ac zJ (ac zO (ac zO (ac zO (ac zJ (ac zO (ac zJ (ac zS (ac zS (ac zS (ac zS (ac yE (ac yE (ac yE (ac zS (ac yE (ac zS (ar false (ar false (ar false (ar false (ac xO (ac xO (ac xO (ar false (ac xO (ar false (ac xB (ac xB (ac xB (ac xB (ac xB (ac xB an)))))))))))))))))))))))))))))))))))) ?_
        cases h
        exact ⟨rfl,(sw [0,1] [] [.s 1,.s 3,.s 62] [.s 0,.s 1] an)⟩
       ·replace h:=zQ xB h
        rcases bft (!r_1.1.stack) with wA | wA
        ·replace h:=zR wA h
         refine rg [(10,Ht),(11,Hf),(17,Hg),(18,Hg),(19,Hg),(20,Hf),(21,Hf),(30,Ht),(31,Hf),(39,{ n:=(e_1.Stack).length }),(41,Ht),(42,Hf)] [1,3,62] [0,1] 2 [Pp 0,Pp 1,.bool (decide ((lN (e_1.Stack))>(0:Int)))] [Vb 42 (zT e_1),Vb 127 (yW r_1.1)] zF (ac zJ (ac zJ (ac zJ (ac zJ (ac zO (ac zO (ac zO (ac zJ (ac zO (ac zJ (ac zS (ac zS (ac zS (ac zS (ac yE (ac yE (ac yE (ac zS (ac yE (ac zS (ar false (ar false (ar false (ar false (ac xO (ac xO (ac xO (ar false (ac xO (ar false (ac xB (ac xB (ac xB (ac xB (ac wA (ac wA (ac wA (ac (yF _:((Ms e_1.Stack)).length=(e_1.Stack).length) (ac wA (ac xB (ac wA (ac xB an)))))))))))))))))))))))))))))))))))))))))) ?_
         cases h
         exact ⟨rfl,(sw [0,1] [] [.s 1,.s 3,.s 62] [.s 0,.s 1] an)⟩
        ·replace h:=zQ wA h
         refine rg [(10,Ht),(11,Hf),(17,Hg),(18,Hg),(19,Hg),(20,Hf),(21,Hf),(30,Ht),(31,Hf),(37,Hg),(38,Hg),(39,Hg),(40,Hg),(41,Hf),(42,Hf)] [1,3,62] [0,1] 2 [Pp 0,Pp 1,.bool false] [Vb 42 (zT e_1),Vb 127 (yW r_1.1)] zF (ac zJ (ac zJ (ac zJ (ac zJ (ac zO (ac zO (ac zO (ac zJ (ac zO (ac zJ (ac zS (ac zS (ac zS (ac zS (ac yE (ac yE (ac yE (ac zS (ac yE (ac zS (ar false (ar false (ar false (ar false (ac xO (ac xO (ac xO (ar false (ac xO (ar false (ac xB (ac xB (ac xB (ac xB (ac wA (ac wA (ac wA (ac wA (ac xB (ac wA (ac xB an))))))))))))))))))))))))))))))))))))))))) ?_
         cases h
         exact ⟨rfl,(sw [0,1] [] [.s 1,.s 3,.s 62] [.s 0,.s 1] an)⟩
      ·replace h:=zQ xO h
       rcases bft (!r_1.1.stack) with wJ | wJ
       ·replace h:=zR wJ h
        refine rg [(10,Ht),(11,Hf),(17,Hg),(18,Hg),(19,Hg),(20,Hf),(21,Hf),(27,Hg),(28,Hg),(29,Hg),(30,Hf),(31,Hf),(39,{ n:=(e_1.Stack).length }),(41,Ht),(42,Hf)] [1,3,62] [0,1] 2 [Pp 0,Pp 1,.bool (decide ((lN (e_1.Stack))>(0:Int)))] [Vb 42 (zT e_1),Vb 127 (yW r_1.1)] zF (ac zJ (ac zJ (ac zJ (ac zJ (ac zO (ac zO (ac zO (ac zJ (ac zO (ac zJ (ac zS (ac zS (ac zS (ac zS (ac yE (ac yE (ac yE (ac zS (ac yE (ac zS (ar false (ar false (ar false (ar false (ac xO (ac xO (ac xO (ar false (ac xO (ar false (ar false (ar false (ar false (ar false (ac wJ (ac wJ (ac wJ (ac (yF _:((Ms e_1.Stack)).length=(e_1.Stack).length) (ac wJ (ar false (ac wJ (ar false an)))))))))))))))))))))))))))))))))))))))))) ?_
        cases h
        exact ⟨rfl,(sw [0,1] [] [.s 1,.s 3,.s 62] [.s 0,.s 1] an)⟩
       ·replace h:=zQ wJ h
        refine rg [(10,Ht),(11,Hf),(17,Hg),(18,Hg),(19,Hg),(20,Hf),(21,Hf),(27,Hg),(28,Hg),(29,Hg),(30,Hf),(31,Hf),(37,Hg),(38,Hg),(39,Hg),(40,Hg),(41,Hf),(42,Hf)] [1,3,62] [0,1] 2 [Pp 0,Pp 1,.bool false] [Vb 42 (zT e_1),Vb 127 (yW r_1.1)] zF (ac zJ (ac zJ (ac zJ (ac zJ (ac zO (ac zO (ac zO (ac zJ (ac zO (ac zJ (ac zS (ac zS (ac zS (ac zS (ac yE (ac yE (ac yE (ac zS (ac yE (ac zS (ar false (ar false (ar false (ar false (ac xO (ac xO (ac xO (ar false (ac xO (ar false (ar false (ar false (ar false (ar false (ac wJ (ac wJ (ac wJ (ac wJ (ar false (ac wJ (ar false an))))))))))))))))))))))))))))))))))))))))) ?_
        cases h
        exact ⟨rfl,(sw [0,1] [] [.s 1,.s 3,.s 62] [.s 0,.s 1] an)⟩
   ·replace h:=zQ zO h
    rcases bft (!r_1.1.n) with xE | xE
    ·replace h:=zR xE h
     rcases bft (e_1.N != (0:Int)) with xS | xS
     ·replace h:=zR xS h
      refine rg [(7,Hg),(8,Hg),(9,Hg),(10,Hf),(11,Hf),(20,Ht),(21,Hf),(23,Hg),(24,Hg),(25,Hg),(26,Hg),(30,Hg),(31,Ht),(33,Hg),(34,Hg),(35,Hg),(36,Hg),(41,Hg),(42,Ht)] [1,3,62] [0,1] 2 [Pp 0,Pp 1,.bool true] [Vb 42 (zT e_1),Vb 127 (yW r_1.1)] zF (ac zJ (ac zJ (ac zJ (ac zJ (ac zO (ac zO (ac zO (ac zJ (ac zO (ac zJ (ar false (ar false (ar false (ar false (ac xE (ac xE (ac xE (ar false (ac xE (ar false (ac xS (ac xS (ac xS (ac xS (ac xS (ac xS (ax (ax (ax (ax (ax (ar true an)))))))))))))))))))))))))))))))) ?_
      cases h
      exact ⟨rfl,(sw [0,1] [] [.s 1,.s 3,.s 62] [.s 0,.s 1] an)⟩
     ·replace h:=zQ xS h
      rcases bft (!r_1.1.m) with wY | wY
      ·replace h:=zR wY h
       rcases bft (e_1.M != (0:Int)) with vC | vC
       ·replace h:=zR vC h
        refine rg [(7,Hg),(8,Hg),(9,Hg),(10,Hf),(11,Hf),(20,Ht),(21,Hf),(30,Ht),(31,Hf),(33,Hg),(34,Hg),(35,Hg),(36,Hg),(41,Hg),(42,Ht)] [1,3,62] [0,1] 2 [Pp 0,Pp 1,.bool true] [Vb 42 (zT e_1),Vb 127 (yW r_1.1)] zF (ac zJ (ac zJ (ac zJ (ac zJ (ac zO (ac zO (ac zO (ac zJ (ac zO (ac zJ (ar false (ar false (ar false (ar false (ac xE (ac xE (ac xE (ar false (ac xE (ar false (ac xS (ac xS (ac xS (ac xS (ac wY (ac wY (ac wY (ac xS (ac wY (ac xS (ac vC (ac vC (ac vC (ac vC (ac vC (ac vC an)))))))))))))))))))))))))))))))))))) ?_
        cases h
        exact ⟨rfl,(sw [0,1] [] [.s 1,.s 3,.s 62] [.s 0,.s 1] an)⟩
       ·replace h:=zQ vC h
        rcases bft (!r_1.1.stack) with tB | tB
        ·replace h:=zR tB h
         refine rg [(7,Hg),(8,Hg),(9,Hg),(10,Hf),(11,Hf),(20,Ht),(21,Hf),(30,Ht),(31,Hf),(39,{ n:=(e_1.Stack).length }),(41,Ht),(42,Hf)] [1,3,62] [0,1] 2 [Pp 0,Pp 1,.bool (decide ((lN (e_1.Stack))>(0:Int)))] [Vb 42 (zT e_1),Vb 127 (yW r_1.1)] zF (ac zJ (ac zJ (ac zJ (ac zJ (ac zO (ac zO (ac zO (ac zJ (ac zO (ac zJ (ar false (ar false (ar false (ar false (ac xE (ac xE (ac xE (ar false (ac xE (ar false (ac xS (ac xS (ac xS (ac xS (ac wY (ac wY (ac wY (ac xS (ac wY (ac xS (ac vC (ac vC (ac vC (ac vC (ac tB (ac tB (ac tB (ac (yF _:((Ms e_1.Stack)).length=(e_1.Stack).length) (ac tB (ac vC (ac tB (ac vC an)))))))))))))))))))))))))))))))))))))))))) ?_
         cases h
         exact ⟨rfl,(sw [0,1] [] [.s 1,.s 3,.s 62] [.s 0,.s 1] an)⟩
        ·replace h:=zQ tB h
         refine rg [(7,Hg),(8,Hg),(9,Hg),(10,Hf),(11,Hf),(20,Ht),(21,Hf),(30,Ht),(31,Hf),(37,Hg),(38,Hg),(39,Hg),(40,Hg),(41,Hf),(42,Hf)] [1,3,62] [0,1] 2 [Pp 0,Pp 1,.bool false] [Vb 42 (zT e_1),Vb 127 (yW r_1.1)] zF (ac zJ (ac zJ (ac zJ (ac zJ (ac zO (ac zO (ac zO (ac zJ (ac zO (ac zJ (ar false (ar false (ar false (ar false (ac xE (ac xE (ac xE (ar false (ac xE (ar false (ac xS (ac xS (ac xS (ac xS (ac wY (ac wY (ac wY (ac xS (ac wY (ac xS (ac vC (ac vC (ac vC (ac vC (ac tB (ac tB (ac tB (ac tB (ac vC (ac tB (ac vC an))))))))))))))))))))))))))))))))))))))))) ?_
         cases h
         exact ⟨rfl,(sw [0,1] [] [.s 1,.s 3,.s 62] [.s 0,.s 1] an)⟩
      ·replace h:=zQ wY h
       rcases bft (!r_1.1.stack) with tC | tC
       ·replace h:=zR tC h
        refine rg [(7,Hg),(8,Hg),(9,Hg),(10,Hf),(11,Hf),(20,Ht),(21,Hf),(27,Hg),(28,Hg),(29,Hg),(30,Hf),(31,Hf),(39,{ n:=(e_1.Stack).length }),(41,Ht),(42,Hf)] [1,3,62] [0,1] 2 [Pp 0,Pp 1,.bool (decide ((lN (e_1.Stack))>(0:Int)))] [Vb 42 (zT e_1),Vb 127 (yW r_1.1)] zF (ac zJ (ac zJ (ac zJ (ac zJ (ac zO (ac zO (ac zO (ac zJ (ac zO (ac zJ (ar false (ar false (ar false (ar false (ac xE (ac xE (ac xE (ar false (ac xE (ar false (ac xS (ac xS (ac xS (ac xS (ac wY (ac wY (ac wY (ac xS (ac wY (ac xS (ar false (ar false (ar false (ar false (ac tC (ac tC (ac tC (ac (yF _:((Ms e_1.Stack)).length=(e_1.Stack).length) (ac tC (ar false (ac tC (ar false an)))))))))))))))))))))))))))))))))))))))))) ?_
        cases h
        exact ⟨rfl,(sw [0,1] [] [.s 1,.s 3,.s 62] [.s 0,.s 1] an)⟩
       ·replace h:=zQ tC h
        refine rg [(7,Hg),(8,Hg),(9,Hg),(10,Hf),(11,Hf),(20,Ht),(21,Hf),(27,Hg),(28,Hg),(29,Hg),(30,Hf),(31,Hf),(37,Hg),(38,Hg),(39,Hg),(40,Hg),(41,Hf),(42,Hf)] [1,3,62] [0,1] 2 [Pp 0,Pp 1,.bool false] [Vb 42 (zT e_1),Vb 127 (yW r_1.1)] zF (ac zJ (ac zJ (ac zJ (ac zJ (ac zO (ac zO (ac zO (ac zJ (ac zO (ac zJ (ar false (ar false (ar false (ar false (ac xE (ac xE (ac xE (ar false (ac xE (ar false (ac xS (ac xS (ac xS (ac xS (ac wY (ac wY (ac wY (ac xS (ac wY (ac xS (ar false (ar false (ar false (ar false (ac tC (ac tC (ac tC (ac tC (ar false (ac tC (ar false an))))))))))))))))))))))))))))))))))))))))) ?_
        cases h
        exact ⟨rfl,(sw [0,1] [] [.s 1,.s 3,.s 62] [.s 0,.s 1] an)⟩
    ·replace h:=zQ xE h
     rcases bft (!r_1.1.m) with wZ | wZ
     ·replace h:=zR wZ h
      rcases bft (e_1.M != (0:Int)) with vD | vD
      ·replace h:=zR vD h
       refine rg [(7,Hg),(8,Hg),(9,Hg),(10,Hf),(11,Hf),(17,Hg),(18,Hg),(19,Hg),(20,Hf),(21,Hf),(30,Ht),(31,Hf),(33,Hg),(34,Hg),(35,Hg),(36,Hg),(41,Hg),(42,Ht)] [1,3,62] [0,1] 2 [Pp 0,Pp 1,.bool true] [Vb 42 (zT e_1),Vb 127 (yW r_1.1)] zF (ac zJ (ac zJ (ac zJ (ac zJ (ac zO (ac zO (ac zO (ac zJ (ac zO (ac zJ (ar false (ar false (ar false (ar false (ac xE (ac xE (ac xE (ar false (ac xE (ar false (ar false (ar false (ar false (ar false (ac wZ (ac wZ (ac wZ (ar false (ac wZ (ar false (ac vD (ac vD (ac vD (ac vD (ac vD (ac vD an)))))))))))))))))))))))))))))))))))) ?_
       cases h
       exact ⟨rfl,(sw [0,1] [] [.s 1,.s 3,.s 62] [.s 0,.s 1] an)⟩
      ·replace h:=zQ vD h
       rcases bft (!r_1.1.stack) with tD | tD
       ·replace h:=zR tD h
        refine rg [(7,Hg),(8,Hg),(9,Hg),(10,Hf),(11,Hf),(17,Hg),(18,Hg),(19,Hg),(20,Hf),(21,Hf),(30,Ht),(31,Hf),(39,{ n:=(e_1.Stack).length }),(41,Ht),(42,Hf)] [1,3,62] [0,1] 2 [Pp 0,Pp 1,.bool (decide ((lN (e_1.Stack))>(0:Int)))] [Vb 42 (zT e_1),Vb 127 (yW r_1.1)] zF (ac zJ (ac zJ (ac zJ (ac zJ (ac zO (ac zO (ac zO (ac zJ (ac zO (ac zJ (ar false (ar false (ar false (ar false (ac xE (ac xE (ac xE (ar false (ac xE (ar false (ar false (ar false (ar false (ar false (ac wZ (ac wZ (ac wZ (ar false (ac wZ (ar false (ac vD (ac vD (ac vD (ac vD (ac tD (ac tD (ac tD (ac (yF _:((Ms e_1.Stack)).length=(e_1.Stack).length) (ac tD (ac vD (ac tD (ac vD an)))))))))))))))))))))))))))))))))))))))))) ?_
        cases h
        exact ⟨rfl,(sw [0,1] [] [.s 1,.s 3,.s 62] [.s 0,.s 1] an)⟩
       ·replace h:=zQ tD h
        refine rg [(7,Hg),(8,Hg),(9,Hg),(10,Hf),(11,Hf),(17,Hg),(18,Hg),(19,Hg),(20,Hf),(21,Hf),(30,Ht),(31,Hf),(37,Hg),(38,Hg),(39,Hg),(40,Hg),(41,Hf),(42,Hf)] [1,3,62] [0,1] 2 [Pp 0,Pp 1,.bool false] [Vb 42 (zT e_1),Vb 127 (yW r_1.1)] zF (ac zJ (ac zJ (ac zJ (ac zJ (ac zO (ac zO (ac zO (ac zJ (ac zO (ac zJ (ar false (ar false (ar false (ar false (ac xE (ac xE (ac xE (ar false (ac xE (ar false (ar false (ar false (ar false (ar false (ac wZ (ac wZ (ac wZ (ar false (ac wZ (ar false (ac vD (ac vD (ac vD (ac vD (ac tD (ac tD (ac tD (ac tD (ac vD (ac tD (ac vD an))))))))))))))))))))))))))))))))))))))))) ?_
        cases h
        exact ⟨rfl,(sw [0,1] [] [.s 1,.s 3,.s 62] [.s 0,.s 1] an)⟩
     ·replace h:=zQ wZ h
      rcases bft (!r_1.1.stack) with tE | tE
      ·replace h:=zR tE h
       refine rg [(7,Hg),(8,Hg),(9,Hg),(10,Hf),(11,Hf),(17,Hg),(18,Hg),(19,Hg),(20,Hf),(21,Hf),(27,Hg),(28,Hg),(29,Hg),(30,Hf),(31,Hf),(39,{ n:=(e_1.Stack).length }),(41,Ht),(42,Hf)] [1,3,62] [0,1] 2 [Pp 0,Pp 1,.bool (decide ((lN (e_1.Stack))>(0:Int)))] [Vb 42 (zT e_1),Vb 127 (yW r_1.1)] zF (ac zJ (ac zJ (ac zJ (ac zJ (ac zO (ac zO (ac zO (ac zJ (ac zO (ac zJ (ar false (ar false (ar false (ar false (ac xE (ac xE (ac xE (ar false (ac xE (ar false (ar false (ar false (ar false (ar false (ac wZ (ac wZ (ac wZ (ar false (ac wZ (ar false (ar false (ar false (ar false (ar false (ac tE (ac tE (ac tE (ac (yF _:((Ms e_1.Stack)).length=(e_1.Stack).length) (ac tE (ar false (ac tE (ar false an)))))))))))))))))))))))))))))))))))))))))) ?_
       cases h
       exact ⟨rfl,(sw [0,1] [] [.s 1,.s 3,.s 62] [.s 0,.s 1] an)⟩
      ·replace h:=zQ tE h
       refine rg [(7,Hg),(8,Hg),(9,Hg),(10,Hf),(11,Hf),(17,Hg),(18,Hg),(19,Hg),(20,Hf),(21,Hf),(27,Hg),(28,Hg),(29,Hg),(30,Hf),(31,Hf),(37,Hg),(38,Hg),(39,Hg),(40,Hg),(41,Hf),(42,Hf)] [1,3,62] [0,1] 2 [Pp 0,Pp 1,.bool false] [Vb 42 (zT e_1),Vb 127 (yW r_1.1)] zF (ac zJ (ac zJ (ac zJ (ac zJ (ac zO (ac zO (ac zO (ac zJ (ac zO (ac zJ (ar false (ar false (ar false (ar false (ac xE (ac xE (ac xE (ar false (ac xE (ar false (ar false (ar false (ar false (ar false (ac wZ (ac wZ (ac wZ (ar false (ac wZ (ar false (ar false (ar false (ar false (ar false (ac tE (ac tE (ac tE (ac tE (ar false (ac tE (ar false an))))))))))))))))))))))))))))))))))))))))) ?_
       cases h
       exact ⟨rfl,(sw [0,1] [] [.s 1,.s 3,.s 62] [.s 0,.s 1] an)⟩
 refine cd 62 p_1 ?_ ?_
 ·intro g_2;replace h:=zR g_2 h
  refine sr [] [2] [] 2 [Ii 1] [] zF an ?_
  refine rt ?_
  cases h
  exact ⟨.inr rfl,Nat.le_of_ble_eq_true rfl,by kernel_rfl⟩
 intro g_2;replace h:=zQ g_2 h
 refine sk ?_
 refine sq ?_
 refine sq ?_
 obtain ⟨r_2,h_3,h⟩:=bind_some h
 refine rg [(2,{ av:=Ii r_2,l:=[wN r_1.1,zD e_1] })] [1,3,5] [0,1] 2 [Pp 0,Pp 1,Ii r_2] [Vb 42 (zT e_1),Vb 127 (yW r_1.1)] zF (ar ([wN r_1.1,zD e_1]:List AV) (ac (rfl:([]:List zW)=[]) (ac (zIs F r_1.1 e_1 r_2 h_3:zV prog 85 [] [] [wN r_1.1,zD e_1] [] (Ii r_2)) an))) ?_
 refine sr [] [1,3,5,67] [0,1] 2 [Pp 0,Pp 1,Ii r_2,.bool (r_2 != (0:Int))] [Vb 42 (zT e_1),Vb 127 (yW r_1.1)] zF an ?_
 refine cd 67 (r_2 != (0:Int)) ?_ ?_
 ·intro g_3;replace h:=zR g_3 h
  refine sr [] [2] [] 2 [Ii r_2] [] zF an ?_
  refine rt ?_
  cases h
  exact ⟨.inr rfl,Nat.le_of_ble_eq_true rfl,by kernel_rfl⟩
 intro g_3;replace h:=zQ g_3 h
 refine sk ?_
 refine sq ?_
 refine yD (id:=0) (by kernel_rfl) ?_
 refine sq ?_
 refine y4 (mk [(1,Pp 0),(3,Pp 1),(69,.bool (r_1.1.n&&(decide (e_1.N<r_1.1.least)||decide (e_1.N>r_1.1.most))))] [(0,Vb 42 (zT e_1)),(1,Vb 127 (yW r_1.1))] 2) ?_ ?_
 ·rcases Bool.eq_false_or_eq_true r_1.1.n with u2 | u2
  ·rcases bft (decide (e_1.N<r_1.1.least)) with nO | nO
   ·refine rg [(9,Hg),(10,Hg),(11,Hg),(12,Hg),(13,Hg),(14,Ht),(15,Ht)] [1,3,69] [0,1] 2 [Pp 0,Pp 1,.bool true] [Vb 42 (zT e_1),Vb 127 (yW r_1.1)] zF (ac u2 (ac u2 (ac u2 (ac u2 (ac u2 (ac u2 (ac nO (ac nO (ac nO (ac nO (ac nO (ac u2 (ac nO (ac u2 an)))))))))))))) ?_
    exact ⟨rfl,(sw [0,1] [] [.s 1,.s 3,.a 69 (.bool (r_1.1.n&&(decide (e_1.N<r_1.1.least)||decide (e_1.N>r_1.1.most))))] [.s 0,.s 1] (ac (congrArg AV.bool (uO u2 (ort nO)):(.bool true:AV)=.bool (r_1.1.n&&(decide (e_1.N<r_1.1.least)||decide (e_1.N>r_1.1.most)))) an))⟩
   ·refine rg [(14,Hf),(15,Ht)] [1,3,69] [0,1] 2 [Pp 0,Pp 1,.bool (decide (e_1.N>r_1.1.most))] [Vb 42 (zT e_1),Vb 127 (yW r_1.1)] zF (ac u2 (ac u2 (ac u2 (ac u2 (ac u2 (ac u2 (ac nO (ac nO (ac nO (ac nO (ac nO (ac u2 (ac nO (ac u2 an)))))))))))))) ?_
    exact ⟨rfl,(sw [0,1] [] [.s 1,.s 3,.a 69 (.bool (r_1.1.n&&(decide (e_1.N<r_1.1.least)||decide (e_1.N>r_1.1.most))))] [.s 0,.s 1] (ac (congrArg AV.bool (uO u2 (orf nO rfl)):(.bool (decide (e_1.N>r_1.1.most)):AV)=.bool (r_1.1.n&&(decide (e_1.N<r_1.1.least)||decide (e_1.N>r_1.1.most)))) an))⟩
  ·refine rg [(3,Hg),(4,Hg),(5,Hg),(6,Hg),(7,Hg),(8,Hg),(14,Hg),(15,Hf)] [1,3,69] [0,1] 2 [Pp 0,Pp 1,.bool false] [Vb 42 (zT e_1),Vb 127 (yW r_1.1)] zF (ac u2 (ac u2 (ac u2 (ac u2 (ac u2 (ac u2 (ac u2 (ac u2 an)))))))) ?_
   exact ⟨rfl,(sw [0,1] [] [.s 1,.s 3,.a 69 (.bool (r_1.1.n&&(decide (e_1.N<r_1.1.least)||decide (e_1.N>r_1.1.most))))] [.s 0,.s 1] (ac (congrArg AV.bool (j0 u2):(.bool false:AV)=.bool (r_1.1.n&&(decide (e_1.N<r_1.1.least)||decide (e_1.N>r_1.1.most)))) an))⟩
 refine cd 69 (r_1.1.n&&(decide (e_1.N<r_1.1.least)||decide (e_1.N>r_1.1.most))) ?_ ?_
 ·intro g_4;replace h:=zR g_4 h
  refine sr [] [2] [] 2 [Ii 2] [] zF an ?_
  refine rt ?_
  cases h
  exact ⟨.inr rfl,Nat.le_of_ble_eq_true rfl,by kernel_rfl⟩
 intro g_4;replace h:=zQ g_4 h
 refine sq ?_
 refine y4 (mk [(1,Pp 0),(3,Pp 1),(86,.bool ((e_1.Kind==(9:Int))&&((e_1.N != (2:Int))&&(e_1.M != (0:Int)))))] [(0,Vb 42 (zT e_1)),(1,Vb 127 (yW r_1.1))] 2) ?_ ?_
 ·rcases bft (e_1.Kind==(9:Int)) with pA | pA
  ·rcases bft (e_1.N != (2:Int)) with zBP | zBP
   ·refine rg [(7,Ht),(12,Ht)] [1,3,86] [0,1] 2 [Pp 0,Pp 1,.bool (e_1.M != (0:Int))] [Vb 42 (zT e_1),Vb 127 (yW r_1.1)] zF (ac pA (ac pA (ac pA (ac pA (ac zBP (ac zBP (ac zBP (ac zBP an)))))))) ?_
    exact ⟨rfl,(sw [0,1] [] [.s 1,.s 3,.a 86 (.bool ((e_1.Kind==(9:Int))&&((e_1.N != (2:Int))&&(e_1.M != (0:Int)))))] [.s 0,.s 1] (ac (congrArg AV.bool (uO pA (uO zBP rfl)):(.bool (e_1.M != (0:Int)):AV)=.bool ((e_1.Kind==(9:Int))&&((e_1.N != (2:Int))&&(e_1.M != (0:Int))))) an))⟩
   ·refine rg [(7,Ht),(9,Hg),(10,Hg),(11,Hg),(12,Hf)] [1,3,86] [0,1] 2 [Pp 0,Pp 1,.bool false] [Vb 42 (zT e_1),Vb 127 (yW r_1.1)] zF (ac pA (ac pA (ac pA (ac pA (ac zBP (ac zBP (ac zBP (ac zBP an)))))))) ?_
    exact ⟨rfl,(sw [0,1] [] [.s 1,.s 3,.a 86 (.bool ((e_1.Kind==(9:Int))&&((e_1.N != (2:Int))&&(e_1.M != (0:Int)))))] [.s 0,.s 1] (ac (congrArg AV.bool (uO pA (j0 zBP)):(.bool false:AV)=.bool ((e_1.Kind==(9:Int))&&((e_1.N != (2:Int))&&(e_1.M != (0:Int))))) an))⟩
  ·refine rg [(4,Hg),(5,Hg),(6,Hg),(7,Hf),(9,Hg),(10,Hg),(11,Hg),(12,Hf)] [1,3,86] [0,1] 2 [Pp 0,Pp 1,.bool false] [Vb 42 (zT e_1),Vb 127 (yW r_1.1)] zF (ac pA (ac pA (ac pA (ac pA (ac (rfl:false=!true) (ac (rfl:false=!true) (ac (rfl:false=!true) (ar false an)))))))) ?_
   exact ⟨rfl,(sw [0,1] [] [.s 1,.s 3,.a 86 (.bool ((e_1.Kind==(9:Int))&&((e_1.N != (2:Int))&&(e_1.M != (0:Int)))))] [.s 0,.s 1] (ac (congrArg AV.bool (j0 pA):(.bool false:AV)=.bool ((e_1.Kind==(9:Int))&&((e_1.N != (2:Int))&&(e_1.M != (0:Int))))) an))⟩
 refine cd 86 ((e_1.Kind==(9:Int))&&((e_1.N != (2:Int))&&(e_1.M != (0:Int)))) ?_ ?_
 ·intro g_5;replace h:=zR g_5 h
  refine sr [] [2] [] 2 [Ii 1] [] zF an ?_
  refine rt ?_
  cases h
  exact ⟨.inr rfl,Nat.le_of_ble_eq_true rfl,by kernel_rfl⟩
 intro g_5;replace h:=zQ g_5 h
 refine sq ?_
 refine y4 (mk [(100,.bool (r_1.1.m&&(bif decide (e_1.M<r_1.1.mLeast) then ((e_1.Kind != (9:Int))||(e_1.N==(2:Int))) else (decide (e_1.M>r_1.1.mMost)&&((e_1.Kind != (9:Int))||(e_1.N==(2:Int)))))))] [] 0) ?_ ?_
 ·rcases Bool.eq_false_or_eq_true r_1.1.m with wO | wO
  ·rcases bft (decide (e_1.M<r_1.1.mLeast)) with vT | vT
   ·rcases bft (e_1.Kind != (9:Int)) with zBQ | zBQ
    ·refine rg [(9,Hg),(10,Hg),(11,Hg),(12,Hg),(13,Hg),(14,Ht),(15,Ht),(21,Hg),(22,Hg),(23,Hg),(24,Ht),(25,Ht)] [100] [] 2 [.bool true] [] zF (ac wO (ac wO (ac wO (ac wO (ac wO (ac wO (ac vT (ac vT (ac vT (ac vT (ac vT (ac wO (ac vT (ac wO (ar true (ar true (ar true (ar true (ac zBQ (ac zBQ (ac zBQ (ar true (ac zBQ (ar true an)))))))))))))))))))))))) ?_
     exact ⟨rfl,(sw [] [] [.a 100 (.bool (r_1.1.m&&(bif decide (e_1.M<r_1.1.mLeast) then ((e_1.Kind != (9:Int))||(e_1.N==(2:Int))) else (decide (e_1.M>r_1.1.mMost)&&((e_1.Kind != (9:Int))||(e_1.N==(2:Int)))))))] [] (ac (congrArg AV.bool (uO wO (ctr vT (ort zBQ))):(.bool true:AV)=.bool (r_1.1.m&&(bif decide (e_1.M<r_1.1.mLeast) then ((e_1.Kind != (9:Int))||(e_1.N==(2:Int))) else (decide (e_1.M>r_1.1.mMost)&&((e_1.Kind != (9:Int))||(e_1.N==(2:Int))))))) an))⟩
    ·refine rg [(9,Hg),(10,Hg),(11,Hg),(12,Hg),(13,Hg),(14,Ht),(15,Ht),(24,Hf),(25,Ht)] [100] [] 2 [.bool (e_1.N==(2:Int))] [] zF (ac wO (ac wO (ac wO (ac wO (ac wO (ac wO (ac vT (ac vT (ac vT (ac vT (ac vT (ac wO (ac vT (ac wO (ar true (ar true (ar true (ar true (ac zBQ (ac zBQ (ac zBQ (ar true (ac zBQ (ar true an)))))))))))))))))))))))) ?_
     exact ⟨rfl,(sw [] [] [.a 100 (.bool (r_1.1.m&&(bif decide (e_1.M<r_1.1.mLeast) then ((e_1.Kind != (9:Int))||(e_1.N==(2:Int))) else (decide (e_1.M>r_1.1.mMost)&&((e_1.Kind != (9:Int))||(e_1.N==(2:Int)))))))] [] (ac (congrArg AV.bool (uO wO (ctr vT (orf zBQ rfl))):(.bool (e_1.N==(2:Int)):AV)=.bool (r_1.1.m&&(bif decide (e_1.M<r_1.1.mLeast) then ((e_1.Kind != (9:Int))||(e_1.N==(2:Int))) else (decide (e_1.M>r_1.1.mMost)&&((e_1.Kind != (9:Int))||(e_1.N==(2:Int))))))) an))⟩
   ·rcases bft (decide (e_1.M>r_1.1.mMost)) with qP | qP
    ·rcases bft (e_1.Kind != (9:Int)) with zBR | zBR
     ·refine rg [(14,Hf),(15,Ht),(21,Hg),(22,Hg),(23,Hg),(24,Ht),(25,Ht)] [100] [] 2 [.bool true] [] zF (ac wO (ac wO (ac wO (ac wO (ac wO (ac wO (ac vT (ac vT (ac vT (ac vT (ac vT (ac wO (ac vT (ac wO (ac qP (ac qP (ac qP (ac qP (ac zBR (ac zBR (ac zBR (ac qP (ac zBR (ac qP an)))))))))))))))))))))))) ?_
      exact ⟨rfl,(sw [] [] [.a 100 (.bool (r_1.1.m&&(bif decide (e_1.M<r_1.1.mLeast) then ((e_1.Kind != (9:Int))||(e_1.N==(2:Int))) else (decide (e_1.M>r_1.1.mMost)&&((e_1.Kind != (9:Int))||(e_1.N==(2:Int)))))))] [] (ac (congrArg AV.bool (uO wO (cfr vT (uO qP (ort zBR)))):(.bool true:AV)=.bool (r_1.1.m&&(bif decide (e_1.M<r_1.1.mLeast) then ((e_1.Kind != (9:Int))||(e_1.N==(2:Int))) else (decide (e_1.M>r_1.1.mMost)&&((e_1.Kind != (9:Int))||(e_1.N==(2:Int))))))) an))⟩
     ·refine rg [(14,Hf),(15,Ht),(24,Hf),(25,Ht)] [100] [] 2 [.bool (e_1.N==(2:Int))] [] zF (ac wO (ac wO (ac wO (ac wO (ac wO (ac wO (ac vT (ac vT (ac vT (ac vT (ac vT (ac wO (ac vT (ac wO (ac qP (ac qP (ac qP (ac qP (ac zBR (ac zBR (ac zBR (ac qP (ac zBR (ac qP an)))))))))))))))))))))))) ?_
      exact ⟨rfl,(sw [] [] [.a 100 (.bool (r_1.1.m&&(bif decide (e_1.M<r_1.1.mLeast) then ((e_1.Kind != (9:Int))||(e_1.N==(2:Int))) else (decide (e_1.M>r_1.1.mMost)&&((e_1.Kind != (9:Int))||(e_1.N==(2:Int)))))))] [] (ac (congrArg AV.bool (uO wO (cfr vT (uO qP (orf zBR rfl)))):(.bool (e_1.N==(2:Int)):AV)=.bool (r_1.1.m&&(bif decide (e_1.M<r_1.1.mLeast) then ((e_1.Kind != (9:Int))||(e_1.N==(2:Int))) else (decide (e_1.M>r_1.1.mMost)&&((e_1.Kind != (9:Int))||(e_1.N==(2:Int))))))) an))⟩
    ·refine rg [(14,Hf),(15,Ht),(17,Hg),(18,Hg),(19,Hg),(20,Hg),(24,Hg),(25,Hf)] [100] [] 2 [.bool false] [] zF (ac wO (ac wO (ac wO (ac wO (ac wO (ac wO (ac vT (ac vT (ac vT (ac vT (ac vT (ac wO (ac vT (ac wO (ac qP (ac qP (ac qP (ac qP (ac qP (ac qP an)))))))))))))))))))) ?_
     exact ⟨rfl,(sw [] [] [.a 100 (.bool (r_1.1.m&&(bif decide (e_1.M<r_1.1.mLeast) then ((e_1.Kind != (9:Int))||(e_1.N==(2:Int))) else (decide (e_1.M>r_1.1.mMost)&&((e_1.Kind != (9:Int))||(e_1.N==(2:Int)))))))] [] (ac (congrArg AV.bool (uO wO (cfr vT (j0 qP))):(.bool false:AV)=.bool (r_1.1.m&&(bif decide (e_1.M<r_1.1.mLeast) then ((e_1.Kind != (9:Int))||(e_1.N==(2:Int))) else (decide (e_1.M>r_1.1.mMost)&&((e_1.Kind != (9:Int))||(e_1.N==(2:Int))))))) an))⟩
  ·refine rg [(3,Hg),(4,Hg),(5,Hg),(6,Hg),(7,Hg),(8,Hg),(14,Hg),(15,Hf),(17,Hg),(18,Hg),(19,Hg),(20,Hg),(24,Hg),(25,Hf)] [100] [] 2 [.bool false] [] zF (ac wO (ac wO (ac wO (ac wO (ac wO (ac wO (ac wO (ac wO (ac (rfl:false=!true) (ac (rfl:false=!true) (ac (rfl:false=!true) (ac (rfl:false=!true) (ac (rfl:false=!true) (ar false an)))))))))))))) ?_
   exact ⟨rfl,(sw [] [] [.a 100 (.bool (r_1.1.m&&(bif decide (e_1.M<r_1.1.mLeast) then ((e_1.Kind != (9:Int))||(e_1.N==(2:Int))) else (decide (e_1.M>r_1.1.mMost)&&((e_1.Kind != (9:Int))||(e_1.N==(2:Int)))))))] [] (ac (congrArg AV.bool (j0 wO):(.bool false:AV)=.bool (r_1.1.m&&(bif decide (e_1.M<r_1.1.mLeast) then ((e_1.Kind != (9:Int))||(e_1.N==(2:Int))) else (decide (e_1.M>r_1.1.mMost)&&((e_1.Kind != (9:Int))||(e_1.N==(2:Int))))))) an))⟩
 refine cd 100 (r_1.1.m&&(bif decide (e_1.M<r_1.1.mLeast) then ((e_1.Kind != (9:Int))||(e_1.N==(2:Int))) else (decide (e_1.M>r_1.1.mMost)&&((e_1.Kind != (9:Int))||(e_1.N==(2:Int)))))) ?_ ?_
 ·intro g_6;replace h:=zR g_6 h
  refine sr [] [2] [] 0 [Ii 2] [] zF an ?_
  refine rt ?_
  cases h
  exact ⟨.inr rfl,Nat.le_of_ble_eq_true rfl,by kernel_rfl⟩
 intro g_6;replace h:=zQ g_6 h
 refine sk ?_
 refine sr [] [2] [] 0 [Ii 0] [] zF an ?_
 refine rt ?_
 cases h
 exact ⟨.inr rfl,Nat.le_of_ble_eq_true rfl,by kernel_rfl⟩
theorem zF5 (F:Nat) (l_1:List (zI)) (r:Int) (h:pS F l_1=some r):zV prog 61 [] [] [.sl false 6 (Mp zD l_1)] [] (Ii r):=by
 refine yG (fn:=Go.Proofs.Try.f61) (code:=xC Go.Proofs.Try.f61) (by kernel_rfl) (by kernel_rfl) (Nat.le_of_ble_eq_true (by kernel_rfl)) ?_
 unfold pS at h
 refine sr [] [0] [] 0 [.sl false 6 (Mp zD l_1)] [] zF an ?_
 refine sq ?_
 refine sr [(1,{ n:=(l_1).length })] [0,6,7,8] [] 0 [.sl false 6 (Mp zD l_1),.sl false 6 (Mp zD l_1),Ii (lN (l_1)),Ii 0] [] zF (ac (yF _:((Mp zD l_1)).length=(l_1).length) an) ?_
 obtain ⟨o_1,h_1,h⟩:=bind_some h
 refine wI (K1:=(fun e st'=>match o_1 with | (.inl q0)=>e=.normal∧Sub 0 st' (mk [] [] 0) | (.inr q1)=>e=.ret∧uE prog Go.Proofs.Try.f61 0 [] (Ii q1) st')) ?_ ?_
 ·replace h:=h_1
  refine yD (id:=0) (by kernel_rfl) ?_
  refine wk [] [] [.s 0,.s 6,.s 7,.s 8] [] [(0,.sl false 6 (Mp zD l_1)),(6,.sl false 6 (Mp zD l_1)),(7,Ii (lN (l_1))),(8,Ii 0)] [] an ?_
  refine xI (fun n st=>∃ (v_1:Int),st=mk [(0,.sl false 6 (Mp zD l_1)),(6,.sl false 6 (Mp zD l_1)),(7,Ii (lN (l_1))),(8,Ii v_1)] [] 0∧qL F l_1 n v_1=some o_1) F (by kernel_rfl) ⟨_,rfl,h⟩ ?_ ?_
  ·rintro _ ⟨_,_,h⟩;exact xN (h:(none:Option (Unit⊕Int))=some o_1)
  rintro n_1 _ ⟨v_1,rfl,h⟩
  replace h:tQ F l_1 (qL F l_1 n_1) v_1=some o_1:=h
  unfold tQ at h
  refine sr [] [0,6,7,8,9] [] 0 [.sl false 6 (Mp zD l_1),.sl false 6 (Mp zD l_1),Ii (lN (l_1)),Ii v_1,.bool (decide (v_1<(lN (l_1))))] [] zF an ?_
  refine sq ?_
  refine cd 9 (decide (v_1<(lN (l_1)))) ?_ ?_
  rotate_left
  ·intro g_1;replace h:=zQ g_1 h
   refine xM (id:=0) (by kernel_rfl) ?_
   cases h
   exact ⟨rfl,(sw [] [] [] [] an)⟩
  intro g_1;replace h:=zR g_1 h
  refine sk ?_
  refine sq ?_
  refine yD (id:=1) (by kernel_rfl) ?_
  refine sq ?_
  obtain ⟨x_1,h_2,h⟩:=bind_some h
  refine rg [(1,{ av:=zD x_1 }),(3,{ id:=0 })] [0,3,4,6,7,8] [0] 1 [.sl false 6 (Mp zD l_1),Ii v_1,Pp 0,.sl false 6 (Mp zD l_1),Ii (lN (l_1)),Ii v_1] [Vb 42 (zT x_1)] zF (ac (yR h_2:xJ (Mp zD l_1) v_1=some (zD x_1)) an) ?_
  refine sq ?_
  refine sq ?_
  obtain ⟨r_1,h_3,h⟩:=bind_some h
  refine rg [(1,{ av:=Ii r_1,l:=[zD x_1] })] [0,3,4,5,6,7,8] [0] 1 [.sl false 6 (Mp zD l_1),Ii v_1,Pp 0,Ii r_1,.sl false 6 (Mp zD l_1),Ii (lN (l_1)),Ii v_1] [Vb 42 (zT x_1)] zF (ar ([zD x_1]:List AV) (ac (rfl:([]:List zW)=[]) (ac (zIB F x_1 r_1 h_3:zV prog 74 [] [] [zD x_1] [] (Ii r_1)) an))) ?_
  refine sr [] [0,3,4,5,6,7,8,16] [0] 1 [.sl false 6 (Mp zD l_1),Ii v_1,Pp 0,Ii r_1,.sl false 6 (Mp zD l_1),Ii (lN (l_1)),Ii v_1,.bool (r_1 != (0:Int))] [Vb 42 (zT x_1)] zF an ?_
  refine cd 16 (r_1 != (0:Int)) ?_ ?_
  ·intro g_2;replace h:=zR g_2 h
   refine sr [] [2] [] 1 [Ii r_1] [] zF an ?_
   refine rt ?_
   cases h
   exact ⟨rfl,Nat.le_of_ble_eq_true rfl,by kernel_rfl⟩
  intro g_2;replace h:=zQ g_2 h
  refine sk ?_
  refine sq ?_
  obtain ⟨p_1,h_5,h⟩:=bind_some h
  refine y4 (mk [(0,.sl false 6 (Mp zD l_1)),(6,.sl false 6 (Mp zD l_1)),(7,Ii (lN (l_1))),(8,Ii v_1),(30,.bool p_1)] [] 0) ?_ ?_
  ·replace h:=h_5
   rcases bft (decide (v_1>(0:Int))) with zS | zS
   ·replace h:=zR zS h
    obtain ⟨x_2,h_4,h⟩:=bind_some h
    refine rg [(8,{ av:=zD x_2 }),(12,Ht)] [0,6,7,8,21,22,23,24,25,26,27,28,29,30] [0] 1 [.sl false 6 (Mp zD l_1),.sl false 6 (Mp zD l_1),Ii (lN (l_1)),Ii v_1,Pp 0,Ii x_1.At,.sl false 6 (Mp zD l_1),Ii v_1,Ii (zP (v_1 - (1:Int))),.ref (zD x_2),.ref (Ii x_2.At),Ii x_2.At,.bool (decide (x_1.At<x_2.At)),.bool (decide (x_1.At<x_2.At))] [Vb 42 (zT x_1)] zF (ac zS (ac zS (ac zS (ac zS (ac zS (ac zS (ac (yR h_4:xJ (Mp zD l_1) (zP (v_1 - (1:Int)))=some (zD x_2)) (ac zS (ac zS (ac zS (ac zS an))))))))))) ?_
    cases h
    exact ⟨rfl,(sw [] [] [.s 0,.s 6,.s 7,.s 8,.s 30] [] an)⟩
   ·replace h:=zQ zS h
    refine rg [(3,Hg),(4,Hg),(5,Hg),(6,Hg),(7,Hg),(8,Hg),(9,Hg),(10,Hg),(11,Hg),(12,Hf)] [0,6,7,8,21,22,23,24,25,26,27,28,29,30] [] 1 [.sl false 6 (Mp zD l_1),.sl false 6 (Mp zD l_1),Ii (lN (l_1)),Ii v_1,.tuple [],.tuple [],.tuple [],.tuple [],.tuple [],.tuple [],.tuple [],.tuple [],.tuple [],.bool false] [] zF (ac zS (ac zS (ac zS (ac zS (ac zS (ac zS (ac zS (ac zS (ac zS (ac zS an)))))))))) ?_
    cases h
    exact ⟨rfl,(sw [] [] [.s 0,.s 6,.s 7,.s 8,.s 30] [] an)⟩
  refine cd 30 p_1 ?_ ?_
  rotate_left
  ·intro g_3;replace h:=zQ g_3 h
   refine sk ?_
   refine rg [] [0,6,7,8] [] 0 [.sl false 6 (Mp zD l_1),.sl false 6 (Mp zD l_1),Ii (lN (l_1)),Ii (zP (v_1+(1:Int)))] [] zF an ?_
   exact ⟨_,(sw [] [] [.s 0,.s 6,.s 7,.s 8] [] an),_,rfl,h⟩
  intro g_3;replace h:=zR g_3 h
  refine sr [] [2] [] 0 [Ii 11] [] zF an ?_
  refine rt ?_
  cases h
  exact ⟨rfl,Nat.le_of_ble_eq_true rfl,by kernel_rfl⟩
 intro e st1 hk
 rcases o_1 with q_1 | q_2
 rotate_left
 ·obtain ⟨rfl,hf⟩:=hk
  cases h
  exact ⟨st1,Sub.refl _ _,.inr rfl,hf⟩
 obtain ⟨rfl,hs⟩:=hk
 refine ⟨_,hs,?_⟩
 refine sr [] [2] [] 0 [Ii 0] [] zF an ?_
 refine rt ?_
 cases h
 exact ⟨.inr rfl,Nat.le_of_ble_eq_true rfl,by kernel_rfl⟩
theorem zHO (F:Nat) (p_1:zB) (r:Int) (h:zAh F p_1=some r):zV prog 43 [] [] [zA p_1] [] (Ii r):=by
 refine yG (fn:=Go.Proofs.Try.f43) (code:=xC Go.Proofs.Try.f43) (by kernel_rfl) (by kernel_rfl) (Nat.le_of_ble_eq_true (by kernel_rfl)) ?_
 unfold zAh at h
 refine sr [(0,{ id:=0 })] [1] [0] 1 [Pp 0] [Vb 59 (zX p_1)] zF an ?_
 refine sq ?_
 refine sr [(6,{ id:=1 })] [1,11,12,13] [0,1] 2 [Pp 0,.own 1 3,Ii ((3:Nat):Int),Ii 0] [Vb 59 (zX p_1),Rb 3 1 (Mi ([p_1.Thread,p_1.Serial,p_1.Lost]:List Int))] zF an ?_
 obtain ⟨o_1,h_1,h⟩:=bind_some h
 refine wI (K1:=(fun e st'=>match o_1 with | (.inl q0)=>e=.normal∧Sub 0 st' (mk [(1,Pp 0)] [(0,Vb 59 (zX p_1))] 1) | (.inr q1)=>e=.ret∧uE prog Go.Proofs.Try.f43 0 [] (Ii q1) st')) ?_ ?_
 ·replace h:=h_1
  refine yD (id:=0) (by kernel_rfl) ?_
  refine wk [0,1] [] [.s 1,.a 11 (.own 1 ((([p_1.Thread,p_1.Serial,p_1.Lost]:List Int)).length)),.s 12,.s 13] [.s 0,.s 1] [(1,Pp 0),(11,.own 1 ((([p_1.Thread,p_1.Serial,p_1.Lost]:List Int)).length)),(12,Ii ((3:Nat):Int)),(13,Ii 0)] [(0,Vb 59 (zX p_1)),(1,Rb 3 1 (Mi ([p_1.Thread,p_1.Serial,p_1.Lost]:List Int)))] (ac (congrArg (AV.own _) (by first | (simp;done) | (simp;omega)):(.own 1 3:AV)=.own 1 ((([p_1.Thread,p_1.Serial,p_1.Lost]:List Int)).length)) an) ?_
  refine xI (fun n st=>∃ (v_1:Int),st=mk [(1,Pp 0),(11,.own 1 ((([p_1.Thread,p_1.Serial,p_1.Lost]:List Int)).length)),(12,Ii ((3:Nat):Int)),(13,Ii v_1)] [(0,Vb 59 (zX p_1)),(1,Rb 3 1 (Mi ([p_1.Thread,p_1.Serial,p_1.Lost]:List Int)))] 2∧kI F p_1 n v_1=some o_1) F (by kernel_rfl) ⟨_,rfl,h⟩ ?_ ?_
  ·rintro _ ⟨_,_,h⟩;exact xN (h:(none:Option (Unit⊕Int))=some o_1)
  rintro n_1 _ ⟨v_1,rfl,h⟩
  replace h:vI F p_1 (kI F p_1 n_1) v_1=some o_1:=h
  unfold vI at h
  refine sr [] [1,11,12,13,14] [0,1] 2 [Pp 0,.own 1 ((([p_1.Thread,p_1.Serial,p_1.Lost]:List Int)).length),Ii ((3:Nat):Int),Ii v_1,.bool (decide (v_1<((3:Nat):Int)))] [Vb 59 (zX p_1),Rb 3 1 (Mi ([p_1.Thread,p_1.Serial,p_1.Lost]:List Int))] zF an ?_
  refine sq ?_
  refine cd 14 (decide (v_1<((3:Nat):Int))) ?_ ?_
  rotate_left
  ·intro g_1;replace h:=zQ g_1 h
   refine xM (id:=0) (by kernel_rfl) ?_
   cases h
   exact ⟨rfl,(sw [0] [] [.s 1] [.s 0] an)⟩
  intro g_1;replace h:=zR g_1 h
  refine sk ?_
  refine sq ?_
  refine yD (id:=1) (by kernel_rfl) ?_
  refine sq ?_
  obtain ⟨x_1,h_2,h⟩:=bind_some h
  refine rg [(1,{ av:=Ii x_1 })] [1,4,11,12,13] [0,1] 2 [Pp 0,Ii x_1,.own 1 ((([p_1.Thread,p_1.Serial,p_1.Lost]:List Int)).length),Ii ((3:Nat):Int),Ii v_1] [Vb 59 (zX p_1),Rb 3 1 (Mi ([p_1.Thread,p_1.Serial,p_1.Lost]:List Int))] zF (ac (pT h_2:(0:Int)≤v_1) (ac (by first | (simp;done) | simpa using pK h_2:v_1<(((([p_1.Thread,p_1.Serial,p_1.Lost]:List Int)).length:Nat):Int)) (ac (zAl h_2:(Mi ([p_1.Thread,p_1.Serial,p_1.Lost]:List Int))[(v_1).toNat]?=some (Ii x_1)) an))) ?_
  refine sq ?_
  refine y4 (mk [(1,Pp 0),(11,.own 1 ((([p_1.Thread,p_1.Serial,p_1.Lost]:List Int)).length)),(12,Ii ((3:Nat):Int)),(13,Ii v_1),(22,.bool (decide (x_1<(0:Int))||decide (x_1>(1000000000000000:Int))))] [(0,Vb 59 (zX p_1)),(1,Rb 3 1 (Mi ([p_1.Thread,p_1.Serial,p_1.Lost]:List Int)))] 2) ?_ ?_
  ·rcases bft (decide (x_1<(0:Int))) with zS | zS
   ·refine rg [(3,Hg),(4,Hg),(5,Ht)] [1,11,12,13,20,21,22] [0,1] 2 [Pp 0,.own 1 ((([p_1.Thread,p_1.Serial,p_1.Lost]:List Int)).length),Ii ((3:Nat):Int),Ii v_1,.tuple [],.tuple [],.bool true] [Vb 59 (zX p_1),Rb 3 1 (Mi ([p_1.Thread,p_1.Serial,p_1.Lost]:List Int))] zF (ac zS (ac zS (ac zS an))) ?_
    exact ⟨rfl,(sw [0,1] [] [.s 1,.s 11,.s 12,.s 13,.a 22 (.bool (decide (x_1<(0:Int))||decide (x_1>(1000000000000000:Int))))] [.s 0,.s 1] (ac (congrArg AV.bool (ort zS):(.bool true:AV)=.bool (decide (x_1<(0:Int))||decide (x_1>(1000000000000000:Int)))) an))⟩
   ·refine rg [(5,Hf)] [1,11,12,13,20,21,22] [0,1] 2 [Pp 0,.own 1 ((([p_1.Thread,p_1.Serial,p_1.Lost]:List Int)).length),Ii ((3:Nat):Int),Ii v_1,Ii x_1,.bool (decide (x_1>(1000000000000000:Int))),.bool (decide (x_1>(1000000000000000:Int)))] [Vb 59 (zX p_1),Rb 3 1 (Mi ([p_1.Thread,p_1.Serial,p_1.Lost]:List Int))] zF (ac zS (ac zS (ac zS an))) ?_
    exact ⟨rfl,(sw [0,1] [] [.s 1,.s 11,.s 12,.s 13,.a 22 (.bool (decide (x_1<(0:Int))||decide (x_1>(1000000000000000:Int))))] [.s 0,.s 1] (ac (congrArg AV.bool (orf zS rfl):(.bool (decide (x_1>(1000000000000000:Int))):AV)=.bool (decide (x_1<(0:Int))||decide (x_1>(1000000000000000:Int)))) an))⟩
  refine cd 22 (decide (x_1<(0:Int))||decide (x_1>(1000000000000000:Int))) ?_ ?_
  rotate_left
  ·intro g_2;replace h:=zQ g_2 h
   refine sk ?_
   refine rg [] [1,11,12,13] [0,1] 2 [Pp 0,.own 1 ((([p_1.Thread,p_1.Serial,p_1.Lost]:List Int)).length),Ii ((3:Nat):Int),Ii (zP (v_1+(1:Int)))] [Vb 59 (zX p_1),Rb 3 1 (Mi ([p_1.Thread,p_1.Serial,p_1.Lost]:List Int))] zF an ?_
   exact ⟨_,(sw [0,1] [] [.s 1,.s 11,.s 12,.s 13] [.s 0,.s 1] an),_,rfl,h⟩
  intro g_2;replace h:=zR g_2 h
  refine sr [] [2] [] 2 [Ii 2] [] zF an ?_
  refine rt ?_
  cases h
  exact ⟨rfl,Nat.le_of_ble_eq_true rfl,by kernel_rfl⟩
 intro e st1 hk
 rcases o_1 with q_1 | q_2
 rotate_left
 ·obtain ⟨rfl,hf⟩:=hk
  cases h
  exact ⟨st1,Sub.refl _ _,.inr rfl,hf⟩
 obtain ⟨rfl,hs⟩:=hk
 refine ⟨_,hs,?_⟩
 refine sq ?_
 refine yD (id:=2) (by kernel_rfl) ?_
 refine sq ?_
 refine sr [] [1,24] [0] 1 [Pp 0,.bool (decide (p_1.Lost>p_1.Serial))] [Vb 59 (zX p_1)] zF an ?_
 obtain ⟨o_2,h_3,h⟩:=bind_some h
 refine y4 (mk [(1,Pp 0),(24,.bool o_2)] [(0,Vb 59 (zX p_1))] 1) ?_ ?_
 ·replace h:=h_3
  refine cd 24 (decide (p_1.Lost>p_1.Serial)) ?_ ?_
  ·intro g_3;replace h:=zR g_3 h
   refine sk ?_
   cases h
   exact ⟨rfl,(sw [0] [] [.s 1,.s 24] [.s 0] an)⟩
  intro g_3;replace h:=zQ g_3 h
  refine rg [(4,{ n:=(p_1.Events).length })] [1,24] [0] 1 [Pp 0,.bool (decide ((zP (p_1.Serial+(lN (p_1.Events))))>(1000000000000000:Int)))] [Vb 59 (zX p_1)] zF (ac (yF _:((Mp zD p_1.Events)).length=(p_1.Events).length) an) ?_
  cases h
  exact ⟨rfl,(sw [0] [] [.s 1,.s 24] [.s 0] an)⟩
 refine cd 24 o_2 ?_ ?_
 ·intro g_4;replace h:=zR g_4 h
  refine sr [] [2] [] 1 [Ii 2] [] zF an ?_
  refine rt ?_
  cases h
  exact ⟨.inr rfl,Nat.le_of_ble_eq_true rfl,by kernel_rfl⟩
 intro g_4;replace h:=zQ g_4 h
 refine sr [(2,{ n:=(p_1.Events).length })] [1,37] [0] 1 [Pp 0,.bool ((lN (p_1.Events))==(0:Int))] [Vb 59 (zX p_1)] zF (ac (yF _:((Mp zD p_1.Events)).length=(p_1.Events).length) an) ?_
 refine cd 37 ((lN (p_1.Events))==(0:Int)) ?_ ?_
 ·intro g_5;replace h:=zR g_5 h
  refine sr [] [2] [] 1 [Ii 8] [] zF an ?_
  refine rt ?_
  cases h
  exact ⟨.inr rfl,Nat.le_of_ble_eq_true rfl,by kernel_rfl⟩
 intro g_5;replace h:=zQ g_5 h
 refine sr [(2,{ n:=(p_1.Events).length })] [1,42] [0] 1 [Pp 0,.bool (decide ((lN (p_1.Events))>(1000:Int)))] [Vb 59 (zX p_1)] zF (ac (yF _:((Mp zD p_1.Events)).length=(p_1.Events).length) an) ?_
 refine cd 42 (decide ((lN (p_1.Events))>(1000:Int))) ?_ ?_
 ·intro g_6;replace h:=zR g_6 h
  refine sr [] [2] [] 1 [Ii 7] [] zF an ?_
  refine rt ?_
  cases h
  exact ⟨.inr rfl,Nat.le_of_ble_eq_true rfl,by kernel_rfl⟩
 intro g_6;replace h:=zQ g_6 h
 refine sk ?_
 refine sq ?_
 obtain ⟨r_1,h_4,h⟩:=bind_some h
 refine rg [(2,{ av:=Ii r_1,l:=[.sl false 6 (Mp zD p_1.Events)] })] [2] [] 1 [Ii r_1] [] zF (ar ([.sl false 6 (Mp zD p_1.Events)]:List AV) (ac (rfl:([]:List zW)=[]) (ac (zF5 F p_1.Events r_1 h_4:zV prog 61 [] [] [.sl false 6 (Mp zD p_1.Events)] [] (Ii r_1)) an))) ?_
 refine rt ?_
 cases h
 exact ⟨.inr rfl,Nat.le_of_ble_eq_true rfl,by kernel_rfl⟩
theorem zE5 (t_1:xQ) (p_1:zB) (r:Bool) (h:j5 t_1 p_1=some r):zV prog 51 [(.var 100 (xY t_1))] [] [Pp 0,zA p_1] [(.var 100 (xY t_1))] (.bool r):=by
 refine yG (fn:=Go.Proofs.Try.f51) (code:=xC Go.Proofs.Try.f51) (by kernel_rfl) (by kernel_rfl) (Nat.le_of_ble_eq_true (by kernel_rfl)) ?_
 unfold j5 at h
 refine sr [(0,{ id:=1 })] [0,3] [0,1] 2 [Pp 0,Pp 1] [Vb 100 (xY t_1),Vb 59 (zX p_1)] zF an ?_
 refine sq ?_
 obtain ⟨p_2,h_2,h⟩:=bind_some h
 refine y4 (mk [(4,.bool p_2)] [(0,Vb 100 (xY t_1))] 1) ?_ ?_
 ·replace h:=h_2
  rcases bft ((zP (p_1.Serial - p_1.Lost))==t_1.next) with zH | zH
  ·replace h:=zR zH h
   obtain ⟨x_1,h_1,h⟩:=bind_some h
   refine rg [(13,{ av:=zD x_1 }),(21,Ht)] [4] [0] 2 [.bool (decide (x_1.At≥t_1.last))] [Vb 100 (xY t_1)] zF (ac zH (ac zH (ac zH (ac (yR h_1:xJ (Mp zD p_1.Events) (0:Int)=some (zD x_1)) (ac zH (ac zH (ac zH (ac zH (ac zH (ac zH (ac zH (ac zH an)))))))))))) ?_
   cases h
   exact ⟨rfl,(sw [0] [] [.s 4] [.s 0] an)⟩
  ·replace h:=zQ zH h
   refine rg [(11,Hg),(12,Hg),(13,Hg),(14,Hg),(15,Hg),(16,Hg),(17,Hg),(18,Hg),(19,Hg),(20,Hg),(21,Hf)] [4] [0] 2 [.bool false] [Vb 100 (xY t_1)] zF (ac zH (ac zH (ac zH (ac zH (ac zH (ac zH (ac zH (ac zH (ac zH (ac zH (ac zH an))))))))))) ?_
   cases h
   exact ⟨rfl,(sw [0] [] [.s 4] [.s 0] an)⟩
 refine wk [0] [] [.s 4] [.s 0] [(4,.bool p_2)] [(0,Vb 100 (xY t_1))] an ?_
 refine rt ?_
 cases h
 exact ⟨.inr rfl,Nat.le_of_ble_eq_true rfl,by kernel_rfl⟩
theorem zE9 (t_1:xQ) (p_1:zB) (r:xQ) (h:jS t_1 p_1=some r):zV prog 52 [(.var 100 (xY t_1))] [] [Pp 0,zA p_1] [(.var 100 (xY r))] (.tuple []):=by
 refine yG (fn:=Go.Proofs.Try.f52) (code:=xC Go.Proofs.Try.f52) (by kernel_rfl) (by kernel_rfl) (Nat.le_of_ble_eq_true (by kernel_rfl)) ?_
 unfold jS at h
 refine sr [(0,{ id:=1 })] [0,3] [0,1] 2 [Pp 0,Pp 1] [Vb 100 (xY t_1),Vb 59 (zX p_1)] zF an ?_
 refine sr [(5,{ n:=(p_1.Events).length })] [0,3] [0,1] 2 [Pp 0,Pp 1] [Vb 100 [Ii (zP (p_1.Serial+(lN (p_1.Events)))),Ii t_1.last],Vb 59 (zX p_1)] zF (ac (yF _:((Mp zD p_1.Events)).length=(p_1.Events).length) an) ?_
 obtain ⟨x_1,h_1,h⟩:=bind_some h
 refine rg [(5,{ n:=(p_1.Events).length }),(7,{ av:=zD x_1 })] [] [0] 2 [] [Vb 100 [Ii (zP (p_1.Serial+(lN (p_1.Events)))),Ii x_1.At]] zF (ac (yF _:((Mp zD p_1.Events)).length=(p_1.Events).length) (ac (yR h_1:xJ (Mp zD p_1.Events) (zP ((lN (p_1.Events)) - (1:Int)))=some (zD x_1)) an)) ?_
 cases h
 exact ⟨.inl rfl,Nat.le_of_ble_eq_true rfl,by kernel_rfl⟩
theorem zJP (F:Nat) (h_1:zL) (l_1:List (zB)) (r:Int) (h:zCu F h_1 l_1=some r):zV prog 28 [] [] [yU h_1,.sl false 4 (Mp zA l_1)] [] (Ii r):=by
 refine yG (fn:=Go.Proofs.Try.f28) (code:=xC Go.Proofs.Try.f28) (by kernel_rfl) (by kernel_rfl) (Nat.le_of_ble_eq_true (by kernel_rfl)) ?_
 unfold zCu at h
 refine sr [(0,{ id:=0 })] [1,2] [0] 1 [.sl false 4 (Mp zA l_1),Pp 0] [Vb 26 (zN h_1)] zF an ?_
 refine sr [(0,{ id:=1,mag:=false,mks:=[.int .i64] })] [1,2,5] [0,1] 2 [.sl false 4 (Mp zA l_1),Pp 0,.mp 1] [Vb 26 (zN h_1),.live (.map false [.int .i64] [])] zF an ?_
 refine zJR 1 2 (ag:=false) (ks:=[.int .i64]) (.pm 100) (by kernel_rfl) (by kernel_rfl) (zPc (by kernel_rfl)) ?_
 intro b_1
 refine wk [0,2] [] [.s 1,.s 2,.s 5] [.s 0,.s 1] [(1,.sl false 4 (Mp zA l_1)),(2,Pp 0),(5,.rawm b_1)] [(0,Vb 26 (zN h_1)),(1,.live (.fam (.cl b_1 false [.int .i64] (.pm 100) (List.map (mpE (AV.int .i64) xA) ([]:List (Int×xQ))))))] an ?_
 refine sq ?_
 refine sr [(2,{ n:=(h_1.Threads).length })] [1,5,16,17,18] [1] 2 [.sl false 4 (Mp zA l_1),.rawm b_1,.sl false 3 (Mp zG h_1.Threads),Ii (lN (h_1.Threads)),Ii 0] [.live (.fam (.cl b_1 false [.int .i64] (.pm 100) (List.map (mpE (AV.int .i64) xA) ([]:List (Int×xQ)))))] zF (ac (yF _:((Mp zG h_1.Threads)).length=(h_1.Threads).length) an) ?_
 obtain ⟨o_1,h_2,h⟩:=bind_some h
 refine y4 (mk [(1,.sl false 4 (Mp zA l_1)),(5,.rawm b_1)] [(0,.live (.fam (.cl b_1 false [.int .i64] (.pm 100) (List.map (mpE (AV.int .i64) xA) o_1))))] 1) ?_ ?_
 ·replace h:=h_2
  refine yD (id:=0) (by kernel_rfl) ?_
  refine wk [1] [] [.s 1,.s 5,.s 16,.s 17,.s 18] [.s 0] [(1,.sl false 4 (Mp zA l_1)),(5,.rawm b_1),(16,.sl false 3 (Mp zG h_1.Threads)),(17,Ii (lN (h_1.Threads))),(18,Ii 0)] [(0,.live (.fam (.cl b_1 false [.int .i64] (.pm 100) (List.map (mpE (AV.int .i64) xA) ([]:List (Int×xQ))))))] an ?_
  refine xI (fun n st=>∃ (v_1:Int),∃ (zE:List (Int×xQ)),st=mk [(1,.sl false 4 (Mp zA l_1)),(5,.rawm b_1),(16,.sl false 3 (Mp zG h_1.Threads)),(17,Ii (lN (h_1.Threads))),(18,Ii v_1)] [(0,.live (.fam (.cl b_1 false [.int .i64] (.pm 100) (List.map (mpE (AV.int .i64) xA) zE))))] 1∧qU F h_1 n v_1 zE=some o_1) F (by kernel_rfl) ⟨_,_,rfl,h⟩ ?_ ?_
  ·rintro _ ⟨_,_,_,h⟩;exact xN (h:(none:Option (List (Int×xQ)))=some o_1)
  rintro n_1 _ ⟨v_1,zE,rfl,h⟩
  replace h:jJ F h_1 (qU F h_1 n_1) v_1 zE=some o_1:=h
  unfold jJ at h
  refine sr [] [1,5,16,17,18,19] [0] 1 [.sl false 4 (Mp zA l_1),.rawm b_1,.sl false 3 (Mp zG h_1.Threads),Ii (lN (h_1.Threads)),Ii v_1,.bool (decide (v_1<(lN (h_1.Threads))))] [.live (.fam (.cl b_1 false [.int .i64] (.pm 100) (List.map (mpE (AV.int .i64) xA) zE)))] zF an ?_
  refine sq ?_
  refine cd 19 (decide (v_1<(lN (h_1.Threads)))) ?_ ?_
  rotate_left
  ·intro g_1;replace h:=zQ g_1 h
   refine xM (id:=0) (by kernel_rfl) ?_
   cases h
   exact ⟨rfl,(sw [0] [] [.s 1,.s 5] [.s 0] an)⟩
  intro g_1;replace h:=zR g_1 h
  refine sk ?_
  refine sq ?_
  refine yD (id:=1) (by kernel_rfl) ?_
  refine sq ?_
  obtain ⟨x_1,h_3,h⟩:=bind_some h
  refine rg [(0,{ av:=zG x_1 }),(2,{ id:=1 })] [1,5,7,16,17,18] [0,1] 2 [.sl false 4 (Mp zA l_1),.rawm b_1,Pp 1,.sl false 3 (Mp zG h_1.Threads),Ii (lN (h_1.Threads)),Ii v_1] [.live (.fam (.cl b_1 false [.int .i64] (.pm 100) (List.map (mpE (AV.int .i64) xA) zE))),Vb 66 (yI x_1)] zF (ac (yR h_3:xJ (Mp zG h_1.Threads) v_1=some (zG x_1)) an) ?_
  obtain ⟨_,h_4,h⟩:=bind_some h;replace h_4:=wK h_4
  refine rg [(4,{ id:=2 }),(5,{ av:=(.agg [Ii 0,Ii 0]),dep:=true,es:=(List.map (mpE (AV.int .i64) xA) (u1 zE x_1.Id (⟨(0:Int),(0:Int)⟩:xQ))),ids:=[2],n:=0,x:=true })] [1,5,16,17,18] [0] 3 [.sl false 4 (Mp zA l_1),.rawm b_1,.sl false 3 (Mp zG h_1.Threads),Ii (lN (h_1.Threads)),Ii v_1] [.live (.fam (.cl b_1 false [.int .i64] (.pm 100) (List.map (mpE (AV.int .i64) xA) (u1 zE x_1.Id (⟨(0:Int),(0:Int)⟩:xQ)))))] zF (ar b_1 (ac (trivial:True) (ac (zBv:v3 prog 3 false [.int .i64]) (ac (zEy (f:=(AV.int .i64)) (g:=xA) zBq zE x_1.Id (⟨(0:Int),(0:Int)⟩:xQ):zDj (List.map (mpE (AV.int .i64) xA) zE) (Ii x_1.Id) (.agg [Ii 0,Ii 0]) (List.map (mpE (AV.int .i64) xA) (u1 zE x_1.Id (⟨(0:Int),(0:Int)⟩:xQ)))) (ac (zIf (l:=zE) h_4:(List.map (mpE (AV.int .i64) xA) zE:List (AV×AV)).length<maxLen) (ac (rfl:(Pp 2:AV)=Pp 2) (ac (rfl:([Vb 100 [Ii 0,Ii 0]]:List zW)=[Vb 100 [Ii 0,Ii 0]]) an))))))) ?_
  refine rg [] [1,5,16,17,18] [0] 3 [.sl false 4 (Mp zA l_1),.rawm b_1,.sl false 3 (Mp zG h_1.Threads),Ii (lN (h_1.Threads)),Ii (zP (v_1+(1:Int)))] [.live (.fam (.cl b_1 false [.int .i64] (.pm 100) (List.map (mpE (AV.int .i64) xA) (u1 zE x_1.Id (⟨(0:Int),(0:Int)⟩:xQ)))))] zF an ?_
  exact ⟨_,(sw [0] [] [.s 1,.s 5,.s 16,.s 17,.s 18] [.s 0] an),_,_,rfl,h⟩
 refine sr [] [1,5,8] [0] 1 [.sl false 4 (Mp zA l_1),.rawm b_1,Ii 0] [.live (.fam (.cl b_1 false [.int .i64] (.pm 100) (List.map (mpE (AV.int .i64) xA) o_1)))] zF an ?_
 refine sq ?_
 refine sr [(1,{ n:=(l_1).length })] [5,8,28,29,30] [0] 1 [.rawm b_1,Ii 0,.sl false 4 (Mp zA l_1),Ii (lN (l_1)),Ii 0] [.live (.fam (.cl b_1 false [.int .i64] (.pm 100) (List.map (mpE (AV.int .i64) xA) o_1)))] zF (ac (yF _:((Mp zA l_1)).length=(l_1).length) an) ?_
 obtain ⟨o_2,h_5,h⟩:=bind_some h
 refine wI (K1:=(fun e st'=>match o_2 with | (.inl q0)=>e=.normal∧Sub 0 st' (mk [(8,Ii q0)] [] 0) | (.inr q1)=>e=.ret∧uE prog Go.Proofs.Try.f28 0 [] (Ii q1) st')) ?_ ?_
 ·replace h:=h_5
  refine yD (id:=2) (by kernel_rfl) ?_
  refine wk [0] [] [.s 5,.s 8,.s 28,.s 29,.s 30] [.s 0] [(5,.rawm b_1),(8,Ii 0),(28,.sl false 4 (Mp zA l_1)),(29,Ii (lN (l_1))),(30,Ii 0)] [(0,.live (.fam (.cl b_1 false [.int .i64] (.pm 100) (List.map (mpE (AV.int .i64) xA) o_1))))] an ?_
  refine xI (fun n st=>∃ (uF:Int),∃ (v_2:Int),∃ (zY:List (Int×xQ)),st=mk [(5,.rawm b_1),(8,Ii uF),(28,.sl false 4 (Mp zA l_1)),(29,Ii (lN (l_1))),(30,Ii v_2)] [(0,.live (.fam (.cl b_1 false [.int .i64] (.pm 100) (List.map (mpE (AV.int .i64) xA) zY))))] 1∧qV F l_1 n uF v_2 zY=some o_2) F (by kernel_rfl) ⟨_,_,_,rfl,h⟩ ?_ ?_
  ·rintro _ ⟨_,_,_,_,h⟩;exact xN (h:(none:Option (Int⊕Int))=some o_2)
  rintro n_2 _ ⟨uF,v_2,zY,rfl,h⟩
  replace h:jK F l_1 (qV F l_1 n_2) uF v_2 zY=some o_2:=h
  unfold jK at h
  refine sr [] [5,8,28,29,30,31] [0] 1 [.rawm b_1,Ii uF,.sl false 4 (Mp zA l_1),Ii (lN (l_1)),Ii v_2,.bool (decide (v_2<(lN (l_1))))] [.live (.fam (.cl b_1 false [.int .i64] (.pm 100) (List.map (mpE (AV.int .i64) xA) zY)))] zF an ?_
  refine sq ?_
  refine cd 31 (decide (v_2<(lN (l_1)))) ?_ ?_
  rotate_left
  ·intro g_2;replace h:=zQ g_2 h
   refine xM (id:=2) (by kernel_rfl) ?_
   cases h
   exact ⟨rfl,(sw [] [] [.s 8] [] an)⟩
  intro g_2;replace h:=zR g_2 h
  refine sk ?_
  refine sq ?_
  refine yD (id:=3) (by kernel_rfl) ?_
  refine sq ?_
  obtain ⟨x_2,h_6,h⟩:=bind_some h
  refine rg [(0,{ av:=zA x_2 }),(2,{ id:=1 })] [5,8,10,28,29,30] [0,1] 2 [.rawm b_1,Ii uF,Pp 1,.sl false 4 (Mp zA l_1),Ii (lN (l_1)),Ii v_2] [.live (.fam (.cl b_1 false [.int .i64] (.pm 100) (List.map (mpE (AV.int .i64) xA) zY))),Vb 59 (zX x_2)] zF (ac (yR h_6:xJ (Mp zA l_1) v_2=some (zA x_2)) an) ?_
  refine sq ?_
  refine sq ?_
  obtain ⟨r_1,h_7,h⟩:=bind_some h
  refine rg [(1,{ av:=Ii r_1,l:=[zA x_2] })] [5,8,10,11,28,29,30] [0,1] 2 [.rawm b_1,Ii uF,Pp 1,Ii r_1,.sl false 4 (Mp zA l_1),Ii (lN (l_1)),Ii v_2] [.live (.fam (.cl b_1 false [.int .i64] (.pm 100) (List.map (mpE (AV.int .i64) xA) zY))),Vb 59 (zX x_2)] zF (ar ([zA x_2]:List AV) (ac (rfl:([]:List zW)=[]) (ac (zHO F x_2 r_1 h_7:zV prog 43 [] [] [zA x_2] [] (Ii r_1)) an))) ?_
  refine sr [] [5,8,10,11,28,29,30,37] [0,1] 2 [.rawm b_1,Ii uF,Pp 1,Ii r_1,.sl false 4 (Mp zA l_1),Ii (lN (l_1)),Ii v_2,.bool (r_1 != (0:Int))] [.live (.fam (.cl b_1 false [.int .i64] (.pm 100) (List.map (mpE (AV.int .i64) xA) zY))),Vb 59 (zX x_2)] zF an ?_
  refine cd 37 (r_1 != (0:Int)) ?_ ?_
  ·intro g_3;replace h:=zR g_3 h
   refine sr [] [4] [] 2 [Ii r_1] [] zF an ?_
   refine rt ?_
   cases h
   exact ⟨rfl,Nat.le_of_ble_eq_true rfl,by kernel_rfl⟩
  intro g_3;replace h:=zQ g_3 h
  refine sk ?_
  refine sq ?_
  rcases zNx (yO zY x_2.Thread) with h_8 | ⟨x_3,h_8⟩
  ·replace h:=zN6 h_8 h
   refine rg [(3,{ dep:=true,g:=false,n:=0,x:=true })] [5,8,10,12,13,28,29,30] [0,1] 2 [.rawm b_1,Ii uF,Pp 1,.nilp,.bool false,.sl false 4 (Mp zA l_1),Ii (lN (l_1)),Ii v_2] [.live (.fam (.cl b_1 false [.int .i64] (.pm 100) (List.map (mpE (AV.int .i64) xA) zY))),Vb 59 (zX x_2)] zF (ar b_1 (ac (zBv:v3 prog 3 false [.int .i64]) (ac (zNt (f:=(AV.int .i64)) (g:=xA) zBq h_8 .junk:k0 (List.map (mpE (AV.int .i64) xA) zY) (Ii x_2.Thread) .junk .junk false) an))) ?_
   refine sq ?_
   refine sr [] [5,8,10,12,28,29,30,47] [0,1] 2 [.rawm b_1,Ii uF,Pp 1,.nilp,.sl false 4 (Mp zA l_1),Ii (lN (l_1)),Ii v_2,.bool true] [.live (.fam (.cl b_1 false [.int .i64] (.pm 100) (List.map (mpE (AV.int .i64) xA) zY))),Vb 59 (zX x_2)] zF an ?_
   refine cd 47 true ?_ ?_
   rotate_left
   ·intro hg;exact Bool.noConfusion (hg)
   intro _
   refine sr [] [4] [] 2 [Ii 5] [] zF an ?_
   refine rt ?_
   cases h
   exact ⟨rfl,Nat.le_of_ble_eq_true rfl,by kernel_rfl⟩
  replace h:=zNf h_8 h
  refine rg [(3,{ av:=(.agg [Ii x_3.next,Ii x_3.last]),dep:=true,id:=2,n:=0,x:=true })] [5,8,10,12,13,28,29,30] [0,1,2] 3 [.rawm b_1,Ii uF,Pp 1,Pp 2,.bool true,.sl false 4 (Mp zA l_1),Ii (lN (l_1)),Ii v_2] [.live (.fam (.opp b_1 false [.int .i64] (.pm 100) (List.map (mpE (AV.int .i64) xA) zY) (Ii x_2.Thread) 2)),Vb 59 (zX x_2),Vb 100 (xY x_3)] zF (ar b_1 (ac (zBv:v3 prog 3 false [.int .i64]) (ac (zNS (f:=(AV.int .i64)) (g:=xA) h_8 .junk:k0 (List.map (mpE (AV.int .i64) xA) zY) (Ii x_2.Thread) .junk (.agg [Ii x_3.next,Ii x_3.last]) true) an))) ?_
  refine sq ?_
  refine sr [] [5,8,10,12,28,29,30,47] [0,1,2] 3 [.rawm b_1,Ii uF,Pp 1,Pp 2,.sl false 4 (Mp zA l_1),Ii (lN (l_1)),Ii v_2,.bool false] [.live (.fam (.opp b_1 false [.int .i64] (.pm 100) (List.map (mpE (AV.int .i64) xA) zY) (Ii x_2.Thread) 2)),Vb 59 (zX x_2),Vb 100 (xY x_3)] zF an ?_
  refine cd 47 false ?_ ?_
  ·intro hg;exact Bool.noConfusion (hg)
  intro _
  refine sk ?_
  refine sq ?_
  refine sq ?_
  obtain ⟨r_2,h_9,h⟩:=bind_some h
  refine rg [(2,{ av:=.bool r_2,ids:=[2],l:=[Pp 0,zA x_2],post:=[(.var 100 (xY x_3))],pre:=[(.var 100 (xY x_3))] })] [5,8,10,12,28,29,30,51] [0,1,2] 3 [.rawm b_1,Ii uF,Pp 1,Pp 2,.sl false 4 (Mp zA l_1),Ii (lN (l_1)),Ii v_2,.bool (!r_2)] [.live (.fam (.opp b_1 false [.int .i64] (.pm 100) (List.map (mpE (AV.int .i64) xA) zY) (Ii x_2.Thread) 2)),Vb 59 (zX x_2),Vb 100 (xY x_3)] zF (ar ([Pp 2,zA x_2]:List AV) (ac (rfl:([Vb 100 (xY x_3)]:List zW)=[Vb 100 (xY x_3)]) (ac (zE5 x_3 x_2 r_2 h_9:zV prog 51 [(.var 100 (xY x_3))] [] [Pp 0,zA x_2] [(.var 100 (xY x_3))] (.bool r_2)) an))) ?_
  refine cd 51 (!r_2) ?_ ?_
  ·intro g_4;replace h:=zR g_4 h
   refine sr [] [4] [] 3 [Ii 11] [] zF an ?_
   refine rt ?_
   cases h
   exact ⟨rfl,Nat.le_of_ble_eq_true rfl,by kernel_rfl⟩
  intro g_4;replace h:=zQ g_4 h
  refine sk ?_
  refine sq ?_
  obtain ⟨r_3,tT,h⟩:=bind_some h
  refine rg [(2,{ av:=.tuple [],ids:=[2],l:=[Pp 0,zA x_2],post:=[(.var 100 (xY r_3))],pre:=[(.var 100 (xY x_3))] })] [5,8,10,28,29,30] [0,1,2] 3 [.rawm b_1,Ii uF,Pp 1,.sl false 4 (Mp zA l_1),Ii (lN (l_1)),Ii v_2] [.live (.fam (.opp b_1 false [.int .i64] (.pm 100) (List.map (mpE (AV.int .i64) xA) zY) (Ii x_2.Thread) 2)),Vb 59 (zX x_2),Vb 100 (xY r_3)] zF (ar ([Pp 2,zA x_2]:List AV) (ac (rfl:([Vb 100 (xY x_3)]:List zW)=[Vb 100 (xY x_3)]) (ac (zE9 x_3 x_2 r_3 tT:zV prog 52 [(.var 100 (xY x_3))] [] [Pp 0,zA x_2] [(.var 100 (xY r_3))] (.tuple [])) an))) ?_
  refine uW (zNg (f:=.cl b_1 false [.int .i64] (.pm 100) (List.map (mpE (AV.int .i64) xA) (u1 zY x_2.Thread r_3))) 0 2 [Ii r_3.next,Ii r_3.last] (List.map (mpE (AV.int .i64) xA) (u1 zY x_2.Thread r_3)) (by kernel_rfl) (ac (rfl:(Vb 100 (xY r_3):zW)=Vb 100 (xY r_3)) (ac (zEy (f:=(AV.int .i64)) (g:=xA) zBq zY x_2.Thread r_3:zDj (List.map (mpE (AV.int .i64) xA) zY) (Ii x_2.Thread) (.agg [Ii r_3.next,Ii r_3.last]) (List.map (mpE (AV.int .i64) xA) (u1 zY x_2.Thread r_3))) an))) ?_
  refine wk [0,1] [] [.s 5,.s 8,.s 10,.s 28,.s 29,.s 30] [.s 0,.s 1] [(5,.rawm b_1),(8,Ii uF),(10,Pp 1),(28,.sl false 4 (Mp zA l_1)),(29,Ii (lN (l_1))),(30,Ii v_2)] [(0,.live (.fam (.cl b_1 false [.int .i64] (.pm 100) (List.map (mpE (AV.int .i64) xA) (u1 zY x_2.Thread r_3))))),(1,Vb 59 (zX x_2))] an ?_
  refine rg [(3,{ n:=(x_2.Events).length })] [5,8,28,29,30] [0] 2 [.rawm b_1,Ii (zP (uF+(lN (x_2.Events)))),.sl false 4 (Mp zA l_1),Ii (lN (l_1)),Ii v_2] [.live (.fam (.cl b_1 false [.int .i64] (.pm 100) (List.map (mpE (AV.int .i64) xA) (u1 zY x_2.Thread r_3))))] zF (ac (yF _:((Mp zD x_2.Events)).length=(x_2.Events).length) an) ?_
  refine rg [] [5,8,28,29,30] [0] 2 [.rawm b_1,Ii (zP (uF+(lN (x_2.Events)))),.sl false 4 (Mp zA l_1),Ii (lN (l_1)),Ii (zP (v_2+(1:Int)))] [.live (.fam (.cl b_1 false [.int .i64] (.pm 100) (List.map (mpE (AV.int .i64) xA) (u1 zY x_2.Thread r_3))))] zF an ?_
  exact ⟨_,(sw [0] [] [.s 5,.s 8,.s 28,.s 29,.s 30] [.s 0] an),_,_,_,rfl,h⟩
 intro e st1 hk
 rcases o_2 with q_1 | q_2
 rotate_left
 ·obtain ⟨rfl,hf⟩:=hk
  cases h
  exact ⟨st1,Sub.refl _ _,.inr rfl,hf⟩
 obtain ⟨rfl,hs⟩:=hk
 refine ⟨_,hs,?_⟩
 refine sq ?_
 refine sr [] [62] [] 0 [.bool (decide (q_1>(20000:Int)))] [] zF an ?_
 refine cd 62 (decide (q_1>(20000:Int))) ?_ ?_
 ·intro g_5;replace h:=zR g_5 h
  refine sr [] [4] [] 0 [Ii 7] [] zF an ?_
  refine rt ?_
  cases h
  exact ⟨.inr rfl,Nat.le_of_ble_eq_true rfl,by kernel_rfl⟩
 intro g_5;replace h:=zQ g_5 h
 refine sk ?_
 refine sr [] [4] [] 0 [Ii 0] [] zF an ?_
 refine rt ?_
 cases h
 exact ⟨.inr rfl,Nat.le_of_ble_eq_true rfl,by kernel_rfl⟩
theorem zG0 (l:List zB):fzV (y5 l)=.sl false 4 (Mp zA l):=(congrArg (AV.sl false 4) (zFd zA l _ rfl)).symm
theorem zGF (l:List zB):zGN (y5 l)∧zFp 4 6 (y5 l)=true:=⟨rfl,rfl⟩
theorem zLc (F:Nat) (uT:List (zB)) (events_1:List (zI)) (r:(List (zB))) (h:zDe F uT events_1=some r):zV prog 29 [] [(.rowQ 59 4 (Mp zA (ini uT)) (!(uT).isEmpty) (z8 (lst uT)++[.own 1 ((lst uT).Events).length])),(.row 42 6 (Mp zD (lst uT).Events))] [.own 0 ((uT).length),.sl false 6 (Mp zD events_1)] [(.rowQ 59 4 (Mp zA (ini r)) (!(r).isEmpty) (z8 (lst r)++[.own 1 ((lst r).Events).length])),(.row 42 6 (Mp zD (lst r).Events))] (.own 0 (r).length):=by
 refine zE4 (fn:=Go.Proofs.Try.f29) (code:=xC Go.Proofs.Try.f29) (by kernel_rfl) (by kernel_rfl) (Nat.le_of_ble_eq_true (by kernel_rfl)) ?_
 unfold zDe at h
 refine sr [(0,{ id:=2,m:=1 })] [0,1] [0,1] 3 [.own 0 ((uT).length),.sl false 6 (Mp zD events_1)] [.live (.rowQ 59 4 (Mp zA (ini uT)) (!(uT).isEmpty) (z8 (lst uT)++[.own 1 ((lst uT).Events).length])),Rb 42 6 (Mp zD (lst uT).Events)] zF an ?_
 refine sq ?_
 obtain ⟨o_1,h_1,h⟩:=bind_some h
 refine y4 (mk [(0,.own 0 ((o_1).length))] [(0,.live (.rowQ 59 4 (Mp zA (ini o_1)) (!(o_1).isEmpty) (z8 (lst o_1)++[.own 1 ((lst o_1).Events).length]))),(1,Rb 42 6 (Mp zD (lst o_1).Events))] 2) ?_ ?_
 ·replace h:=h_1
  refine yD (id:=0) (by kernel_rfl) ?_
  refine wk [0,1] [] [.s 0,.s 1] [.s 0,.s 1] [(0,.own 0 ((uT).length)),(1,.sl false 6 (Mp zD events_1))] [(0,.live (.rowQ 59 4 (Mp zA (ini uT)) (!(uT).isEmpty) (z8 (lst uT)++[.own 1 ((lst uT).Events).length]))),(1,Rb 42 6 (Mp zD (lst uT).Events))] an ?_
  refine xI (fun n st=>∃ (z5:List zI),∃ (zE:List zB),st=mk [(0,.own 0 ((zE).length)),(1,.sl false 6 (Mp zD z5))] [(0,.live (.rowQ 59 4 (Mp zA (ini zE)) (!(zE).isEmpty) (z8 (lst zE)++[.own 1 ((lst zE).Events).length]))),(1,Rb 42 6 (Mp zD (lst zE).Events))] 2∧zA0 F n z5 zE=some o_1) F (by kernel_rfl) ⟨_,_,rfl,h⟩ ?_ ?_
  ·rintro _ ⟨_,_,_,h⟩;exact xN (h:(none:Option (List zB))=some o_1)
  rintro n_1 _ ⟨z5,zE,rfl,h⟩
  replace h:jY F (zA0 F n_1) z5 zE=some o_1:=h
  unfold jY at h
  refine sq ?_
  refine sr [(1,{ n:=(z5).length })] [0,1,9] [0,1] 2 [.own 0 ((zE).length),.sl false 6 (Mp zD z5),.bool (decide ((lN (z5))>(0:Int)))] [.live (.rowQ 59 4 (Mp zA (ini zE)) (!(zE).isEmpty) (z8 (lst zE)++[.own 1 ((lst zE).Events).length])),Rb 42 6 (Mp zD (lst zE).Events)] zF (ac (yF _:((Mp zD z5)).length=(z5).length) an) ?_
  refine cd 9 (decide ((lN (z5))>(0:Int))) ?_ ?_
  rotate_left
  ·intro g_1;replace h:=zQ g_1 h
   refine xM (id:=0) (by kernel_rfl) ?_
   cases h
   exact ⟨rfl,(sw [0,1] [] [.s 0] [.s 0,.s 1] an)⟩
  intro g_1;replace h:=zR g_1 h
  refine sk ?_
  refine yD (id:=1) (by kernel_rfl) ?_
  refine sq ?_
  obtain ⟨_,h_2,h⟩:=bind_some h;replace h_2:=wK h_2
  refine rg [] [0,1,5] [0,1] 2 [.own 0 ((zE).length),.sl false 6 (Mp zD z5),.ptr 0 4 ((zP ((lN (zE)) - (1:Int))).toNat) 0] [.live (.rowQ 59 4 (Mp zA (ini zE)) (!(zE).isEmpty) (z8 (lst zE)++[.own 1 ((lst zE).Events).length])),Rb 42 6 (Mp zD (lst zE).Events)] zF (ac h_2.1 (ac h_2.2 an)) ?_
  refine sq ?_
  obtain ⟨_,h_3,h⟩:=bind_some h;replace h_3:=wK h_3
  refine rg [(3,{ x:=true }),(7,{ n:=(z5).length })] [0,1,5,6] [0,1] 2 [.own 0 ((zE).length),.sl false 6 (Mp zD z5),.ptr 0 4 ((zP ((lN (zE)) - (1:Int))).toNat) 0,Ii (wP (zP ((1000:Int) - (lN ((lst zE).Events)))) (lN (z5)))] [.live (.rowQ 59 4 (Mp zA (ini zE)) (!(zE).isEmpty) (z8 (lst zE)++[.own 1 ((lst zE).Events).length])),Rb 42 6 (Mp zD (lst zE).Events)] zF (ac (zEH _ h_3:(zP ((lN (zE)) - (1:Int))).toNat=(Mp zA (ini zE)).length) (ac (zBx (Nat.lt_of_lt_of_eq (Nat.succ_pos _) h_3):(!(zE).isEmpty)=true) (ac (yF _:((Mp zD z5)).length=(z5).length) an))) ?_
  refine sq ?_
  refine sr [] [0,1,5,6,25] [0,1] 2 [.own 0 ((zE).length),.sl false 6 (Mp zD z5),.ptr 0 4 ((zP ((lN (zE)) - (1:Int))).toNat) 0,Ii (wP (zP ((1000:Int) - (lN ((lst zE).Events)))) (lN (z5))),.bool ((wP (zP ((1000:Int) - (lN ((lst zE).Events)))) (lN (z5)))==(0:Int))] [.live (.rowQ 59 4 (Mp zA (ini zE)) (!(zE).isEmpty) (z8 (lst zE)++[.own 1 ((lst zE).Events).length])),Rb 42 6 (Mp zD (lst zE).Events)] zF an ?_
  refine cd 25 ((wP (zP ((1000:Int) - (lN ((lst zE).Events)))) (lN (z5)))==(0:Int)) ?_ ?_
  ·intro g_2;replace h:=zR g_2 h
   refine sq ?_
   refine uW (zEz (e:=59) (sz:=4) 0 1 (Mp zA zE) (by kernel_rfl) (ac ((List.length_map _).symm:((lst zE).Events).length=(Mp zD (lst zE).Events:List AV).length) (ac (zFd zA zE _ rfl:(Mp zA zE:List AV)=List.map zA (ini zE)++bif (!(zE).isEmpty) then [.agg (z8 (lst zE)++[.sl false 6 (Mp zD (lst zE).Events)])] else []) an))) ?_
   refine wk [0] [] [.s 0,.s 1,.s 5] [.s 0] [(0,.own 0 ((zE).length)),(1,.sl false 6 (Mp zD z5)),(5,.ptr 0 4 ((zP ((lN (zE)) - (1:Int))).toNat) 0)] [(0,Rb 59 4 (Mp zA zE))] an ?_
   obtain ⟨_,h_4,h⟩:=bind_some h;replace h_4:=wK h_4
   obtain ⟨_,h_5,h⟩:=bind_some h;replace h_5:=wK h_5
   obtain ⟨_,h_6,h⟩:=bind_some h;replace h_6:=wK h_6
   refine rg [(4,{ av:=zA (lst zE) }),(8,{ av:=zA (lst zE) }),(11,{ id:=1 }),(12,{ id:=2,l:=(Mp zA zE++[.agg [Ii ((lst zE).Thread),Ii (zP (((lst zE).Serial)+(1000:Int))),Ii 0,.nilsl]]),n:=((zE).length+1) })] [0,1] [2] 3 [.own 2 ((zE).length+1),.sl false 6 (Mp zD z5)] [Rb 59 4 (Mp zA zE++[.agg [Ii ((lst zE).Thread),Ii (zP (((lst zE).Serial)+(1000:Int))),Ii 0,.nilsl]])] zF (ac (zPe _ h_4:(Mp zA zE)[(zP ((lN (zE)) - (1:Int))).toNat]?=some (zA (lst zE))) (ac (zPe _ h_5:(Mp zA zE)[(zP ((lN (zE)) - (1:Int))).toNat]?=some (zA (lst zE))) (ac ((List.length_map _).symm:(zE).length=(Mp zA zE).length) (ac (rfl:1=([.agg [Ii ((lst zE).Thread),Ii (zP (((lst zE).Serial)+(1000:Int))),Ii 0,.nilsl]]:List AV).length) (ac (rfl:((Mp zA zE++[.agg [Ii ((lst zE).Thread),Ii (zP (((lst zE).Serial)+(1000:Int))),Ii 0,.nilsl]]):List AV)=List.map zA zE++[.agg [Ii ((lst zE).Thread),Ii (zP (((lst zE).Serial)+(1000:Int))),Ii 0,.nilsl]]) (ac (by simp:((zE).length+1)=((List.map zA zE++[.agg [Ii ((lst zE).Thread),Ii (zP (((lst zE).Serial)+(1000:Int))),Ii 0,.nilsl]]):List AV).length) (ac (by rw [List.length_map];exact h_6:((List.map zA zE:List AV).length+([.agg [Ii ((lst zE).Thread),Ii (zP (((lst zE).Serial)+(1000:Int))),Ii 0,.nilsl]]:List AV).length) * 48≤140737488355328) an))))))) ?_
   refine uW (zEG (e:=59) (sz:=4) 2 3 42 6 (Mp zA zE) [Ii ((lst zE).Thread),Ii (zP (((lst zE).Serial)+(1000:Int))),Ii 0] (by kernel_rfl) (ac (rfl:(Mp zA zE++[.agg [Ii ((lst zE).Thread),Ii (zP (((lst zE).Serial)+(1000:Int))),Ii 0,.nilsl]]:List AV)=List.map zA zE++[.agg ([Ii ((lst zE).Thread),Ii (zP (((lst zE).Serial)+(1000:Int))),Ii 0]++[.nilsl])]) an)) ?_
   refine wk [2,3] [] [.a 0 (.own 0 (((zE++[(⟨(lst zE).Thread,zP (((lst zE).Serial)+(1000:Int)),(0:Int),[]⟩:zB)])).length)),.s 1] [.a 0 (.live (.rowQ 59 4 (Mp zA (ini (zE++[(⟨(lst zE).Thread,zP (((lst zE).Serial)+(1000:Int)),(0:Int),[]⟩:zB)]))) (!((zE++[(⟨(lst zE).Thread,zP (((lst zE).Serial)+(1000:Int)),(0:Int),[]⟩:zB)])).isEmpty) (z8 (lst (zE++[(⟨(lst zE).Thread,zP (((lst zE).Serial)+(1000:Int)),(0:Int),[]⟩:zB)]))++[.own 1 ((lst (zE++[(⟨(lst zE).Thread,zP (((lst zE).Serial)+(1000:Int)),(0:Int),[]⟩:zB)])).Events).length]))),.a 1 (Rb 42 6 (Mp zD (lst (zE++[(⟨(lst zE).Thread,zP (((lst zE).Serial)+(1000:Int)),(0:Int),[]⟩:zB)])).Events))] [(0,.own 0 (((zE++[(⟨(lst zE).Thread,zP (((lst zE).Serial)+(1000:Int)),(0:Int),[]⟩:zB)])).length)),(1,.sl false 6 (Mp zD z5))] [(0,.live (.rowQ 59 4 (Mp zA (ini (zE++[(⟨(lst zE).Thread,zP (((lst zE).Serial)+(1000:Int)),(0:Int),[]⟩:zB)]))) (!((zE++[(⟨(lst zE).Thread,zP (((lst zE).Serial)+(1000:Int)),(0:Int),[]⟩:zB)])).isEmpty) (z8 (lst (zE++[(⟨(lst zE).Thread,zP (((lst zE).Serial)+(1000:Int)),(0:Int),[]⟩:zB)]))++[.own 1 ((lst (zE++[(⟨(lst zE).Thread,zP (((lst zE).Serial)+(1000:Int)),(0:Int),[]⟩:zB)])).Events).length]))),(1,Rb 42 6 (Mp zD (lst (zE++[(⟨(lst zE).Thread,zP (((lst zE).Serial)+(1000:Int)),(0:Int),[]⟩:zB)])).Events))] (ac (congrArg (AV.own _) (by first | (simp;done) | (simp;omega)):(.own 2 ((zE).length+1):AV)=.own 2 (((zE++[(⟨(lst zE).Thread,zP (((lst zE).Serial)+(1000:Int)),(0:Int),[]⟩:zB)])).length)) (ar 59 (ar 4 (ac ((congrArg (List.map _) (zAa _ _)).symm:((Mp zA zE):List AV)=List.map zA (ini (zE++[(⟨(lst zE).Thread,zP (((lst zE).Serial)+(1000:Int)),(0:Int),[]⟩:zB)]))) (ac ((zFJ _ _).symm:true=(!((zE++[(⟨(lst zE).Thread,zP (((lst zE).Serial)+(1000:Int)),(0:Int),[]⟩:zB)])).isEmpty)) (ac (rfl:v7 (z8 (lst (zE++[(⟨(lst zE).Thread,zP (((lst zE).Serial)+(1000:Int)),(0:Int),[]⟩:zB)]))++[.own 3 ((lst (zE++[(⟨(lst zE).Thread,zP (((lst zE).Serial)+(1000:Int)),(0:Int),[]⟩:zB)])).Events).length])=true) (ac (by first | (simp only [y3];done) | simp [y3]:(Ii ((lst zE).Thread):AV)=Ii ((lst (zE++[(⟨(lst zE).Thread,zP (((lst zE).Serial)+(1000:Int)),(0:Int),[]⟩:zB)])).Thread)) (ac (by first | (simp only [y3];done) | simp [y3]:(Ii (zP (((lst zE).Serial)+(1000:Int))):AV)=Ii ((lst (zE++[(⟨(lst zE).Thread,zP (((lst zE).Serial)+(1000:Int)),(0:Int),[]⟩:zB)])).Serial)) (ac (by first | (simp only [y3];done) | simp [y3]:(Ii 0:AV)=Ii ((lst (zE++[(⟨(lst zE).Thread,zP (((lst zE).Serial)+(1000:Int)),(0:Int),[]⟩:zB)])).Lost)) (ac (congrArg (AV.own _) (by first | (simp only [y3];done) | simp [y3]):(.own 3 0:AV)=.own 3 (((lst (zE++[(⟨(lst zE).Thread,zP (((lst zE).Serial)+(1000:Int)),(0:Int),[]⟩:zB)])).Events).length)) (ar 42 (ar 6 (ac (by first | (simp only [y3];done) | simp [y3]:([]:List AV)=List.map zD (lst (zE++[(⟨(lst zE).Thread,zP (((lst zE).Serial)+(1000:Int)),(0:Int),[]⟩:zB)])).Events) an))))))))))))) ?_
   refine xM (id:=1) (by kernel_rfl) ?_
   exact ⟨_,(sw [0,1] [] [.s 0,.s 1] [.s 0,.s 1] an),_,_,rfl,h⟩
  intro g_2;replace h:=zQ g_2 h
  refine sk ?_
  refine sq ?_
  obtain ⟨_,h_7,h⟩:=bind_some h;replace h_7:=wK h_7
  obtain ⟨_,h_8,h⟩:=bind_some h;replace h_8:=wK h_8
  obtain ⟨_,h_9,h⟩:=bind_some h;replace h_9:=wK h_9
  obtain ⟨_,tT,h⟩:=bind_some h;replace tT:=wK tT
  refine rg [(4,{ x:=true }),(7,{ l:=(Mp zD (sub z5 (0:Int) (wP (zP ((1000:Int) - (lN ((lst zE).Events)))) (lN (z5))))) }),(8,{ id:=2,l:=(Mp zD (((lst zE).Events)++(sub z5 (0:Int) (wP (zP ((1000:Int) - (lN ((lst zE).Events)))) (lN (z5)))))),n:=((((lst zE).Events)++(sub z5 (0:Int) (wP (zP ((1000:Int) - (lN ((lst zE).Events)))) (lN (z5)))))).length }),(11,{ x:=true })] [0,1,6] [0,2] 3 [.own 0 ((zE).length),.sl false 6 (Mp zD z5),Ii (wP (zP ((1000:Int) - (lN ((lst zE).Events)))) (lN (z5)))] [.live (.rowQ 59 4 (Mp zA (ini zE)) (!(zE).isEmpty) [Ii ((lst zE).Thread),Ii ((lst zE).Serial),Ii ((lst zE).Lost),.own 2 (((((lst zE).Events)++(sub z5 (0:Int) (wP (zP ((1000:Int) - (lN ((lst zE).Events)))) (lN (z5)))))).length)]),Rb 42 6 (Mp zD (((lst zE).Events)++(sub z5 (0:Int) (wP (zP ((1000:Int) - (lN ((lst zE).Events)))) (lN (z5))))))] zF (ac (zEH _ h_7:(zP ((lN (zE)) - (1:Int))).toNat=(Mp zA (ini zE)).length) (ac (zBx (Nat.lt_of_lt_of_eq (Nat.succ_pos _) h_7):(!(zE).isEmpty)=true) (ac (by decide:(0:Int)≤(0:Int)) (ac h_8.1 (ac (zEn h_8.2:(wP (zP ((1000:Int) - (lN ((lst zE).Events)))) (lN (z5)))≤(lN ((Mp zD z5)))) (ac (zK6 _ _ _:(Mp zD (sub z5 (0:Int) (wP (zP ((1000:Int) - (lN ((lst zE).Events)))) (lN (z5)))))=(((Mp zD z5)).take (wP (zP ((1000:Int) - (lN ((lst zE).Events)))) (lN (z5))).toNat).drop ((0:Int)).toNat) (ac (by first | (simp;done) | (simp;omega):((lst zE).Events).length=((List.map zD ((lst zE).Events))).length) (ac (trivial:True) (ac (zBD _ _:(Mp zD (((lst zE).Events)++(sub z5 (0:Int) (wP (zP ((1000:Int) - (lN ((lst zE).Events)))) (lN (z5))))))=(Mp zD ((lst zE).Events))++(Mp zD (sub z5 (0:Int) (wP (zP ((1000:Int) - (lN ((lst zE).Events)))) (lN (z5)))))) (ac (by simp:((((lst zE).Events)++(sub z5 (0:Int) (wP (zP ((1000:Int) - ((((lst zE).Events).length:Nat):Int))) (((z5).length:Nat):Int))))).length=((List.map zD (((lst zE).Events)++(sub z5 (0:Int) (wP (zP ((1000:Int) - ((((lst zE).Events).length:Nat):Int))) (((z5).length:Nat):Int)))))).length) (ac (by first | (simp;done) | simpa using h_9:(((List.map zD ((lst zE).Events)):List AV).length+((List.map zD (sub z5 (0:Int) (wP (zP ((1000:Int) - ((((lst zE).Events).length:Nat):Int))) (((z5).length:Nat):Int)))):List AV).length) * 72≤140737488355328) (ac (zEH _ tT:(zP ((lN (zE)) - (1:Int))).toNat=(Mp zA (ini zE)).length) (ac (zBx (Nat.lt_of_lt_of_eq (Nat.succ_pos _) tT):(!(zE).isEmpty)=true) an))))))))))))) ?_
  refine wk [0,2] [] [.a 0 (.own 0 ((((ini zE)++[(⟨(lst zE).Thread,(lst zE).Serial,(lst zE).Lost,(((lst zE).Events)++(sub z5 (0:Int) (wP (zP ((1000:Int) - (lN ((lst zE).Events)))) (lN (z5)))))⟩:zB)])).length)),.s 1,.s 6] [.a 0 (.live (.rowQ 59 4 (Mp zA (ini ((ini zE)++[(⟨(lst zE).Thread,(lst zE).Serial,(lst zE).Lost,(((lst zE).Events)++(sub z5 (0:Int) (wP (zP ((1000:Int) - (lN ((lst zE).Events)))) (lN (z5)))))⟩:zB)]))) (!(((ini zE)++[(⟨(lst zE).Thread,(lst zE).Serial,(lst zE).Lost,(((lst zE).Events)++(sub z5 (0:Int) (wP (zP ((1000:Int) - (lN ((lst zE).Events)))) (lN (z5)))))⟩:zB)])).isEmpty) (z8 (lst ((ini zE)++[(⟨(lst zE).Thread,(lst zE).Serial,(lst zE).Lost,(((lst zE).Events)++(sub z5 (0:Int) (wP (zP ((1000:Int) - (lN ((lst zE).Events)))) (lN (z5)))))⟩:zB)]))++[.own 1 ((lst ((ini zE)++[(⟨(lst zE).Thread,(lst zE).Serial,(lst zE).Lost,(((lst zE).Events)++(sub z5 (0:Int) (wP (zP ((1000:Int) - (lN ((lst zE).Events)))) (lN (z5)))))⟩:zB)])).Events).length]))),.a 1 (Rb 42 6 (Mp zD (lst ((ini zE)++[(⟨(lst zE).Thread,(lst zE).Serial,(lst zE).Lost,(((lst zE).Events)++(sub z5 (0:Int) (wP (zP ((1000:Int) - (lN ((lst zE).Events)))) (lN (z5)))))⟩:zB)])).Events))] [(0,.own 0 ((((ini zE)++[(⟨(lst zE).Thread,(lst zE).Serial,(lst zE).Lost,(((lst zE).Events)++(sub z5 (0:Int) (wP (zP ((1000:Int) - (lN ((lst zE).Events)))) (lN (z5)))))⟩:zB)])).length)),(1,.sl false 6 (Mp zD z5)),(6,Ii (wP (zP ((1000:Int) - (lN ((lst zE).Events)))) (lN (z5))))] [(0,.live (.rowQ 59 4 (Mp zA (ini ((ini zE)++[(⟨(lst zE).Thread,(lst zE).Serial,(lst zE).Lost,(((lst zE).Events)++(sub z5 (0:Int) (wP (zP ((1000:Int) - (lN ((lst zE).Events)))) (lN (z5)))))⟩:zB)]))) (!(((ini zE)++[(⟨(lst zE).Thread,(lst zE).Serial,(lst zE).Lost,(((lst zE).Events)++(sub z5 (0:Int) (wP (zP ((1000:Int) - (lN ((lst zE).Events)))) (lN (z5)))))⟩:zB)])).isEmpty) (z8 (lst ((ini zE)++[(⟨(lst zE).Thread,(lst zE).Serial,(lst zE).Lost,(((lst zE).Events)++(sub z5 (0:Int) (wP (zP ((1000:Int) - (lN ((lst zE).Events)))) (lN (z5)))))⟩:zB)]))++[.own 1 ((lst ((ini zE)++[(⟨(lst zE).Thread,(lst zE).Serial,(lst zE).Lost,(((lst zE).Events)++(sub z5 (0:Int) (wP (zP ((1000:Int) - (lN ((lst zE).Events)))) (lN (z5)))))⟩:zB)])).Events).length]))),(1,Rb 42 6 (Mp zD (lst ((ini zE)++[(⟨(lst zE).Thread,(lst zE).Serial,(lst zE).Lost,(((lst zE).Events)++(sub z5 (0:Int) (wP (zP ((1000:Int) - (lN ((lst zE).Events)))) (lN (z5)))))⟩:zB)])).Events))] (ac (congrArg (AV.own _) (zPa _ tT).symm:(.own 0 ((zE).length):AV)=.own 0 ((((ini zE)++[(⟨(lst zE).Thread,(lst zE).Serial,(lst zE).Lost,(((lst zE).Events)++(sub z5 (0:Int) (wP (zP ((1000:Int) - (lN ((lst zE).Events)))) (lN (z5)))))⟩:zB)])).length)) (ar 59 (ar 4 (ac ((congrArg (List.map _) (zAa _ _)).symm:((Mp zA (ini zE)):List AV)=List.map zA (ini ((ini zE)++[(⟨(lst zE).Thread,(lst zE).Serial,(lst zE).Lost,(((lst zE).Events)++(sub z5 (0:Int) (wP (zP ((1000:Int) - (lN ((lst zE).Events)))) (lN (z5)))))⟩:zB)]))) (ac ((zBx (Nat.lt_of_lt_of_eq (Nat.succ_pos _) tT)).trans (zFJ _ _).symm:(!(zE).isEmpty)=(!(((ini zE)++[(⟨(lst zE).Thread,(lst zE).Serial,(lst zE).Lost,(((lst zE).Events)++(sub z5 (0:Int) (wP (zP ((1000:Int) - (lN ((lst zE).Events)))) (lN (z5)))))⟩:zB)])).isEmpty)) (ac (rfl:v7 (z8 (lst ((ini zE)++[(⟨(lst zE).Thread,(lst zE).Serial,(lst zE).Lost,(((lst zE).Events)++(sub z5 (0:Int) (wP (zP ((1000:Int) - (lN ((lst zE).Events)))) (lN (z5)))))⟩:zB)]))++[.own 2 ((lst ((ini zE)++[(⟨(lst zE).Thread,(lst zE).Serial,(lst zE).Lost,(((lst zE).Events)++(sub z5 (0:Int) (wP (zP ((1000:Int) - (lN ((lst zE).Events)))) (lN (z5)))))⟩:zB)])).Events).length])=true) (ac (by first | (simp only [y3];done) | simp [y3]:(Ii ((lst zE).Thread):AV)=Ii ((lst ((ini zE)++[(⟨(lst zE).Thread,(lst zE).Serial,(lst zE).Lost,(((lst zE).Events)++(sub z5 (0:Int) (wP (zP ((1000:Int) - ((((lst zE).Events).length:Nat):Int))) (((z5).length:Nat):Int))))⟩:zB)])).Thread)) (ac (by first | (simp only [y3];done) | simp [y3]:(Ii ((lst zE).Serial):AV)=Ii ((lst ((ini zE)++[(⟨(lst zE).Thread,(lst zE).Serial,(lst zE).Lost,(((lst zE).Events)++(sub z5 (0:Int) (wP (zP ((1000:Int) - ((((lst zE).Events).length:Nat):Int))) (((z5).length:Nat):Int))))⟩:zB)])).Serial)) (ac (by first | (simp only [y3];done) | simp [y3]:(Ii ((lst zE).Lost):AV)=Ii ((lst ((ini zE)++[(⟨(lst zE).Thread,(lst zE).Serial,(lst zE).Lost,(((lst zE).Events)++(sub z5 (0:Int) (wP (zP ((1000:Int) - ((((lst zE).Events).length:Nat):Int))) (((z5).length:Nat):Int))))⟩:zB)])).Lost)) (ac (congrArg (AV.own _) (by first | (simp only [y3];done) | simp [y3]):(.own 2 (((((lst zE).Events)++(sub z5 (0:Int) (wP (zP ((1000:Int) - (lN ((lst zE).Events)))) (lN (z5)))))).length):AV)=.own 2 (((lst ((ini zE)++[(⟨(lst zE).Thread,(lst zE).Serial,(lst zE).Lost,(((lst zE).Events)++(sub z5 (0:Int) (wP (zP ((1000:Int) - (lN ((lst zE).Events)))) (lN (z5)))))⟩:zB)])).Events).length)) (ar 42 (ar 6 (ac (by first | (simp only [y3];done) | simp [y3]:((List.map zD (((lst zE).Events)++(sub z5 (0:Int) (wP (zP ((1000:Int) - ((((lst zE).Events).length:Nat):Int))) (((z5).length:Nat):Int))))):List AV)=List.map zD (lst ((ini zE)++[(⟨(lst zE).Thread,(lst zE).Serial,(lst zE).Lost,(((lst zE).Events)++(sub z5 (0:Int) (wP (zP ((1000:Int) - ((((lst zE).Events).length:Nat):Int))) (((z5).length:Nat):Int))))⟩:zB)])).Events) an))))))))))))) ?_
  obtain ⟨_,tU,h⟩:=bind_some h;replace tU:=wK tU
  refine rg [(2,{ l:=(Mp zD (sub z5 (wP (zP ((1000:Int) - (lN ((lst zE).Events)))) (lN (z5))) (lN (z5)))) })] [0,1] [0,1] 2 [.own 0 ((((ini zE)++[(⟨(lst zE).Thread,(lst zE).Serial,(lst zE).Lost,(((lst zE).Events)++(sub z5 (0:Int) (wP (zP ((1000:Int) - (lN ((lst zE).Events)))) (lN (z5)))))⟩:zB)])).length),.sl false 6 (Mp zD (sub z5 (wP (zP ((1000:Int) - (lN ((lst zE).Events)))) (lN (z5))) (lN (z5))))] [.live (.rowQ 59 4 (Mp zA (ini ((ini zE)++[(⟨(lst zE).Thread,(lst zE).Serial,(lst zE).Lost,(((lst zE).Events)++(sub z5 (0:Int) (wP (zP ((1000:Int) - (lN ((lst zE).Events)))) (lN (z5)))))⟩:zB)]))) (!(((ini zE)++[(⟨(lst zE).Thread,(lst zE).Serial,(lst zE).Lost,(((lst zE).Events)++(sub z5 (0:Int) (wP (zP ((1000:Int) - (lN ((lst zE).Events)))) (lN (z5)))))⟩:zB)])).isEmpty) (z8 (lst ((ini zE)++[(⟨(lst zE).Thread,(lst zE).Serial,(lst zE).Lost,(((lst zE).Events)++(sub z5 (0:Int) (wP (zP ((1000:Int) - (lN ((lst zE).Events)))) (lN (z5)))))⟩:zB)]))++[.own 1 ((lst ((ini zE)++[(⟨(lst zE).Thread,(lst zE).Serial,(lst zE).Lost,(((lst zE).Events)++(sub z5 (0:Int) (wP (zP ((1000:Int) - (lN ((lst zE).Events)))) (lN (z5)))))⟩:zB)])).Events).length])),Rb 42 6 (Mp zD (lst ((ini zE)++[(⟨(lst zE).Thread,(lst zE).Serial,(lst zE).Lost,(((lst zE).Events)++(sub z5 (0:Int) (wP (zP ((1000:Int) - (lN ((lst zE).Events)))) (lN (z5)))))⟩:zB)])).Events)] zF (ac tU.1 (ac (zEn tU.2:(wP (zP ((1000:Int) - (lN ((lst zE).Events)))) (lN (z5)))≤(lN ((Mp zD z5)))) (ac (Int.le_refl _:(lN ((Mp zD z5)))≤(lN ((Mp zD z5)))) (ac (zPJ _ _:(Mp zD (sub z5 (wP (zP ((1000:Int) - (lN ((lst zE).Events)))) (lN (z5))) (lN (z5))))=(((Mp zD z5)).take ((lN ((Mp zD z5)))).toNat).drop (wP (zP ((1000:Int) - (lN ((lst zE).Events)))) (lN (z5))).toNat) an)))) ?_
  exact ⟨_,(sw [0,1] [] [.s 0,.s 1] [.s 0,.s 1] an),_,_,rfl,h⟩
 refine sr [] [4] [0,1] 2 [.own 0 ((o_1).length)] [.live (.rowQ 59 4 (Mp zA (ini o_1)) (!(o_1).isEmpty) (z8 (lst o_1)++[.own 1 ((lst o_1).Events).length])),Rb 42 6 (Mp zD (lst o_1).Events)] zF an ?_
 refine wk [0,1] [] [.s 4] [.s 0,.s 1] [(4,.own 0 ((o_1).length))] [(0,.live (.rowQ 59 4 (Mp zA (ini o_1)) (!(o_1).isEmpty) (z8 (lst o_1)++[.own 1 ((lst o_1).Events).length]))),(1,Rb 42 6 (Mp zD (lst o_1).Events))] an ?_
 refine rt ?_
 cases h
 exact ⟨.inr rfl,Nat.le_of_ble_eq_true rfl,by kernel_rfl⟩
theorem zDw (F:Nat) (h_1:zL) (l_1:List (zB)) (r:zM×Int) (h:zCF F h_1 l_1=some r):zV prog 10 [] [] [yU h_1,.sl false 4 (Mp zA l_1)] [] (.tuple [z4 r.1,Ii r.2]):=by
 refine yG (fn:=Go.Proofs.Try.f10) (code:=xC Go.Proofs.Try.f10) (by kernel_rfl) (by kernel_rfl) (Nat.le_of_ble_eq_true (by kernel_rfl)) ?_
 unfold zCF at h
 refine sr [(0,{ id:=0 }),(1,{ id:=1 })] [1,2,4] [0,1] 2 [.sl false 4 (Mp zA l_1),Pp 0,Pp 1] [Vb 26 (zN h_1),Vb 31 [.nilsl,.nilsl,.nilsl,.nilsl]] zF an ?_
 refine uW (u6 1 3 2 59 4 (by kernel_rfl)) ?_
 refine wk [0,1,2] [] [.s 1,.s 2,.s 4] [.s 0,.s 1,.s 2] [(1,.sl false 4 (Mp zA l_1)),(2,Pp 0),(4,Pp 1)] [(0,Vb 26 (zN h_1)),(1,Vb 31 [.nilsl,.nilsl,.nilsl,.own 2 0]),(2,Rb 59 4 [])] an ?_
 refine sq ?_
 refine sq ?_
 obtain ⟨r_1,h_2,h⟩:=bind_some h
 refine rg [(1,{ av:=Ii r_1,l:=[yU h_1] })] [1,2,4,6] [0,1,2] 3 [.sl false 4 (Mp zA l_1),Pp 0,Pp 1,Ii r_1] [Vb 26 (zN h_1),Vb 31 [.nilsl,.nilsl,.nilsl,.own 2 0],Rb 59 4 []] zF (ar ([yU h_1]:List AV) (ac (rfl:([]:List zW)=[]) (ac (zJS F h_1 r_1 h_2:zV prog 27 [] [] [yU h_1] [] (Ii r_1)) an))) ?_
 refine sr [] [1,2,4,6,18] [0,1,2] 3 [.sl false 4 (Mp zA l_1),Pp 0,Pp 1,Ii r_1,.bool (r_1 != (0:Int))] [Vb 26 (zN h_1),Vb 31 [.nilsl,.nilsl,.nilsl,.own 2 0],Rb 59 4 []] zF an ?_
 refine cd 18 (r_1 != (0:Int)) ?_ ?_
 ·intro g_1;replace h:=zR g_1 h
  refine sr [] [4,5] [1] 3 [Pp 1,Ii r_1] [Vb 31 [.nilsl,.nilsl,.nilsl,.nilsl]] zF an ?_
  refine uW (u6 1 3 3 59 4 (by kernel_rfl)) ?_
  refine wk [1,3] [] [.s 4,.s 5] [.s 0,.s 1] [(4,Pp 0),(5,Ii r_1)] [(0,Vb 31 [.nilsl,.nilsl,.nilsl,.own 1 0]),(1,Rb 59 4 [])] an ?_
  refine wk [0] [1] [.s 4,.s 5] [.a 0 (Vb 31 [.sl false 3 (Mp zG (((⟨(⟨[],[],[]⟩:zL),[]⟩:zM).Head).Threads)),.sl false 2 (Mp zC (((⟨(⟨[],[],[]⟩:zL),[]⟩:zM).Head).Domains)),.sl false 5 (Mp zK (((⟨(⟨[],[],[]⟩:zL),[]⟩:zM).Head).Snaps)),.sl false 4 (Mp zA ((⟨(⟨[],[],[]⟩:zL),[]⟩:zM).Parts))])] [(4,Pp 0),(5,Ii r_1)] [(0,Vb 31 [.sl false 3 (Mp zG (((⟨(⟨[],[],[]⟩:zL),[]⟩:zM).Head).Threads)),.sl false 2 (Mp zC (((⟨(⟨[],[],[]⟩:zL),[]⟩:zM).Head).Domains)),.sl false 5 (Mp zK (((⟨(⟨[],[],[]⟩:zL),[]⟩:zM).Head).Snaps)),.sl false 4 (Mp zA ((⟨(⟨[],[],[]⟩:zL),[]⟩:zM).Parts))])] (ar 31 (ac (rfl:v7 [.sl false 3 (Mp zG (((⟨(⟨[],[],[]⟩:zL),[]⟩:zM).Head).Threads)),.sl false 2 (Mp zC (((⟨(⟨[],[],[]⟩:zL),[]⟩:zM).Head).Domains)),.sl false 5 (Mp zK (((⟨(⟨[],[],[]⟩:zL),[]⟩:zM).Head).Snaps)),.sl false 4 (Mp zA ((⟨(⟨[],[],[]⟩:zL),[]⟩:zM).Parts))]=true) (ac (by first | (simp;done) | (simp;omega):0=(([]:List AV)).length) (ac (rfl:((Mp zG (((⟨(⟨[],[],[]⟩:zL),[]⟩:zM).Head).Threads)):List AV)=[]) (ac (rfl:((Mp zC (((⟨(⟨[],[],[]⟩:zL),[]⟩:zM).Head).Domains)):List AV)=[]) (ac (rfl:((Mp zK (((⟨(⟨[],[],[]⟩:zL),[]⟩:zM).Head).Snaps)):List AV)=[]) (ar 4 (ac (rfl:([]:List AV)=(Mp zA ((⟨(⟨[],[],[]⟩:zL),[]⟩:zM).Parts))) (ac (rfl:(!false||false)=true) an))))))))) ?_
  refine rt ?_
  cases h
  exact ⟨.inr rfl,Nat.le_of_ble_eq_true rfl,by kernel_rfl⟩
 intro g_1;replace h:=zQ g_1 h
 refine sk ?_
 refine sq ?_
 refine sq ?_
 obtain ⟨r_2,h_3,h⟩:=bind_some h
 refine rg [(2,{ av:=Ii r_2,l:=[yU h_1,.sl false 4 (Mp zA l_1)] })] [1,2,4,7] [0,1,2] 3 [.sl false 4 (Mp zA l_1),Pp 0,Pp 1,Ii r_2] [Vb 26 (zN h_1),Vb 31 [.nilsl,.nilsl,.nilsl,.own 2 0],Rb 59 4 []] zF (ar ([yU h_1,.sl false 4 (Mp zA l_1)]:List AV) (ac (rfl:([]:List zW)=[]) (ac (zJP F h_1 l_1 r_2 h_3:zV prog 28 [] [] [yU h_1,.sl false 4 (Mp zA l_1)] [] (Ii r_2)) an))) ?_
 refine sr [] [1,2,4,7,25] [0,1,2] 3 [.sl false 4 (Mp zA l_1),Pp 0,Pp 1,Ii r_2,.bool (r_2 != (0:Int))] [Vb 26 (zN h_1),Vb 31 [.nilsl,.nilsl,.nilsl,.own 2 0],Rb 59 4 []] zF an ?_
 refine cd 25 (r_2 != (0:Int)) ?_ ?_
 ·intro g_2;replace h:=zR g_2 h
  refine sr [] [4,5] [1] 3 [Pp 1,Ii r_2] [Vb 31 [.nilsl,.nilsl,.nilsl,.nilsl]] zF an ?_
  refine uW (u6 1 3 3 59 4 (by kernel_rfl)) ?_
  refine wk [1,3] [] [.s 4,.s 5] [.s 0,.s 1] [(4,Pp 0),(5,Ii r_2)] [(0,Vb 31 [.nilsl,.nilsl,.nilsl,.own 1 0]),(1,Rb 59 4 [])] an ?_
  refine wk [0] [1] [.s 4,.s 5] [.a 0 (Vb 31 [.sl false 3 (Mp zG (((⟨(⟨[],[],[]⟩:zL),[]⟩:zM).Head).Threads)),.sl false 2 (Mp zC (((⟨(⟨[],[],[]⟩:zL),[]⟩:zM).Head).Domains)),.sl false 5 (Mp zK (((⟨(⟨[],[],[]⟩:zL),[]⟩:zM).Head).Snaps)),.sl false 4 (Mp zA ((⟨(⟨[],[],[]⟩:zL),[]⟩:zM).Parts))])] [(4,Pp 0),(5,Ii r_2)] [(0,Vb 31 [.sl false 3 (Mp zG (((⟨(⟨[],[],[]⟩:zL),[]⟩:zM).Head).Threads)),.sl false 2 (Mp zC (((⟨(⟨[],[],[]⟩:zL),[]⟩:zM).Head).Domains)),.sl false 5 (Mp zK (((⟨(⟨[],[],[]⟩:zL),[]⟩:zM).Head).Snaps)),.sl false 4 (Mp zA ((⟨(⟨[],[],[]⟩:zL),[]⟩:zM).Parts))])] (ar 31 (ac (rfl:v7 [.sl false 3 (Mp zG (((⟨(⟨[],[],[]⟩:zL),[]⟩:zM).Head).Threads)),.sl false 2 (Mp zC (((⟨(⟨[],[],[]⟩:zL),[]⟩:zM).Head).Domains)),.sl false 5 (Mp zK (((⟨(⟨[],[],[]⟩:zL),[]⟩:zM).Head).Snaps)),.sl false 4 (Mp zA ((⟨(⟨[],[],[]⟩:zL),[]⟩:zM).Parts))]=true) (ac (by first | (simp;done) | (simp;omega):0=(([]:List AV)).length) (ac (rfl:((Mp zG (((⟨(⟨[],[],[]⟩:zL),[]⟩:zM).Head).Threads)):List AV)=[]) (ac (rfl:((Mp zC (((⟨(⟨[],[],[]⟩:zL),[]⟩:zM).Head).Domains)):List AV)=[]) (ac (rfl:((Mp zK (((⟨(⟨[],[],[]⟩:zL),[]⟩:zM).Head).Snaps)):List AV)=[]) (ar 4 (ac (rfl:([]:List AV)=(Mp zA ((⟨(⟨[],[],[]⟩:zL),[]⟩:zM).Parts))) (ac (rfl:(!false||false)=true) an))))))))) ?_
  refine rt ?_
  cases h
  exact ⟨.inr rfl,Nat.le_of_ble_eq_true rfl,by kernel_rfl⟩
 intro g_2;replace h:=zQ g_2 h
 refine sk ?_
 refine sr [(0,{ id:=3,mag:=false,mks:=[.int .i64] })] [1,2,4,8] [0,1,2,3] 4 [.sl false 4 (Mp zA l_1),Pp 0,Pp 1,.mp 3] [Vb 26 (zN h_1),Vb 31 [.nilsl,.nilsl,.nilsl,.own 2 0],Rb 59 4 [],.live (.map false [.int .i64] [])] zF an ?_
 refine zJR 3 4 (ag:=false) (ks:=[.int .i64]) (.nm 59 4 42 6) (by kernel_rfl) (by kernel_rfl) (zPc (by kernel_rfl)) ?_
 intro b_1
 refine wk [0,1,2,4] [] [.s 1,.s 2,.s 4,.s 8] [.s 0,.s 1,.s 2,.s 3] [(1,.sl false 4 (Mp zA l_1)),(2,Pp 0),(4,Pp 1),(8,.rawm b_1)] [(0,Vb 26 (zN h_1)),(1,Vb 31 [.nilsl,.nilsl,.nilsl,.own 2 0]),(2,Rb 59 4 []),(3,.live (.fam (.cl b_1 false [.int .i64] (.nm 59 4 42 6) (List.map (mpE (AV.int .i64) y5) ([]:List (Int×(List (zB))))))))] an ?_
 refine sq ?_
 refine sr [(1,{ n:=(l_1).length })] [2,4,8,29,30,31] [0,1,2,3] 4 [Pp 0,Pp 1,.rawm b_1,.sl false 4 (Mp zA l_1),Ii (lN (l_1)),Ii 0] [Vb 26 (zN h_1),Vb 31 [.nilsl,.nilsl,.nilsl,.own 2 0],Rb 59 4 [],.live (.fam (.cl b_1 false [.int .i64] (.nm 59 4 42 6) (List.map (mpE (AV.int .i64) y5) ([]:List (Int×(List (zB)))))))] zF (ac (yF _:((Mp zA l_1)).length=(l_1).length) an) ?_
 obtain ⟨o_1,h_4,h⟩:=bind_some h
 refine y4 (mk [(2,Pp 0),(4,Pp 1),(8,.rawm b_1)] [(0,Vb 26 (zN h_1)),(1,Vb 31 [.nilsl,.nilsl,.nilsl,.own 2 0]),(2,Rb 59 4 []),(3,.live (.fam (.cl b_1 false [.int .i64] (.nm 59 4 42 6) (List.map (mpE (AV.int .i64) y5) o_1))))] 4) ?_ ?_
 ·replace h:=h_4
  refine yD (id:=0) (by kernel_rfl) ?_
  refine wk [0,1,2,3] [] [.s 2,.s 4,.s 8,.s 29,.s 30,.s 31] [.s 0,.s 1,.s 2,.s 3] [(2,Pp 0),(4,Pp 1),(8,.rawm b_1),(29,.sl false 4 (Mp zA l_1)),(30,Ii (lN (l_1))),(31,Ii 0)] [(0,Vb 26 (zN h_1)),(1,Vb 31 [.nilsl,.nilsl,.nilsl,.own 2 0]),(2,Rb 59 4 []),(3,.live (.fam (.cl b_1 false [.int .i64] (.nm 59 4 42 6) (List.map (mpE (AV.int .i64) y5) ([]:List (Int×(List (zB))))))))] an ?_
  refine xI (fun n st=>∃ (v_1:Int),∃ (zE:List (Int×(List (zB)))),st=mk [(2,Pp 0),(4,Pp 1),(8,.rawm b_1),(29,.sl false 4 (Mp zA l_1)),(30,Ii (lN (l_1))),(31,Ii v_1)] [(0,Vb 26 (zN h_1)),(1,Vb 31 [.nilsl,.nilsl,.nilsl,.own 2 0]),(2,Rb 59 4 []),(3,.live (.fam (.cl b_1 false [.int .i64] (.nm 59 4 42 6) (List.map (mpE (AV.int .i64) y5) zE))))] 4∧pZ F l_1 n v_1 zE=some o_1) F (by kernel_rfl) ⟨_,_,rfl,h⟩ ?_ ?_
  ·rintro _ ⟨_,_,_,h⟩;exact xN (h:(none:Option (List (Int×(List (zB)))))=some o_1)
  rintro n_1 _ ⟨v_1,zE,rfl,h⟩
  replace h:pF F l_1 (pZ F l_1 n_1) v_1 zE=some o_1:=h
  unfold pF at h
  refine sr [] [2,4,8,29,30,31,32] [0,1,2,3] 4 [Pp 0,Pp 1,.rawm b_1,.sl false 4 (Mp zA l_1),Ii (lN (l_1)),Ii v_1,.bool (decide (v_1<(lN (l_1))))] [Vb 26 (zN h_1),Vb 31 [.nilsl,.nilsl,.nilsl,.own 2 0],Rb 59 4 [],.live (.fam (.cl b_1 false [.int .i64] (.nm 59 4 42 6) (List.map (mpE (AV.int .i64) y5) zE)))] zF an ?_
  refine sq ?_
  refine cd 32 (decide (v_1<(lN (l_1)))) ?_ ?_
  rotate_left
  ·intro g_3;replace h:=zQ g_3 h
   refine xM (id:=0) (by kernel_rfl) ?_
   cases h
   exact ⟨rfl,(sw [0,1,2,3] [] [.s 2,.s 4,.s 8] [.s 0,.s 1,.s 2,.s 3] an)⟩
  intro g_3;replace h:=zR g_3 h
  refine sk ?_
  refine sq ?_
  refine yD (id:=1) (by kernel_rfl) ?_
  refine sq ?_
  obtain ⟨x_1,h_5,h⟩:=bind_some h
  refine rg [(0,{ av:=zA x_1 }),(2,{ id:=4 })] [2,4,8,10,29,30,31] [0,1,2,3,4] 5 [Pp 0,Pp 1,.rawm b_1,Pp 4,.sl false 4 (Mp zA l_1),Ii (lN (l_1)),Ii v_1] [Vb 26 (zN h_1),Vb 31 [.nilsl,.nilsl,.nilsl,.own 2 0],Rb 59 4 [],.live (.fam (.cl b_1 false [.int .i64] (.nm 59 4 42 6) (List.map (mpE (AV.int .i64) y5) zE))),Vb 59 (zX x_1)] zF (ac (yR h_5:xJ (Mp zA l_1) v_1=some (zA x_1)) an) ?_
  refine sr [(3,{ av:=(y5 ((yO zE x_1.Thread).getD [])),dep:=true,g:=(yO zE x_1.Thread).isSome,ids:=[5,6],l:=(z8 (lst ([]:List zB))),n:=3,x:=true })] [2,4,8,10,11,29,30,31] [0,1,2,3,4,5,6] 7 [Pp 0,Pp 1,.rawm b_1,Pp 4,.own 5 ((Mp zA (ini ((yO zE x_1.Thread).getD []))).length+bif (!(((yO zE x_1.Thread).getD [])).isEmpty) then 1 else 0),.sl false 4 (Mp zA l_1),Ii (lN (l_1)),Ii v_1] [Vb 26 (zN h_1),Vb 31 [.nilsl,.nilsl,.nilsl,.own 2 0],Rb 59 4 [],.live (.fam (.op b_1 false [.int .i64] (.nm 59 4 42 6) (List.map (mpE (AV.int .i64) y5) zE) (Ii x_1.Thread))),Vb 59 (zX x_1),.live (.rowQ 59 4 (Mp zA (ini ((yO zE x_1.Thread).getD []))) (!(((yO zE x_1.Thread).getD [])).isEmpty) (z8 (lst ((yO zE x_1.Thread).getD []))++[.own 6 (Mp zD (lst ((yO zE x_1.Thread).getD [])).Events).length])),Rb 42 6 (Mp zD (lst ((yO zE x_1.Thread).getD [])).Events)] zF (ar b_1 (ac (zBv:v3 prog 3 false [.int .i64]) (ac (zFk (f:=(AV.int .i64)) (g:=y5) zBq zE x_1.Thread []:k0 (List.map (mpE (AV.int .i64) y5) zE) (Ii x_1.Thread) (zMf (.nm 59 4 42 6) (z8 (lst ([]:List zB)))) (y5 ((yO zE x_1.Thread).getD [])) (yO zE x_1.Thread).isSome) an))) ?_
  refine wk [0,1,2,3,4,5,6] [] [.s 2,.s 4,.s 8,.s 10,.a 11 (.own 5 ((((yO zE x_1.Thread).getD [])).length)),.s 29,.s 30,.s 31] [.s 0,.s 1,.s 2,.s 3,.s 4,.a 5 (.live (.rowQ 59 4 (Mp zA (ini ((yO zE x_1.Thread).getD []))) (!(((yO zE x_1.Thread).getD [])).isEmpty) (z8 (lst ((yO zE x_1.Thread).getD []))++[.own 6 ((lst ((yO zE x_1.Thread).getD [])).Events).length]))),.s 6] [(2,Pp 0),(4,Pp 1),(8,.rawm b_1),(10,Pp 4),(11,.own 5 ((((yO zE x_1.Thread).getD [])).length)),(29,.sl false 4 (Mp zA l_1)),(30,Ii (lN (l_1))),(31,Ii v_1)] [(0,Vb 26 (zN h_1)),(1,Vb 31 [.nilsl,.nilsl,.nilsl,.own 2 0]),(2,Rb 59 4 []),(3,.live (.fam (.op b_1 false [.int .i64] (.nm 59 4 42 6) (List.map (mpE (AV.int .i64) y5) zE) (Ii x_1.Thread)))),(4,Vb 59 (zX x_1)),(5,.live (.rowQ 59 4 (Mp zA (ini ((yO zE x_1.Thread).getD []))) (!(((yO zE x_1.Thread).getD [])).isEmpty) (z8 (lst ((yO zE x_1.Thread).getD []))++[.own 6 ((lst ((yO zE x_1.Thread).getD [])).Events).length]))),(6,Rb 42 6 (Mp zD (lst ((yO zE x_1.Thread).getD [])).Events))] (ac (congrArg (AV.own _) (zPh _ _):(.own 5 ((Mp zA (ini ((yO zE x_1.Thread).getD []))).length+bif (!(((yO zE x_1.Thread).getD [])).isEmpty) then 1 else 0):AV)=.own 5 ((((yO zE x_1.Thread).getD [])).length)) (ar 59 (ar 4 (ar (Mp zA (ini ((yO zE x_1.Thread).getD [])):List AV) (ar (!(((yO zE x_1.Thread).getD [])).isEmpty) (ac (rfl:v7 (z8 (lst ((yO zE x_1.Thread).getD []))++[.own 6 ((lst ((yO zE x_1.Thread).getD [])).Events).length])=true) (ac (rfl:(Ii ((lst ((yO zE x_1.Thread).getD [])).Thread):AV)=Ii ((lst ((yO zE x_1.Thread).getD [])).Thread)) (ac (rfl:(Ii ((lst ((yO zE x_1.Thread).getD [])).Serial):AV)=Ii ((lst ((yO zE x_1.Thread).getD [])).Serial)) (ac (rfl:(Ii ((lst ((yO zE x_1.Thread).getD [])).Lost):AV)=Ii ((lst ((yO zE x_1.Thread).getD [])).Lost)) (ac (congrArg (AV.own _) (List.length_map _):(.own 6 (Mp zD (lst ((yO zE x_1.Thread).getD [])).Events).length:AV)=.own 6 ((lst ((yO zE x_1.Thread).getD [])).Events).length) an)))))))))) ?_
  refine sq ?_
  refine sq ?_
  refine y4 (mk [(2,Pp 0),(4,Pp 1),(8,.rawm b_1),(10,Pp 4),(11,.own 5 ((((yO zE x_1.Thread).getD [])).length)),(29,.sl false 4 (Mp zA l_1)),(30,Ii (lN (l_1))),(31,Ii v_1),(46,.bool (decide (x_1.Lost>(0:Int))||((lN (((yO zE x_1.Thread).getD [])))==(0:Int))))] [(0,Vb 26 (zN h_1)),(1,Vb 31 [.nilsl,.nilsl,.nilsl,.own 2 0]),(2,Rb 59 4 []),(3,.live (.fam (.op b_1 false [.int .i64] (.nm 59 4 42 6) (List.map (mpE (AV.int .i64) y5) zE) (Ii x_1.Thread)))),(4,Vb 59 (zX x_1)),(5,.live (.rowQ 59 4 (Mp zA (ini ((yO zE x_1.Thread).getD []))) (!(((yO zE x_1.Thread).getD [])).isEmpty) (z8 (lst ((yO zE x_1.Thread).getD []))++[.own 6 ((lst ((yO zE x_1.Thread).getD [])).Events).length]))),(6,Rb 42 6 (Mp zD (lst ((yO zE x_1.Thread).getD [])).Events))] 7) ?_ ?_
  ·rcases bft (decide (x_1.Lost>(0:Int))) with zS | zS
   ·refine rg [(4,Hg),(5,Hg),(6,Hg),(7,Ht)] [2,4,8,10,11,29,30,31,43,44,45,46] [0,1,2,3,4,5,6] 7 [Pp 0,Pp 1,.rawm b_1,Pp 4,.own 5 ((((yO zE x_1.Thread).getD [])).length),.sl false 4 (Mp zA l_1),Ii (lN (l_1)),Ii v_1,.tuple [],.tuple [],.tuple [],.bool true] [Vb 26 (zN h_1),Vb 31 [.nilsl,.nilsl,.nilsl,.own 2 0],Rb 59 4 [],.live (.fam (.op b_1 false [.int .i64] (.nm 59 4 42 6) (List.map (mpE (AV.int .i64) y5) zE) (Ii x_1.Thread))),Vb 59 (zX x_1),.live (.rowQ 59 4 (Mp zA (ini ((yO zE x_1.Thread).getD []))) (!(((yO zE x_1.Thread).getD [])).isEmpty) (z8 (lst ((yO zE x_1.Thread).getD []))++[.own 6 ((lst ((yO zE x_1.Thread).getD [])).Events).length])),Rb 42 6 (Mp zD (lst ((yO zE x_1.Thread).getD [])).Events)] zF (ac zS (ac zS (ac zS (ac zS an)))) ?_
    exact ⟨rfl,(sw [0,1,2,3,4,5,6] [] [.s 2,.s 4,.s 8,.s 10,.s 11,.s 29,.s 30,.s 31,.a 46 (.bool (decide (x_1.Lost>(0:Int))||((lN (((yO zE x_1.Thread).getD [])))==(0:Int))))] [.s 0,.s 1,.s 2,.s 3,.s 4,.s 5,.s 6] (ac (congrArg AV.bool (ort zS):(.bool true:AV)=.bool (decide (x_1.Lost>(0:Int))||((lN (((yO zE x_1.Thread).getD [])))==(0:Int)))) an))⟩
   ·refine rg [(7,Hf)] [2,4,8,10,11,29,30,31,43,44,45,46] [0,1,2,3,4,5,6] 7 [Pp 0,Pp 1,.rawm b_1,Pp 4,.own 5 ((((yO zE x_1.Thread).getD [])).length),.sl false 4 (Mp zA l_1),Ii (lN (l_1)),Ii v_1,.own 5 ((((yO zE x_1.Thread).getD [])).length),Ii (lN (((yO zE x_1.Thread).getD []))),.bool ((lN (((yO zE x_1.Thread).getD [])))==(0:Int)),.bool ((lN (((yO zE x_1.Thread).getD [])))==(0:Int))] [Vb 26 (zN h_1),Vb 31 [.nilsl,.nilsl,.nilsl,.own 2 0],Rb 59 4 [],.live (.fam (.op b_1 false [.int .i64] (.nm 59 4 42 6) (List.map (mpE (AV.int .i64) y5) zE) (Ii x_1.Thread))),Vb 59 (zX x_1),.live (.rowQ 59 4 (Mp zA (ini ((yO zE x_1.Thread).getD []))) (!(((yO zE x_1.Thread).getD [])).isEmpty) (z8 (lst ((yO zE x_1.Thread).getD []))++[.own 6 ((lst ((yO zE x_1.Thread).getD [])).Events).length])),Rb 42 6 (Mp zD (lst ((yO zE x_1.Thread).getD [])).Events)] zF (ac zS (ac zS (ac zS (ac zS an)))) ?_
    exact ⟨rfl,(sw [0,1,2,3,4,5,6] [] [.s 2,.s 4,.s 8,.s 10,.s 11,.s 29,.s 30,.s 31,.a 46 (.bool (decide (x_1.Lost>(0:Int))||((lN (((yO zE x_1.Thread).getD [])))==(0:Int))))] [.s 0,.s 1,.s 2,.s 3,.s 4,.s 5,.s 6] (ac (congrArg AV.bool (orf zS rfl):(.bool ((lN (((yO zE x_1.Thread).getD [])))==(0:Int)):AV)=.bool (decide (x_1.Lost>(0:Int))||((lN (((yO zE x_1.Thread).getD [])))==(0:Int)))) an))⟩
  obtain ⟨o_2,h_6,h⟩:=bind_some h
  refine y4 (mk [(2,Pp 0),(4,Pp 1),(8,.rawm b_1),(10,Pp 4),(11,.own 5 ((o_2).length)),(29,.sl false 4 (Mp zA l_1)),(30,Ii (lN (l_1))),(31,Ii v_1)] [(0,Vb 26 (zN h_1)),(1,Vb 31 [.nilsl,.nilsl,.nilsl,.own 2 0]),(2,Rb 59 4 []),(3,.live (.fam (.op b_1 false [.int .i64] (.nm 59 4 42 6) (List.map (mpE (AV.int .i64) y5) zE) (Ii x_1.Thread)))),(4,Vb 59 (zX x_1)),(5,.live (.rowQ 59 4 (Mp zA (ini o_2)) (!(o_2).isEmpty) (z8 (lst o_2)++[.own 6 ((lst o_2).Events).length]))),(6,Rb 42 6 (Mp zD (lst o_2).Events))] 7) ?_ ?_
  ·replace h:=h_6
   refine cd 46 (decide (x_1.Lost>(0:Int))||((lN (((yO zE x_1.Thread).getD [])))==(0:Int))) ?_ ?_
   rotate_left
   ·intro g_4;replace h:=zQ g_4 h
    refine sk ?_
    cases h
    exact ⟨rfl,(sw [0,1,2,3,4,5,6] [] [.s 2,.s 4,.s 8,.s 10,.s 11,.s 29,.s 30,.s 31] [.s 0,.s 1,.s 2,.s 3,.s 4,.s 5,.s 6] an)⟩
   intro g_4;replace h:=zR g_4 h
   refine uW (zEz (e:=59) (sz:=4) 5 6 (Mp zA ((yO zE x_1.Thread).getD [])) (by kernel_rfl) (ac ((List.length_map _).symm:((lst ((yO zE x_1.Thread).getD [])).Events).length=(Mp zD (lst ((yO zE x_1.Thread).getD [])).Events:List AV).length) (ac (zFd zA ((yO zE x_1.Thread).getD []) _ rfl:(Mp zA ((yO zE x_1.Thread).getD []):List AV)=List.map zA (ini ((yO zE x_1.Thread).getD []))++bif (!(((yO zE x_1.Thread).getD [])).isEmpty) then [.agg (z8 (lst ((yO zE x_1.Thread).getD []))++[.sl false 6 (Mp zD (lst ((yO zE x_1.Thread).getD [])).Events)])] else []) an))) ?_
   refine wk [0,1,2,3,4,5] [] [.s 2,.s 4,.s 8,.s 10,.s 11,.s 29,.s 30,.s 31] [.s 0,.s 1,.s 2,.s 3,.s 4,.s 5] [(2,Pp 0),(4,Pp 1),(8,.rawm b_1),(10,Pp 4),(11,.own 5 ((((yO zE x_1.Thread).getD [])).length)),(29,.sl false 4 (Mp zA l_1)),(30,Ii (lN (l_1))),(31,Ii v_1)] [(0,Vb 26 (zN h_1)),(1,Vb 31 [.nilsl,.nilsl,.nilsl,.own 2 0]),(2,Rb 59 4 []),(3,.live (.fam (.op b_1 false [.int .i64] (.nm 59 4 42 6) (List.map (mpE (AV.int .i64) y5) zE) (Ii x_1.Thread)))),(4,Vb 59 (zX x_1)),(5,Rb 59 4 (Mp zA ((yO zE x_1.Thread).getD [])))] an ?_
   obtain ⟨_,h_7,h⟩:=bind_some h;replace h_7:=wK h_7
   refine rg [(8,{ id:=6 }),(9,{ id:=7,l:=(Mp zA ((yO zE x_1.Thread).getD [])++[.agg [Ii x_1.Thread,Ii x_1.Serial,Ii x_1.Lost,.nilsl]]),n:=((((yO zE x_1.Thread).getD [])).length+1) })] [2,4,8,10,11,29,30,31] [0,1,2,3,4,7] 8 [Pp 0,Pp 1,.rawm b_1,Pp 4,.own 7 ((((yO zE x_1.Thread).getD [])).length+1),.sl false 4 (Mp zA l_1),Ii (lN (l_1)),Ii v_1] [Vb 26 (zN h_1),Vb 31 [.nilsl,.nilsl,.nilsl,.own 2 0],Rb 59 4 [],.live (.fam (.op b_1 false [.int .i64] (.nm 59 4 42 6) (List.map (mpE (AV.int .i64) y5) zE) (Ii x_1.Thread))),Vb 59 (zX x_1),Rb 59 4 (Mp zA ((yO zE x_1.Thread).getD [])++[.agg [Ii x_1.Thread,Ii x_1.Serial,Ii x_1.Lost,.nilsl]])] zF (ac ((List.length_map _).symm:(((yO zE x_1.Thread).getD [])).length=(Mp zA ((yO zE x_1.Thread).getD [])).length) (ac (rfl:1=([.agg [Ii x_1.Thread,Ii x_1.Serial,Ii x_1.Lost,.nilsl]]:List AV).length) (ac (rfl:((Mp zA ((yO zE x_1.Thread).getD [])++[.agg [Ii x_1.Thread,Ii x_1.Serial,Ii x_1.Lost,.nilsl]]):List AV)=List.map zA ((yO zE x_1.Thread).getD [])++[.agg [Ii x_1.Thread,Ii x_1.Serial,Ii x_1.Lost,.nilsl]]) (ac (by simp:((((yO zE x_1.Thread).getD [])).length+1)=((List.map zA ((yO zE x_1.Thread).getD [])++[.agg [Ii x_1.Thread,Ii x_1.Serial,Ii x_1.Lost,.nilsl]]):List AV).length) (ac (by rw [List.length_map];exact h_7:((List.map zA ((yO zE x_1.Thread).getD []):List AV).length+([.agg [Ii x_1.Thread,Ii x_1.Serial,Ii x_1.Lost,.nilsl]]:List AV).length) * 48≤140737488355328) an))))) ?_
   cases h
   exact ⟨rfl,(Sub.trans (zEG (e:=59) (sz:=4) 7 8 42 6 (Mp zA ((yO zE x_1.Thread).getD [])) [Ii x_1.Thread,Ii x_1.Serial,Ii x_1.Lost] (by kernel_rfl) (ac (rfl:(Mp zA ((yO zE x_1.Thread).getD [])++[.agg [Ii x_1.Thread,Ii x_1.Serial,Ii x_1.Lost,.nilsl]]:List AV)=List.map zA ((yO zE x_1.Thread).getD [])++[.agg ([Ii x_1.Thread,Ii x_1.Serial,Ii x_1.Lost]++[.nilsl])]) an)) (Sub.trans (zF1 [0,1,2,3,4,7,8] [] [.s 2,.s 4,.s 8,.s 10,.a 11 (.own 5 (((((yO zE x_1.Thread).getD [])++[(⟨x_1.Thread,x_1.Serial,x_1.Lost,[]⟩:zB)])).length)),.s 29,.s 30,.s 31] [.s 0,.s 1,.s 2,.s 3,.s 4,.a 5 (.live (.rowQ 59 4 (Mp zA (ini (((yO zE x_1.Thread).getD [])++[(⟨x_1.Thread,x_1.Serial,x_1.Lost,[]⟩:zB)]))) (!((((yO zE x_1.Thread).getD [])++[(⟨x_1.Thread,x_1.Serial,x_1.Lost,[]⟩:zB)])).isEmpty) (z8 (lst (((yO zE x_1.Thread).getD [])++[(⟨x_1.Thread,x_1.Serial,x_1.Lost,[]⟩:zB)]))++[.own 6 ((lst (((yO zE x_1.Thread).getD [])++[(⟨x_1.Thread,x_1.Serial,x_1.Lost,[]⟩:zB)])).Events).length]))),.a 6 (Rb 42 6 (Mp zD (lst (((yO zE x_1.Thread).getD [])++[(⟨x_1.Thread,x_1.Serial,x_1.Lost,[]⟩:zB)])).Events))] (sl2:=[(2,Pp 0),(4,Pp 1),(8,.rawm b_1),(10,Pp 4),(11,.own 5 (((((yO zE x_1.Thread).getD [])++[(⟨x_1.Thread,x_1.Serial,x_1.Lost,[]⟩:zB)])).length)),(29,.sl false 4 (Mp zA l_1)),(30,Ii (lN (l_1))),(31,Ii v_1)]) (bx2:=[(0,Vb 26 (zN h_1)),(1,Vb 31 [.nilsl,.nilsl,.nilsl,.own 2 0]),(2,Rb 59 4 []),(3,.live (.fam (.op b_1 false [.int .i64] (.nm 59 4 42 6) (List.map (mpE (AV.int .i64) y5) zE) (Ii x_1.Thread)))),(4,Vb 59 (zX x_1)),(5,.live (.rowQ 59 4 (Mp zA (ini (((yO zE x_1.Thread).getD [])++[(⟨x_1.Thread,x_1.Serial,x_1.Lost,[]⟩:zB)]))) (!((((yO zE x_1.Thread).getD [])++[(⟨x_1.Thread,x_1.Serial,x_1.Lost,[]⟩:zB)])).isEmpty) (z8 (lst (((yO zE x_1.Thread).getD [])++[(⟨x_1.Thread,x_1.Serial,x_1.Lost,[]⟩:zB)]))++[.own 6 ((lst (((yO zE x_1.Thread).getD [])++[(⟨x_1.Thread,x_1.Serial,x_1.Lost,[]⟩:zB)])).Events).length]))),(6,Rb 42 6 (Mp zD (lst (((yO zE x_1.Thread).getD [])++[(⟨x_1.Thread,x_1.Serial,x_1.Lost,[]⟩:zB)])).Events))]) (by kernel_rfl) (ac (congrArg (AV.own _) (by first | (simp;done) | (simp;omega)):(.own 7 ((((yO zE x_1.Thread).getD [])).length+1):AV)=.own 7 (((((yO zE x_1.Thread).getD [])++[(⟨x_1.Thread,x_1.Serial,x_1.Lost,[]⟩:zB)])).length)) (ar 59 (ar 4 (ac ((congrArg (List.map _) (zAa _ _)).symm:((Mp zA ((yO zE x_1.Thread).getD [])):List AV)=List.map zA (ini (((yO zE x_1.Thread).getD [])++[(⟨x_1.Thread,x_1.Serial,x_1.Lost,[]⟩:zB)]))) (ac ((zFJ _ _).symm:true=(!((((yO zE x_1.Thread).getD [])++[(⟨x_1.Thread,x_1.Serial,x_1.Lost,[]⟩:zB)])).isEmpty)) (ac (rfl:v7 (z8 (lst (((yO zE x_1.Thread).getD [])++[(⟨x_1.Thread,x_1.Serial,x_1.Lost,[]⟩:zB)]))++[.own 8 ((lst (((yO zE x_1.Thread).getD [])++[(⟨x_1.Thread,x_1.Serial,x_1.Lost,[]⟩:zB)])).Events).length])=true) (ac (by first | (simp only [y3];done) | simp [y3]:(Ii x_1.Thread:AV)=Ii ((lst (((yO zE x_1.Thread).getD [])++[(⟨x_1.Thread,x_1.Serial,x_1.Lost,[]⟩:zB)])).Thread)) (ac (by first | (simp only [y3];done) | simp [y3]:(Ii x_1.Serial:AV)=Ii ((lst (((yO zE x_1.Thread).getD [])++[(⟨x_1.Thread,x_1.Serial,x_1.Lost,[]⟩:zB)])).Serial)) (ac (by first | (simp only [y3];done) | simp [y3]:(Ii x_1.Lost:AV)=Ii ((lst (((yO zE x_1.Thread).getD [])++[(⟨x_1.Thread,x_1.Serial,x_1.Lost,[]⟩:zB)])).Lost)) (ac (congrArg (AV.own _) (by first | (simp only [y3];done) | simp [y3]):(.own 8 0:AV)=.own 8 (((lst (((yO zE x_1.Thread).getD [])++[(⟨x_1.Thread,x_1.Serial,x_1.Lost,[]⟩:zB)])).Events).length)) (ar 42 (ar 6 (ac (by first | (simp only [y3];done) | simp [y3]:([]:List AV)=List.map zD (lst (((yO zE x_1.Thread).getD [])++[(⟨x_1.Thread,x_1.Serial,x_1.Lost,[]⟩:zB)])).Events) an)))))))))))))) (sw [0,1,2,3,4,5,6] [] [.s 2,.s 4,.s 8,.s 10,.s 11,.s 29,.s 30,.s 31] [.s 0,.s 1,.s 2,.s 3,.s 4,.s 5,.s 6] an)))⟩
  obtain ⟨r_3,h_8,h⟩:=bind_some h
  obtain ⟨_,h_9,h⟩:=bind_some h;replace h_9:=wK h_9
  refine rg [(6,{ av:=(.own 0 (r_3).length),gids:=[5,6],giv:=[(.rowQ 59 4 (Mp zA (ini o_2)) (!(o_2).isEmpty) (z8 (lst o_2)++[.own 1 ((lst o_2).Events).length])),(.row 42 6 (Mp zD (lst o_2).Events))],ids:=[7,8],l:=[.own 0 (o_2).length,.sl false 6 (Mp zD x_1.Events)],post:=[(.rowQ 59 4 (Mp zA (ini r_3)) (!(r_3).isEmpty) (z8 (lst r_3)++[.own 1 ((lst r_3).Events).length])),(.row 42 6 (Mp zD (lst r_3).Events))] }),(7,{ av:=(y5 r_3),dep:=true,es:=(List.map (mpE (AV.int .i64) y5) (u1 zE x_1.Thread r_3)),ids:=[7,8],n:=3,x:=true })] [2,4,8,29,30,31] [0,1,2,3] 9 [Pp 0,Pp 1,.rawm b_1,.sl false 4 (Mp zA l_1),Ii (lN (l_1)),Ii v_1] [Vb 26 (zN h_1),Vb 31 [.nilsl,.nilsl,.nilsl,.own 2 0],Rb 59 4 [],.live (.fam (.cl b_1 false [.int .i64] (.nm 59 4 42 6) (List.map (mpE (AV.int .i64) y5) (u1 zE x_1.Thread r_3))))] zF (ar ([.own 5 ((o_2).length),.sl false 6 (Mp zD x_1.Events)]:List AV) (ac (rfl:([.live (.rowQ 59 4 (Mp zA (ini o_2)) (!(o_2).isEmpty) (z8 (lst o_2)++[.own 6 ((lst o_2).Events).length])),Rb 42 6 (Mp zD (lst o_2).Events)]:List zW)=[.live (.rowQ 59 4 (Mp zA (ini o_2)) (!(o_2).isEmpty) (z8 (lst o_2)++[.own 6 ((lst o_2).Events).length])),Rb 42 6 (Mp zD (lst o_2).Events)]) (ac (zLc F o_2 x_1.Events r_3 h_8:zV prog 29 [] [(.rowQ 59 4 (Mp zA (ini o_2)) (!(o_2).isEmpty) (z8 (lst o_2)++[.own 1 ((lst o_2).Events).length])),(.row 42 6 (Mp zD (lst o_2).Events))] [.own 0 (o_2).length,.sl false 6 (Mp zD x_1.Events)] [(.rowQ 59 4 (Mp zA (ini r_3)) (!(r_3).isEmpty) (z8 (lst r_3)++[.own 1 ((lst r_3).Events).length])),(.row 42 6 (Mp zD (lst r_3).Events))] (.own 0 (r_3).length)) (ar b_1 (ac (rfl:(Ii x_1.Thread:AV)=Ii x_1.Thread) (ac (zBv:v3 prog 3 false [.int .i64]) (ac (zEy (f:=(AV.int .i64)) (g:=y5) zBq zE x_1.Thread r_3:zDj (List.map (mpE (AV.int .i64) y5) zE) (Ii x_1.Thread) (y5 r_3) (List.map (mpE (AV.int .i64) y5) (u1 zE x_1.Thread r_3))) (ac (zIf (l:=zE) h_9:(List.map (mpE (AV.int .i64) y5) zE:List (AV×AV)).length<maxLen) (ac (congrArg (AV.own _) (zPh _ _).symm:(.own 7 ((r_3).length):AV)=.own 7 ((Mp zA (ini r_3)).length+bif (!(r_3).isEmpty) then 1 else 0)) (ac (by rw [List.length_map]:([.live (.rowQ 59 4 (List.map zA (ini r_3)) (!(r_3).isEmpty) (z8 (lst r_3)++[.own 8 ((lst r_3).Events).length])),Rb 42 6 (List.map zD (lst r_3).Events)]:List zW)=[.live (.rowQ 59 4 (List.map zA (ini r_3)) (!(r_3).isEmpty) (z8 (lst r_3)++[.own 8 (List.map zD (lst r_3).Events).length])),Rb 42 6 (List.map zD (lst r_3).Events)]) an)))))))))) ?_
  refine rg [] [2,4,8,29,30,31] [0,1,2,3] 9 [Pp 0,Pp 1,.rawm b_1,.sl false 4 (Mp zA l_1),Ii (lN (l_1)),Ii (zP (v_1+(1:Int)))] [Vb 26 (zN h_1),Vb 31 [.nilsl,.nilsl,.nilsl,.own 2 0],Rb 59 4 [],.live (.fam (.cl b_1 false [.int .i64] (.nm 59 4 42 6) (List.map (mpE (AV.int .i64) y5) (u1 zE x_1.Thread r_3))))] zF an ?_
  exact ⟨_,(sw [0,1,2,3] [] [.s 2,.s 4,.s 8,.s 29,.s 30,.s 31] [.s 0,.s 1,.s 2,.s 3] an),_,_,rfl,h⟩
 refine sq ?_
 refine uW (zPC (ag:=false) (ks:=[.int .i64]) 3 4 [8] (List.map (mpE (AV.int .i64) (fun l=>AV.sl false 4 (l.map zA))) o_1) (by kernel_rfl) (ar ([.rawm b_1]:List AV) (ac (zP6 (f:=(AV.int .i64)) (g:=y5) zGF o_1:∀ x∈List.map (mpE (AV.int .i64) y5) o_1,zGN x.2∧zFp 4 6 x.2=true) (ac (zP2 (f:=(AV.int .i64)) (g:=y5) (g2:=(fun l=>AV.sl false 4 (l.map zA))) zG0 o_1:(List.map (mpE (AV.int .i64) (fun l=>AV.sl false 4 (l.map zA))) o_1)=(List.map (mpE (AV.int .i64) y5) o_1).map fun x=>(x.1,fzV x.2)) an)))) ?_
 refine wk [0,1,2,4] [] [.s 2,.s 4,.s 8] [.s 0,.s 1,.s 2,.s 3] [(2,Pp 0),(4,Pp 1),(8,.mp 3)] [(0,Vb 26 (zN h_1)),(1,Vb 31 [.nilsl,.nilsl,.nilsl,.own 2 0]),(2,Rb 59 4 []),(3,.live (.map false [.int .i64] (List.map (mpE (AV.int .i64) (fun l=>AV.sl false 4 (l.map zA))) o_1)))] an ?_
 refine rg [(2,{ id:=4 })] [2,4,8,12] [0,1,2,3,4] 5 [Pp 0,Pp 1,.mp 3,Pp 4] [Vb 26 (zN h_1),Vb 31 [.nilsl,.nilsl,.nilsl,.own 2 0],Rb 59 4 [],.live (.map false [.int .i64] (List.map (mpE (AV.int .i64) (fun l=>AV.sl false 4 (l.map zA))) o_1)),Vb 31 [.sl false 3 (Mp zG h_1.Threads),.sl false 2 (Mp zC h_1.Domains),.sl false 5 (Mp zK h_1.Snaps),.nilsl]] zF an ?_
 refine uW (u6 4 3 5 59 4 (by kernel_rfl)) ?_
 refine wk [0,1,2,3,4,5] [] [.s 2,.s 4,.s 8,.s 12] [.s 0,.s 1,.s 2,.s 3,.s 4,.s 5] [(2,Pp 0),(4,Pp 1),(8,.mp 3),(12,Pp 4)] [(0,Vb 26 (zN h_1)),(1,Vb 31 [.nilsl,.nilsl,.nilsl,.own 2 0]),(2,Rb 59 4 []),(3,.live (.map false [.int .i64] (List.map (mpE (AV.int .i64) (fun l=>AV.sl false 4 (l.map zA))) o_1))),(4,Vb 31 [.sl false 3 (Mp zG h_1.Threads),.sl false 2 (Mp zC h_1.Domains),.sl false 5 (Mp zK h_1.Snaps),.own 5 0]),(5,Rb 59 4 [])] an ?_
 refine sq ?_
 refine sr [(2,{ n:=(h_1.Threads).length })] [4,8,12,68,69,70] [1,2,3,4,5] 6 [Pp 1,.mp 3,Pp 4,.sl false 3 (Mp zG h_1.Threads),Ii (lN (h_1.Threads)),Ii 0] [Vb 31 [.nilsl,.nilsl,.nilsl,.own 2 0],Rb 59 4 [],.live (.map false [.int .i64] (List.map (mpE (AV.int .i64) (fun l=>AV.sl false 4 (l.map zA))) o_1)),Vb 31 [.sl false 3 (Mp zG h_1.Threads),.sl false 2 (Mp zC h_1.Domains),.sl false 5 (Mp zK h_1.Snaps),.own 5 0],Rb 59 4 []] zF (ac (yF _:((Mp zG h_1.Threads)).length=(h_1.Threads).length) an) ?_
 obtain ⟨o_3,tT,h⟩:=bind_some h
 refine y4 (mk [(4,Pp 0),(12,Pp 2)] [(0,Vb 31 [.nilsl,.nilsl,.nilsl,.own 1 0]),(1,Rb 59 4 []),(2,Vb 31 [.sl false 3 (Mp zG h_1.Threads),.sl false 2 (Mp zC h_1.Domains),.sl false 5 (Mp zK h_1.Snaps),.own 3 ((o_3).length)]),(3,Rb 59 4 (Mp zA o_3))] 4) ?_ ?_
 ·replace h:=tT
  refine yD (id:=2) (by kernel_rfl) ?_
  refine wk [1,2,3,4,5] [] [.s 4,.s 8,.s 12,.s 68,.s 69,.s 70] [.s 0,.s 1,.s 2,.s 3,.s 4] [(4,Pp 0),(8,.mp 2),(12,Pp 3),(68,.sl false 3 (Mp zG h_1.Threads)),(69,Ii (lN (h_1.Threads))),(70,Ii 0)] [(0,Vb 31 [.nilsl,.nilsl,.nilsl,.own 1 0]),(1,Rb 59 4 []),(2,.live (.map false [.int .i64] (List.map (mpE (AV.int .i64) (fun l=>AV.sl false 4 (l.map zA))) o_1))),(3,Vb 31 [.sl false 3 (Mp zG h_1.Threads),.sl false 2 (Mp zC h_1.Domains),.sl false 5 (Mp zK h_1.Snaps),.own 4 0]),(4,Rb 59 4 [])] an ?_
  refine xI (fun n st=>∃ (v_2:Int),∃ (zY:List zB),st=mk [(4,Pp 0),(8,.mp 2),(12,Pp 3),(68,.sl false 3 (Mp zG h_1.Threads)),(69,Ii (lN (h_1.Threads))),(70,Ii v_2)] [(0,Vb 31 [.nilsl,.nilsl,.nilsl,.own 1 0]),(1,Rb 59 4 []),(2,.live (.map false [.int .i64] (List.map (mpE (AV.int .i64) (fun l=>AV.sl false 4 (l.map zA))) o_1))),(3,Vb 31 [.sl false 3 (Mp zG h_1.Threads),.sl false 2 (Mp zC h_1.Domains),.sl false 5 (Mp zK h_1.Snaps),.own 4 ((zY).length)]),(4,Rb 59 4 (Mp zA zY))] 5∧zBr F h_1 o_1 n v_2 zY=some o_3) F (by kernel_rfl) ⟨_,_,rfl,h⟩ ?_ ?_
  ·rintro _ ⟨_,_,_,h⟩;exact xN (h:(none:Option (List zB))=some o_3)
  rintro n_2 _ ⟨v_2,zY,rfl,h⟩
  replace h:pP F h_1 o_1 (zBr F h_1 o_1 n_2) v_2 zY=some o_3:=h
  unfold pP at h
  refine sr [] [4,8,12,68,69,70,71] [0,1,2,3,4] 5 [Pp 0,.mp 2,Pp 3,.sl false 3 (Mp zG h_1.Threads),Ii (lN (h_1.Threads)),Ii v_2,.bool (decide (v_2<(lN (h_1.Threads))))] [Vb 31 [.nilsl,.nilsl,.nilsl,.own 1 0],Rb 59 4 [],.live (.map false [.int .i64] (List.map (mpE (AV.int .i64) (fun l=>AV.sl false 4 (l.map zA))) o_1)),Vb 31 [.sl false 3 (Mp zG h_1.Threads),.sl false 2 (Mp zC h_1.Domains),.sl false 5 (Mp zK h_1.Snaps),.own 4 ((zY).length)],Rb 59 4 (Mp zA zY)] zF an ?_
  refine sq ?_
  refine cd 71 (decide (v_2<(lN (h_1.Threads)))) ?_ ?_
  rotate_left
  ·intro g_5;replace h:=zQ g_5 h
   refine xM (id:=2) (by kernel_rfl) ?_
   cases h
   exact ⟨rfl,(sw [0,1,3,4] [] [.s 4,.s 12] [.s 0,.s 1,.s 2,.s 3] an)⟩
  intro g_5;replace h:=zR g_5 h
  refine sk ?_
  refine sq ?_
  refine yD (id:=3) (by kernel_rfl) ?_
  refine sq ?_
  obtain ⟨x_2,tU,h⟩:=bind_some h
  refine rg [(0,{ av:=zG x_2 }),(2,{ id:=5 })] [4,8,12,14,68,69,70] [0,1,2,3,4,5] 6 [Pp 0,.mp 2,Pp 3,Pp 5,.sl false 3 (Mp zG h_1.Threads),Ii (lN (h_1.Threads)),Ii v_2] [Vb 31 [.nilsl,.nilsl,.nilsl,.own 1 0],Rb 59 4 [],.live (.map false [.int .i64] (List.map (mpE (AV.int .i64) (fun l=>AV.sl false 4 (l.map zA))) o_1)),Vb 31 [.sl false 3 (Mp zG h_1.Threads),.sl false 2 (Mp zC h_1.Domains),.sl false 5 (Mp zK h_1.Snaps),.own 4 ((zY).length)],Rb 59 4 (Mp zA zY),Vb 66 (yI x_2)] zF (ac (yR tU:xJ (Mp zG h_1.Threads) v_2=some (zG x_2)) an) ?_
  obtain ⟨_,zCd,h⟩:=bind_some h;replace zCd:=wK zCd
  refine rg [(5,{ av:=(.sl false 4 (Mp zA ((yO o_1 x_2.Id).getD []))),b:=true,g:=(yO o_1 x_2.Id).isSome,n:=4 }),(6,{ id:=6,l:=(Mp zA (zY++((yO o_1 x_2.Id).getD []))),n:=((zY++((yO o_1 x_2.Id).getD []))).length })] [4,8,12,68,69,70] [0,1,2,3,6] 7 [Pp 0,.mp 2,Pp 3,.sl false 3 (Mp zG h_1.Threads),Ii (lN (h_1.Threads)),Ii v_2] [Vb 31 [.nilsl,.nilsl,.nilsl,.own 1 0],Rb 59 4 [],.live (.map false [.int .i64] (List.map (mpE (AV.int .i64) (fun l=>AV.sl false 4 (l.map zA))) o_1)),Vb 31 [.sl false 3 (Mp zG h_1.Threads),.sl false 2 (Mp zC h_1.Domains),.sl false 5 (Mp zK h_1.Snaps),.own 6 (((zY++((yO o_1 x_2.Id).getD []))).length)],Rb 59 4 (Mp zA (zY++((yO o_1 x_2.Id).getD [])))] zF (ac (zBv:v3 prog 3 false [.int .i64]) (ac (zFk (f:=(AV.int .i64)) (g:=(fun l=>AV.sl false 4 (l.map zA))) zBq o_1 x_2.Id []:k0 (List.map (mpE (AV.int .i64) (fun l=>AV.sl false 4 (l.map zA))) o_1) (Ii x_2.Id) (.sl false 4 []) (.sl false 4 (Mp zA ((yO o_1 x_2.Id).getD []))) (yO o_1 x_2.Id).isSome) (ac (by first | (simp;done) | (simp;omega):(zY).length=((List.map zA zY)).length) (ac (trivial:True) (ac (zBD _ _:(Mp zA (zY++((yO o_1 x_2.Id).getD [])))=(Mp zA zY)++(Mp zA ((yO o_1 x_2.Id).getD []))) (ac (by simp:((zY++((yO o_1 x_2.Id).getD []))).length=((List.map zA (zY++((yO o_1 x_2.Id).getD [])))).length) (ac (by first | (simp;done) | simpa using zCd:(((List.map zA zY):List AV).length+((List.map zA ((yO o_1 x_2.Id).getD [])):List AV).length) * 48≤140737488355328) an))))))) ?_
  refine rg [] [4,8,12,68,69,70] [0,1,2,3,6] 7 [Pp 0,.mp 2,Pp 3,.sl false 3 (Mp zG h_1.Threads),Ii (lN (h_1.Threads)),Ii (zP (v_2+(1:Int)))] [Vb 31 [.nilsl,.nilsl,.nilsl,.own 1 0],Rb 59 4 [],.live (.map false [.int .i64] (List.map (mpE (AV.int .i64) (fun l=>AV.sl false 4 (l.map zA))) o_1)),Vb 31 [.sl false 3 (Mp zG h_1.Threads),.sl false 2 (Mp zC h_1.Domains),.sl false 5 (Mp zK h_1.Snaps),.own 6 (((zY++((yO o_1 x_2.Id).getD []))).length)],Rb 59 4 (Mp zA (zY++((yO o_1 x_2.Id).getD [])))] zF an ?_
  exact ⟨_,(sw [0,1,2,3,6] [] [.s 4,.s 8,.s 12,.s 68,.s 69,.s 70] [.s 0,.s 1,.s 2,.s 3,.s 4] an),_,_,rfl,h⟩
 refine sr [] [4,5] [0,3] 4 [Pp 0,Ii 0] [Vb 31 [.sl false 3 (Mp zG h_1.Threads),.sl false 2 (Mp zC h_1.Domains),.sl false 5 (Mp zK h_1.Snaps),.own 3 ((o_3).length)],Rb 59 4 (Mp zA o_3)] zF an ?_
 refine wk [0] [3] [.s 4,.s 5] [.a 0 (Vb 31 [.sl false 3 (Mp zG (((⟨h_1,o_3⟩:zM).Head).Threads)),.sl false 2 (Mp zC (((⟨h_1,o_3⟩:zM).Head).Domains)),.sl false 5 (Mp zK (((⟨h_1,o_3⟩:zM).Head).Snaps)),.sl false 4 (Mp zA ((⟨h_1,o_3⟩:zM).Parts))])] [(4,Pp 0),(5,Ii 0)] [(0,Vb 31 [.sl false 3 (Mp zG (((⟨h_1,o_3⟩:zM).Head).Threads)),.sl false 2 (Mp zC (((⟨h_1,o_3⟩:zM).Head).Domains)),.sl false 5 (Mp zK (((⟨h_1,o_3⟩:zM).Head).Snaps)),.sl false 4 (Mp zA ((⟨h_1,o_3⟩:zM).Parts))])] (ar 31 (ac (rfl:v7 [.sl false 3 (Mp zG (((⟨h_1,o_3⟩:zM).Head).Threads)),.sl false 2 (Mp zC (((⟨h_1,o_3⟩:zM).Head).Domains)),.sl false 5 (Mp zK (((⟨h_1,o_3⟩:zM).Head).Snaps)),.sl false 4 (Mp zA ((⟨h_1,o_3⟩:zM).Parts))]=true) (ac (by first | (simp;done) | (simp;omega):(o_3).length=((List.map zA o_3)).length) (ar 3 (ac (rfl:((Mp zG h_1.Threads):List AV)=(Mp zG (((⟨h_1,o_3⟩:zM).Head).Threads))) (ac (rfl:(!false||false)=true) (ar 2 (ac (rfl:((Mp zC h_1.Domains):List AV)=(Mp zC (((⟨h_1,o_3⟩:zM).Head).Domains))) (ac (rfl:(!false||false)=true) (ar 5 (ac (rfl:((Mp zK h_1.Snaps):List AV)=(Mp zK (((⟨h_1,o_3⟩:zM).Head).Snaps))) (ac (rfl:(!false||false)=true) (ar 4 (ac (rfl:((Mp zA o_3):List AV)=(Mp zA ((⟨h_1,o_3⟩:zM).Parts))) (ac (rfl:(!false||false)=true) an))))))))))))))) ?_
 refine rt ?_
 cases h
 exact ⟨.inr rfl,Nat.le_of_ble_eq_true rfl,by kernel_rfl⟩
end Go.Ab
