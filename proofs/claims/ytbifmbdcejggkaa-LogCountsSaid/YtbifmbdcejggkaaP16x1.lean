/- Printed: the typed Lean functions of the Go functions, or the proofs that the Go functions meet them. No conditions but those that the theorems name. -/
import Derived.Test.YtbifmbdcejggkaaP16xD
import Derived.Test.YtbifmbdcejggkaaProg
namespace Go.Ab
open Go
set_option linter.unusedVariables false
noncomputable abbrev prog:=Go.Proofs.Try.prog
theorem zG:prog.follows .mixedOrders=true:=by kernel_rfl
theorem zNS:zFU prog 92:=⟨_,Go.Proofs.Try.func92,by kernel_rfl,by kernel_rfl,by kernel_rfl,by kernel_rfl⟩
theorem zAt:vU prog 3 false [.int .i64]:=zK7 (by kernel_rfl)
theorem zM1:vU prog 68 true [.int .i64,.int .i64]:=zCb (by kernel_rfl) (by kernel_rfl) (by kernel_rfl) (by kernel_rfl)
theorem zBX:∀ a b:zL,zD a=zD b→a=b:=by
  intro a b h
  cases a;cases b;simpa [zD,uA] using h
theorem zJF:kP prog 68 [.int .i64,.int .i64]:=zDb zM1 (by kernel_rfl) (by kernel_rfl)
theorem zMe:vU prog 66 true [.int .i64,.str,.int .i64]:=zCb (by kernel_rfl) (by kernel_rfl) (by kernel_rfl) (by kernel_rfl)
theorem zE7:∀ a b:zP,zF a=zF b→a=b:=by
  intro a b h
  cases a;cases b;simpa [zF,z5] using h
theorem zNI:kP prog 66 [.int .i64,.str,.int .i64]:=zDb zMe (by kernel_rfl) (by kernel_rfl)
theorem zMD:vU prog 86 true [.int .i64,.int .i64,.int .i64,.int .i64,.int .i64]:=zCb (by kernel_rfl) (by kernel_rfl) (by kernel_rfl) (by kernel_rfl)
theorem zGt:∀ a b:x9,zO a=zO b→a=b:=by
  rintro ⟨_,_,_,⟨_,_⟩⟩ ⟨_,_,_,⟨_,_⟩⟩ h
  simpa [zO,uK] using h
theorem zND:kP prog 86 [.int .i64,.int .i64,.int .i64,.int .i64,.int .i64]:=zDb zMD (by kernel_rfl) (by kernel_rfl)
theorem zMH:vU prog 50 true [.int .i64,.int .i64,.int .i64]:=zCb (by kernel_rfl) (by kernel_rfl) (by kernel_rfl) (by kernel_rfl)
theorem kV:∀ a b:yE,z8 a=z8 b→a=b:=by
  intro a b h
  cases a;cases b;simpa [z8,vG] using h
theorem zCJ:kP prog 50 [.int .i64,.int .i64,.int .i64]:=zDb zMH (by kernel_rfl) (by kernel_rfl)
theorem zDO (F:Nat) (h_1:zR) (l_1:List (zB)) (r:Bool) (h:zBh F h_1 l_1=some r):zV prog 8 [] [] [xO h_1,.sl false 4 (Mp zA l_1)] [] (.bool r):=by
 refine yM (fn:=Go.Proofs.Try.f8) (code:=x4 Go.Proofs.Try.f8) (by kernel_rfl) (by kernel_rfl) (Nat.le_of_ble_eq_true (by kernel_rfl)) ?_
 unfold zBh at h
 refine sr [(0,{ id:=0 })] [1,2] [0] 1 [.sl false 4 (Mp zA l_1),Pp 0] [Vb 26 (z0 h_1)] zG an ?_
 refine sr [] [1,2,5] [0] 1 [.sl false 4 (Mp zA l_1),Pp 0,Ii 0] [Vb 26 (z0 h_1)] zG an ?_
 refine sq ?_
 refine sr [(1,{ n:=(l_1).length })] [1,2,5,8,9,10] [0] 1 [.sl false 4 (Mp zA l_1),Pp 0,Ii 0,.sl false 4 (Mp zA l_1),Ii (lN (l_1)),Ii 0] [Vb 26 (z0 h_1)] zG (ac (yL _:((Mp zA l_1)).length=(l_1).length) an) ?_
 obtain ⟨o_1,h_2,h⟩:=bind_some h
 refine wI (mk [(1,.sl false 4 (Mp zA l_1)),(2,Pp 0),(5,Ii o_1)] [(0,Vb 26 (z0 h_1))] 1) ?_ ?_
 ·replace h:=h_2
  refine yN (id:=0) (by kernel_rfl) ?_
  refine wk [0] [] [.s 1,.s 2,.s 5,.s 8,.s 9,.s 10] [.s 0] [(1,.sl false 4 (Mp zA l_1)),(2,Pp 0),(5,Ii 0),(8,.sl false 4 (Mp zA l_1)),(9,Ii (lN (l_1))),(10,Ii 0)] [(0,Vb 26 (z0 h_1))] an ?_
  refine wE (fun n st=>∃ (n_1:Int),∃ (v_1:Int),st=mk [(1,.sl false 4 (Mp zA l_1)),(2,Pp 0),(5,Ii n_1),(8,.sl false 4 (Mp zA l_1)),(9,Ii (lN (l_1))),(10,Ii v_1)] [(0,Vb 26 (z0 h_1))] 1∧u0 F l_1 n n_1 v_1=some o_1) F (by kernel_rfl) ⟨_,_,rfl,h⟩ ?_ ?_
  ·rintro _ ⟨_,_,_,h⟩;exact wO (h:(none:Option Int)=some o_1)
  rintro n_2 _ ⟨n_1,v_1,rfl,h⟩
  replace h:uS F l_1 (u0 F l_1 n_2) n_1 v_1=some o_1:=h
  unfold uS at h
  refine sr [] [1,2,5,8,9,10,11] [0] 1 [.sl false 4 (Mp zA l_1),Pp 0,Ii n_1,.sl false 4 (Mp zA l_1),Ii (lN (l_1)),Ii v_1,.bool (decide (v_1<(lN (l_1))))] [Vb 26 (z0 h_1)] zG an ?_
  refine sq ?_
  refine cd 11 (decide (v_1<(lN (l_1)))) ?_ ?_
  rotate_left
  ·intro g_1;replace h:=zT g_1 h
   refine wJ (id:=0) (by kernel_rfl) ?_
   cases h
   exact ⟨rfl,(sw [0] [] [.s 1,.s 2,.s 5] [.s 0] an)⟩
  intro g_1;replace h:=zS g_1 h
  refine sk ?_
  refine sq ?_
  refine yN (id:=1) (by kernel_rfl) ?_
  refine sq ?_
  obtain ⟨x_1,h_3,h⟩:=bind_some h
  refine rg [(0,{ av:=zA x_1 }),(2,{ id:=1 })] [1,2,5,7,8,9,10] [0,1] 2 [.sl false 4 (Mp zA l_1),Pp 0,Ii n_1,Pp 1,.sl false 4 (Mp zA l_1),Ii (lN (l_1)),Ii v_1] [Vb 26 (z0 h_1),Vb 59 (zZ x_1)] zG (ac (xZ h_3:wV (Mp zA l_1) v_1=some (zA x_1)) an) ?_
  refine rg [(3,{ n:=(x_1.Events).length })] [1,2,5,8,9,10] [0] 2 [.sl false 4 (Mp zA l_1),Pp 0,Ii (zJ (n_1+(lN (x_1.Events)))),.sl false 4 (Mp zA l_1),Ii (lN (l_1)),Ii v_1] [Vb 26 (z0 h_1)] zG (ac (yL _:((Mp zE x_1.Events)).length=(x_1.Events).length) an) ?_
  refine rg [] [1,2,5,8,9,10] [0] 2 [.sl false 4 (Mp zA l_1),Pp 0,Ii (zJ (n_1+(lN (x_1.Events)))),.sl false 4 (Mp zA l_1),Ii (lN (l_1)),Ii (zJ (v_1+(1:Int)))] [Vb 26 (z0 h_1)] zG an ?_
  exact ⟨_,(sw [0] [] [.s 1,.s 2,.s 5,.s 8,.s 9,.s 10] [.s 0] an),_,_,rfl,h⟩
 refine sq ?_
 refine wI (mk [(4,.bool (decide ((lN (h_1.Threads))≤(70:Int))&&(decide ((lN (h_1.Domains))≤(10:Int))&&(decide ((lN (h_1.Snaps))≤(20:Int))&&(decide ((lN (l_1))≤(30:Int))&&decide (o_1≤(3000:Int)))))))] [] 0) ?_ ?_
 ·rcases bft (decide ((lN (h_1.Threads))≤(70:Int))) with zK | zK
  ·rcases bft (decide ((lN (h_1.Domains))≤(10:Int))) with zI | zI
   ·rcases bft (decide ((lN (h_1.Snaps))≤(20:Int))) with zW | zW
    ·rcases bft (decide ((lN (l_1))≤(30:Int))) with z6 | z6
     ·refine rg [(2,{ n:=(h_1.Threads).length }),(7,{ n:=(h_1.Domains).length }),(9,Ht),(13,{ n:=(h_1.Snaps).length }),(15,Ht),(18,{ n:=(l_1).length }),(20,Ht),(24,Ht)] [4] [] 1 [.bool (decide (o_1≤(3000:Int)))] [] zG (ac (yL _:((Mp zF h_1.Threads)).length=(h_1.Threads).length) (ac zK (ac zK (ac zK (ac (yL _:((Mp zD h_1.Domains)).length=(h_1.Domains).length) (ac zK (ac zK (ac zI (ac zI (ac zI (ac (yL _:((Mp zO h_1.Snaps)).length=(h_1.Snaps).length) (ac zI (ac zI (ac zW (ac zW (ac (yL _:((Mp zA l_1)).length=(l_1).length) (ac zW (ac zW (ac z6 (ac z6 (ac z6 an))))))))))))))))))))) ?_
      exact ⟨rfl,(sw [] [] [.a 4 (.bool (decide ((lN (h_1.Threads))≤(70:Int))&&(decide ((lN (h_1.Domains))≤(10:Int))&&(decide ((lN (h_1.Snaps))≤(20:Int))&&(decide ((lN (l_1))≤(30:Int))&&decide (o_1≤(3000:Int)))))))] [] (ac (congrArg AV.bool (tT zK (tT zI (tT zW (tT z6 rfl)))):(.bool (decide (o_1≤(3000:Int))):AV)=.bool (decide ((lN (h_1.Threads))≤(70:Int))&&(decide ((lN (h_1.Domains))≤(10:Int))&&(decide ((lN (h_1.Snaps))≤(20:Int))&&(decide ((lN (l_1))≤(30:Int))&&decide (o_1≤(3000:Int))))))) an))⟩
     ·refine rg [(2,{ n:=(h_1.Threads).length }),(7,{ n:=(h_1.Domains).length }),(9,Ht),(13,{ n:=(h_1.Snaps).length }),(15,Ht),(18,{ n:=(l_1).length }),(20,Ht),(22,Hg),(23,Hg),(24,Hf)] [4] [] 1 [.bool false] [] zG (ac (yL _:((Mp zF h_1.Threads)).length=(h_1.Threads).length) (ac zK (ac zK (ac zK (ac (yL _:((Mp zD h_1.Domains)).length=(h_1.Domains).length) (ac zK (ac zK (ac zI (ac zI (ac zI (ac (yL _:((Mp zO h_1.Snaps)).length=(h_1.Snaps).length) (ac zI (ac zI (ac zW (ac zW (ac (yL _:((Mp zA l_1)).length=(l_1).length) (ac zW (ac zW (ac z6 (ac z6 (ac z6 an))))))))))))))))))))) ?_
      exact ⟨rfl,(sw [] [] [.a 4 (.bool (decide ((lN (h_1.Threads))≤(70:Int))&&(decide ((lN (h_1.Domains))≤(10:Int))&&(decide ((lN (h_1.Snaps))≤(20:Int))&&(decide ((lN (l_1))≤(30:Int))&&decide (o_1≤(3000:Int)))))))] [] (ac (congrArg AV.bool (tT zK (tT zI (tT zW (zAO z6)))):(.bool false:AV)=.bool (decide ((lN (h_1.Threads))≤(70:Int))&&(decide ((lN (h_1.Domains))≤(10:Int))&&(decide ((lN (h_1.Snaps))≤(20:Int))&&(decide ((lN (l_1))≤(30:Int))&&decide (o_1≤(3000:Int))))))) an))⟩
    ·refine rg [(2,{ n:=(h_1.Threads).length }),(7,{ n:=(h_1.Domains).length }),(9,Ht),(13,{ n:=(h_1.Snaps).length }),(15,Ht),(17,Hg),(18,Hg),(19,Hg),(20,Hf),(22,Hg),(23,Hg),(24,Hf)] [4] [] 1 [.bool false] [] zG (ac (yL _:((Mp zF h_1.Threads)).length=(h_1.Threads).length) (ac zK (ac zK (ac zK (ac (yL _:((Mp zD h_1.Domains)).length=(h_1.Domains).length) (ac zK (ac zK (ac zI (ac zI (ac zI (ac (yL _:((Mp zO h_1.Snaps)).length=(h_1.Snaps).length) (ac zI (ac zI (ac zW (ac zW (ac zW (ac zW (ac (rfl:false=!true) (ac (rfl:false=!true) (ar false an)))))))))))))))))))) ?_
     exact ⟨rfl,(sw [] [] [.a 4 (.bool (decide ((lN (h_1.Threads))≤(70:Int))&&(decide ((lN (h_1.Domains))≤(10:Int))&&(decide ((lN (h_1.Snaps))≤(20:Int))&&(decide ((lN (l_1))≤(30:Int))&&decide (o_1≤(3000:Int)))))))] [] (ac (congrArg AV.bool (tT zK (tT zI (zAO zW))):(.bool false:AV)=.bool (decide ((lN (h_1.Threads))≤(70:Int))&&(decide ((lN (h_1.Domains))≤(10:Int))&&(decide ((lN (h_1.Snaps))≤(20:Int))&&(decide ((lN (l_1))≤(30:Int))&&decide (o_1≤(3000:Int))))))) an))⟩
   ·refine rg [(2,{ n:=(h_1.Threads).length }),(7,{ n:=(h_1.Domains).length }),(9,Ht),(11,Hg),(12,Hg),(13,Hg),(14,Hg),(15,Hf),(17,Hg),(18,Hg),(19,Hg),(20,Hf),(22,Hg),(23,Hg),(24,Hf)] [4] [] 1 [.bool false] [] zG (ac (yL _:((Mp zF h_1.Threads)).length=(h_1.Threads).length) (ac zK (ac zK (ac zK (ac (yL _:((Mp zD h_1.Domains)).length=(h_1.Domains).length) (ac zK (ac zK (ac zI (ac zI (ac zI (ac zI (ac zI (ac (rfl:false=!true) (ac (rfl:false=!true) (ac (rfl:false=!true) (ar false (ac (rfl:false=!true) (ac (rfl:false=!true) (ar false an))))))))))))))))))) ?_
    exact ⟨rfl,(sw [] [] [.a 4 (.bool (decide ((lN (h_1.Threads))≤(70:Int))&&(decide ((lN (h_1.Domains))≤(10:Int))&&(decide ((lN (h_1.Snaps))≤(20:Int))&&(decide ((lN (l_1))≤(30:Int))&&decide (o_1≤(3000:Int)))))))] [] (ac (congrArg AV.bool (tT zK (zAO zI)):(.bool false:AV)=.bool (decide ((lN (h_1.Threads))≤(70:Int))&&(decide ((lN (h_1.Domains))≤(10:Int))&&(decide ((lN (h_1.Snaps))≤(20:Int))&&(decide ((lN (l_1))≤(30:Int))&&decide (o_1≤(3000:Int))))))) an))⟩
  ·refine rg [(2,{ n:=(h_1.Threads).length }),(5,Hg),(6,Hg),(7,Hg),(8,Hg),(9,Hf),(11,Hg),(12,Hg),(13,Hg),(14,Hg),(15,Hf),(17,Hg),(18,Hg),(19,Hg),(20,Hf),(22,Hg),(23,Hg),(24,Hf)] [4] [] 1 [.bool false] [] zG (ac (yL _:((Mp zF h_1.Threads)).length=(h_1.Threads).length) (ac zK (ac zK (ac zK (ac zK (ac zK (ac (rfl:false=!true) (ac (rfl:false=!true) (ac (rfl:false=!true) (ac (rfl:false=!true) (ar false (ac (rfl:false=!true) (ac (rfl:false=!true) (ac (rfl:false=!true) (ar false (ac (rfl:false=!true) (ac (rfl:false=!true) (ar false an)))))))))))))))))) ?_
   exact ⟨rfl,(sw [] [] [.a 4 (.bool (decide ((lN (h_1.Threads))≤(70:Int))&&(decide ((lN (h_1.Domains))≤(10:Int))&&(decide ((lN (h_1.Snaps))≤(20:Int))&&(decide ((lN (l_1))≤(30:Int))&&decide (o_1≤(3000:Int)))))))] [] (ac (congrArg AV.bool (zAO zK):(.bool false:AV)=.bool (decide ((lN (h_1.Threads))≤(70:Int))&&(decide ((lN (h_1.Domains))≤(10:Int))&&(decide ((lN (h_1.Snaps))≤(20:Int))&&(decide ((lN (l_1))≤(30:Int))&&decide (o_1≤(3000:Int))))))) an))⟩
 refine rt ?_
 cases h
 exact ⟨.inr rfl,Nat.le_of_ble_eq_true rfl,by kernel_rfl⟩

theorem zAC (F:Nat) (wR:Int) (vR:Int) (vE:List (Int)) (r:zB) (h:zAk F wR vR vE=some r):zV prog 26 [] [] [Ii wR,Ii vR,.sl false 1 (Mi vE)] [] (zA r):=by
 refine yM (fn:=Go.Proofs.Try.f26) (code:=x4 Go.Proofs.Try.f26) (by kernel_rfl) (by kernel_rfl) (Nat.le_of_ble_eq_true (by kernel_rfl)) ?_
 unfold zAk at h
 refine sr [(0,{ id:=0 })] [0,1,2,6] [0] 1 [Ii wR,Ii vR,.sl false 1 (Mi vE),Pp 0] [Vb 59 [Ii 0,Ii 0,Ii 0,.nilsl]] zG an ?_
 refine kF (pT 0 3 1 42 6 (by kernel_rfl)) ?_
 refine wk [0,1] [] [.s 0,.s 1,.s 2,.s 6] [.s 0,.s 1] [(0,Ii wR),(1,Ii vR),(2,.sl false 1 (Mi vE)),(6,Pp 0)] [(0,Vb 59 [Ii 0,Ii 0,Ii 0,.own 1 0]),(1,Rb 42 6 [])] an ?_
 refine sr [(3,{ id:=2 })] [2,6,7] [0,1,2] 3 [.sl false 1 (Mi vE),Pp 0,Pp 2] [Vb 59 [Ii 0,Ii 0,Ii 0,.own 1 0],Rb 42 6 [],Vb 59 [Ii 1,Ii wR,Ii vR,.nilsl]] zG an ?_
 refine kF (pT 2 3 3 42 6 (by kernel_rfl)) ?_
 refine wk [0,1,2,3] [] [.s 2,.s 6,.s 7] [.s 0,.s 1,.s 2,.s 3] [(2,.sl false 1 (Mi vE)),(6,Pp 0),(7,Pp 2)] [(0,Vb 59 [Ii 0,Ii 0,Ii 0,.own 1 0]),(1,Rb 42 6 []),(2,Vb 59 [Ii 1,Ii wR,Ii vR,.own 3 0]),(3,Rb 42 6 [])] an ?_
 refine sq ?_
 refine sr [(1,{ n:=(vE).length })] [6,7,13,14,15] [0,1,2,3] 4 [Pp 0,Pp 2,.sl false 1 (Mi vE),Ii (lN (vE)),Ii 0] [Vb 59 [Ii 0,Ii 0,Ii 0,.own 1 0],Rb 42 6 [],Vb 59 [Ii 1,Ii wR,Ii vR,.own 3 0],Rb 42 6 []] zG (ac (yL _:((Mi vE)).length=(vE).length) an) ?_
 obtain ⟨o_1,h_1,h⟩:=bind_some h
 refine wI (mk [(6,Pp 0),(7,Pp 2)] [(0,Vb 59 [Ii 0,Ii 0,Ii 0,.own 1 0]),(1,Rb 42 6 []),(2,Vb 59 [Ii 1,Ii wR,Ii vR,.own 3 ((o_1).length)]),(3,Rb 42 6 (Mp zE o_1))] 4) ?_ ?_
 ·replace h:=h_1
  refine yN (id:=0) (by kernel_rfl) ?_
  refine wk [0,1,2,3] [] [.s 6,.s 7,.s 13,.s 14,.s 15] [.s 0,.s 1,.s 2,.s 3] [(6,Pp 0),(7,Pp 2),(13,.sl false 1 (Mi vE)),(14,Ii (lN (vE))),(15,Ii 0)] [(0,Vb 59 [Ii 0,Ii 0,Ii 0,.own 1 0]),(1,Rb 42 6 []),(2,Vb 59 [Ii 1,Ii wR,Ii vR,.own 3 0]),(3,Rb 42 6 [])] an ?_
  refine wE (fun n st=>∃ (v_1:Int),∃ (zC:List zH),st=mk [(6,Pp 0),(7,Pp 2),(13,.sl false 1 (Mi vE)),(14,Ii (lN (vE))),(15,Ii v_1)] [(0,Vb 59 [Ii 0,Ii 0,Ii 0,.own 1 0]),(1,Rb 42 6 []),(2,Vb 59 [Ii 1,Ii wR,Ii vR,.own 3 ((zC).length)]),(3,Rb 42 6 (Mp zE zC))] 4∧zAA F vE n v_1 zC=some o_1) F (by kernel_rfl) ⟨_,_,rfl,h⟩ ?_ ?_
  ·rintro _ ⟨_,_,_,h⟩;exact wO (h:(none:Option (List zH))=some o_1)
  rintro n_1 _ ⟨v_1,zC,rfl,h⟩
  replace h:nS F vE (zAA F vE n_1) v_1 zC=some o_1:=h
  unfold nS at h
  refine sr [] [6,7,13,14,15,16] [0,1,2,3] 4 [Pp 0,Pp 2,.sl false 1 (Mi vE),Ii (lN (vE)),Ii v_1,.bool (decide (v_1<(lN (vE))))] [Vb 59 [Ii 0,Ii 0,Ii 0,.own 1 0],Rb 42 6 [],Vb 59 [Ii 1,Ii wR,Ii vR,.own 3 ((zC).length)],Rb 42 6 (Mp zE zC)] zG an ?_
  refine sq ?_
  refine cd 16 (decide (v_1<(lN (vE)))) ?_ ?_
  rotate_left
  ·intro g_1;replace h:=zT g_1 h
   refine wJ (id:=0) (by kernel_rfl) ?_
   cases h
   exact ⟨rfl,(sw [0,1,2,3] [] [.s 6,.s 7] [.s 0,.s 1,.s 2,.s 3] an)⟩
  intro g_1;replace h:=zS g_1 h
  refine sk ?_
  refine sq ?_
  refine yN (id:=1) (by kernel_rfl) ?_
  refine sq ?_
  obtain ⟨x_1,h_2,h⟩:=bind_some h
  refine rg [(0,{ av:=Ii x_1 })] [6,7,9,13,14,15] [0,1,2,3] 4 [Pp 0,Pp 2,Ii x_1,.sl false 1 (Mi vE),Ii (lN (vE)),Ii v_1] [Vb 59 [Ii 0,Ii 0,Ii 0,.own 1 0],Rb 42 6 [],Vb 59 [Ii 1,Ii wR,Ii vR,.own 3 ((zC).length)],Rb 42 6 (Mp zE zC)] zG (ac (xZ h_2:wV (Mi vE) v_1=some (Ii x_1)) an) ?_
  obtain ⟨_,h_3,h⟩:=bind_some h;replace h_3:=vF h_3
  refine rg [(4,{ id:=4,lo:=[(22,[0,0,0,0,0,1])] }),(5,{ id:=5,l:=(Mp zE (zC++([(⟨x_1,(3:Int),([97]:List Int),(0:Int),(0:Int),[]⟩:zH)]:List zH))),n:=((zC++([(⟨x_1,(3:Int),([97]:List Int),(0:Int),(0:Int),[]⟩:zH)]:List zH))).length })] [6,7,13,14,15] [0,1,2,5] 6 [Pp 0,Pp 2,.sl false 1 (Mi vE),Ii (lN (vE)),Ii v_1] [Vb 59 [Ii 0,Ii 0,Ii 0,.own 1 0],Rb 42 6 [],Vb 59 [Ii 1,Ii wR,Ii vR,.own 5 (((zC++([(⟨x_1,(3:Int),([97]:List Int),(0:Int),(0:Int),[]⟩:zH)]:List zH))).length)],Rb 42 6 (Mp zE (zC++([(⟨x_1,(3:Int),([97]:List Int),(0:Int),(0:Int),[]⟩:zH)]:List zH)))] zG (ac (by first | (simp;done) | (simp;omega):(zC).length=((List.map zE zC)).length) (ac (by first | (simp;done) | (simp;omega):1=((List.map zE ([(⟨x_1,(3:Int),([97]:List Int),(0:Int),(0:Int),[]⟩:zH)]:List zH))).length) (ac (zD4 _ _:(Mp zE (zC++([(⟨x_1,(3:Int),([97]:List Int),(0:Int),(0:Int),[]⟩:zH)]:List zH)))=(Mp zE zC)++(Mp zE ([(⟨x_1,(3:Int),([97]:List Int),(0:Int),(0:Int),[]⟩:zH)]:List zH))) (ac (by simp:((zC++([(⟨x_1,(3:Int),([97]:List Int),(0:Int),(0:Int),[]⟩:zH)]:List zH))).length=((List.map zE (zC++([(⟨x_1,(3:Int),([97]:List Int),(0:Int),(0:Int),[]⟩:zH)]:List zH)))).length) (ac (by first | (simp;done) | simpa using h_3:(((List.map zE zC):List AV).length+((List.map zE ([(⟨x_1,(3:Int),([97]:List Int),(0:Int),(0:Int),[]⟩:zH)]:List zH)):List AV).length) * 72≤140737488355328) an))))) ?_
  refine rg [] [6,7,13,14,15] [0,1,2,5] 6 [Pp 0,Pp 2,.sl false 1 (Mi vE),Ii (lN (vE)),Ii (zJ (v_1+(1:Int)))] [Vb 59 [Ii 0,Ii 0,Ii 0,.own 1 0],Rb 42 6 [],Vb 59 [Ii 1,Ii wR,Ii vR,.own 5 (((zC++([(⟨x_1,(3:Int),([97]:List Int),(0:Int),(0:Int),[]⟩:zH)]:List zH))).length)],Rb 42 6 (Mp zE (zC++([(⟨x_1,(3:Int),([97]:List Int),(0:Int),(0:Int),[]⟩:zH)]:List zH)))] zG an ?_
  exact ⟨_,(sw [0,1,2,5] [] [.s 6,.s 7,.s 13,.s 14,.s 15] [.s 0,.s 1,.s 2,.s 3] an),_,_,rfl,h⟩
 refine sr [] [6] [0,3] 4 [Pp 0] [Vb 59 [Ii 1,Ii wR,Ii vR,.own 3 ((o_1).length)],Rb 42 6 (Mp zE o_1)] zG an ?_
 refine wk [0] [3] [.s 6] [.a 0 (Vb 59 (zZ (⟨(1:Int),wR,vR,o_1⟩:zB)))] [(6,Pp 0)] [(0,Vb 59 (zZ (⟨(1:Int),wR,vR,o_1⟩:zB)))] (ar 59 (ac (rfl:uO [Ii ((⟨(1:Int),wR,vR,o_1⟩:zB).Thread),Ii ((⟨(1:Int),wR,vR,o_1⟩:zB).Serial),Ii ((⟨(1:Int),wR,vR,o_1⟩:zB).Lost),.sl false 6 (Mp zE ((⟨(1:Int),wR,vR,o_1⟩:zB).Events))]=true) (ac (by first | (simp;done) | (simp;omega):(o_1).length=((List.map zE o_1)).length) (ac (rfl:(Ii 1:AV)=Ii ((⟨(1:Int),wR,vR,o_1⟩:zB).Thread)) (ac (rfl:(Ii wR:AV)=Ii ((⟨(1:Int),wR,vR,o_1⟩:zB).Serial)) (ac (rfl:(Ii vR:AV)=Ii ((⟨(1:Int),wR,vR,o_1⟩:zB).Lost)) (ar 6 (ac (rfl:((Mp zE o_1):List AV)=(Mp zE ((⟨(1:Int),wR,vR,o_1⟩:zB).Events))) (ac (rfl:(!false||false)=true) an))))))))) ?_
 refine rt ?_
 cases h
 exact ⟨.inr rfl,Nat.le_of_ble_eq_true rfl,by kernel_rfl⟩

theorem zBP (s_1:List Int) (c_1:Int) (r:Int) (h:qD s_1 c_1=some r):zV prog 91 [] [] [.str s_1,Iu c_1] [] (Ii r):=by
 refine yM (fn:=Go.Proofs.Try.f91) (code:=x4 Go.Proofs.Try.f91) (by kernel_rfl) (by kernel_rfl) (Nat.le_of_ble_eq_true (by kernel_rfl)) ?_
 unfold qD at h
 refine sr [] [0,1] [] 0 [.str s_1,Iu c_1] [] zG an ?_
 refine sr [] [4] [] 0 [Ii (uP s_1 c_1)] [] zG (ac (zNS:zFU prog 92) an) ?_
 refine rt ?_
 cases h
 exact ⟨.inr rfl,Nat.le_of_ble_eq_true rfl,by kernel_rfl⟩

theorem vN (s_1:List Int) (c_1:Int) (r:Int) (h:w5 s_1 c_1=some r):zV prog 86 [] [] [.str s_1,Iu c_1] [] (Ii r):=by
 refine yM (fn:=Go.Proofs.Try.f86) (code:=x4 Go.Proofs.Try.f86) (by kernel_rfl) (by kernel_rfl) (Nat.le_of_ble_eq_true (by kernel_rfl)) ?_
 unfold w5 at h
 refine sr [] [0,1] [] 0 [.str s_1,Iu c_1] [] zG an ?_
 refine sq ?_
 obtain ⟨r_1,h_1,h⟩:=bind_some h
 refine rg [(2,{ av:=Ii r_1,l:=[.str s_1,Iu c_1] })] [4] [] 0 [Ii r_1] [] zG (ar ([.str s_1,Iu c_1]:List AV) (ac (rfl:([]:List zN)=[]) (ac (zBP s_1 c_1 r_1 h_1:zV prog 91 [] [] [.str s_1,Iu c_1] [] (Ii r_1)) an))) ?_
 refine rt ?_
 cases h
 exact ⟨.inr rfl,Nat.le_of_ble_eq_true rfl,by kernel_rfl⟩

theorem zEO (c_1:Int) (r:Bool) (h:kY c_1=some r):zV prog 75 [] [] [Iu c_1] [] (.bool r):=by
 refine yM (fn:=Go.Proofs.Try.f75) (code:=x4 Go.Proofs.Try.f75) (by kernel_rfl) (by kernel_rfl) (Nat.le_of_ble_eq_true (by kernel_rfl)) ?_
 unfold kY at h
 refine sr [] [0] [] 0 [Iu c_1] [] zG an ?_
 refine sq ?_
 obtain ⟨p_1,h_2,h⟩:=bind_some h
 refine wI (mk [(2,.bool p_1)] [] 0) ?_ ?_
 ·replace h:=h_2
  rcases bft (decide (c_1≥(97:Int))) with zK | zK
  ·replace h:=zS zK h
   rcases bft (decide (c_1≤(122:Int))) with zI | zI
   ·replace h:=zS zI h
    refine rg [(5,Ht),(7,Hg),(8,Hg),(9,Hg),(12,Hg),(13,Ht),(15,Hg),(16,Hg),(17,Hg),(20,Hg),(21,Ht),(23,Hg),(24,Hg),(25,Hg),(26,Ht)] [2] [] 0 [.bool true] [] zG (ac zK (ac zK (ac zK (ac zI (ac zI (ac zI (ac zI (ac zI (ax (ax (ax (ax (ar true (ax (ax (ax (ar true an))))))))))))))))) ?_
    cases h
    exact ⟨rfl,(sw [] [] [.s 2] [] an)⟩
   ·replace h:=zT zI h
    rcases bft (decide (c_1≥(65:Int))) with zW | zW
    ·replace h:=zS zW h
     rcases bft (decide (c_1≤(90:Int))) with z6 | z6
     ·replace h:=zS z6 h
      refine rg [(5,Ht),(12,Ht),(13,Hf),(15,Hg),(16,Hg),(17,Hg),(20,Hg),(21,Ht),(23,Hg),(24,Hg),(25,Hg),(26,Ht)] [2] [] 0 [.bool true] [] zG (ac zK (ac zK (ac zK (ac zI (ac zI (ac zI (ac zW (ac zW (ac zI (ac zW (ac zI (ac z6 (ac z6 (ac z6 (ac z6 (ac z6 (ax (ax (ax (ar true an)))))))))))))))))))) ?_
      cases h
      exact ⟨rfl,(sw [] [] [.s 2] [] an)⟩
     ·replace h:=zT z6 h
      rcases bft (decide (c_1≥(48:Int))) with y2 | y2
      ·replace h:=zS y2 h
       rcases bft (decide (c_1≤(57:Int))) with x7 | x7
       ·replace h:=zS x7 h
        refine rg [(5,Ht),(12,Ht),(13,Hf),(20,Ht),(21,Hf),(23,Hg),(24,Hg),(25,Hg),(26,Ht)] [2] [] 0 [.bool true] [] zG (ac zK (ac zK (ac zK (ac zI (ac zI (ac zI (ac zW (ac zW (ac zI (ac zW (ac zI (ac z6 (ac z6 (ac z6 (ac y2 (ac y2 (ac z6 (ac y2 (ac z6 (ac x7 (ac x7 (ac x7 (ac x7 an))))))))))))))))))))))) ?_
        cases h
        exact ⟨rfl,(sw [] [] [.s 2] [] an)⟩
       ·replace h:=zT x7 h
        obtain ⟨r_1,h_1,h⟩:=bind_some h
        refine rg [(5,Ht),(12,Ht),(13,Hf),(20,Ht),(21,Hf),(24,{ av:=Ii r_1,l:=[.str ([95,46,58,47,60,62,36,42,126,45]:List Int),Iu c_1] }),(26,Hf)] [2] [] 0 [.bool (decide (r_1≥(0:Int)))] [] zG (ac zK (ac zK (ac zK (ac zI (ac zI (ac zI (ac zW (ac zW (ac zI (ac zW (ac zI (ac z6 (ac z6 (ac z6 (ac y2 (ac y2 (ac z6 (ac y2 (ac z6 (ac x7 (ac x7 (ar ([.str ([95,46,58,47,60,62,36,42,126,45]:List Int),Iu c_1]:List AV) (ac (rfl:([]:List zN)=[]) (ac (vN ([95,46,58,47,60,62,36,42,126,45]:List Int) c_1 r_1 h_1:zV prog 86 [] [] [.str ([95,46,58,47,60,62,36,42,126,45]:List Int),Iu c_1] [] (Ii r_1)) (ac x7 (ac x7 an)))))))))))))))))))))))))) ?_
        cases h
        exact ⟨rfl,(sw [] [] [.s 2] [] an)⟩
      ·replace h:=zT y2 h
       obtain ⟨r_1,h_1,h⟩:=bind_some h
       refine rg [(5,Ht),(12,Ht),(13,Hf),(18,Hg),(19,Hg),(20,Hf),(21,Hf),(24,{ av:=Ii r_1,l:=[.str ([95,46,58,47,60,62,36,42,126,45]:List Int),Iu c_1] }),(26,Hf)] [2] [] 0 [.bool (decide (r_1≥(0:Int)))] [] zG (ac zK (ac zK (ac zK (ac zI (ac zI (ac zI (ac zW (ac zW (ac zI (ac zW (ac zI (ac z6 (ac z6 (ac z6 (ac y2 (ac y2 (ac z6 (ac y2 (ac z6 (ar false (ar false (ar ([.str ([95,46,58,47,60,62,36,42,126,45]:List Int),Iu c_1]:List AV) (ac (rfl:([]:List zN)=[]) (ac (vN ([95,46,58,47,60,62,36,42,126,45]:List Int) c_1 r_1 h_1:zV prog 86 [] [] [.str ([95,46,58,47,60,62,36,42,126,45]:List Int),Iu c_1] [] (Ii r_1)) (ar false (ar false an)))))))))))))))))))))))))) ?_
       cases h
       exact ⟨rfl,(sw [] [] [.s 2] [] an)⟩
    ·replace h:=zT zW h
     rcases bft (decide (c_1≥(48:Int))) with x5 | x5
     ·replace h:=zS x5 h
      rcases bft (decide (c_1≤(57:Int))) with x3 | x3
      ·replace h:=zS x3 h
       refine rg [(5,Ht),(10,Hg),(11,Hg),(12,Hf),(13,Hf),(20,Ht),(21,Hf),(23,Hg),(24,Hg),(25,Hg),(26,Ht)] [2] [] 0 [.bool true] [] zG (ac zK (ac zK (ac zK (ac zI (ac zI (ac zI (ac zW (ac zW (ac zI (ac zW (ac zI (ar false (ar false (ar false (ac x5 (ac x5 (ar false (ac x5 (ar false (ac x3 (ac x3 (ac x3 (ac x3 an))))))))))))))))))))))) ?_
       cases h
       exact ⟨rfl,(sw [] [] [.s 2] [] an)⟩
      ·replace h:=zT x3 h
       obtain ⟨r_1,h_1,h⟩:=bind_some h
       refine rg [(5,Ht),(10,Hg),(11,Hg),(12,Hf),(13,Hf),(20,Ht),(21,Hf),(24,{ av:=Ii r_1,l:=[.str ([95,46,58,47,60,62,36,42,126,45]:List Int),Iu c_1] }),(26,Hf)] [2] [] 0 [.bool (decide (r_1≥(0:Int)))] [] zG (ac zK (ac zK (ac zK (ac zI (ac zI (ac zI (ac zW (ac zW (ac zI (ac zW (ac zI (ar false (ar false (ar false (ac x5 (ac x5 (ar false (ac x5 (ar false (ac x3 (ac x3 (ar ([.str ([95,46,58,47,60,62,36,42,126,45]:List Int),Iu c_1]:List AV) (ac (rfl:([]:List zN)=[]) (ac (vN ([95,46,58,47,60,62,36,42,126,45]:List Int) c_1 r_1 h_1:zV prog 86 [] [] [.str ([95,46,58,47,60,62,36,42,126,45]:List Int),Iu c_1] [] (Ii r_1)) (ac x3 (ac x3 an)))))))))))))))))))))))))) ?_
       cases h
       exact ⟨rfl,(sw [] [] [.s 2] [] an)⟩
     ·replace h:=zT x5 h
      obtain ⟨r_1,h_1,h⟩:=bind_some h
      refine rg [(5,Ht),(10,Hg),(11,Hg),(12,Hf),(13,Hf),(18,Hg),(19,Hg),(20,Hf),(21,Hf),(24,{ av:=Ii r_1,l:=[.str ([95,46,58,47,60,62,36,42,126,45]:List Int),Iu c_1] }),(26,Hf)] [2] [] 0 [.bool (decide (r_1≥(0:Int)))] [] zG (ac zK (ac zK (ac zK (ac zI (ac zI (ac zI (ac zW (ac zW (ac zI (ac zW (ac zI (ar false (ar false (ar false (ac x5 (ac x5 (ar false (ac x5 (ar false (ar false (ar false (ar ([.str ([95,46,58,47,60,62,36,42,126,45]:List Int),Iu c_1]:List AV) (ac (rfl:([]:List zN)=[]) (ac (vN ([95,46,58,47,60,62,36,42,126,45]:List Int) c_1 r_1 h_1:zV prog 86 [] [] [.str ([95,46,58,47,60,62,36,42,126,45]:List Int),Iu c_1] [] (Ii r_1)) (ar false (ar false an)))))))))))))))))))))))))) ?_
      cases h
      exact ⟨rfl,(sw [] [] [.s 2] [] an)⟩
  ·replace h:=zT zK h
   rcases bft (decide (c_1≥(65:Int))) with wF | wF
   ·replace h:=zS wF h
    rcases bft (decide (c_1≤(90:Int))) with y9 | y9
    ·replace h:=zS y9 h
     refine rg [(3,Hg),(4,Hg),(5,Hf),(12,Ht),(13,Hf),(15,Hg),(16,Hg),(17,Hg),(20,Hg),(21,Ht),(23,Hg),(24,Hg),(25,Hg),(26,Ht)] [2] [] 0 [.bool true] [] zG (ac zK (ac zK (ac zK (ar false (ar false (ar false (ac wF (ac wF (ar false (ac wF (ar false (ac y9 (ac y9 (ac y9 (ac y9 (ac y9 (ax (ax (ax (ar true an)))))))))))))))))))) ?_
     cases h
     exact ⟨rfl,(sw [] [] [.s 2] [] an)⟩
    ·replace h:=zT y9 h
     rcases bft (decide (c_1≥(48:Int))) with wH | wH
     ·replace h:=zS wH h
      rcases bft (decide (c_1≤(57:Int))) with wS | wS
      ·replace h:=zS wS h
       refine rg [(3,Hg),(4,Hg),(5,Hf),(12,Ht),(13,Hf),(20,Ht),(21,Hf),(23,Hg),(24,Hg),(25,Hg),(26,Ht)] [2] [] 0 [.bool true] [] zG (ac zK (ac zK (ac zK (ar false (ar false (ar false (ac wF (ac wF (ar false (ac wF (ar false (ac y9 (ac y9 (ac y9 (ac wH (ac wH (ac y9 (ac wH (ac y9 (ac wS (ac wS (ac wS (ac wS an))))))))))))))))))))))) ?_
       cases h
       exact ⟨rfl,(sw [] [] [.s 2] [] an)⟩
      ·replace h:=zT wS h
       obtain ⟨r_1,h_1,h⟩:=bind_some h
       refine rg [(3,Hg),(4,Hg),(5,Hf),(12,Ht),(13,Hf),(20,Ht),(21,Hf),(24,{ av:=Ii r_1,l:=[.str ([95,46,58,47,60,62,36,42,126,45]:List Int),Iu c_1] }),(26,Hf)] [2] [] 0 [.bool (decide (r_1≥(0:Int)))] [] zG (ac zK (ac zK (ac zK (ar false (ar false (ar false (ac wF (ac wF (ar false (ac wF (ar false (ac y9 (ac y9 (ac y9 (ac wH (ac wH (ac y9 (ac wH (ac y9 (ac wS (ac wS (ar ([.str ([95,46,58,47,60,62,36,42,126,45]:List Int),Iu c_1]:List AV) (ac (rfl:([]:List zN)=[]) (ac (vN ([95,46,58,47,60,62,36,42,126,45]:List Int) c_1 r_1 h_1:zV prog 86 [] [] [.str ([95,46,58,47,60,62,36,42,126,45]:List Int),Iu c_1] [] (Ii r_1)) (ac wS (ac wS an)))))))))))))))))))))))))) ?_
       cases h
       exact ⟨rfl,(sw [] [] [.s 2] [] an)⟩
     ·replace h:=zT wH h
      obtain ⟨r_1,h_1,h⟩:=bind_some h
      refine rg [(3,Hg),(4,Hg),(5,Hf),(12,Ht),(13,Hf),(18,Hg),(19,Hg),(20,Hf),(21,Hf),(24,{ av:=Ii r_1,l:=[.str ([95,46,58,47,60,62,36,42,126,45]:List Int),Iu c_1] }),(26,Hf)] [2] [] 0 [.bool (decide (r_1≥(0:Int)))] [] zG (ac zK (ac zK (ac zK (ar false (ar false (ar false (ac wF (ac wF (ar false (ac wF (ar false (ac y9 (ac y9 (ac y9 (ac wH (ac wH (ac y9 (ac wH (ac y9 (ar false (ar false (ar ([.str ([95,46,58,47,60,62,36,42,126,45]:List Int),Iu c_1]:List AV) (ac (rfl:([]:List zN)=[]) (ac (vN ([95,46,58,47,60,62,36,42,126,45]:List Int) c_1 r_1 h_1:zV prog 86 [] [] [.str ([95,46,58,47,60,62,36,42,126,45]:List Int),Iu c_1] [] (Ii r_1)) (ar false (ar false an)))))))))))))))))))))))))) ?_
      cases h
      exact ⟨rfl,(sw [] [] [.s 2] [] an)⟩
   ·replace h:=zT wF h
    rcases bft (decide (c_1≥(48:Int))) with uW | uW
    ·replace h:=zS uW h
     rcases bft (decide (c_1≤(57:Int))) with u3 | u3
     ·replace h:=zS u3 h
      refine rg [(3,Hg),(4,Hg),(5,Hf),(10,Hg),(11,Hg),(12,Hf),(13,Hf),(20,Ht),(21,Hf),(23,Hg),(24,Hg),(25,Hg),(26,Ht)] [2] [] 0 [.bool true] [] zG (ac zK (ac zK (ac zK (ar false (ar false (ar false (ac wF (ac wF (ar false (ac wF (ar false (ar false (ar false (ar false (ac uW (ac uW (ar false (ac uW (ar false (ac u3 (ac u3 (ac u3 (ac u3 an))))))))))))))))))))))) ?_
      cases h
      exact ⟨rfl,(sw [] [] [.s 2] [] an)⟩
     ·replace h:=zT u3 h
      obtain ⟨r_1,h_1,h⟩:=bind_some h
      refine rg [(3,Hg),(4,Hg),(5,Hf),(10,Hg),(11,Hg),(12,Hf),(13,Hf),(20,Ht),(21,Hf),(24,{ av:=Ii r_1,l:=[.str ([95,46,58,47,60,62,36,42,126,45]:List Int),Iu c_1] }),(26,Hf)] [2] [] 0 [.bool (decide (r_1≥(0:Int)))] [] zG (ac zK (ac zK (ac zK (ar false (ar false (ar false (ac wF (ac wF (ar false (ac wF (ar false (ar false (ar false (ar false (ac uW (ac uW (ar false (ac uW (ar false (ac u3 (ac u3 (ar ([.str ([95,46,58,47,60,62,36,42,126,45]:List Int),Iu c_1]:List AV) (ac (rfl:([]:List zN)=[]) (ac (vN ([95,46,58,47,60,62,36,42,126,45]:List Int) c_1 r_1 h_1:zV prog 86 [] [] [.str ([95,46,58,47,60,62,36,42,126,45]:List Int),Iu c_1] [] (Ii r_1)) (ac u3 (ac u3 an)))))))))))))))))))))))))) ?_
      cases h
      exact ⟨rfl,(sw [] [] [.s 2] [] an)⟩
    ·replace h:=zT uW h
     obtain ⟨r_1,h_1,h⟩:=bind_some h
     refine rg [(3,Hg),(4,Hg),(5,Hf),(10,Hg),(11,Hg),(12,Hf),(13,Hf),(18,Hg),(19,Hg),(20,Hf),(21,Hf),(24,{ av:=Ii r_1,l:=[.str ([95,46,58,47,60,62,36,42,126,45]:List Int),Iu c_1] }),(26,Hf)] [2] [] 0 [.bool (decide (r_1≥(0:Int)))] [] zG (ac zK (ac zK (ac zK (ar false (ar false (ar false (ac wF (ac wF (ar false (ac wF (ar false (ar false (ar false (ar false (ac uW (ac uW (ar false (ac uW (ar false (ar false (ar false (ar ([.str ([95,46,58,47,60,62,36,42,126,45]:List Int),Iu c_1]:List AV) (ac (rfl:([]:List zN)=[]) (ac (vN ([95,46,58,47,60,62,36,42,126,45]:List Int) c_1 r_1 h_1:zV prog 86 [] [] [.str ([95,46,58,47,60,62,36,42,126,45]:List Int),Iu c_1] [] (Ii r_1)) (ar false (ar false an)))))))))))))))))))))))))) ?_
     cases h
     exact ⟨rfl,(sw [] [] [.s 2] [] an)⟩
 refine rt ?_
 cases h
 exact ⟨.inr rfl,Nat.le_of_ble_eq_true rfl,by kernel_rfl⟩

theorem zA5 (F:Nat) (s_1:List Int) (r:Int) (h:jW F s_1=some r):zV prog 64 [] [] [.str s_1] [] (Ii r):=by
 refine yM (fn:=Go.Proofs.Try.f64) (code:=x4 Go.Proofs.Try.f64) (by kernel_rfl) (by kernel_rfl) (Nat.le_of_ble_eq_true (by kernel_rfl)) ?_
 unfold jW at h
 refine sr [] [0] [] 0 [.str s_1] [] zG an ?_
 refine sq ?_
 refine sq ?_
 refine wI (mk [(0,.str s_1),(10,.bool ((s_1==([]:List Int))||decide ((lN (s_1))>(40:Int))))] [] 0) ?_ ?_
 ·rcases bft (s_1==([]:List Int)) with zK | zK
  ·refine rg [(3,Hg),(4,Hg),(5,Hg),(6,Ht)] [0,10] [] 0 [.str s_1,.bool true] [] zG (ac zK (ac zK (ac zK (ac zK an)))) ?_
   exact ⟨rfl,(sw [] [] [.s 0,.a 10 (.bool ((s_1==([]:List Int))||decide ((lN (s_1))>(40:Int))))] [] (ac (congrArg AV.bool (ort zK):(.bool true:AV)=.bool ((s_1==([]:List Int))||decide ((lN (s_1))>(40:Int)))) an))⟩
  ·refine rg [(6,Hf)] [0,10] [] 0 [.str s_1,.bool (decide ((lN (s_1))>(40:Int)))] [] zG (ac zK (ac zK (ac zK (ac zK an)))) ?_
   exact ⟨rfl,(sw [] [] [.s 0,.a 10 (.bool ((s_1==([]:List Int))||decide ((lN (s_1))>(40:Int))))] [] (ac (congrArg AV.bool (orf zK rfl):(.bool (decide ((lN (s_1))>(40:Int))):AV)=.bool ((s_1==([]:List Int))||decide ((lN (s_1))>(40:Int)))) an))⟩
 refine cd 10 ((s_1==([]:List Int))||decide ((lN (s_1))>(40:Int))) ?_ ?_
 ·intro g_1;replace h:=zS g_1 h
  refine sr [] [2] [] 0 [Ii 3] [] zG an ?_
  refine rt ?_
  cases h
  exact ⟨.inr rfl,Nat.le_of_ble_eq_true rfl,by kernel_rfl⟩
 intro g_1;replace h:=zT g_1 h
 refine sk ?_
 refine sq ?_
 refine sr [] [0,12,13] [] 0 [.str s_1,Ii (lN (s_1)),Ii 0] [] zG an ?_
 obtain ⟨o_1,h_1,h⟩:=bind_some h
 refine vV (K1:=(fun e st'=>match o_1 with | (.inl q0)=>e=.normal∧Sub 0 st' (mk [] [] 0) | (.inr q1)=>e=.ret∧q9 prog Go.Proofs.Try.f64 0 [] (Ii q1) st')) ?_ ?_
 ·replace h:=h_1
  refine yN (id:=0) (by kernel_rfl) ?_
  refine wk [] [] [.s 0,.s 12,.s 13] [] [(0,.str s_1),(12,Ii (lN (s_1))),(13,Ii 0)] [] an ?_
  refine wE (fun n st=>∃ (v_1:Int),st=mk [(0,.str s_1),(12,Ii (lN (s_1))),(13,Ii v_1)] [] 0∧kB F s_1 n v_1=some o_1) F (by kernel_rfl) ⟨_,rfl,h⟩ ?_ ?_
  ·rintro _ ⟨_,_,h⟩;exact wO (h:(none:Option (Unit⊕Int))=some o_1)
  rintro n_1 _ ⟨v_1,rfl,h⟩
  replace h:tR F s_1 (kB F s_1 n_1) v_1=some o_1:=h
  unfold tR at h
  refine sr [] [0,12,13,14] [] 0 [.str s_1,Ii (lN (s_1)),Ii v_1,.bool (decide (v_1<(lN (s_1))))] [] zG an ?_
  refine sq ?_
  refine cd 14 (decide (v_1<(lN (s_1)))) ?_ ?_
  rotate_left
  ·intro g_2;replace h:=zT g_2 h
   refine wJ (id:=0) (by kernel_rfl) ?_
   cases h
   exact ⟨rfl,(sw [] [] [] [] an)⟩
  intro g_2;replace h:=zS g_2 h
  refine sk ?_
  refine sq ?_
  refine yN (id:=1) (by kernel_rfl) ?_
  refine sr [] [0,3,12,13] [] 0 [.str s_1,Ii v_1,Ii (lN (s_1)),Ii v_1] [] zG an ?_
  refine sq ?_
  obtain ⟨c_1,h_2,h⟩:=bind_some h
  obtain ⟨r_1,h_3,h⟩:=bind_some h
  refine rg [(2,{ z:=c_1 }),(3,{ av:=.bool r_1,l:=[Iu c_1] })] [0,12,13,20] [] 0 [.str s_1,Ii (lN (s_1)),Ii v_1,.bool (!r_1)] [] zG (ac h_2 (ar ([Iu c_1]:List AV) (ac (rfl:([]:List zN)=[]) (ac (zEO c_1 r_1 h_3:zV prog 75 [] [] [Iu c_1] [] (.bool r_1)) an)))) ?_
  refine cd 20 (!r_1) ?_ ?_
  rotate_left
  ·intro g_3;replace h:=zT g_3 h
   refine sk ?_
   refine rg [] [0,12,13] [] 0 [.str s_1,Ii (lN (s_1)),Ii (zJ (v_1+(1:Int)))] [] zG an ?_
   exact ⟨_,(sw [] [] [.s 0,.s 12,.s 13] [] an),_,rfl,h⟩
  intro g_3;replace h:=zS g_3 h
  refine sr [] [2] [] 0 [Ii 3] [] zG an ?_
  refine rt ?_
  cases h
  exact ⟨rfl,Nat.le_of_ble_eq_true rfl,by kernel_rfl⟩
 intro e st1 hk
 rcases o_1 with q_1 | q_2
 rotate_left
 ·obtain ⟨rfl,hf⟩:=hk
  cases h
  exact ⟨st1,Sub.refl _ _,.inr rfl,hf⟩
 obtain ⟨rfl,hs⟩:=hk
 refine ⟨_,hs,?_⟩
 refine sr [] [2] [] 0 [Ii 0] [] zG an ?_
 refine rt ?_
 cases h
 exact ⟨.inr rfl,Nat.le_of_ble_eq_true rfl,by kernel_rfl⟩

theorem zD0 (F:Nat) (t_1:zP) (r:Int) (h:jG F t_1=some r):zV prog 47 [] [] [zF t_1] [] (Ii r):=by
 refine yM (fn:=Go.Proofs.Try.f47) (code:=x4 Go.Proofs.Try.f47) (by kernel_rfl) (by kernel_rfl) (Nat.le_of_ble_eq_true (by kernel_rfl)) ?_
 unfold jG at h
 refine sr [(0,{ id:=0 })] [1] [0] 1 [Pp 0] [Vb 66 (z5 t_1)] zG an ?_
 refine sq ?_
 refine sq ?_
 refine wI (mk [(1,Pp 0),(20,.bool (decide (t_1.Id<(0:Int))||(decide (t_1.Id>(1000000000000000:Int))||(decide (t_1.Domain<(0:Int))||decide (t_1.Domain≥(8:Int))))))] [(0,Vb 66 (z5 t_1))] 1) ?_ ?_
 ·rcases bft (decide (t_1.Id<(0:Int))) with zK | zK
  ·refine rg [(4,Hg),(5,Hg),(6,Hg),(7,Ht),(9,Hg),(10,Hg),(11,Hg),(12,Ht),(14,Hg),(15,Hg),(16,Hg),(17,Ht)] [1,20] [0] 1 [Pp 0,.bool true] [Vb 66 (z5 t_1)] zG (ac zK (ac zK (ac zK (ac zK (ax (ax (ax (ar true (ax (ax (ax (ar true an)))))))))))) ?_
   exact ⟨rfl,(sw [0] [] [.s 1,.a 20 (.bool (decide (t_1.Id<(0:Int))||(decide (t_1.Id>(1000000000000000:Int))||(decide (t_1.Domain<(0:Int))||decide (t_1.Domain≥(8:Int))))))] [.s 0] (ac (congrArg AV.bool (ort zK):(.bool true:AV)=.bool (decide (t_1.Id<(0:Int))||(decide (t_1.Id>(1000000000000000:Int))||(decide (t_1.Domain<(0:Int))||decide (t_1.Domain≥(8:Int)))))) an))⟩
  ·rcases bft (decide (t_1.Id>(1000000000000000:Int))) with zI | zI
   ·refine rg [(7,Hf),(9,Hg),(10,Hg),(11,Hg),(12,Ht),(14,Hg),(15,Hg),(16,Hg),(17,Ht)] [1,20] [0] 1 [Pp 0,.bool true] [Vb 66 (z5 t_1)] zG (ac zK (ac zK (ac zK (ac zK (ac zI (ac zI (ac zI (ac zI (ax (ax (ax (ar true an)))))))))))) ?_
    exact ⟨rfl,(sw [0] [] [.s 1,.a 20 (.bool (decide (t_1.Id<(0:Int))||(decide (t_1.Id>(1000000000000000:Int))||(decide (t_1.Domain<(0:Int))||decide (t_1.Domain≥(8:Int))))))] [.s 0] (ac (congrArg AV.bool (orf zK (ort zI)):(.bool true:AV)=.bool (decide (t_1.Id<(0:Int))||(decide (t_1.Id>(1000000000000000:Int))||(decide (t_1.Domain<(0:Int))||decide (t_1.Domain≥(8:Int)))))) an))⟩
   ·rcases bft (decide (t_1.Domain<(0:Int))) with zW | zW
    ·refine rg [(7,Hf),(12,Hf),(14,Hg),(15,Hg),(16,Hg),(17,Ht)] [1,20] [0] 1 [Pp 0,.bool true] [Vb 66 (z5 t_1)] zG (ac zK (ac zK (ac zK (ac zK (ac zI (ac zI (ac zI (ac zI (ac zW (ac zW (ac zW (ac zW an)))))))))))) ?_
     exact ⟨rfl,(sw [0] [] [.s 1,.a 20 (.bool (decide (t_1.Id<(0:Int))||(decide (t_1.Id>(1000000000000000:Int))||(decide (t_1.Domain<(0:Int))||decide (t_1.Domain≥(8:Int))))))] [.s 0] (ac (congrArg AV.bool (orf zK (orf zI (ort zW))):(.bool true:AV)=.bool (decide (t_1.Id<(0:Int))||(decide (t_1.Id>(1000000000000000:Int))||(decide (t_1.Domain<(0:Int))||decide (t_1.Domain≥(8:Int)))))) an))⟩
    ·refine rg [(7,Hf),(12,Hf),(17,Hf)] [1,20] [0] 1 [Pp 0,.bool (decide (t_1.Domain≥(8:Int)))] [Vb 66 (z5 t_1)] zG (ac zK (ac zK (ac zK (ac zK (ac zI (ac zI (ac zI (ac zI (ac zW (ac zW (ac zW (ac zW an)))))))))))) ?_
     exact ⟨rfl,(sw [0] [] [.s 1,.a 20 (.bool (decide (t_1.Id<(0:Int))||(decide (t_1.Id>(1000000000000000:Int))||(decide (t_1.Domain<(0:Int))||decide (t_1.Domain≥(8:Int))))))] [.s 0] (ac (congrArg AV.bool (orf zK (orf zI (orf zW rfl))):(.bool (decide (t_1.Domain≥(8:Int))):AV)=.bool (decide (t_1.Id<(0:Int))||(decide (t_1.Id>(1000000000000000:Int))||(decide (t_1.Domain<(0:Int))||decide (t_1.Domain≥(8:Int)))))) an))⟩
 refine cd 20 (decide (t_1.Id<(0:Int))||(decide (t_1.Id>(1000000000000000:Int))||(decide (t_1.Domain<(0:Int))||decide (t_1.Domain≥(8:Int))))) ?_ ?_
 ·intro g_1;replace h:=zS g_1 h
  refine sr [] [2] [] 1 [Ii 2] [] zG an ?_
  refine rt ?_
  cases h
  exact ⟨.inr rfl,Nat.le_of_ble_eq_true rfl,by kernel_rfl⟩
 intro g_1;replace h:=zT g_1 h
 refine sk ?_
 refine sq ?_
 obtain ⟨r_1,h_1,h⟩:=bind_some h
 refine rg [(2,{ av:=Ii r_1,l:=[.str t_1.Name] })] [2] [] 1 [Ii r_1] [] zG (ar ([.str t_1.Name]:List AV) (ac (rfl:([]:List zN)=[]) (ac (zA5 F t_1.Name r_1 h_1:zV prog 64 [] [] [.str t_1.Name] [] (Ii r_1)) an))) ?_
 refine rt ?_
 cases h
 exact ⟨.inr rfl,Nat.le_of_ble_eq_true rfl,by kernel_rfl⟩

theorem zFd (x_1:zL) (a_1:Int) (r:Bool) (h:zAe x_1 a_1=some r):zV prog 87 [(.var 3 [Ii a_1])] [] [zD x_1,Pp 0] [(.var 3 [Ii a_1])] (.bool r):=by
 refine yM (fn:=Go.Proofs.Try.f87) (code:=x4 Go.Proofs.Try.f87) (by kernel_rfl) (by kernel_rfl) (Nat.le_of_ble_eq_true (by kernel_rfl)) ?_
 unfold zAe at h
 refine sr [(0,{ id:=1 })] [1,2] [0,1] 2 [Pp 0,Pp 1] [Vb 3 [Ii a_1],Vb 68 (uA x_1)] zG an ?_
 refine sr [] [3] [0] 2 [.bool (x_1.Id==a_1)] [Vb 3 [Ii a_1]] zG an ?_
 refine wk [0] [] [.s 3] [.s 0] [(3,.bool (x_1.Id==a_1))] [(0,Vb 3 [Ii a_1])] an ?_
 refine rt ?_
 cases h
 exact ⟨.inr rfl,Nat.le_of_ble_eq_true rfl,by kernel_rfl⟩

theorem tD (F:Nat) (s_1:List (zL)) (c_1:Int) (r:Int) (h:xG F s_1 c_1=some r):zV prog 67 [(.var 3 [Ii c_1])] [] [.sl false 2 (Mp zD s_1),.fn 87 [Pp 0]] [(.var 3 [Ii c_1])] (Ii r):=by
 refine yM (fn:=Go.Proofs.Try.f67) (code:=x4 Go.Proofs.Try.f67) (by kernel_rfl) (by kernel_rfl) (Nat.le_of_ble_eq_true (by kernel_rfl)) ?_
 unfold xG at h
 refine sr [] [0,1] [0] 1 [.sl false 2 (Mp zD s_1),.fn 87 [Pp 0]] [Vb 3 [Ii c_1]] zG an ?_
 refine sq ?_
 refine sr [(1,{ n:=(s_1).length })] [0,1,7,8] [0] 1 [.sl false 2 (Mp zD s_1),.fn 87 [Pp 0],Ii (lN (s_1)),Ii 0] [Vb 3 [Ii c_1]] zG (ac (yL _:((Mp zD s_1)).length=(s_1).length) an) ?_
 obtain ⟨o_1,h_1,h⟩:=bind_some h
 refine vV (K1:=(fun e st'=>match o_1 with | (.inl q0)=>e=.normal∧Sub 1 st' (mk [] [(0,Vb 3 [Ii c_1])] 1) | (.inr q1)=>e=.ret∧q9 prog Go.Proofs.Try.f67 1 [(.var 3 [Ii c_1])] (Ii q1) st')) ?_ ?_
 ·replace h:=h_1
  refine yN (id:=0) (by kernel_rfl) ?_
  refine wk [0] [] [.s 0,.s 1,.s 7,.s 8] [.s 0] [(0,.sl false 2 (Mp zD s_1)),(1,.fn 87 [Pp 0]),(7,Ii (lN (s_1))),(8,Ii 0)] [(0,Vb 3 [Ii c_1])] an ?_
  refine wE (fun n st=>∃ (v_1:Int),st=mk [(0,.sl false 2 (Mp zD s_1)),(1,.fn 87 [Pp 0]),(7,Ii (lN (s_1))),(8,Ii v_1)] [(0,Vb 3 [Ii c_1])] 1∧xB F s_1 c_1 n v_1=some o_1) F (by kernel_rfl) ⟨_,rfl,h⟩ ?_ ?_
  ·rintro _ ⟨_,_,h⟩;exact wO (h:(none:Option (Unit⊕Int))=some o_1)
  rintro n_1 _ ⟨v_1,rfl,h⟩
  replace h:yQ F s_1 c_1 (xB F s_1 c_1 n_1) v_1=some o_1:=h
  unfold yQ at h
  refine sr [] [0,1,7,8,9] [0] 1 [.sl false 2 (Mp zD s_1),.fn 87 [Pp 0],Ii (lN (s_1)),Ii v_1,.bool (decide (v_1<(lN (s_1))))] [Vb 3 [Ii c_1]] zG an ?_
  refine sq ?_
  refine cd 9 (decide (v_1<(lN (s_1)))) ?_ ?_
  rotate_left
  ·intro g_1;replace h:=zT g_1 h
   refine wJ (id:=0) (by kernel_rfl) ?_
   cases h
   exact ⟨rfl,(sw [0] [] [] [.s 0] an)⟩
  intro g_1;replace h:=zS g_1 h
  refine sk ?_
  refine sq ?_
  refine yN (id:=1) (by kernel_rfl) ?_
  refine sr [] [0,1,5,7,8] [0] 1 [.sl false 2 (Mp zD s_1),.fn 87 [Pp 0],Ii v_1,Ii (lN (s_1)),Ii v_1] [Vb 3 [Ii c_1]] zG an ?_
  refine sq ?_
  obtain ⟨x_1,h_2,h⟩:=bind_some h
  obtain ⟨r_1,h_3,h⟩:=bind_some h
  refine rg [(3,{ av:=zD x_1 }),(5,{ av:=.bool r_1,ids:=[0],l:=[zD x_1,Pp 0],post:=[(.var 3 [Ii c_1])],pre:=[(.var 3 [Ii c_1])] })] [0,1,5,7,8,16] [0] 1 [.sl false 2 (Mp zD s_1),.fn 87 [Pp 0],Ii v_1,Ii (lN (s_1)),Ii v_1,.bool r_1] [Vb 3 [Ii c_1]] zG (ac (xZ h_2:wV (Mp zD s_1) v_1=some (zD x_1)) (ar ([zD x_1,Pp 0]:List AV) (ac (rfl:([Vb 3 [Ii c_1]]:List zN)=[Vb 3 [Ii c_1]]) (ac (zFd x_1 c_1 r_1 h_3:zV prog 87 [(.var 3 [Ii c_1])] [] [zD x_1,Pp 0] [(.var 3 [Ii c_1])] (.bool r_1)) an)))) ?_
  refine cd 16 r_1 ?_ ?_
  rotate_left
  ·intro g_2;replace h:=zT g_2 h
   refine sk ?_
   refine rg [] [0,1,7,8] [0] 1 [.sl false 2 (Mp zD s_1),.fn 87 [Pp 0],Ii (lN (s_1)),Ii (zJ (v_1+(1:Int)))] [Vb 3 [Ii c_1]] zG an ?_
   exact ⟨_,(sw [0] [] [.s 0,.s 1,.s 7,.s 8] [.s 0] an),_,rfl,h⟩
  intro g_2;replace h:=zS g_2 h
  refine sr [] [4] [0] 1 [Ii v_1] [Vb 3 [Ii c_1]] zG an ?_
  refine wk [0] [] [.s 4] [.s 0] [(4,Ii v_1)] [(0,Vb 3 [Ii c_1])] an ?_
  refine rt ?_
  cases h
  exact ⟨rfl,Nat.le_of_ble_eq_true rfl,by kernel_rfl⟩
 intro e st1 hk
 rcases o_1 with q_1 | q_2
 rotate_left
 ·obtain ⟨rfl,hf⟩:=hk
  cases h
  exact ⟨st1,Sub.refl _ _,.inr rfl,hf⟩
 obtain ⟨rfl,hs⟩:=hk
 refine ⟨_,hs,?_⟩
 refine sr [] [4] [0] 1 [Ii (-1)] [Vb 3 [Ii c_1]] zG an ?_
 refine wk [0] [] [.s 4] [.s 0] [(4,Ii (-1))] [(0,Vb 3 [Ii c_1])] an ?_
 refine rt ?_
 cases h
 exact ⟨.inr rfl,Nat.le_of_ble_eq_true rfl,by kernel_rfl⟩

theorem zA2 (F:Nat) (d_1:List (zL)) (xX:Int) (r:Int) (h:jU F d_1 xX=some r):zV prog 76 [] [] [.sl false 2 (Mp zD d_1),Ii xX] [] (Ii r):=by
 refine yM (fn:=Go.Proofs.Try.f76) (code:=x4 Go.Proofs.Try.f76) (by kernel_rfl) (by kernel_rfl) (Nat.le_of_ble_eq_true (by kernel_rfl)) ?_
 unfold jU at h
 refine sr [(0,{ id:=0 })] [0,3] [0] 1 [.sl false 2 (Mp zD d_1),Pp 0] [Vb 3 [Ii xX]] zG an ?_
 refine sq ?_
 obtain ⟨r_1,h_1,h⟩:=bind_some h
 refine rg [(2,{ av:=Ii r_1,ids:=[0],l:=[.sl false 2 (Mp zD d_1),.fn 87 [Pp 0]],post:=[(.var 3 [Ii xX])],pre:=[(.var 3 [Ii xX])] })] [4] [] 1 [Ii r_1] [] zG (ar ([.sl false 2 (Mp zD d_1),.fn 87 [Pp 0]]:List AV) (ac (rfl:([Vb 3 [Ii xX]]:List zN)=[Vb 3 [Ii xX]]) (ac (tD F d_1 xX r_1 h_1:zV prog 67 [(.var 3 [Ii xX])] [] [.sl false 2 (Mp zD d_1),.fn 87 [Pp 0]] [(.var 3 [Ii xX])] (Ii r_1)) an))) ?_
 refine rt ?_
 cases h
 exact ⟨.inr rfl,Nat.le_of_ble_eq_true rfl,by kernel_rfl⟩

theorem zEL (F:Nat) (d_1:List (zL)) (r:Int) (h:kU F d_1=some r):zV prog 65 [] [] [.sl false 2 (Mp zD d_1)] [] (Ii r):=by
 refine yM (fn:=Go.Proofs.Try.f65) (code:=x4 Go.Proofs.Try.f65) (by kernel_rfl) (by kernel_rfl) (Nat.le_of_ble_eq_true (by kernel_rfl)) ?_
 unfold kU at h
 refine sr [] [0] [] 0 [.sl false 2 (Mp zD d_1)] [] zG an ?_
 refine sq ?_
 refine sr [(1,{ n:=(d_1).length })] [0,5,6,7] [] 0 [.sl false 2 (Mp zD d_1),.sl false 2 (Mp zD d_1),Ii (lN (d_1)),Ii 0] [] zG (ac (yL _:((Mp zD d_1)).length=(d_1).length) an) ?_
 obtain ⟨o_1,h_1,h⟩:=bind_some h
 refine vV (K1:=(fun e st'=>match o_1 with | (.inl q0)=>e=.normal∧Sub 0 st' (mk [] [] 0) | (.inr q1)=>e=.ret∧q9 prog Go.Proofs.Try.f65 0 [] (Ii q1) st')) ?_ ?_
 ·replace h:=h_1
  refine yN (id:=0) (by kernel_rfl) ?_
  refine wk [] [] [.s 0,.s 5,.s 6,.s 7] [] [(0,.sl false 2 (Mp zD d_1)),(5,.sl false 2 (Mp zD d_1)),(6,Ii (lN (d_1))),(7,Ii 0)] [] an ?_
  refine wE (fun n st=>∃ (v_1:Int),st=mk [(0,.sl false 2 (Mp zD d_1)),(5,.sl false 2 (Mp zD d_1)),(6,Ii (lN (d_1))),(7,Ii v_1)] [] 0∧qV F d_1 n v_1=some o_1) F (by kernel_rfl) ⟨_,rfl,h⟩ ?_ ?_
  ·rintro _ ⟨_,_,h⟩;exact wO (h:(none:Option (Unit⊕Int))=some o_1)
  rintro n_1 _ ⟨v_1,rfl,h⟩
  replace h:vY F d_1 (qV F d_1 n_1) v_1=some o_1:=h
  unfold vY at h
  refine sr [] [0,5,6,7,8] [] 0 [.sl false 2 (Mp zD d_1),.sl false 2 (Mp zD d_1),Ii (lN (d_1)),Ii v_1,.bool (decide (v_1<(lN (d_1))))] [] zG an ?_
  refine sq ?_
  refine cd 8 (decide (v_1<(lN (d_1)))) ?_ ?_
  rotate_left
  ·intro g_1;replace h:=zT g_1 h
   refine wJ (id:=0) (by kernel_rfl) ?_
   cases h
   exact ⟨rfl,(sw [] [] [] [] an)⟩
  intro g_1;replace h:=zS g_1 h
  refine sk ?_
  refine sq ?_
  refine yN (id:=1) (by kernel_rfl) ?_
  refine sq ?_
  obtain ⟨x_1,h_2,h⟩:=bind_some h
  refine rg [(1,{ av:=zD x_1 }),(3,{ id:=0 })] [0,3,4,5,6,7] [0] 1 [.sl false 2 (Mp zD d_1),Ii v_1,Pp 0,.sl false 2 (Mp zD d_1),Ii (lN (d_1)),Ii v_1] [Vb 68 (uA x_1)] zG (ac (xZ h_2:wV (Mp zD d_1) v_1=some (zD x_1)) an) ?_
  refine sq ?_
  refine sq ?_
  refine wI (mk [(0,.sl false 2 (Mp zD d_1)),(3,Ii v_1),(4,Pp 0),(5,.sl false 2 (Mp zD d_1)),(6,Ii (lN (d_1))),(7,Ii v_1),(29,.bool (decide (x_1.Id<(0:Int))||(decide (x_1.Id≥(8:Int))||(decide (x_1.Ppm<(0:Int))||decide (x_1.Ppm>(10000:Int))))))] [(0,Vb 68 (uA x_1))] 1) ?_ ?_
  ·rcases bft (decide (x_1.Id<(0:Int))) with y9 | y9
   ·refine rg [(4,Hg),(5,Hg),(6,Hg),(7,Ht),(9,Hg),(10,Hg),(11,Hg),(12,Ht),(14,Hg),(15,Hg),(16,Hg),(17,Ht)] [0,3,4,5,6,7,16,17,18,21,22,23,26,27,28,29] [0] 1 [.sl false 2 (Mp zD d_1),Ii v_1,Pp 0,.sl false 2 (Mp zD d_1),Ii (lN (d_1)),Ii v_1,.tuple [],.tuple [],.tuple [],.tuple [],.tuple [],.tuple [],.tuple [],.tuple [],.tuple [],.bool true] [Vb 68 (uA x_1)] zG (ac y9 (ac y9 (ac y9 (ac y9 (ax (ax (ax (ar true (ax (ax (ax (ar true an)))))))))))) ?_
    exact ⟨rfl,(sw [0] [] [.s 0,.s 3,.s 4,.s 5,.s 6,.s 7,.a 29 (.bool (decide (x_1.Id<(0:Int))||(decide (x_1.Id≥(8:Int))||(decide (x_1.Ppm<(0:Int))||decide (x_1.Ppm>(10000:Int))))))] [.s 0] (ac (congrArg AV.bool (ort y9):(.bool true:AV)=.bool (decide (x_1.Id<(0:Int))||(decide (x_1.Id≥(8:Int))||(decide (x_1.Ppm<(0:Int))||decide (x_1.Ppm>(10000:Int)))))) an))⟩
   ·rcases bft (decide (x_1.Id≥(8:Int))) with wH | wH
    ·refine rg [(7,Hf),(9,Hg),(10,Hg),(11,Hg),(12,Ht),(14,Hg),(15,Hg),(16,Hg),(17,Ht)] [0,3,4,5,6,7,16,17,18,21,22,23,26,27,28,29] [0] 1 [.sl false 2 (Mp zD d_1),Ii v_1,Pp 0,.sl false 2 (Mp zD d_1),Ii (lN (d_1)),Ii v_1,Pp 0,Ii x_1.Id,.bool (decide (x_1.Id≥(8:Int))),.tuple [],.tuple [],.tuple [],.tuple [],.tuple [],.tuple [],.bool true] [Vb 68 (uA x_1)] zG (ac y9 (ac y9 (ac y9 (ac y9 (ac wH (ac wH (ac wH (ac wH (ax (ax (ax (ar true an)))))))))))) ?_
     exact ⟨rfl,(sw [0] [] [.s 0,.s 3,.s 4,.s 5,.s 6,.s 7,.a 29 (.bool (decide (x_1.Id<(0:Int))||(decide (x_1.Id≥(8:Int))||(decide (x_1.Ppm<(0:Int))||decide (x_1.Ppm>(10000:Int))))))] [.s 0] (ac (congrArg AV.bool (orf y9 (ort wH)):(.bool true:AV)=.bool (decide (x_1.Id<(0:Int))||(decide (x_1.Id≥(8:Int))||(decide (x_1.Ppm<(0:Int))||decide (x_1.Ppm>(10000:Int)))))) an))⟩
    ·rcases bft (decide (x_1.Ppm<(0:Int))) with wS | wS
     ·refine rg [(7,Hf),(12,Hf),(14,Hg),(15,Hg),(16,Hg),(17,Ht)] [0,3,4,5,6,7,16,17,18,21,22,23,26,27,28,29] [0] 1 [.sl false 2 (Mp zD d_1),Ii v_1,Pp 0,.sl false 2 (Mp zD d_1),Ii (lN (d_1)),Ii v_1,Pp 0,Ii x_1.Id,.bool (decide (x_1.Id≥(8:Int))),.ptr 0 0 0 1,Ii x_1.Ppm,.bool (decide (x_1.Ppm<(0:Int))),.tuple [],.tuple [],.tuple [],.bool true] [Vb 68 (uA x_1)] zG (ac y9 (ac y9 (ac y9 (ac y9 (ac wH (ac wH (ac wH (ac wH (ac wS (ac wS (ac wS (ac wS an)))))))))))) ?_
      exact ⟨rfl,(sw [0] [] [.s 0,.s 3,.s 4,.s 5,.s 6,.s 7,.a 29 (.bool (decide (x_1.Id<(0:Int))||(decide (x_1.Id≥(8:Int))||(decide (x_1.Ppm<(0:Int))||decide (x_1.Ppm>(10000:Int))))))] [.s 0] (ac (congrArg AV.bool (orf y9 (orf wH (ort wS))):(.bool true:AV)=.bool (decide (x_1.Id<(0:Int))||(decide (x_1.Id≥(8:Int))||(decide (x_1.Ppm<(0:Int))||decide (x_1.Ppm>(10000:Int)))))) an))⟩
     ·refine rg [(7,Hf),(12,Hf),(17,Hf)] [0,3,4,5,6,7,16,17,18,21,22,23,26,27,28,29] [0] 1 [.sl false 2 (Mp zD d_1),Ii v_1,Pp 0,.sl false 2 (Mp zD d_1),Ii (lN (d_1)),Ii v_1,Pp 0,Ii x_1.Id,.bool (decide (x_1.Id≥(8:Int))),.ptr 0 0 0 1,Ii x_1.Ppm,.bool (decide (x_1.Ppm<(0:Int))),.ptr 0 0 0 1,Ii x_1.Ppm,.bool (decide (x_1.Ppm>(10000:Int))),.bool (decide (x_1.Ppm>(10000:Int)))] [Vb 68 (uA x_1)] zG (ac y9 (ac y9 (ac y9 (ac y9 (ac wH (ac wH (ac wH (ac wH (ac wS (ac wS (ac wS (ac wS an)))))))))))) ?_
      exact ⟨rfl,(sw [0] [] [.s 0,.s 3,.s 4,.s 5,.s 6,.s 7,.a 29 (.bool (decide (x_1.Id<(0:Int))||(decide (x_1.Id≥(8:Int))||(decide (x_1.Ppm<(0:Int))||decide (x_1.Ppm>(10000:Int))))))] [.s 0] (ac (congrArg AV.bool (orf y9 (orf wH (orf wS rfl))):(.bool (decide (x_1.Ppm>(10000:Int))):AV)=.bool (decide (x_1.Id<(0:Int))||(decide (x_1.Id≥(8:Int))||(decide (x_1.Ppm<(0:Int))||decide (x_1.Ppm>(10000:Int)))))) an))⟩
  refine cd 29 (decide (x_1.Id<(0:Int))||(decide (x_1.Id≥(8:Int))||(decide (x_1.Ppm<(0:Int))||decide (x_1.Ppm>(10000:Int))))) ?_ ?_
  ·intro g_2;replace h:=zS g_2 h
   refine sr [] [2] [] 1 [Ii 2] [] zG an ?_
   refine rt ?_
   cases h
   exact ⟨rfl,Nat.le_of_ble_eq_true rfl,by kernel_rfl⟩
  intro g_2;replace h:=zT g_2 h
  refine sk ?_
  refine sq ?_
  obtain ⟨_,h_3,h⟩:=bind_some h;replace h_3:=vF h_3
  obtain ⟨r_1,h_4,h⟩:=bind_some h
  refine rg [(2,{ l:=(Mp zD (sub d_1 (0:Int) v_1)) }),(5,{ av:=Ii r_1,l:=[.sl false 2 (Mp zD (sub d_1 (0:Int) v_1)),Ii x_1.Id] })] [0,5,6,7,36] [] 1 [.sl false 2 (Mp zD d_1),.sl false 2 (Mp zD d_1),Ii (lN (d_1)),Ii v_1,.bool (decide (r_1≥(0:Int)))] [] zG (ac (by decide:(0:Int)≤(0:Int)) (ac h_3.1 (ac (zE8 h_3.2:v_1≤(lN ((Mp zD d_1)))) (ac (zK9 _ _ _:(Mp zD (sub d_1 (0:Int) v_1))=(((Mp zD d_1)).take (v_1).toNat).drop ((0:Int)).toNat) (ar ([.sl false 2 (Mp zD (sub d_1 (0:Int) v_1)),Ii x_1.Id]:List AV) (ac (rfl:([]:List zN)=[]) (ac (zA2 F (sub d_1 (0:Int) v_1) x_1.Id r_1 h_4:zV prog 76 [] [] [.sl false 2 (Mp zD (sub d_1 (0:Int) v_1)),Ii x_1.Id] [] (Ii r_1)) an))))))) ?_
  refine cd 36 (decide (r_1≥(0:Int))) ?_ ?_
  rotate_left
  ·intro g_3;replace h:=zT g_3 h
   refine sk ?_
   refine rg [] [0,5,6,7] [] 1 [.sl false 2 (Mp zD d_1),.sl false 2 (Mp zD d_1),Ii (lN (d_1)),Ii (zJ (v_1+(1:Int)))] [] zG an ?_
   exact ⟨_,(sw [] [] [.s 0,.s 5,.s 6,.s 7] [] an),_,rfl,h⟩
  intro g_3;replace h:=zS g_3 h
  refine sr [] [2] [] 1 [Ii 4] [] zG an ?_
  refine rt ?_
  cases h
  exact ⟨rfl,Nat.le_of_ble_eq_true rfl,by kernel_rfl⟩
 intro e st1 hk
 rcases o_1 with q_1 | q_2
 rotate_left
 ·obtain ⟨rfl,hf⟩:=hk
  cases h
  exact ⟨st1,Sub.refl _ _,.inr rfl,hf⟩
 obtain ⟨rfl,hs⟩:=hk
 refine ⟨_,hs,?_⟩
 refine sr [] [2] [] 0 [Ii 0] [] zG an ?_
 refine rt ?_
 cases h
 exact ⟨.inr rfl,Nat.le_of_ble_eq_true rfl,by kernel_rfl⟩

theorem zAf (n_1:Int) (r:Bool) (h:jD n_1=some r):zV prog 77 [] [] [Ii n_1] [] (.bool r):=by
 refine yM (fn:=Go.Proofs.Try.f77) (code:=x4 Go.Proofs.Try.f77) (by kernel_rfl) (by kernel_rfl) (Nat.le_of_ble_eq_true (by kernel_rfl)) ?_
 unfold jD at h
 refine sr [] [0] [] 0 [Ii n_1] [] zG an ?_
 refine sq ?_
 refine wI (mk [(2,.bool (decide (n_1≥(0:Int))&&decide (n_1≤(1000000000000:Int))))] [] 0) ?_ ?_
 ·rcases bft (decide (n_1≥(0:Int))) with zK | zK
  ·refine rg [(5,Ht)] [2] [] 0 [.bool (decide (n_1≤(1000000000000:Int)))] [] zG (ac zK (ac zK (ac zK an))) ?_
   exact ⟨rfl,(sw [] [] [.a 2 (.bool (decide (n_1≥(0:Int))&&decide (n_1≤(1000000000000:Int))))] [] (ac (congrArg AV.bool (tT zK rfl):(.bool (decide (n_1≤(1000000000000:Int))):AV)=.bool (decide (n_1≥(0:Int))&&decide (n_1≤(1000000000000:Int)))) an))⟩
  ·refine rg [(3,Hg),(4,Hg),(5,Hf)] [2] [] 0 [.bool false] [] zG (ac zK (ac zK (ac zK an))) ?_
   exact ⟨rfl,(sw [] [] [.a 2 (.bool (decide (n_1≥(0:Int))&&decide (n_1≤(1000000000000:Int))))] [] (ac (congrArg AV.bool (zAO zK):(.bool false:AV)=.bool (decide (n_1≥(0:Int))&&decide (n_1≤(1000000000000:Int)))) an))⟩
 refine rt ?_
 cases h
 exact ⟨.inr rfl,Nat.le_of_ble_eq_true rfl,by kernel_rfl⟩

theorem zHj (F:Nat) (d_1:List (zL)) (x_1:x9) (r:Int) (h:zAF F d_1 x_1=some r):zV prog 66 [] [] [.sl false 2 (Mp zD d_1),zO x_1] [] (Ii r):=by
 refine yM (fn:=Go.Proofs.Try.f66) (code:=x4 Go.Proofs.Try.f66) (by kernel_rfl) (by kernel_rfl) (Nat.le_of_ble_eq_true (by kernel_rfl)) ?_
 unfold zAF at h
 refine sr [(0,{ id:=0 })] [0,3] [0] 1 [.sl false 2 (Mp zD d_1),Pp 0] [Vb 86 (uK x_1)] zG an ?_
 refine sq ?_
 refine yN (id:=0) (by kernel_rfl) ?_
 refine sq ?_
 refine sq ?_
 obtain ⟨r_1,h_1,h⟩:=bind_some h
 refine rg [(3,{ av:=Ii r_1,l:=[.sl false 2 (Mp zD d_1),Ii x_1.A] })] [0,3,5] [0] 1 [.sl false 2 (Mp zD d_1),Pp 0,.bool (decide (r_1<(0:Int)))] [Vb 86 (uK x_1)] zG (ar ([.sl false 2 (Mp zD d_1),Ii x_1.A]:List AV) (ac (rfl:([]:List zN)=[]) (ac (zA2 F d_1 x_1.A r_1 h_1:zV prog 76 [] [] [.sl false 2 (Mp zD d_1),Ii x_1.A] [] (Ii r_1)) an))) ?_
 obtain ⟨o_1,h_2,h⟩:=bind_some h
 refine wI (mk [(3,Pp 0),(5,.bool o_1)] [(0,Vb 86 (uK x_1))] 1) ?_ ?_
 ·replace h:=h_2
  refine cd 5 (decide (r_1<(0:Int))) ?_ ?_
  ·intro g_1;replace h:=zS g_1 h
   refine sk ?_
   cases h
   exact ⟨rfl,(sw [0] [] [.s 3,.s 5] [.s 0] an)⟩
  intro g_1;replace h:=zT g_1 h
  obtain ⟨r_2,h_3,h⟩:=bind_some h
  refine rg [(3,{ av:=Ii r_2,l:=[.sl false 2 (Mp zD d_1),Ii x_1.B] })] [3,5] [0] 1 [Pp 0,.bool (decide (r_2<(0:Int)))] [Vb 86 (uK x_1)] zG (ar ([.sl false 2 (Mp zD d_1),Ii x_1.B]:List AV) (ac (rfl:([]:List zN)=[]) (ac (zA2 F d_1 x_1.B r_2 h_3:zV prog 76 [] [] [.sl false 2 (Mp zD d_1),Ii x_1.B] [] (Ii r_2)) an))) ?_
  cases h
  exact ⟨rfl,(sw [0] [] [.s 3,.s 5] [.s 0] an)⟩
 refine cd 5 o_1 ?_ ?_
 ·intro g_2;replace h:=zS g_2 h
  refine sr [] [4] [] 1 [Ii 5] [] zG an ?_
  refine rt ?_
  cases h
  exact ⟨.inr rfl,Nat.le_of_ble_eq_true rfl,by kernel_rfl⟩
 intro g_2;replace h:=zT g_2 h
 refine sr [] [3,16] [0] 1 [Pp 0,.bool (x_1.A==x_1.B)] [Vb 86 (uK x_1)] zG an ?_
 refine cd 16 (x_1.A==x_1.B) ?_ ?_
 ·intro g_3;replace h:=zS g_3 h
  refine sr [] [4] [] 1 [Ii 1] [] zG an ?_
  refine rt ?_
  cases h
  exact ⟨.inr rfl,Nat.le_of_ble_eq_true rfl,by kernel_rfl⟩
 intro g_3;replace h:=zT g_3 h
 refine sq ?_
 refine sq ?_
 obtain ⟨r_3,h_4,h⟩:=bind_some h
 refine rg [(2,{ av:=.bool r_3,l:=[Ii x_1.AtA] })] [3,22] [0] 1 [Pp 0,.bool (!r_3)] [Vb 86 (uK x_1)] zG (ar ([Ii x_1.AtA]:List AV) (ac (rfl:([]:List zN)=[]) (ac (zAf x_1.AtA r_3 h_4:zV prog 77 [] [] [Ii x_1.AtA] [] (.bool r_3)) an))) ?_
 refine cd 22 (!r_3) ?_ ?_
 ·intro g_4;replace h:=zS g_4 h
  refine sk ?_
  refine cd 22 (!r_3) ?_ ?_
  rotate_left
  ·intro hg;exact Bool.noConfusion ((g_4).symm.trans hg)
  intro _
  refine sr [] [4] [] 1 [Ii 2] [] zG an ?_
  refine rt ?_
  cases h
  exact ⟨.inr rfl,Nat.le_of_ble_eq_true rfl,by kernel_rfl⟩
 intro g_4;replace h:=zT g_4 h
 refine sq ?_
 obtain ⟨r_4,h_5,h⟩:=bind_some h
 refine rg [(3,{ av:=.bool r_4,l:=[Ii x_1.AtB.Lo] })] [3,22] [0] 1 [Pp 0,.bool (!r_4)] [Vb 86 (uK x_1)] zG (ar ([Ii x_1.AtB.Lo]:List AV) (ac (rfl:([]:List zN)=[]) (ac (zAf x_1.AtB.Lo r_4 h_5:zV prog 77 [] [] [Ii x_1.AtB.Lo] [] (.bool r_4)) an))) ?_
 refine cd 22 (!r_4) ?_ ?_
 ·intro g_5;replace h:=zS g_5 h
  refine sk ?_
  refine cd 22 (!r_4) ?_ ?_
  rotate_left
  ·intro hg;exact Bool.noConfusion ((g_5).symm.trans hg)
  intro _
  refine sr [] [4] [] 1 [Ii 2] [] zG an ?_
  refine rt ?_
  cases h
  exact ⟨.inr rfl,Nat.le_of_ble_eq_true rfl,by kernel_rfl⟩
 intro g_5;replace h:=zT g_5 h
 refine sq ?_
 obtain ⟨r_5,h_6,h⟩:=bind_some h
 refine rg [(3,{ av:=.bool r_5,l:=[Ii x_1.AtB.Hi] })] [3,22] [0] 1 [Pp 0,.bool (!r_5)] [Vb 86 (uK x_1)] zG (ar ([Ii x_1.AtB.Hi]:List AV) (ac (rfl:([]:List zN)=[]) (ac (zAf x_1.AtB.Hi r_5 h_6:zV prog 77 [] [] [Ii x_1.AtB.Hi] [] (.bool r_5)) an))) ?_
 refine cd 22 (!r_5) ?_ ?_
 ·intro g_6;replace h:=zS g_6 h
  refine sk ?_
  refine cd 22 (!r_5) ?_ ?_
  rotate_left
  ·intro hg;exact Bool.noConfusion ((g_6).symm.trans hg)
  intro _
  refine sr [] [4] [] 1 [Ii 2] [] zG an ?_
  refine rt ?_
  cases h
  exact ⟨.inr rfl,Nat.le_of_ble_eq_true rfl,by kernel_rfl⟩
 intro g_6;replace h:=zT g_6 h
 refine rg [] [22] [] 1 [.bool (decide (x_1.AtB.Lo>x_1.AtB.Hi))] [] zG an ?_
 refine cd 22 (decide (x_1.AtB.Lo>x_1.AtB.Hi)) ?_ ?_
 ·intro g_7;replace h:=zS g_7 h
  refine sr [] [4] [] 1 [Ii 2] [] zG an ?_
  refine rt ?_
  cases h
  exact ⟨.inr rfl,Nat.le_of_ble_eq_true rfl,by kernel_rfl⟩
 intro g_7;replace h:=zT g_7 h
 refine sk ?_
 refine sr [] [4] [] 1 [Ii 0] [] zG an ?_
 refine rt ?_
 cases h
 exact ⟨.inr rfl,Nat.le_of_ble_eq_true rfl,by kernel_rfl⟩

theorem zGI (F:Nat) (d_1:List (zL)) (l_1:List (x9)) (r:Int) (h:nY F d_1 l_1=some r):zV prog 48 [] [] [.sl false 2 (Mp zD d_1),.sl false 5 (Mp zO l_1)] [] (Ii r):=by
 refine yM (fn:=Go.Proofs.Try.f48) (code:=x4 Go.Proofs.Try.f48) (by kernel_rfl) (by kernel_rfl) (Nat.le_of_ble_eq_true (by kernel_rfl)) ?_
 unfold nY at h
 refine sr [] [0,1] [] 0 [.sl false 2 (Mp zD d_1),.sl false 5 (Mp zO l_1)] [] zG an ?_
 refine sq ?_
 refine sr [(1,{ n:=(d_1).length })] [0,1,11] [] 0 [.sl false 2 (Mp zD d_1),.sl false 5 (Mp zO l_1),.bool ((lN (d_1))==(0:Int))] [] zG (ac (yL _:((Mp zD d_1)).length=(d_1).length) an) ?_
 refine cd 11 ((lN (d_1))==(0:Int)) ?_ ?_
 ·intro g_1;replace h:=zS g_1 h
  refine sr [] [4] [] 0 [Ii 8] [] zG an ?_
  refine rt ?_
  cases h
  exact ⟨.inr rfl,Nat.le_of_ble_eq_true rfl,by kernel_rfl⟩
 intro g_1;replace h:=zT g_1 h
 refine sk ?_
 refine sq ?_
 refine sq ?_
 refine wI (mk [(0,.sl false 2 (Mp zD d_1)),(1,.sl false 5 (Mp zO l_1)),(19,.bool (decide ((lN (d_1))>(8:Int))||decide ((lN (l_1))>(200:Int))))] [] 0) ?_ ?_
 ·rcases bft (decide ((lN (d_1))>(8:Int))) with zK | zK
  ·refine rg [(1,{ n:=(d_1).length }),(4,Hg),(5,Hg),(6,Hg),(7,Ht)] [0,1,19] [] 0 [.sl false 2 (Mp zD d_1),.sl false 5 (Mp zO l_1),.bool true] [] zG (ac (yL _:((Mp zD d_1)).length=(d_1).length) (ac zK (ac zK (ac zK (ac zK an))))) ?_
   exact ⟨rfl,(sw [] [] [.s 0,.s 1,.a 19 (.bool (decide ((lN (d_1))>(8:Int))||decide ((lN (l_1))>(200:Int))))] [] (ac (congrArg AV.bool (ort zK):(.bool true:AV)=.bool (decide ((lN (d_1))>(8:Int))||decide ((lN (l_1))>(200:Int)))) an))⟩
  ·refine rg [(1,{ n:=(d_1).length }),(5,{ n:=(l_1).length }),(7,Hf)] [0,1,19] [] 0 [.sl false 2 (Mp zD d_1),.sl false 5 (Mp zO l_1),.bool (decide ((lN (l_1))>(200:Int)))] [] zG (ac (yL _:((Mp zD d_1)).length=(d_1).length) (ac zK (ac zK (ac (yL _:((Mp zO l_1)).length=(l_1).length) (ac zK (ac zK an)))))) ?_
   exact ⟨rfl,(sw [] [] [.s 0,.s 1,.a 19 (.bool (decide ((lN (d_1))>(8:Int))||decide ((lN (l_1))>(200:Int))))] [] (ac (congrArg AV.bool (orf zK rfl):(.bool (decide ((lN (l_1))>(200:Int))):AV)=.bool (decide ((lN (d_1))>(8:Int))||decide ((lN (l_1))>(200:Int)))) an))⟩
 refine cd 19 (decide ((lN (d_1))>(8:Int))||decide ((lN (l_1))>(200:Int))) ?_ ?_
 ·intro g_2;replace h:=zS g_2 h
  refine sr [] [4] [] 0 [Ii 7] [] zG an ?_
  refine rt ?_
  cases h
  exact ⟨.inr rfl,Nat.le_of_ble_eq_true rfl,by kernel_rfl⟩
 intro g_2;replace h:=zT g_2 h
 refine sk ?_
 refine sq ?_
 refine sq ?_
 obtain ⟨x_1,h_1,h⟩:=bind_some h
 refine rg [(1,{ av:=zD x_1 }),(4,{ b:=(decide (x_1=(⟨(0:Int),(0:Int)⟩:zL))),mks:=[.int .i64,.int .i64] })] [0,1,24] [] 0 [.sl false 2 (Mp zD d_1),.sl false 5 (Mp zO l_1),.bool (!(decide (x_1=(⟨(0:Int),(0:Int)⟩:zL))))] [] zG (ac (xZ h_1:wV (Mp zD d_1) (0:Int)=some (zD x_1)) (ac (zJF:kP prog 68 [.int .i64,.int .i64]) (ac (zAH (f:=zD) zBX x_1 (⟨(0:Int),(0:Int)⟩:zL):((decide (x_1=(⟨(0:Int),(0:Int)⟩:zL)))=true↔AV.agg [Ii x_1.Id,Ii x_1.Ppm]=AV.agg [Ii 0,Ii 0])) an))) ?_
 refine cd 24 (!(decide (x_1=(⟨(0:Int),(0:Int)⟩:zL)))) ?_ ?_
 ·intro g_3;replace h:=zS g_3 h
  refine sr [] [4] [] 0 [Ii 10] [] zG an ?_
  refine rt ?_
  cases h
  exact ⟨.inr rfl,Nat.le_of_ble_eq_true rfl,by kernel_rfl⟩
 intro g_3;replace h:=zT g_3 h
 refine sk ?_
 refine sq ?_
 refine sq ?_
 obtain ⟨r_1,h_2,h⟩:=bind_some h
 refine rg [(1,{ av:=Ii r_1,l:=[.sl false 2 (Mp zD d_1)] })] [0,1,5] [] 0 [.sl false 2 (Mp zD d_1),.sl false 5 (Mp zO l_1),Ii r_1] [] zG (ar ([.sl false 2 (Mp zD d_1)]:List AV) (ac (rfl:([]:List zN)=[]) (ac (zEL F d_1 r_1 h_2:zV prog 65 [] [] [.sl false 2 (Mp zD d_1)] [] (Ii r_1)) an))) ?_
 refine sr [] [0,1,5,28] [] 0 [.sl false 2 (Mp zD d_1),.sl false 5 (Mp zO l_1),Ii r_1,.bool (r_1 != (0:Int))] [] zG an ?_
 refine cd 28 (r_1 != (0:Int)) ?_ ?_
 ·intro g_4;replace h:=zS g_4 h
  refine sr [] [4] [] 0 [Ii r_1] [] zG an ?_
  refine rt ?_
  cases h
  exact ⟨.inr rfl,Nat.le_of_ble_eq_true rfl,by kernel_rfl⟩
 intro g_4;replace h:=zT g_4 h
 refine sk ?_
 refine sq ?_
 refine sr [(1,{ n:=(l_1).length })] [0,30,31,32] [] 0 [.sl false 2 (Mp zD d_1),.sl false 5 (Mp zO l_1),Ii (lN (l_1)),Ii 0] [] zG (ac (yL _:((Mp zO l_1)).length=(l_1).length) an) ?_
 obtain ⟨o_1,h_3,h⟩:=bind_some h
 refine vV (K1:=(fun e st'=>match o_1 with | (.inl q0)=>e=.normal∧Sub 0 st' (mk [] [] 0) | (.inr q1)=>e=.ret∧q9 prog Go.Proofs.Try.f48 0 [] (Ii q1) st')) ?_ ?_
 ·replace h:=h_3
  refine yN (id:=0) (by kernel_rfl) ?_
  refine wk [] [] [.s 0,.s 30,.s 31,.s 32] [] [(0,.sl false 2 (Mp zD d_1)),(30,.sl false 5 (Mp zO l_1)),(31,Ii (lN (l_1))),(32,Ii 0)] [] an ?_
  refine wE (fun n st=>∃ (v_1:Int),st=mk [(0,.sl false 2 (Mp zD d_1)),(30,.sl false 5 (Mp zO l_1)),(31,Ii (lN (l_1))),(32,Ii v_1)] [] 0∧kE F d_1 l_1 n v_1=some o_1) F (by kernel_rfl) ⟨_,rfl,h⟩ ?_ ?_
  ·rintro _ ⟨_,_,h⟩;exact wO (h:(none:Option (Unit⊕Int))=some o_1)
  rintro n_1 _ ⟨v_1,rfl,h⟩
  replace h:uD F d_1 l_1 (kE F d_1 l_1 n_1) v_1=some o_1:=h
  unfold uD at h
  refine sr [] [0,30,31,32,33] [] 0 [.sl false 2 (Mp zD d_1),.sl false 5 (Mp zO l_1),Ii (lN (l_1)),Ii v_1,.bool (decide (v_1<(lN (l_1))))] [] zG an ?_
  refine sq ?_
  refine cd 33 (decide (v_1<(lN (l_1)))) ?_ ?_
  rotate_left
  ·intro g_5;replace h:=zT g_5 h
   refine wJ (id:=0) (by kernel_rfl) ?_
   cases h
   exact ⟨rfl,(sw [] [] [] [] an)⟩
  intro g_5;replace h:=zS g_5 h
  refine sk ?_
  refine sq ?_
  refine yN (id:=1) (by kernel_rfl) ?_
  refine sq ?_
  obtain ⟨x_2,h_4,h⟩:=bind_some h
  refine rg [(0,{ av:=zO x_2 }),(2,{ id:=0 })] [0,7,30,31,32] [0] 1 [.sl false 2 (Mp zD d_1),Pp 0,.sl false 5 (Mp zO l_1),Ii (lN (l_1)),Ii v_1] [Vb 86 (uK x_2)] zG (ac (xZ h_4:wV (Mp zO l_1) v_1=some (zO x_2)) an) ?_
  refine sq ?_
  obtain ⟨r_2,h_5,h⟩:=bind_some h
  refine rg [(2,{ av:=Ii r_2,l:=[.sl false 2 (Mp zD d_1),zO x_2] })] [0,8,30,31,32] [] 1 [.sl false 2 (Mp zD d_1),Ii r_2,.sl false 5 (Mp zO l_1),Ii (lN (l_1)),Ii v_1] [] zG (ar ([.sl false 2 (Mp zD d_1),zO x_2]:List AV) (ac (rfl:([]:List zN)=[]) (ac (zHj F d_1 x_2 r_2 h_5:zV prog 66 [] [] [.sl false 2 (Mp zD d_1),zO x_2] [] (Ii r_2)) an))) ?_
  refine sr [] [0,8,30,31,32,40] [] 1 [.sl false 2 (Mp zD d_1),Ii r_2,.sl false 5 (Mp zO l_1),Ii (lN (l_1)),Ii v_1,.bool (r_2 != (0:Int))] [] zG an ?_
  refine cd 40 (r_2 != (0:Int)) ?_ ?_
  rotate_left
  ·intro g_6;replace h:=zT g_6 h
   refine sk ?_
   refine rg [] [0,30,31,32] [] 1 [.sl false 2 (Mp zD d_1),.sl false 5 (Mp zO l_1),Ii (lN (l_1)),Ii (zJ (v_1+(1:Int)))] [] zG an ?_
   exact ⟨_,(sw [] [] [.s 0,.s 30,.s 31,.s 32] [] an),_,rfl,h⟩
  intro g_6;replace h:=zS g_6 h
  refine sr [] [4] [] 1 [Ii r_2] [] zG an ?_
  refine rt ?_
  cases h
  exact ⟨rfl,Nat.le_of_ble_eq_true rfl,by kernel_rfl⟩
 intro e st1 hk
 rcases o_1 with q_1 | q_2
 rotate_left
 ·obtain ⟨rfl,hf⟩:=hk
  cases h
  exact ⟨st1,Sub.refl _ _,.inr rfl,hf⟩
 obtain ⟨rfl,hs⟩:=hk
 refine ⟨_,hs,?_⟩
 refine sr [] [4] [] 0 [Ii 0] [] zG an ?_
 refine rt ?_
 cases h
 exact ⟨.inr rfl,Nat.le_of_ble_eq_true rfl,by kernel_rfl⟩

theorem zF9 (d_1:zL) (a_1:zP) (r:Bool) (h:zA6 d_1 a_1=some r):zV prog 50 [(.var 66 (z5 a_1))] [] [zD d_1,Pp 0] [(.var 66 (z5 a_1))] (.bool r):=by
 refine yM (fn:=Go.Proofs.Try.f50) (code:=x4 Go.Proofs.Try.f50) (by kernel_rfl) (by kernel_rfl) (Nat.le_of_ble_eq_true (by kernel_rfl)) ?_
 unfold zA6 at h
 refine sr [(0,{ id:=1 })] [1,2] [0,1] 2 [Pp 0,Pp 1] [Vb 66 (z5 a_1),Vb 68 (uA d_1)] zG an ?_
 refine sr [] [3] [0] 2 [.bool (d_1.Id==a_1.Domain)] [Vb 66 (z5 a_1)] zG an ?_
 refine wk [0] [] [.s 3] [.s 0] [(3,.bool (d_1.Id==a_1.Domain))] [(0,Vb 66 (z5 a_1))] an ?_
 refine rt ?_
 cases h
 exact ⟨.inr rfl,Nat.le_of_ble_eq_true rfl,by kernel_rfl⟩

theorem u5 (F:Nat) (s_1:List (zL)) (c_1:zP) (r:Int) (h:xA F s_1 c_1=some r):zV prog 67 [(.var 66 (z5 c_1))] [] [.sl false 2 (Mp zD s_1),.fn 50 [Pp 0]] [(.var 66 (z5 c_1))] (Ii r):=by
 refine yM (fn:=Go.Proofs.Try.f67) (code:=x4 Go.Proofs.Try.f67) (by kernel_rfl) (by kernel_rfl) (Nat.le_of_ble_eq_true (by kernel_rfl)) ?_
 unfold xA at h
 refine sr [] [0,1] [0] 1 [.sl false 2 (Mp zD s_1),.fn 50 [Pp 0]] [Vb 66 (z5 c_1)] zG an ?_
 refine sq ?_
 refine sr [(1,{ n:=(s_1).length })] [0,1,7,8] [0] 1 [.sl false 2 (Mp zD s_1),.fn 50 [Pp 0],Ii (lN (s_1)),Ii 0] [Vb 66 (z5 c_1)] zG (ac (yL _:((Mp zD s_1)).length=(s_1).length) an) ?_
 obtain ⟨o_1,h_1,h⟩:=bind_some h
 refine vV (K1:=(fun e st'=>match o_1 with | (.inl q0)=>e=.normal∧Sub 1 st' (mk [] [(0,Vb 66 (z5 c_1))] 1) | (.inr q1)=>e=.ret∧q9 prog Go.Proofs.Try.f67 1 [(.var 66 (z5 c_1))] (Ii q1) st')) ?_ ?_
 ·replace h:=h_1
  refine yN (id:=0) (by kernel_rfl) ?_
  refine wk [0] [] [.s 0,.s 1,.s 7,.s 8] [.s 0] [(0,.sl false 2 (Mp zD s_1)),(1,.fn 50 [Pp 0]),(7,Ii (lN (s_1))),(8,Ii 0)] [(0,Vb 66 (z5 c_1))] an ?_
  refine wE (fun n st=>∃ (v_1:Int),st=mk [(0,.sl false 2 (Mp zD s_1)),(1,.fn 50 [Pp 0]),(7,Ii (lN (s_1))),(8,Ii v_1)] [(0,Vb 66 (z5 c_1))] 1∧y7 F s_1 c_1 n v_1=some o_1) F (by kernel_rfl) ⟨_,rfl,h⟩ ?_ ?_
  ·rintro _ ⟨_,_,h⟩;exact wO (h:(none:Option (Unit⊕Int))=some o_1)
  rintro n_1 _ ⟨v_1,rfl,h⟩
  replace h:yO F s_1 c_1 (y7 F s_1 c_1 n_1) v_1=some o_1:=h
  unfold yO at h
  refine sr [] [0,1,7,8,9] [0] 1 [.sl false 2 (Mp zD s_1),.fn 50 [Pp 0],Ii (lN (s_1)),Ii v_1,.bool (decide (v_1<(lN (s_1))))] [Vb 66 (z5 c_1)] zG an ?_
  refine sq ?_
  refine cd 9 (decide (v_1<(lN (s_1)))) ?_ ?_
  rotate_left
  ·intro g_1;replace h:=zT g_1 h
   refine wJ (id:=0) (by kernel_rfl) ?_
   cases h
   exact ⟨rfl,(sw [0] [] [] [.s 0] an)⟩
  intro g_1;replace h:=zS g_1 h
  refine sk ?_
  refine sq ?_
  refine yN (id:=1) (by kernel_rfl) ?_
  refine sr [] [0,1,5,7,8] [0] 1 [.sl false 2 (Mp zD s_1),.fn 50 [Pp 0],Ii v_1,Ii (lN (s_1)),Ii v_1] [Vb 66 (z5 c_1)] zG an ?_
  refine sq ?_
  obtain ⟨x_1,h_2,h⟩:=bind_some h
  obtain ⟨r_1,h_3,h⟩:=bind_some h
  refine rg [(3,{ av:=zD x_1 }),(5,{ av:=.bool r_1,ids:=[0],l:=[zD x_1,Pp 0],post:=[(.var 66 (z5 c_1))],pre:=[(.var 66 (z5 c_1))] })] [0,1,5,7,8,16] [0] 1 [.sl false 2 (Mp zD s_1),.fn 50 [Pp 0],Ii v_1,Ii (lN (s_1)),Ii v_1,.bool r_1] [Vb 66 (z5 c_1)] zG (ac (xZ h_2:wV (Mp zD s_1) v_1=some (zD x_1)) (ar ([zD x_1,Pp 0]:List AV) (ac (rfl:([Vb 66 (z5 c_1)]:List zN)=[Vb 66 (z5 c_1)]) (ac (zF9 x_1 c_1 r_1 h_3:zV prog 50 [(.var 66 (z5 c_1))] [] [zD x_1,Pp 0] [(.var 66 (z5 c_1))] (.bool r_1)) an)))) ?_
  refine cd 16 r_1 ?_ ?_
  rotate_left
  ·intro g_2;replace h:=zT g_2 h
   refine sk ?_
   refine rg [] [0,1,7,8] [0] 1 [.sl false 2 (Mp zD s_1),.fn 50 [Pp 0],Ii (lN (s_1)),Ii (zJ (v_1+(1:Int)))] [Vb 66 (z5 c_1)] zG an ?_
   exact ⟨_,(sw [0] [] [.s 0,.s 1,.s 7,.s 8] [.s 0] an),_,rfl,h⟩
  intro g_2;replace h:=zS g_2 h
  refine sr [] [4] [0] 1 [Ii v_1] [Vb 66 (z5 c_1)] zG an ?_
  refine wk [0] [] [.s 4] [.s 0] [(4,Ii v_1)] [(0,Vb 66 (z5 c_1))] an ?_
  refine rt ?_
  cases h
  exact ⟨rfl,Nat.le_of_ble_eq_true rfl,by kernel_rfl⟩
 intro e st1 hk
 rcases o_1 with q_1 | q_2
 rotate_left
 ·obtain ⟨rfl,hf⟩:=hk
  cases h
  exact ⟨st1,Sub.refl _ _,.inr rfl,hf⟩
 obtain ⟨rfl,hs⟩:=hk
 refine ⟨_,hs,?_⟩
 refine sr [] [4] [0] 1 [Ii (-1)] [Vb 66 (z5 c_1)] zG an ?_
 refine wk [0] [] [.s 4] [.s 0] [(4,Ii (-1))] [(0,Vb 66 (z5 c_1))] an ?_
 refine rt ?_
 cases h
 exact ⟨.inr rfl,Nat.le_of_ble_eq_true rfl,by kernel_rfl⟩

theorem u4 (F:Nat) (s_1:List (zL)) (c_1:zP) (r:Bool) (h:xU F s_1 c_1=some r):zV prog 49 [(.var 66 (z5 c_1))] [] [.sl false 2 (Mp zD s_1),.fn 50 [Pp 0]] [(.var 66 (z5 c_1))] (.bool r):=by
 refine yM (fn:=Go.Proofs.Try.f49) (code:=x4 Go.Proofs.Try.f49) (by kernel_rfl) (by kernel_rfl) (Nat.le_of_ble_eq_true (by kernel_rfl)) ?_
 unfold xU at h
 refine sr [] [0,1] [0] 1 [.sl false 2 (Mp zD s_1),.fn 50 [Pp 0]] [Vb 66 (z5 c_1)] zG an ?_
 refine sq ?_
 obtain ⟨r_1,h_1,h⟩:=bind_some h
 refine rg [(2,{ av:=Ii r_1,ids:=[0],l:=[.sl false 2 (Mp zD s_1),.fn 50 [Pp 0]],post:=[(.var 66 (z5 c_1))],pre:=[(.var 66 (z5 c_1))] })] [4] [0] 1 [.bool (decide (r_1≥(0:Int)))] [Vb 66 (z5 c_1)] zG (ar ([.sl false 2 (Mp zD s_1),.fn 50 [Pp 0]]:List AV) (ac (rfl:([Vb 66 (z5 c_1)]:List zN)=[Vb 66 (z5 c_1)]) (ac (u5 F s_1 c_1 r_1 h_1:zV prog 67 [(.var 66 (z5 c_1))] [] [.sl false 2 (Mp zD s_1),.fn 50 [Pp 0]] [(.var 66 (z5 c_1))] (Ii r_1)) an))) ?_
 refine wk [0] [] [.s 4] [.s 0] [(4,.bool (decide (r_1≥(0:Int))))] [(0,Vb 66 (z5 c_1))] an ?_
 refine rt ?_
 cases h
 exact ⟨.inr rfl,Nat.le_of_ble_eq_true rfl,by kernel_rfl⟩

theorem zI5 (F:Nat) (h_1:zR) (r:Int) (h:zBd F h_1=some r):zV prog 27 [] [] [xO h_1] [] (Ii r):=by
 refine yM (fn:=Go.Proofs.Try.f27) (code:=x4 Go.Proofs.Try.f27) (by kernel_rfl) (by kernel_rfl) (Nat.le_of_ble_eq_true (by kernel_rfl)) ?_
 unfold zBd at h
 refine sr [(0,{ id:=0 })] [1] [0] 1 [Pp 0] [Vb 26 (z0 h_1)] zG an ?_
 refine sq ?_
 refine yN (id:=0) (by kernel_rfl) ?_
 refine sr [(2,{ n:=(h_1.Threads).length })] [1,10] [0] 1 [Pp 0,.bool ((lN (h_1.Threads))==(0:Int))] [Vb 26 (z0 h_1)] zG (ac (yL _:((Mp zF h_1.Threads)).length=(h_1.Threads).length) an) ?_
 refine cd 10 ((lN (h_1.Threads))==(0:Int)) ?_ ?_
 ·intro g_1;replace h:=zS g_1 h
  refine sr [] [2] [] 1 [Ii 8] [] zG an ?_
  refine rt ?_
  cases h
  exact ⟨.inr rfl,Nat.le_of_ble_eq_true rfl,by kernel_rfl⟩
 intro g_1;replace h:=zT g_1 h
 refine sr [(2,{ n:=(h_1.Threads).length })] [1,15] [0] 1 [Pp 0,.bool (decide ((lN (h_1.Threads))>(64:Int)))] [Vb 26 (z0 h_1)] zG (ac (yL _:((Mp zF h_1.Threads)).length=(h_1.Threads).length) an) ?_
 refine cd 15 (decide ((lN (h_1.Threads))>(64:Int))) ?_ ?_
 ·intro g_2;replace h:=zS g_2 h
  refine sr [] [2] [] 1 [Ii 7] [] zG an ?_
  refine rt ?_
  cases h
  exact ⟨.inr rfl,Nat.le_of_ble_eq_true rfl,by kernel_rfl⟩
 intro g_2;replace h:=zT g_2 h
 refine sk ?_
 refine sr [(0,{ id:=1,mag:=false,mks:=[.int .i64] })] [1,3] [0,1] 2 [Pp 0,.mp 1] [Vb 26 (z0 h_1),.live (.map false [.int .i64] [])] zG an ?_
 refine sq ?_
 refine sr [(2,{ n:=(h_1.Threads).length })] [1,3,22,23,24] [0,1] 2 [Pp 0,.mp 1,.sl false 3 (Mp zF h_1.Threads),Ii (lN (h_1.Threads)),Ii 0] [Vb 26 (z0 h_1),.live (.map false [.int .i64] [])] zG (ac (yL _:((Mp zF h_1.Threads)).length=(h_1.Threads).length) an) ?_
 obtain ⟨o_1,h_2,h⟩:=bind_some h
 refine vV (K1:=(fun e st'=>match o_1 with | (.inl q0)=>e=.normal∧Sub 0 st' (mk [(1,Pp 0)] [(0,Vb 26 (z0 h_1))] 1) | (.inr q1)=>e=.ret∧q9 prog Go.Proofs.Try.f27 0 [] (Ii q1) st')) ?_ ?_
 ·replace h:=h_2
  refine yN (id:=1) (by kernel_rfl) ?_
  refine wk [0,1] [] [.s 1,.s 3,.s 22,.s 23,.s 24] [.s 0,.s 1] [(1,Pp 0),(3,.mp 1),(22,.sl false 3 (Mp zF h_1.Threads)),(23,Ii (lN (h_1.Threads))),(24,Ii 0)] [(0,Vb 26 (z0 h_1)),(1,.live (.map false [.int .i64] []))] an ?_
  refine wE (fun n st=>∃ (v_1:Int),∃ (zC:List (Int×Bool)),st=mk [(1,Pp 0),(3,.mp 1),(22,.sl false 3 (Mp zF h_1.Threads)),(23,Ii (lN (h_1.Threads))),(24,Ii v_1)] [(0,Vb 26 (z0 h_1)),(1,.live (.map false [.int .i64] (List.map (mpE (AV.int .i64) AV.bool) zC)))] 2∧j9 F h_1 n v_1 zC=some o_1) F (by kernel_rfl) ⟨_,_,rfl,h⟩ ?_ ?_
  ·rintro _ ⟨_,_,_,h⟩;exact wO (h:(none:Option (Unit⊕Int))=some o_1)
  rintro n_1 _ ⟨v_1,zC,rfl,h⟩
  replace h:qK F h_1 (j9 F h_1 n_1) v_1 zC=some o_1:=h
  unfold qK at h
  refine sr [] [1,3,22,23,24,25] [0,1] 2 [Pp 0,.mp 1,.sl false 3 (Mp zF h_1.Threads),Ii (lN (h_1.Threads)),Ii v_1,.bool (decide (v_1<(lN (h_1.Threads))))] [Vb 26 (z0 h_1),.live (.map false [.int .i64] (List.map (mpE (AV.int .i64) AV.bool) zC))] zG an ?_
  refine sq ?_
  refine cd 25 (decide (v_1<(lN (h_1.Threads)))) ?_ ?_
  rotate_left
  ·intro g_3;replace h:=zT g_3 h
   refine wJ (id:=1) (by kernel_rfl) ?_
   cases h
   exact ⟨rfl,(sw [0] [] [.s 1] [.s 0] an)⟩
  intro g_3;replace h:=zS g_3 h
  refine sk ?_
  refine sq ?_
  refine yN (id:=2) (by kernel_rfl) ?_
  refine sq ?_
  obtain ⟨x_1,h_3,h⟩:=bind_some h
  refine rg [(0,{ av:=zF x_1 }),(2,{ id:=2 })] [1,3,5,22,23,24] [0,1,2] 3 [Pp 0,.mp 1,Pp 2,.sl false 3 (Mp zF h_1.Threads),Ii (lN (h_1.Threads)),Ii v_1] [Vb 26 (z0 h_1),.live (.map false [.int .i64] (List.map (mpE (AV.int .i64) AV.bool) zC)),Vb 66 (z5 x_1)] zG (ac (xZ h_3:wV (Mp zF h_1.Threads) v_1=some (zF x_1)) an) ?_
  refine sq ?_
  refine sq ?_
  obtain ⟨r_1,h_4,h⟩:=bind_some h
  refine rg [(1,{ av:=Ii r_1,l:=[zF x_1] })] [1,3,5,6,22,23,24] [0,1,2] 3 [Pp 0,.mp 1,Pp 2,Ii r_1,.sl false 3 (Mp zF h_1.Threads),Ii (lN (h_1.Threads)),Ii v_1] [Vb 26 (z0 h_1),.live (.map false [.int .i64] (List.map (mpE (AV.int .i64) AV.bool) zC)),Vb 66 (z5 x_1)] zG (ar ([zF x_1]:List AV) (ac (rfl:([]:List zN)=[]) (ac (zD0 F x_1 r_1 h_4:zV prog 47 [] [] [zF x_1] [] (Ii r_1)) an))) ?_
  refine sr [] [1,3,5,6,22,23,24,31] [0,1,2] 3 [Pp 0,.mp 1,Pp 2,Ii r_1,.sl false 3 (Mp zF h_1.Threads),Ii (lN (h_1.Threads)),Ii v_1,.bool (r_1 != (0:Int))] [Vb 26 (z0 h_1),.live (.map false [.int .i64] (List.map (mpE (AV.int .i64) AV.bool) zC)),Vb 66 (z5 x_1)] zG an ?_
  refine cd 31 (r_1 != (0:Int)) ?_ ?_
  ·intro g_4;replace h:=zS g_4 h
   refine sr [] [2] [] 3 [Ii r_1] [] zG an ?_
   refine rt ?_
   cases h
   exact ⟨rfl,Nat.le_of_ble_eq_true rfl,by kernel_rfl⟩
  intro g_4;replace h:=zT g_4 h
  refine sk ?_
  refine sq ?_
  refine sr [(3,{ av:=(.bool ((yD zC x_1.Id).getD false)),g:=(yD zC x_1.Id).isSome })] [1,3,5,22,23,24,36] [0,1,2] 3 [Pp 0,.mp 1,Pp 2,.sl false 3 (Mp zF h_1.Threads),Ii (lN (h_1.Threads)),Ii v_1,.bool ((yD zC x_1.Id).getD false)] [Vb 26 (z0 h_1),.live (.map false [.int .i64] (List.map (mpE (AV.int .i64) AV.bool) zC)),Vb 66 (z5 x_1)] zG (ac (zAt:vU prog 3 false [.int .i64]) (ac (zD1 (f:=(AV.int .i64)) (g:=AV.bool) zAn zC x_1.Id false:jY (List.map (mpE (AV.int .i64) AV.bool) zC) (Ii x_1.Id) (.bool false) (.bool ((yD zC x_1.Id).getD false)) (yD zC x_1.Id).isSome) an)) ?_
  refine cd 36 ((yD zC x_1.Id).getD false) ?_ ?_
  ·intro g_5;replace h:=zS g_5 h
   refine sr [] [2] [] 3 [Ii 4] [] zG an ?_
   refine rt ?_
   cases h
   exact ⟨rfl,Nat.le_of_ble_eq_true rfl,by kernel_rfl⟩
  intro g_5;replace h:=zT g_5 h
  refine sk ?_
  obtain ⟨_,h_5,h⟩:=bind_some h;replace h_5:=vF h_5
  refine rg [(3,{ es:=(List.map (mpE (AV.int .i64) AV.bool) (uH zC x_1.Id true)) })] [1,3,22,23,24] [0,1] 3 [Pp 0,.mp 1,.sl false 3 (Mp zF h_1.Threads),Ii (lN (h_1.Threads)),Ii v_1] [Vb 26 (z0 h_1),.live (.map false [.int .i64] (List.map (mpE (AV.int .i64) AV.bool) (uH zC x_1.Id true)))] zG (ac (zAt:vU prog 3 false [.int .i64]) (ac (zC2 (f:=(AV.int .i64)) (g:=AV.bool) zAn zC x_1.Id true:zBO (List.map (mpE (AV.int .i64) AV.bool) zC) (Ii x_1.Id) (.bool true) (List.map (mpE (AV.int .i64) AV.bool) (uH zC x_1.Id true))) (ac (zGw (l:=zC) h_5:((List.map (mpE (AV.int .i64) AV.bool) zC):List (AV×AV)).length<maxLen) an))) ?_
  refine rg [] [1,3,22,23,24] [0,1] 3 [Pp 0,.mp 1,.sl false 3 (Mp zF h_1.Threads),Ii (lN (h_1.Threads)),Ii (zJ (v_1+(1:Int)))] [Vb 26 (z0 h_1),.live (.map false [.int .i64] (List.map (mpE (AV.int .i64) AV.bool) (uH zC x_1.Id true)))] zG an ?_
  exact ⟨_,(sw [0,1] [] [.s 1,.s 3,.s 22,.s 23,.s 24] [.s 0,.s 1] an),_,_,rfl,h⟩
 intro e st1 hk
 rcases o_1 with q_1 | q_2
 rotate_left
 ·obtain ⟨rfl,hf⟩:=hk
  cases h
  exact ⟨st1,Sub.refl _ _,.inr rfl,hf⟩
 obtain ⟨rfl,hs⟩:=hk
 refine ⟨_,hs,?_⟩
 refine sq ?_
 refine sq ?_
 obtain ⟨r_2,h_6,h⟩:=bind_some h
 refine rg [(4,{ av:=Ii r_2,l:=[.sl false 2 (Mp zD h_1.Domains),.sl false 5 (Mp zO h_1.Snaps)] })] [1,7] [0] 1 [Pp 0,Ii r_2] [Vb 26 (z0 h_1)] zG (ar ([.sl false 2 (Mp zD h_1.Domains),.sl false 5 (Mp zO h_1.Snaps)]:List AV) (ac (rfl:([]:List zN)=[]) (ac (zGI F h_1.Domains h_1.Snaps r_2 h_6:zV prog 48 [] [] [.sl false 2 (Mp zD h_1.Domains),.sl false 5 (Mp zO h_1.Snaps)] [] (Ii r_2)) an))) ?_
 refine sr [] [1,7,47] [0] 1 [Pp 0,Ii r_2,.bool (r_2 != (0:Int))] [Vb 26 (z0 h_1)] zG an ?_
 refine cd 47 (r_2 != (0:Int)) ?_ ?_
 ·intro g_6;replace h:=zS g_6 h
  refine sr [] [2] [] 1 [Ii r_2] [] zG an ?_
  refine rt ?_
  cases h
  exact ⟨.inr rfl,Nat.le_of_ble_eq_true rfl,by kernel_rfl⟩
 intro g_6;replace h:=zT g_6 h
 refine sk ?_
 refine sq ?_
 refine sr [(2,{ n:=(h_1.Threads).length })] [1,50,51,52] [0] 1 [Pp 0,.sl false 3 (Mp zF h_1.Threads),Ii (lN (h_1.Threads)),Ii 0] [Vb 26 (z0 h_1)] zG (ac (yL _:((Mp zF h_1.Threads)).length=(h_1.Threads).length) an) ?_
 obtain ⟨o_2,h_7,h⟩:=bind_some h
 refine vV (K1:=(fun e st'=>match o_2 with | (.inl q0)=>e=.normal∧Sub 0 st' (mk [] [] 0) | (.inr q1)=>e=.ret∧q9 prog Go.Proofs.Try.f27 0 [] (Ii q1) st')) ?_ ?_
 ·replace h:=h_7
  refine yN (id:=3) (by kernel_rfl) ?_
  refine wk [0] [] [.s 1,.s 50,.s 51,.s 52] [.s 0] [(1,Pp 0),(50,.sl false 3 (Mp zF h_1.Threads)),(51,Ii (lN (h_1.Threads))),(52,Ii 0)] [(0,Vb 26 (z0 h_1))] an ?_
  refine wE (fun n st=>∃ (v_2:Int),st=mk [(1,Pp 0),(50,.sl false 3 (Mp zF h_1.Threads)),(51,Ii (lN (h_1.Threads))),(52,Ii v_2)] [(0,Vb 26 (z0 h_1))] 1∧kG F h_1 n v_2=some o_2) F (by kernel_rfl) ⟨_,rfl,h⟩ ?_ ?_
  ·rintro _ ⟨_,_,h⟩;exact wO (h:(none:Option (Unit⊕Int))=some o_2)
  rintro n_2 _ ⟨v_2,rfl,h⟩
  replace h:uT F h_1 (kG F h_1 n_2) v_2=some o_2:=h
  unfold uT at h
  refine sr [] [1,50,51,52,53] [0] 1 [Pp 0,.sl false 3 (Mp zF h_1.Threads),Ii (lN (h_1.Threads)),Ii v_2,.bool (decide (v_2<(lN (h_1.Threads))))] [Vb 26 (z0 h_1)] zG an ?_
  refine sq ?_
  refine cd 53 (decide (v_2<(lN (h_1.Threads)))) ?_ ?_
  rotate_left
  ·intro g_7;replace h:=zT g_7 h
   refine wJ (id:=3) (by kernel_rfl) ?_
   cases h
   exact ⟨rfl,(sw [] [] [] [] an)⟩
  intro g_7;replace h:=zS g_7 h
  refine sk ?_
  refine sq ?_
  refine yN (id:=4) (by kernel_rfl) ?_
  refine sq ?_
  obtain ⟨x_2,h_8,h⟩:=bind_some h
  refine rg [(0,{ av:=zF x_2 }),(2,{ id:=1 })] [1,9,50,51,52] [0,1] 2 [Pp 0,Pp 1,.sl false 3 (Mp zF h_1.Threads),Ii (lN (h_1.Threads)),Ii v_2] [Vb 26 (z0 h_1),Vb 66 (z5 x_2)] zG (ac (xZ h_8:wV (Mp zF h_1.Threads) v_2=some (zF x_2)) an) ?_
  refine sq ?_
  obtain ⟨r_3,h_9,h⟩:=bind_some h
  refine rg [(3,{ av:=.bool r_3,ids:=[1],l:=[.sl false 2 (Mp zD h_1.Domains),.fn 50 [Pp 0]],post:=[(.var 66 (z5 x_2))],pre:=[(.var 66 (z5 x_2))] })] [1,50,51,52,60] [0] 2 [Pp 0,.sl false 3 (Mp zF h_1.Threads),Ii (lN (h_1.Threads)),Ii v_2,.bool (!r_3)] [Vb 26 (z0 h_1)] zG (ar ([.sl false 2 (Mp zD h_1.Domains),.fn 50 [Pp 1]]:List AV) (ac (rfl:([Vb 66 (z5 x_2)]:List zN)=[Vb 66 (z5 x_2)]) (ac (u4 F h_1.Domains x_2 r_3 h_9:zV prog 49 [(.var 66 (z5 x_2))] [] [.sl false 2 (Mp zD h_1.Domains),.fn 50 [Pp 0]] [(.var 66 (z5 x_2))] (.bool r_3)) an))) ?_
  refine cd 60 (!r_3) ?_ ?_
  rotate_left
  ·intro g_8;replace h:=zT g_8 h
   refine sk ?_
   refine rg [] [1,50,51,52] [0] 2 [Pp 0,.sl false 3 (Mp zF h_1.Threads),Ii (lN (h_1.Threads)),Ii (zJ (v_2+(1:Int)))] [Vb 26 (z0 h_1)] zG an ?_
   exact ⟨_,(sw [0] [] [.s 1,.s 50,.s 51,.s 52] [.s 0] an),_,rfl,h⟩
  intro g_8;replace h:=zS g_8 h
  refine sr [] [2] [] 2 [Ii 5] [] zG an ?_
  refine rt ?_
  cases h
  exact ⟨rfl,Nat.le_of_ble_eq_true rfl,by kernel_rfl⟩
 intro e st1 hk
 rcases o_2 with q_3 | q_4
 rotate_left
 ·obtain ⟨rfl,hf⟩:=hk
  cases h
  exact ⟨st1,Sub.refl _ _,.inr rfl,hf⟩
 obtain ⟨rfl,hs⟩:=hk
 refine ⟨_,hs,?_⟩
 refine sr [] [2] [] 0 [Ii 0] [] zG an ?_
 refine rt ?_
 cases h
 exact ⟨.inr rfl,Nat.le_of_ble_eq_true rfl,by kernel_rfl⟩

theorem zGb (r:(List (zM))) (h:k0=some r):zV prog 89 [] [] [] [.row 127 9 (Mp wA r)] (.own 0 ((r).length)):=by
 refine yM (fn:=Go.Proofs.Try.f89) (code:=x4 Go.Proofs.Try.f89) (by kernel_rfl) (by kernel_rfl) (Nat.le_of_ble_eq_true (by kernel_rfl)) ?_
 unfold k0 at h
 refine sr [(0,{ id:=0,m:=1 })] [] [] 1 [] [] zG an ?_
 refine sr [(13,{ id:=1 })] [0] [1] 2 [.own 1 13] [Rb 127 9 (Mp wA ([(⟨([]:List Int),false,false,false,false,(0:Int),(0:Int),(0:Int),(0:Int)⟩:zM),(⟨([98,101,103,105,110]:List Int),true,false,false,false,(0:Int),(0:Int),(0:Int),(0:Int)⟩:zM),(⟨([101,110,100]:List Int),false,false,false,false,(0:Int),(0:Int),(0:Int),(0:Int)⟩:zM),(⟨([109,97,114,107]:List Int),true,false,false,false,(0:Int),(0:Int),(0:Int),(0:Int)⟩:zM),(⟨([99,111,117,110,116]:List Int),true,true,false,false,(-1000000000000000:Int),(1000000000000000:Int),(0:Int),(0:Int)⟩:zM),(⟨([115,97,109,112,108,101]:List Int),false,true,false,true,(1:Int),(1000000000000:Int),(0:Int),(0:Int)⟩:zM),(⟨([115,101,110,100]:List Int),false,true,false,false,(0:Int),(1000000000000000:Int),(0:Int),(0:Int)⟩:zM),(⟨([114,101,99,118]:List Int),false,true,false,false,(0:Int),(1000000000000000:Int),(0:Int),(0:Int)⟩:zM),(⟨([114,117,110]:List Int),false,true,false,false,(0:Int),(63:Int),(0:Int),(0:Int)⟩:zM),(⟨([115,116,111,112]:List Int),false,true,true,false,(0:Int),(3:Int),(0:Int),(1000000000000000:Int)⟩:zM),(⟨([119,97,107,101]:List Int),false,true,false,false,(0:Int),(1000000000000000:Int),(0:Int),(0:Int)⟩:zM),(⟨([97,108,108,111,99]:List Int),false,true,true,true,(0:Int),(1000000000000000:Int),(1:Int),(1000000000000:Int)⟩:zM),(⟨([102,114,101,101]:List Int),false,true,false,false,(0:Int),(1000000000000000:Int),(0:Int),(0:Int)⟩:zM)]:List zM))] zG an ?_
 refine wk [1] [] [.a 0 (.own 0 ((([(⟨([]:List Int),false,false,false,false,(0:Int),(0:Int),(0:Int),(0:Int)⟩:zM),(⟨([98,101,103,105,110]:List Int),true,false,false,false,(0:Int),(0:Int),(0:Int),(0:Int)⟩:zM),(⟨([101,110,100]:List Int),false,false,false,false,(0:Int),(0:Int),(0:Int),(0:Int)⟩:zM),(⟨([109,97,114,107]:List Int),true,false,false,false,(0:Int),(0:Int),(0:Int),(0:Int)⟩:zM),(⟨([99,111,117,110,116]:List Int),true,true,false,false,(-1000000000000000:Int),(1000000000000000:Int),(0:Int),(0:Int)⟩:zM),(⟨([115,97,109,112,108,101]:List Int),false,true,false,true,(1:Int),(1000000000000:Int),(0:Int),(0:Int)⟩:zM),(⟨([115,101,110,100]:List Int),false,true,false,false,(0:Int),(1000000000000000:Int),(0:Int),(0:Int)⟩:zM),(⟨([114,101,99,118]:List Int),false,true,false,false,(0:Int),(1000000000000000:Int),(0:Int),(0:Int)⟩:zM),(⟨([114,117,110]:List Int),false,true,false,false,(0:Int),(63:Int),(0:Int),(0:Int)⟩:zM),(⟨([115,116,111,112]:List Int),false,true,true,false,(0:Int),(3:Int),(0:Int),(1000000000000000:Int)⟩:zM),(⟨([119,97,107,101]:List Int),false,true,false,false,(0:Int),(1000000000000000:Int),(0:Int),(0:Int)⟩:zM),(⟨([97,108,108,111,99]:List Int),false,true,true,true,(0:Int),(1000000000000000:Int),(1:Int),(1000000000000:Int)⟩:zM),(⟨([102,114,101,101]:List Int),false,true,false,false,(0:Int),(1000000000000000:Int),(0:Int),(0:Int)⟩:zM)]:List zM)).length))] [.s 0] [(0,.own 0 ((([(⟨([]:List Int),false,false,false,false,(0:Int),(0:Int),(0:Int),(0:Int)⟩:zM),(⟨([98,101,103,105,110]:List Int),true,false,false,false,(0:Int),(0:Int),(0:Int),(0:Int)⟩:zM),(⟨([101,110,100]:List Int),false,false,false,false,(0:Int),(0:Int),(0:Int),(0:Int)⟩:zM),(⟨([109,97,114,107]:List Int),true,false,false,false,(0:Int),(0:Int),(0:Int),(0:Int)⟩:zM),(⟨([99,111,117,110,116]:List Int),true,true,false,false,(-1000000000000000:Int),(1000000000000000:Int),(0:Int),(0:Int)⟩:zM),(⟨([115,97,109,112,108,101]:List Int),false,true,false,true,(1:Int),(1000000000000:Int),(0:Int),(0:Int)⟩:zM),(⟨([115,101,110,100]:List Int),false,true,false,false,(0:Int),(1000000000000000:Int),(0:Int),(0:Int)⟩:zM),(⟨([114,101,99,118]:List Int),false,true,false,false,(0:Int),(1000000000000000:Int),(0:Int),(0:Int)⟩:zM),(⟨([114,117,110]:List Int),false,true,false,false,(0:Int),(63:Int),(0:Int),(0:Int)⟩:zM),(⟨([115,116,111,112]:List Int),false,true,true,false,(0:Int),(3:Int),(0:Int),(1000000000000000:Int)⟩:zM),(⟨([119,97,107,101]:List Int),false,true,false,false,(0:Int),(1000000000000000:Int),(0:Int),(0:Int)⟩:zM),(⟨([97,108,108,111,99]:List Int),false,true,true,true,(0:Int),(1000000000000000:Int),(1:Int),(1000000000000:Int)⟩:zM),(⟨([102,114,101,101]:List Int),false,true,false,false,(0:Int),(1000000000000000:Int),(0:Int),(0:Int)⟩:zM)]:List zM)).length))] [(0,Rb 127 9 (Mp wA ([(⟨([]:List Int),false,false,false,false,(0:Int),(0:Int),(0:Int),(0:Int)⟩:zM),(⟨([98,101,103,105,110]:List Int),true,false,false,false,(0:Int),(0:Int),(0:Int),(0:Int)⟩:zM),(⟨([101,110,100]:List Int),false,false,false,false,(0:Int),(0:Int),(0:Int),(0:Int)⟩:zM),(⟨([109,97,114,107]:List Int),true,false,false,false,(0:Int),(0:Int),(0:Int),(0:Int)⟩:zM),(⟨([99,111,117,110,116]:List Int),true,true,false,false,(-1000000000000000:Int),(1000000000000000:Int),(0:Int),(0:Int)⟩:zM),(⟨([115,97,109,112,108,101]:List Int),false,true,false,true,(1:Int),(1000000000000:Int),(0:Int),(0:Int)⟩:zM),(⟨([115,101,110,100]:List Int),false,true,false,false,(0:Int),(1000000000000000:Int),(0:Int),(0:Int)⟩:zM),(⟨([114,101,99,118]:List Int),false,true,false,false,(0:Int),(1000000000000000:Int),(0:Int),(0:Int)⟩:zM),(⟨([114,117,110]:List Int),false,true,false,false,(0:Int),(63:Int),(0:Int),(0:Int)⟩:zM),(⟨([115,116,111,112]:List Int),false,true,true,false,(0:Int),(3:Int),(0:Int),(1000000000000000:Int)⟩:zM),(⟨([119,97,107,101]:List Int),false,true,false,false,(0:Int),(1000000000000000:Int),(0:Int),(0:Int)⟩:zM),(⟨([97,108,108,111,99]:List Int),false,true,true,true,(0:Int),(1000000000000000:Int),(1:Int),(1000000000000:Int)⟩:zM),(⟨([102,114,101,101]:List Int),false,true,false,false,(0:Int),(1000000000000000:Int),(0:Int),(0:Int)⟩:zM)]:List zM)))] (ac (congrArg (AV.own _) (by first | (simp;done) | (simp;omega)):(.own 1 13:AV)=.own 1 ((([(⟨([]:List Int),false,false,false,false,(0:Int),(0:Int),(0:Int),(0:Int)⟩:zM),(⟨([98,101,103,105,110]:List Int),true,false,false,false,(0:Int),(0:Int),(0:Int),(0:Int)⟩:zM),(⟨([101,110,100]:List Int),false,false,false,false,(0:Int),(0:Int),(0:Int),(0:Int)⟩:zM),(⟨([109,97,114,107]:List Int),true,false,false,false,(0:Int),(0:Int),(0:Int),(0:Int)⟩:zM),(⟨([99,111,117,110,116]:List Int),true,true,false,false,(-1000000000000000:Int),(1000000000000000:Int),(0:Int),(0:Int)⟩:zM),(⟨([115,97,109,112,108,101]:List Int),false,true,false,true,(1:Int),(1000000000000:Int),(0:Int),(0:Int)⟩:zM),(⟨([115,101,110,100]:List Int),false,true,false,false,(0:Int),(1000000000000000:Int),(0:Int),(0:Int)⟩:zM),(⟨([114,101,99,118]:List Int),false,true,false,false,(0:Int),(1000000000000000:Int),(0:Int),(0:Int)⟩:zM),(⟨([114,117,110]:List Int),false,true,false,false,(0:Int),(63:Int),(0:Int),(0:Int)⟩:zM),(⟨([115,116,111,112]:List Int),false,true,true,false,(0:Int),(3:Int),(0:Int),(1000000000000000:Int)⟩:zM),(⟨([119,97,107,101]:List Int),false,true,false,false,(0:Int),(1000000000000000:Int),(0:Int),(0:Int)⟩:zM),(⟨([97,108,108,111,99]:List Int),false,true,true,true,(0:Int),(1000000000000000:Int),(1:Int),(1000000000000:Int)⟩:zM),(⟨([102,114,101,101]:List Int),false,true,false,false,(0:Int),(1000000000000000:Int),(0:Int),(0:Int)⟩:zM)]:List zM)).length)) an) ?_
 refine rt ?_
 cases h
 exact ⟨.inr rfl,Nat.le_of_ble_eq_true rfl,by kernel_rfl⟩

theorem zFm (k_1:Int) (r:zM×Bool) (h:pD k_1=some r):zV prog 84 [] [] [Ii k_1] [] (.tuple [wA r.1,.bool r.2]):=by
 refine yM (fn:=Go.Proofs.Try.f84) (code:=x4 Go.Proofs.Try.f84) (by kernel_rfl) (by kernel_rfl) (Nat.le_of_ble_eq_true (by kernel_rfl)) ?_
 unfold pD at h
 refine sr [(0,{ id:=0 })] [0,2] [0] 1 [Ii k_1,Pp 0] [Vb 127 [.str ([]:List Int),.bool false,.bool false,.bool false,.bool false,Ii 0,Ii 0,Ii 0,Ii 0]] zG an ?_
 refine sq ?_
 obtain ⟨r_1,h_1,h⟩:=bind_some h
 refine rg [(0,{ av:=.own 0 ((r_1).length),ids:=[1],l:=[],post:=[(.row 127 9 (Mp wA r_1))] })] [0,2,4] [0,1] 2 [Ii k_1,Pp 0,.own 1 ((r_1).length)] [Vb 127 [.str ([]:List Int),.bool false,.bool false,.bool false,.bool false,Ii 0,Ii 0,Ii 0,Ii 0],Rb 127 9 (Mp wA r_1)] zG (ar ([]:List AV) (ac (rfl:([]:List zN)=[]) (ac (zGb r_1 h_1:zV prog 89 [] [] [] [(.row 127 9 (Mp wA r_1))] (.own 0 ((r_1).length))) an))) ?_
 refine sq ?_
 refine sq ?_
 refine wI (mk [(0,Ii k_1),(2,Pp 0),(4,.own 1 ((r_1).length)),(13,.bool (decide (k_1<(1:Int))||decide (k_1≥(lN (r_1)))))] [(0,Vb 127 [.str ([]:List Int),.bool false,.bool false,.bool false,.bool false,Ii 0,Ii 0,Ii 0,Ii 0]),(1,Rb 127 9 (Mp wA r_1))] 2) ?_ ?_
 ·rcases bft (decide (k_1<(1:Int))) with zK | zK
  ·refine rg [(3,Hg),(4,Hg),(5,Hg),(6,Hg),(7,Ht)] [0,2,4,13] [0,1] 2 [Ii k_1,Pp 0,.own 1 ((r_1).length),.bool true] [Vb 127 [.str ([]:List Int),.bool false,.bool false,.bool false,.bool false,Ii 0,Ii 0,Ii 0,Ii 0],Rb 127 9 (Mp wA r_1)] zG (ac zK (ac zK (ac zK (ac zK (ac zK an))))) ?_
   exact ⟨rfl,(sw [0,1] [] [.s 0,.s 2,.s 4,.a 13 (.bool (decide (k_1<(1:Int))||decide (k_1≥(lN (r_1)))))] [.s 0,.s 1] (ac (congrArg AV.bool (ort zK):(.bool true:AV)=.bool (decide (k_1<(1:Int))||decide (k_1≥(lN (r_1))))) an))⟩
  ·refine rg [(7,Hf)] [0,2,4,13] [0,1] 2 [Ii k_1,Pp 0,.own 1 ((r_1).length),.bool (decide (k_1≥(lN (r_1))))] [Vb 127 [.str ([]:List Int),.bool false,.bool false,.bool false,.bool false,Ii 0,Ii 0,Ii 0,Ii 0],Rb 127 9 (Mp wA r_1)] zG (ac zK (ac zK (ac zK (ac zK (ac zK an))))) ?_
   exact ⟨rfl,(sw [0,1] [] [.s 0,.s 2,.s 4,.a 13 (.bool (decide (k_1<(1:Int))||decide (k_1≥(lN (r_1)))))] [.s 0,.s 1] (ac (congrArg AV.bool (orf zK rfl):(.bool (decide (k_1≥(lN (r_1)))):AV)=.bool (decide (k_1<(1:Int))||decide (k_1≥(lN (r_1))))) an))⟩
 refine cd 13 (decide (k_1<(1:Int))||decide (k_1≥(lN (r_1)))) ?_ ?_
 ·intro g_1;replace h:=zS g_1 h
  refine sr [] [2,3] [0] 2 [Pp 0,.bool false] [Vb 127 [.str ([]:List Int),.bool false,.bool false,.bool false,.bool false,Ii 0,Ii 0,Ii 0,Ii 0]] zG an ?_
  refine wk [0] [] [.s 2,.s 3] [.a 0 (Vb 127 (yI (⟨([]:List Int),false,false,false,false,(0:Int),(0:Int),(0:Int),(0:Int)⟩:zM)))] [(2,Pp 0),(3,.bool false)] [(0,Vb 127 (yI (⟨([]:List Int),false,false,false,false,(0:Int),(0:Int),(0:Int),(0:Int)⟩:zM)))] (ar 127 (ac (rfl:uO [.str ((⟨([]:List Int),false,false,false,false,(0:Int),(0:Int),(0:Int),(0:Int)⟩:zM).word),.bool ((⟨([]:List Int),false,false,false,false,(0:Int),(0:Int),(0:Int),(0:Int)⟩:zM).name),.bool ((⟨([]:List Int),false,false,false,false,(0:Int),(0:Int),(0:Int),(0:Int)⟩:zM).n),.bool ((⟨([]:List Int),false,false,false,false,(0:Int),(0:Int),(0:Int),(0:Int)⟩:zM).m),.bool ((⟨([]:List Int),false,false,false,false,(0:Int),(0:Int),(0:Int),(0:Int)⟩:zM).stack),Ii ((⟨([]:List Int),false,false,false,false,(0:Int),(0:Int),(0:Int),(0:Int)⟩:zM).least),Ii ((⟨([]:List Int),false,false,false,false,(0:Int),(0:Int),(0:Int),(0:Int)⟩:zM).most),Ii ((⟨([]:List Int),false,false,false,false,(0:Int),(0:Int),(0:Int),(0:Int)⟩:zM).mLeast),Ii ((⟨([]:List Int),false,false,false,false,(0:Int),(0:Int),(0:Int),(0:Int)⟩:zM).mMost)]=true) (ac (rfl:(.str ([]:List Int):AV)=.str ((⟨([]:List Int),false,false,false,false,(0:Int),(0:Int),(0:Int),(0:Int)⟩:zM).word)) (ac (rfl:(.bool false:AV)=.bool ((⟨([]:List Int),false,false,false,false,(0:Int),(0:Int),(0:Int),(0:Int)⟩:zM).name)) (ac (rfl:(.bool false:AV)=.bool ((⟨([]:List Int),false,false,false,false,(0:Int),(0:Int),(0:Int),(0:Int)⟩:zM).n)) (ac (rfl:(.bool false:AV)=.bool ((⟨([]:List Int),false,false,false,false,(0:Int),(0:Int),(0:Int),(0:Int)⟩:zM).m)) (ac (rfl:(.bool false:AV)=.bool ((⟨([]:List Int),false,false,false,false,(0:Int),(0:Int),(0:Int),(0:Int)⟩:zM).stack)) (ac (rfl:(Ii 0:AV)=Ii ((⟨([]:List Int),false,false,false,false,(0:Int),(0:Int),(0:Int),(0:Int)⟩:zM).least)) (ac (rfl:(Ii 0:AV)=Ii ((⟨([]:List Int),false,false,false,false,(0:Int),(0:Int),(0:Int),(0:Int)⟩:zM).most)) (ac (rfl:(Ii 0:AV)=Ii ((⟨([]:List Int),false,false,false,false,(0:Int),(0:Int),(0:Int),(0:Int)⟩:zM).mLeast)) (ac (rfl:(Ii 0:AV)=Ii ((⟨([]:List Int),false,false,false,false,(0:Int),(0:Int),(0:Int),(0:Int)⟩:zM).mMost)) an))))))))))) ?_
  refine rt ?_
  cases h
  exact ⟨.inr rfl,Nat.le_of_ble_eq_true rfl,by kernel_rfl⟩
 intro g_1;replace h:=zT g_1 h
 refine sk ?_
 refine sq ?_
 obtain ⟨x_1,h_2,h⟩:=bind_some h
 refine rg [(3,{ av:=wA x_1 })] [2,3] [0] 2 [Pp 0,.bool true] [Vb 127 (yI x_1)] zG (ac (qB h_2:(0:Int)≤k_1) (ac (by first | (simp;done) | simpa using qC h_2:k_1<(((r_1).length:Nat):Int)) (ac (jI h_2:(Mp wA r_1)[(k_1).toNat]?=some (wA x_1)) an))) ?_
 refine wk [0] [] [.s 2,.s 3] [.s 0] [(2,Pp 0),(3,.bool true)] [(0,Vb 127 (yI x_1))] an ?_
 refine rt ?_
 cases h
 exact ⟨.inr rfl,Nat.le_of_ble_eq_true rfl,by kernel_rfl⟩

theorem zFa (F:Nat) (l_1:List (List Int)) (r:Int) (h:kW F l_1=some r):zV prog 90 [] [] [.sl false 1 (Ms l_1)] [] (Ii r):=by
 refine yM (fn:=Go.Proofs.Try.f90) (code:=x4 Go.Proofs.Try.f90) (by kernel_rfl) (by kernel_rfl) (Nat.le_of_ble_eq_true (by kernel_rfl)) ?_
 unfold kW at h
 refine sr [] [0] [] 0 [.sl false 1 (Ms l_1)] [] zG an ?_
 refine sq ?_
 refine sr [(1,{ n:=(l_1).length })] [0,8] [] 0 [.sl false 1 (Ms l_1),.bool (decide ((lN (l_1))>(32:Int)))] [] zG (ac (yL _:((Ms l_1)).length=(l_1).length) an) ?_
 refine cd 8 (decide ((lN (l_1))>(32:Int))) ?_ ?_
 ·intro g_1;replace h:=zS g_1 h
  refine sr [] [2] [] 0 [Ii 7] [] zG an ?_
  refine rt ?_
  cases h
  exact ⟨.inr rfl,Nat.le_of_ble_eq_true rfl,by kernel_rfl⟩
 intro g_1;replace h:=zT g_1 h
 refine sk ?_
 refine sq ?_
 refine sr [(1,{ n:=(l_1).length })] [9,10,11] [] 0 [.sl false 1 (Ms l_1),Ii (lN (l_1)),Ii 0] [] zG (ac (yL _:((Ms l_1)).length=(l_1).length) an) ?_
 obtain ⟨o_1,h_1,h⟩:=bind_some h
 refine vV (K1:=(fun e st'=>match o_1 with | (.inl q0)=>e=.normal∧Sub 0 st' (mk [] [] 0) | (.inr q1)=>e=.ret∧q9 prog Go.Proofs.Try.f90 0 [] (Ii q1) st')) ?_ ?_
 ·replace h:=h_1
  refine yN (id:=0) (by kernel_rfl) ?_
  refine wk [] [] [.s 9,.s 10,.s 11] [] [(9,.sl false 1 (Ms l_1)),(10,Ii (lN (l_1))),(11,Ii 0)] [] an ?_
  refine wE (fun n st=>∃ (v_1:Int),st=mk [(9,.sl false 1 (Ms l_1)),(10,Ii (lN (l_1))),(11,Ii v_1)] [] 0∧q7 F l_1 n v_1=some o_1) F (by kernel_rfl) ⟨_,rfl,h⟩ ?_ ?_
  ·rintro _ ⟨_,_,h⟩;exact wO (h:(none:Option (Unit⊕Int))=some o_1)
  rintro n_1 _ ⟨v_1,rfl,h⟩
  replace h:tB F l_1 (q7 F l_1 n_1) v_1=some o_1:=h
  unfold tB at h
  refine sr [] [9,10,11,12] [] 0 [.sl false 1 (Ms l_1),Ii (lN (l_1)),Ii v_1,.bool (decide (v_1<(lN (l_1))))] [] zG an ?_
  refine sq ?_
  refine cd 12 (decide (v_1<(lN (l_1)))) ?_ ?_
  rotate_left
  ·intro g_2;replace h:=zT g_2 h
   refine wJ (id:=0) (by kernel_rfl) ?_
   cases h
   exact ⟨rfl,(sw [] [] [] [] an)⟩
  intro g_2;replace h:=zS g_2 h
  refine sk ?_
  refine sq ?_
  refine yN (id:=1) (by kernel_rfl) ?_
  refine sq ?_
  obtain ⟨x_1,h_2,h⟩:=bind_some h
  refine rg [(0,{ av:=.str x_1 })] [4,9,10,11] [] 0 [.str x_1,.sl false 1 (Ms l_1),Ii (lN (l_1)),Ii v_1] [] zG (ac (xZ h_2:wV (Ms l_1) v_1=some (.str x_1)) an) ?_
  refine sq ?_
  obtain ⟨r_1,h_3,h⟩:=bind_some h
  refine rg [(1,{ av:=Ii r_1,l:=[.str x_1] })] [5,9,10,11] [] 0 [Ii r_1,.sl false 1 (Ms l_1),Ii (lN (l_1)),Ii v_1] [] zG (ar ([.str x_1]:List AV) (ac (rfl:([]:List zN)=[]) (ac (zA5 F x_1 r_1 h_3:zV prog 64 [] [] [.str x_1] [] (Ii r_1)) an))) ?_
  refine sr [] [5,9,10,11,18] [] 0 [Ii r_1,.sl false 1 (Ms l_1),Ii (lN (l_1)),Ii v_1,.bool (r_1 != (0:Int))] [] zG an ?_
  refine cd 18 (r_1 != (0:Int)) ?_ ?_
  rotate_left
  ·intro g_3;replace h:=zT g_3 h
   refine sk ?_
   refine rg [] [9,10,11] [] 0 [.sl false 1 (Ms l_1),Ii (lN (l_1)),Ii (zJ (v_1+(1:Int)))] [] zG an ?_
   exact ⟨_,(sw [] [] [.s 9,.s 10,.s 11] [] an),_,rfl,h⟩
  intro g_3;replace h:=zS g_3 h
  refine sr [] [2] [] 0 [Ii r_1] [] zG an ?_
  refine rt ?_
  cases h
  exact ⟨rfl,Nat.le_of_ble_eq_true rfl,by kernel_rfl⟩
 intro e st1 hk
 rcases o_1 with q_1 | q_2
 rotate_left
 ·obtain ⟨rfl,hf⟩:=hk
  cases h
  exact ⟨st1,Sub.refl _ _,.inr rfl,hf⟩
 obtain ⟨rfl,hs⟩:=hk
 refine ⟨_,hs,?_⟩
 refine sr [] [2] [] 0 [Ii 0] [] zG an ?_
 refine rt ?_
 cases h
 exact ⟨.inr rfl,Nat.le_of_ble_eq_true rfl,by kernel_rfl⟩

theorem zGF (F:Nat) (f_1:zM) (e_1:zH) (r:Int) (h:nX F f_1 e_1=some r):zV prog 85 [] [] [wA f_1,zE e_1] [] (Ii r):=by
 refine yM (fn:=Go.Proofs.Try.f85) (code:=x4 Go.Proofs.Try.f85) (by kernel_rfl) (by kernel_rfl) (Nat.le_of_ble_eq_true (by kernel_rfl)) ?_
 unfold nX at h
 refine sr [(0,{ id:=0 }),(1,{ id:=1 })] [2,3] [0,1] 2 [Pp 0,Pp 1] [Vb 127 (yI f_1),Vb 42 (yA e_1)] zG an ?_
 refine sq ?_
 refine sr [] [3,6] [1] 2 [Pp 1,.bool f_1.name] [Vb 42 (yA e_1)] zG an ?_
 refine cd 6 f_1.name ?_ ?_
 ·intro g_1;replace h:=zS g_1 h
  refine sq ?_
  obtain ⟨r_1,h_1,h⟩:=bind_some h
  refine rg [(2,{ av:=Ii r_1,l:=[.str e_1.Name] })] [4] [] 2 [Ii r_1] [] zG (ar ([.str e_1.Name]:List AV) (ac (rfl:([]:List zN)=[]) (ac (zA5 F e_1.Name r_1 h_1:zV prog 64 [] [] [.str e_1.Name] [] (Ii r_1)) an))) ?_
  refine rt ?_
  cases h
  exact ⟨.inr rfl,Nat.le_of_ble_eq_true rfl,by kernel_rfl⟩
 intro g_1;replace h:=zT g_1 h
 refine sk ?_
 refine sq ?_
 obtain ⟨r_2,h_2,h⟩:=bind_some h
 refine rg [(2,{ av:=Ii r_2,l:=[.sl false 1 (Ms e_1.Stack)] })] [4] [] 2 [Ii r_2] [] zG (ar ([.sl false 1 (Ms e_1.Stack)]:List AV) (ac (rfl:([]:List zN)=[]) (ac (zFa F e_1.Stack r_2 h_2:zV prog 90 [] [] [.sl false 1 (Ms e_1.Stack)] [] (Ii r_2)) an))) ?_
 refine rt ?_
 cases h
 exact ⟨.inr rfl,Nat.le_of_ble_eq_true rfl,by kernel_rfl⟩

theorem zGE (F:Nat) (e_1:zH) (r:Int) (h:nZ F e_1=some r):zV prog 74 [] [] [zE e_1] [] (Ii r):=by
 refine yM (fn:=Go.Proofs.Try.f74) (code:=x4 Go.Proofs.Try.f74) (by kernel_rfl) (by kernel_rfl) (Nat.le_of_ble_eq_true (by kernel_rfl)) ?_
 unfold nZ at h
 refine sr [(0,{ id:=0 })] [1] [0] 1 [Pp 0] [Vb 42 (yA e_1)] zG an ?_
 refine sq ?_
 refine sq ?_
 refine wI (mk [(1,Pp 0),(13,.bool (decide (e_1.At<(0:Int))||decide (e_1.At>(1000000000000:Int))))] [(0,Vb 42 (yA e_1))] 1) ?_ ?_
 ·rcases bft (decide (e_1.At<(0:Int))) with zK | zK
  ·refine rg [(4,Hg),(5,Hg),(6,Hg),(7,Ht)] [1,13] [0] 1 [Pp 0,.bool true] [Vb 42 (yA e_1)] zG (ac zK (ac zK (ac zK (ac zK an)))) ?_
   exact ⟨rfl,(sw [0] [] [.s 1,.a 13 (.bool (decide (e_1.At<(0:Int))||decide (e_1.At>(1000000000000:Int))))] [.s 0] (ac (congrArg AV.bool (ort zK):(.bool true:AV)=.bool (decide (e_1.At<(0:Int))||decide (e_1.At>(1000000000000:Int)))) an))⟩
  ·refine rg [(7,Hf)] [1,13] [0] 1 [Pp 0,.bool (decide (e_1.At>(1000000000000:Int)))] [Vb 42 (yA e_1)] zG (ac zK (ac zK (ac zK (ac zK an)))) ?_
   exact ⟨rfl,(sw [0] [] [.s 1,.a 13 (.bool (decide (e_1.At<(0:Int))||decide (e_1.At>(1000000000000:Int))))] [.s 0] (ac (congrArg AV.bool (orf zK rfl):(.bool (decide (e_1.At>(1000000000000:Int))):AV)=.bool (decide (e_1.At<(0:Int))||decide (e_1.At>(1000000000000:Int)))) an))⟩
 refine cd 13 (decide (e_1.At<(0:Int))||decide (e_1.At>(1000000000000:Int))) ?_ ?_
 ·intro g_1;replace h:=zS g_1 h
  refine sr [] [2] [] 1 [Ii 2] [] zG an ?_
  refine rt ?_
  cases h
  exact ⟨.inr rfl,Nat.le_of_ble_eq_true rfl,by kernel_rfl⟩
 intro g_1;replace h:=zT g_1 h
 refine sk ?_
 refine sq ?_
 obtain ⟨r_1,h_1,h⟩:=bind_some h
 refine rg [(2,{ av:=.tuple [wA r_1.1,.bool r_1.2],l:=[Ii e_1.Kind] }),(6,{ id:=1 })] [1,3,4] [0,1] 2 [Pp 0,Pp 1,.bool r_1.2] [Vb 42 (yA e_1),Vb 127 (yI r_1.1)] zG (ar ([Ii e_1.Kind]:List AV) (ac (rfl:([]:List zN)=[]) (ac (zFm e_1.Kind r_1 h_1:zV prog 84 [] [] [Ii e_1.Kind] [] (.tuple [wA r_1.1,.bool r_1.2])) an))) ?_
 refine sq ?_
 refine sq ?_
 obtain ⟨p_1,h_2,h⟩:=bind_some h
 refine wI (mk [(1,Pp 0),(3,Pp 1),(62,.bool p_1)] [(0,Vb 42 (yA e_1)),(1,Vb 127 (yI r_1.1))] 2) ?_ ?_
 ·replace h:=h_2
  rcases bft (!r_1.2) with zI | zI
  ·replace h:=zS zI h
   refine rg [(3,Hg),(4,Hg),(5,Hg),(6,Hg),(10,Hg),(11,Ht),(13,Hg),(14,Hg),(15,Hg),(16,Hg),(20,Hg),(21,Ht),(23,Hg),(24,Hg),(25,Hg),(26,Hg),(30,Hg),(31,Ht),(33,Hg),(34,Hg),(35,Hg),(36,Hg),(41,Hg),(42,Ht)] [1,3,62] [0,1] 2 [Pp 0,Pp 1,.bool true] [Vb 42 (yA e_1),Vb 127 (yI r_1.1)] zG (ac zI (ac zI (ac zI (ac zI (ac zI (ac zI (ax (ax (ax (ax (ax (ar true (ax (ax (ax (ax (ax (ar true (ax (ax (ax (ax (ax (ar true an)))))))))))))))))))))))) ?_
   cases h
   exact ⟨rfl,(sw [0,1] [] [.s 1,.s 3,.s 62] [.s 0,.s 1] an)⟩
  ·replace h:=zT zI h
   rcases bft (!r_1.1.name) with zW | zW
   ·replace h:=zS zW h
    rcases bft (!(e_1.Name==([]:List Int))) with z6 | z6
    ·replace h:=zS z6 h
     refine rg [(10,Ht),(11,Hf),(13,Hg),(14,Hg),(15,Hg),(16,Hg),(20,Hg),(21,Ht),(23,Hg),(24,Hg),(25,Hg),(26,Hg),(30,Hg),(31,Ht),(33,Hg),(34,Hg),(35,Hg),(36,Hg),(41,Hg),(42,Ht)] [1,3,62] [0,1] 2 [Pp 0,Pp 1,.bool true] [Vb 42 (yA e_1),Vb 127 (yI r_1.1)] zG (ac zI (ac zI (ac zI (ac zI (ac zW (ac zW (ac zW (ac zI (ac zW (ac zI (ac z6 (ac z6 (ac z6 (ac z6 (ac z6 (ac z6 (ax (ax (ax (ax (ax (ar true (ax (ax (ax (ax (ax (ar true an)))))))))))))))))))))))))))) ?_
     cases h
     exact ⟨rfl,(sw [0,1] [] [.s 1,.s 3,.s 62] [.s 0,.s 1] an)⟩
    ·replace h:=zT z6 h
     rcases bft (!r_1.1.n) with y2 | y2
     ·replace h:=zS y2 h
      rcases bft (e_1.N != (0:Int)) with x7 | x7
      ·replace h:=zS x7 h
       refine rg [(10,Ht),(11,Hf),(20,Ht),(21,Hf),(23,Hg),(24,Hg),(25,Hg),(26,Hg),(30,Hg),(31,Ht),(33,Hg),(34,Hg),(35,Hg),(36,Hg),(41,Hg),(42,Ht)] [1,3,62] [0,1] 2 [Pp 0,Pp 1,.bool true] [Vb 42 (yA e_1),Vb 127 (yI r_1.1)] zG (ac zI (ac zI (ac zI (ac zI (ac zW (ac zW (ac zW (ac zI (ac zW (ac zI (ac z6 (ac z6 (ac z6 (ac z6 (ac y2 (ac y2 (ac y2 (ac z6 (ac y2 (ac z6 (ac x7 (ac x7 (ac x7 (ac x7 (ac x7 (ac x7 (ax (ax (ax (ax (ax (ar true an)))))))))))))))))))))))))))))))) ?_
       cases h
       exact ⟨rfl,(sw [0,1] [] [.s 1,.s 3,.s 62] [.s 0,.s 1] an)⟩
      ·replace h:=zT x7 h
       rcases bft (!r_1.1.m) with x5 | x5
       ·replace h:=zS x5 h
        rcases bft (e_1.M != (0:Int)) with x3 | x3
        ·replace h:=zS x3 h
         refine rg [(10,Ht),(11,Hf),(20,Ht),(21,Hf),(30,Ht),(31,Hf),(33,Hg),(34,Hg),(35,Hg),(36,Hg),(41,Hg),(42,Ht)] [1,3,62] [0,1] 2 [Pp 0,Pp 1,.bool true] [Vb 42 (yA e_1),Vb 127 (yI r_1.1)] zG (ac zI (ac zI (ac zI (ac zI (ac zW (ac zW (ac zW (ac zI (ac zW (ac zI (ac z6 (ac z6 (ac z6 (ac z6 (ac y2 (ac y2 (ac y2 (ac z6 (ac y2 (ac z6 (ac x7 (ac x7 (ac x7 (ac x7 (ac x5 (ac x5 (ac x5 (ac x7 (ac x5 (ac x7 (ac x3 (ac x3 (ac x3 (ac x3 (ac x3 (ac x3 an)))))))))))))))))))))))))))))))))))) ?_
         cases h
         exact ⟨rfl,(sw [0,1] [] [.s 1,.s 3,.s 62] [.s 0,.s 1] an)⟩
        ·replace h:=zT x3 h
         rcases bft (!r_1.1.stack) with wF | wF
         ·replace h:=zS wF h
          refine rg [(10,Ht),(11,Hf),(20,Ht),(21,Hf),(30,Ht),(31,Hf),(39,{ n:=(e_1.Stack).length }),(41,Ht),(42,Hf)] [1,3,62] [0,1] 2 [Pp 0,Pp 1,.bool (decide ((lN (e_1.Stack))>(0:Int)))] [Vb 42 (yA e_1),Vb 127 (yI r_1.1)] zG (ac zI (ac zI (ac zI (ac zI (ac zW (ac zW (ac zW (ac zI (ac zW (ac zI (ac z6 (ac z6 (ac z6 (ac z6 (ac y2 (ac y2 (ac y2 (ac z6 (ac y2 (ac z6 (ac x7 (ac x7 (ac x7 (ac x7 (ac x5 (ac x5 (ac x5 (ac x7 (ac x5 (ac x7 (ac x3 (ac x3 (ac x3 (ac x3 (ac wF (ac wF (ac wF (ac (yL _:((Ms e_1.Stack)).length=(e_1.Stack).length) (ac wF (ac x3 (ac wF (ac x3 an)))))))))))))))))))))))))))))))))))))))))) ?_
          cases h
          exact ⟨rfl,(sw [0,1] [] [.s 1,.s 3,.s 62] [.s 0,.s 1] an)⟩
         ·replace h:=zT wF h
          refine rg [(10,Ht),(11,Hf),(20,Ht),(21,Hf),(30,Ht),(31,Hf),(37,Hg),(38,Hg),(39,Hg),(40,Hg),(41,Hf),(42,Hf)] [1,3,62] [0,1] 2 [Pp 0,Pp 1,.bool false] [Vb 42 (yA e_1),Vb 127 (yI r_1.1)] zG (ac zI (ac zI (ac zI (ac zI (ac zW (ac zW (ac zW (ac zI (ac zW (ac zI (ac z6 (ac z6 (ac z6 (ac z6 (ac y2 (ac y2 (ac y2 (ac z6 (ac y2 (ac z6 (ac x7 (ac x7 (ac x7 (ac x7 (ac x5 (ac x5 (ac x5 (ac x7 (ac x5 (ac x7 (ac x3 (ac x3 (ac x3 (ac x3 (ac wF (ac wF (ac wF (ac wF (ac x3 (ac wF (ac x3 an))))))))))))))))))))))))))))))))))))))))) ?_
          cases h
          exact ⟨rfl,(sw [0,1] [] [.s 1,.s 3,.s 62] [.s 0,.s 1] an)⟩
       ·replace h:=zT x5 h
        rcases bft (!r_1.1.stack) with y9 | y9
        ·replace h:=zS y9 h
         refine rg [(10,Ht),(11,Hf),(20,Ht),(21,Hf),(27,Hg),(28,Hg),(29,Hg),(30,Hf),(31,Hf),(39,{ n:=(e_1.Stack).length }),(41,Ht),(42,Hf)] [1,3,62] [0,1] 2 [Pp 0,Pp 1,.bool (decide ((lN (e_1.Stack))>(0:Int)))] [Vb 42 (yA e_1),Vb 127 (yI r_1.1)] zG (ac zI (ac zI (ac zI (ac zI (ac zW (ac zW (ac zW (ac zI (ac zW (ac zI (ac z6 (ac z6 (ac z6 (ac z6 (ac y2 (ac y2 (ac y2 (ac z6 (ac y2 (ac z6 (ac x7 (ac x7 (ac x7 (ac x7 (ac x5 (ac x5 (ac x5 (ac x7 (ac x5 (ac x7 (ar false (ar false (ar false (ar false (ac y9 (ac y9 (ac y9 (ac (yL _:((Ms e_1.Stack)).length=(e_1.Stack).length) (ac y9 (ar false (ac y9 (ar false an)))))))))))))))))))))))))))))))))))))))))) ?_
         cases h
         exact ⟨rfl,(sw [0,1] [] [.s 1,.s 3,.s 62] [.s 0,.s 1] an)⟩
        ·replace h:=zT y9 h
         refine rg [(10,Ht),(11,Hf),(20,Ht),(21,Hf),(27,Hg),(28,Hg),(29,Hg),(30,Hf),(31,Hf),(37,Hg),(38,Hg),(39,Hg),(40,Hg),(41,Hf),(42,Hf)] [1,3,62] [0,1] 2 [Pp 0,Pp 1,.bool false] [Vb 42 (yA e_1),Vb 127 (yI r_1.1)] zG (ac zI (ac zI (ac zI (ac zI (ac zW (ac zW (ac zW (ac zI (ac zW (ac zI (ac z6 (ac z6 (ac z6 (ac z6 (ac y2 (ac y2 (ac y2 (ac z6 (ac y2 (ac z6 (ac x7 (ac x7 (ac x7 (ac x7 (ac x5 (ac x5 (ac x5 (ac x7 (ac x5 (ac x7 (ar false (ar false (ar false (ar false (ac y9 (ac y9 (ac y9 (ac y9 (ar false (ac y9 (ar false an))))))))))))))))))))))))))))))))))))))))) ?_
         cases h
         exact ⟨rfl,(sw [0,1] [] [.s 1,.s 3,.s 62] [.s 0,.s 1] an)⟩
     ·replace h:=zT y2 h
      rcases bft (!r_1.1.m) with wH | wH
      ·replace h:=zS wH h
       rcases bft (e_1.M != (0:Int)) with wS | wS
       ·replace h:=zS wS h
        refine rg [(10,Ht),(11,Hf),(17,Hg),(18,Hg),(19,Hg),(20,Hf),(21,Hf),(30,Ht),(31,Hf),(33,Hg),(34,Hg),(35,Hg),(36,Hg),(41,Hg),(42,Ht)] [1,3,62] [0,1] 2 [Pp 0,Pp 1,.bool true] [Vb 42 (yA e_1),Vb 127 (yI r_1.1)] zG (ac zI (ac zI (ac zI (ac zI (ac zW (ac zW (ac zW (ac zI (ac zW (ac zI (ac z6 (ac z6 (ac z6 (ac z6 (ac y2 (ac y2 (ac y2 (ac z6 (ac y2 (ac z6 (ar false (ar false (ar false (ar false (ac wH (ac wH (ac wH (ar false (ac wH (ar false (ac wS (ac wS (ac wS (ac wS (ac wS (ac wS an)))))))))))))))))))))))))))))))))))) ?_
        cases h
        exact ⟨rfl,(sw [0,1] [] [.s 1,.s 3,.s 62] [.s 0,.s 1] an)⟩
       ·replace h:=zT wS h
        rcases bft (!r_1.1.stack) with uW | uW
        ·replace h:=zS uW h
         refine rg [(10,Ht),(11,Hf),(17,Hg),(18,Hg),(19,Hg),(20,Hf),(21,Hf),(30,Ht),(31,Hf),(39,{ n:=(e_1.Stack).length }),(41,Ht),(42,Hf)] [1,3,62] [0,1] 2 [Pp 0,Pp 1,.bool (decide ((lN (e_1.Stack))>(0:Int)))] [Vb 42 (yA e_1),Vb 127 (yI r_1.1)] zG (ac zI (ac zI (ac zI (ac zI (ac zW (ac zW (ac zW (ac zI (ac zW (ac zI (ac z6 (ac z6 (ac z6 (ac z6 (ac y2 (ac y2 (ac y2 (ac z6 (ac y2 (ac z6 (ar false (ar false (ar false (ar false (ac wH (ac wH (ac wH (ar false (ac wH (ar false (ac wS (ac wS (ac wS (ac wS (ac uW (ac uW (ac uW (ac (yL _:((Ms e_1.Stack)).length=(e_1.Stack).length) (ac uW (ac wS (ac uW (ac wS an)))))))))))))))))))))))))))))))))))))))))) ?_
         cases h
         exact ⟨rfl,(sw [0,1] [] [.s 1,.s 3,.s 62] [.s 0,.s 1] an)⟩
        ·replace h:=zT uW h
         refine rg [(10,Ht),(11,Hf),(17,Hg),(18,Hg),(19,Hg),(20,Hf),(21,Hf),(30,Ht),(31,Hf),(37,Hg),(38,Hg),(39,Hg),(40,Hg),(41,Hf),(42,Hf)] [1,3,62] [0,1] 2 [Pp 0,Pp 1,.bool false] [Vb 42 (yA e_1),Vb 127 (yI r_1.1)] zG (ac zI (ac zI (ac zI (ac zI (ac zW (ac zW (ac zW (ac zI (ac zW (ac zI (ac z6 (ac z6 (ac z6 (ac z6 (ac y2 (ac y2 (ac y2 (ac z6 (ac y2 (ac z6 (ar false (ar false (ar false (ar false (ac wH (ac wH (ac wH (ar false (ac wH (ar false (ac wS (ac wS (ac wS (ac wS (ac uW (ac uW (ac uW (ac uW (ac wS (ac uW (ac wS an))))))))))))))))))))))))))))))))))))))))) ?_
         cases h
         exact ⟨rfl,(sw [0,1] [] [.s 1,.s 3,.s 62] [.s 0,.s 1] an)⟩
      ·replace h:=zT wH h
       rcases bft (!r_1.1.stack) with u3 | u3
       ·replace h:=zS u3 h
        refine rg [(10,Ht),(11,Hf),(17,Hg),(18,Hg),(19,Hg),(20,Hf),(21,Hf),(27,Hg),(28,Hg),(29,Hg),(30,Hf),(31,Hf),(39,{ n:=(e_1.Stack).length }),(41,Ht),(42,Hf)] [1,3,62] [0,1] 2 [Pp 0,Pp 1,.bool (decide ((lN (e_1.Stack))>(0:Int)))] [Vb 42 (yA e_1),Vb 127 (yI r_1.1)] zG (ac zI (ac zI (ac zI (ac zI (ac zW (ac zW (ac zW (ac zI (ac zW (ac zI (ac z6 (ac z6 (ac z6 (ac z6 (ac y2 (ac y2 (ac y2 (ac z6 (ac y2 (ac z6 (ar false (ar false (ar false (ar false (ac wH (ac wH (ac wH (ar false (ac wH (ar false (ar false (ar false (ar false (ar false (ac u3 (ac u3 (ac u3 (ac (yL _:((Ms e_1.Stack)).length=(e_1.Stack).length) (ac u3 (ar false (ac u3 (ar false an)))))))))))))))))))))))))))))))))))))))))) ?_
        cases h
        exact ⟨rfl,(sw [0,1] [] [.s 1,.s 3,.s 62] [.s 0,.s 1] an)⟩
       ·replace h:=zT u3 h
        refine rg [(10,Ht),(11,Hf),(17,Hg),(18,Hg),(19,Hg),(20,Hf),(21,Hf),(27,Hg),(28,Hg),(29,Hg),(30,Hf),(31,Hf),(37,Hg),(38,Hg),(39,Hg),(40,Hg),(41,Hf),(42,Hf)] [1,3,62] [0,1] 2 [Pp 0,Pp 1,.bool false] [Vb 42 (yA e_1),Vb 127 (yI r_1.1)] zG (ac zI (ac zI (ac zI (ac zI (ac zW (ac zW (ac zW (ac zI (ac zW (ac zI (ac z6 (ac z6 (ac z6 (ac z6 (ac y2 (ac y2 (ac y2 (ac z6 (ac y2 (ac z6 (ar false (ar false (ar false (ar false (ac wH (ac wH (ac wH (ar false (ac wH (ar false (ar false (ar false (ar false (ar false (ac u3 (ac u3 (ac u3 (ac u3 (ar false (ac u3 (ar false an))))))))))))))))))))))))))))))))))))))))) ?_
        cases h
        exact ⟨rfl,(sw [0,1] [] [.s 1,.s 3,.s 62] [.s 0,.s 1] an)⟩
   ·replace h:=zT zW h
    rcases bft (!r_1.1.n) with wN | wN
    ·replace h:=zS wN h
     rcases bft (e_1.N != (0:Int)) with vA | vA
     ·replace h:=zS vA h
      refine rg [(7,Hg),(8,Hg),(9,Hg),(10,Hf),(11,Hf),(20,Ht),(21,Hf),(23,Hg),(24,Hg),(25,Hg),(26,Hg),(30,Hg),(31,Ht),(33,Hg),(34,Hg),(35,Hg),(36,Hg),(41,Hg),(42,Ht)] [1,3,62] [0,1] 2 [Pp 0,Pp 1,.bool true] [Vb 42 (yA e_1),Vb 127 (yI r_1.1)] zG (ac zI (ac zI (ac zI (ac zI (ac zW (ac zW (ac zW (ac zI (ac zW (ac zI (ar false (ar false (ar false (ar false (ac wN (ac wN (ac wN (ar false (ac wN (ar false (ac vA (ac vA (ac vA (ac vA (ac vA (ac vA (ax (ax (ax (ax (ax (ar true an)))))))))))))))))))))))))))))))) ?_
      cases h
      exact ⟨rfl,(sw [0,1] [] [.s 1,.s 3,.s 62] [.s 0,.s 1] an)⟩
     ·replace h:=zT vA h
      rcases bft (!r_1.1.m) with tK | tK
      ·replace h:=zS tK h
       rcases bft (e_1.M != (0:Int)) with tY | tY
       ·replace h:=zS tY h
        refine rg [(7,Hg),(8,Hg),(9,Hg),(10,Hf),(11,Hf),(20,Ht),(21,Hf),(30,Ht),(31,Hf),(33,Hg),(34,Hg),(35,Hg),(36,Hg),(41,Hg),(42,Ht)] [1,3,62] [0,1] 2 [Pp 0,Pp 1,.bool true] [Vb 42 (yA e_1),Vb 127 (yI r_1.1)] zG (ac zI (ac zI (ac zI (ac zI (ac zW (ac zW (ac zW (ac zI (ac zW (ac zI (ar false (ar false (ar false (ar false (ac wN (ac wN (ac wN (ar false (ac wN (ar false (ac vA (ac vA (ac vA (ac vA (ac tK (ac tK (ac tK (ac vA (ac tK (ac vA (ac tY (ac tY (ac tY (ac tY (ac tY (ac tY an)))))))))))))))))))))))))))))))))))) ?_
        cases h
        exact ⟨rfl,(sw [0,1] [] [.s 1,.s 3,.s 62] [.s 0,.s 1] an)⟩
       ·replace h:=zT tY h
        rcases bft (!r_1.1.stack) with nI | nI
        ·replace h:=zS nI h
         refine rg [(7,Hg),(8,Hg),(9,Hg),(10,Hf),(11,Hf),(20,Ht),(21,Hf),(30,Ht),(31,Hf),(39,{ n:=(e_1.Stack).length }),(41,Ht),(42,Hf)] [1,3,62] [0,1] 2 [Pp 0,Pp 1,.bool (decide ((lN (e_1.Stack))>(0:Int)))] [Vb 42 (yA e_1),Vb 127 (yI r_1.1)] zG (ac zI (ac zI (ac zI (ac zI (ac zW (ac zW (ac zW (ac zI (ac zW (ac zI (ar false (ar false (ar false (ar false (ac wN (ac wN (ac wN (ar false (ac wN (ar false (ac vA (ac vA (ac vA (ac vA (ac tK (ac tK (ac tK (ac vA (ac tK (ac vA (ac tY (ac tY (ac tY (ac tY (ac nI (ac nI (ac nI (ac (yL _:((Ms e_1.Stack)).length=(e_1.Stack).length) (ac nI (ac tY (ac nI (ac tY an)))))))))))))))))))))))))))))))))))))))))) ?_
         cases h
         exact ⟨rfl,(sw [0,1] [] [.s 1,.s 3,.s 62] [.s 0,.s 1] an)⟩
        ·replace h:=zT nI h
         refine rg [(7,Hg),(8,Hg),(9,Hg),(10,Hf),(11,Hf),(20,Ht),(21,Hf),(30,Ht),(31,Hf),(37,Hg),(38,Hg),(39,Hg),(40,Hg),(41,Hf),(42,Hf)] [1,3,62] [0,1] 2 [Pp 0,Pp 1,.bool false] [Vb 42 (yA e_1),Vb 127 (yI r_1.1)] zG (ac zI (ac zI (ac zI (ac zI (ac zW (ac zW (ac zW (ac zI (ac zW (ac zI (ar false (ar false (ar false (ar false (ac wN (ac wN (ac wN (ar false (ac wN (ar false (ac vA (ac vA (ac vA (ac vA (ac tK (ac tK (ac tK (ac vA (ac tK (ac vA (ac tY (ac tY (ac tY (ac tY (ac nI (ac nI (ac nI (ac nI (ac tY (ac nI (ac tY an))))))))))))))))))))))))))))))))))))))))) ?_
         cases h
         exact ⟨rfl,(sw [0,1] [] [.s 1,.s 3,.s 62] [.s 0,.s 1] an)⟩
      ·replace h:=zT tK h
       rcases bft (!r_1.1.stack) with nJ | nJ
       ·replace h:=zS nJ h
        refine rg [(7,Hg),(8,Hg),(9,Hg),(10,Hf),(11,Hf),(20,Ht),(21,Hf),(27,Hg),(28,Hg),(29,Hg),(30,Hf),(31,Hf),(39,{ n:=(e_1.Stack).length }),(41,Ht),(42,Hf)] [1,3,62] [0,1] 2 [Pp 0,Pp 1,.bool (decide ((lN (e_1.Stack))>(0:Int)))] [Vb 42 (yA e_1),Vb 127 (yI r_1.1)] zG (ac zI (ac zI (ac zI (ac zI (ac zW (ac zW (ac zW (ac zI (ac zW (ac zI (ar false (ar false (ar false (ar false (ac wN (ac wN (ac wN (ar false (ac wN (ar false (ac vA (ac vA (ac vA (ac vA (ac tK (ac tK (ac tK (ac vA (ac tK (ac vA (ar false (ar false (ar false (ar false (ac nJ (ac nJ (ac nJ (ac (yL _:((Ms e_1.Stack)).length=(e_1.Stack).length) (ac nJ (ar false (ac nJ (ar false an)))))))))))))))))))))))))))))))))))))))))) ?_
        cases h
        exact ⟨rfl,(sw [0,1] [] [.s 1,.s 3,.s 62] [.s 0,.s 1] an)⟩
       ·replace h:=zT nJ h
        refine rg [(7,Hg),(8,Hg),(9,Hg),(10,Hf),(11,Hf),(20,Ht),(21,Hf),(27,Hg),(28,Hg),(29,Hg),(30,Hf),(31,Hf),(37,Hg),(38,Hg),(39,Hg),(40,Hg),(41,Hf),(42,Hf)] [1,3,62] [0,1] 2 [Pp 0,Pp 1,.bool false] [Vb 42 (yA e_1),Vb 127 (yI r_1.1)] zG (ac zI (ac zI (ac zI (ac zI (ac zW (ac zW (ac zW (ac zI (ac zW (ac zI (ar false (ar false (ar false (ar false (ac wN (ac wN (ac wN (ar false (ac wN (ar false (ac vA (ac vA (ac vA (ac vA (ac tK (ac tK (ac tK (ac vA (ac tK (ac vA (ar false (ar false (ar false (ar false (ac nJ (ac nJ (ac nJ (ac nJ (ar false (ac nJ (ar false an))))))))))))))))))))))))))))))))))))))))) ?_
        cases h
        exact ⟨rfl,(sw [0,1] [] [.s 1,.s 3,.s 62] [.s 0,.s 1] an)⟩
    ·replace h:=zT wN h
     rcases bft (!r_1.1.m) with tL | tL
     ·replace h:=zS tL h
      rcases bft (e_1.M != (0:Int)) with tZ | tZ
      ·replace h:=zS tZ h
       refine rg [(7,Hg),(8,Hg),(9,Hg),(10,Hf),(11,Hf),(17,Hg),(18,Hg),(19,Hg),(20,Hf),(21,Hf),(30,Ht),(31,Hf),(33,Hg),(34,Hg),(35,Hg),(36,Hg),(41,Hg),(42,Ht)] [1,3,62] [0,1] 2 [Pp 0,Pp 1,.bool true] [Vb 42 (yA e_1),Vb 127 (yI r_1.1)] zG (ac zI (ac zI (ac zI (ac zI (ac zW (ac zW (ac zW (ac zI (ac zW (ac zI (ar false (ar false (ar false (ar false (ac wN (ac wN (ac wN (ar false (ac wN (ar false (ar false (ar false (ar false (ar false (ac tL (ac tL (ac tL (ar false (ac tL (ar false (ac tZ (ac tZ (ac tZ (ac tZ (ac tZ (ac tZ an)))))))))))))))))))))))))))))))))))) ?_
       cases h
       exact ⟨rfl,(sw [0,1] [] [.s 1,.s 3,.s 62] [.s 0,.s 1] an)⟩
      ·replace h:=zT tZ h
       rcases bft (!r_1.1.stack) with nK | nK
       ·replace h:=zS nK h
        refine rg [(7,Hg),(8,Hg),(9,Hg),(10,Hf),(11,Hf),(17,Hg),(18,Hg),(19,Hg),(20,Hf),(21,Hf),(30,Ht),(31,Hf),(39,{ n:=(e_1.Stack).length }),(41,Ht),(42,Hf)] [1,3,62] [0,1] 2 [Pp 0,Pp 1,.bool (decide ((lN (e_1.Stack))>(0:Int)))] [Vb 42 (yA e_1),Vb 127 (yI r_1.1)] zG (ac zI (ac zI (ac zI (ac zI (ac zW (ac zW (ac zW (ac zI (ac zW (ac zI (ar false (ar false (ar false (ar false (ac wN (ac wN (ac wN (ar false (ac wN (ar false (ar false (ar false (ar false (ar false (ac tL (ac tL (ac tL (ar false (ac tL (ar false (ac tZ (ac tZ (ac tZ (ac tZ (ac nK (ac nK (ac nK (ac (yL _:((Ms e_1.Stack)).length=(e_1.Stack).length) (ac nK (ac tZ (ac nK (ac tZ an)))))))))))))))))))))))))))))))))))))))))) ?_
        cases h
        exact ⟨rfl,(sw [0,1] [] [.s 1,.s 3,.s 62] [.s 0,.s 1] an)⟩
       ·replace h:=zT nK h
        refine rg [(7,Hg),(8,Hg),(9,Hg),(10,Hf),(11,Hf),(17,Hg),(18,Hg),(19,Hg),(20,Hf),(21,Hf),(30,Ht),(31,Hf),(37,Hg),(38,Hg),(39,Hg),(40,Hg),(41,Hf),(42,Hf)] [1,3,62] [0,1] 2 [Pp 0,Pp 1,.bool false] [Vb 42 (yA e_1),Vb 127 (yI r_1.1)] zG (ac zI (ac zI (ac zI (ac zI (ac zW (ac zW (ac zW (ac zI (ac zW (ac zI (ar false (ar false (ar false (ar false (ac wN (ac wN (ac wN (ar false (ac wN (ar false (ar false (ar false (ar false (ar false (ac tL (ac tL (ac tL (ar false (ac tL (ar false (ac tZ (ac tZ (ac tZ (ac tZ (ac nK (ac nK (ac nK (ac nK (ac tZ (ac nK (ac tZ an))))))))))))))))))))))))))))))))))))))))) ?_
        cases h
        exact ⟨rfl,(sw [0,1] [] [.s 1,.s 3,.s 62] [.s 0,.s 1] an)⟩
     ·replace h:=zT tL h
      rcases bft (!r_1.1.stack) with nL | nL
      ·replace h:=zS nL h
       refine rg [(7,Hg),(8,Hg),(9,Hg),(10,Hf),(11,Hf),(17,Hg),(18,Hg),(19,Hg),(20,Hf),(21,Hf),(27,Hg),(28,Hg),(29,Hg),(30,Hf),(31,Hf),(39,{ n:=(e_1.Stack).length }),(41,Ht),(42,Hf)] [1,3,62] [0,1] 2 [Pp 0,Pp 1,.bool (decide ((lN (e_1.Stack))>(0:Int)))] [Vb 42 (yA e_1),Vb 127 (yI r_1.1)] zG (ac zI (ac zI (ac zI (ac zI (ac zW (ac zW (ac zW (ac zI (ac zW (ac zI (ar false (ar false (ar false (ar false (ac wN (ac wN (ac wN (ar false (ac wN (ar false (ar false (ar false (ar false (ar false (ac tL (ac tL (ac tL (ar false (ac tL (ar false (ar false (ar false (ar false (ar false (ac nL (ac nL (ac nL (ac (yL _:((Ms e_1.Stack)).length=(e_1.Stack).length) (ac nL (ar false (ac nL (ar false an)))))))))))))))))))))))))))))))))))))))))) ?_
       cases h
       exact ⟨rfl,(sw [0,1] [] [.s 1,.s 3,.s 62] [.s 0,.s 1] an)⟩
      ·replace h:=zT nL h
       refine rg [(7,Hg),(8,Hg),(9,Hg),(10,Hf),(11,Hf),(17,Hg),(18,Hg),(19,Hg),(20,Hf),(21,Hf),(27,Hg),(28,Hg),(29,Hg),(30,Hf),(31,Hf),(37,Hg),(38,Hg),(39,Hg),(40,Hg),(41,Hf),(42,Hf)] [1,3,62] [0,1] 2 [Pp 0,Pp 1,.bool false] [Vb 42 (yA e_1),Vb 127 (yI r_1.1)] zG (ac zI (ac zI (ac zI (ac zI (ac zW (ac zW (ac zW (ac zI (ac zW (ac zI (ar false (ar false (ar false (ar false (ac wN (ac wN (ac wN (ar false (ac wN (ar false (ar false (ar false (ar false (ar false (ac tL (ac tL (ac tL (ar false (ac tL (ar false (ar false (ar false (ar false (ar false (ac nL (ac nL (ac nL (ac nL (ar false (ac nL (ar false an))))))))))))))))))))))))))))))))))))))))) ?_
       cases h
       exact ⟨rfl,(sw [0,1] [] [.s 1,.s 3,.s 62] [.s 0,.s 1] an)⟩
 refine cd 62 p_1 ?_ ?_
 ·intro g_2;replace h:=zS g_2 h
  refine sr [] [2] [] 2 [Ii 1] [] zG an ?_
  refine rt ?_
  cases h
  exact ⟨.inr rfl,Nat.le_of_ble_eq_true rfl,by kernel_rfl⟩
 intro g_2;replace h:=zT g_2 h
 refine sk ?_
 refine sq ?_
 refine sq ?_
 obtain ⟨r_2,h_3,h⟩:=bind_some h
 refine rg [(2,{ av:=Ii r_2,l:=[wA r_1.1,zE e_1] })] [1,3,5] [0,1] 2 [Pp 0,Pp 1,Ii r_2] [Vb 42 (yA e_1),Vb 127 (yI r_1.1)] zG (ar ([wA r_1.1,zE e_1]:List AV) (ac (rfl:([]:List zN)=[]) (ac (zGF F r_1.1 e_1 r_2 h_3:zV prog 85 [] [] [wA r_1.1,zE e_1] [] (Ii r_2)) an))) ?_
 refine sr [] [1,3,5,67] [0,1] 2 [Pp 0,Pp 1,Ii r_2,.bool (r_2 != (0:Int))] [Vb 42 (yA e_1),Vb 127 (yI r_1.1)] zG an ?_
 refine cd 67 (r_2 != (0:Int)) ?_ ?_
 ·intro g_3;replace h:=zS g_3 h
  refine sr [] [2] [] 2 [Ii r_2] [] zG an ?_
  refine rt ?_
  cases h
  exact ⟨.inr rfl,Nat.le_of_ble_eq_true rfl,by kernel_rfl⟩
 intro g_3;replace h:=zT g_3 h
 refine sk ?_
 refine sq ?_
 refine yN (id:=0) (by kernel_rfl) ?_
 refine sq ?_
 refine wI (mk [(1,Pp 0),(3,Pp 1),(69,.bool (r_1.1.n&&(decide (e_1.N<r_1.1.least)||decide (e_1.N>r_1.1.most))))] [(0,Vb 42 (yA e_1)),(1,Vb 127 (yI r_1.1))] 2) ?_ ?_
 ·rcases Bool.eq_false_or_eq_true r_1.1.n with uI | uI
  ·rcases bft (decide (e_1.N<r_1.1.least)) with kT | kT
   ·refine rg [(9,Hg),(10,Hg),(11,Hg),(12,Hg),(13,Hg),(14,Ht),(15,Ht)] [1,3,69] [0,1] 2 [Pp 0,Pp 1,.bool true] [Vb 42 (yA e_1),Vb 127 (yI r_1.1)] zG (ac uI (ac uI (ac uI (ac uI (ac uI (ac uI (ac kT (ac kT (ac kT (ac kT (ac kT (ac uI (ac kT (ac uI an)))))))))))))) ?_
    exact ⟨rfl,(sw [0,1] [] [.s 1,.s 3,.a 69 (.bool (r_1.1.n&&(decide (e_1.N<r_1.1.least)||decide (e_1.N>r_1.1.most))))] [.s 0,.s 1] (ac (congrArg AV.bool (tT uI (ort kT)):(.bool true:AV)=.bool (r_1.1.n&&(decide (e_1.N<r_1.1.least)||decide (e_1.N>r_1.1.most)))) an))⟩
   ·refine rg [(14,Hf),(15,Ht)] [1,3,69] [0,1] 2 [Pp 0,Pp 1,.bool (decide (e_1.N>r_1.1.most))] [Vb 42 (yA e_1),Vb 127 (yI r_1.1)] zG (ac uI (ac uI (ac uI (ac uI (ac uI (ac uI (ac kT (ac kT (ac kT (ac kT (ac kT (ac uI (ac kT (ac uI an)))))))))))))) ?_
    exact ⟨rfl,(sw [0,1] [] [.s 1,.s 3,.a 69 (.bool (r_1.1.n&&(decide (e_1.N<r_1.1.least)||decide (e_1.N>r_1.1.most))))] [.s 0,.s 1] (ac (congrArg AV.bool (tT uI (orf kT rfl)):(.bool (decide (e_1.N>r_1.1.most)):AV)=.bool (r_1.1.n&&(decide (e_1.N<r_1.1.least)||decide (e_1.N>r_1.1.most)))) an))⟩
  ·refine rg [(3,Hg),(4,Hg),(5,Hg),(6,Hg),(7,Hg),(8,Hg),(14,Hg),(15,Hf)] [1,3,69] [0,1] 2 [Pp 0,Pp 1,.bool false] [Vb 42 (yA e_1),Vb 127 (yI r_1.1)] zG (ac uI (ac uI (ac uI (ac uI (ac uI (ac uI (ac uI (ac uI an)))))))) ?_
   exact ⟨rfl,(sw [0,1] [] [.s 1,.s 3,.a 69 (.bool (r_1.1.n&&(decide (e_1.N<r_1.1.least)||decide (e_1.N>r_1.1.most))))] [.s 0,.s 1] (ac (congrArg AV.bool (zAO uI):(.bool false:AV)=.bool (r_1.1.n&&(decide (e_1.N<r_1.1.least)||decide (e_1.N>r_1.1.most)))) an))⟩
 refine cd 69 (r_1.1.n&&(decide (e_1.N<r_1.1.least)||decide (e_1.N>r_1.1.most))) ?_ ?_
 ·intro g_4;replace h:=zS g_4 h
  refine sr [] [2] [] 2 [Ii 2] [] zG an ?_
  refine rt ?_
  cases h
  exact ⟨.inr rfl,Nat.le_of_ble_eq_true rfl,by kernel_rfl⟩
 intro g_4;replace h:=zT g_4 h
 refine sq ?_
 refine wI (mk [(1,Pp 0),(3,Pp 1),(86,.bool ((e_1.Kind==(9:Int))&&((e_1.N != (2:Int))&&(e_1.M != (0:Int)))))] [(0,Vb 42 (yA e_1)),(1,Vb 127 (yI r_1.1))] 2) ?_ ?_
 ·rcases bft (e_1.Kind==(9:Int)) with j0 | j0
  ·rcases bft (e_1.N != (2:Int)) with zAJ | zAJ
   ·refine rg [(7,Ht),(12,Ht)] [1,3,86] [0,1] 2 [Pp 0,Pp 1,.bool (e_1.M != (0:Int))] [Vb 42 (yA e_1),Vb 127 (yI r_1.1)] zG (ac j0 (ac j0 (ac j0 (ac j0 (ac zAJ (ac zAJ (ac zAJ (ac zAJ an)))))))) ?_
    exact ⟨rfl,(sw [0,1] [] [.s 1,.s 3,.a 86 (.bool ((e_1.Kind==(9:Int))&&((e_1.N != (2:Int))&&(e_1.M != (0:Int)))))] [.s 0,.s 1] (ac (congrArg AV.bool (tT j0 (tT zAJ rfl)):(.bool (e_1.M != (0:Int)):AV)=.bool ((e_1.Kind==(9:Int))&&((e_1.N != (2:Int))&&(e_1.M != (0:Int))))) an))⟩
   ·refine rg [(7,Ht),(9,Hg),(10,Hg),(11,Hg),(12,Hf)] [1,3,86] [0,1] 2 [Pp 0,Pp 1,.bool false] [Vb 42 (yA e_1),Vb 127 (yI r_1.1)] zG (ac j0 (ac j0 (ac j0 (ac j0 (ac zAJ (ac zAJ (ac zAJ (ac zAJ an)))))))) ?_
    exact ⟨rfl,(sw [0,1] [] [.s 1,.s 3,.a 86 (.bool ((e_1.Kind==(9:Int))&&((e_1.N != (2:Int))&&(e_1.M != (0:Int)))))] [.s 0,.s 1] (ac (congrArg AV.bool (tT j0 (zAO zAJ)):(.bool false:AV)=.bool ((e_1.Kind==(9:Int))&&((e_1.N != (2:Int))&&(e_1.M != (0:Int))))) an))⟩
  ·refine rg [(4,Hg),(5,Hg),(6,Hg),(7,Hf),(9,Hg),(10,Hg),(11,Hg),(12,Hf)] [1,3,86] [0,1] 2 [Pp 0,Pp 1,.bool false] [Vb 42 (yA e_1),Vb 127 (yI r_1.1)] zG (ac j0 (ac j0 (ac j0 (ac j0 (ac (rfl:false=!true) (ac (rfl:false=!true) (ac (rfl:false=!true) (ar false an)))))))) ?_
   exact ⟨rfl,(sw [0,1] [] [.s 1,.s 3,.a 86 (.bool ((e_1.Kind==(9:Int))&&((e_1.N != (2:Int))&&(e_1.M != (0:Int)))))] [.s 0,.s 1] (ac (congrArg AV.bool (zAO j0):(.bool false:AV)=.bool ((e_1.Kind==(9:Int))&&((e_1.N != (2:Int))&&(e_1.M != (0:Int))))) an))⟩
 refine cd 86 ((e_1.Kind==(9:Int))&&((e_1.N != (2:Int))&&(e_1.M != (0:Int)))) ?_ ?_
 ·intro g_5;replace h:=zS g_5 h
  refine sr [] [2] [] 2 [Ii 1] [] zG an ?_
  refine rt ?_
  cases h
  exact ⟨.inr rfl,Nat.le_of_ble_eq_true rfl,by kernel_rfl⟩
 intro g_5;replace h:=zT g_5 h
 refine sq ?_
 refine wI (mk [(100,.bool (r_1.1.m&&(bif decide (e_1.M<r_1.1.mLeast) then ((e_1.Kind != (9:Int))||(e_1.N==(2:Int))) else (decide (e_1.M>r_1.1.mMost)&&((e_1.Kind != (9:Int))||(e_1.N==(2:Int)))))))] [] 0) ?_ ?_
 ·rcases Bool.eq_false_or_eq_true r_1.1.m with wB | wB
  ·rcases bft (decide (e_1.M<r_1.1.mLeast)) with vJ | vJ
   ·rcases bft (e_1.Kind != (9:Int)) with zAK | zAK
    ·refine rg [(9,Hg),(10,Hg),(11,Hg),(12,Hg),(13,Hg),(14,Ht),(15,Ht),(21,Hg),(22,Hg),(23,Hg),(24,Ht),(25,Ht)] [100] [] 2 [.bool true] [] zG (ac wB (ac wB (ac wB (ac wB (ac wB (ac wB (ac vJ (ac vJ (ac vJ (ac vJ (ac vJ (ac wB (ac vJ (ac wB (ar true (ar true (ar true (ar true (ac zAK (ac zAK (ac zAK (ar true (ac zAK (ar true an)))))))))))))))))))))))) ?_
     exact ⟨rfl,(sw [] [] [.a 100 (.bool (r_1.1.m&&(bif decide (e_1.M<r_1.1.mLeast) then ((e_1.Kind != (9:Int))||(e_1.N==(2:Int))) else (decide (e_1.M>r_1.1.mMost)&&((e_1.Kind != (9:Int))||(e_1.N==(2:Int)))))))] [] (ac (congrArg AV.bool (tT wB (ctr vJ (ort zAK))):(.bool true:AV)=.bool (r_1.1.m&&(bif decide (e_1.M<r_1.1.mLeast) then ((e_1.Kind != (9:Int))||(e_1.N==(2:Int))) else (decide (e_1.M>r_1.1.mMost)&&((e_1.Kind != (9:Int))||(e_1.N==(2:Int))))))) an))⟩
    ·refine rg [(9,Hg),(10,Hg),(11,Hg),(12,Hg),(13,Hg),(14,Ht),(15,Ht),(24,Hf),(25,Ht)] [100] [] 2 [.bool (e_1.N==(2:Int))] [] zG (ac wB (ac wB (ac wB (ac wB (ac wB (ac wB (ac vJ (ac vJ (ac vJ (ac vJ (ac vJ (ac wB (ac vJ (ac wB (ar true (ar true (ar true (ar true (ac zAK (ac zAK (ac zAK (ar true (ac zAK (ar true an)))))))))))))))))))))))) ?_
     exact ⟨rfl,(sw [] [] [.a 100 (.bool (r_1.1.m&&(bif decide (e_1.M<r_1.1.mLeast) then ((e_1.Kind != (9:Int))||(e_1.N==(2:Int))) else (decide (e_1.M>r_1.1.mMost)&&((e_1.Kind != (9:Int))||(e_1.N==(2:Int)))))))] [] (ac (congrArg AV.bool (tT wB (ctr vJ (orf zAK rfl))):(.bool (e_1.N==(2:Int)):AV)=.bool (r_1.1.m&&(bif decide (e_1.M<r_1.1.mLeast) then ((e_1.Kind != (9:Int))||(e_1.N==(2:Int))) else (decide (e_1.M>r_1.1.mMost)&&((e_1.Kind != (9:Int))||(e_1.N==(2:Int))))))) an))⟩
   ·rcases bft (decide (e_1.M>r_1.1.mMost)) with tP | tP
    ·rcases bft (e_1.Kind != (9:Int)) with zAL | zAL
     ·refine rg [(14,Hf),(15,Ht),(21,Hg),(22,Hg),(23,Hg),(24,Ht),(25,Ht)] [100] [] 2 [.bool true] [] zG (ac wB (ac wB (ac wB (ac wB (ac wB (ac wB (ac vJ (ac vJ (ac vJ (ac vJ (ac vJ (ac wB (ac vJ (ac wB (ac tP (ac tP (ac tP (ac tP (ac zAL (ac zAL (ac zAL (ac tP (ac zAL (ac tP an)))))))))))))))))))))))) ?_
      exact ⟨rfl,(sw [] [] [.a 100 (.bool (r_1.1.m&&(bif decide (e_1.M<r_1.1.mLeast) then ((e_1.Kind != (9:Int))||(e_1.N==(2:Int))) else (decide (e_1.M>r_1.1.mMost)&&((e_1.Kind != (9:Int))||(e_1.N==(2:Int)))))))] [] (ac (congrArg AV.bool (tT wB (cfr vJ (tT tP (ort zAL)))):(.bool true:AV)=.bool (r_1.1.m&&(bif decide (e_1.M<r_1.1.mLeast) then ((e_1.Kind != (9:Int))||(e_1.N==(2:Int))) else (decide (e_1.M>r_1.1.mMost)&&((e_1.Kind != (9:Int))||(e_1.N==(2:Int))))))) an))⟩
     ·refine rg [(14,Hf),(15,Ht),(24,Hf),(25,Ht)] [100] [] 2 [.bool (e_1.N==(2:Int))] [] zG (ac wB (ac wB (ac wB (ac wB (ac wB (ac wB (ac vJ (ac vJ (ac vJ (ac vJ (ac vJ (ac wB (ac vJ (ac wB (ac tP (ac tP (ac tP (ac tP (ac zAL (ac zAL (ac zAL (ac tP (ac zAL (ac tP an)))))))))))))))))))))))) ?_
      exact ⟨rfl,(sw [] [] [.a 100 (.bool (r_1.1.m&&(bif decide (e_1.M<r_1.1.mLeast) then ((e_1.Kind != (9:Int))||(e_1.N==(2:Int))) else (decide (e_1.M>r_1.1.mMost)&&((e_1.Kind != (9:Int))||(e_1.N==(2:Int)))))))] [] (ac (congrArg AV.bool (tT wB (cfr vJ (tT tP (orf zAL rfl)))):(.bool (e_1.N==(2:Int)):AV)=.bool (r_1.1.m&&(bif decide (e_1.M<r_1.1.mLeast) then ((e_1.Kind != (9:Int))||(e_1.N==(2:Int))) else (decide (e_1.M>r_1.1.mMost)&&((e_1.Kind != (9:Int))||(e_1.N==(2:Int))))))) an))⟩
    ·refine rg [(14,Hf),(15,Ht),(17,Hg),(18,Hg),(19,Hg),(20,Hg),(24,Hg),(25,Hf)] [100] [] 2 [.bool false] [] zG (ac wB (ac wB (ac wB (ac wB (ac wB (ac wB (ac vJ (ac vJ (ac vJ (ac vJ (ac vJ (ac wB (ac vJ (ac wB (ac tP (ac tP (ac tP (ac tP (ac tP (ac tP an)))))))))))))))))))) ?_
     exact ⟨rfl,(sw [] [] [.a 100 (.bool (r_1.1.m&&(bif decide (e_1.M<r_1.1.mLeast) then ((e_1.Kind != (9:Int))||(e_1.N==(2:Int))) else (decide (e_1.M>r_1.1.mMost)&&((e_1.Kind != (9:Int))||(e_1.N==(2:Int)))))))] [] (ac (congrArg AV.bool (tT wB (cfr vJ (zAO tP))):(.bool false:AV)=.bool (r_1.1.m&&(bif decide (e_1.M<r_1.1.mLeast) then ((e_1.Kind != (9:Int))||(e_1.N==(2:Int))) else (decide (e_1.M>r_1.1.mMost)&&((e_1.Kind != (9:Int))||(e_1.N==(2:Int))))))) an))⟩
  ·refine rg [(3,Hg),(4,Hg),(5,Hg),(6,Hg),(7,Hg),(8,Hg),(14,Hg),(15,Hf),(17,Hg),(18,Hg),(19,Hg),(20,Hg),(24,Hg),(25,Hf)] [100] [] 2 [.bool false] [] zG (ac wB (ac wB (ac wB (ac wB (ac wB (ac wB (ac wB (ac wB (ac (rfl:false=!true) (ac (rfl:false=!true) (ac (rfl:false=!true) (ac (rfl:false=!true) (ac (rfl:false=!true) (ar false an)))))))))))))) ?_
   exact ⟨rfl,(sw [] [] [.a 100 (.bool (r_1.1.m&&(bif decide (e_1.M<r_1.1.mLeast) then ((e_1.Kind != (9:Int))||(e_1.N==(2:Int))) else (decide (e_1.M>r_1.1.mMost)&&((e_1.Kind != (9:Int))||(e_1.N==(2:Int)))))))] [] (ac (congrArg AV.bool (zAO wB):(.bool false:AV)=.bool (r_1.1.m&&(bif decide (e_1.M<r_1.1.mLeast) then ((e_1.Kind != (9:Int))||(e_1.N==(2:Int))) else (decide (e_1.M>r_1.1.mMost)&&((e_1.Kind != (9:Int))||(e_1.N==(2:Int))))))) an))⟩
 refine cd 100 (r_1.1.m&&(bif decide (e_1.M<r_1.1.mLeast) then ((e_1.Kind != (9:Int))||(e_1.N==(2:Int))) else (decide (e_1.M>r_1.1.mMost)&&((e_1.Kind != (9:Int))||(e_1.N==(2:Int)))))) ?_ ?_
 ·intro g_6;replace h:=zS g_6 h
  refine sr [] [2] [] 0 [Ii 2] [] zG an ?_
  refine rt ?_
  cases h
  exact ⟨.inr rfl,Nat.le_of_ble_eq_true rfl,by kernel_rfl⟩
 intro g_6;replace h:=zT g_6 h
 refine sk ?_
 refine sr [] [2] [] 0 [Ii 0] [] zG an ?_
 refine rt ?_
 cases h
 exact ⟨.inr rfl,Nat.le_of_ble_eq_true rfl,by kernel_rfl⟩

theorem zEu (F:Nat) (l_1:List (zH)) (r:Int) (h:j8 F l_1=some r):zV prog 61 [] [] [.sl false 6 (Mp zE l_1)] [] (Ii r):=by
 refine yM (fn:=Go.Proofs.Try.f61) (code:=x4 Go.Proofs.Try.f61) (by kernel_rfl) (by kernel_rfl) (Nat.le_of_ble_eq_true (by kernel_rfl)) ?_
 unfold j8 at h
 refine sr [] [0] [] 0 [.sl false 6 (Mp zE l_1)] [] zG an ?_
 refine sq ?_
 refine sr [(1,{ n:=(l_1).length })] [0,6,7,8] [] 0 [.sl false 6 (Mp zE l_1),.sl false 6 (Mp zE l_1),Ii (lN (l_1)),Ii 0] [] zG (ac (yL _:((Mp zE l_1)).length=(l_1).length) an) ?_
 obtain ⟨o_1,h_1,h⟩:=bind_some h
 refine vV (K1:=(fun e st'=>match o_1 with | (.inl q0)=>e=.normal∧Sub 0 st' (mk [] [] 0) | (.inr q1)=>e=.ret∧q9 prog Go.Proofs.Try.f61 0 [] (Ii q1) st')) ?_ ?_
 ·replace h:=h_1
  refine yN (id:=0) (by kernel_rfl) ?_
  refine wk [] [] [.s 0,.s 6,.s 7,.s 8] [] [(0,.sl false 6 (Mp zE l_1)),(6,.sl false 6 (Mp zE l_1)),(7,Ii (lN (l_1))),(8,Ii 0)] [] an ?_
  refine wE (fun n st=>∃ (v_1:Int),st=mk [(0,.sl false 6 (Mp zE l_1)),(6,.sl false 6 (Mp zE l_1)),(7,Ii (lN (l_1))),(8,Ii v_1)] [] 0∧tN F l_1 n v_1=some o_1) F (by kernel_rfl) ⟨_,rfl,h⟩ ?_ ?_
  ·rintro _ ⟨_,_,h⟩;exact wO (h:(none:Option (Unit⊕Int))=some o_1)
  rintro n_1 _ ⟨v_1,rfl,h⟩
  replace h:uY F l_1 (tN F l_1 n_1) v_1=some o_1:=h
  unfold uY at h
  refine sr [] [0,6,7,8,9] [] 0 [.sl false 6 (Mp zE l_1),.sl false 6 (Mp zE l_1),Ii (lN (l_1)),Ii v_1,.bool (decide (v_1<(lN (l_1))))] [] zG an ?_
  refine sq ?_
  refine cd 9 (decide (v_1<(lN (l_1)))) ?_ ?_
  rotate_left
  ·intro g_1;replace h:=zT g_1 h
   refine wJ (id:=0) (by kernel_rfl) ?_
   cases h
   exact ⟨rfl,(sw [] [] [] [] an)⟩
  intro g_1;replace h:=zS g_1 h
  refine sk ?_
  refine sq ?_
  refine yN (id:=1) (by kernel_rfl) ?_
  refine sq ?_
  obtain ⟨x_1,h_2,h⟩:=bind_some h
  refine rg [(1,{ av:=zE x_1 }),(3,{ id:=0 })] [0,3,4,6,7,8] [0] 1 [.sl false 6 (Mp zE l_1),Ii v_1,Pp 0,.sl false 6 (Mp zE l_1),Ii (lN (l_1)),Ii v_1] [Vb 42 (yA x_1)] zG (ac (xZ h_2:wV (Mp zE l_1) v_1=some (zE x_1)) an) ?_
  refine sq ?_
  refine sq ?_
  obtain ⟨r_1,h_3,h⟩:=bind_some h
  refine rg [(1,{ av:=Ii r_1,l:=[zE x_1] })] [0,3,4,5,6,7,8] [0] 1 [.sl false 6 (Mp zE l_1),Ii v_1,Pp 0,Ii r_1,.sl false 6 (Mp zE l_1),Ii (lN (l_1)),Ii v_1] [Vb 42 (yA x_1)] zG (ar ([zE x_1]:List AV) (ac (rfl:([]:List zN)=[]) (ac (zGE F x_1 r_1 h_3:zV prog 74 [] [] [zE x_1] [] (Ii r_1)) an))) ?_
  refine sr [] [0,3,4,5,6,7,8,16] [0] 1 [.sl false 6 (Mp zE l_1),Ii v_1,Pp 0,Ii r_1,.sl false 6 (Mp zE l_1),Ii (lN (l_1)),Ii v_1,.bool (r_1 != (0:Int))] [Vb 42 (yA x_1)] zG an ?_
  refine cd 16 (r_1 != (0:Int)) ?_ ?_
  ·intro g_2;replace h:=zS g_2 h
   refine sr [] [2] [] 1 [Ii r_1] [] zG an ?_
   refine rt ?_
   cases h
   exact ⟨rfl,Nat.le_of_ble_eq_true rfl,by kernel_rfl⟩
  intro g_2;replace h:=zT g_2 h
  refine sk ?_
  refine sq ?_
  obtain ⟨p_1,h_5,h⟩:=bind_some h
  refine wI (mk [(0,.sl false 6 (Mp zE l_1)),(6,.sl false 6 (Mp zE l_1)),(7,Ii (lN (l_1))),(8,Ii v_1),(30,.bool p_1)] [] 0) ?_ ?_
  ·replace h:=h_5
   rcases bft (decide (v_1>(0:Int))) with z6 | z6
   ·replace h:=zS z6 h
    obtain ⟨x_2,h_4,h⟩:=bind_some h
    refine rg [(8,{ av:=zE x_2 }),(12,Ht)] [0,6,7,8,21,22,23,24,25,26,27,28,29,30] [0] 1 [.sl false 6 (Mp zE l_1),.sl false 6 (Mp zE l_1),Ii (lN (l_1)),Ii v_1,Pp 0,Ii x_1.At,.sl false 6 (Mp zE l_1),Ii v_1,Ii (zJ (v_1 - (1:Int))),.ref (zE x_2),.ref (Ii x_2.At),Ii x_2.At,.bool (decide (x_1.At<x_2.At)),.bool (decide (x_1.At<x_2.At))] [Vb 42 (yA x_1)] zG (ac z6 (ac z6 (ac z6 (ac z6 (ac z6 (ac z6 (ac (xZ h_4:wV (Mp zE l_1) (zJ (v_1 - (1:Int)))=some (zE x_2)) (ac z6 (ac z6 (ac z6 (ac z6 an))))))))))) ?_
    cases h
    exact ⟨rfl,(sw [] [] [.s 0,.s 6,.s 7,.s 8,.s 30] [] an)⟩
   ·replace h:=zT z6 h
    refine rg [(3,Hg),(4,Hg),(5,Hg),(6,Hg),(7,Hg),(8,Hg),(9,Hg),(10,Hg),(11,Hg),(12,Hf)] [0,6,7,8,21,22,23,24,25,26,27,28,29,30] [] 1 [.sl false 6 (Mp zE l_1),.sl false 6 (Mp zE l_1),Ii (lN (l_1)),Ii v_1,.tuple [],.tuple [],.tuple [],.tuple [],.tuple [],.tuple [],.tuple [],.tuple [],.tuple [],.bool false] [] zG (ac z6 (ac z6 (ac z6 (ac z6 (ac z6 (ac z6 (ac z6 (ac z6 (ac z6 (ac z6 an)))))))))) ?_
    cases h
    exact ⟨rfl,(sw [] [] [.s 0,.s 6,.s 7,.s 8,.s 30] [] an)⟩
  refine cd 30 p_1 ?_ ?_
  rotate_left
  ·intro g_3;replace h:=zT g_3 h
   refine sk ?_
   refine rg [] [0,6,7,8] [] 0 [.sl false 6 (Mp zE l_1),.sl false 6 (Mp zE l_1),Ii (lN (l_1)),Ii (zJ (v_1+(1:Int)))] [] zG an ?_
   exact ⟨_,(sw [] [] [.s 0,.s 6,.s 7,.s 8] [] an),_,rfl,h⟩
  intro g_3;replace h:=zS g_3 h
  refine sr [] [2] [] 0 [Ii 11] [] zG an ?_
  refine rt ?_
  cases h
  exact ⟨rfl,Nat.le_of_ble_eq_true rfl,by kernel_rfl⟩
 intro e st1 hk
 rcases o_1 with q_1 | q_2
 rotate_left
 ·obtain ⟨rfl,hf⟩:=hk
  cases h
  exact ⟨st1,Sub.refl _ _,.inr rfl,hf⟩
 obtain ⟨rfl,hs⟩:=hk
 refine ⟨_,hs,?_⟩
 refine sr [] [2] [] 0 [Ii 0] [] zG an ?_
 refine rt ?_
 cases h
 exact ⟨.inr rfl,Nat.le_of_ble_eq_true rfl,by kernel_rfl⟩

theorem zFO (F:Nat) (p_1:zB) (r:Int) (h:pK F p_1=some r):zV prog 43 [] [] [zA p_1] [] (Ii r):=by
 refine yM (fn:=Go.Proofs.Try.f43) (code:=x4 Go.Proofs.Try.f43) (by kernel_rfl) (by kernel_rfl) (Nat.le_of_ble_eq_true (by kernel_rfl)) ?_
 unfold pK at h
 refine sr [(0,{ id:=0 })] [1] [0] 1 [Pp 0] [Vb 59 (zZ p_1)] zG an ?_
 refine sq ?_
 refine sr [(6,{ id:=1 })] [1,11,12,13] [0,1] 2 [Pp 0,.own 1 3,Ii ((3:Nat):Int),Ii 0] [Vb 59 (zZ p_1),Rb 3 1 (Mi ([p_1.Thread,p_1.Serial,p_1.Lost]:List Int))] zG an ?_
 obtain ⟨o_1,h_1,h⟩:=bind_some h
 refine vV (K1:=(fun e st'=>match o_1 with | (.inl q0)=>e=.normal∧Sub 0 st' (mk [(1,Pp 0)] [(0,Vb 59 (zZ p_1))] 1) | (.inr q1)=>e=.ret∧q9 prog Go.Proofs.Try.f43 0 [] (Ii q1) st')) ?_ ?_
 ·replace h:=h_1
  refine yN (id:=0) (by kernel_rfl) ?_
  refine wk [0,1] [] [.s 1,.a 11 (.own 1 ((([p_1.Thread,p_1.Serial,p_1.Lost]:List Int)).length)),.s 12,.s 13] [.s 0,.s 1] [(1,Pp 0),(11,.own 1 ((([p_1.Thread,p_1.Serial,p_1.Lost]:List Int)).length)),(12,Ii ((3:Nat):Int)),(13,Ii 0)] [(0,Vb 59 (zZ p_1)),(1,Rb 3 1 (Mi ([p_1.Thread,p_1.Serial,p_1.Lost]:List Int)))] (ac (congrArg (AV.own _) (by first | (simp;done) | (simp;omega)):(.own 1 3:AV)=.own 1 ((([p_1.Thread,p_1.Serial,p_1.Lost]:List Int)).length)) an) ?_
  refine wE (fun n st=>∃ (v_1:Int),st=mk [(1,Pp 0),(11,.own 1 ((([p_1.Thread,p_1.Serial,p_1.Lost]:List Int)).length)),(12,Ii ((3:Nat):Int)),(13,Ii v_1)] [(0,Vb 59 (zZ p_1)),(1,Rb 3 1 (Mi ([p_1.Thread,p_1.Serial,p_1.Lost]:List Int)))] 2∧jE F p_1 n v_1=some o_1) F (by kernel_rfl) ⟨_,rfl,h⟩ ?_ ?_
  ·rintro _ ⟨_,_,h⟩;exact wO (h:(none:Option (Unit⊕Int))=some o_1)
  rintro n_1 _ ⟨v_1,rfl,h⟩
  replace h:w8 F p_1 (jE F p_1 n_1) v_1=some o_1:=h
  unfold w8 at h
  refine sr [] [1,11,12,13,14] [0,1] 2 [Pp 0,.own 1 ((([p_1.Thread,p_1.Serial,p_1.Lost]:List Int)).length),Ii ((3:Nat):Int),Ii v_1,.bool (decide (v_1<((3:Nat):Int)))] [Vb 59 (zZ p_1),Rb 3 1 (Mi ([p_1.Thread,p_1.Serial,p_1.Lost]:List Int))] zG an ?_
  refine sq ?_
  refine cd 14 (decide (v_1<((3:Nat):Int))) ?_ ?_
  rotate_left
  ·intro g_1;replace h:=zT g_1 h
   refine wJ (id:=0) (by kernel_rfl) ?_
   cases h
   exact ⟨rfl,(sw [0] [] [.s 1] [.s 0] an)⟩
  intro g_1;replace h:=zS g_1 h
  refine sk ?_
  refine sq ?_
  refine yN (id:=1) (by kernel_rfl) ?_
  refine sq ?_
  obtain ⟨x_1,h_2,h⟩:=bind_some h
  refine rg [(1,{ av:=Ii x_1 })] [1,4,11,12,13] [0,1] 2 [Pp 0,Ii x_1,.own 1 ((([p_1.Thread,p_1.Serial,p_1.Lost]:List Int)).length),Ii ((3:Nat):Int),Ii v_1] [Vb 59 (zZ p_1),Rb 3 1 (Mi ([p_1.Thread,p_1.Serial,p_1.Lost]:List Int))] zG (ac (qB h_2:(0:Int)≤v_1) (ac (by first | (simp;done) | simpa using qC h_2:v_1<(((([p_1.Thread,p_1.Serial,p_1.Lost]:List Int)).length:Nat):Int)) (ac (jI h_2:(Mi ([p_1.Thread,p_1.Serial,p_1.Lost]:List Int))[(v_1).toNat]?=some (Ii x_1)) an))) ?_
  refine sq ?_
  refine wI (mk [(1,Pp 0),(11,.own 1 ((([p_1.Thread,p_1.Serial,p_1.Lost]:List Int)).length)),(12,Ii ((3:Nat):Int)),(13,Ii v_1),(22,.bool (decide (x_1<(0:Int))||decide (x_1>(1000000000000000:Int))))] [(0,Vb 59 (zZ p_1)),(1,Rb 3 1 (Mi ([p_1.Thread,p_1.Serial,p_1.Lost]:List Int)))] 2) ?_ ?_
  ·rcases bft (decide (x_1<(0:Int))) with z6 | z6
   ·refine rg [(3,Hg),(4,Hg),(5,Ht)] [1,11,12,13,20,21,22] [0,1] 2 [Pp 0,.own 1 ((([p_1.Thread,p_1.Serial,p_1.Lost]:List Int)).length),Ii ((3:Nat):Int),Ii v_1,.tuple [],.tuple [],.bool true] [Vb 59 (zZ p_1),Rb 3 1 (Mi ([p_1.Thread,p_1.Serial,p_1.Lost]:List Int))] zG (ac z6 (ac z6 (ac z6 an))) ?_
    exact ⟨rfl,(sw [0,1] [] [.s 1,.s 11,.s 12,.s 13,.a 22 (.bool (decide (x_1<(0:Int))||decide (x_1>(1000000000000000:Int))))] [.s 0,.s 1] (ac (congrArg AV.bool (ort z6):(.bool true:AV)=.bool (decide (x_1<(0:Int))||decide (x_1>(1000000000000000:Int)))) an))⟩
   ·refine rg [(5,Hf)] [1,11,12,13,20,21,22] [0,1] 2 [Pp 0,.own 1 ((([p_1.Thread,p_1.Serial,p_1.Lost]:List Int)).length),Ii ((3:Nat):Int),Ii v_1,Ii x_1,.bool (decide (x_1>(1000000000000000:Int))),.bool (decide (x_1>(1000000000000000:Int)))] [Vb 59 (zZ p_1),Rb 3 1 (Mi ([p_1.Thread,p_1.Serial,p_1.Lost]:List Int))] zG (ac z6 (ac z6 (ac z6 an))) ?_
    exact ⟨rfl,(sw [0,1] [] [.s 1,.s 11,.s 12,.s 13,.a 22 (.bool (decide (x_1<(0:Int))||decide (x_1>(1000000000000000:Int))))] [.s 0,.s 1] (ac (congrArg AV.bool (orf z6 rfl):(.bool (decide (x_1>(1000000000000000:Int))):AV)=.bool (decide (x_1<(0:Int))||decide (x_1>(1000000000000000:Int)))) an))⟩
  refine cd 22 (decide (x_1<(0:Int))||decide (x_1>(1000000000000000:Int))) ?_ ?_
  rotate_left
  ·intro g_2;replace h:=zT g_2 h
   refine sk ?_
   refine rg [] [1,11,12,13] [0,1] 2 [Pp 0,.own 1 ((([p_1.Thread,p_1.Serial,p_1.Lost]:List Int)).length),Ii ((3:Nat):Int),Ii (zJ (v_1+(1:Int)))] [Vb 59 (zZ p_1),Rb 3 1 (Mi ([p_1.Thread,p_1.Serial,p_1.Lost]:List Int))] zG an ?_
   exact ⟨_,(sw [0,1] [] [.s 1,.s 11,.s 12,.s 13] [.s 0,.s 1] an),_,rfl,h⟩
  intro g_2;replace h:=zS g_2 h
  refine sr [] [2] [] 2 [Ii 2] [] zG an ?_
  refine rt ?_
  cases h
  exact ⟨rfl,Nat.le_of_ble_eq_true rfl,by kernel_rfl⟩
 intro e st1 hk
 rcases o_1 with q_1 | q_2
 rotate_left
 ·obtain ⟨rfl,hf⟩:=hk
  cases h
  exact ⟨st1,Sub.refl _ _,.inr rfl,hf⟩
 obtain ⟨rfl,hs⟩:=hk
 refine ⟨_,hs,?_⟩
 refine sq ?_
 refine yN (id:=2) (by kernel_rfl) ?_
 refine sq ?_
 refine sr [] [1,24] [0] 1 [Pp 0,.bool (decide (p_1.Lost>p_1.Serial))] [Vb 59 (zZ p_1)] zG an ?_
 obtain ⟨o_2,h_3,h⟩:=bind_some h
 refine wI (mk [(1,Pp 0),(24,.bool o_2)] [(0,Vb 59 (zZ p_1))] 1) ?_ ?_
 ·replace h:=h_3
  refine cd 24 (decide (p_1.Lost>p_1.Serial)) ?_ ?_
  ·intro g_3;replace h:=zS g_3 h
   refine sk ?_
   cases h
   exact ⟨rfl,(sw [0] [] [.s 1,.s 24] [.s 0] an)⟩
  intro g_3;replace h:=zT g_3 h
  refine rg [(4,{ n:=(p_1.Events).length })] [1,24] [0] 1 [Pp 0,.bool (decide ((zJ (p_1.Serial+(lN (p_1.Events))))>(1000000000000000:Int)))] [Vb 59 (zZ p_1)] zG (ac (yL _:((Mp zE p_1.Events)).length=(p_1.Events).length) an) ?_
  cases h
  exact ⟨rfl,(sw [0] [] [.s 1,.s 24] [.s 0] an)⟩
 refine cd 24 o_2 ?_ ?_
 ·intro g_4;replace h:=zS g_4 h
  refine sr [] [2] [] 1 [Ii 2] [] zG an ?_
  refine rt ?_
  cases h
  exact ⟨.inr rfl,Nat.le_of_ble_eq_true rfl,by kernel_rfl⟩
 intro g_4;replace h:=zT g_4 h
 refine sr [(2,{ n:=(p_1.Events).length })] [1,37] [0] 1 [Pp 0,.bool ((lN (p_1.Events))==(0:Int))] [Vb 59 (zZ p_1)] zG (ac (yL _:((Mp zE p_1.Events)).length=(p_1.Events).length) an) ?_
 refine cd 37 ((lN (p_1.Events))==(0:Int)) ?_ ?_
 ·intro g_5;replace h:=zS g_5 h
  refine sr [] [2] [] 1 [Ii 8] [] zG an ?_
  refine rt ?_
  cases h
  exact ⟨.inr rfl,Nat.le_of_ble_eq_true rfl,by kernel_rfl⟩
 intro g_5;replace h:=zT g_5 h
 refine sr [(2,{ n:=(p_1.Events).length })] [1,42] [0] 1 [Pp 0,.bool (decide ((lN (p_1.Events))>(1000:Int)))] [Vb 59 (zZ p_1)] zG (ac (yL _:((Mp zE p_1.Events)).length=(p_1.Events).length) an) ?_
 refine cd 42 (decide ((lN (p_1.Events))>(1000:Int))) ?_ ?_
 ·intro g_6;replace h:=zS g_6 h
  refine sr [] [2] [] 1 [Ii 7] [] zG an ?_
  refine rt ?_
  cases h
  exact ⟨.inr rfl,Nat.le_of_ble_eq_true rfl,by kernel_rfl⟩
 intro g_6;replace h:=zT g_6 h
 refine sk ?_
 refine sq ?_
 obtain ⟨r_1,h_4,h⟩:=bind_some h
 refine rg [(2,{ av:=Ii r_1,l:=[.sl false 6 (Mp zE p_1.Events)] })] [2] [] 1 [Ii r_1] [] zG (ar ([.sl false 6 (Mp zE p_1.Events)]:List AV) (ac (rfl:([]:List zN)=[]) (ac (zEu F p_1.Events r_1 h_4:zV prog 61 [] [] [.sl false 6 (Mp zE p_1.Events)] [] (Ii r_1)) an))) ?_
 refine rt ?_
 cases h
 exact ⟨.inr rfl,Nat.le_of_ble_eq_true rfl,by kernel_rfl⟩

theorem zDC (t_1:y8) (p_1:zB) (r:Bool) (h:q5 t_1 p_1=some r):zV prog 51 [(.var 100 (xC t_1))] [] [Pp 0,zA p_1] [(.var 100 (xC t_1))] (.bool r):=by
 refine yM (fn:=Go.Proofs.Try.f51) (code:=x4 Go.Proofs.Try.f51) (by kernel_rfl) (by kernel_rfl) (Nat.le_of_ble_eq_true (by kernel_rfl)) ?_
 unfold q5 at h
 refine sr [(0,{ id:=1 })] [0,3] [0,1] 2 [Pp 0,Pp 1] [Vb 100 (xC t_1),Vb 59 (zZ p_1)] zG an ?_
 refine sq ?_
 obtain ⟨p_2,h_2,h⟩:=bind_some h
 refine wI (mk [(4,.bool p_2)] [(0,Vb 100 (xC t_1))] 1) ?_ ?_
 ·replace h:=h_2
  rcases bft ((zJ (p_1.Serial - p_1.Lost))==t_1.next) with zK | zK
  ·replace h:=zS zK h
   obtain ⟨x_1,h_1,h⟩:=bind_some h
   refine rg [(13,{ av:=zE x_1 }),(21,Ht)] [4] [0] 2 [.bool (decide (x_1.At≥t_1.last))] [Vb 100 (xC t_1)] zG (ac zK (ac zK (ac zK (ac (xZ h_1:wV (Mp zE p_1.Events) (0:Int)=some (zE x_1)) (ac zK (ac zK (ac zK (ac zK (ac zK (ac zK (ac zK (ac zK an)))))))))))) ?_
   cases h
   exact ⟨rfl,(sw [0] [] [.s 4] [.s 0] an)⟩
  ·replace h:=zT zK h
   refine rg [(11,Hg),(12,Hg),(13,Hg),(14,Hg),(15,Hg),(16,Hg),(17,Hg),(18,Hg),(19,Hg),(20,Hg),(21,Hf)] [4] [0] 2 [.bool false] [Vb 100 (xC t_1)] zG (ac zK (ac zK (ac zK (ac zK (ac zK (ac zK (ac zK (ac zK (ac zK (ac zK (ac zK an))))))))))) ?_
   cases h
   exact ⟨rfl,(sw [0] [] [.s 4] [.s 0] an)⟩
 refine wk [0] [] [.s 4] [.s 0] [(4,.bool p_2)] [(0,Vb 100 (xC t_1))] an ?_
 refine rt ?_
 cases h
 exact ⟨.inr rfl,Nat.le_of_ble_eq_true rfl,by kernel_rfl⟩

theorem zDG (t_1:y8) (p_1:zB) (r:y8) (h:q8 t_1 p_1=some r):zV prog 52 [(.var 100 (xC t_1))] [] [Pp 0,zA p_1] [(.var 100 (xC r))] (.tuple []):=by
 refine yM (fn:=Go.Proofs.Try.f52) (code:=x4 Go.Proofs.Try.f52) (by kernel_rfl) (by kernel_rfl) (Nat.le_of_ble_eq_true (by kernel_rfl)) ?_
 unfold q8 at h
 refine sr [(0,{ id:=1 })] [0,3] [0,1] 2 [Pp 0,Pp 1] [Vb 100 (xC t_1),Vb 59 (zZ p_1)] zG an ?_
 refine sr [(5,{ n:=(p_1.Events).length })] [0,3] [0,1] 2 [Pp 0,Pp 1] [Vb 100 [Ii (zJ (p_1.Serial+(lN (p_1.Events)))),Ii t_1.last],Vb 59 (zZ p_1)] zG (ac (yL _:((Mp zE p_1.Events)).length=(p_1.Events).length) an) ?_
 obtain ⟨x_1,h_1,h⟩:=bind_some h
 refine rg [(5,{ n:=(p_1.Events).length }),(7,{ av:=zE x_1 })] [] [0] 2 [] [Vb 100 [Ii (zJ (p_1.Serial+(lN (p_1.Events)))),Ii x_1.At]] zG (ac (yL _:((Mp zE p_1.Events)).length=(p_1.Events).length) (ac (xZ h_1:wV (Mp zE p_1.Events) (zJ ((lN (p_1.Events)) - (1:Int)))=some (zE x_1)) an)) ?_
 cases h
 exact ⟨.inl rfl,Nat.le_of_ble_eq_true rfl,by kernel_rfl⟩

theorem zHP (F:Nat) (h_1:zR) (l_1:List (zB)) (r:Int) (h:zBf F h_1 l_1=some r):zV prog 28 [] [] [xO h_1,.sl false 4 (Mp zA l_1)] [] (Ii r):=by
 refine yM (fn:=Go.Proofs.Try.f28) (code:=x4 Go.Proofs.Try.f28) (by kernel_rfl) (by kernel_rfl) (Nat.le_of_ble_eq_true (by kernel_rfl)) ?_
 unfold zBf at h
 refine sr [(0,{ id:=0 })] [1,2] [0] 1 [.sl false 4 (Mp zA l_1),Pp 0] [Vb 26 (z0 h_1)] zG an ?_
 refine sr [(0,{ id:=1,mag:=false,mks:=[.int .i64] })] [1,2,5] [0,1] 2 [.sl false 4 (Mp zA l_1),Pp 0,.mp 1] [Vb 26 (z0 h_1),.live (.map false [.int .i64] [])] zG an ?_
 refine zIV 1 2 (ag:=false) (ks:=[.int .i64]) (.pm 100) (by kernel_rfl) (by kernel_rfl) (zM6 (by kernel_rfl)) ?_
 intro b_1
 refine wk [0,2] [] [.s 1,.s 2,.s 5] [.s 0,.s 1] [(1,.sl false 4 (Mp zA l_1)),(2,Pp 0),(5,.rawm b_1)] [(0,Vb 26 (z0 h_1)),(1,.live (.fam (.cl b_1 false [.int .i64] (.pm 100) (List.map (mpE (AV.int .i64) yY) ([]:List (Int×y8))))))] an ?_
 refine sq ?_
 refine sr [(2,{ n:=(h_1.Threads).length })] [1,5,16,17,18] [1] 2 [.sl false 4 (Mp zA l_1),.rawm b_1,.sl false 3 (Mp zF h_1.Threads),Ii (lN (h_1.Threads)),Ii 0] [.live (.fam (.cl b_1 false [.int .i64] (.pm 100) (List.map (mpE (AV.int .i64) yY) ([]:List (Int×y8)))))] zG (ac (yL _:((Mp zF h_1.Threads)).length=(h_1.Threads).length) an) ?_
 obtain ⟨o_1,h_2,h⟩:=bind_some h
 refine wI (mk [(1,.sl false 4 (Mp zA l_1)),(5,.rawm b_1)] [(0,.live (.fam (.cl b_1 false [.int .i64] (.pm 100) (List.map (mpE (AV.int .i64) yY) o_1))))] 1) ?_ ?_
 ·replace h:=h_2
  refine yN (id:=0) (by kernel_rfl) ?_
  refine wk [1] [] [.s 1,.s 5,.s 16,.s 17,.s 18] [.s 0] [(1,.sl false 4 (Mp zA l_1)),(5,.rawm b_1),(16,.sl false 3 (Mp zF h_1.Threads)),(17,Ii (lN (h_1.Threads))),(18,Ii 0)] [(0,.live (.fam (.cl b_1 false [.int .i64] (.pm 100) (List.map (mpE (AV.int .i64) yY) ([]:List (Int×y8))))))] an ?_
  refine wE (fun n st=>∃ (v_1:Int),∃ (zC:List (Int×y8)),st=mk [(1,.sl false 4 (Mp zA l_1)),(5,.rawm b_1),(16,.sl false 3 (Mp zF h_1.Threads)),(17,Ii (lN (h_1.Threads))),(18,Ii v_1)] [(0,.live (.fam (.cl b_1 false [.int .i64] (.pm 100) (List.map (mpE (AV.int .i64) yY) zC))))] 1∧t3 F h_1 n v_1 zC=some o_1) F (by kernel_rfl) ⟨_,_,rfl,h⟩ ?_ ?_
  ·rintro _ ⟨_,_,_,h⟩;exact wO (h:(none:Option (List (Int×y8)))=some o_1)
  rintro n_1 _ ⟨v_1,zC,rfl,h⟩
  replace h:qN F h_1 (t3 F h_1 n_1) v_1 zC=some o_1:=h
  unfold qN at h
  refine sr [] [1,5,16,17,18,19] [0] 1 [.sl false 4 (Mp zA l_1),.rawm b_1,.sl false 3 (Mp zF h_1.Threads),Ii (lN (h_1.Threads)),Ii v_1,.bool (decide (v_1<(lN (h_1.Threads))))] [.live (.fam (.cl b_1 false [.int .i64] (.pm 100) (List.map (mpE (AV.int .i64) yY) zC)))] zG an ?_
  refine sq ?_
  refine cd 19 (decide (v_1<(lN (h_1.Threads)))) ?_ ?_
  rotate_left
  ·intro g_1;replace h:=zT g_1 h
   refine wJ (id:=0) (by kernel_rfl) ?_
   cases h
   exact ⟨rfl,(sw [0] [] [.s 1,.s 5] [.s 0] an)⟩
  intro g_1;replace h:=zS g_1 h
  refine sk ?_
  refine sq ?_
  refine yN (id:=1) (by kernel_rfl) ?_
  refine sq ?_
  obtain ⟨x_1,h_3,h⟩:=bind_some h
  refine rg [(0,{ av:=zF x_1 }),(2,{ id:=1 })] [1,5,7,16,17,18] [0,1] 2 [.sl false 4 (Mp zA l_1),.rawm b_1,Pp 1,.sl false 3 (Mp zF h_1.Threads),Ii (lN (h_1.Threads)),Ii v_1] [.live (.fam (.cl b_1 false [.int .i64] (.pm 100) (List.map (mpE (AV.int .i64) yY) zC))),Vb 66 (z5 x_1)] zG (ac (xZ h_3:wV (Mp zF h_1.Threads) v_1=some (zF x_1)) an) ?_
  obtain ⟨_,h_4,h⟩:=bind_some h;replace h_4:=vF h_4
  refine rg [(4,{ id:=2 }),(5,{ av:=(.agg [Ii 0,Ii 0]),dep:=true,es:=(List.map (mpE (AV.int .i64) yY) (uH zC x_1.Id (⟨(0:Int),(0:Int)⟩:y8))),ids:=[2],n:=0,x:=true })] [1,5,16,17,18] [0] 3 [.sl false 4 (Mp zA l_1),.rawm b_1,.sl false 3 (Mp zF h_1.Threads),Ii (lN (h_1.Threads)),Ii v_1] [.live (.fam (.cl b_1 false [.int .i64] (.pm 100) (List.map (mpE (AV.int .i64) yY) (uH zC x_1.Id (⟨(0:Int),(0:Int)⟩:y8)))))] zG (ar b_1 (ac (trivial:True) (ac (zAt:vU prog 3 false [.int .i64]) (ac (zC2 (f:=(AV.int .i64)) (g:=yY) zAn zC x_1.Id (⟨(0:Int),(0:Int)⟩:y8):zBO (List.map (mpE (AV.int .i64) yY) zC) (Ii x_1.Id) (.agg [Ii 0,Ii 0]) (List.map (mpE (AV.int .i64) yY) (uH zC x_1.Id (⟨(0:Int),(0:Int)⟩:y8)))) (ac (zGw (l:=zC) h_4:(List.map (mpE (AV.int .i64) yY) zC:List (AV×AV)).length<maxLen) (ac (rfl:(Pp 2:AV)=Pp 2) (ac (rfl:([Vb 100 [Ii 0,Ii 0]]:List zN)=[Vb 100 [Ii 0,Ii 0]]) an))))))) ?_
  refine rg [] [1,5,16,17,18] [0] 3 [.sl false 4 (Mp zA l_1),.rawm b_1,.sl false 3 (Mp zF h_1.Threads),Ii (lN (h_1.Threads)),Ii (zJ (v_1+(1:Int)))] [.live (.fam (.cl b_1 false [.int .i64] (.pm 100) (List.map (mpE (AV.int .i64) yY) (uH zC x_1.Id (⟨(0:Int),(0:Int)⟩:y8)))))] zG an ?_
  exact ⟨_,(sw [0] [] [.s 1,.s 5,.s 16,.s 17,.s 18] [.s 0] an),_,_,rfl,h⟩
 refine sr [] [1,5,8] [0] 1 [.sl false 4 (Mp zA l_1),.rawm b_1,Ii 0] [.live (.fam (.cl b_1 false [.int .i64] (.pm 100) (List.map (mpE (AV.int .i64) yY) o_1)))] zG an ?_
 refine sq ?_
 refine sr [(1,{ n:=(l_1).length })] [5,8,28,29,30] [0] 1 [.rawm b_1,Ii 0,.sl false 4 (Mp zA l_1),Ii (lN (l_1)),Ii 0] [.live (.fam (.cl b_1 false [.int .i64] (.pm 100) (List.map (mpE (AV.int .i64) yY) o_1)))] zG (ac (yL _:((Mp zA l_1)).length=(l_1).length) an) ?_
 obtain ⟨o_2,h_5,h⟩:=bind_some h
 refine vV (K1:=(fun e st'=>match o_2 with | (.inl q0)=>e=.normal∧Sub 0 st' (mk [(8,Ii q0)] [] 0) | (.inr q1)=>e=.ret∧q9 prog Go.Proofs.Try.f28 0 [] (Ii q1) st')) ?_ ?_
 ·replace h:=h_5
  refine yN (id:=2) (by kernel_rfl) ?_
  refine wk [0] [] [.s 5,.s 8,.s 28,.s 29,.s 30] [.s 0] [(5,.rawm b_1),(8,Ii 0),(28,.sl false 4 (Mp zA l_1)),(29,Ii (lN (l_1))),(30,Ii 0)] [(0,.live (.fam (.cl b_1 false [.int .i64] (.pm 100) (List.map (mpE (AV.int .i64) yY) o_1))))] an ?_
  refine wE (fun n st=>∃ (v4:Int),∃ (v_2:Int),∃ (yP:List (Int×y8)),st=mk [(5,.rawm b_1),(8,Ii v4),(28,.sl false 4 (Mp zA l_1)),(29,Ii (lN (l_1))),(30,Ii v_2)] [(0,.live (.fam (.cl b_1 false [.int .i64] (.pm 100) (List.map (mpE (AV.int .i64) yY) yP))))] 1∧t4 F l_1 n v4 v_2 yP=some o_2) F (by kernel_rfl) ⟨_,_,_,rfl,h⟩ ?_ ?_
  ·rintro _ ⟨_,_,_,_,h⟩;exact wO (h:(none:Option (Int⊕Int))=some o_2)
  rintro n_2 _ ⟨v4,v_2,yP,rfl,h⟩
  replace h:qL F l_1 (t4 F l_1 n_2) v4 v_2 yP=some o_2:=h
  unfold qL at h
  refine sr [] [5,8,28,29,30,31] [0] 1 [.rawm b_1,Ii v4,.sl false 4 (Mp zA l_1),Ii (lN (l_1)),Ii v_2,.bool (decide (v_2<(lN (l_1))))] [.live (.fam (.cl b_1 false [.int .i64] (.pm 100) (List.map (mpE (AV.int .i64) yY) yP)))] zG an ?_
  refine sq ?_
  refine cd 31 (decide (v_2<(lN (l_1)))) ?_ ?_
  rotate_left
  ·intro g_2;replace h:=zT g_2 h
   refine wJ (id:=2) (by kernel_rfl) ?_
   cases h
   exact ⟨rfl,(sw [] [] [.s 8] [] an)⟩
  intro g_2;replace h:=zS g_2 h
  refine sk ?_
  refine sq ?_
  refine yN (id:=3) (by kernel_rfl) ?_
  refine sq ?_
  obtain ⟨x_2,h_6,h⟩:=bind_some h
  refine rg [(0,{ av:=zA x_2 }),(2,{ id:=1 })] [5,8,10,28,29,30] [0,1] 2 [.rawm b_1,Ii v4,Pp 1,.sl false 4 (Mp zA l_1),Ii (lN (l_1)),Ii v_2] [.live (.fam (.cl b_1 false [.int .i64] (.pm 100) (List.map (mpE (AV.int .i64) yY) yP))),Vb 59 (zZ x_2)] zG (ac (xZ h_6:wV (Mp zA l_1) v_2=some (zA x_2)) an) ?_
  refine sq ?_
  refine sq ?_
  obtain ⟨r_1,h_7,h⟩:=bind_some h
  refine rg [(1,{ av:=Ii r_1,l:=[zA x_2] })] [5,8,10,11,28,29,30] [0,1] 2 [.rawm b_1,Ii v4,Pp 1,Ii r_1,.sl false 4 (Mp zA l_1),Ii (lN (l_1)),Ii v_2] [.live (.fam (.cl b_1 false [.int .i64] (.pm 100) (List.map (mpE (AV.int .i64) yY) yP))),Vb 59 (zZ x_2)] zG (ar ([zA x_2]:List AV) (ac (rfl:([]:List zN)=[]) (ac (zFO F x_2 r_1 h_7:zV prog 43 [] [] [zA x_2] [] (Ii r_1)) an))) ?_
  refine sr [] [5,8,10,11,28,29,30,37] [0,1] 2 [.rawm b_1,Ii v4,Pp 1,Ii r_1,.sl false 4 (Mp zA l_1),Ii (lN (l_1)),Ii v_2,.bool (r_1 != (0:Int))] [.live (.fam (.cl b_1 false [.int .i64] (.pm 100) (List.map (mpE (AV.int .i64) yY) yP))),Vb 59 (zZ x_2)] zG an ?_
  refine cd 37 (r_1 != (0:Int)) ?_ ?_
  ·intro g_3;replace h:=zS g_3 h
   refine sr [] [4] [] 2 [Ii r_1] [] zG an ?_
   refine rt ?_
   cases h
   exact ⟨rfl,Nat.le_of_ble_eq_true rfl,by kernel_rfl⟩
  intro g_3;replace h:=zT g_3 h
  refine sk ?_
  refine sq ?_
  rcases zK1 (yD yP x_2.Thread) with h_8 | ⟨x_3,h_8⟩
  ·replace h:=zLt h_8 h
   refine rg [(3,{ dep:=true,g:=false,n:=0,x:=true })] [5,8,10,12,13,28,29,30] [0,1] 2 [.rawm b_1,Ii v4,Pp 1,.nilp,.bool false,.sl false 4 (Mp zA l_1),Ii (lN (l_1)),Ii v_2] [.live (.fam (.cl b_1 false [.int .i64] (.pm 100) (List.map (mpE (AV.int .i64) yY) yP))),Vb 59 (zZ x_2)] zG (ar b_1 (ac (zAt:vU prog 3 false [.int .i64]) (ac (zLx (f:=(AV.int .i64)) (g:=yY) zAn h_8 .junk:jY (List.map (mpE (AV.int .i64) yY) yP) (Ii x_2.Thread) .junk .junk false) an))) ?_
   refine sq ?_
   refine sr [] [5,8,10,12,28,29,30,47] [0,1] 2 [.rawm b_1,Ii v4,Pp 1,.nilp,.sl false 4 (Mp zA l_1),Ii (lN (l_1)),Ii v_2,.bool true] [.live (.fam (.cl b_1 false [.int .i64] (.pm 100) (List.map (mpE (AV.int .i64) yY) yP))),Vb 59 (zZ x_2)] zG an ?_
   refine cd 47 true ?_ ?_
   rotate_left
   ·intro hg;exact Bool.noConfusion (hg)
   intro _
   refine sr [] [4] [] 2 [Ii 5] [] zG an ?_
   refine rt ?_
   cases h
   exact ⟨rfl,Nat.le_of_ble_eq_true rfl,by kernel_rfl⟩
  replace h:=zLS h_8 h
  refine rg [(3,{ av:=(.agg [Ii x_3.next,Ii x_3.last]),dep:=true,id:=2,n:=0,x:=true })] [5,8,10,12,13,28,29,30] [0,1,2] 3 [.rawm b_1,Ii v4,Pp 1,Pp 2,.bool true,.sl false 4 (Mp zA l_1),Ii (lN (l_1)),Ii v_2] [.live (.fam (.opp b_1 false [.int .i64] (.pm 100) (List.map (mpE (AV.int .i64) yY) yP) (Ii x_2.Thread) 2)),Vb 59 (zZ x_2),Vb 100 (xC x_3)] zG (ar b_1 (ac (zAt:vU prog 3 false [.int .i64]) (ac (zL2 (f:=(AV.int .i64)) (g:=yY) h_8 .junk:jY (List.map (mpE (AV.int .i64) yY) yP) (Ii x_2.Thread) .junk (.agg [Ii x_3.next,Ii x_3.last]) true) an))) ?_
  refine sq ?_
  refine sr [] [5,8,10,12,28,29,30,47] [0,1,2] 3 [.rawm b_1,Ii v4,Pp 1,Pp 2,.sl false 4 (Mp zA l_1),Ii (lN (l_1)),Ii v_2,.bool false] [.live (.fam (.opp b_1 false [.int .i64] (.pm 100) (List.map (mpE (AV.int .i64) yY) yP) (Ii x_2.Thread) 2)),Vb 59 (zZ x_2),Vb 100 (xC x_3)] zG an ?_
  refine cd 47 false ?_ ?_
  ·intro hg;exact Bool.noConfusion (hg)
  intro _
  refine sk ?_
  refine sq ?_
  refine sq ?_
  obtain ⟨r_2,h_9,h⟩:=bind_some h
  refine rg [(2,{ av:=.bool r_2,ids:=[2],l:=[Pp 0,zA x_2],post:=[(.var 100 (xC x_3))],pre:=[(.var 100 (xC x_3))] })] [5,8,10,12,28,29,30,51] [0,1,2] 3 [.rawm b_1,Ii v4,Pp 1,Pp 2,.sl false 4 (Mp zA l_1),Ii (lN (l_1)),Ii v_2,.bool (!r_2)] [.live (.fam (.opp b_1 false [.int .i64] (.pm 100) (List.map (mpE (AV.int .i64) yY) yP) (Ii x_2.Thread) 2)),Vb 59 (zZ x_2),Vb 100 (xC x_3)] zG (ar ([Pp 2,zA x_2]:List AV) (ac (rfl:([Vb 100 (xC x_3)]:List zN)=[Vb 100 (xC x_3)]) (ac (zDC x_3 x_2 r_2 h_9:zV prog 51 [(.var 100 (xC x_3))] [] [Pp 0,zA x_2] [(.var 100 (xC x_3))] (.bool r_2)) an))) ?_
  refine cd 51 (!r_2) ?_ ?_
  ·intro g_4;replace h:=zS g_4 h
   refine sr [] [4] [] 3 [Ii 11] [] zG an ?_
   refine rt ?_
   cases h
   exact ⟨rfl,Nat.le_of_ble_eq_true rfl,by kernel_rfl⟩
  intro g_4;replace h:=zT g_4 h
  refine sk ?_
  refine sq ?_
  obtain ⟨r_3,qJ,h⟩:=bind_some h
  refine rg [(2,{ av:=.tuple [],ids:=[2],l:=[Pp 0,zA x_2],post:=[(.var 100 (xC r_3))],pre:=[(.var 100 (xC x_3))] })] [5,8,10,28,29,30] [0,1,2] 3 [.rawm b_1,Ii v4,Pp 1,.sl false 4 (Mp zA l_1),Ii (lN (l_1)),Ii v_2] [.live (.fam (.opp b_1 false [.int .i64] (.pm 100) (List.map (mpE (AV.int .i64) yY) yP) (Ii x_2.Thread) 2)),Vb 59 (zZ x_2),Vb 100 (xC r_3)] zG (ar ([Pp 2,zA x_2]:List AV) (ac (rfl:([Vb 100 (xC x_3)]:List zN)=[Vb 100 (xC x_3)]) (ac (zDG x_3 x_2 r_3 qJ:zV prog 52 [(.var 100 (xC x_3))] [] [Pp 0,zA x_2] [(.var 100 (xC r_3))] (.tuple [])) an))) ?_
  refine kF (zLc (f:=.cl b_1 false [.int .i64] (.pm 100) (List.map (mpE (AV.int .i64) yY) (uH yP x_2.Thread r_3))) 0 2 [Ii r_3.next,Ii r_3.last] (List.map (mpE (AV.int .i64) yY) (uH yP x_2.Thread r_3)) (by kernel_rfl) (ac (rfl:(Vb 100 (xC r_3):zN)=Vb 100 (xC r_3)) (ac (zC2 (f:=(AV.int .i64)) (g:=yY) zAn yP x_2.Thread r_3:zBO (List.map (mpE (AV.int .i64) yY) yP) (Ii x_2.Thread) (.agg [Ii r_3.next,Ii r_3.last]) (List.map (mpE (AV.int .i64) yY) (uH yP x_2.Thread r_3))) an))) ?_
  refine wk [0,1] [] [.s 5,.s 8,.s 10,.s 28,.s 29,.s 30] [.s 0,.s 1] [(5,.rawm b_1),(8,Ii v4),(10,Pp 1),(28,.sl false 4 (Mp zA l_1)),(29,Ii (lN (l_1))),(30,Ii v_2)] [(0,.live (.fam (.cl b_1 false [.int .i64] (.pm 100) (List.map (mpE (AV.int .i64) yY) (uH yP x_2.Thread r_3))))),(1,Vb 59 (zZ x_2))] an ?_
  refine rg [(3,{ n:=(x_2.Events).length })] [5,8,28,29,30] [0] 2 [.rawm b_1,Ii (zJ (v4+(lN (x_2.Events)))),.sl false 4 (Mp zA l_1),Ii (lN (l_1)),Ii v_2] [.live (.fam (.cl b_1 false [.int .i64] (.pm 100) (List.map (mpE (AV.int .i64) yY) (uH yP x_2.Thread r_3))))] zG (ac (yL _:((Mp zE x_2.Events)).length=(x_2.Events).length) an) ?_
  refine rg [] [5,8,28,29,30] [0] 2 [.rawm b_1,Ii (zJ (v4+(lN (x_2.Events)))),.sl false 4 (Mp zA l_1),Ii (lN (l_1)),Ii (zJ (v_2+(1:Int)))] [.live (.fam (.cl b_1 false [.int .i64] (.pm 100) (List.map (mpE (AV.int .i64) yY) (uH yP x_2.Thread r_3))))] zG an ?_
  exact ⟨_,(sw [0] [] [.s 5,.s 8,.s 28,.s 29,.s 30] [.s 0] an),_,_,_,rfl,h⟩
 intro e st1 hk
 rcases o_2 with q_1 | q_2
 rotate_left
 ·obtain ⟨rfl,hf⟩:=hk
  cases h
  exact ⟨st1,Sub.refl _ _,.inr rfl,hf⟩
 obtain ⟨rfl,hs⟩:=hk
 refine ⟨_,hs,?_⟩
 refine sq ?_
 refine sr [] [62] [] 0 [.bool (decide (q_1>(20000:Int)))] [] zG an ?_
 refine cd 62 (decide (q_1>(20000:Int))) ?_ ?_
 ·intro g_5;replace h:=zS g_5 h
  refine sr [] [4] [] 0 [Ii 7] [] zG an ?_
  refine rt ?_
  cases h
  exact ⟨.inr rfl,Nat.le_of_ble_eq_true rfl,by kernel_rfl⟩
 intro g_5;replace h:=zT g_5 h
 refine sk ?_
 refine sr [] [4] [] 0 [Ii 0] [] zG an ?_
 refine rt ?_
 cases h
 exact ⟨.inr rfl,Nat.le_of_ble_eq_true rfl,by kernel_rfl⟩

theorem zFi (l:List zB):fzV (yR l)=.sl false 4 (Mp zA l):=(congrArg (AV.sl false 4) (zIm zA l _ rfl)).symm
theorem zEZ (l:List zB):zEP (yR l)∧zD9 4 6 (yR l)=true:=⟨rfl,rfl⟩

theorem zJj (F:Nat) (uB:List (zB)) (events_1:List (zH)) (r:(List (zB))) (h:zB1 F uB events_1=some r):zV prog 29 [] [(.rowQ 59 4 (Mp zA (ini uB)) (!(uB).isEmpty) (yG (lst uB)++[.own 1 ((lst uB).Events).length])),(.row 42 6 (Mp zE (lst uB).Events))] [.own 0 ((uB).length),.sl false 6 (Mp zE events_1)] [(.rowQ 59 4 (Mp zA (ini r)) (!(r).isEmpty) (yG (lst r)++[.own 1 ((lst r).Events).length])),(.row 42 6 (Mp zE (lst r).Events))] (.own 0 (r).length):=by
 refine zDw (fn:=Go.Proofs.Try.f29) (code:=x4 Go.Proofs.Try.f29) (by kernel_rfl) (by kernel_rfl) (Nat.le_of_ble_eq_true (by kernel_rfl)) ?_
 unfold zB1 at h
 refine sr [(0,{ id:=2,m:=1 })] [0,1] [0,1] 3 [.own 0 ((uB).length),.sl false 6 (Mp zE events_1)] [.live (.rowQ 59 4 (Mp zA (ini uB)) (!(uB).isEmpty) (yG (lst uB)++[.own 1 ((lst uB).Events).length])),Rb 42 6 (Mp zE (lst uB).Events)] zG an ?_
 refine sq ?_
 obtain ⟨o_1,h_1,h⟩:=bind_some h
 refine wI (mk [(0,.own 0 ((o_1).length))] [(0,.live (.rowQ 59 4 (Mp zA (ini o_1)) (!(o_1).isEmpty) (yG (lst o_1)++[.own 1 ((lst o_1).Events).length]))),(1,Rb 42 6 (Mp zE (lst o_1).Events))] 2) ?_ ?_
 ·replace h:=h_1
  refine yN (id:=0) (by kernel_rfl) ?_
  refine wk [0,1] [] [.s 0,.s 1] [.s 0,.s 1] [(0,.own 0 ((uB).length)),(1,.sl false 6 (Mp zE events_1))] [(0,.live (.rowQ 59 4 (Mp zA (ini uB)) (!(uB).isEmpty) (yG (lst uB)++[.own 1 ((lst uB).Events).length]))),(1,Rb 42 6 (Mp zE (lst uB).Events))] an ?_
  refine wE (fun n st=>∃ (zQ:List zH),∃ (zC:List zB),st=mk [(0,.own 0 ((zC).length)),(1,.sl false 6 (Mp zE zQ))] [(0,.live (.rowQ 59 4 (Mp zA (ini zC)) (!(zC).isEmpty) (yG (lst zC)++[.own 1 ((lst zC).Events).length]))),(1,Rb 42 6 (Mp zE (lst zC).Events))] 2∧nT F n zQ zC=some o_1) F (by kernel_rfl) ⟨_,_,rfl,h⟩ ?_ ?_
  ·rintro _ ⟨_,_,_,h⟩;exact wO (h:(none:Option (List zB))=some o_1)
  rintro n_1 _ ⟨zQ,zC,rfl,h⟩
  replace h:qU F (nT F n_1) zQ zC=some o_1:=h
  unfold qU at h
  refine sq ?_
  refine sr [(1,{ n:=(zQ).length })] [0,1,9] [0,1] 2 [.own 0 ((zC).length),.sl false 6 (Mp zE zQ),.bool (decide ((lN (zQ))>(0:Int)))] [.live (.rowQ 59 4 (Mp zA (ini zC)) (!(zC).isEmpty) (yG (lst zC)++[.own 1 ((lst zC).Events).length])),Rb 42 6 (Mp zE (lst zC).Events)] zG (ac (yL _:((Mp zE zQ)).length=(zQ).length) an) ?_
  refine cd 9 (decide ((lN (zQ))>(0:Int))) ?_ ?_
  rotate_left
  ·intro g_1;replace h:=zT g_1 h
   refine wJ (id:=0) (by kernel_rfl) ?_
   cases h
   exact ⟨rfl,(sw [0,1] [] [.s 0] [.s 0,.s 1] an)⟩
  intro g_1;replace h:=zS g_1 h
  refine sk ?_
  refine yN (id:=1) (by kernel_rfl) ?_
  refine sq ?_
  obtain ⟨_,h_2,h⟩:=bind_some h;replace h_2:=vF h_2
  refine rg [] [0,1,5] [0,1] 2 [.own 0 ((zC).length),.sl false 6 (Mp zE zQ),.ptr 0 4 ((zJ ((lN (zC)) - (1:Int))).toNat) 0] [.live (.rowQ 59 4 (Mp zA (ini zC)) (!(zC).isEmpty) (yG (lst zC)++[.own 1 ((lst zC).Events).length])),Rb 42 6 (Mp zE (lst zC).Events)] zG (ac h_2.1 (ac h_2.2 an)) ?_
  refine sq ?_
  obtain ⟨_,h_3,h⟩:=bind_some h;replace h_3:=vF h_3
  refine rg [(3,{ x:=true }),(7,{ n:=(zQ).length })] [0,1,5,6] [0,1] 2 [.own 0 ((zC).length),.sl false 6 (Mp zE zQ),.ptr 0 4 ((zJ ((lN (zC)) - (1:Int))).toNat) 0,Ii (wC (zJ ((1000:Int) - (lN ((lst zC).Events)))) (lN (zQ)))] [.live (.rowQ 59 4 (Mp zA (ini zC)) (!(zC).isEmpty) (yG (lst zC)++[.own 1 ((lst zC).Events).length])),Rb 42 6 (Mp zE (lst zC).Events)] zG (ac (zHB _ h_3:(zJ ((lN (zC)) - (1:Int))).toNat=(Mp zA (ini zC)).length) (ac (zDX (Nat.lt_of_lt_of_eq (Nat.succ_pos _) h_3):(!(zC).isEmpty)=true) (ac (yL _:((Mp zE zQ)).length=(zQ).length) an))) ?_
  refine sq ?_
  refine sr [] [0,1,5,6,25] [0,1] 2 [.own 0 ((zC).length),.sl false 6 (Mp zE zQ),.ptr 0 4 ((zJ ((lN (zC)) - (1:Int))).toNat) 0,Ii (wC (zJ ((1000:Int) - (lN ((lst zC).Events)))) (lN (zQ))),.bool ((wC (zJ ((1000:Int) - (lN ((lst zC).Events)))) (lN (zQ)))==(0:Int))] [.live (.rowQ 59 4 (Mp zA (ini zC)) (!(zC).isEmpty) (yG (lst zC)++[.own 1 ((lst zC).Events).length])),Rb 42 6 (Mp zE (lst zC).Events)] zG an ?_
  refine cd 25 ((wC (zJ ((1000:Int) - (lN ((lst zC).Events)))) (lN (zQ)))==(0:Int)) ?_ ?_
  ·intro g_2;replace h:=zS g_2 h
   refine sq ?_
   refine kF (zIe (e:=59) (sz:=4) 0 1 (Mp zA zC) (by kernel_rfl) (ac ((List.length_map _).symm:((lst zC).Events).length=(Mp zE (lst zC).Events:List AV).length) (ac (zIm zA zC _ rfl:(Mp zA zC:List AV)=List.map zA (ini zC)++bif (!(zC).isEmpty) then [.agg (yG (lst zC)++[.sl false 6 (Mp zE (lst zC).Events)])] else []) an))) ?_
   refine wk [0] [] [.s 0,.s 1,.s 5] [.s 0] [(0,.own 0 ((zC).length)),(1,.sl false 6 (Mp zE zQ)),(5,.ptr 0 4 ((zJ ((lN (zC)) - (1:Int))).toNat) 0)] [(0,Rb 59 4 (Mp zA zC))] an ?_
   obtain ⟨_,h_4,h⟩:=bind_some h;replace h_4:=vF h_4
   obtain ⟨_,h_5,h⟩:=bind_some h;replace h_5:=vF h_5
   obtain ⟨_,h_6,h⟩:=bind_some h;replace h_6:=vF h_6
   refine rg [(4,{ av:=zA (lst zC) }),(8,{ av:=zA (lst zC) }),(11,{ id:=1 }),(12,{ id:=2,l:=(Mp zA zC++[.agg [Ii ((lst zC).Thread),Ii (zJ (((lst zC).Serial)+(1000:Int))),Ii 0,.nilsl]]),n:=((zC).length+1) })] [0,1] [2] 3 [.own 2 ((zC).length+1),.sl false 6 (Mp zE zQ)] [Rb 59 4 (Mp zA zC++[.agg [Ii ((lst zC).Thread),Ii (zJ (((lst zC).Serial)+(1000:Int))),Ii 0,.nilsl]])] zG (ac (zM3 _ h_4:(Mp zA zC)[(zJ ((lN (zC)) - (1:Int))).toNat]?=some (zA (lst zC))) (ac (zM3 _ h_5:(Mp zA zC)[(zJ ((lN (zC)) - (1:Int))).toNat]?=some (zA (lst zC))) (ac ((List.length_map _).symm:(zC).length=(Mp zA zC).length) (ac (rfl:1=([.agg [Ii ((lst zC).Thread),Ii (zJ (((lst zC).Serial)+(1000:Int))),Ii 0,.nilsl]]:List AV).length) (ac (rfl:((Mp zA zC++[.agg [Ii ((lst zC).Thread),Ii (zJ (((lst zC).Serial)+(1000:Int))),Ii 0,.nilsl]]):List AV)=List.map zA zC++[.agg [Ii ((lst zC).Thread),Ii (zJ (((lst zC).Serial)+(1000:Int))),Ii 0,.nilsl]]) (ac (by simp:((zC).length+1)=((List.map zA zC++[.agg [Ii ((lst zC).Thread),Ii (zJ (((lst zC).Serial)+(1000:Int))),Ii 0,.nilsl]]):List AV).length) (ac (by rw [List.length_map];exact h_6:((List.map zA zC:List AV).length+([.agg [Ii ((lst zC).Thread),Ii (zJ (((lst zC).Serial)+(1000:Int))),Ii 0,.nilsl]]:List AV).length) * 48≤140737488355328) an))))))) ?_
   refine kF (zFx (e:=59) (sz:=4) 2 3 42 6 (Mp zA zC) [Ii ((lst zC).Thread),Ii (zJ (((lst zC).Serial)+(1000:Int))),Ii 0] (by kernel_rfl) (ac (rfl:(Mp zA zC++[.agg [Ii ((lst zC).Thread),Ii (zJ (((lst zC).Serial)+(1000:Int))),Ii 0,.nilsl]]:List AV)=List.map zA zC++[.agg ([Ii ((lst zC).Thread),Ii (zJ (((lst zC).Serial)+(1000:Int))),Ii 0]++[.nilsl])]) an)) ?_
   refine wk [2,3] [] [.a 0 (.own 0 (((zC++[(⟨(lst zC).Thread,zJ (((lst zC).Serial)+(1000:Int)),(0:Int),[]⟩:zB)])).length)),.s 1] [.a 0 (.live (.rowQ 59 4 (Mp zA (ini (zC++[(⟨(lst zC).Thread,zJ (((lst zC).Serial)+(1000:Int)),(0:Int),[]⟩:zB)]))) (!((zC++[(⟨(lst zC).Thread,zJ (((lst zC).Serial)+(1000:Int)),(0:Int),[]⟩:zB)])).isEmpty) (yG (lst (zC++[(⟨(lst zC).Thread,zJ (((lst zC).Serial)+(1000:Int)),(0:Int),[]⟩:zB)]))++[.own 1 ((lst (zC++[(⟨(lst zC).Thread,zJ (((lst zC).Serial)+(1000:Int)),(0:Int),[]⟩:zB)])).Events).length]))),.a 1 (Rb 42 6 (Mp zE (lst (zC++[(⟨(lst zC).Thread,zJ (((lst zC).Serial)+(1000:Int)),(0:Int),[]⟩:zB)])).Events))] [(0,.own 0 (((zC++[(⟨(lst zC).Thread,zJ (((lst zC).Serial)+(1000:Int)),(0:Int),[]⟩:zB)])).length)),(1,.sl false 6 (Mp zE zQ))] [(0,.live (.rowQ 59 4 (Mp zA (ini (zC++[(⟨(lst zC).Thread,zJ (((lst zC).Serial)+(1000:Int)),(0:Int),[]⟩:zB)]))) (!((zC++[(⟨(lst zC).Thread,zJ (((lst zC).Serial)+(1000:Int)),(0:Int),[]⟩:zB)])).isEmpty) (yG (lst (zC++[(⟨(lst zC).Thread,zJ (((lst zC).Serial)+(1000:Int)),(0:Int),[]⟩:zB)]))++[.own 1 ((lst (zC++[(⟨(lst zC).Thread,zJ (((lst zC).Serial)+(1000:Int)),(0:Int),[]⟩:zB)])).Events).length]))),(1,Rb 42 6 (Mp zE (lst (zC++[(⟨(lst zC).Thread,zJ (((lst zC).Serial)+(1000:Int)),(0:Int),[]⟩:zB)])).Events))] (ac (congrArg (AV.own _) (by first | (simp;done) | (simp;omega)):(.own 2 ((zC).length+1):AV)=.own 2 (((zC++[(⟨(lst zC).Thread,zJ (((lst zC).Serial)+(1000:Int)),(0:Int),[]⟩:zB)])).length)) (ar 59 (ar 4 (ac ((congrArg (List.map _) (jC _ _)).symm:((Mp zA zC):List AV)=List.map zA (ini (zC++[(⟨(lst zC).Thread,zJ (((lst zC).Serial)+(1000:Int)),(0:Int),[]⟩:zB)]))) (ac ((zH2 _ _).symm:true=(!((zC++[(⟨(lst zC).Thread,zJ (((lst zC).Serial)+(1000:Int)),(0:Int),[]⟩:zB)])).isEmpty)) (ac (rfl:uO (yG (lst (zC++[(⟨(lst zC).Thread,zJ (((lst zC).Serial)+(1000:Int)),(0:Int),[]⟩:zB)]))++[.own 3 ((lst (zC++[(⟨(lst zC).Thread,zJ (((lst zC).Serial)+(1000:Int)),(0:Int),[]⟩:zB)])).Events).length])=true) (ac (by first | (simp only [y6];done) | simp [y6]:(Ii ((lst zC).Thread):AV)=Ii ((lst (zC++[(⟨(lst zC).Thread,zJ (((lst zC).Serial)+(1000:Int)),(0:Int),[]⟩:zB)])).Thread)) (ac (by first | (simp only [y6];done) | simp [y6]:(Ii (zJ (((lst zC).Serial)+(1000:Int))):AV)=Ii ((lst (zC++[(⟨(lst zC).Thread,zJ (((lst zC).Serial)+(1000:Int)),(0:Int),[]⟩:zB)])).Serial)) (ac (by first | (simp only [y6];done) | simp [y6]:(Ii 0:AV)=Ii ((lst (zC++[(⟨(lst zC).Thread,zJ (((lst zC).Serial)+(1000:Int)),(0:Int),[]⟩:zB)])).Lost)) (ac (congrArg (AV.own _) (by first | (simp only [y6];done) | simp [y6]):(.own 3 0:AV)=.own 3 (((lst (zC++[(⟨(lst zC).Thread,zJ (((lst zC).Serial)+(1000:Int)),(0:Int),[]⟩:zB)])).Events).length)) (ar 42 (ar 6 (ac (by first | (simp only [y6];done) | simp [y6]:([]:List AV)=List.map zE (lst (zC++[(⟨(lst zC).Thread,zJ (((lst zC).Serial)+(1000:Int)),(0:Int),[]⟩:zB)])).Events) an))))))))))))) ?_
   refine wJ (id:=1) (by kernel_rfl) ?_
   exact ⟨_,(sw [0,1] [] [.s 0,.s 1] [.s 0,.s 1] an),_,_,rfl,h⟩
  intro g_2;replace h:=zT g_2 h
  refine sk ?_
  refine sq ?_
  obtain ⟨_,h_7,h⟩:=bind_some h;replace h_7:=vF h_7
  obtain ⟨_,h_8,h⟩:=bind_some h;replace h_8:=vF h_8
  obtain ⟨_,h_9,h⟩:=bind_some h;replace h_9:=vF h_9
  obtain ⟨_,qJ,h⟩:=bind_some h;replace qJ:=vF qJ
  refine rg [(4,{ x:=true }),(7,{ l:=(Mp zE (sub zQ (0:Int) (wC (zJ ((1000:Int) - (lN ((lst zC).Events)))) (lN (zQ))))) }),(8,{ id:=2,l:=(Mp zE (((lst zC).Events)++(sub zQ (0:Int) (wC (zJ ((1000:Int) - (lN ((lst zC).Events)))) (lN (zQ)))))),n:=((((lst zC).Events)++(sub zQ (0:Int) (wC (zJ ((1000:Int) - (lN ((lst zC).Events)))) (lN (zQ)))))).length }),(11,{ x:=true })] [0,1,6] [0,2] 3 [.own 0 ((zC).length),.sl false 6 (Mp zE zQ),Ii (wC (zJ ((1000:Int) - (lN ((lst zC).Events)))) (lN (zQ)))] [.live (.rowQ 59 4 (Mp zA (ini zC)) (!(zC).isEmpty) [Ii ((lst zC).Thread),Ii ((lst zC).Serial),Ii ((lst zC).Lost),.own 2 (((((lst zC).Events)++(sub zQ (0:Int) (wC (zJ ((1000:Int) - (lN ((lst zC).Events)))) (lN (zQ)))))).length)]),Rb 42 6 (Mp zE (((lst zC).Events)++(sub zQ (0:Int) (wC (zJ ((1000:Int) - (lN ((lst zC).Events)))) (lN (zQ))))))] zG (ac (zHB _ h_7:(zJ ((lN (zC)) - (1:Int))).toNat=(Mp zA (ini zC)).length) (ac (zDX (Nat.lt_of_lt_of_eq (Nat.succ_pos _) h_7):(!(zC).isEmpty)=true) (ac (by decide:(0:Int)≤(0:Int)) (ac h_8.1 (ac (zE8 h_8.2:(wC (zJ ((1000:Int) - (lN ((lst zC).Events)))) (lN (zQ)))≤(lN ((Mp zE zQ)))) (ac (zK9 _ _ _:(Mp zE (sub zQ (0:Int) (wC (zJ ((1000:Int) - (lN ((lst zC).Events)))) (lN (zQ)))))=(((Mp zE zQ)).take (wC (zJ ((1000:Int) - (lN ((lst zC).Events)))) (lN (zQ))).toNat).drop ((0:Int)).toNat) (ac (by first | (simp;done) | (simp;omega):((lst zC).Events).length=((List.map zE ((lst zC).Events))).length) (ac (trivial:True) (ac (zD4 _ _:(Mp zE (((lst zC).Events)++(sub zQ (0:Int) (wC (zJ ((1000:Int) - (lN ((lst zC).Events)))) (lN (zQ))))))=(Mp zE ((lst zC).Events))++(Mp zE (sub zQ (0:Int) (wC (zJ ((1000:Int) - (lN ((lst zC).Events)))) (lN (zQ)))))) (ac (by simp:((((lst zC).Events)++(sub zQ (0:Int) (wC (zJ ((1000:Int) - ((((lst zC).Events).length:Nat):Int))) (((zQ).length:Nat):Int))))).length=((List.map zE (((lst zC).Events)++(sub zQ (0:Int) (wC (zJ ((1000:Int) - ((((lst zC).Events).length:Nat):Int))) (((zQ).length:Nat):Int)))))).length) (ac (by first | (simp;done) | simpa using h_9:(((List.map zE ((lst zC).Events)):List AV).length+((List.map zE (sub zQ (0:Int) (wC (zJ ((1000:Int) - ((((lst zC).Events).length:Nat):Int))) (((zQ).length:Nat):Int)))):List AV).length) * 72≤140737488355328) (ac (zHB _ qJ:(zJ ((lN (zC)) - (1:Int))).toNat=(Mp zA (ini zC)).length) (ac (zDX (Nat.lt_of_lt_of_eq (Nat.succ_pos _) qJ):(!(zC).isEmpty)=true) an))))))))))))) ?_
  refine wk [0,2] [] [.a 0 (.own 0 ((((ini zC)++[(⟨(lst zC).Thread,(lst zC).Serial,(lst zC).Lost,(((lst zC).Events)++(sub zQ (0:Int) (wC (zJ ((1000:Int) - (lN ((lst zC).Events)))) (lN (zQ)))))⟩:zB)])).length)),.s 1,.s 6] [.a 0 (.live (.rowQ 59 4 (Mp zA (ini ((ini zC)++[(⟨(lst zC).Thread,(lst zC).Serial,(lst zC).Lost,(((lst zC).Events)++(sub zQ (0:Int) (wC (zJ ((1000:Int) - (lN ((lst zC).Events)))) (lN (zQ)))))⟩:zB)]))) (!(((ini zC)++[(⟨(lst zC).Thread,(lst zC).Serial,(lst zC).Lost,(((lst zC).Events)++(sub zQ (0:Int) (wC (zJ ((1000:Int) - (lN ((lst zC).Events)))) (lN (zQ)))))⟩:zB)])).isEmpty) (yG (lst ((ini zC)++[(⟨(lst zC).Thread,(lst zC).Serial,(lst zC).Lost,(((lst zC).Events)++(sub zQ (0:Int) (wC (zJ ((1000:Int) - (lN ((lst zC).Events)))) (lN (zQ)))))⟩:zB)]))++[.own 1 ((lst ((ini zC)++[(⟨(lst zC).Thread,(lst zC).Serial,(lst zC).Lost,(((lst zC).Events)++(sub zQ (0:Int) (wC (zJ ((1000:Int) - (lN ((lst zC).Events)))) (lN (zQ)))))⟩:zB)])).Events).length]))),.a 1 (Rb 42 6 (Mp zE (lst ((ini zC)++[(⟨(lst zC).Thread,(lst zC).Serial,(lst zC).Lost,(((lst zC).Events)++(sub zQ (0:Int) (wC (zJ ((1000:Int) - (lN ((lst zC).Events)))) (lN (zQ)))))⟩:zB)])).Events))] [(0,.own 0 ((((ini zC)++[(⟨(lst zC).Thread,(lst zC).Serial,(lst zC).Lost,(((lst zC).Events)++(sub zQ (0:Int) (wC (zJ ((1000:Int) - (lN ((lst zC).Events)))) (lN (zQ)))))⟩:zB)])).length)),(1,.sl false 6 (Mp zE zQ)),(6,Ii (wC (zJ ((1000:Int) - (lN ((lst zC).Events)))) (lN (zQ))))] [(0,.live (.rowQ 59 4 (Mp zA (ini ((ini zC)++[(⟨(lst zC).Thread,(lst zC).Serial,(lst zC).Lost,(((lst zC).Events)++(sub zQ (0:Int) (wC (zJ ((1000:Int) - (lN ((lst zC).Events)))) (lN (zQ)))))⟩:zB)]))) (!(((ini zC)++[(⟨(lst zC).Thread,(lst zC).Serial,(lst zC).Lost,(((lst zC).Events)++(sub zQ (0:Int) (wC (zJ ((1000:Int) - (lN ((lst zC).Events)))) (lN (zQ)))))⟩:zB)])).isEmpty) (yG (lst ((ini zC)++[(⟨(lst zC).Thread,(lst zC).Serial,(lst zC).Lost,(((lst zC).Events)++(sub zQ (0:Int) (wC (zJ ((1000:Int) - (lN ((lst zC).Events)))) (lN (zQ)))))⟩:zB)]))++[.own 1 ((lst ((ini zC)++[(⟨(lst zC).Thread,(lst zC).Serial,(lst zC).Lost,(((lst zC).Events)++(sub zQ (0:Int) (wC (zJ ((1000:Int) - (lN ((lst zC).Events)))) (lN (zQ)))))⟩:zB)])).Events).length]))),(1,Rb 42 6 (Mp zE (lst ((ini zC)++[(⟨(lst zC).Thread,(lst zC).Serial,(lst zC).Lost,(((lst zC).Events)++(sub zQ (0:Int) (wC (zJ ((1000:Int) - (lN ((lst zC).Events)))) (lN (zQ)))))⟩:zB)])).Events))] (ac (congrArg (AV.own _) (zOk _ qJ).symm:(.own 0 ((zC).length):AV)=.own 0 ((((ini zC)++[(⟨(lst zC).Thread,(lst zC).Serial,(lst zC).Lost,(((lst zC).Events)++(sub zQ (0:Int) (wC (zJ ((1000:Int) - (lN ((lst zC).Events)))) (lN (zQ)))))⟩:zB)])).length)) (ar 59 (ar 4 (ac ((congrArg (List.map _) (jC _ _)).symm:((Mp zA (ini zC)):List AV)=List.map zA (ini ((ini zC)++[(⟨(lst zC).Thread,(lst zC).Serial,(lst zC).Lost,(((lst zC).Events)++(sub zQ (0:Int) (wC (zJ ((1000:Int) - (lN ((lst zC).Events)))) (lN (zQ)))))⟩:zB)]))) (ac ((zDX (Nat.lt_of_lt_of_eq (Nat.succ_pos _) qJ)).trans (zH2 _ _).symm:(!(zC).isEmpty)=(!(((ini zC)++[(⟨(lst zC).Thread,(lst zC).Serial,(lst zC).Lost,(((lst zC).Events)++(sub zQ (0:Int) (wC (zJ ((1000:Int) - (lN ((lst zC).Events)))) (lN (zQ)))))⟩:zB)])).isEmpty)) (ac (rfl:uO (yG (lst ((ini zC)++[(⟨(lst zC).Thread,(lst zC).Serial,(lst zC).Lost,(((lst zC).Events)++(sub zQ (0:Int) (wC (zJ ((1000:Int) - (lN ((lst zC).Events)))) (lN (zQ)))))⟩:zB)]))++[.own 2 ((lst ((ini zC)++[(⟨(lst zC).Thread,(lst zC).Serial,(lst zC).Lost,(((lst zC).Events)++(sub zQ (0:Int) (wC (zJ ((1000:Int) - (lN ((lst zC).Events)))) (lN (zQ)))))⟩:zB)])).Events).length])=true) (ac (by first | (simp only [y6];done) | simp [y6]:(Ii ((lst zC).Thread):AV)=Ii ((lst ((ini zC)++[(⟨(lst zC).Thread,(lst zC).Serial,(lst zC).Lost,(((lst zC).Events)++(sub zQ (0:Int) (wC (zJ ((1000:Int) - ((((lst zC).Events).length:Nat):Int))) (((zQ).length:Nat):Int))))⟩:zB)])).Thread)) (ac (by first | (simp only [y6];done) | simp [y6]:(Ii ((lst zC).Serial):AV)=Ii ((lst ((ini zC)++[(⟨(lst zC).Thread,(lst zC).Serial,(lst zC).Lost,(((lst zC).Events)++(sub zQ (0:Int) (wC (zJ ((1000:Int) - ((((lst zC).Events).length:Nat):Int))) (((zQ).length:Nat):Int))))⟩:zB)])).Serial)) (ac (by first | (simp only [y6];done) | simp [y6]:(Ii ((lst zC).Lost):AV)=Ii ((lst ((ini zC)++[(⟨(lst zC).Thread,(lst zC).Serial,(lst zC).Lost,(((lst zC).Events)++(sub zQ (0:Int) (wC (zJ ((1000:Int) - ((((lst zC).Events).length:Nat):Int))) (((zQ).length:Nat):Int))))⟩:zB)])).Lost)) (ac (congrArg (AV.own _) (by first | (simp only [y6];done) | simp [y6]):(.own 2 (((((lst zC).Events)++(sub zQ (0:Int) (wC (zJ ((1000:Int) - (lN ((lst zC).Events)))) (lN (zQ)))))).length):AV)=.own 2 (((lst ((ini zC)++[(⟨(lst zC).Thread,(lst zC).Serial,(lst zC).Lost,(((lst zC).Events)++(sub zQ (0:Int) (wC (zJ ((1000:Int) - (lN ((lst zC).Events)))) (lN (zQ)))))⟩:zB)])).Events).length)) (ar 42 (ar 6 (ac (by first | (simp only [y6];done) | simp [y6]:((List.map zE (((lst zC).Events)++(sub zQ (0:Int) (wC (zJ ((1000:Int) - ((((lst zC).Events).length:Nat):Int))) (((zQ).length:Nat):Int))))):List AV)=List.map zE (lst ((ini zC)++[(⟨(lst zC).Thread,(lst zC).Serial,(lst zC).Lost,(((lst zC).Events)++(sub zQ (0:Int) (wC (zJ ((1000:Int) - ((((lst zC).Events).length:Nat):Int))) (((zQ).length:Nat):Int))))⟩:zB)])).Events) an))))))))))))) ?_
  obtain ⟨_,qR,h⟩:=bind_some h;replace qR:=vF qR
  refine rg [(2,{ l:=(Mp zE (sub zQ (wC (zJ ((1000:Int) - (lN ((lst zC).Events)))) (lN (zQ))) (lN (zQ)))) })] [0,1] [0,1] 2 [.own 0 ((((ini zC)++[(⟨(lst zC).Thread,(lst zC).Serial,(lst zC).Lost,(((lst zC).Events)++(sub zQ (0:Int) (wC (zJ ((1000:Int) - (lN ((lst zC).Events)))) (lN (zQ)))))⟩:zB)])).length),.sl false 6 (Mp zE (sub zQ (wC (zJ ((1000:Int) - (lN ((lst zC).Events)))) (lN (zQ))) (lN (zQ))))] [.live (.rowQ 59 4 (Mp zA (ini ((ini zC)++[(⟨(lst zC).Thread,(lst zC).Serial,(lst zC).Lost,(((lst zC).Events)++(sub zQ (0:Int) (wC (zJ ((1000:Int) - (lN ((lst zC).Events)))) (lN (zQ)))))⟩:zB)]))) (!(((ini zC)++[(⟨(lst zC).Thread,(lst zC).Serial,(lst zC).Lost,(((lst zC).Events)++(sub zQ (0:Int) (wC (zJ ((1000:Int) - (lN ((lst zC).Events)))) (lN (zQ)))))⟩:zB)])).isEmpty) (yG (lst ((ini zC)++[(⟨(lst zC).Thread,(lst zC).Serial,(lst zC).Lost,(((lst zC).Events)++(sub zQ (0:Int) (wC (zJ ((1000:Int) - (lN ((lst zC).Events)))) (lN (zQ)))))⟩:zB)]))++[.own 1 ((lst ((ini zC)++[(⟨(lst zC).Thread,(lst zC).Serial,(lst zC).Lost,(((lst zC).Events)++(sub zQ (0:Int) (wC (zJ ((1000:Int) - (lN ((lst zC).Events)))) (lN (zQ)))))⟩:zB)])).Events).length])),Rb 42 6 (Mp zE (lst ((ini zC)++[(⟨(lst zC).Thread,(lst zC).Serial,(lst zC).Lost,(((lst zC).Events)++(sub zQ (0:Int) (wC (zJ ((1000:Int) - (lN ((lst zC).Events)))) (lN (zQ)))))⟩:zB)])).Events)] zG (ac qR.1 (ac (zE8 qR.2:(wC (zJ ((1000:Int) - (lN ((lst zC).Events)))) (lN (zQ)))≤(lN ((Mp zE zQ)))) (ac (Int.le_refl _:(lN ((Mp zE zQ)))≤(lN ((Mp zE zQ)))) (ac (zNN _ _:(Mp zE (sub zQ (wC (zJ ((1000:Int) - (lN ((lst zC).Events)))) (lN (zQ))) (lN (zQ))))=(((Mp zE zQ)).take ((lN ((Mp zE zQ)))).toNat).drop (wC (zJ ((1000:Int) - (lN ((lst zC).Events)))) (lN (zQ))).toNat) an)))) ?_
  exact ⟨_,(sw [0,1] [] [.s 0,.s 1] [.s 0,.s 1] an),_,_,rfl,h⟩
 refine sr [] [4] [0,1] 2 [.own 0 ((o_1).length)] [.live (.rowQ 59 4 (Mp zA (ini o_1)) (!(o_1).isEmpty) (yG (lst o_1)++[.own 1 ((lst o_1).Events).length])),Rb 42 6 (Mp zE (lst o_1).Events)] zG an ?_
 refine wk [0,1] [] [.s 4] [.s 0,.s 1] [(4,.own 0 ((o_1).length))] [(0,.live (.rowQ 59 4 (Mp zA (ini o_1)) (!(o_1).isEmpty) (yG (lst o_1)++[.own 1 ((lst o_1).Events).length]))),(1,Rb 42 6 (Mp zE (lst o_1).Events))] an ?_
 refine rt ?_
 cases h
 exact ⟨.inr rfl,Nat.le_of_ble_eq_true rfl,by kernel_rfl⟩

theorem zBm (F:Nat) (h_1:zR) (l_1:List (zB)) (r:zX×Int) (h:zAG F h_1 l_1=some r):zV prog 10 [] [] [xO h_1,.sl false 4 (Mp zA l_1)] [] (.tuple [yH r.1,Ii r.2]):=by
 refine yM (fn:=Go.Proofs.Try.f10) (code:=x4 Go.Proofs.Try.f10) (by kernel_rfl) (by kernel_rfl) (Nat.le_of_ble_eq_true (by kernel_rfl)) ?_
 unfold zAG at h
 refine sr [(0,{ id:=0 }),(1,{ id:=1 })] [1,2,4] [0,1] 2 [.sl false 4 (Mp zA l_1),Pp 0,Pp 1] [Vb 26 (z0 h_1),Vb 31 [.nilsl,.nilsl,.nilsl,.nilsl]] zG an ?_
 refine kF (pT 1 3 2 59 4 (by kernel_rfl)) ?_
 refine wk [0,1,2] [] [.s 1,.s 2,.s 4] [.s 0,.s 1,.s 2] [(1,.sl false 4 (Mp zA l_1)),(2,Pp 0),(4,Pp 1)] [(0,Vb 26 (z0 h_1)),(1,Vb 31 [.nilsl,.nilsl,.nilsl,.own 2 0]),(2,Rb 59 4 [])] an ?_
 refine sq ?_
 refine sq ?_
 obtain ⟨r_1,h_2,h⟩:=bind_some h
 refine rg [(1,{ av:=Ii r_1,l:=[xO h_1] })] [1,2,4,6] [0,1,2] 3 [.sl false 4 (Mp zA l_1),Pp 0,Pp 1,Ii r_1] [Vb 26 (z0 h_1),Vb 31 [.nilsl,.nilsl,.nilsl,.own 2 0],Rb 59 4 []] zG (ar ([xO h_1]:List AV) (ac (rfl:([]:List zN)=[]) (ac (zI5 F h_1 r_1 h_2:zV prog 27 [] [] [xO h_1] [] (Ii r_1)) an))) ?_
 refine sr [] [1,2,4,6,18] [0,1,2] 3 [.sl false 4 (Mp zA l_1),Pp 0,Pp 1,Ii r_1,.bool (r_1 != (0:Int))] [Vb 26 (z0 h_1),Vb 31 [.nilsl,.nilsl,.nilsl,.own 2 0],Rb 59 4 []] zG an ?_
 refine cd 18 (r_1 != (0:Int)) ?_ ?_
 ·intro g_1;replace h:=zS g_1 h
  refine sr [] [4,5] [1] 3 [Pp 1,Ii r_1] [Vb 31 [.nilsl,.nilsl,.nilsl,.nilsl]] zG an ?_
  refine kF (pT 1 3 3 59 4 (by kernel_rfl)) ?_
  refine wk [1,3] [] [.s 4,.s 5] [.s 0,.s 1] [(4,Pp 0),(5,Ii r_1)] [(0,Vb 31 [.nilsl,.nilsl,.nilsl,.own 1 0]),(1,Rb 59 4 [])] an ?_
  refine wk [0] [1] [.s 4,.s 5] [.a 0 (Vb 31 [.sl false 3 (Mp zF (((⟨(⟨[],[],[]⟩:zR),[]⟩:zX).Head).Threads)),.sl false 2 (Mp zD (((⟨(⟨[],[],[]⟩:zR),[]⟩:zX).Head).Domains)),.sl false 5 (Mp zO (((⟨(⟨[],[],[]⟩:zR),[]⟩:zX).Head).Snaps)),.sl false 4 (Mp zA ((⟨(⟨[],[],[]⟩:zR),[]⟩:zX).Parts))])] [(4,Pp 0),(5,Ii r_1)] [(0,Vb 31 [.sl false 3 (Mp zF (((⟨(⟨[],[],[]⟩:zR),[]⟩:zX).Head).Threads)),.sl false 2 (Mp zD (((⟨(⟨[],[],[]⟩:zR),[]⟩:zX).Head).Domains)),.sl false 5 (Mp zO (((⟨(⟨[],[],[]⟩:zR),[]⟩:zX).Head).Snaps)),.sl false 4 (Mp zA ((⟨(⟨[],[],[]⟩:zR),[]⟩:zX).Parts))])] (ar 31 (ac (rfl:uO [.sl false 3 (Mp zF (((⟨(⟨[],[],[]⟩:zR),[]⟩:zX).Head).Threads)),.sl false 2 (Mp zD (((⟨(⟨[],[],[]⟩:zR),[]⟩:zX).Head).Domains)),.sl false 5 (Mp zO (((⟨(⟨[],[],[]⟩:zR),[]⟩:zX).Head).Snaps)),.sl false 4 (Mp zA ((⟨(⟨[],[],[]⟩:zR),[]⟩:zX).Parts))]=true) (ac (by first | (simp;done) | (simp;omega):0=(([]:List AV)).length) (ac (rfl:((Mp zF (((⟨(⟨[],[],[]⟩:zR),[]⟩:zX).Head).Threads)):List AV)=[]) (ac (rfl:((Mp zD (((⟨(⟨[],[],[]⟩:zR),[]⟩:zX).Head).Domains)):List AV)=[]) (ac (rfl:((Mp zO (((⟨(⟨[],[],[]⟩:zR),[]⟩:zX).Head).Snaps)):List AV)=[]) (ar 4 (ac (rfl:([]:List AV)=(Mp zA ((⟨(⟨[],[],[]⟩:zR),[]⟩:zX).Parts))) (ac (rfl:(!false||false)=true) an))))))))) ?_
  refine rt ?_
  cases h
  exact ⟨.inr rfl,Nat.le_of_ble_eq_true rfl,by kernel_rfl⟩
 intro g_1;replace h:=zT g_1 h
 refine sk ?_
 refine sq ?_
 refine sq ?_
 obtain ⟨r_2,h_3,h⟩:=bind_some h
 refine rg [(2,{ av:=Ii r_2,l:=[xO h_1,.sl false 4 (Mp zA l_1)] })] [1,2,4,7] [0,1,2] 3 [.sl false 4 (Mp zA l_1),Pp 0,Pp 1,Ii r_2] [Vb 26 (z0 h_1),Vb 31 [.nilsl,.nilsl,.nilsl,.own 2 0],Rb 59 4 []] zG (ar ([xO h_1,.sl false 4 (Mp zA l_1)]:List AV) (ac (rfl:([]:List zN)=[]) (ac (zHP F h_1 l_1 r_2 h_3:zV prog 28 [] [] [xO h_1,.sl false 4 (Mp zA l_1)] [] (Ii r_2)) an))) ?_
 refine sr [] [1,2,4,7,25] [0,1,2] 3 [.sl false 4 (Mp zA l_1),Pp 0,Pp 1,Ii r_2,.bool (r_2 != (0:Int))] [Vb 26 (z0 h_1),Vb 31 [.nilsl,.nilsl,.nilsl,.own 2 0],Rb 59 4 []] zG an ?_
 refine cd 25 (r_2 != (0:Int)) ?_ ?_
 ·intro g_2;replace h:=zS g_2 h
  refine sr [] [4,5] [1] 3 [Pp 1,Ii r_2] [Vb 31 [.nilsl,.nilsl,.nilsl,.nilsl]] zG an ?_
  refine kF (pT 1 3 3 59 4 (by kernel_rfl)) ?_
  refine wk [1,3] [] [.s 4,.s 5] [.s 0,.s 1] [(4,Pp 0),(5,Ii r_2)] [(0,Vb 31 [.nilsl,.nilsl,.nilsl,.own 1 0]),(1,Rb 59 4 [])] an ?_
  refine wk [0] [1] [.s 4,.s 5] [.a 0 (Vb 31 [.sl false 3 (Mp zF (((⟨(⟨[],[],[]⟩:zR),[]⟩:zX).Head).Threads)),.sl false 2 (Mp zD (((⟨(⟨[],[],[]⟩:zR),[]⟩:zX).Head).Domains)),.sl false 5 (Mp zO (((⟨(⟨[],[],[]⟩:zR),[]⟩:zX).Head).Snaps)),.sl false 4 (Mp zA ((⟨(⟨[],[],[]⟩:zR),[]⟩:zX).Parts))])] [(4,Pp 0),(5,Ii r_2)] [(0,Vb 31 [.sl false 3 (Mp zF (((⟨(⟨[],[],[]⟩:zR),[]⟩:zX).Head).Threads)),.sl false 2 (Mp zD (((⟨(⟨[],[],[]⟩:zR),[]⟩:zX).Head).Domains)),.sl false 5 (Mp zO (((⟨(⟨[],[],[]⟩:zR),[]⟩:zX).Head).Snaps)),.sl false 4 (Mp zA ((⟨(⟨[],[],[]⟩:zR),[]⟩:zX).Parts))])] (ar 31 (ac (rfl:uO [.sl false 3 (Mp zF (((⟨(⟨[],[],[]⟩:zR),[]⟩:zX).Head).Threads)),.sl false 2 (Mp zD (((⟨(⟨[],[],[]⟩:zR),[]⟩:zX).Head).Domains)),.sl false 5 (Mp zO (((⟨(⟨[],[],[]⟩:zR),[]⟩:zX).Head).Snaps)),.sl false 4 (Mp zA ((⟨(⟨[],[],[]⟩:zR),[]⟩:zX).Parts))]=true) (ac (by first | (simp;done) | (simp;omega):0=(([]:List AV)).length) (ac (rfl:((Mp zF (((⟨(⟨[],[],[]⟩:zR),[]⟩:zX).Head).Threads)):List AV)=[]) (ac (rfl:((Mp zD (((⟨(⟨[],[],[]⟩:zR),[]⟩:zX).Head).Domains)):List AV)=[]) (ac (rfl:((Mp zO (((⟨(⟨[],[],[]⟩:zR),[]⟩:zX).Head).Snaps)):List AV)=[]) (ar 4 (ac (rfl:([]:List AV)=(Mp zA ((⟨(⟨[],[],[]⟩:zR),[]⟩:zX).Parts))) (ac (rfl:(!false||false)=true) an))))))))) ?_
  refine rt ?_
  cases h
  exact ⟨.inr rfl,Nat.le_of_ble_eq_true rfl,by kernel_rfl⟩
 intro g_2;replace h:=zT g_2 h
 refine sk ?_
 refine sr [(0,{ id:=3,mag:=false,mks:=[.int .i64] })] [1,2,4,8] [0,1,2,3] 4 [.sl false 4 (Mp zA l_1),Pp 0,Pp 1,.mp 3] [Vb 26 (z0 h_1),Vb 31 [.nilsl,.nilsl,.nilsl,.own 2 0],Rb 59 4 [],.live (.map false [.int .i64] [])] zG an ?_
 refine zIV 3 4 (ag:=false) (ks:=[.int .i64]) (.nm 59 4 42 6) (by kernel_rfl) (by kernel_rfl) (zM6 (by kernel_rfl)) ?_
 intro b_1
 refine wk [0,1,2,4] [] [.s 1,.s 2,.s 4,.s 8] [.s 0,.s 1,.s 2,.s 3] [(1,.sl false 4 (Mp zA l_1)),(2,Pp 0),(4,Pp 1),(8,.rawm b_1)] [(0,Vb 26 (z0 h_1)),(1,Vb 31 [.nilsl,.nilsl,.nilsl,.own 2 0]),(2,Rb 59 4 []),(3,.live (.fam (.cl b_1 false [.int .i64] (.nm 59 4 42 6) (List.map (mpE (AV.int .i64) yR) ([]:List (Int×(List (zB))))))))] an ?_
 refine sq ?_
 refine sr [(1,{ n:=(l_1).length })] [2,4,8,29,30,31] [0,1,2,3] 4 [Pp 0,Pp 1,.rawm b_1,.sl false 4 (Mp zA l_1),Ii (lN (l_1)),Ii 0] [Vb 26 (z0 h_1),Vb 31 [.nilsl,.nilsl,.nilsl,.own 2 0],Rb 59 4 [],.live (.fam (.cl b_1 false [.int .i64] (.nm 59 4 42 6) (List.map (mpE (AV.int .i64) yR) ([]:List (Int×(List (zB)))))))] zG (ac (yL _:((Mp zA l_1)).length=(l_1).length) an) ?_
 obtain ⟨o_1,h_4,h⟩:=bind_some h
 refine wI (mk [(2,Pp 0),(4,Pp 1),(8,.rawm b_1)] [(0,Vb 26 (z0 h_1)),(1,Vb 31 [.nilsl,.nilsl,.nilsl,.own 2 0]),(2,Rb 59 4 []),(3,.live (.fam (.cl b_1 false [.int .i64] (.nm 59 4 42 6) (List.map (mpE (AV.int .i64) yR) o_1))))] 4) ?_ ?_
 ·replace h:=h_4
  refine yN (id:=0) (by kernel_rfl) ?_
  refine wk [0,1,2,3] [] [.s 2,.s 4,.s 8,.s 29,.s 30,.s 31] [.s 0,.s 1,.s 2,.s 3] [(2,Pp 0),(4,Pp 1),(8,.rawm b_1),(29,.sl false 4 (Mp zA l_1)),(30,Ii (lN (l_1))),(31,Ii 0)] [(0,Vb 26 (z0 h_1)),(1,Vb 31 [.nilsl,.nilsl,.nilsl,.own 2 0]),(2,Rb 59 4 []),(3,.live (.fam (.cl b_1 false [.int .i64] (.nm 59 4 42 6) (List.map (mpE (AV.int .i64) yR) ([]:List (Int×(List (zB))))))))] an ?_
  refine wE (fun n st=>∃ (v_1:Int),∃ (zC:List (Int×(List (zB)))),st=mk [(2,Pp 0),(4,Pp 1),(8,.rawm b_1),(29,.sl false 4 (Mp zA l_1)),(30,Ii (lN (l_1))),(31,Ii v_1)] [(0,Vb 26 (z0 h_1)),(1,Vb 31 [.nilsl,.nilsl,.nilsl,.own 2 0]),(2,Rb 59 4 []),(3,.live (.fam (.cl b_1 false [.int .i64] (.nm 59 4 42 6) (List.map (mpE (AV.int .i64) yR) zC))))] 4∧kL F l_1 n v_1 zC=some o_1) F (by kernel_rfl) ⟨_,_,rfl,h⟩ ?_ ?_
  ·rintro _ ⟨_,_,_,h⟩;exact wO (h:(none:Option (List (Int×(List (zB)))))=some o_1)
  rintro n_1 _ ⟨v_1,zC,rfl,h⟩
  replace h:j5 F l_1 (kL F l_1 n_1) v_1 zC=some o_1:=h
  unfold j5 at h
  refine sr [] [2,4,8,29,30,31,32] [0,1,2,3] 4 [Pp 0,Pp 1,.rawm b_1,.sl false 4 (Mp zA l_1),Ii (lN (l_1)),Ii v_1,.bool (decide (v_1<(lN (l_1))))] [Vb 26 (z0 h_1),Vb 31 [.nilsl,.nilsl,.nilsl,.own 2 0],Rb 59 4 [],.live (.fam (.cl b_1 false [.int .i64] (.nm 59 4 42 6) (List.map (mpE (AV.int .i64) yR) zC)))] zG an ?_
  refine sq ?_
  refine cd 32 (decide (v_1<(lN (l_1)))) ?_ ?_
  rotate_left
  ·intro g_3;replace h:=zT g_3 h
   refine wJ (id:=0) (by kernel_rfl) ?_
   cases h
   exact ⟨rfl,(sw [0,1,2,3] [] [.s 2,.s 4,.s 8] [.s 0,.s 1,.s 2,.s 3] an)⟩
  intro g_3;replace h:=zS g_3 h
  refine sk ?_
  refine sq ?_
  refine yN (id:=1) (by kernel_rfl) ?_
  refine sq ?_
  obtain ⟨x_1,h_5,h⟩:=bind_some h
  refine rg [(0,{ av:=zA x_1 }),(2,{ id:=4 })] [2,4,8,10,29,30,31] [0,1,2,3,4] 5 [Pp 0,Pp 1,.rawm b_1,Pp 4,.sl false 4 (Mp zA l_1),Ii (lN (l_1)),Ii v_1] [Vb 26 (z0 h_1),Vb 31 [.nilsl,.nilsl,.nilsl,.own 2 0],Rb 59 4 [],.live (.fam (.cl b_1 false [.int .i64] (.nm 59 4 42 6) (List.map (mpE (AV.int .i64) yR) zC))),Vb 59 (zZ x_1)] zG (ac (xZ h_5:wV (Mp zA l_1) v_1=some (zA x_1)) an) ?_
  refine sr [(3,{ av:=(yR ((yD zC x_1.Thread).getD [])),dep:=true,g:=(yD zC x_1.Thread).isSome,ids:=[5,6],l:=(yG (lst ([]:List zB))),n:=3,x:=true })] [2,4,8,10,11,29,30,31] [0,1,2,3,4,5,6] 7 [Pp 0,Pp 1,.rawm b_1,Pp 4,.own 5 ((Mp zA (ini ((yD zC x_1.Thread).getD []))).length+bif (!(((yD zC x_1.Thread).getD [])).isEmpty) then 1 else 0),.sl false 4 (Mp zA l_1),Ii (lN (l_1)),Ii v_1] [Vb 26 (z0 h_1),Vb 31 [.nilsl,.nilsl,.nilsl,.own 2 0],Rb 59 4 [],.live (.fam (.op b_1 false [.int .i64] (.nm 59 4 42 6) (List.map (mpE (AV.int .i64) yR) zC) (Ii x_1.Thread))),Vb 59 (zZ x_1),.live (.rowQ 59 4 (Mp zA (ini ((yD zC x_1.Thread).getD []))) (!(((yD zC x_1.Thread).getD [])).isEmpty) (yG (lst ((yD zC x_1.Thread).getD []))++[.own 6 (Mp zE (lst ((yD zC x_1.Thread).getD [])).Events).length])),Rb 42 6 (Mp zE (lst ((yD zC x_1.Thread).getD [])).Events)] zG (ar b_1 (ac (zAt:vU prog 3 false [.int .i64]) (ac (zD1 (f:=(AV.int .i64)) (g:=yR) zAn zC x_1.Thread []:jY (List.map (mpE (AV.int .i64) yR) zC) (Ii x_1.Thread) (zKG (.nm 59 4 42 6) (yG (lst ([]:List zB)))) (yR ((yD zC x_1.Thread).getD [])) (yD zC x_1.Thread).isSome) an))) ?_
  refine wk [0,1,2,3,4,5,6] [] [.s 2,.s 4,.s 8,.s 10,.a 11 (.own 5 ((((yD zC x_1.Thread).getD [])).length)),.s 29,.s 30,.s 31] [.s 0,.s 1,.s 2,.s 3,.s 4,.a 5 (.live (.rowQ 59 4 (Mp zA (ini ((yD zC x_1.Thread).getD []))) (!(((yD zC x_1.Thread).getD [])).isEmpty) (yG (lst ((yD zC x_1.Thread).getD []))++[.own 6 ((lst ((yD zC x_1.Thread).getD [])).Events).length]))),.s 6] [(2,Pp 0),(4,Pp 1),(8,.rawm b_1),(10,Pp 4),(11,.own 5 ((((yD zC x_1.Thread).getD [])).length)),(29,.sl false 4 (Mp zA l_1)),(30,Ii (lN (l_1))),(31,Ii v_1)] [(0,Vb 26 (z0 h_1)),(1,Vb 31 [.nilsl,.nilsl,.nilsl,.own 2 0]),(2,Rb 59 4 []),(3,.live (.fam (.op b_1 false [.int .i64] (.nm 59 4 42 6) (List.map (mpE (AV.int .i64) yR) zC) (Ii x_1.Thread)))),(4,Vb 59 (zZ x_1)),(5,.live (.rowQ 59 4 (Mp zA (ini ((yD zC x_1.Thread).getD []))) (!(((yD zC x_1.Thread).getD [])).isEmpty) (yG (lst ((yD zC x_1.Thread).getD []))++[.own 6 ((lst ((yD zC x_1.Thread).getD [])).Events).length]))),(6,Rb 42 6 (Mp zE (lst ((yD zC x_1.Thread).getD [])).Events))] (ac (congrArg (AV.own _) (zM4 _ _):(.own 5 ((Mp zA (ini ((yD zC x_1.Thread).getD []))).length+bif (!(((yD zC x_1.Thread).getD [])).isEmpty) then 1 else 0):AV)=.own 5 ((((yD zC x_1.Thread).getD [])).length)) (ar 59 (ar 4 (ar (Mp zA (ini ((yD zC x_1.Thread).getD [])):List AV) (ar (!(((yD zC x_1.Thread).getD [])).isEmpty) (ac (rfl:uO (yG (lst ((yD zC x_1.Thread).getD []))++[.own 6 ((lst ((yD zC x_1.Thread).getD [])).Events).length])=true) (ac (rfl:(Ii ((lst ((yD zC x_1.Thread).getD [])).Thread):AV)=Ii ((lst ((yD zC x_1.Thread).getD [])).Thread)) (ac (rfl:(Ii ((lst ((yD zC x_1.Thread).getD [])).Serial):AV)=Ii ((lst ((yD zC x_1.Thread).getD [])).Serial)) (ac (rfl:(Ii ((lst ((yD zC x_1.Thread).getD [])).Lost):AV)=Ii ((lst ((yD zC x_1.Thread).getD [])).Lost)) (ac (congrArg (AV.own _) (List.length_map _):(.own 6 (Mp zE (lst ((yD zC x_1.Thread).getD [])).Events).length:AV)=.own 6 ((lst ((yD zC x_1.Thread).getD [])).Events).length) an)))))))))) ?_
  refine sq ?_
  refine sq ?_
  refine wI (mk [(2,Pp 0),(4,Pp 1),(8,.rawm b_1),(10,Pp 4),(11,.own 5 ((((yD zC x_1.Thread).getD [])).length)),(29,.sl false 4 (Mp zA l_1)),(30,Ii (lN (l_1))),(31,Ii v_1),(46,.bool (decide (x_1.Lost>(0:Int))||((lN (((yD zC x_1.Thread).getD [])))==(0:Int))))] [(0,Vb 26 (z0 h_1)),(1,Vb 31 [.nilsl,.nilsl,.nilsl,.own 2 0]),(2,Rb 59 4 []),(3,.live (.fam (.op b_1 false [.int .i64] (.nm 59 4 42 6) (List.map (mpE (AV.int .i64) yR) zC) (Ii x_1.Thread)))),(4,Vb 59 (zZ x_1)),(5,.live (.rowQ 59 4 (Mp zA (ini ((yD zC x_1.Thread).getD []))) (!(((yD zC x_1.Thread).getD [])).isEmpty) (yG (lst ((yD zC x_1.Thread).getD []))++[.own 6 ((lst ((yD zC x_1.Thread).getD [])).Events).length]))),(6,Rb 42 6 (Mp zE (lst ((yD zC x_1.Thread).getD [])).Events))] 7) ?_ ?_
  ·rcases bft (decide (x_1.Lost>(0:Int))) with z6 | z6
   ·refine rg [(4,Hg),(5,Hg),(6,Hg),(7,Ht)] [2,4,8,10,11,29,30,31,43,44,45,46] [0,1,2,3,4,5,6] 7 [Pp 0,Pp 1,.rawm b_1,Pp 4,.own 5 ((((yD zC x_1.Thread).getD [])).length),.sl false 4 (Mp zA l_1),Ii (lN (l_1)),Ii v_1,.tuple [],.tuple [],.tuple [],.bool true] [Vb 26 (z0 h_1),Vb 31 [.nilsl,.nilsl,.nilsl,.own 2 0],Rb 59 4 [],.live (.fam (.op b_1 false [.int .i64] (.nm 59 4 42 6) (List.map (mpE (AV.int .i64) yR) zC) (Ii x_1.Thread))),Vb 59 (zZ x_1),.live (.rowQ 59 4 (Mp zA (ini ((yD zC x_1.Thread).getD []))) (!(((yD zC x_1.Thread).getD [])).isEmpty) (yG (lst ((yD zC x_1.Thread).getD []))++[.own 6 ((lst ((yD zC x_1.Thread).getD [])).Events).length])),Rb 42 6 (Mp zE (lst ((yD zC x_1.Thread).getD [])).Events)] zG (ac z6 (ac z6 (ac z6 (ac z6 an)))) ?_
    exact ⟨rfl,(sw [0,1,2,3,4,5,6] [] [.s 2,.s 4,.s 8,.s 10,.s 11,.s 29,.s 30,.s 31,.a 46 (.bool (decide (x_1.Lost>(0:Int))||((lN (((yD zC x_1.Thread).getD [])))==(0:Int))))] [.s 0,.s 1,.s 2,.s 3,.s 4,.s 5,.s 6] (ac (congrArg AV.bool (ort z6):(.bool true:AV)=.bool (decide (x_1.Lost>(0:Int))||((lN (((yD zC x_1.Thread).getD [])))==(0:Int)))) an))⟩
   ·refine rg [(7,Hf)] [2,4,8,10,11,29,30,31,43,44,45,46] [0,1,2,3,4,5,6] 7 [Pp 0,Pp 1,.rawm b_1,Pp 4,.own 5 ((((yD zC x_1.Thread).getD [])).length),.sl false 4 (Mp zA l_1),Ii (lN (l_1)),Ii v_1,.own 5 ((((yD zC x_1.Thread).getD [])).length),Ii (lN (((yD zC x_1.Thread).getD []))),.bool ((lN (((yD zC x_1.Thread).getD [])))==(0:Int)),.bool ((lN (((yD zC x_1.Thread).getD [])))==(0:Int))] [Vb 26 (z0 h_1),Vb 31 [.nilsl,.nilsl,.nilsl,.own 2 0],Rb 59 4 [],.live (.fam (.op b_1 false [.int .i64] (.nm 59 4 42 6) (List.map (mpE (AV.int .i64) yR) zC) (Ii x_1.Thread))),Vb 59 (zZ x_1),.live (.rowQ 59 4 (Mp zA (ini ((yD zC x_1.Thread).getD []))) (!(((yD zC x_1.Thread).getD [])).isEmpty) (yG (lst ((yD zC x_1.Thread).getD []))++[.own 6 ((lst ((yD zC x_1.Thread).getD [])).Events).length])),Rb 42 6 (Mp zE (lst ((yD zC x_1.Thread).getD [])).Events)] zG (ac z6 (ac z6 (ac z6 (ac z6 an)))) ?_
    exact ⟨rfl,(sw [0,1,2,3,4,5,6] [] [.s 2,.s 4,.s 8,.s 10,.s 11,.s 29,.s 30,.s 31,.a 46 (.bool (decide (x_1.Lost>(0:Int))||((lN (((yD zC x_1.Thread).getD [])))==(0:Int))))] [.s 0,.s 1,.s 2,.s 3,.s 4,.s 5,.s 6] (ac (congrArg AV.bool (orf z6 rfl):(.bool ((lN (((yD zC x_1.Thread).getD [])))==(0:Int)):AV)=.bool (decide (x_1.Lost>(0:Int))||((lN (((yD zC x_1.Thread).getD [])))==(0:Int)))) an))⟩
  obtain ⟨o_2,h_6,h⟩:=bind_some h
  refine wI (mk [(2,Pp 0),(4,Pp 1),(8,.rawm b_1),(10,Pp 4),(11,.own 5 ((o_2).length)),(29,.sl false 4 (Mp zA l_1)),(30,Ii (lN (l_1))),(31,Ii v_1)] [(0,Vb 26 (z0 h_1)),(1,Vb 31 [.nilsl,.nilsl,.nilsl,.own 2 0]),(2,Rb 59 4 []),(3,.live (.fam (.op b_1 false [.int .i64] (.nm 59 4 42 6) (List.map (mpE (AV.int .i64) yR) zC) (Ii x_1.Thread)))),(4,Vb 59 (zZ x_1)),(5,.live (.rowQ 59 4 (Mp zA (ini o_2)) (!(o_2).isEmpty) (yG (lst o_2)++[.own 6 ((lst o_2).Events).length]))),(6,Rb 42 6 (Mp zE (lst o_2).Events))] 7) ?_ ?_
  ·replace h:=h_6
   refine cd 46 (decide (x_1.Lost>(0:Int))||((lN (((yD zC x_1.Thread).getD [])))==(0:Int))) ?_ ?_
   rotate_left
   ·intro g_4;replace h:=zT g_4 h
    refine sk ?_
    cases h
    exact ⟨rfl,(sw [0,1,2,3,4,5,6] [] [.s 2,.s 4,.s 8,.s 10,.s 11,.s 29,.s 30,.s 31] [.s 0,.s 1,.s 2,.s 3,.s 4,.s 5,.s 6] an)⟩
   intro g_4;replace h:=zS g_4 h
   refine kF (zIe (e:=59) (sz:=4) 5 6 (Mp zA ((yD zC x_1.Thread).getD [])) (by kernel_rfl) (ac ((List.length_map _).symm:((lst ((yD zC x_1.Thread).getD [])).Events).length=(Mp zE (lst ((yD zC x_1.Thread).getD [])).Events:List AV).length) (ac (zIm zA ((yD zC x_1.Thread).getD []) _ rfl:(Mp zA ((yD zC x_1.Thread).getD []):List AV)=List.map zA (ini ((yD zC x_1.Thread).getD []))++bif (!(((yD zC x_1.Thread).getD [])).isEmpty) then [.agg (yG (lst ((yD zC x_1.Thread).getD []))++[.sl false 6 (Mp zE (lst ((yD zC x_1.Thread).getD [])).Events)])] else []) an))) ?_
   refine wk [0,1,2,3,4,5] [] [.s 2,.s 4,.s 8,.s 10,.s 11,.s 29,.s 30,.s 31] [.s 0,.s 1,.s 2,.s 3,.s 4,.s 5] [(2,Pp 0),(4,Pp 1),(8,.rawm b_1),(10,Pp 4),(11,.own 5 ((((yD zC x_1.Thread).getD [])).length)),(29,.sl false 4 (Mp zA l_1)),(30,Ii (lN (l_1))),(31,Ii v_1)] [(0,Vb 26 (z0 h_1)),(1,Vb 31 [.nilsl,.nilsl,.nilsl,.own 2 0]),(2,Rb 59 4 []),(3,.live (.fam (.op b_1 false [.int .i64] (.nm 59 4 42 6) (List.map (mpE (AV.int .i64) yR) zC) (Ii x_1.Thread)))),(4,Vb 59 (zZ x_1)),(5,Rb 59 4 (Mp zA ((yD zC x_1.Thread).getD [])))] an ?_
   obtain ⟨_,h_7,h⟩:=bind_some h;replace h_7:=vF h_7
   refine rg [(8,{ id:=6 }),(9,{ id:=7,l:=(Mp zA ((yD zC x_1.Thread).getD [])++[.agg [Ii x_1.Thread,Ii x_1.Serial,Ii x_1.Lost,.nilsl]]),n:=((((yD zC x_1.Thread).getD [])).length+1) })] [2,4,8,10,11,29,30,31] [0,1,2,3,4,7] 8 [Pp 0,Pp 1,.rawm b_1,Pp 4,.own 7 ((((yD zC x_1.Thread).getD [])).length+1),.sl false 4 (Mp zA l_1),Ii (lN (l_1)),Ii v_1] [Vb 26 (z0 h_1),Vb 31 [.nilsl,.nilsl,.nilsl,.own 2 0],Rb 59 4 [],.live (.fam (.op b_1 false [.int .i64] (.nm 59 4 42 6) (List.map (mpE (AV.int .i64) yR) zC) (Ii x_1.Thread))),Vb 59 (zZ x_1),Rb 59 4 (Mp zA ((yD zC x_1.Thread).getD [])++[.agg [Ii x_1.Thread,Ii x_1.Serial,Ii x_1.Lost,.nilsl]])] zG (ac ((List.length_map _).symm:(((yD zC x_1.Thread).getD [])).length=(Mp zA ((yD zC x_1.Thread).getD [])).length) (ac (rfl:1=([.agg [Ii x_1.Thread,Ii x_1.Serial,Ii x_1.Lost,.nilsl]]:List AV).length) (ac (rfl:((Mp zA ((yD zC x_1.Thread).getD [])++[.agg [Ii x_1.Thread,Ii x_1.Serial,Ii x_1.Lost,.nilsl]]):List AV)=List.map zA ((yD zC x_1.Thread).getD [])++[.agg [Ii x_1.Thread,Ii x_1.Serial,Ii x_1.Lost,.nilsl]]) (ac (by simp:((((yD zC x_1.Thread).getD [])).length+1)=((List.map zA ((yD zC x_1.Thread).getD [])++[.agg [Ii x_1.Thread,Ii x_1.Serial,Ii x_1.Lost,.nilsl]]):List AV).length) (ac (by rw [List.length_map];exact h_7:((List.map zA ((yD zC x_1.Thread).getD []):List AV).length+([.agg [Ii x_1.Thread,Ii x_1.Serial,Ii x_1.Lost,.nilsl]]:List AV).length) * 48≤140737488355328) an))))) ?_
   cases h
   exact ⟨rfl,(Sub.trans (zFx (e:=59) (sz:=4) 7 8 42 6 (Mp zA ((yD zC x_1.Thread).getD [])) [Ii x_1.Thread,Ii x_1.Serial,Ii x_1.Lost] (by kernel_rfl) (ac (rfl:(Mp zA ((yD zC x_1.Thread).getD [])++[.agg [Ii x_1.Thread,Ii x_1.Serial,Ii x_1.Lost,.nilsl]]:List AV)=List.map zA ((yD zC x_1.Thread).getD [])++[.agg ([Ii x_1.Thread,Ii x_1.Serial,Ii x_1.Lost]++[.nilsl])]) an)) (Sub.trans (zGv [0,1,2,3,4,7,8] [] [.s 2,.s 4,.s 8,.s 10,.a 11 (.own 5 (((((yD zC x_1.Thread).getD [])++[(⟨x_1.Thread,x_1.Serial,x_1.Lost,[]⟩:zB)])).length)),.s 29,.s 30,.s 31] [.s 0,.s 1,.s 2,.s 3,.s 4,.a 5 (.live (.rowQ 59 4 (Mp zA (ini (((yD zC x_1.Thread).getD [])++[(⟨x_1.Thread,x_1.Serial,x_1.Lost,[]⟩:zB)]))) (!((((yD zC x_1.Thread).getD [])++[(⟨x_1.Thread,x_1.Serial,x_1.Lost,[]⟩:zB)])).isEmpty) (yG (lst (((yD zC x_1.Thread).getD [])++[(⟨x_1.Thread,x_1.Serial,x_1.Lost,[]⟩:zB)]))++[.own 6 ((lst (((yD zC x_1.Thread).getD [])++[(⟨x_1.Thread,x_1.Serial,x_1.Lost,[]⟩:zB)])).Events).length]))),.a 6 (Rb 42 6 (Mp zE (lst (((yD zC x_1.Thread).getD [])++[(⟨x_1.Thread,x_1.Serial,x_1.Lost,[]⟩:zB)])).Events))] (sl2:=[(2,Pp 0),(4,Pp 1),(8,.rawm b_1),(10,Pp 4),(11,.own 5 (((((yD zC x_1.Thread).getD [])++[(⟨x_1.Thread,x_1.Serial,x_1.Lost,[]⟩:zB)])).length)),(29,.sl false 4 (Mp zA l_1)),(30,Ii (lN (l_1))),(31,Ii v_1)]) (bx2:=[(0,Vb 26 (z0 h_1)),(1,Vb 31 [.nilsl,.nilsl,.nilsl,.own 2 0]),(2,Rb 59 4 []),(3,.live (.fam (.op b_1 false [.int .i64] (.nm 59 4 42 6) (List.map (mpE (AV.int .i64) yR) zC) (Ii x_1.Thread)))),(4,Vb 59 (zZ x_1)),(5,.live (.rowQ 59 4 (Mp zA (ini (((yD zC x_1.Thread).getD [])++[(⟨x_1.Thread,x_1.Serial,x_1.Lost,[]⟩:zB)]))) (!((((yD zC x_1.Thread).getD [])++[(⟨x_1.Thread,x_1.Serial,x_1.Lost,[]⟩:zB)])).isEmpty) (yG (lst (((yD zC x_1.Thread).getD [])++[(⟨x_1.Thread,x_1.Serial,x_1.Lost,[]⟩:zB)]))++[.own 6 ((lst (((yD zC x_1.Thread).getD [])++[(⟨x_1.Thread,x_1.Serial,x_1.Lost,[]⟩:zB)])).Events).length]))),(6,Rb 42 6 (Mp zE (lst (((yD zC x_1.Thread).getD [])++[(⟨x_1.Thread,x_1.Serial,x_1.Lost,[]⟩:zB)])).Events))]) (by kernel_rfl) (ac (congrArg (AV.own _) (by first | (simp;done) | (simp;omega)):(.own 7 ((((yD zC x_1.Thread).getD [])).length+1):AV)=.own 7 (((((yD zC x_1.Thread).getD [])++[(⟨x_1.Thread,x_1.Serial,x_1.Lost,[]⟩:zB)])).length)) (ar 59 (ar 4 (ac ((congrArg (List.map _) (jC _ _)).symm:((Mp zA ((yD zC x_1.Thread).getD [])):List AV)=List.map zA (ini (((yD zC x_1.Thread).getD [])++[(⟨x_1.Thread,x_1.Serial,x_1.Lost,[]⟩:zB)]))) (ac ((zH2 _ _).symm:true=(!((((yD zC x_1.Thread).getD [])++[(⟨x_1.Thread,x_1.Serial,x_1.Lost,[]⟩:zB)])).isEmpty)) (ac (rfl:uO (yG (lst (((yD zC x_1.Thread).getD [])++[(⟨x_1.Thread,x_1.Serial,x_1.Lost,[]⟩:zB)]))++[.own 8 ((lst (((yD zC x_1.Thread).getD [])++[(⟨x_1.Thread,x_1.Serial,x_1.Lost,[]⟩:zB)])).Events).length])=true) (ac (by first | (simp only [y6];done) | simp [y6]:(Ii x_1.Thread:AV)=Ii ((lst (((yD zC x_1.Thread).getD [])++[(⟨x_1.Thread,x_1.Serial,x_1.Lost,[]⟩:zB)])).Thread)) (ac (by first | (simp only [y6];done) | simp [y6]:(Ii x_1.Serial:AV)=Ii ((lst (((yD zC x_1.Thread).getD [])++[(⟨x_1.Thread,x_1.Serial,x_1.Lost,[]⟩:zB)])).Serial)) (ac (by first | (simp only [y6];done) | simp [y6]:(Ii x_1.Lost:AV)=Ii ((lst (((yD zC x_1.Thread).getD [])++[(⟨x_1.Thread,x_1.Serial,x_1.Lost,[]⟩:zB)])).Lost)) (ac (congrArg (AV.own _) (by first | (simp only [y6];done) | simp [y6]):(.own 8 0:AV)=.own 8 (((lst (((yD zC x_1.Thread).getD [])++[(⟨x_1.Thread,x_1.Serial,x_1.Lost,[]⟩:zB)])).Events).length)) (ar 42 (ar 6 (ac (by first | (simp only [y6];done) | simp [y6]:([]:List AV)=List.map zE (lst (((yD zC x_1.Thread).getD [])++[(⟨x_1.Thread,x_1.Serial,x_1.Lost,[]⟩:zB)])).Events) an)))))))))))))) (sw [0,1,2,3,4,5,6] [] [.s 2,.s 4,.s 8,.s 10,.s 11,.s 29,.s 30,.s 31] [.s 0,.s 1,.s 2,.s 3,.s 4,.s 5,.s 6] an)))⟩
  obtain ⟨r_3,h_8,h⟩:=bind_some h
  obtain ⟨_,h_9,h⟩:=bind_some h;replace h_9:=vF h_9
  refine rg [(6,{ av:=(.own 0 (r_3).length),gids:=[5,6],giv:=[(.rowQ 59 4 (Mp zA (ini o_2)) (!(o_2).isEmpty) (yG (lst o_2)++[.own 1 ((lst o_2).Events).length])),(.row 42 6 (Mp zE (lst o_2).Events))],ids:=[7,8],l:=[.own 0 (o_2).length,.sl false 6 (Mp zE x_1.Events)],post:=[(.rowQ 59 4 (Mp zA (ini r_3)) (!(r_3).isEmpty) (yG (lst r_3)++[.own 1 ((lst r_3).Events).length])),(.row 42 6 (Mp zE (lst r_3).Events))] }),(7,{ av:=(yR r_3),dep:=true,es:=(List.map (mpE (AV.int .i64) yR) (uH zC x_1.Thread r_3)),ids:=[7,8],n:=3,x:=true })] [2,4,8,29,30,31] [0,1,2,3] 9 [Pp 0,Pp 1,.rawm b_1,.sl false 4 (Mp zA l_1),Ii (lN (l_1)),Ii v_1] [Vb 26 (z0 h_1),Vb 31 [.nilsl,.nilsl,.nilsl,.own 2 0],Rb 59 4 [],.live (.fam (.cl b_1 false [.int .i64] (.nm 59 4 42 6) (List.map (mpE (AV.int .i64) yR) (uH zC x_1.Thread r_3))))] zG (ar ([.own 5 ((o_2).length),.sl false 6 (Mp zE x_1.Events)]:List AV) (ac (rfl:([.live (.rowQ 59 4 (Mp zA (ini o_2)) (!(o_2).isEmpty) (yG (lst o_2)++[.own 6 ((lst o_2).Events).length])),Rb 42 6 (Mp zE (lst o_2).Events)]:List zN)=[.live (.rowQ 59 4 (Mp zA (ini o_2)) (!(o_2).isEmpty) (yG (lst o_2)++[.own 6 ((lst o_2).Events).length])),Rb 42 6 (Mp zE (lst o_2).Events)]) (ac (zJj F o_2 x_1.Events r_3 h_8:zV prog 29 [] [(.rowQ 59 4 (Mp zA (ini o_2)) (!(o_2).isEmpty) (yG (lst o_2)++[.own 1 ((lst o_2).Events).length])),(.row 42 6 (Mp zE (lst o_2).Events))] [.own 0 (o_2).length,.sl false 6 (Mp zE x_1.Events)] [(.rowQ 59 4 (Mp zA (ini r_3)) (!(r_3).isEmpty) (yG (lst r_3)++[.own 1 ((lst r_3).Events).length])),(.row 42 6 (Mp zE (lst r_3).Events))] (.own 0 (r_3).length)) (ar b_1 (ac (rfl:(Ii x_1.Thread:AV)=Ii x_1.Thread) (ac (zAt:vU prog 3 false [.int .i64]) (ac (zC2 (f:=(AV.int .i64)) (g:=yR) zAn zC x_1.Thread r_3:zBO (List.map (mpE (AV.int .i64) yR) zC) (Ii x_1.Thread) (yR r_3) (List.map (mpE (AV.int .i64) yR) (uH zC x_1.Thread r_3))) (ac (zGw (l:=zC) h_9:(List.map (mpE (AV.int .i64) yR) zC:List (AV×AV)).length<maxLen) (ac (congrArg (AV.own _) (zM4 _ _).symm:(.own 7 ((r_3).length):AV)=.own 7 ((Mp zA (ini r_3)).length+bif (!(r_3).isEmpty) then 1 else 0)) (ac (by rw [List.length_map]:([.live (.rowQ 59 4 (List.map zA (ini r_3)) (!(r_3).isEmpty) (yG (lst r_3)++[.own 8 ((lst r_3).Events).length])),Rb 42 6 (List.map zE (lst r_3).Events)]:List zN)=[.live (.rowQ 59 4 (List.map zA (ini r_3)) (!(r_3).isEmpty) (yG (lst r_3)++[.own 8 (List.map zE (lst r_3).Events).length])),Rb 42 6 (List.map zE (lst r_3).Events)]) an)))))))))) ?_
  refine rg [] [2,4,8,29,30,31] [0,1,2,3] 9 [Pp 0,Pp 1,.rawm b_1,.sl false 4 (Mp zA l_1),Ii (lN (l_1)),Ii (zJ (v_1+(1:Int)))] [Vb 26 (z0 h_1),Vb 31 [.nilsl,.nilsl,.nilsl,.own 2 0],Rb 59 4 [],.live (.fam (.cl b_1 false [.int .i64] (.nm 59 4 42 6) (List.map (mpE (AV.int .i64) yR) (uH zC x_1.Thread r_3))))] zG an ?_
  exact ⟨_,(sw [0,1,2,3] [] [.s 2,.s 4,.s 8,.s 29,.s 30,.s 31] [.s 0,.s 1,.s 2,.s 3] an),_,_,rfl,h⟩
 refine sq ?_
 refine kF (zNz (ag:=false) (ks:=[.int .i64]) 3 4 [8] (List.map (mpE (AV.int .i64) (fun l=>AV.sl false 4 (l.map zA))) o_1) (by kernel_rfl) (ar ([.rawm b_1]:List AV) (ac (zOd (f:=(AV.int .i64)) (g:=yR) zEZ o_1:∀ x∈List.map (mpE (AV.int .i64) yR) o_1,zEP x.2∧zD9 4 6 x.2=true) (ac (zN2 (f:=(AV.int .i64)) (g:=yR) (g2:=(fun l=>AV.sl false 4 (l.map zA))) zFi o_1:(List.map (mpE (AV.int .i64) (fun l=>AV.sl false 4 (l.map zA))) o_1)=(List.map (mpE (AV.int .i64) yR) o_1).map fun x=>(x.1,fzV x.2)) an)))) ?_
 refine wk [0,1,2,4] [] [.s 2,.s 4,.s 8] [.s 0,.s 1,.s 2,.s 3] [(2,Pp 0),(4,Pp 1),(8,.mp 3)] [(0,Vb 26 (z0 h_1)),(1,Vb 31 [.nilsl,.nilsl,.nilsl,.own 2 0]),(2,Rb 59 4 []),(3,.live (.map false [.int .i64] (List.map (mpE (AV.int .i64) (fun l=>AV.sl false 4 (l.map zA))) o_1)))] an ?_
 refine rg [(2,{ id:=4 })] [2,4,8,12] [0,1,2,3,4] 5 [Pp 0,Pp 1,.mp 3,Pp 4] [Vb 26 (z0 h_1),Vb 31 [.nilsl,.nilsl,.nilsl,.own 2 0],Rb 59 4 [],.live (.map false [.int .i64] (List.map (mpE (AV.int .i64) (fun l=>AV.sl false 4 (l.map zA))) o_1)),Vb 31 [.sl false 3 (Mp zF h_1.Threads),.sl false 2 (Mp zD h_1.Domains),.sl false 5 (Mp zO h_1.Snaps),.nilsl]] zG an ?_
 refine kF (pT 4 3 5 59 4 (by kernel_rfl)) ?_
 refine wk [0,1,2,3,4,5] [] [.s 2,.s 4,.s 8,.s 12] [.s 0,.s 1,.s 2,.s 3,.s 4,.s 5] [(2,Pp 0),(4,Pp 1),(8,.mp 3),(12,Pp 4)] [(0,Vb 26 (z0 h_1)),(1,Vb 31 [.nilsl,.nilsl,.nilsl,.own 2 0]),(2,Rb 59 4 []),(3,.live (.map false [.int .i64] (List.map (mpE (AV.int .i64) (fun l=>AV.sl false 4 (l.map zA))) o_1))),(4,Vb 31 [.sl false 3 (Mp zF h_1.Threads),.sl false 2 (Mp zD h_1.Domains),.sl false 5 (Mp zO h_1.Snaps),.own 5 0]),(5,Rb 59 4 [])] an ?_
 refine sq ?_
 refine sr [(2,{ n:=(h_1.Threads).length })] [4,8,12,68,69,70] [1,2,3,4,5] 6 [Pp 1,.mp 3,Pp 4,.sl false 3 (Mp zF h_1.Threads),Ii (lN (h_1.Threads)),Ii 0] [Vb 31 [.nilsl,.nilsl,.nilsl,.own 2 0],Rb 59 4 [],.live (.map false [.int .i64] (List.map (mpE (AV.int .i64) (fun l=>AV.sl false 4 (l.map zA))) o_1)),Vb 31 [.sl false 3 (Mp zF h_1.Threads),.sl false 2 (Mp zD h_1.Domains),.sl false 5 (Mp zO h_1.Snaps),.own 5 0],Rb 59 4 []] zG (ac (yL _:((Mp zF h_1.Threads)).length=(h_1.Threads).length) an) ?_
 obtain ⟨o_3,qJ,h⟩:=bind_some h
 refine wI (mk [(4,Pp 0),(12,Pp 2)] [(0,Vb 31 [.nilsl,.nilsl,.nilsl,.own 1 0]),(1,Rb 59 4 []),(2,Vb 31 [.sl false 3 (Mp zF h_1.Threads),.sl false 2 (Mp zD h_1.Domains),.sl false 5 (Mp zO h_1.Snaps),.own 3 ((o_3).length)]),(3,Rb 59 4 (Mp zA o_3))] 4) ?_ ?_
 ·replace h:=qJ
  refine yN (id:=2) (by kernel_rfl) ?_
  refine wk [1,2,3,4,5] [] [.s 4,.s 8,.s 12,.s 68,.s 69,.s 70] [.s 0,.s 1,.s 2,.s 3,.s 4] [(4,Pp 0),(8,.mp 2),(12,Pp 3),(68,.sl false 3 (Mp zF h_1.Threads)),(69,Ii (lN (h_1.Threads))),(70,Ii 0)] [(0,Vb 31 [.nilsl,.nilsl,.nilsl,.own 1 0]),(1,Rb 59 4 []),(2,.live (.map false [.int .i64] (List.map (mpE (AV.int .i64) (fun l=>AV.sl false 4 (l.map zA))) o_1))),(3,Vb 31 [.sl false 3 (Mp zF h_1.Threads),.sl false 2 (Mp zD h_1.Domains),.sl false 5 (Mp zO h_1.Snaps),.own 4 0]),(4,Rb 59 4 [])] an ?_
  refine wE (fun n st=>∃ (v_2:Int),∃ (yP:List zB),st=mk [(4,Pp 0),(8,.mp 2),(12,Pp 3),(68,.sl false 3 (Mp zF h_1.Threads)),(69,Ii (lN (h_1.Threads))),(70,Ii v_2)] [(0,Vb 31 [.nilsl,.nilsl,.nilsl,.own 1 0]),(1,Rb 59 4 []),(2,.live (.map false [.int .i64] (List.map (mpE (AV.int .i64) (fun l=>AV.sl false 4 (l.map zA))) o_1))),(3,Vb 31 [.sl false 3 (Mp zF h_1.Threads),.sl false 2 (Mp zD h_1.Domains),.sl false 5 (Mp zO h_1.Snaps),.own 4 ((yP).length)]),(4,Rb 59 4 (Mp zA yP))] 5∧zAw F h_1 o_1 n v_2 yP=some o_3) F (by kernel_rfl) ⟨_,_,rfl,h⟩ ?_ ?_
  ·rintro _ ⟨_,_,_,h⟩;exact wO (h:(none:Option (List zB))=some o_3)
  rintro n_2 _ ⟨v_2,yP,rfl,h⟩
  replace h:kC F h_1 o_1 (zAw F h_1 o_1 n_2) v_2 yP=some o_3:=h
  unfold kC at h
  refine sr [] [4,8,12,68,69,70,71] [0,1,2,3,4] 5 [Pp 0,.mp 2,Pp 3,.sl false 3 (Mp zF h_1.Threads),Ii (lN (h_1.Threads)),Ii v_2,.bool (decide (v_2<(lN (h_1.Threads))))] [Vb 31 [.nilsl,.nilsl,.nilsl,.own 1 0],Rb 59 4 [],.live (.map false [.int .i64] (List.map (mpE (AV.int .i64) (fun l=>AV.sl false 4 (l.map zA))) o_1)),Vb 31 [.sl false 3 (Mp zF h_1.Threads),.sl false 2 (Mp zD h_1.Domains),.sl false 5 (Mp zO h_1.Snaps),.own 4 ((yP).length)],Rb 59 4 (Mp zA yP)] zG an ?_
  refine sq ?_
  refine cd 71 (decide (v_2<(lN (h_1.Threads)))) ?_ ?_
  rotate_left
  ·intro g_5;replace h:=zT g_5 h
   refine wJ (id:=2) (by kernel_rfl) ?_
   cases h
   exact ⟨rfl,(sw [0,1,3,4] [] [.s 4,.s 12] [.s 0,.s 1,.s 2,.s 3] an)⟩
  intro g_5;replace h:=zS g_5 h
  refine sk ?_
  refine sq ?_
  refine yN (id:=3) (by kernel_rfl) ?_
  refine sq ?_
  obtain ⟨x_2,qR,h⟩:=bind_some h
  refine rg [(0,{ av:=zF x_2 }),(2,{ id:=5 })] [4,8,12,14,68,69,70] [0,1,2,3,4,5] 6 [Pp 0,.mp 2,Pp 3,Pp 5,.sl false 3 (Mp zF h_1.Threads),Ii (lN (h_1.Threads)),Ii v_2] [Vb 31 [.nilsl,.nilsl,.nilsl,.own 1 0],Rb 59 4 [],.live (.map false [.int .i64] (List.map (mpE (AV.int .i64) (fun l=>AV.sl false 4 (l.map zA))) o_1)),Vb 31 [.sl false 3 (Mp zF h_1.Threads),.sl false 2 (Mp zD h_1.Domains),.sl false 5 (Mp zO h_1.Snaps),.own 4 ((yP).length)],Rb 59 4 (Mp zA yP),Vb 66 (z5 x_2)] zG (ac (xZ qR:wV (Mp zF h_1.Threads) v_2=some (zF x_2)) an) ?_
  obtain ⟨_,zFl,h⟩:=bind_some h;replace zFl:=vF zFl
  refine rg [(5,{ av:=(.sl false 4 (Mp zA ((yD o_1 x_2.Id).getD []))),b:=true,g:=(yD o_1 x_2.Id).isSome,n:=4 }),(6,{ id:=6,l:=(Mp zA (yP++((yD o_1 x_2.Id).getD []))),n:=((yP++((yD o_1 x_2.Id).getD []))).length })] [4,8,12,68,69,70] [0,1,2,3,6] 7 [Pp 0,.mp 2,Pp 3,.sl false 3 (Mp zF h_1.Threads),Ii (lN (h_1.Threads)),Ii v_2] [Vb 31 [.nilsl,.nilsl,.nilsl,.own 1 0],Rb 59 4 [],.live (.map false [.int .i64] (List.map (mpE (AV.int .i64) (fun l=>AV.sl false 4 (l.map zA))) o_1)),Vb 31 [.sl false 3 (Mp zF h_1.Threads),.sl false 2 (Mp zD h_1.Domains),.sl false 5 (Mp zO h_1.Snaps),.own 6 (((yP++((yD o_1 x_2.Id).getD []))).length)],Rb 59 4 (Mp zA (yP++((yD o_1 x_2.Id).getD [])))] zG (ac (zAt:vU prog 3 false [.int .i64]) (ac (zD1 (f:=(AV.int .i64)) (g:=(fun l=>AV.sl false 4 (l.map zA))) zAn o_1 x_2.Id []:jY (List.map (mpE (AV.int .i64) (fun l=>AV.sl false 4 (l.map zA))) o_1) (Ii x_2.Id) (.sl false 4 []) (.sl false 4 (Mp zA ((yD o_1 x_2.Id).getD []))) (yD o_1 x_2.Id).isSome) (ac (by first | (simp;done) | (simp;omega):(yP).length=((List.map zA yP)).length) (ac (trivial:True) (ac (zD4 _ _:(Mp zA (yP++((yD o_1 x_2.Id).getD [])))=(Mp zA yP)++(Mp zA ((yD o_1 x_2.Id).getD []))) (ac (by simp:((yP++((yD o_1 x_2.Id).getD []))).length=((List.map zA (yP++((yD o_1 x_2.Id).getD [])))).length) (ac (by first | (simp;done) | simpa using zFl:(((List.map zA yP):List AV).length+((List.map zA ((yD o_1 x_2.Id).getD [])):List AV).length) * 48≤140737488355328) an))))))) ?_
  refine rg [] [4,8,12,68,69,70] [0,1,2,3,6] 7 [Pp 0,.mp 2,Pp 3,.sl false 3 (Mp zF h_1.Threads),Ii (lN (h_1.Threads)),Ii (zJ (v_2+(1:Int)))] [Vb 31 [.nilsl,.nilsl,.nilsl,.own 1 0],Rb 59 4 [],.live (.map false [.int .i64] (List.map (mpE (AV.int .i64) (fun l=>AV.sl false 4 (l.map zA))) o_1)),Vb 31 [.sl false 3 (Mp zF h_1.Threads),.sl false 2 (Mp zD h_1.Domains),.sl false 5 (Mp zO h_1.Snaps),.own 6 (((yP++((yD o_1 x_2.Id).getD []))).length)],Rb 59 4 (Mp zA (yP++((yD o_1 x_2.Id).getD [])))] zG an ?_
  exact ⟨_,(sw [0,1,2,3,6] [] [.s 4,.s 8,.s 12,.s 68,.s 69,.s 70] [.s 0,.s 1,.s 2,.s 3,.s 4] an),_,_,rfl,h⟩
 refine sr [] [4,5] [0,3] 4 [Pp 0,Ii 0] [Vb 31 [.sl false 3 (Mp zF h_1.Threads),.sl false 2 (Mp zD h_1.Domains),.sl false 5 (Mp zO h_1.Snaps),.own 3 ((o_3).length)],Rb 59 4 (Mp zA o_3)] zG an ?_
 refine wk [0] [3] [.s 4,.s 5] [.a 0 (Vb 31 [.sl false 3 (Mp zF (((⟨h_1,o_3⟩:zX).Head).Threads)),.sl false 2 (Mp zD (((⟨h_1,o_3⟩:zX).Head).Domains)),.sl false 5 (Mp zO (((⟨h_1,o_3⟩:zX).Head).Snaps)),.sl false 4 (Mp zA ((⟨h_1,o_3⟩:zX).Parts))])] [(4,Pp 0),(5,Ii 0)] [(0,Vb 31 [.sl false 3 (Mp zF (((⟨h_1,o_3⟩:zX).Head).Threads)),.sl false 2 (Mp zD (((⟨h_1,o_3⟩:zX).Head).Domains)),.sl false 5 (Mp zO (((⟨h_1,o_3⟩:zX).Head).Snaps)),.sl false 4 (Mp zA ((⟨h_1,o_3⟩:zX).Parts))])] (ar 31 (ac (rfl:uO [.sl false 3 (Mp zF (((⟨h_1,o_3⟩:zX).Head).Threads)),.sl false 2 (Mp zD (((⟨h_1,o_3⟩:zX).Head).Domains)),.sl false 5 (Mp zO (((⟨h_1,o_3⟩:zX).Head).Snaps)),.sl false 4 (Mp zA ((⟨h_1,o_3⟩:zX).Parts))]=true) (ac (by first | (simp;done) | (simp;omega):(o_3).length=((List.map zA o_3)).length) (ar 3 (ac (rfl:((Mp zF h_1.Threads):List AV)=(Mp zF (((⟨h_1,o_3⟩:zX).Head).Threads))) (ac (rfl:(!false||false)=true) (ar 2 (ac (rfl:((Mp zD h_1.Domains):List AV)=(Mp zD (((⟨h_1,o_3⟩:zX).Head).Domains))) (ac (rfl:(!false||false)=true) (ar 5 (ac (rfl:((Mp zO h_1.Snaps):List AV)=(Mp zO (((⟨h_1,o_3⟩:zX).Head).Snaps))) (ac (rfl:(!false||false)=true) (ar 4 (ac (rfl:((Mp zA o_3):List AV)=(Mp zA ((⟨h_1,o_3⟩:zX).Parts))) (ac (rfl:(!false||false)=true) an))))))))))))))) ?_
 refine rt ?_
 cases h
 exact ⟨.inr rfl,Nat.le_of_ble_eq_true rfl,by kernel_rfl⟩

end Go.Ab
