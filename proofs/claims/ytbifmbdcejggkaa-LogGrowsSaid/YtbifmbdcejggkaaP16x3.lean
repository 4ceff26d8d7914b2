/- Printed: the typed Lean functions of the Go functions, or the proofs that the Go functions meet them. No conditions but those that the theorems name. -/
import Derived.Test.YtbifmbdcejggkaaP16x2
namespace Go.Ab
open Go
set_option linter.unusedVariables false
theorem t9 (n_1:Int) (r:(List (yC))) (h:wR n_1=some r):zW prog 62 [] [] [.nilsl,Ii n_1] [.row 86 5 (Mp zF r)] (.own 0 ((r).length)):=by
 refine yK (fn:=Go.Proofs.Try.f62) (code:=xY Go.Proofs.Try.f62) (by kernel_rfl) (by kernel_rfl) (Nat.le_of_ble_eq_true (by kernel_rfl)) ?_
 unfold wR at h
 refine sr [(0,{ id:=0,m:=1 })] [0,1] [] 1 [.nilsl,Ii n_1] [] zH an ?_
 refine sq ?_
 refine sr [] [0,1,6] [] 1 [.nilsl,Ii n_1,.bool (decide (n_1<(0:Int)))] [] zH an ?_
 obtain ⟨o_1,h_1,h⟩:=bind_some h
 refine wO (mk [(0,.nilsl),(1,Ii n_1)] [] 0) ?_ ?_
 ·replace h:=h_1
  refine cd 6 (decide (n_1<(0:Int))) ?_ ?_
  ·intro g_1;replace h:=zT g_1 h
   exact wV h
  intro g_1;replace h:=zU g_1 h
  refine sk ?_
  cases h
  exact ⟨rfl,(sw [] [] [.s 0,.s 1] [] an)⟩
 refine sq ?_
 refine sr [(2,{ x:=true }),(4,{ n:=0 })] [0,1] [] 0 [.nilsl,Ii (zK (n_1 - (zK ((0:Int) - ((0:Nat):Int)))))] [] zH (ac (rfl:([]:List AV).length=0) an) ?_
 refine sr [] [0,1,16] [] 0 [.nilsl,Ii (zK (n_1 - (zK ((0:Int) - ((0:Nat):Int))))),.bool (decide ((zK (n_1 - (zK ((0:Int) - ((0:Nat):Int)))))>(0:Int)))] [] zH an ?_
 refine cd 16 (decide ((zK (n_1 - (zK ((0:Int) - ((0:Nat):Int)))))>(0:Int))) ?_ ?_
 ·intro g_2;replace h:=zT g_2 h
  obtain ⟨_,h_2,h⟩:=bind_some h;replace h_2:=wS h_2
  refine rg [(2,{ x:=true }),(3,{ x:=true }),(5,{ id:=0,n:=(zK (n_1 - (zK ((0:Int) - ((0:Nat):Int))))).toNat,x:=true }),(7,{ n:=0 }),(8,{ l:=[],n:=0,x:=true })] [0] [0] 1 [.own 0 0] [Rb 86 5 []] zH (ar (0:Int) (ac ((Int.toNat_of_nonneg h_2.1).symm:(zK (n_1 - (zK ((0:Int) - ((0:Nat):Int)))))=(((zK (n_1 - (zK ((0:Int) - ((0:Nat):Int))))).toNat:Nat):Int)) (ac h_2.2.1 (ac h_2.2.2 (ac (rfl:([]:List AV).length=0) (ar ((0:Nat):Int) (ac (Nat.zero_le _:0≤((zK (n_1 - (zK ((0:Int) - ((0:Nat):Int))))).toNat)) (ac (by simp:[]=([]:List AV).take 0) an)))))))) ?_
  refine sr [] [4] [0] 1 [.own 0 0] [Rb 86 5 []] zH an ?_
  refine wk [0] [] [.a 4 (.own 0 ((([]:List yC)).length))] [.s 0] [(4,.own 0 ((([]:List yC)).length))] [(0,Rb 86 5 [])] (ac (congrArg (AV.own _) (by first | (simp;done) | (simp;omega)):(.own 0 0:AV)=.own 0 ((([]:List yC)).length)) an) ?_
  refine rt ?_
  cases h
  exact ⟨.inr rfl,Nat.le_of_ble_eq_true rfl,by kernel_rfl⟩
 intro g_2;replace h:=zU g_2 h
 refine sk ?_
 refine sr [] [4] [] 0 [.nilsl] [] zH an ?_
 refine qM (zFm 4 none 0 86 5 (by kernel_rfl)) ?_
 refine wk [0] [] [.a 4 (.own 0 ((([]:List yC)).length))] [.s 0] [(4,.own 0 ((([]:List yC)).length))] [(0,Rb 86 5 [])] (ac (congrArg (AV.own _) (by first | (simp;done) | (simp;omega)):(.own 0 0:AV)=.own 0 ((([]:List yC)).length)) an) ?_
 refine rt ?_
 cases h
 exact ⟨.inr rfl,Nat.le_of_ble_eq_true rfl,by kernel_rfl⟩

theorem t4 (F:Nat) (zP:List (List (yC))) (r:(List (yC))) (h:xZ F zP=some r):zW prog 45 [] [] [.sl false 1 (List.map (fun l=>AV.sl false 5 (l.map zF)) zP)] [.row 86 5 (Mp zF r)] (.own 0 ((r).length)):=by
 refine yK (fn:=Go.Proofs.Try.f45) (code:=xY Go.Proofs.Try.f45) (by kernel_rfl) (by kernel_rfl) (Nat.le_of_ble_eq_true (by kernel_rfl)) ?_
 unfold xZ at h
 refine sr [(0,{ id:=0,m:=1 })] [0] [] 1 [.sl false 1 (List.map (fun l=>AV.sl false 5 (l.map zF)) zP)] [] zH an ?_
 refine sr [] [0,3] [] 1 [.sl false 1 (List.map (fun l=>AV.sl false 5 (l.map zF)) zP),Ii 0] [] zH an ?_
 refine sq ?_
 refine sr [(1,{ n:=(zP).length })] [0,3,9,10,11] [] 1 [.sl false 1 (List.map (fun l=>AV.sl false 5 (l.map zF)) zP),Ii 0,.sl false 1 (List.map (fun l=>AV.sl false 5 (l.map zF)) zP),Ii (lN (zP)),Ii 0] [] zH (ac (yH _:((List.map (fun l=>AV.sl false 5 (l.map zF)) zP)).length=(zP).length) an) ?_
 obtain ⟨o_1,h_1,h⟩:=bind_some h
 refine wO (mk [(0,.sl false 1 (List.map (fun l=>AV.sl false 5 (l.map zF)) zP)),(3,Ii o_1)] [] 0) ?_ ?_
 ·replace h:=h_1
  refine yU (id:=0) (by kernel_rfl) ?_
  refine wk [] [] [.s 0,.s 3,.s 9,.s 10,.s 11] [] [(0,.sl false 1 (List.map (fun l=>AV.sl false 5 (l.map zF)) zP)),(3,Ii 0),(9,.sl false 1 (List.map (fun l=>AV.sl false 5 (l.map zF)) zP)),(10,Ii (lN (zP))),(11,Ii 0)] [] an ?_
  refine wT (fun n st=>∃ (w7:Int),∃ (v_1:Int),st=mk [(0,.sl false 1 (List.map (fun l=>AV.sl false 5 (l.map zF)) zP)),(3,Ii w7),(9,.sl false 1 (List.map (fun l=>AV.sl false 5 (l.map zF)) zP)),(10,Ii (lN (zP))),(11,Ii v_1)] [] 0∧xR F zP n w7 v_1=some o_1) F (by kernel_rfl) ⟨_,_,rfl,h⟩ ?_ ?_
  ·rintro _ ⟨_,_,_,h⟩;exact wV (h:(none:Option Int)=some o_1)
  rintro n_1 _ ⟨w7,v_1,rfl,h⟩
  replace h:yN F zP (xR F zP n_1) w7 v_1=some o_1:=h
  unfold yN at h
  refine sr [] [0,3,9,10,11,12] [] 0 [.sl false 1 (List.map (fun l=>AV.sl false 5 (l.map zF)) zP),Ii w7,.sl false 1 (List.map (fun l=>AV.sl false 5 (l.map zF)) zP),Ii (lN (zP)),Ii v_1,.bool (decide (v_1<(lN (zP))))] [] zH an ?_
  refine sq ?_
  refine cd 12 (decide (v_1<(lN (zP)))) ?_ ?_
  rotate_left
  ·intro g_1;replace h:=zU g_1 h
   refine w5 (id:=0) (by kernel_rfl) ?_
   cases h
   exact ⟨rfl,(sw [] [] [.s 0,.s 3] [] an)⟩
  intro g_1;replace h:=zT g_1 h
  refine sk ?_
  refine sq ?_
  refine yU (id:=1) (by kernel_rfl) ?_
  refine sq ?_
  obtain ⟨x_1,h_2,h⟩:=bind_some h
  refine rg [(0,{ av:=.sl false 5 (Mp zF x_1) })] [0,3,5,9,10,11] [] 0 [.sl false 1 (List.map (fun l=>AV.sl false 5 (l.map zF)) zP),Ii w7,.sl false 5 (Mp zF x_1),.sl false 1 (List.map (fun l=>AV.sl false 5 (l.map zF)) zP),Ii (lN (zP)),Ii v_1] [] zH (ac (wI h_2:vA (List.map (fun l=>AV.sl false 5 (l.map zF)) zP) v_1=some (.sl false 5 (Mp zF x_1))) an) ?_
  refine sr [(2,{ n:=(x_1).length })] [0,3,9,10,11] [] 0 [.sl false 1 (List.map (fun l=>AV.sl false 5 (l.map zF)) zP),Ii (zK (w7+(lN (x_1)))),.sl false 1 (List.map (fun l=>AV.sl false 5 (l.map zF)) zP),Ii (lN (zP)),Ii v_1] [] zH (ac (yH _:((Mp zF x_1)).length=(x_1).length) an) ?_
  refine sr [] [0,3,9,10,11,20] [] 0 [.sl false 1 (List.map (fun l=>AV.sl false 5 (l.map zF)) zP),Ii (zK (w7+(lN (x_1)))),.sl false 1 (List.map (fun l=>AV.sl false 5 (l.map zF)) zP),Ii (lN (zP)),Ii v_1,.bool (decide ((zK (w7+(lN (x_1))))<(0:Int)))] [] zH an ?_
  refine cd 20 (decide ((zK (w7+(lN (x_1))))<(0:Int))) ?_ ?_
  ·intro g_2;replace h:=zT g_2 h
   exact wV h
  intro g_2;replace h:=zU g_2 h
  refine sk ?_
  refine rg [] [0,3,9,10,11] [] 0 [.sl false 1 (List.map (fun l=>AV.sl false 5 (l.map zF)) zP),Ii (zK (w7+(lN (x_1)))),.sl false 1 (List.map (fun l=>AV.sl false 5 (l.map zF)) zP),Ii (lN (zP)),Ii (zK (v_1+(1:Int)))] [] zH an ?_
  exact ⟨_,(sw [] [] [.s 0,.s 3,.s 9,.s 10,.s 11] [] an),_,_,rfl,h⟩
 refine sq ?_
 obtain ⟨r_1,h_3,h⟩:=bind_some h
 refine rg [(1,{ av:=.own 0 ((r_1).length),ids:=[0],l:=[.nilsl,Ii o_1],post:=[(.row 86 5 (Mp zF r_1))] })] [0,6] [0] 1 [.sl false 1 (List.map (fun l=>AV.sl false 5 (l.map zF)) zP),.own 0 ((r_1).length)] [Rb 86 5 (Mp zF r_1)] zH (ar ([.nilsl,Ii o_1]:List AV) (ac (rfl:([]:List zO)=[]) (ac (t9 o_1 r_1 h_3:zW prog 62 [] [] [.nilsl,Ii o_1] [(.row 86 5 (Mp zF r_1))] (.own 0 ((r_1).length))) an))) ?_
 refine sq ?_
 refine sr [(1,{ n:=(zP).length })] [6,25,26,27] [0] 1 [.own 0 ((r_1).length),.sl false 1 (List.map (fun l=>AV.sl false 5 (l.map zF)) zP),Ii (lN (zP)),Ii 0] [Rb 86 5 (Mp zF r_1)] zH (ac (yH _:((List.map (fun l=>AV.sl false 5 (l.map zF)) zP)).length=(zP).length) an) ?_
 obtain ⟨o_2,h_4,h⟩:=bind_some h
 refine wO (mk [(6,.own 0 ((o_2).length))] [(0,Rb 86 5 (Mp zF o_2))] 1) ?_ ?_
 ·replace h:=h_4
  refine yU (id:=2) (by kernel_rfl) ?_
  refine wk [0] [] [.s 6,.s 25,.s 26,.s 27] [.s 0] [(6,.own 0 ((r_1).length)),(25,.sl false 1 (List.map (fun l=>AV.sl false 5 (l.map zF)) zP)),(26,Ii (lN (zP))),(27,Ii 0)] [(0,Rb 86 5 (Mp zF r_1))] an ?_
  refine wT (fun n st=>∃ (v_2:Int),∃ (zC:List yC),st=mk [(6,.own 0 ((zC).length)),(25,.sl false 1 (List.map (fun l=>AV.sl false 5 (l.map zF)) zP)),(26,Ii (lN (zP))),(27,Ii v_2)] [(0,Rb 86 5 (Mp zF zC))] 1∧xS F zP n v_2 zC=some o_2) F (by kernel_rfl) ⟨_,_,rfl,h⟩ ?_ ?_
  ·rintro _ ⟨_,_,_,h⟩;exact wV (h:(none:Option (List yC))=some o_2)
  rintro n_2 _ ⟨v_2,zC,rfl,h⟩
  replace h:yM F zP (xS F zP n_2) v_2 zC=some o_2:=h
  unfold yM at h
  refine sr [] [6,25,26,27,28] [0] 1 [.own 0 ((zC).length),.sl false 1 (List.map (fun l=>AV.sl false 5 (l.map zF)) zP),Ii (lN (zP)),Ii v_2,.bool (decide (v_2<(lN (zP))))] [Rb 86 5 (Mp zF zC)] zH an ?_
  refine sq ?_
  refine cd 28 (decide (v_2<(lN (zP)))) ?_ ?_
  rotate_left
  ·intro g_3;replace h:=zU g_3 h
   refine w5 (id:=2) (by kernel_rfl) ?_
   cases h
   exact ⟨rfl,(sw [0] [] [.s 6] [.s 0] an)⟩
  intro g_3;replace h:=zT g_3 h
  refine sk ?_
  refine sq ?_
  refine yU (id:=3) (by kernel_rfl) ?_
  refine sq ?_
  obtain ⟨x_2,h_5,h⟩:=bind_some h
  refine rg [(0,{ av:=.sl false 5 (Mp zF x_2) })] [6,8,25,26,27] [0] 1 [.own 0 ((zC).length),.sl false 5 (Mp zF x_2),.sl false 1 (List.map (fun l=>AV.sl false 5 (l.map zF)) zP),Ii (lN (zP)),Ii v_2] [Rb 86 5 (Mp zF zC)] zH (ac (wI h_5:vA (List.map (fun l=>AV.sl false 5 (l.map zF)) zP) v_2=some (.sl false 5 (Mp zF x_2))) an) ?_
  obtain ⟨_,h_6,h⟩:=bind_some h;replace h_6:=wS h_6
  refine rg [(2,{ id:=1,l:=(Mp zF (zC++x_2)),n:=((zC++x_2)).length })] [6,25,26,27] [1] 2 [.own 1 (((zC++x_2)).length),.sl false 1 (List.map (fun l=>AV.sl false 5 (l.map zF)) zP),Ii (lN (zP)),Ii v_2] [Rb 86 5 (Mp zF (zC++x_2))] zH (ac (by first | (simp;done) | (simp;omega):(zC).length=((List.map zF zC)).length) (ac (trivial:True) (ac (zBE _ _:(Mp zF (zC++x_2))=(Mp zF zC)++(Mp zF x_2)) (ac (by simp:((zC++x_2)).length=((List.map zF (zC++x_2))).length) (ac (by first | (simp;done) | simpa using h_6:(((List.map zF zC):List AV).length+((List.map zF x_2):List AV).length) * 40≤140737488355328) an))))) ?_
  refine rg [] [6,25,26,27] [1] 2 [.own 1 (((zC++x_2)).length),.sl false 1 (List.map (fun l=>AV.sl false 5 (l.map zF)) zP),Ii (lN (zP)),Ii (zK (v_2+(1:Int)))] [Rb 86 5 (Mp zF (zC++x_2))] zH an ?_
  exact ⟨_,(sw [1] [] [.s 6,.s 25,.s 26,.s 27] [.s 0] an),_,_,rfl,h⟩
 refine sr [] [2] [0] 1 [.own 0 ((o_2).length)] [Rb 86 5 (Mp zF o_2)] zH an ?_
 refine wk [0] [] [.s 2] [.s 0] [(2,.own 0 ((o_2).length))] [(0,Rb 86 5 (Mp zF o_2))] an ?_
 refine rt ?_
 cases h
 exact ⟨.inr rfl,Nat.le_of_ble_eq_true rfl,by kernel_rfl⟩

theorem tS (n_1:Int) (r:(List (zB))) (h:wN n_1=some r):zW prog 63 [] [] [.nilsl,Ii n_1] [.row 59 4 (Mp zA r)] (.own 0 ((r).length)):=by
 refine yK (fn:=Go.Proofs.Try.f63) (code:=xY Go.Proofs.Try.f63) (by kernel_rfl) (by kernel_rfl) (Nat.le_of_ble_eq_true (by kernel_rfl)) ?_
 unfold wN at h
 refine sr [(0,{ id:=0,m:=1 })] [0,1] [] 1 [.nilsl,Ii n_1] [] zH an ?_
 refine sq ?_
 refine sr [] [0,1,6] [] 1 [.nilsl,Ii n_1,.bool (decide (n_1<(0:Int)))] [] zH an ?_
 obtain ⟨o_1,h_1,h⟩:=bind_some h
 refine wO (mk [(0,.nilsl),(1,Ii n_1)] [] 0) ?_ ?_
 ·replace h:=h_1
  refine cd 6 (decide (n_1<(0:Int))) ?_ ?_
  ·intro g_1;replace h:=zT g_1 h
   exact wV h
  intro g_1;replace h:=zU g_1 h
  refine sk ?_
  cases h
  exact ⟨rfl,(sw [] [] [.s 0,.s 1] [] an)⟩
 refine sq ?_
 refine sr [(2,{ x:=true }),(4,{ n:=0 })] [0,1] [] 0 [.nilsl,Ii (zK (n_1 - (zK ((0:Int) - ((0:Nat):Int)))))] [] zH (ac (rfl:([]:List AV).length=0) an) ?_
 refine sr [] [0,1,16] [] 0 [.nilsl,Ii (zK (n_1 - (zK ((0:Int) - ((0:Nat):Int))))),.bool (decide ((zK (n_1 - (zK ((0:Int) - ((0:Nat):Int)))))>(0:Int)))] [] zH an ?_
 refine cd 16 (decide ((zK (n_1 - (zK ((0:Int) - ((0:Nat):Int)))))>(0:Int))) ?_ ?_
 ·intro g_2;replace h:=zT g_2 h
  obtain ⟨_,h_2,h⟩:=bind_some h;replace h_2:=wS h_2
  refine rg [(2,{ x:=true }),(3,{ x:=true }),(5,{ id:=0,n:=(zK (n_1 - (zK ((0:Int) - ((0:Nat):Int))))).toNat,x:=true }),(7,{ n:=0 }),(8,{ l:=[],n:=0,x:=true })] [0] [0] 1 [.own 0 0] [Rb 59 4 []] zH (ar (0:Int) (ac ((Int.toNat_of_nonneg h_2.1).symm:(zK (n_1 - (zK ((0:Int) - ((0:Nat):Int)))))=(((zK (n_1 - (zK ((0:Int) - ((0:Nat):Int))))).toNat:Nat):Int)) (ac h_2.2.1 (ac h_2.2.2 (ac (rfl:([]:List AV).length=0) (ar ((0:Nat):Int) (ac (Nat.zero_le _:0≤((zK (n_1 - (zK ((0:Int) - ((0:Nat):Int))))).toNat)) (ac (by simp:[]=([]:List AV).take 0) an)))))))) ?_
  refine sr [] [4] [0] 1 [.own 0 0] [Rb 59 4 []] zH an ?_
  refine wk [0] [] [.a 4 (.own 0 ((([]:List zB)).length))] [.s 0] [(4,.own 0 ((([]:List zB)).length))] [(0,Rb 59 4 [])] (ac (congrArg (AV.own _) (by first | (simp;done) | (simp;omega)):(.own 0 0:AV)=.own 0 ((([]:List zB)).length)) an) ?_
  refine rt ?_
  cases h
  exact ⟨.inr rfl,Nat.le_of_ble_eq_true rfl,by kernel_rfl⟩
 intro g_2;replace h:=zU g_2 h
 refine sk ?_
 refine sr [] [4] [] 0 [.nilsl] [] zH an ?_
 refine qM (zFm 4 none 0 59 4 (by kernel_rfl)) ?_
 refine wk [0] [] [.a 4 (.own 0 ((([]:List zB)).length))] [.s 0] [(4,.own 0 ((([]:List zB)).length))] [(0,Rb 59 4 [])] (ac (congrArg (AV.own _) (by first | (simp;done) | (simp;omega)):(.own 0 0:AV)=.own 0 ((([]:List zB)).length)) an) ?_
 refine rt ?_
 cases h
 exact ⟨.inr rfl,Nat.le_of_ble_eq_true rfl,by kernel_rfl⟩

theorem tN (F:Nat) (zP:List (List (zB))) (r:(List (zB))) (h:xP F zP=some r):zW prog 46 [] [] [.sl false 1 (List.map (fun l=>AV.sl false 4 (l.map zA)) zP)] [.row 59 4 (Mp zA r)] (.own 0 ((r).length)):=by
 refine yK (fn:=Go.Proofs.Try.f46) (code:=xY Go.Proofs.Try.f46) (by kernel_rfl) (by kernel_rfl) (Nat.le_of_ble_eq_true (by kernel_rfl)) ?_
 unfold xP at h
 refine sr [(0,{ id:=0,m:=1 })] [0] [] 1 [.sl false 1 (List.map (fun l=>AV.sl false 4 (l.map zA)) zP)] [] zH an ?_
 refine sr [] [0,3] [] 1 [.sl false 1 (List.map (fun l=>AV.sl false 4 (l.map zA)) zP),Ii 0] [] zH an ?_
 refine sq ?_
 refine sr [(1,{ n:=(zP).length })] [0,3,9,10,11] [] 1 [.sl false 1 (List.map (fun l=>AV.sl false 4 (l.map zA)) zP),Ii 0,.sl false 1 (List.map (fun l=>AV.sl false 4 (l.map zA)) zP),Ii (lN (zP)),Ii 0] [] zH (ac (yH _:((List.map (fun l=>AV.sl false 4 (l.map zA)) zP)).length=(zP).length) an) ?_
 obtain ⟨o_1,h_1,h⟩:=bind_some h
 refine wO (mk [(0,.sl false 1 (List.map (fun l=>AV.sl false 4 (l.map zA)) zP)),(3,Ii o_1)] [] 0) ?_ ?_
 ·replace h:=h_1
  refine yU (id:=0) (by kernel_rfl) ?_
  refine wk [] [] [.s 0,.s 3,.s 9,.s 10,.s 11] [] [(0,.sl false 1 (List.map (fun l=>AV.sl false 4 (l.map zA)) zP)),(3,Ii 0),(9,.sl false 1 (List.map (fun l=>AV.sl false 4 (l.map zA)) zP)),(10,Ii (lN (zP))),(11,Ii 0)] [] an ?_
  refine wT (fun n st=>∃ (w7:Int),∃ (v_1:Int),st=mk [(0,.sl false 1 (List.map (fun l=>AV.sl false 4 (l.map zA)) zP)),(3,Ii w7),(9,.sl false 1 (List.map (fun l=>AV.sl false 4 (l.map zA)) zP)),(10,Ii (lN (zP))),(11,Ii v_1)] [] 0∧xI F zP n w7 v_1=some o_1) F (by kernel_rfl) ⟨_,_,rfl,h⟩ ?_ ?_
  ·rintro _ ⟨_,_,_,h⟩;exact wV (h:(none:Option Int)=some o_1)
  rintro n_1 _ ⟨w7,v_1,rfl,h⟩
  replace h:yD F zP (xI F zP n_1) w7 v_1=some o_1:=h
  unfold yD at h
  refine sr [] [0,3,9,10,11,12] [] 0 [.sl false 1 (List.map (fun l=>AV.sl false 4 (l.map zA)) zP),Ii w7,.sl false 1 (List.map (fun l=>AV.sl false 4 (l.map zA)) zP),Ii (lN (zP)),Ii v_1,.bool (decide (v_1<(lN (zP))))] [] zH an ?_
  refine sq ?_
  refine cd 12 (decide (v_1<(lN (zP)))) ?_ ?_
  rotate_left
  ·intro g_1;replace h:=zU g_1 h
   refine w5 (id:=0) (by kernel_rfl) ?_
   cases h
   exact ⟨rfl,(sw [] [] [.s 0,.s 3] [] an)⟩
  intro g_1;replace h:=zT g_1 h
  refine sk ?_
  refine sq ?_
  refine yU (id:=1) (by kernel_rfl) ?_
  refine sq ?_
  obtain ⟨x_1,h_2,h⟩:=bind_some h
  refine rg [(0,{ av:=.sl false 4 (Mp zA x_1) })] [0,3,5,9,10,11] [] 0 [.sl false 1 (List.map (fun l=>AV.sl false 4 (l.map zA)) zP),Ii w7,.sl false 4 (Mp zA x_1),.sl false 1 (List.map (fun l=>AV.sl false 4 (l.map zA)) zP),Ii (lN (zP)),Ii v_1] [] zH (ac (wI h_2:vA (List.map (fun l=>AV.sl false 4 (l.map zA)) zP) v_1=some (.sl false 4 (Mp zA x_1))) an) ?_
  refine sr [(2,{ n:=(x_1).length })] [0,3,9,10,11] [] 0 [.sl false 1 (List.map (fun l=>AV.sl false 4 (l.map zA)) zP),Ii (zK (w7+(lN (x_1)))),.sl false 1 (List.map (fun l=>AV.sl false 4 (l.map zA)) zP),Ii (lN (zP)),Ii v_1] [] zH (ac (yH _:((Mp zA x_1)).length=(x_1).length) an) ?_
  refine sr [] [0,3,9,10,11,20] [] 0 [.sl false 1 (List.map (fun l=>AV.sl false 4 (l.map zA)) zP),Ii (zK (w7+(lN (x_1)))),.sl false 1 (List.map (fun l=>AV.sl false 4 (l.map zA)) zP),Ii (lN (zP)),Ii v_1,.bool (decide ((zK (w7+(lN (x_1))))<(0:Int)))] [] zH an ?_
  refine cd 20 (decide ((zK (w7+(lN (x_1))))<(0:Int))) ?_ ?_
  ·intro g_2;replace h:=zT g_2 h
   exact wV h
  intro g_2;replace h:=zU g_2 h
  refine sk ?_
  refine rg [] [0,3,9,10,11] [] 0 [.sl false 1 (List.map (fun l=>AV.sl false 4 (l.map zA)) zP),Ii (zK (w7+(lN (x_1)))),.sl false 1 (List.map (fun l=>AV.sl false 4 (l.map zA)) zP),Ii (lN (zP)),Ii (zK (v_1+(1:Int)))] [] zH an ?_
  exact ⟨_,(sw [] [] [.s 0,.s 3,.s 9,.s 10,.s 11] [] an),_,_,rfl,h⟩
 refine sq ?_
 obtain ⟨r_1,h_3,h⟩:=bind_some h
 refine rg [(1,{ av:=.own 0 ((r_1).length),ids:=[0],l:=[.nilsl,Ii o_1],post:=[(.row 59 4 (Mp zA r_1))] })] [0,6] [0] 1 [.sl false 1 (List.map (fun l=>AV.sl false 4 (l.map zA)) zP),.own 0 ((r_1).length)] [Rb 59 4 (Mp zA r_1)] zH (ar ([.nilsl,Ii o_1]:List AV) (ac (rfl:([]:List zO)=[]) (ac (tS o_1 r_1 h_3:zW prog 63 [] [] [.nilsl,Ii o_1] [(.row 59 4 (Mp zA r_1))] (.own 0 ((r_1).length))) an))) ?_
 refine sq ?_
 refine sr [(1,{ n:=(zP).length })] [6,25,26,27] [0] 1 [.own 0 ((r_1).length),.sl false 1 (List.map (fun l=>AV.sl false 4 (l.map zA)) zP),Ii (lN (zP)),Ii 0] [Rb 59 4 (Mp zA r_1)] zH (ac (yH _:((List.map (fun l=>AV.sl false 4 (l.map zA)) zP)).length=(zP).length) an) ?_
 obtain ⟨o_2,h_4,h⟩:=bind_some h
 refine wO (mk [(6,.own 0 ((o_2).length))] [(0,Rb 59 4 (Mp zA o_2))] 1) ?_ ?_
 ·replace h:=h_4
  refine yU (id:=2) (by kernel_rfl) ?_
  refine wk [0] [] [.s 6,.s 25,.s 26,.s 27] [.s 0] [(6,.own 0 ((r_1).length)),(25,.sl false 1 (List.map (fun l=>AV.sl false 4 (l.map zA)) zP)),(26,Ii (lN (zP))),(27,Ii 0)] [(0,Rb 59 4 (Mp zA r_1))] an ?_
  refine wT (fun n st=>∃ (v_2:Int),∃ (zC:List zB),st=mk [(6,.own 0 ((zC).length)),(25,.sl false 1 (List.map (fun l=>AV.sl false 4 (l.map zA)) zP)),(26,Ii (lN (zP))),(27,Ii v_2)] [(0,Rb 59 4 (Mp zA zC))] 1∧xG F zP n v_2 zC=some o_2) F (by kernel_rfl) ⟨_,_,rfl,h⟩ ?_ ?_
  ·rintro _ ⟨_,_,_,h⟩;exact wV (h:(none:Option (List zB))=some o_2)
  rintro n_2 _ ⟨v_2,zC,rfl,h⟩
  replace h:yE F zP (xG F zP n_2) v_2 zC=some o_2:=h
  unfold yE at h
  refine sr [] [6,25,26,27,28] [0] 1 [.own 0 ((zC).length),.sl false 1 (List.map (fun l=>AV.sl false 4 (l.map zA)) zP),Ii (lN (zP)),Ii v_2,.bool (decide (v_2<(lN (zP))))] [Rb 59 4 (Mp zA zC)] zH an ?_
  refine sq ?_
  refine cd 28 (decide (v_2<(lN (zP)))) ?_ ?_
  rotate_left
  ·intro g_3;replace h:=zU g_3 h
   refine w5 (id:=2) (by kernel_rfl) ?_
   cases h
   exact ⟨rfl,(sw [0] [] [.s 6] [.s 0] an)⟩
  intro g_3;replace h:=zT g_3 h
  refine sk ?_
  refine sq ?_
  refine yU (id:=3) (by kernel_rfl) ?_
  refine sq ?_
  obtain ⟨x_2,h_5,h⟩:=bind_some h
  refine rg [(0,{ av:=.sl false 4 (Mp zA x_2) })] [6,8,25,26,27] [0] 1 [.own 0 ((zC).length),.sl false 4 (Mp zA x_2),.sl false 1 (List.map (fun l=>AV.sl false 4 (l.map zA)) zP),Ii (lN (zP)),Ii v_2] [Rb 59 4 (Mp zA zC)] zH (ac (wI h_5:vA (List.map (fun l=>AV.sl false 4 (l.map zA)) zP) v_2=some (.sl false 4 (Mp zA x_2))) an) ?_
  obtain ⟨_,h_6,h⟩:=bind_some h;replace h_6:=wS h_6
  refine rg [(2,{ id:=1,l:=(Mp zA (zC++x_2)),n:=((zC++x_2)).length })] [6,25,26,27] [1] 2 [.own 1 (((zC++x_2)).length),.sl false 1 (List.map (fun l=>AV.sl false 4 (l.map zA)) zP),Ii (lN (zP)),Ii v_2] [Rb 59 4 (Mp zA (zC++x_2))] zH (ac (by first | (simp;done) | (simp;omega):(zC).length=((List.map zA zC)).length) (ac (trivial:True) (ac (zBE _ _:(Mp zA (zC++x_2))=(Mp zA zC)++(Mp zA x_2)) (ac (by simp:((zC++x_2)).length=((List.map zA (zC++x_2))).length) (ac (by first | (simp;done) | simpa using h_6:(((List.map zA zC):List AV).length+((List.map zA x_2):List AV).length) * 48≤140737488355328) an))))) ?_
  refine rg [] [6,25,26,27] [1] 2 [.own 1 (((zC++x_2)).length),.sl false 1 (List.map (fun l=>AV.sl false 4 (l.map zA)) zP),Ii (lN (zP)),Ii (zK (v_2+(1:Int)))] [Rb 59 4 (Mp zA (zC++x_2))] zH an ?_
  exact ⟨_,(sw [1] [] [.s 6,.s 25,.s 26,.s 27] [.s 0] an),_,_,rfl,h⟩
 refine sr [] [2] [0] 1 [.own 0 ((o_2).length)] [Rb 59 4 (Mp zA o_2)] zH an ?_
 refine wk [0] [] [.s 2] [.s 0] [(2,.own 0 ((o_2).length))] [(0,Rb 59 4 (Mp zA o_2))] an ?_
 refine rt ?_
 cases h
 exact ⟨.inr rfl,Nat.le_of_ble_eq_true rfl,by kernel_rfl⟩

theorem zIh (F:Nat) (a_1:z9) (y5:List (yC)) (l_1:List (zB)) (r:z9×Int) (h:zB2 F a_1 y5 l_1=some r):zW prog 25 [] [] [yB a_1,.sl false 5 (Mp zF y5),.sl false 4 (Mp zA l_1)] [] (.tuple [yB r.1,Ii r.2]):=by
 refine yK (fn:=Go.Proofs.Try.f25) (code:=xY Go.Proofs.Try.f25) (by kernel_rfl) (by kernel_rfl) (Nat.le_of_ble_eq_true (by kernel_rfl)) ?_
 unfold zB2 at h
 refine sr [(0,{ id:=0 }),(1,{ id:=1 })] [1,2,3,6] [0,1] 2 [.sl false 5 (Mp zF y5),.sl false 4 (Mp zA l_1),Pp 0,Pp 1] [Vb 31 (y9 a_1),Vb 31 [.nilsl,.nilsl,.nilsl,.nilsl]] zH an ?_
 refine sr [(2,{ id:=2 })] [1,2,3,6,8] [0,1,2] 3 [.sl false 5 (Mp zF y5),.sl false 4 (Mp zA l_1),Pp 0,Pp 1,Pp 2] [Vb 31 (y9 a_1),Vb 31 [.nilsl,.nilsl,.nilsl,.nilsl],Vb 26 (zX a_1.Head)] zH an ?_
 refine sq ?_
 obtain ⟨r_1,h_1,h⟩:=bind_some h
 refine rg [(4,{ id:=3 }),(5,{ av:=.own 0 ((r_1).length),frz:=[3],ids:=[4],l:=[.sl false 1 (List.map (fun l=>AV.sl false 5 (l.map zF)) ([a_1.Head.Snaps,y5]:List (List (yC))))],post:=[(.row 86 5 (Mp zF r_1))] })] [2,3,6,8] [0,1,2,4] 5 [.sl false 4 (Mp zA l_1),Pp 0,Pp 1,Pp 2] [Vb 31 (y9 a_1),Vb 31 [.nilsl,.nilsl,.nilsl,.nilsl],Vb 26 [.sl false 3 (Mp zG a_1.Head.Threads),.sl false 2 (Mp zD a_1.Head.Domains),.own 4 ((r_1).length)],Rb 86 5 (Mp zF r_1)] zH (ac (by first | (simp;done) | (simp;omega):2=((List.map (fun l=>AV.sl false 5 (l.map zF)) ([a_1.Head.Snaps,y5]:List (List (yC))))).length) (ar ([.sl false 1 (List.map (fun l=>AV.sl false 5 (l.map zF)) ([a_1.Head.Snaps,y5]:List (List (yC))))]:List AV) (ac (rfl:([]:List zO)=[]) (ac (t4 F ([a_1.Head.Snaps,y5]:List (List (yC))) r_1 h_1:zW prog 45 [] [] [.sl false 1 (List.map (fun l=>AV.sl false 5 (l.map zF)) ([a_1.Head.Snaps,y5]:List (List (yC))))] [(.row 86 5 (Mp zF r_1))] (.own 0 ((r_1).length))) an)))) ?_
 refine sq ?_
 refine wk [0,1,2] [4] [.s 2,.s 3,.s 6,.s 8] [.s 0,.s 1,.a 2 (Vb 26 [.sl false 3 (Mp zG a_1.Head.Threads),.sl false 2 (Mp zD a_1.Head.Domains),.sl false 5 (Mp zF r_1)])] [(2,.sl false 4 (Mp zA l_1)),(3,Pp 0),(6,Pp 1),(8,Pp 2)] [(0,Vb 31 (y9 a_1)),(1,Vb 31 [.nilsl,.nilsl,.nilsl,.nilsl]),(2,Vb 26 [.sl false 3 (Mp zG a_1.Head.Threads),.sl false 2 (Mp zD a_1.Head.Domains),.sl false 5 (Mp zF r_1)])] (ar 26 (ac (rfl:uJ [.sl false 3 (Mp zG a_1.Head.Threads),.sl false 2 (Mp zD a_1.Head.Domains),.sl false 5 (Mp zF r_1)]=true) (ac (by first | (simp;done) | (simp;omega):(r_1).length=((List.map zF r_1)).length) (ar 3 (ar ((Mp zG a_1.Head.Threads):List AV) (ac (rfl:(!false||false)=true) (ar 2 (ar ((Mp zD a_1.Head.Domains):List AV) (ac (rfl:(!false||false)=true) (ar 5 (ar ((Mp zF r_1):List AV) (ac (rfl:(!false||false)=true) an)))))))))))) ?_
 obtain ⟨r_2,h_2,h⟩:=bind_some h
 obtain ⟨r_3,h_3,h⟩:=bind_some h
 refine rg [(4,{ id:=3 }),(5,{ av:=.own 0 ((r_2).length),frz:=[3],ids:=[4],l:=[.sl false 1 (List.map (fun l=>AV.sl false 4 (l.map zA)) ([a_1.Parts,l_1]:List (List (zB))))],post:=[(.row 59 4 (Mp zA r_2))] }),(6,{ av:=.tuple [yB r_3.1,Ii r_3.2],frz:=[4],l:=[.agg [.sl false 3 (Mp zG a_1.Head.Threads),.sl false 2 (Mp zD a_1.Head.Domains),.sl false 5 (Mp zF r_1)],.sl false 4 (Mp zA r_2)] })] [6,7] [1] 5 [Pp 1,Ii r_3.2] [Vb 31 (y9 r_3.1)] zH (ac (by first | (simp;done) | (simp;omega):2=((List.map (fun l=>AV.sl false 4 (l.map zA)) ([a_1.Parts,l_1]:List (List (zB))))).length) (ar ([.sl false 1 (List.map (fun l=>AV.sl false 4 (l.map zA)) ([a_1.Parts,l_1]:List (List (zB))))]:List AV) (ac (rfl:([]:List zO)=[]) (ac (tN F ([a_1.Parts,l_1]:List (List (zB))) r_2 h_2:zW prog 46 [] [] [.sl false 1 (List.map (fun l=>AV.sl false 4 (l.map zA)) ([a_1.Parts,l_1]:List (List (zB))))] [(.row 59 4 (Mp zA r_2))] (.own 0 ((r_2).length))) (ac (by first | (simp;done) | (simp;omega):(r_2).length=((List.map zA r_2)).length) (ar ([.agg [.sl false 3 (Mp zG a_1.Head.Threads),.sl false 2 (Mp zD a_1.Head.Domains),.sl false 5 (Mp zF r_1)],.sl false 4 (Mp zA r_2)]:List AV) (ac (rfl:([]:List zO)=[]) (ac (nW (args':=[y6 (⟨a_1.Head.Threads,a_1.Head.Domains,r_1⟩:zS),.sl false 4 (Mp zA r_2)]) (kX F (⟨a_1.Head.Threads,a_1.Head.Domains,r_1⟩:zS) r_2 r_3 h_3) rfl ⟨rfl,rfl,rfl,rfl,rfl,rfl,rfl,rfl,rfl,rfl,rfl,rfl,trivial⟩:zW prog 10 [] [] [.agg [.sl false 3 (Mp zG a_1.Head.Threads),.sl false 2 (Mp zD a_1.Head.Domains),.sl false 5 (Mp zF r_1)],.sl false 4 (Mp zA r_2)] [] (.tuple [yB r_3.1,Ii r_3.2])) an)))))))) ?_
 refine wk [1] [] [.s 6,.s 7] [.s 0] [(6,Pp 0),(7,Ii r_3.2)] [(0,Vb 31 (y9 r_3.1))] an ?_
 refine rt ?_
 cases h
 exact ⟨.inr rfl,Nat.le_of_ble_eq_true rfl,by kernel_rfl⟩

end Go.Ab
