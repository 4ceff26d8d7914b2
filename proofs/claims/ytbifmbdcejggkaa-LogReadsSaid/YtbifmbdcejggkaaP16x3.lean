/- Printed: the typed Lean functions of the Go functions, or the proofs that the Go functions meet them. No conditions but those that the theorems name. -/
import Derived.Test.YtbifmbdcejggkaaP16x2
namespace Go.Ab
open Go
set_option linter.unusedVariables false
theorem zK0 (F:Nat) (z7:Int) (l_1:List (zB)) (r:(List (zB))) (h:zCw F z7 l_1=some r):zV prog 34 [] [] [Ii z7,.sl false 4 (Mp zA l_1)] [] (.sl false 4 (Mp zA r)):=by
 refine yG (fn:=Go.Proofs.Try.f34) (code:=xC Go.Proofs.Try.f34) (by kernel_rfl) (by kernel_rfl) (Nat.le_of_ble_eq_true (by kernel_rfl)) ?_
 unfold zCw at h
 refine sr [] [0,1] [] 0 [Ii z7,.sl false 4 (Mp zA l_1)] [] zF an ?_
 refine sr [(0,{ id:=0,m:=1 })] [0,1,5] [0] 1 [Ii z7,.sl false 4 (Mp zA l_1),.own 0 0] [Rb 59 4 []] zF an ?_
 refine uW (zLd (e:=59) (sz:=4) 0 1 42 6 (z8 (lst ([]:List zB))++[.own 1 ((lst ([]:List zB)).Events).length]) (by kernel_rfl)) ?_
 refine wk [0,1] [] [.s 0,.s 1,.a 5 (.own 0 ((([]:List zB)).length))] [.s 0,.s 1] [(0,Ii z7),(1,.sl false 4 (Mp zA l_1)),(5,.own 0 ((([]:List zB)).length))] [(0,.live (.rowQ 59 4 (Mp zA (ini ([]:List zB))) (!(([]:List zB)).isEmpty) (z8 (lst ([]:List zB))++[.own 1 ((lst ([]:List zB)).Events).length]))),(1,Rb 42 6 (Mp zD (lst ([]:List zB)).Events))] (ac (congrArg (AV.own _) (by first | (simp;done) | (simp;omega)):(.own 0 0:AV)=.own 0 ((([]:List zB)).length)) an) ?_
 refine sq ?_
 refine sr [] [0,1,5,6] [0,1] 2 [Ii z7,.sl false 4 (Mp zA l_1),.own 0 ((([]:List zB)).length),Ii 0] [.live (.rowQ 59 4 (Mp zA (ini ([]:List zB))) (!(([]:List zB)).isEmpty) (z8 (lst ([]:List zB))++[.own 1 ((lst ([]:List zB)).Events).length])),Rb 42 6 (Mp zD (lst ([]:List zB)).Events)] zF an ?_
 obtain ⟨o_1,h_1,h⟩:=bind_some h
 refine y4 (mk [(5,.own 0 ((o_1).length))] [(0,.live (.rowQ 59 4 (Mp zA (ini o_1)) (!(o_1).isEmpty) (z8 (lst o_1)++[.own 1 ((lst o_1).Events).length]))),(1,Rb 42 6 (Mp zD (lst o_1).Events))] 2) ?_ ?_
 ·replace h:=h_1
  refine yD (id:=0) (by kernel_rfl) ?_
  refine wk [0,1] [] [.s 0,.s 1,.s 5,.s 6] [.s 0,.s 1] [(0,Ii z7),(1,.sl false 4 (Mp zA l_1)),(5,.own 0 ((([]:List zB)).length)),(6,Ii 0)] [(0,.live (.rowQ 59 4 (Mp zA (ini ([]:List zB))) (!(([]:List zB)).isEmpty) (z8 (lst ([]:List zB))++[.own 1 ((lst ([]:List zB)).Events).length]))),(1,Rb 42 6 (Mp zD (lst ([]:List zB)).Events))] an ?_
  refine xI (fun n st=>∃ (i_1:Int),∃ (zE:List zB),st=mk [(0,Ii z7),(1,.sl false 4 (Mp zA l_1)),(5,.own 0 ((zE).length)),(6,Ii i_1)] [(0,.live (.rowQ 59 4 (Mp zA (ini zE)) (!(zE).isEmpty) (z8 (lst zE)++[.own 1 ((lst zE).Events).length]))),(1,Rb 42 6 (Mp zD (lst zE).Events))] 2∧pE F z7 l_1 n i_1 zE=some o_1) F (by kernel_rfl) ⟨_,_,rfl,h⟩ ?_ ?_
  ·rintro _ ⟨_,_,_,h⟩;exact xN (h:(none:Option (List zB))=some o_1)
  rintro n_1 _ ⟨i_1,zE,rfl,h⟩
  replace h:jL F z7 l_1 (pE F z7 l_1 n_1) i_1 zE=some o_1:=h
  unfold jL at h
  refine sq ?_
  refine sr [(2,{ n:=(l_1).length })] [0,1,5,6,13] [0,1] 2 [Ii z7,.sl false 4 (Mp zA l_1),.own 0 ((zE).length),Ii i_1,.bool (decide (i_1<(lN (l_1))))] [.live (.rowQ 59 4 (Mp zA (ini zE)) (!(zE).isEmpty) (z8 (lst zE)++[.own 1 ((lst zE).Events).length])),Rb 42 6 (Mp zD (lst zE).Events)] zF (ac (yF _:((Mp zA l_1)).length=(l_1).length) an) ?_
  refine cd 13 (decide (i_1<(lN (l_1)))) ?_ ?_
  rotate_left
  ·intro g_1;replace h:=zQ g_1 h
   refine xM (id:=0) (by kernel_rfl) ?_
   cases h
   exact ⟨rfl,(sw [0,1] [] [.s 5] [.s 0,.s 1] an)⟩
  intro g_1;replace h:=zR g_1 h
  refine sk ?_
  refine sq ?_
  obtain ⟨o_2,h_2,h⟩:=bind_some h
  refine y4 (mk [(0,Ii z7),(1,.sl false 4 (Mp zA l_1)),(5,.own 0 ((o_2).length)),(6,Ii i_1)] [(0,.live (.rowQ 59 4 (Mp zA (ini o_2)) (!(o_2).isEmpty) (z8 (lst o_2)++[.own 1 ((lst o_2).Events).length]))),(1,Rb 42 6 (Mp zD (lst o_2).Events))] 2) ?_ ?_
  ·replace h:=h_2
   refine yD (id:=1) (by kernel_rfl) ?_
   refine sq ?_
   refine sq ?_
   obtain ⟨x_1,h_3,h⟩:=bind_some h
   refine rg [(2,{ av:=zA x_1 })] [0,1,5,6,22] [0,1] 2 [Ii z7,.sl false 4 (Mp zA l_1),.own 0 ((zE).length),Ii i_1,.bool (x_1.Thread != z7)] [.live (.rowQ 59 4 (Mp zA (ini zE)) (!(zE).isEmpty) (z8 (lst zE)++[.own 1 ((lst zE).Events).length])),Rb 42 6 (Mp zD (lst zE).Events)] zF (ac (yR h_3:xJ (Mp zA l_1) i_1=some (zA x_1)) an) ?_
   refine cd 22 (x_1.Thread != z7) ?_ ?_
   ·intro g_2;replace h:=zR g_2 h
    refine xM (id:=1) (by kernel_rfl) ?_
    cases h
    exact ⟨rfl,(sw [0,1] [] [.s 0,.s 1,.s 5,.s 6] [.s 0,.s 1] an)⟩
   intro g_2;replace h:=zQ g_2 h
   refine sk ?_
   refine sr [] [0,1,5,6,7] [0,1] 2 [Ii z7,.sl false 4 (Mp zA l_1),.own 0 ((zE).length),Ii i_1,Ii 0] [.live (.rowQ 59 4 (Mp zA (ini zE)) (!(zE).isEmpty) (z8 (lst zE)++[.own 1 ((lst zE).Events).length])),Rb 42 6 (Mp zD (lst zE).Events)] zF an ?_
   obtain ⟨o_3,h_4,h⟩:=bind_some h
   refine y4 (mk [(0,Ii z7),(1,.sl false 4 (Mp zA l_1)),(5,.own 0 ((o_3).length)),(6,Ii i_1)] [(0,.live (.rowQ 59 4 (Mp zA (ini o_3)) (!(o_3).isEmpty) (z8 (lst o_3)++[.own 1 ((lst o_3).Events).length]))),(1,Rb 42 6 (Mp zD (lst o_3).Events))] 2) ?_ ?_
   ·replace h:=h_4
    refine yD (id:=2) (by kernel_rfl) ?_
    refine wk [0,1] [] [.s 0,.s 1,.s 5,.s 6,.s 7] [.s 0,.s 1] [(0,Ii z7),(1,.sl false 4 (Mp zA l_1)),(5,.own 0 ((zE).length)),(6,Ii i_1),(7,Ii 0)] [(0,.live (.rowQ 59 4 (Mp zA (ini zE)) (!(zE).isEmpty) (z8 (lst zE)++[.own 1 ((lst zE).Events).length]))),(1,Rb 42 6 (Mp zD (lst zE).Events))] an ?_
    refine xI (fun n st=>∃ (k_1:Int),∃ (zY:List zB),st=mk [(0,Ii z7),(1,.sl false 4 (Mp zA l_1)),(5,.own 0 ((zY).length)),(6,Ii i_1),(7,Ii k_1)] [(0,.live (.rowQ 59 4 (Mp zA (ini zY)) (!(zY).isEmpty) (z8 (lst zY)++[.own 1 ((lst zY).Events).length]))),(1,Rb 42 6 (Mp zD (lst zY).Events))] 2∧pN F z7 l_1 i_1 n k_1 zY=some o_3) F (by kernel_rfl) ⟨_,_,rfl,h⟩ ?_ ?_
    ·rintro _ ⟨_,_,_,h⟩;exact xN (h:(none:Option (List zB))=some o_3)
    rintro n_2 _ ⟨k_1,zY,rfl,h⟩
    replace h:tF F z7 l_1 i_1 (pN F z7 l_1 i_1 n_2) k_1 zY=some o_3:=h
    unfold tF at h
    refine sq ?_
    refine sq ?_
    obtain ⟨x_2,h_5,h⟩:=bind_some h
    refine rg [(3,{ av:=zA x_2 }),(6,{ n:=(x_2.Events).length })] [0,1,5,6,7,30] [0,1] 2 [Ii z7,.sl false 4 (Mp zA l_1),.own 0 ((zY).length),Ii i_1,Ii k_1,.bool (decide (k_1<(lN (x_2.Events))))] [.live (.rowQ 59 4 (Mp zA (ini zY)) (!(zY).isEmpty) (z8 (lst zY)++[.own 1 ((lst zY).Events).length])),Rb 42 6 (Mp zD (lst zY).Events)] zF (ac (yR h_5:xJ (Mp zA l_1) i_1=some (zA x_2)) (ac (yF _:((Mp zD x_2.Events)).length=(x_2.Events).length) an)) ?_
    refine cd 30 (decide (k_1<(lN (x_2.Events)))) ?_ ?_
    rotate_left
    ·intro g_3;replace h:=zQ g_3 h
     refine xM (id:=2) (by kernel_rfl) ?_
     cases h
     exact ⟨rfl,(sw [0,1] [] [.s 0,.s 1,.s 5,.s 6] [.s 0,.s 1] an)⟩
    intro g_3;replace h:=zR g_3 h
    refine sk ?_
    refine sq ?_
    obtain ⟨o_4,h_6,h⟩:=bind_some h
    refine y4 (mk [(0,Ii z7),(1,.sl false 4 (Mp zA l_1)),(5,.own 0 ((o_4).length)),(6,Ii i_1),(7,Ii k_1)] [(0,.live (.rowQ 59 4 (Mp zA (ini o_4)) (!(o_4).isEmpty) (z8 (lst o_4)++[.own 1 ((lst o_4).Events).length]))),(1,Rb 42 6 (Mp zD (lst o_4).Events))] 2) ?_ ?_
    ·replace h:=h_6
     refine yD (id:=3) (by kernel_rfl) ?_
     refine sr [] [0,1,5,6,7,8] [0,1] 2 [Ii z7,.sl false 4 (Mp zA l_1),.own 0 ((zY).length),Ii i_1,Ii k_1,Ii 0] [.live (.rowQ 59 4 (Mp zA (ini zY)) (!(zY).isEmpty) (z8 (lst zY)++[.own 1 ((lst zY).Events).length])),Rb 42 6 (Mp zD (lst zY).Events)] zF an ?_
     refine sq ?_
     refine sr [] [0,1,5,6,7,8,34] [0,1] 2 [Ii z7,.sl false 4 (Mp zA l_1),.own 0 ((zY).length),Ii i_1,Ii k_1,Ii 0,.bool (k_1==(0:Int))] [.live (.rowQ 59 4 (Mp zA (ini zY)) (!(zY).isEmpty) (z8 (lst zY)++[.own 1 ((lst zY).Events).length])),Rb 42 6 (Mp zD (lst zY).Events)] zF an ?_
     obtain ⟨o_5,h_7,h⟩:=bind_some h
     refine y4 (mk [(0,Ii z7),(1,.sl false 4 (Mp zA l_1)),(5,.own 0 ((zY).length)),(6,Ii i_1),(7,Ii k_1),(8,Ii o_5)] [(0,.live (.rowQ 59 4 (Mp zA (ini zY)) (!(zY).isEmpty) (z8 (lst zY)++[.own 1 ((lst zY).Events).length]))),(1,Rb 42 6 (Mp zD (lst zY).Events))] 2) ?_ ?_
     ·replace h:=h_7
      refine cd 34 (k_1==(0:Int)) ?_ ?_
      rotate_left
      ·intro g_4;replace h:=zQ g_4 h
       refine sk ?_
       cases h
       exact ⟨rfl,(sw [0,1] [] [.s 0,.s 1,.s 5,.s 6,.s 7,.s 8] [.s 0,.s 1] an)⟩
      intro g_4;replace h:=zR g_4 h
      obtain ⟨x_3,h_8,h⟩:=bind_some h
      refine rg [(2,{ av:=zA x_3 })] [0,1,5,6,7,8] [0,1] 2 [Ii z7,.sl false 4 (Mp zA l_1),.own 0 ((zY).length),Ii i_1,Ii k_1,Ii x_3.Lost] [.live (.rowQ 59 4 (Mp zA (ini zY)) (!(zY).isEmpty) (z8 (lst zY)++[.own 1 ((lst zY).Events).length])),Rb 42 6 (Mp zD (lst zY).Events)] zF (ac (yR h_8:xJ (Mp zA l_1) i_1=some (zA x_3)) an) ?_
      cases h
      exact ⟨rfl,(sw [0,1] [] [.s 0,.s 1,.s 5,.s 6,.s 7,.s 8] [.s 0,.s 1] an)⟩
     refine sr [] [0,1,5,6,7,8,9] [0,1] 2 [Ii z7,.sl false 4 (Mp zA l_1),.own 0 ((zY).length),Ii i_1,Ii k_1,Ii o_5,Ii (lN (zY))] [.live (.rowQ 59 4 (Mp zA (ini zY)) (!(zY).isEmpty) (z8 (lst zY)++[.own 1 ((lst zY).Events).length])),Rb 42 6 (Mp zD (lst zY).Events)] zF an ?_
     refine sq ?_
     refine sq ?_
     obtain ⟨p_1,tU,h⟩:=bind_some h
     refine y4 (mk [(0,Ii z7),(1,.sl false 4 (Mp zA l_1)),(5,.own 0 ((zY).length)),(6,Ii i_1),(7,Ii k_1),(8,Ii o_5),(9,Ii (lN (zY))),(57,.bool p_1)] [(0,.live (.rowQ 59 4 (Mp zA (ini zY)) (!(zY).isEmpty) (z8 (lst zY)++[.own 1 ((lst zY).Events).length]))),(1,Rb 42 6 (Mp zD (lst zY).Events))] 2) ?_ ?_
     ·replace h:=tU
      rcases bft ((lN (zY))==(0:Int)) with zA5 | zA5
      ·replace h:=zR zA5 h
       refine rg [(3,Hg),(4,Hg),(5,Ht),(7,Hg),(8,Hg),(9,Hg),(10,Hg),(11,Hg),(12,Hg),(13,Hg),(14,Hg),(15,Ht)] [0,1,5,6,7,8,9,45,46,49,50,51,52,53,54,55,56,57] [0,1] 2 [Ii z7,.sl false 4 (Mp zA l_1),.own 0 ((zY).length),Ii i_1,Ii k_1,Ii o_5,Ii (lN (zY)),.tuple [],.tuple [],.tuple [],.tuple [],.tuple [],.tuple [],.tuple [],.tuple [],.tuple [],.tuple [],.bool true] [.live (.rowQ 59 4 (Mp zA (ini zY)) (!(zY).isEmpty) (z8 (lst zY)++[.own 1 ((lst zY).Events).length])),Rb 42 6 (Mp zD (lst zY).Events)] zF (ac zA5 (ac zA5 (ac zA5 (ax (ax (ax (ax (ax (ax (ax (ax (ar true an)))))))))))) ?_
       cases h
       exact ⟨rfl,(sw [0,1] [] [.s 0,.s 1,.s 5,.s 6,.s 7,.s 8,.s 9,.s 57] [.s 0,.s 1] an)⟩
      ·replace h:=zQ zA5 h
       rcases bft (decide (o_5>(0:Int))) with qT | qT
       ·replace h:=zR qT h
        refine rg [(5,Hf),(7,Hg),(8,Hg),(9,Hg),(10,Hg),(11,Hg),(12,Hg),(13,Hg),(14,Hg),(15,Ht)] [0,1,5,6,7,8,9,45,46,49,50,51,52,53,54,55,56,57] [0,1] 2 [Ii z7,.sl false 4 (Mp zA l_1),.own 0 ((zY).length),Ii i_1,Ii k_1,Ii o_5,Ii (lN (zY)),Ii o_5,.bool (decide (o_5>(0:Int))),.tuple [],.tuple [],.tuple [],.tuple [],.tuple [],.tuple [],.tuple [],.tuple [],.bool true] [.live (.rowQ 59 4 (Mp zA (ini zY)) (!(zY).isEmpty) (z8 (lst zY)++[.own 1 ((lst zY).Events).length])),Rb 42 6 (Mp zD (lst zY).Events)] zF (ac zA5 (ac zA5 (ac zA5 (ac qT (ac qT (ac qT (ac qT (ac qT (ac qT (ac qT (ac qT (ac qT an)))))))))))) ?_
        cases h
        exact ⟨rfl,(sw [0,1] [] [.s 0,.s 1,.s 5,.s 6,.s 7,.s 8,.s 9,.s 57] [.s 0,.s 1] an)⟩
       ·replace h:=zQ qT h
        obtain ⟨_,h_9,h⟩:=bind_some h;replace h_9:=wK h_9
        obtain ⟨_,tT,h⟩:=bind_some h;replace tT:=wK tT
        refine rg [(5,Hf),(12,{ x:=true }),(15,Hf)] [0,1,5,6,7,8,9,45,46,49,50,51,52,53,54,55,56,57] [0,1] 2 [Ii z7,.sl false 4 (Mp zA l_1),.own 0 ((zY).length),Ii i_1,Ii k_1,Ii o_5,Ii (lN (zY)),Ii o_5,.bool (decide (o_5>(0:Int))),.own 0 ((zY).length),Ii (lN (zY)),Ii (zP ((lN (zY)) - (1:Int))),.ptr 0 4 ((zP ((lN (zY)) - (1:Int))).toNat) 0,.ptr 0 4 ((zP ((lN (zY)) - (1:Int))).toNat) 3,.own 1 (((lst zY).Events).length),Ii (lN ((lst zY).Events)),.bool ((lN ((lst zY).Events))==(1000:Int)),.bool ((lN ((lst zY).Events))==(1000:Int))] [.live (.rowQ 59 4 (Mp zA (ini zY)) (!(zY).isEmpty) (z8 (lst zY)++[.own 1 ((lst zY).Events).length])),Rb 42 6 (Mp zD (lst zY).Events)] zF (ac zA5 (ac zA5 (ac zA5 (ac qT (ac qT (ac qT (ac qT (ac h_9.1 (ac h_9.2 (ac qT (ac qT (ac (zEH _ tT:(zP ((lN (zY)) - (1:Int))).toNat=(Mp zA (ini zY)).length) (ac (zBx (Nat.lt_of_lt_of_eq (Nat.succ_pos _) tT):(!(zY).isEmpty)=true) (ac qT (ac qT (ac qT an)))))))))))))))) ?_
        cases h
        exact ⟨rfl,(sw [0,1] [] [.s 0,.s 1,.s 5,.s 6,.s 7,.s 8,.s 9,.s 57] [.s 0,.s 1] an)⟩
     obtain ⟨o_6,zCd,h⟩:=bind_some h
     refine y4 (mk [(0,Ii z7),(1,.sl false 4 (Mp zA l_1)),(5,.own 0 ((o_6.2).length)),(6,Ii i_1),(7,Ii k_1),(9,Ii o_6.1)] [(0,.live (.rowQ 59 4 (Mp zA (ini o_6.2)) (!(o_6.2).isEmpty) (z8 (lst o_6.2)++[.own 1 ((lst o_6.2).Events).length]))),(1,Rb 42 6 (Mp zD (lst o_6.2).Events))] 2) ?_ ?_
     ·replace h:=zCd
      refine cd 57 p_1 ?_ ?_
      rotate_left
      ·intro g_5;replace h:=zQ g_5 h
       refine sk ?_
       cases h
       exact ⟨rfl,(sw [0,1] [] [.s 0,.s 1,.s 5,.s 6,.s 7,.s 9] [.s 0,.s 1] an)⟩
      intro g_5;replace h:=zR g_5 h
      refine sq ?_
      refine uW (zEz (e:=59) (sz:=4) 0 1 (Mp zA zY) (by kernel_rfl) (ac ((List.length_map _).symm:((lst zY).Events).length=(Mp zD (lst zY).Events:List AV).length) (ac (zFd zA zY _ rfl:(Mp zA zY:List AV)=List.map zA (ini zY)++bif (!(zY).isEmpty) then [.agg (z8 (lst zY)++[.sl false 6 (Mp zD (lst zY).Events)])] else []) an))) ?_
      refine wk [0] [] [.s 0,.s 1,.s 5,.s 6,.s 7,.s 8,.s 9] [.s 0] [(0,Ii z7),(1,.sl false 4 (Mp zA l_1)),(5,.own 0 ((zY).length)),(6,Ii i_1),(7,Ii k_1),(8,Ii o_5),(9,Ii (lN (zY)))] [(0,Rb 59 4 (Mp zA zY))] an ?_
      obtain ⟨x_4,zEV,h⟩:=bind_some h
      obtain ⟨_,zEW,h⟩:=bind_some h;replace zEW:=wK zEW
      refine rg [(4,{ av:=zA x_4 }),(11,{ id:=1 }),(12,{ id:=2,l:=(Mp zA zY++[.agg [Ii z7,Ii (zP (x_4.Serial+k_1)),Ii o_5,.nilsl]]),n:=((zY).length+1) })] [0,1,5,6,7,9] [2] 3 [Ii z7,.sl false 4 (Mp zA l_1),.own 2 ((zY).length+1),Ii i_1,Ii k_1,Ii (lN (zY))] [Rb 59 4 (Mp zA zY++[.agg [Ii z7,Ii (zP (x_4.Serial+k_1)),Ii o_5,.nilsl]])] zF (ac (yR zEV:xJ (Mp zA l_1) i_1=some (zA x_4)) (ac ((List.length_map _).symm:(zY).length=(Mp zA zY).length) (ac (rfl:1=([.agg [Ii z7,Ii (zP (x_4.Serial+k_1)),Ii o_5,.nilsl]]:List AV).length) (ac (rfl:((Mp zA zY++[.agg [Ii z7,Ii (zP (x_4.Serial+k_1)),Ii o_5,.nilsl]]):List AV)=List.map zA zY++[.agg [Ii z7,Ii (zP (x_4.Serial+k_1)),Ii o_5,.nilsl]]) (ac (by simp:((zY).length+1)=((List.map zA zY++[.agg [Ii z7,Ii (zP (x_4.Serial+k_1)),Ii o_5,.nilsl]]):List AV).length) (ac (by rw [List.length_map];exact zEW:((List.map zA zY:List AV).length+([.agg [Ii z7,Ii (zP (x_4.Serial+k_1)),Ii o_5,.nilsl]]:List AV).length) * 48≤140737488355328) an)))))) ?_
      refine uW (zEG (e:=59) (sz:=4) 2 3 42 6 (Mp zA zY) [Ii z7,Ii (zP (x_4.Serial+k_1)),Ii o_5] (by kernel_rfl) (ac (rfl:(Mp zA zY++[.agg [Ii z7,Ii (zP (x_4.Serial+k_1)),Ii o_5,.nilsl]]:List AV)=List.map zA zY++[.agg ([Ii z7,Ii (zP (x_4.Serial+k_1)),Ii o_5]++[.nilsl])]) an)) ?_
      refine wk [2,3] [] [.s 0,.s 1,.a 5 (.own 0 (((zY++[(⟨z7,zP (x_4.Serial+k_1),o_5,[]⟩:zB)])).length)),.s 6,.s 7,.s 9] [.a 0 (.live (.rowQ 59 4 (Mp zA (ini (zY++[(⟨z7,zP (x_4.Serial+k_1),o_5,[]⟩:zB)]))) (!((zY++[(⟨z7,zP (x_4.Serial+k_1),o_5,[]⟩:zB)])).isEmpty) (z8 (lst (zY++[(⟨z7,zP (x_4.Serial+k_1),o_5,[]⟩:zB)]))++[.own 1 ((lst (zY++[(⟨z7,zP (x_4.Serial+k_1),o_5,[]⟩:zB)])).Events).length]))),.a 1 (Rb 42 6 (Mp zD (lst (zY++[(⟨z7,zP (x_4.Serial+k_1),o_5,[]⟩:zB)])).Events))] [(0,Ii z7),(1,.sl false 4 (Mp zA l_1)),(5,.own 0 (((zY++[(⟨z7,zP (x_4.Serial+k_1),o_5,[]⟩:zB)])).length)),(6,Ii i_1),(7,Ii k_1),(9,Ii (lN (zY)))] [(0,.live (.rowQ 59 4 (Mp zA (ini (zY++[(⟨z7,zP (x_4.Serial+k_1),o_5,[]⟩:zB)]))) (!((zY++[(⟨z7,zP (x_4.Serial+k_1),o_5,[]⟩:zB)])).isEmpty) (z8 (lst (zY++[(⟨z7,zP (x_4.Serial+k_1),o_5,[]⟩:zB)]))++[.own 1 ((lst (zY++[(⟨z7,zP (x_4.Serial+k_1),o_5,[]⟩:zB)])).Events).length]))),(1,Rb 42 6 (Mp zD (lst (zY++[(⟨z7,zP (x_4.Serial+k_1),o_5,[]⟩:zB)])).Events))] (ac (congrArg (AV.own _) (by first | (simp;done) | (simp;omega)):(.own 2 ((zY).length+1):AV)=.own 2 (((zY++[(⟨z7,zP (x_4.Serial+k_1),o_5,[]⟩:zB)])).length)) (ar 59 (ar 4 (ac ((congrArg (List.map _) (zAa _ _)).symm:((Mp zA zY):List AV)=List.map zA (ini (zY++[(⟨z7,zP (x_4.Serial+k_1),o_5,[]⟩:zB)]))) (ac ((zFJ _ _).symm:true=(!((zY++[(⟨z7,zP (x_4.Serial+k_1),o_5,[]⟩:zB)])).isEmpty)) (ac (rfl:v7 (z8 (lst (zY++[(⟨z7,zP (x_4.Serial+k_1),o_5,[]⟩:zB)]))++[.own 3 ((lst (zY++[(⟨z7,zP (x_4.Serial+k_1),o_5,[]⟩:zB)])).Events).length])=true) (ac (by first | (simp only [y3];done) | simp [y3]:(Ii z7:AV)=Ii ((lst (zY++[(⟨z7,zP (x_4.Serial+k_1),o_5,[]⟩:zB)])).Thread)) (ac (by first | (simp only [y3];done) | simp [y3]:(Ii (zP (x_4.Serial+k_1)):AV)=Ii ((lst (zY++[(⟨z7,zP (x_4.Serial+k_1),o_5,[]⟩:zB)])).Serial)) (ac (by first | (simp only [y3];done) | simp [y3]:(Ii o_5:AV)=Ii ((lst (zY++[(⟨z7,zP (x_4.Serial+k_1),o_5,[]⟩:zB)])).Lost)) (ac (congrArg (AV.own _) (by first | (simp only [y3];done) | simp [y3]):(.own 3 0:AV)=.own 3 (((lst (zY++[(⟨z7,zP (x_4.Serial+k_1),o_5,[]⟩:zB)])).Events).length)) (ar 42 (ar 6 (ac (by first | (simp only [y3];done) | simp [y3]:([]:List AV)=List.map zD (lst (zY++[(⟨z7,zP (x_4.Serial+k_1),o_5,[]⟩:zB)])).Events) an))))))))))))) ?_
      refine rg [] [0,1,5,6,7,9] [0,1] 2 [Ii z7,.sl false 4 (Mp zA l_1),.own 0 (((zY++[(⟨z7,zP (x_4.Serial+k_1),o_5,[]⟩:zB)])).length),Ii i_1,Ii k_1,Ii (zP ((lN (zY))+(1:Int)))] [.live (.rowQ 59 4 (Mp zA (ini (zY++[(⟨z7,zP (x_4.Serial+k_1),o_5,[]⟩:zB)]))) (!((zY++[(⟨z7,zP (x_4.Serial+k_1),o_5,[]⟩:zB)])).isEmpty) (z8 (lst (zY++[(⟨z7,zP (x_4.Serial+k_1),o_5,[]⟩:zB)]))++[.own 1 ((lst (zY++[(⟨z7,zP (x_4.Serial+k_1),o_5,[]⟩:zB)])).Events).length])),Rb 42 6 (Mp zD (lst (zY++[(⟨z7,zP (x_4.Serial+k_1),o_5,[]⟩:zB)])).Events)] zF an ?_
      cases h
      exact ⟨rfl,(sw [0,1] [] [.s 0,.s 1,.s 5,.s 6,.s 7,.s 9] [.s 0,.s 1] an)⟩
     obtain ⟨_,zDY,h⟩:=bind_some h;replace zDY:=wK zDY
     obtain ⟨_,h_16,h⟩:=bind_some h;replace h_16:=wK h_16
     obtain ⟨x_5,h_17,h⟩:=bind_some h
     obtain ⟨x_6,h_18,h⟩:=bind_some h
     obtain ⟨_,h_19,h⟩:=bind_some h;replace h_19:=wK h_19
     obtain ⟨_,zFR,h⟩:=bind_some h;replace zFR:=wK zFR
     obtain ⟨_,zDZ,h⟩:=bind_some h;replace zDZ:=wK zDZ
     refine rg [(8,{ x:=true }),(11,{ av:=zA x_5 }),(15,{ av:=zD x_6 }),(17,{ id:=2 }),(18,{ id:=3,l:=(Mp zD (((lst o_6.2).Events)++([x_6]:List zI))),n:=((((lst o_6.2).Events)++([x_6]:List zI))).length }),(21,{ x:=true })] [0,1,5,6,7] [0,3] 4 [Ii z7,.sl false 4 (Mp zA l_1),.own 0 ((o_6.2).length),Ii i_1,Ii k_1] [.live (.rowQ 59 4 (Mp zA (ini o_6.2)) (!(o_6.2).isEmpty) [Ii ((lst o_6.2).Thread),Ii ((lst o_6.2).Serial),Ii ((lst o_6.2).Lost),.own 3 (((((lst o_6.2).Events)++([x_6]:List zI))).length)]),Rb 42 6 (Mp zD (((lst o_6.2).Events)++([x_6]:List zI)))] zF (ac zDY.1 (ac zDY.2 (ac (zEH _ h_16:(zP (o_6.1 - (1:Int))).toNat=(Mp zA (ini o_6.2)).length) (ac (zBx (Nat.lt_of_lt_of_eq (Nat.succ_pos _) h_16):(!(o_6.2).isEmpty)=true) (ac (yR h_17:xJ (Mp zA l_1) i_1=some (zA x_5)) (ac (yR h_18:xJ (Mp zD x_5.Events) k_1=some (zD x_6)) (ac (by first | (simp;done) | (simp;omega):((lst o_6.2).Events).length=((List.map zD ((lst o_6.2).Events))).length) (ac (by first | (simp;done) | (simp;omega):1=((List.map zD ([x_6]:List zI))).length) (ac (zBD _ _:(Mp zD (((lst o_6.2).Events)++([x_6]:List zI)))=(Mp zD ((lst o_6.2).Events))++(Mp zD ([x_6]:List zI))) (ac (by simp:((((lst o_6.2).Events)++([x_6]:List zI))).length=((List.map zD (((lst o_6.2).Events)++([x_6]:List zI)))).length) (ac (by first | (simp;done) | simpa using h_19:(((List.map zD ((lst o_6.2).Events)):List AV).length+((List.map zD ([x_6]:List zI)):List AV).length) * 72≤140737488355328) (ac zFR.1 (ac zFR.2 (ac (zEH _ zDZ:(zP (o_6.1 - (1:Int))).toNat=(Mp zA (ini o_6.2)).length) (ac (zBx (Nat.lt_of_lt_of_eq (Nat.succ_pos _) zDZ):(!(o_6.2).isEmpty)=true) an))))))))))))))) ?_
     cases h
     exact ⟨rfl,(Sub.trans (zF1 [0,3] [] [.s 0,.s 1,.a 5 (.own 0 ((((ini o_6.2)++[(⟨(lst o_6.2).Thread,(lst o_6.2).Serial,(lst o_6.2).Lost,(((lst o_6.2).Events)++([x_6]:List zI))⟩:zB)])).length)),.s 6,.s 7] [.a 0 (.live (.rowQ 59 4 (Mp zA (ini ((ini o_6.2)++[(⟨(lst o_6.2).Thread,(lst o_6.2).Serial,(lst o_6.2).Lost,(((lst o_6.2).Events)++([x_6]:List zI))⟩:zB)]))) (!(((ini o_6.2)++[(⟨(lst o_6.2).Thread,(lst o_6.2).Serial,(lst o_6.2).Lost,(((lst o_6.2).Events)++([x_6]:List zI))⟩:zB)])).isEmpty) (z8 (lst ((ini o_6.2)++[(⟨(lst o_6.2).Thread,(lst o_6.2).Serial,(lst o_6.2).Lost,(((lst o_6.2).Events)++([x_6]:List zI))⟩:zB)]))++[.own 1 ((lst ((ini o_6.2)++[(⟨(lst o_6.2).Thread,(lst o_6.2).Serial,(lst o_6.2).Lost,(((lst o_6.2).Events)++([x_6]:List zI))⟩:zB)])).Events).length]))),.a 1 (Rb 42 6 (Mp zD (lst ((ini o_6.2)++[(⟨(lst o_6.2).Thread,(lst o_6.2).Serial,(lst o_6.2).Lost,(((lst o_6.2).Events)++([x_6]:List zI))⟩:zB)])).Events))] (sl2:=[(0,Ii z7),(1,.sl false 4 (Mp zA l_1)),(5,.own 0 ((((ini o_6.2)++[(⟨(lst o_6.2).Thread,(lst o_6.2).Serial,(lst o_6.2).Lost,(((lst o_6.2).Events)++([x_6]:List zI))⟩:zB)])).length)),(6,Ii i_1),(7,Ii k_1)]) (bx2:=[(0,.live (.rowQ 59 4 (Mp zA (ini ((ini o_6.2)++[(⟨(lst o_6.2).Thread,(lst o_6.2).Serial,(lst o_6.2).Lost,(((lst o_6.2).Events)++([x_6]:List zI))⟩:zB)]))) (!(((ini o_6.2)++[(⟨(lst o_6.2).Thread,(lst o_6.2).Serial,(lst o_6.2).Lost,(((lst o_6.2).Events)++([x_6]:List zI))⟩:zB)])).isEmpty) (z8 (lst ((ini o_6.2)++[(⟨(lst o_6.2).Thread,(lst o_6.2).Serial,(lst o_6.2).Lost,(((lst o_6.2).Events)++([x_6]:List zI))⟩:zB)]))++[.own 1 ((lst ((ini o_6.2)++[(⟨(lst o_6.2).Thread,(lst o_6.2).Serial,(lst o_6.2).Lost,(((lst o_6.2).Events)++([x_6]:List zI))⟩:zB)])).Events).length]))),(1,Rb 42 6 (Mp zD (lst ((ini o_6.2)++[(⟨(lst o_6.2).Thread,(lst o_6.2).Serial,(lst o_6.2).Lost,(((lst o_6.2).Events)++([x_6]:List zI))⟩:zB)])).Events))]) (by kernel_rfl) (ac (congrArg (AV.own _) (zPa _ zDZ).symm:(.own 0 ((o_6.2).length):AV)=.own 0 ((((ini o_6.2)++[(⟨(lst o_6.2).Thread,(lst o_6.2).Serial,(lst o_6.2).Lost,(((lst o_6.2).Events)++([x_6]:List zI))⟩:zB)])).length)) (ar 59 (ar 4 (ac ((congrArg (List.map _) (zAa _ _)).symm:((Mp zA (ini o_6.2)):List AV)=List.map zA (ini ((ini o_6.2)++[(⟨(lst o_6.2).Thread,(lst o_6.2).Serial,(lst o_6.2).Lost,(((lst o_6.2).Events)++([x_6]:List zI))⟩:zB)]))) (ac ((zBx (Nat.lt_of_lt_of_eq (Nat.succ_pos _) zDZ)).trans (zFJ _ _).symm:(!(o_6.2).isEmpty)=(!(((ini o_6.2)++[(⟨(lst o_6.2).Thread,(lst o_6.2).Serial,(lst o_6.2).Lost,(((lst o_6.2).Events)++([x_6]:List zI))⟩:zB)])).isEmpty)) (ac (rfl:v7 (z8 (lst ((ini o_6.2)++[(⟨(lst o_6.2).Thread,(lst o_6.2).Serial,(lst o_6.2).Lost,(((lst o_6.2).Events)++([x_6]:List zI))⟩:zB)]))++[.own 3 ((lst ((ini o_6.2)++[(⟨(lst o_6.2).Thread,(lst o_6.2).Serial,(lst o_6.2).Lost,(((lst o_6.2).Events)++([x_6]:List zI))⟩:zB)])).Events).length])=true) (ac (by first | (simp only [y3];done) | simp [y3]:(Ii ((lst o_6.2).Thread):AV)=Ii ((lst ((ini o_6.2)++[(⟨(lst o_6.2).Thread,(lst o_6.2).Serial,(lst o_6.2).Lost,(((lst o_6.2).Events)++([x_6]:List zI))⟩:zB)])).Thread)) (ac (by first | (simp only [y3];done) | simp [y3]:(Ii ((lst o_6.2).Serial):AV)=Ii ((lst ((ini o_6.2)++[(⟨(lst o_6.2).Thread,(lst o_6.2).Serial,(lst o_6.2).Lost,(((lst o_6.2).Events)++([x_6]:List zI))⟩:zB)])).Serial)) (ac (by first | (simp only [y3];done) | simp [y3]:(Ii ((lst o_6.2).Lost):AV)=Ii ((lst ((ini o_6.2)++[(⟨(lst o_6.2).Thread,(lst o_6.2).Serial,(lst o_6.2).Lost,(((lst o_6.2).Events)++([x_6]:List zI))⟩:zB)])).Lost)) (ac (congrArg (AV.own _) (by first | (simp only [y3];done) | simp [y3]):(.own 3 (((((lst o_6.2).Events)++([x_6]:List zI))).length):AV)=.own 3 (((lst ((ini o_6.2)++[(⟨(lst o_6.2).Thread,(lst o_6.2).Serial,(lst o_6.2).Lost,(((lst o_6.2).Events)++([x_6]:List zI))⟩:zB)])).Events).length)) (ar 42 (ar 6 (ac (by first | (simp only [y3];done) | simp [y3]:((List.map zD (((lst o_6.2).Events)++([x_6]:List zI))):List AV)=List.map zD (lst ((ini o_6.2)++[(⟨(lst o_6.2).Thread,(lst o_6.2).Serial,(lst o_6.2).Lost,(((lst o_6.2).Events)++([x_6]:List zI))⟩:zB)])).Events) an)))))))))))))) (sw [0,1] [] [.s 0,.s 1,.s 5,.s 6,.s 7] [.s 0,.s 1] an))⟩
    refine rg [] [0,1,5,6,7] [0,1] 2 [Ii z7,.sl false 4 (Mp zA l_1),.own 0 ((o_4).length),Ii i_1,Ii (zP (k_1+(1:Int)))] [.live (.rowQ 59 4 (Mp zA (ini o_4)) (!(o_4).isEmpty) (z8 (lst o_4)++[.own 1 ((lst o_4).Events).length])),Rb 42 6 (Mp zD (lst o_4).Events)] zF an ?_
    exact ⟨_,(sw [0,1] [] [.s 0,.s 1,.s 5,.s 6,.s 7] [.s 0,.s 1] an),_,_,rfl,h⟩
   cases h
   exact ⟨rfl,(sw [0,1] [] [.s 0,.s 1,.s 5,.s 6] [.s 0,.s 1] an)⟩
  refine rg [] [0,1,5,6] [0,1] 2 [Ii z7,.sl false 4 (Mp zA l_1),.own 0 ((o_2).length),Ii (zP (i_1+(1:Int)))] [.live (.rowQ 59 4 (Mp zA (ini o_2)) (!(o_2).isEmpty) (z8 (lst o_2)++[.own 1 ((lst o_2).Events).length])),Rb 42 6 (Mp zD (lst o_2).Events)] zF an ?_
  exact ⟨_,(sw [0,1] [] [.s 0,.s 1,.s 5,.s 6] [.s 0,.s 1] an),_,_,rfl,h⟩
 refine sr [] [4] [0,1] 2 [.own 0 ((o_1).length)] [.live (.rowQ 59 4 (Mp zA (ini o_1)) (!(o_1).isEmpty) (z8 (lst o_1)++[.own 1 ((lst o_1).Events).length])),Rb 42 6 (Mp zD (lst o_1).Events)] zF an ?_
 refine uW (zEz (e:=59) (sz:=4) 0 1 (Mp zA o_1) (by kernel_rfl) (ac ((List.length_map _).symm:((lst o_1).Events).length=(Mp zD (lst o_1).Events:List AV).length) (ac (zFd zA o_1 _ rfl:(Mp zA o_1:List AV)=List.map zA (ini o_1)++bif (!(o_1).isEmpty) then [.agg (z8 (lst o_1)++[.sl false 6 (Mp zD (lst o_1).Events)])] else []) an))) ?_
 refine wk [0] [] [.s 4] [.s 0] [(4,.own 0 ((o_1).length))] [(0,Rb 59 4 (Mp zA o_1))] an ?_
 refine wk [] [0] [.a 4 (.sl false 4 (Mp zA o_1))] [] [(4,.sl false 4 (Mp zA o_1))] [] (ac (by first | (simp;done) | (simp;omega):(o_1).length=((List.map zA o_1)).length) (ar 4 (ar ((Mp zA o_1):List AV) (ac (rfl:(!false||false)=true) an)))) ?_
 refine rt ?_
 cases h
 exact ⟨.inr rfl,Nat.le_of_ble_eq_true rfl,by kernel_rfl⟩
theorem zNE (F:Nat) (h_1:zL) (l_1:List (zB)) (r:zM×Int) (h:zFy F h_1 l_1=some r):zV prog 11 [] [] [yU h_1,.sl false 4 (Mp zA l_1)] [] (.tuple [z4 r.1,Ii r.2]):=by
 refine yG (fn:=Go.Proofs.Try.f11) (code:=xC Go.Proofs.Try.f11) (by kernel_rfl) (by kernel_rfl) (Nat.le_of_ble_eq_true (by kernel_rfl)) ?_
 unfold zFy at h
 refine sr [(0,{ id:=0 }),(1,{ id:=1 })] [1,2,4] [0,1] 2 [.sl false 4 (Mp zA l_1),Pp 0,Pp 1] [Vb 26 (zN h_1),Vb 31 [.nilsl,.nilsl,.nilsl,.nilsl]] zF an ?_
 refine uW (u6 1 3 2 59 4 (by kernel_rfl)) ?_
 refine wk [0,1,2] [] [.s 1,.s 2,.s 4] [.s 0,.s 1,.s 2] [(1,.sl false 4 (Mp zA l_1)),(2,Pp 0),(4,Pp 1)] [(0,Vb 26 (zN h_1)),(1,Vb 31 [.nilsl,.nilsl,.nilsl,.own 2 0]),(2,Rb 59 4 [])] an ?_
 refine sq ?_
 obtain ⟨r_1,h_2,h⟩:=bind_some h
 refine rg [(1,{ av:=Ii r_1,l:=[yU h_1] })] [1,2,4,6] [0,1,2] 3 [.sl false 4 (Mp zA l_1),Pp 0,Pp 1,Ii r_1] [Vb 26 (zN h_1),Vb 31 [.nilsl,.nilsl,.nilsl,.own 2 0],Rb 59 4 []] zF (ar ([yU h_1]:List AV) (ac (rfl:([]:List zW)=[]) (ac (zLs F h_1 r_1 h_2:zV prog 30 [] [] [yU h_1] [] (Ii r_1)) an))) ?_
 refine sq ?_
 refine sr [] [1,2,4,6,13] [0,1,2] 3 [.sl false 4 (Mp zA l_1),Pp 0,Pp 1,Ii r_1,.bool (r_1 != (0:Int))] [Vb 26 (zN h_1),Vb 31 [.nilsl,.nilsl,.nilsl,.own 2 0],Rb 59 4 []] zF an ?_
 refine cd 13 (r_1 != (0:Int)) ?_ ?_
 ·intro g_1;replace h:=zR g_1 h
  refine sr [] [4,5] [1] 3 [Pp 1,Ii r_1] [Vb 31 [.nilsl,.nilsl,.nilsl,.nilsl]] zF an ?_
  refine uW (u6 1 3 3 59 4 (by kernel_rfl)) ?_
  refine wk [1,3] [] [.s 4,.s 5] [.s 0,.s 1] [(4,Pp 0),(5,Ii r_1)] [(0,Vb 31 [.nilsl,.nilsl,.nilsl,.own 1 0]),(1,Rb 59 4 [])] an ?_
  refine wk [0] [1] [.s 4,.s 5] [.a 0 (Vb 31 [.sl false 3 (Mp zG (((⟨(⟨[],[],[]⟩:zL),[]⟩:zM).Head).Threads)),.sl false 2 (Mp zC (((⟨(⟨[],[],[]⟩:zL),[]⟩:zM).Head).Domains)),.sl false 5 (Mp zK (((⟨(⟨[],[],[]⟩:zL),[]⟩:zM).Head).Snaps)),.sl false 4 (Mp zA ((⟨(⟨[],[],[]⟩:zL),[]⟩:zM).Parts))])] [(4,Pp 0),(5,Ii r_1)] [(0,Vb 31 [.sl false 3 (Mp zG (((⟨(⟨[],[],[]⟩:zL),[]⟩:zM).Head).Threads)),.sl false 2 (Mp zC (((⟨(⟨[],[],[]⟩:zL),[]⟩:zM).Head).Domains)),.sl false 5 (Mp zK (((⟨(⟨[],[],[]⟩:zL),[]⟩:zM).Head).Snaps)),.sl false 4 (Mp zA ((⟨(⟨[],[],[]⟩:zL),[]⟩:zM).Parts))])] (ar 31 (ac (rfl:v7 [.sl false 3 (Mp zG (((⟨(⟨[],[],[]⟩:zL),[]⟩:zM).Head).Threads)),.sl false 2 (Mp zC (((⟨(⟨[],[],[]⟩:zL),[]⟩:zM).Head).Domains)),.sl false 5 (Mp zK (((⟨(⟨[],[],[]⟩:zL),[]⟩:zM).Head).Snaps)),.sl false 4 (Mp zA ((⟨(⟨[],[],[]⟩:zL),[]⟩:zM).Parts))]=true) (ac (by first | (simp;done) | (simp;omega):0=(([]:List AV)).length) (ac (rfl:((Mp zG (((⟨(⟨[],[],[]⟩:zL),[]⟩:zM).Head).Threads)):List AV)=[]) (ac (rfl:((Mp zC (((⟨(⟨[],[],[]⟩:zL),[]⟩:zM).Head).Domains)):List AV)=[]) (ac (rfl:((Mp zK (((⟨(⟨[],[],[]⟩:zL),[]⟩:zM).Head).Snaps)):List AV)=[]) (ar 4 (ac (rfl:([]:List AV)=(Mp zA ((⟨(⟨[],[],[]⟩:zL),[]⟩:zM).Parts))) (ac (rfl:(!false||false)=true) an))))))))) ?_
  refine rt ?_
  cases h
  exact ⟨.inr rfl,Nat.le_of_ble_eq_true rfl,by kernel_rfl⟩
 intro g_1;replace h:=zQ g_1 h
 refine sk ?_
 refine sq ?_
 refine sr [] [1,2,4,7] [0,1,2] 3 [.sl false 4 (Mp zA l_1),Pp 0,Pp 1,Ii 0] [Vb 26 (zN h_1),Vb 31 [.nilsl,.nilsl,.nilsl,.own 2 0],Rb 59 4 []] zF an ?_
 obtain ⟨o_1,h_3,h⟩:=bind_some h
 refine wI (K1:=(fun e st'=>match o_1 with | (.inl q0)=>e=.normal∧Sub 0 st' (mk [(1,.sl false 4 (Mp zA l_1)),(2,Pp 0),(4,Pp 1)] [(0,Vb 26 (zN h_1)),(1,Vb 31 [.nilsl,.nilsl,.nilsl,.own 2 0]),(2,Rb 59 4 [])] 3) | (.inr q1)=>e=.ret∧uE prog Go.Proofs.Try.f11 0 [] (.tuple [z4 q1.1,Ii q1.2]) st')) ?_ ?_
 ·replace h:=h_3
  refine yD (id:=0) (by kernel_rfl) ?_
  refine wk [0,1,2] [] [.s 1,.s 2,.s 4,.s 7] [.s 0,.s 1,.s 2] [(1,.sl false 4 (Mp zA l_1)),(2,Pp 0),(4,Pp 1),(7,Ii 0)] [(0,Vb 26 (zN h_1)),(1,Vb 31 [.nilsl,.nilsl,.nilsl,.own 2 0]),(2,Rb 59 4 [])] an ?_
  refine xI (fun n st=>∃ (i_1:Int),st=mk [(1,.sl false 4 (Mp zA l_1)),(2,Pp 0),(4,Pp 1),(7,Ii i_1)] [(0,Vb 26 (zN h_1)),(1,Vb 31 [.nilsl,.nilsl,.nilsl,.own 2 0]),(2,Rb 59 4 [])] 3∧zBk F h_1 l_1 n i_1=some o_1) F (by kernel_rfl) ⟨_,rfl,h⟩ ?_ ?_
  ·rintro _ ⟨_,_,h⟩;exact xN (h:(none:Option (Unit⊕(zM×Int)))=some o_1)
  rintro n_1 _ ⟨i_1,rfl,h⟩
  replace h:pJ F h_1 l_1 (zBk F h_1 l_1 n_1) i_1=some o_1:=h
  unfold pJ at h
  refine sq ?_
  refine sr [(2,{ n:=(l_1).length })] [1,2,4,7,19] [0,1,2] 3 [.sl false 4 (Mp zA l_1),Pp 0,Pp 1,Ii i_1,.bool (decide (i_1<(lN (l_1))))] [Vb 26 (zN h_1),Vb 31 [.nilsl,.nilsl,.nilsl,.own 2 0],Rb 59 4 []] zF (ac (yF _:((Mp zA l_1)).length=(l_1).length) an) ?_
  refine cd 19 (decide (i_1<(lN (l_1)))) ?_ ?_
  rotate_left
  ·intro g_2;replace h:=zQ g_2 h
   refine xM (id:=0) (by kernel_rfl) ?_
   cases h
   exact ⟨rfl,(sw [0,1,2] [] [.s 1,.s 2,.s 4] [.s 0,.s 1,.s 2] an)⟩
  intro g_2;replace h:=zR g_2 h
  refine sk ?_
  refine sq ?_
  refine yD (id:=1) (by kernel_rfl) ?_
  refine sq ?_
  obtain ⟨x_1,h_4,h⟩:=bind_some h
  obtain ⟨r_2,h_5,h⟩:=bind_some h
  refine rg [(2,{ av:=zA x_1 }),(4,{ av:=Ii r_2,l:=[zA x_1] })] [1,2,4,6,7] [0,1,2] 3 [.sl false 4 (Mp zA l_1),Pp 0,Pp 1,Ii r_2,Ii i_1] [Vb 26 (zN h_1),Vb 31 [.nilsl,.nilsl,.nilsl,.own 2 0],Rb 59 4 []] zF (ac (yR h_4:xJ (Mp zA l_1) i_1=some (zA x_1)) (ar ([zA x_1]:List AV) (ac (rfl:([]:List zW)=[]) (ac (zKR F x_1 r_2 h_5:zV prog 31 [] [] [zA x_1] [] (Ii r_2)) an)))) ?_
  refine sq ?_
  refine sr [] [1,2,4,6,7,28] [0,1,2] 3 [.sl false 4 (Mp zA l_1),Pp 0,Pp 1,Ii r_2,Ii i_1,.bool (r_2 != (0:Int))] [Vb 26 (zN h_1),Vb 31 [.nilsl,.nilsl,.nilsl,.own 2 0],Rb 59 4 []] zF an ?_
  refine cd 28 (r_2 != (0:Int)) ?_ ?_
  ·intro g_3;replace h:=zR g_3 h
   refine sr [] [4,5] [1] 3 [Pp 1,Ii r_2] [Vb 31 [.nilsl,.nilsl,.nilsl,.nilsl]] zF an ?_
   refine uW (u6 1 3 3 59 4 (by kernel_rfl)) ?_
   refine wk [1,3] [] [.s 4,.s 5] [.s 0,.s 1] [(4,Pp 0),(5,Ii r_2)] [(0,Vb 31 [.nilsl,.nilsl,.nilsl,.own 1 0]),(1,Rb 59 4 [])] an ?_
   refine wk [0] [1] [.s 4,.s 5] [.a 0 (Vb 31 [.sl false 3 (Mp zG (((⟨(⟨[],[],[]⟩:zL),[]⟩:zM).Head).Threads)),.sl false 2 (Mp zC (((⟨(⟨[],[],[]⟩:zL),[]⟩:zM).Head).Domains)),.sl false 5 (Mp zK (((⟨(⟨[],[],[]⟩:zL),[]⟩:zM).Head).Snaps)),.sl false 4 (Mp zA ((⟨(⟨[],[],[]⟩:zL),[]⟩:zM).Parts))])] [(4,Pp 0),(5,Ii r_2)] [(0,Vb 31 [.sl false 3 (Mp zG (((⟨(⟨[],[],[]⟩:zL),[]⟩:zM).Head).Threads)),.sl false 2 (Mp zC (((⟨(⟨[],[],[]⟩:zL),[]⟩:zM).Head).Domains)),.sl false 5 (Mp zK (((⟨(⟨[],[],[]⟩:zL),[]⟩:zM).Head).Snaps)),.sl false 4 (Mp zA ((⟨(⟨[],[],[]⟩:zL),[]⟩:zM).Parts))])] (ar 31 (ac (rfl:v7 [.sl false 3 (Mp zG (((⟨(⟨[],[],[]⟩:zL),[]⟩:zM).Head).Threads)),.sl false 2 (Mp zC (((⟨(⟨[],[],[]⟩:zL),[]⟩:zM).Head).Domains)),.sl false 5 (Mp zK (((⟨(⟨[],[],[]⟩:zL),[]⟩:zM).Head).Snaps)),.sl false 4 (Mp zA ((⟨(⟨[],[],[]⟩:zL),[]⟩:zM).Parts))]=true) (ac (by first | (simp;done) | (simp;omega):0=(([]:List AV)).length) (ac (rfl:((Mp zG (((⟨(⟨[],[],[]⟩:zL),[]⟩:zM).Head).Threads)):List AV)=[]) (ac (rfl:((Mp zC (((⟨(⟨[],[],[]⟩:zL),[]⟩:zM).Head).Domains)):List AV)=[]) (ac (rfl:((Mp zK (((⟨(⟨[],[],[]⟩:zL),[]⟩:zM).Head).Snaps)):List AV)=[]) (ar 4 (ac (rfl:([]:List AV)=(Mp zA ((⟨(⟨[],[],[]⟩:zL),[]⟩:zM).Parts))) (ac (rfl:(!false||false)=true) an))))))))) ?_
   refine rt ?_
   cases h
   exact ⟨rfl,Nat.le_of_ble_eq_true rfl,by kernel_rfl⟩
  intro g_3;replace h:=zQ g_3 h
  refine sk ?_
  refine sq ?_
  refine sq ?_
  obtain ⟨x_2,h_6,h⟩:=bind_some h
  obtain ⟨r_3,h_7,h⟩:=bind_some h
  refine rg [(3,{ av:=zA x_2 }),(6,{ av:=.bool r_3,l:=[yU h_1,Ii x_2.Thread] })] [1,2,4,7,38] [0,1,2] 3 [.sl false 4 (Mp zA l_1),Pp 0,Pp 1,Ii i_1,.bool (!r_3)] [Vb 26 (zN h_1),Vb 31 [.nilsl,.nilsl,.nilsl,.own 2 0],Rb 59 4 []] zF (ac (yR h_6:xJ (Mp zA l_1) i_1=some (zA x_2)) (ar ([yU h_1,Ii x_2.Thread]:List AV) (ac (rfl:([]:List zW)=[]) (ac (zKb F h_1 x_2.Thread r_3 h_7:zV prog 32 [] [] [yU h_1,Ii x_2.Thread] [] (.bool r_3)) an)))) ?_
  refine cd 38 (!r_3) ?_ ?_
  ·intro g_4;replace h:=zR g_4 h
   refine sr [] [4,5] [1] 3 [Pp 1,Ii 5] [Vb 31 [.nilsl,.nilsl,.nilsl,.nilsl]] zF an ?_
   refine uW (u6 1 3 3 59 4 (by kernel_rfl)) ?_
   refine wk [1,3] [] [.s 4,.s 5] [.s 0,.s 1] [(4,Pp 0),(5,Ii 5)] [(0,Vb 31 [.nilsl,.nilsl,.nilsl,.own 1 0]),(1,Rb 59 4 [])] an ?_
   refine wk [0] [1] [.s 4,.s 5] [.a 0 (Vb 31 [.sl false 3 (Mp zG (((⟨(⟨[],[],[]⟩:zL),[]⟩:zM).Head).Threads)),.sl false 2 (Mp zC (((⟨(⟨[],[],[]⟩:zL),[]⟩:zM).Head).Domains)),.sl false 5 (Mp zK (((⟨(⟨[],[],[]⟩:zL),[]⟩:zM).Head).Snaps)),.sl false 4 (Mp zA ((⟨(⟨[],[],[]⟩:zL),[]⟩:zM).Parts))])] [(4,Pp 0),(5,Ii 5)] [(0,Vb 31 [.sl false 3 (Mp zG (((⟨(⟨[],[],[]⟩:zL),[]⟩:zM).Head).Threads)),.sl false 2 (Mp zC (((⟨(⟨[],[],[]⟩:zL),[]⟩:zM).Head).Domains)),.sl false 5 (Mp zK (((⟨(⟨[],[],[]⟩:zL),[]⟩:zM).Head).Snaps)),.sl false 4 (Mp zA ((⟨(⟨[],[],[]⟩:zL),[]⟩:zM).Parts))])] (ar 31 (ac (rfl:v7 [.sl false 3 (Mp zG (((⟨(⟨[],[],[]⟩:zL),[]⟩:zM).Head).Threads)),.sl false 2 (Mp zC (((⟨(⟨[],[],[]⟩:zL),[]⟩:zM).Head).Domains)),.sl false 5 (Mp zK (((⟨(⟨[],[],[]⟩:zL),[]⟩:zM).Head).Snaps)),.sl false 4 (Mp zA ((⟨(⟨[],[],[]⟩:zL),[]⟩:zM).Parts))]=true) (ac (by first | (simp;done) | (simp;omega):0=(([]:List AV)).length) (ac (rfl:((Mp zG (((⟨(⟨[],[],[]⟩:zL),[]⟩:zM).Head).Threads)):List AV)=[]) (ac (rfl:((Mp zC (((⟨(⟨[],[],[]⟩:zL),[]⟩:zM).Head).Domains)):List AV)=[]) (ac (rfl:((Mp zK (((⟨(⟨[],[],[]⟩:zL),[]⟩:zM).Head).Snaps)):List AV)=[]) (ar 4 (ac (rfl:([]:List AV)=(Mp zA ((⟨(⟨[],[],[]⟩:zL),[]⟩:zM).Parts))) (ac (rfl:(!false||false)=true) an))))))))) ?_
   refine rt ?_
   cases h
   exact ⟨rfl,Nat.le_of_ble_eq_true rfl,by kernel_rfl⟩
  intro g_4;replace h:=zQ g_4 h
  refine sk ?_
  refine sq ?_
  obtain ⟨_,h_8,h⟩:=bind_some h;replace h_8:=wK h_8
  obtain ⟨x_3,h_9,h⟩:=bind_some h
  obtain ⟨r_4,tT,h⟩:=bind_some h
  refine rg [(2,{ l:=(Mp zA (sub l_1 (0:Int) i_1)) }),(5,{ av:=zA x_3 }),(7,{ av:=.bool r_4,l:=[.sl false 4 (Mp zA (sub l_1 (0:Int) i_1)),zA x_3] })] [1,2,4,7,48] [0,1,2] 3 [.sl false 4 (Mp zA l_1),Pp 0,Pp 1,Ii i_1,.bool (!r_4)] [Vb 26 (zN h_1),Vb 31 [.nilsl,.nilsl,.nilsl,.own 2 0],Rb 59 4 []] zF (ac (by decide:(0:Int)≤(0:Int)) (ac h_8.1 (ac (zEn h_8.2:i_1≤(lN ((Mp zA l_1)))) (ac (zK6 _ _ _:(Mp zA (sub l_1 (0:Int) i_1))=(((Mp zA l_1)).take (i_1).toNat).drop ((0:Int)).toNat) (ac (yR h_9:xJ (Mp zA l_1) i_1=some (zA x_3)) (ar ([.sl false 4 (Mp zA (sub l_1 (0:Int) i_1)),zA x_3]:List AV) (ac (rfl:([]:List zW)=[]) (ac (zIx F (sub l_1 (0:Int) i_1) x_3 r_4 tT:zV prog 33 [] [] [.sl false 4 (Mp zA (sub l_1 (0:Int) i_1)),zA x_3] [] (.bool r_4)) an)))))))) ?_
  refine cd 48 (!r_4) ?_ ?_
  rotate_left
  ·intro g_5;replace h:=zQ g_5 h
   refine sk ?_
   refine rg [] [1,2,4,7] [0,1,2] 3 [.sl false 4 (Mp zA l_1),Pp 0,Pp 1,Ii (zP (i_1+(1:Int)))] [Vb 26 (zN h_1),Vb 31 [.nilsl,.nilsl,.nilsl,.own 2 0],Rb 59 4 []] zF an ?_
   exact ⟨_,(sw [0,1,2] [] [.s 1,.s 2,.s 4,.s 7] [.s 0,.s 1,.s 2] an),_,rfl,h⟩
  intro g_5;replace h:=zR g_5 h
  refine sr [] [4,5] [1] 3 [Pp 1,Ii 11] [Vb 31 [.nilsl,.nilsl,.nilsl,.nilsl]] zF an ?_
  refine uW (u6 1 3 3 59 4 (by kernel_rfl)) ?_
  refine wk [1,3] [] [.s 4,.s 5] [.s 0,.s 1] [(4,Pp 0),(5,Ii 11)] [(0,Vb 31 [.nilsl,.nilsl,.nilsl,.own 1 0]),(1,Rb 59 4 [])] an ?_
  refine wk [0] [1] [.s 4,.s 5] [.a 0 (Vb 31 [.sl false 3 (Mp zG (((⟨(⟨[],[],[]⟩:zL),[]⟩:zM).Head).Threads)),.sl false 2 (Mp zC (((⟨(⟨[],[],[]⟩:zL),[]⟩:zM).Head).Domains)),.sl false 5 (Mp zK (((⟨(⟨[],[],[]⟩:zL),[]⟩:zM).Head).Snaps)),.sl false 4 (Mp zA ((⟨(⟨[],[],[]⟩:zL),[]⟩:zM).Parts))])] [(4,Pp 0),(5,Ii 11)] [(0,Vb 31 [.sl false 3 (Mp zG (((⟨(⟨[],[],[]⟩:zL),[]⟩:zM).Head).Threads)),.sl false 2 (Mp zC (((⟨(⟨[],[],[]⟩:zL),[]⟩:zM).Head).Domains)),.sl false 5 (Mp zK (((⟨(⟨[],[],[]⟩:zL),[]⟩:zM).Head).Snaps)),.sl false 4 (Mp zA ((⟨(⟨[],[],[]⟩:zL),[]⟩:zM).Parts))])] (ar 31 (ac (rfl:v7 [.sl false 3 (Mp zG (((⟨(⟨[],[],[]⟩:zL),[]⟩:zM).Head).Threads)),.sl false 2 (Mp zC (((⟨(⟨[],[],[]⟩:zL),[]⟩:zM).Head).Domains)),.sl false 5 (Mp zK (((⟨(⟨[],[],[]⟩:zL),[]⟩:zM).Head).Snaps)),.sl false 4 (Mp zA ((⟨(⟨[],[],[]⟩:zL),[]⟩:zM).Parts))]=true) (ac (by first | (simp;done) | (simp;omega):0=(([]:List AV)).length) (ac (rfl:((Mp zG (((⟨(⟨[],[],[]⟩:zL),[]⟩:zM).Head).Threads)):List AV)=[]) (ac (rfl:((Mp zC (((⟨(⟨[],[],[]⟩:zL),[]⟩:zM).Head).Domains)):List AV)=[]) (ac (rfl:((Mp zK (((⟨(⟨[],[],[]⟩:zL),[]⟩:zM).Head).Snaps)):List AV)=[]) (ar 4 (ac (rfl:([]:List AV)=(Mp zA ((⟨(⟨[],[],[]⟩:zL),[]⟩:zM).Parts))) (ac (rfl:(!false||false)=true) an))))))))) ?_
  refine rt ?_
  cases h
  exact ⟨rfl,Nat.le_of_ble_eq_true rfl,by kernel_rfl⟩
 intro e st1 hk
 rcases o_1 with q_1 | q_2
 rotate_left
 ·obtain ⟨rfl,hf⟩:=hk
  cases h
  exact ⟨st1,Sub.refl _ _,.inr rfl,hf⟩
 obtain ⟨rfl,hs⟩:=hk
 refine ⟨_,hs,?_⟩
 refine sq ?_
 refine sq ?_
 obtain ⟨r_5,tU,h⟩:=bind_some h
 refine rg [(1,{ av:=Ii r_5,l:=[.sl false 4 (Mp zA l_1)] })] [1,2,4,52] [0,1,2] 3 [.sl false 4 (Mp zA l_1),Pp 0,Pp 1,.bool (decide (r_5>(20000:Int)))] [Vb 26 (zN h_1),Vb 31 [.nilsl,.nilsl,.nilsl,.own 2 0],Rb 59 4 []] zF (ar ([.sl false 4 (Mp zA l_1)]:List AV) (ac (rfl:([]:List zW)=[]) (ac (zJe F l_1 r_5 tU:zV prog 22 [] [] [.sl false 4 (Mp zA l_1)] [] (Ii r_5)) an))) ?_
 refine cd 52 (decide (r_5>(20000:Int))) ?_ ?_
 ·intro g_6;replace h:=zR g_6 h
  refine sr [] [4,5] [1] 3 [Pp 1,Ii 7] [Vb 31 [.nilsl,.nilsl,.nilsl,.nilsl]] zF an ?_
  refine uW (u6 1 3 3 59 4 (by kernel_rfl)) ?_
  refine wk [1,3] [] [.s 4,.s 5] [.s 0,.s 1] [(4,Pp 0),(5,Ii 7)] [(0,Vb 31 [.nilsl,.nilsl,.nilsl,.own 1 0]),(1,Rb 59 4 [])] an ?_
  refine wk [0] [1] [.s 4,.s 5] [.a 0 (Vb 31 [.sl false 3 (Mp zG (((⟨(⟨[],[],[]⟩:zL),[]⟩:zM).Head).Threads)),.sl false 2 (Mp zC (((⟨(⟨[],[],[]⟩:zL),[]⟩:zM).Head).Domains)),.sl false 5 (Mp zK (((⟨(⟨[],[],[]⟩:zL),[]⟩:zM).Head).Snaps)),.sl false 4 (Mp zA ((⟨(⟨[],[],[]⟩:zL),[]⟩:zM).Parts))])] [(4,Pp 0),(5,Ii 7)] [(0,Vb 31 [.sl false 3 (Mp zG (((⟨(⟨[],[],[]⟩:zL),[]⟩:zM).Head).Threads)),.sl false 2 (Mp zC (((⟨(⟨[],[],[]⟩:zL),[]⟩:zM).Head).Domains)),.sl false 5 (Mp zK (((⟨(⟨[],[],[]⟩:zL),[]⟩:zM).Head).Snaps)),.sl false 4 (Mp zA ((⟨(⟨[],[],[]⟩:zL),[]⟩:zM).Parts))])] (ar 31 (ac (rfl:v7 [.sl false 3 (Mp zG (((⟨(⟨[],[],[]⟩:zL),[]⟩:zM).Head).Threads)),.sl false 2 (Mp zC (((⟨(⟨[],[],[]⟩:zL),[]⟩:zM).Head).Domains)),.sl false 5 (Mp zK (((⟨(⟨[],[],[]⟩:zL),[]⟩:zM).Head).Snaps)),.sl false 4 (Mp zA ((⟨(⟨[],[],[]⟩:zL),[]⟩:zM).Parts))]=true) (ac (by first | (simp;done) | (simp;omega):0=(([]:List AV)).length) (ac (rfl:((Mp zG (((⟨(⟨[],[],[]⟩:zL),[]⟩:zM).Head).Threads)):List AV)=[]) (ac (rfl:((Mp zC (((⟨(⟨[],[],[]⟩:zL),[]⟩:zM).Head).Domains)):List AV)=[]) (ac (rfl:((Mp zK (((⟨(⟨[],[],[]⟩:zL),[]⟩:zM).Head).Snaps)):List AV)=[]) (ar 4 (ac (rfl:([]:List AV)=(Mp zA ((⟨(⟨[],[],[]⟩:zL),[]⟩:zM).Parts))) (ac (rfl:(!false||false)=true) an))))))))) ?_
  refine rt ?_
  cases h
  exact ⟨.inr rfl,Nat.le_of_ble_eq_true rfl,by kernel_rfl⟩
 intro g_6;replace h:=zQ g_6 h
 refine sk ?_
 refine sr [(2,{ id:=3 })] [1,2,4,8] [0,1,2,3] 4 [.sl false 4 (Mp zA l_1),Pp 0,Pp 1,Pp 3] [Vb 26 (zN h_1),Vb 31 [.nilsl,.nilsl,.nilsl,.own 2 0],Rb 59 4 [],Vb 31 [.sl false 3 (Mp zG h_1.Threads),.sl false 2 (Mp zC h_1.Domains),.sl false 5 (Mp zK h_1.Snaps),.nilsl]] zF an ?_
 refine uW (u6 3 3 4 59 4 (by kernel_rfl)) ?_
 refine wk [0,1,2,3,4] [] [.s 1,.s 2,.s 4,.s 8] [.s 0,.s 1,.s 2,.s 3,.s 4] [(1,.sl false 4 (Mp zA l_1)),(2,Pp 0),(4,Pp 1),(8,Pp 3)] [(0,Vb 26 (zN h_1)),(1,Vb 31 [.nilsl,.nilsl,.nilsl,.own 2 0]),(2,Rb 59 4 []),(3,Vb 31 [.sl false 3 (Mp zG h_1.Threads),.sl false 2 (Mp zC h_1.Domains),.sl false 5 (Mp zK h_1.Snaps),.own 4 0]),(4,Rb 59 4 [])] an ?_
 refine sq ?_
 refine sr [] [1,2,4,8,9] [0,1,2,3,4] 5 [.sl false 4 (Mp zA l_1),Pp 0,Pp 1,Pp 3,Ii 0] [Vb 26 (zN h_1),Vb 31 [.nilsl,.nilsl,.nilsl,.own 2 0],Rb 59 4 [],Vb 31 [.sl false 3 (Mp zG h_1.Threads),.sl false 2 (Mp zC h_1.Domains),.sl false 5 (Mp zK h_1.Snaps),.own 4 0],Rb 59 4 []] zF an ?_
 obtain ⟨o_2,zCd,h⟩:=bind_some h
 refine y4 (mk [(4,Pp 0),(8,Pp 2)] [(0,Vb 31 [.nilsl,.nilsl,.nilsl,.own 1 0]),(1,Rb 59 4 []),(2,Vb 31 [.sl false 3 (Mp zG h_1.Threads),.sl false 2 (Mp zC h_1.Domains),.sl false 5 (Mp zK h_1.Snaps),.own 3 ((o_2).length)]),(3,Rb 59 4 (Mp zA o_2))] 4) ?_ ?_
 ·replace h:=zCd
  refine yD (id:=2) (by kernel_rfl) ?_
  refine wk [0,1,2,3,4] [] [.s 1,.s 2,.s 4,.s 8,.s 9] [.s 0,.s 1,.s 2,.s 3,.s 4] [(1,.sl false 4 (Mp zA l_1)),(2,Pp 0),(4,Pp 1),(8,Pp 3),(9,Ii 0)] [(0,Vb 26 (zN h_1)),(1,Vb 31 [.nilsl,.nilsl,.nilsl,.own 2 0]),(2,Rb 59 4 []),(3,Vb 31 [.sl false 3 (Mp zG h_1.Threads),.sl false 2 (Mp zC h_1.Domains),.sl false 5 (Mp zK h_1.Snaps),.own 4 0]),(4,Rb 59 4 [])] an ?_
  refine xI (fun n st=>∃ (t_1:Int),∃ (zE:List zB),st=mk [(1,.sl false 4 (Mp zA l_1)),(2,Pp 0),(4,Pp 1),(8,Pp 3),(9,Ii t_1)] [(0,Vb 26 (zN h_1)),(1,Vb 31 [.nilsl,.nilsl,.nilsl,.own 2 0]),(2,Rb 59 4 []),(3,Vb 31 [.sl false 3 (Mp zG h_1.Threads),.sl false 2 (Mp zC h_1.Domains),.sl false 5 (Mp zK h_1.Snaps),.own 4 ((zE).length)]),(4,Rb 59 4 (Mp zA zE))] 5∧zBo F h_1 l_1 n t_1 zE=some o_2) F (by kernel_rfl) ⟨_,_,rfl,h⟩ ?_ ?_
  ·rintro _ ⟨_,_,_,h⟩;exact xN (h:(none:Option (List zB))=some o_2)
  rintro n_2 _ ⟨t_1,zE,rfl,h⟩
  replace h:pO F h_1 l_1 (zBo F h_1 l_1 n_2) t_1 zE=some o_2:=h
  unfold pO at h
  refine sq ?_
  refine sr [(3,{ n:=(h_1.Threads).length })] [1,2,4,8,9,60] [0,1,2,3,4] 5 [.sl false 4 (Mp zA l_1),Pp 0,Pp 1,Pp 3,Ii t_1,.bool (decide (t_1<(lN (h_1.Threads))))] [Vb 26 (zN h_1),Vb 31 [.nilsl,.nilsl,.nilsl,.own 2 0],Rb 59 4 [],Vb 31 [.sl false 3 (Mp zG h_1.Threads),.sl false 2 (Mp zC h_1.Domains),.sl false 5 (Mp zK h_1.Snaps),.own 4 ((zE).length)],Rb 59 4 (Mp zA zE)] zF (ac (yF _:((Mp zG h_1.Threads)).length=(h_1.Threads).length) an) ?_
  refine cd 60 (decide (t_1<(lN (h_1.Threads)))) ?_ ?_
  rotate_left
  ·intro g_7;replace h:=zQ g_7 h
   refine xM (id:=2) (by kernel_rfl) ?_
   cases h
   exact ⟨rfl,(sw [1,2,3,4] [] [.s 4,.s 8] [.s 0,.s 1,.s 2,.s 3] an)⟩
  intro g_7;replace h:=zR g_7 h
  refine sk ?_
  refine sq ?_
  refine yD (id:=3) (by kernel_rfl) ?_
  obtain ⟨x_4,zEV,h⟩:=bind_some h
  obtain ⟨r_6,zEW,h⟩:=bind_some h
  obtain ⟨_,zDY,h⟩:=bind_some h;replace zDY:=wK zDY
  refine rg [(5,{ av:=zG x_4 }),(9,{ av:=.sl false 4 (Mp zA r_6),l:=[Ii x_4.Id,.sl false 4 (Mp zA l_1)] }),(10,{ id:=5,l:=(Mp zA (zE++r_6)),n:=((zE++r_6)).length })] [1,2,4,8,9] [0,1,2,3,5] 6 [.sl false 4 (Mp zA l_1),Pp 0,Pp 1,Pp 3,Ii t_1] [Vb 26 (zN h_1),Vb 31 [.nilsl,.nilsl,.nilsl,.own 2 0],Rb 59 4 [],Vb 31 [.sl false 3 (Mp zG h_1.Threads),.sl false 2 (Mp zC h_1.Domains),.sl false 5 (Mp zK h_1.Snaps),.own 5 (((zE++r_6)).length)],Rb 59 4 (Mp zA (zE++r_6))] zF (ac (yR zEV:xJ (Mp zG h_1.Threads) t_1=some (zG x_4)) (ar ([Ii x_4.Id,.sl false 4 (Mp zA l_1)]:List AV) (ac (rfl:([]:List zW)=[]) (ac (zK0 F x_4.Id l_1 r_6 zEW:zV prog 34 [] [] [Ii x_4.Id,.sl false 4 (Mp zA l_1)] [] (.sl false 4 (Mp zA r_6))) (ac (by first | (simp;done) | (simp;omega):(zE).length=((List.map zA zE)).length) (ac (trivial:True) (ac (zBD _ _:(Mp zA (zE++r_6))=(Mp zA zE)++(Mp zA r_6)) (ac (by simp:((zE++r_6)).length=((List.map zA (zE++r_6))).length) (ac (by first | (simp;done) | simpa using zDY:(((List.map zA zE):List AV).length+((List.map zA r_6):List AV).length) * 48≤140737488355328) an))))))))) ?_
  refine rg [] [1,2,4,8,9] [0,1,2,3,5] 6 [.sl false 4 (Mp zA l_1),Pp 0,Pp 1,Pp 3,Ii (zP (t_1+(1:Int)))] [Vb 26 (zN h_1),Vb 31 [.nilsl,.nilsl,.nilsl,.own 2 0],Rb 59 4 [],Vb 31 [.sl false 3 (Mp zG h_1.Threads),.sl false 2 (Mp zC h_1.Domains),.sl false 5 (Mp zK h_1.Snaps),.own 5 (((zE++r_6)).length)],Rb 59 4 (Mp zA (zE++r_6))] zF an ?_
  exact ⟨_,(sw [0,1,2,3,5] [] [.s 1,.s 2,.s 4,.s 8,.s 9] [.s 0,.s 1,.s 2,.s 3,.s 4] an),_,_,rfl,h⟩
 refine sr [] [4,5] [0,3] 4 [Pp 0,Ii 0] [Vb 31 [.sl false 3 (Mp zG h_1.Threads),.sl false 2 (Mp zC h_1.Domains),.sl false 5 (Mp zK h_1.Snaps),.own 3 ((o_2).length)],Rb 59 4 (Mp zA o_2)] zF an ?_
 refine wk [0] [3] [.s 4,.s 5] [.a 0 (Vb 31 [.sl false 3 (Mp zG (((⟨h_1,o_2⟩:zM).Head).Threads)),.sl false 2 (Mp zC (((⟨h_1,o_2⟩:zM).Head).Domains)),.sl false 5 (Mp zK (((⟨h_1,o_2⟩:zM).Head).Snaps)),.sl false 4 (Mp zA ((⟨h_1,o_2⟩:zM).Parts))])] [(4,Pp 0),(5,Ii 0)] [(0,Vb 31 [.sl false 3 (Mp zG (((⟨h_1,o_2⟩:zM).Head).Threads)),.sl false 2 (Mp zC (((⟨h_1,o_2⟩:zM).Head).Domains)),.sl false 5 (Mp zK (((⟨h_1,o_2⟩:zM).Head).Snaps)),.sl false 4 (Mp zA ((⟨h_1,o_2⟩:zM).Parts))])] (ar 31 (ac (rfl:v7 [.sl false 3 (Mp zG (((⟨h_1,o_2⟩:zM).Head).Threads)),.sl false 2 (Mp zC (((⟨h_1,o_2⟩:zM).Head).Domains)),.sl false 5 (Mp zK (((⟨h_1,o_2⟩:zM).Head).Snaps)),.sl false 4 (Mp zA ((⟨h_1,o_2⟩:zM).Parts))]=true) (ac (by first | (simp;done) | (simp;omega):(o_2).length=((List.map zA o_2)).length) (ar 3 (ac (rfl:((Mp zG h_1.Threads):List AV)=(Mp zG (((⟨h_1,o_2⟩:zM).Head).Threads))) (ac (rfl:(!false||false)=true) (ar 2 (ac (rfl:((Mp zC h_1.Domains):List AV)=(Mp zC (((⟨h_1,o_2⟩:zM).Head).Domains))) (ac (rfl:(!false||false)=true) (ar 5 (ac (rfl:((Mp zK h_1.Snaps):List AV)=(Mp zK (((⟨h_1,o_2⟩:zM).Head).Snaps))) (ac (rfl:(!false||false)=true) (ar 4 (ac (rfl:((Mp zA o_2):List AV)=(Mp zA ((⟨h_1,o_2⟩:zM).Parts))) (ac (rfl:(!false||false)=true) an))))))))))))))) ?_
 refine rt ?_
 cases h
 exact ⟨.inr rfl,Nat.le_of_ble_eq_true rfl,by kernel_rfl⟩
theorem zDE (F:Nat) (a_1:zL) (b_1:zL) (r:Bool) (h:zAn F a_1 b_1=some r):zV prog 35 [] [] [yU a_1,yU b_1] [] (.bool r):=by
 refine yG (fn:=Go.Proofs.Try.f35) (code:=xC Go.Proofs.Try.f35) (by kernel_rfl) (by kernel_rfl) (Nat.le_of_ble_eq_true (by kernel_rfl)) ?_
 unfold zAn at h
 refine sr [(0,{ id:=0 }),(1,{ id:=1 })] [2,3] [0,1] 2 [Pp 0,Pp 1] [Vb 26 (zN a_1),Vb 26 (zN b_1)] zF an ?_
 refine sq ?_
 refine sq ?_
 refine y4 (mk [(2,Pp 0),(3,Pp 1),(32,.bool (((lN (a_1.Threads)) != (lN (b_1.Threads)))||(((lN (a_1.Domains)) != (lN (b_1.Domains)))||((lN (a_1.Snaps)) != (lN (b_1.Snaps))))))] [(0,Vb 26 (zN a_1)),(1,Vb 26 (zN b_1))] 2) ?_ ?_
 ·rcases bft ((lN (a_1.Threads)) != (lN (b_1.Threads))) with zH | zH
  ·refine rg [(2,{ n:=(a_1.Threads).length }),(5,{ n:=(b_1.Threads).length }),(8,Hg),(9,Hg),(10,Hg),(11,Hg),(12,Hg),(13,Hg),(14,Hg),(15,Ht),(17,Hg),(18,Hg),(19,Hg),(20,Hg),(21,Hg),(22,Hg),(23,Hg),(24,Ht)] [2,3,32] [0,1] 2 [Pp 0,Pp 1,.bool true] [Vb 26 (zN a_1),Vb 26 (zN b_1)] zF (ac (yF _:((Mp zG a_1.Threads)).length=(a_1.Threads).length) (ac (yF _:((Mp zG b_1.Threads)).length=(b_1.Threads).length) (ac zH (ac zH (ac zH (ac zH (ac zH (ac zH (ac zH (ac zH (ax (ax (ax (ax (ax (ax (ax (ar true an)))))))))))))))))) ?_
   exact ⟨rfl,(sw [0,1] [] [.s 2,.s 3,.a 32 (.bool (((lN (a_1.Threads)) != (lN (b_1.Threads)))||(((lN (a_1.Domains)) != (lN (b_1.Domains)))||((lN (a_1.Snaps)) != (lN (b_1.Snaps))))))] [.s 0,.s 1] (ac (congrArg AV.bool (ort zH):(.bool true:AV)=.bool (((lN (a_1.Threads)) != (lN (b_1.Threads)))||(((lN (a_1.Domains)) != (lN (b_1.Domains)))||((lN (a_1.Snaps)) != (lN (b_1.Snaps)))))) an))⟩
  ·rcases bft ((lN (a_1.Domains)) != (lN (b_1.Domains))) with zJ | zJ
   ·refine rg [(2,{ n:=(a_1.Threads).length }),(5,{ n:=(b_1.Threads).length }),(10,{ n:=(a_1.Domains).length }),(13,{ n:=(b_1.Domains).length }),(15,Hf),(17,Hg),(18,Hg),(19,Hg),(20,Hg),(21,Hg),(22,Hg),(23,Hg),(24,Ht)] [2,3,32] [0,1] 2 [Pp 0,Pp 1,.bool true] [Vb 26 (zN a_1),Vb 26 (zN b_1)] zF (ac (yF _:((Mp zG a_1.Threads)).length=(a_1.Threads).length) (ac (yF _:((Mp zG b_1.Threads)).length=(b_1.Threads).length) (ac zH (ac zH (ac zH (ac (yF _:((Mp zC a_1.Domains)).length=(a_1.Domains).length) (ac zH (ac zH (ac zH (ac (yF _:((Mp zC b_1.Domains)).length=(b_1.Domains).length) (ac zH (ac zH (ac zJ (ac zJ (ac zJ (ac zJ (ac zJ (ac zJ (ac zJ (ac zJ an)))))))))))))))))))) ?_
    exact ⟨rfl,(sw [0,1] [] [.s 2,.s 3,.a 32 (.bool (((lN (a_1.Threads)) != (lN (b_1.Threads)))||(((lN (a_1.Domains)) != (lN (b_1.Domains)))||((lN (a_1.Snaps)) != (lN (b_1.Snaps))))))] [.s 0,.s 1] (ac (congrArg AV.bool (orf zH (ort zJ)):(.bool true:AV)=.bool (((lN (a_1.Threads)) != (lN (b_1.Threads)))||(((lN (a_1.Domains)) != (lN (b_1.Domains)))||((lN (a_1.Snaps)) != (lN (b_1.Snaps)))))) an))⟩
   ·refine rg [(2,{ n:=(a_1.Threads).length }),(5,{ n:=(b_1.Threads).length }),(10,{ n:=(a_1.Domains).length }),(13,{ n:=(b_1.Domains).length }),(15,Hf),(19,{ n:=(a_1.Snaps).length }),(22,{ n:=(b_1.Snaps).length }),(24,Hf)] [2,3,32] [0,1] 2 [Pp 0,Pp 1,.bool ((lN (a_1.Snaps)) != (lN (b_1.Snaps)))] [Vb 26 (zN a_1),Vb 26 (zN b_1)] zF (ac (yF _:((Mp zG a_1.Threads)).length=(a_1.Threads).length) (ac (yF _:((Mp zG b_1.Threads)).length=(b_1.Threads).length) (ac zH (ac zH (ac zH (ac (yF _:((Mp zC a_1.Domains)).length=(a_1.Domains).length) (ac zH (ac zH (ac zH (ac (yF _:((Mp zC b_1.Domains)).length=(b_1.Domains).length) (ac zH (ac zH (ac zJ (ac zJ (ac zJ (ac (yF _:((Mp zK a_1.Snaps)).length=(a_1.Snaps).length) (ac zJ (ac zJ (ac zJ (ac (yF _:((Mp zK b_1.Snaps)).length=(b_1.Snaps).length) (ac zJ (ac zJ an)))))))))))))))))))))) ?_
    exact ⟨rfl,(sw [0,1] [] [.s 2,.s 3,.a 32 (.bool (((lN (a_1.Threads)) != (lN (b_1.Threads)))||(((lN (a_1.Domains)) != (lN (b_1.Domains)))||((lN (a_1.Snaps)) != (lN (b_1.Snaps))))))] [.s 0,.s 1] (ac (congrArg AV.bool (orf zH (orf zJ rfl)):(.bool ((lN (a_1.Snaps)) != (lN (b_1.Snaps))):AV)=.bool (((lN (a_1.Threads)) != (lN (b_1.Threads)))||(((lN (a_1.Domains)) != (lN (b_1.Domains)))||((lN (a_1.Snaps)) != (lN (b_1.Snaps)))))) an))⟩
 refine cd 32 (((lN (a_1.Threads)) != (lN (b_1.Threads)))||(((lN (a_1.Domains)) != (lN (b_1.Domains)))||((lN (a_1.Snaps)) != (lN (b_1.Snaps))))) ?_ ?_
 ·intro g_1;replace h:=zR g_1 h
  refine sr [] [4] [] 2 [.bool false] [] zF an ?_
  refine rt ?_
  cases h
  exact ⟨.inr rfl,Nat.le_of_ble_eq_true rfl,by kernel_rfl⟩
 intro g_1;replace h:=zQ g_1 h
 refine sk ?_
 refine sq ?_
 refine sr [] [2,3,5] [0,1] 2 [Pp 0,Pp 1,Ii 0] [Vb 26 (zN a_1),Vb 26 (zN b_1)] zF an ?_
 obtain ⟨o_1,h_1,h⟩:=bind_some h
 refine wI (K1:=(fun e st'=>match o_1 with | (.inl q0)=>e=.normal∧Sub 0 st' (mk [(2,Pp 0),(3,Pp 1)] [(0,Vb 26 (zN a_1)),(1,Vb 26 (zN b_1))] 2) | (.inr q1)=>e=.ret∧uE prog Go.Proofs.Try.f35 0 [] (.bool q1) st')) ?_ ?_
 ·replace h:=h_1
  refine yD (id:=0) (by kernel_rfl) ?_
  refine wk [0,1] [] [.s 2,.s 3,.s 5] [.s 0,.s 1] [(2,Pp 0),(3,Pp 1),(5,Ii 0)] [(0,Vb 26 (zN a_1)),(1,Vb 26 (zN b_1))] an ?_
  refine xI (fun n st=>∃ (i_1:Int),st=mk [(2,Pp 0),(3,Pp 1),(5,Ii i_1)] [(0,Vb 26 (zN a_1)),(1,Vb 26 (zN b_1))] 2∧kL F a_1 b_1 n i_1=some o_1) F (by kernel_rfl) ⟨_,rfl,h⟩ ?_ ?_
  ·rintro _ ⟨_,_,h⟩;exact xN (h:(none:Option (Unit⊕Bool))=some o_1)
  rintro n_1 _ ⟨i_1,rfl,h⟩
  replace h:uL F a_1 b_1 (kL F a_1 b_1 n_1) i_1=some o_1:=h
  unfold uL at h
  refine sq ?_
  refine sr [(3,{ n:=(a_1.Threads).length })] [2,3,5,37] [0,1] 2 [Pp 0,Pp 1,Ii i_1,.bool (decide (i_1<(lN (a_1.Threads))))] [Vb 26 (zN a_1),Vb 26 (zN b_1)] zF (ac (yF _:((Mp zG a_1.Threads)).length=(a_1.Threads).length) an) ?_
  refine cd 37 (decide (i_1<(lN (a_1.Threads)))) ?_ ?_
  rotate_left
  ·intro g_2;replace h:=zQ g_2 h
   refine xM (id:=0) (by kernel_rfl) ?_
   cases h
   exact ⟨rfl,(sw [0,1] [] [.s 2,.s 3] [.s 0,.s 1] an)⟩
  intro g_2;replace h:=zR g_2 h
  refine sk ?_
  refine sq ?_
  refine yD (id:=1) (by kernel_rfl) ?_
  refine sq ?_
  obtain ⟨x_1,h_2,h⟩:=bind_some h
  obtain ⟨x_2,h_3,h⟩:=bind_some h
  refine rg [(3,{ av:=zG x_1 }),(8,{ av:=zG x_2 }),(10,{ b:=(decide (x_1=x_2)),mks:=[.int .i64,.str,.int .i64] })] [2,3,5,50] [0,1] 2 [Pp 0,Pp 1,Ii i_1,.bool (!(decide (x_1=x_2)))] [Vb 26 (zN a_1),Vb 26 (zN b_1)] zF (ac (yR h_2:xJ (Mp zG a_1.Threads) i_1=some (zG x_1)) (ac (yR h_3:xJ (Mp zG b_1.Threads) i_1=some (zG x_2)) (ac (zL3:jG prog 66 [.int .i64,.str,.int .i64]) (ac (kC (f:=zG) zC4 x_1 x_2:((decide (x_1=x_2))=true↔AV.agg [Ii x_1.Id,.str x_1.Name,Ii x_1.Domain]=AV.agg [Ii x_2.Id,.str x_2.Name,Ii x_2.Domain])) an)))) ?_
  refine cd 50 (!(decide (x_1=x_2))) ?_ ?_
  rotate_left
  ·intro g_3;replace h:=zQ g_3 h
   refine sk ?_
   refine rg [] [2,3,5] [0,1] 2 [Pp 0,Pp 1,Ii (zP (i_1+(1:Int)))] [Vb 26 (zN a_1),Vb 26 (zN b_1)] zF an ?_
   exact ⟨_,(sw [0,1] [] [.s 2,.s 3,.s 5] [.s 0,.s 1] an),_,rfl,h⟩
  intro g_3;replace h:=zR g_3 h
  refine sr [] [4] [] 2 [.bool false] [] zF an ?_
  refine rt ?_
  cases h
  exact ⟨rfl,Nat.le_of_ble_eq_true rfl,by kernel_rfl⟩
 intro e st1 hk
 rcases o_1 with q_1 | q_2
 rotate_left
 ·obtain ⟨rfl,hf⟩:=hk
  cases h
  exact ⟨st1,Sub.refl _ _,.inr rfl,hf⟩
 obtain ⟨rfl,hs⟩:=hk
 refine ⟨_,hs,?_⟩
 refine sq ?_
 refine sr [] [2,3,6] [0,1] 2 [Pp 0,Pp 1,Ii 0] [Vb 26 (zN a_1),Vb 26 (zN b_1)] zF an ?_
 obtain ⟨o_2,h_4,h⟩:=bind_some h
 refine wI (K1:=(fun e st'=>match o_2 with | (.inl q0)=>e=.normal∧Sub 0 st' (mk [(2,Pp 0),(3,Pp 1)] [(0,Vb 26 (zN a_1)),(1,Vb 26 (zN b_1))] 2) | (.inr q1)=>e=.ret∧uE prog Go.Proofs.Try.f35 0 [] (.bool q1) st')) ?_ ?_
 ·replace h:=h_4
  refine yD (id:=2) (by kernel_rfl) ?_
  refine wk [0,1] [] [.s 2,.s 3,.s 6] [.s 0,.s 1] [(2,Pp 0),(3,Pp 1),(6,Ii 0)] [(0,Vb 26 (zN a_1)),(1,Vb 26 (zN b_1))] an ?_
  refine xI (fun n st=>∃ (i_2:Int),st=mk [(2,Pp 0),(3,Pp 1),(6,Ii i_2)] [(0,Vb 26 (zN a_1)),(1,Vb 26 (zN b_1))] 2∧kS F a_1 b_1 n i_2=some o_2) F (by kernel_rfl) ⟨_,rfl,h⟩ ?_ ?_
  ·rintro _ ⟨_,_,h⟩;exact xN (h:(none:Option (Unit⊕Bool))=some o_2)
  rintro n_2 _ ⟨i_2,rfl,h⟩
  replace h:uM F a_1 b_1 (kS F a_1 b_1 n_2) i_2=some o_2:=h
  unfold uM at h
  refine sq ?_
  refine sr [(3,{ n:=(a_1.Domains).length })] [2,3,6,55] [0,1] 2 [Pp 0,Pp 1,Ii i_2,.bool (decide (i_2<(lN (a_1.Domains))))] [Vb 26 (zN a_1),Vb 26 (zN b_1)] zF (ac (yF _:((Mp zC a_1.Domains)).length=(a_1.Domains).length) an) ?_
  refine cd 55 (decide (i_2<(lN (a_1.Domains)))) ?_ ?_
  rotate_left
  ·intro g_4;replace h:=zQ g_4 h
   refine xM (id:=2) (by kernel_rfl) ?_
   cases h
   exact ⟨rfl,(sw [0,1] [] [.s 2,.s 3] [.s 0,.s 1] an)⟩
  intro g_4;replace h:=zR g_4 h
  refine sk ?_
  refine sq ?_
  refine yD (id:=3) (by kernel_rfl) ?_
  refine sq ?_
  obtain ⟨x_3,h_5,h⟩:=bind_some h
  obtain ⟨x_4,h_6,h⟩:=bind_some h
  refine rg [(3,{ av:=zC x_3 }),(8,{ av:=zC x_4 }),(10,{ b:=(decide (x_3=x_4)),mks:=[.int .i64,.int .i64] })] [2,3,6,68] [0,1] 2 [Pp 0,Pp 1,Ii i_2,.bool (!(decide (x_3=x_4)))] [Vb 26 (zN a_1),Vb 26 (zN b_1)] zF (ac (yR h_5:xJ (Mp zC a_1.Domains) i_2=some (zC x_3)) (ac (yR h_6:xJ (Mp zC b_1.Domains) i_2=some (zC x_4)) (ac (zIh:jG prog 68 [.int .i64,.int .i64]) (ac (kC (f:=zC) zBb x_3 x_4:((decide (x_3=x_4))=true↔AV.agg [Ii x_3.Id,Ii x_3.Ppm]=AV.agg [Ii x_4.Id,Ii x_4.Ppm])) an)))) ?_
  refine cd 68 (!(decide (x_3=x_4))) ?_ ?_
  rotate_left
  ·intro g_5;replace h:=zQ g_5 h
   refine sk ?_
   refine rg [] [2,3,6] [0,1] 2 [Pp 0,Pp 1,Ii (zP (i_2+(1:Int)))] [Vb 26 (zN a_1),Vb 26 (zN b_1)] zF an ?_
   exact ⟨_,(sw [0,1] [] [.s 2,.s 3,.s 6] [.s 0,.s 1] an),_,rfl,h⟩
  intro g_5;replace h:=zR g_5 h
  refine sr [] [4] [] 2 [.bool false] [] zF an ?_
  refine rt ?_
  cases h
  exact ⟨rfl,Nat.le_of_ble_eq_true rfl,by kernel_rfl⟩
 intro e st1 hk
 rcases o_2 with q_3 | q_4
 rotate_left
 ·obtain ⟨rfl,hf⟩:=hk
  cases h
  exact ⟨st1,Sub.refl _ _,.inr rfl,hf⟩
 obtain ⟨rfl,hs⟩:=hk
 refine ⟨_,hs,?_⟩
 refine sq ?_
 refine sr [] [2,3,7] [0,1] 2 [Pp 0,Pp 1,Ii 0] [Vb 26 (zN a_1),Vb 26 (zN b_1)] zF an ?_
 obtain ⟨o_3,h_7,h⟩:=bind_some h
 refine wI (K1:=(fun e st'=>match o_3 with | (.inl q0)=>e=.normal∧Sub 0 st' (mk [] [] 0) | (.inr q1)=>e=.ret∧uE prog Go.Proofs.Try.f35 0 [] (.bool q1) st')) ?_ ?_
 ·replace h:=h_7
  refine yD (id:=4) (by kernel_rfl) ?_
  refine wk [0,1] [] [.s 2,.s 3,.s 7] [.s 0,.s 1] [(2,Pp 0),(3,Pp 1),(7,Ii 0)] [(0,Vb 26 (zN a_1)),(1,Vb 26 (zN b_1))] an ?_
  refine xI (fun n st=>∃ (i_3:Int),st=mk [(2,Pp 0),(3,Pp 1),(7,Ii i_3)] [(0,Vb 26 (zN a_1)),(1,Vb 26 (zN b_1))] 2∧kO F a_1 b_1 n i_3=some o_3) F (by kernel_rfl) ⟨_,rfl,h⟩ ?_ ?_
  ·rintro _ ⟨_,_,h⟩;exact xN (h:(none:Option (Unit⊕Bool))=some o_3)
  rintro n_3 _ ⟨i_3,rfl,h⟩
  replace h:uG F a_1 b_1 (kO F a_1 b_1 n_3) i_3=some o_3:=h
  unfold uG at h
  refine sq ?_
  refine sr [(3,{ n:=(a_1.Snaps).length })] [2,3,7,73] [0,1] 2 [Pp 0,Pp 1,Ii i_3,.bool (decide (i_3<(lN (a_1.Snaps))))] [Vb 26 (zN a_1),Vb 26 (zN b_1)] zF (ac (yF _:((Mp zK a_1.Snaps)).length=(a_1.Snaps).length) an) ?_
  refine cd 73 (decide (i_3<(lN (a_1.Snaps)))) ?_ ?_
  rotate_left
  ·intro g_6;replace h:=zQ g_6 h
   refine xM (id:=4) (by kernel_rfl) ?_
   cases h
   exact ⟨rfl,(sw [] [] [] [] an)⟩
  intro g_6;replace h:=zR g_6 h
  refine sk ?_
  refine sq ?_
  refine yD (id:=5) (by kernel_rfl) ?_
  refine sq ?_
  obtain ⟨x_5,h_8,h⟩:=bind_some h
  obtain ⟨x_6,h_9,h⟩:=bind_some h
  refine rg [(3,{ av:=zK x_5 }),(8,{ av:=zK x_6 }),(10,{ b:=(decide (x_5=x_6)),mks:=[.int .i64,.int .i64,.int .i64,.int .i64,.int .i64] })] [2,3,7,86] [0,1] 2 [Pp 0,Pp 1,Ii i_3,.bool (!(decide (x_5=x_6)))] [Vb 26 (zN a_1),Vb 26 (zN b_1)] zF (ac (yR h_8:xJ (Mp zK a_1.Snaps) i_3=some (zK x_5)) (ac (yR h_9:xJ (Mp zK b_1.Snaps) i_3=some (zK x_6)) (ac (zL2:jG prog 86 [.int .i64,.int .i64,.int .i64,.int .i64,.int .i64]) (ac (kC (f:=zK) zEh x_5 x_6:((decide (x_5=x_6))=true↔AV.agg [Ii x_5.A,Ii x_5.AtA,Ii x_5.B,Ii x_5.AtB.Lo,Ii x_5.AtB.Hi]=AV.agg [Ii x_6.A,Ii x_6.AtA,Ii x_6.B,Ii x_6.AtB.Lo,Ii x_6.AtB.Hi])) an)))) ?_
  refine cd 86 (!(decide (x_5=x_6))) ?_ ?_
  rotate_left
  ·intro g_7;replace h:=zQ g_7 h
   refine sk ?_
   refine rg [] [2,3,7] [0,1] 2 [Pp 0,Pp 1,Ii (zP (i_3+(1:Int)))] [Vb 26 (zN a_1),Vb 26 (zN b_1)] zF an ?_
   exact ⟨_,(sw [0,1] [] [.s 2,.s 3,.s 7] [.s 0,.s 1] an),_,rfl,h⟩
  intro g_7;replace h:=zR g_7 h
  refine sr [] [4] [] 2 [.bool false] [] zF an ?_
  refine rt ?_
  cases h
  exact ⟨rfl,Nat.le_of_ble_eq_true rfl,by kernel_rfl⟩
 intro e st1 hk
 rcases o_3 with q_5 | q_6
 rotate_left
 ·obtain ⟨rfl,hf⟩:=hk
  cases h
  exact ⟨st1,Sub.refl _ _,.inr rfl,hf⟩
 obtain ⟨rfl,hs⟩:=hk
 refine ⟨_,hs,?_⟩
 refine sr [] [4] [] 0 [.bool true] [] zF an ?_
 refine rt ?_
 cases h
 exact ⟨.inr rfl,Nat.le_of_ble_eq_true rfl,by kernel_rfl⟩
theorem zJ2 (F:Nat) (a_1:List (List Int)) (b_1:List (List Int)) (r:Bool) (h:zCC F a_1 b_1=some r):zV prog 83 [] [] [.sl false 1 (Ms a_1),.sl false 1 (Ms b_1)] [] (.bool r):=by
 refine yG (fn:=Go.Proofs.Try.f83) (code:=xC Go.Proofs.Try.f83) (by kernel_rfl) (by kernel_rfl) (Nat.le_of_ble_eq_true (by kernel_rfl)) ?_
 unfold zCC at h
 refine sr [] [0,1] [] 0 [.sl false 1 (Ms a_1),.sl false 1 (Ms b_1)] [] zF an ?_
 refine sq ?_
 refine sr [(1,{ n:=(a_1).length }),(3,{ n:=(b_1).length })] [0,1,10] [] 0 [.sl false 1 (Ms a_1),.sl false 1 (Ms b_1),.bool ((lN (a_1)) != (lN (b_1)))] [] zF (ac (yF _:((Ms a_1)).length=(a_1).length) (ac (yF _:((Ms b_1)).length=(b_1).length) an)) ?_
 refine cd 10 ((lN (a_1)) != (lN (b_1))) ?_ ?_
 ·intro g_1;replace h:=zR g_1 h
  refine sr [] [4] [] 0 [.bool false] [] zF an ?_
  refine rt ?_
  cases h
  exact ⟨.inr rfl,Nat.le_of_ble_eq_true rfl,by kernel_rfl⟩
 intro g_1;replace h:=zQ g_1 h
 refine sk ?_
 refine sq ?_
 refine sr [] [0,1,5] [] 0 [.sl false 1 (Ms a_1),.sl false 1 (Ms b_1),Ii 0] [] zF an ?_
 obtain ⟨o_1,h_1,h⟩:=bind_some h
 refine wI (K1:=(fun e st'=>match o_1 with | (.inl q0)=>e=.normal∧Sub 0 st' (mk [] [] 0) | (.inr q1)=>e=.ret∧uE prog Go.Proofs.Try.f83 0 [] (.bool q1) st')) ?_ ?_
 ·replace h:=h_1
  refine yD (id:=0) (by kernel_rfl) ?_
  refine wk [] [] [.s 0,.s 1,.s 5] [] [(0,.sl false 1 (Ms a_1)),(1,.sl false 1 (Ms b_1)),(5,Ii 0)] [] an ?_
  refine xI (fun n st=>∃ (i_1:Int),st=mk [(0,.sl false 1 (Ms a_1)),(1,.sl false 1 (Ms b_1)),(5,Ii i_1)] [] 0∧zAg F a_1 b_1 n i_1=some o_1) F (by kernel_rfl) ⟨_,rfl,h⟩ ?_ ?_
  ·rintro _ ⟨_,_,h⟩;exact xN (h:(none:Option (Unit⊕Bool))=some o_1)
  rintro n_1 _ ⟨i_1,rfl,h⟩
  replace h:tL F a_1 b_1 (zAg F a_1 b_1 n_1) i_1=some o_1:=h
  unfold tL at h
  refine sq ?_
  refine sr [(2,{ n:=(a_1).length })] [0,1,5,14] [] 0 [.sl false 1 (Ms a_1),.sl false 1 (Ms b_1),Ii i_1,.bool (decide (i_1<(lN (a_1))))] [] zF (ac (yF _:((Ms a_1)).length=(a_1).length) an) ?_
  refine cd 14 (decide (i_1<(lN (a_1)))) ?_ ?_
  rotate_left
  ·intro g_2;replace h:=zQ g_2 h
   refine xM (id:=0) (by kernel_rfl) ?_
   cases h
   exact ⟨rfl,(sw [] [] [] [] an)⟩
  intro g_2;replace h:=zR g_2 h
  refine sk ?_
  refine sq ?_
  refine yD (id:=1) (by kernel_rfl) ?_
  refine sq ?_
  obtain ⟨x_1,h_2,h⟩:=bind_some h
  obtain ⟨x_2,h_3,h⟩:=bind_some h
  refine rg [(2,{ av:=.str x_1 }),(6,{ av:=.str x_2 })] [0,1,5,25] [] 0 [.sl false 1 (Ms a_1),.sl false 1 (Ms b_1),Ii i_1,.bool (!(x_1==x_2))] [] zF (ac (yR h_2:xJ (Ms a_1) i_1=some (.str x_1)) (ac (yR h_3:xJ (Ms b_1) i_1=some (.str x_2)) an)) ?_
  refine cd 25 (!(x_1==x_2)) ?_ ?_
  rotate_left
  ·intro g_3;replace h:=zQ g_3 h
   refine sk ?_
   refine rg [] [0,1,5] [] 0 [.sl false 1 (Ms a_1),.sl false 1 (Ms b_1),Ii (zP (i_1+(1:Int)))] [] zF an ?_
   exact ⟨_,(sw [] [] [.s 0,.s 1,.s 5] [] an),_,rfl,h⟩
  intro g_3;replace h:=zR g_3 h
  refine sr [] [4] [] 0 [.bool false] [] zF an ?_
  refine rt ?_
  cases h
  exact ⟨rfl,Nat.le_of_ble_eq_true rfl,by kernel_rfl⟩
 intro e st1 hk
 rcases o_1 with q_1 | q_2
 rotate_left
 ·obtain ⟨rfl,hf⟩:=hk
  cases h
  exact ⟨st1,Sub.refl _ _,.inr rfl,hf⟩
 obtain ⟨rfl,hs⟩:=hk
 refine ⟨_,hs,?_⟩
 refine sr [] [4] [] 0 [.bool true] [] zF an ?_
 refine rt ?_
 cases h
 exact ⟨.inr rfl,Nat.le_of_ble_eq_true rfl,by kernel_rfl⟩
theorem zLj (F:Nat) (a_1:zI) (b_1:zI) (r:Bool) (h:zDl F a_1 b_1=some r):zV prog 72 [] [] [zD a_1,zD b_1] [] (.bool r):=by
 refine yG (fn:=Go.Proofs.Try.f72) (code:=xC Go.Proofs.Try.f72) (by kernel_rfl) (by kernel_rfl) (Nat.le_of_ble_eq_true (by kernel_rfl)) ?_
 unfold zDl at h
 refine sr [(0,{ id:=0 }),(1,{ id:=1 })] [2,3] [0,1] 2 [Pp 0,Pp 1] [Vb 42 (zT a_1),Vb 42 (zT b_1)] zF an ?_
 refine sq ?_
 obtain ⟨p_1,h_2,h⟩:=bind_some h
 refine y4 (mk [(4,.bool p_1)] [] 0) ?_ ?_
 ·replace h:=h_2
  rcases bft (a_1.At==b_1.At) with zH | zH
  ·replace h:=zR zH h
   rcases bft (a_1.Kind==b_1.Kind) with zJ | zJ
   ·replace h:=zR zJ h
    rcases bft (a_1.Name==b_1.Name) with zO | zO
    ·replace h:=zR zO h
     rcases bft (a_1.N==b_1.N) with zS | zS
     ·replace h:=zR zS h
      rcases bft (a_1.M==b_1.M) with yE | yE
      ·replace h:=zR yE h
       obtain ⟨r_1,h_1,h⟩:=bind_some h
       refine rg [(11,Ht),(18,Ht),(25,Ht),(32,Ht),(38,{ av:=.bool r_1,l:=[.sl false 1 (Ms a_1.Stack),.sl false 1 (Ms b_1.Stack)] }),(39,Ht)] [4] [] 2 [.bool r_1] [] zF (ac zH (ac zH (ac zH (ac zH (ac zH (ac zH (ac zJ (ac zJ (ac zJ (ac zJ (ac zJ (ac zJ (ac zO (ac zO (ac zO (ac zO (ac zO (ac zO (ac zS (ac zS (ac zS (ac zS (ac zS (ac zS (ac yE (ac yE (ac yE (ac yE (ac yE (ar ([.sl false 1 (Ms a_1.Stack),.sl false 1 (Ms b_1.Stack)]:List AV) (ac (rfl:([]:List zW)=[]) (ac (zJ2 F a_1.Stack b_1.Stack r_1 h_1:zV prog 83 [] [] [.sl false 1 (Ms a_1.Stack),.sl false 1 (Ms b_1.Stack)] [] (.bool r_1)) (ac yE an))))))))))))))))))))))))))))))))) ?_
       cases h
       exact ⟨rfl,(sw [] [] [.s 4] [] an)⟩
      ·replace h:=zQ yE h
       refine rg [(11,Ht),(18,Ht),(25,Ht),(32,Ht),(34,Hg),(35,Hg),(36,Hg),(37,Hg),(38,Hg),(39,Hf)] [4] [] 2 [.bool false] [] zF (ac zH (ac zH (ac zH (ac zH (ac zH (ac zH (ac zJ (ac zJ (ac zJ (ac zJ (ac zJ (ac zJ (ac zO (ac zO (ac zO (ac zO (ac zO (ac zO (ac zS (ac zS (ac zS (ac zS (ac zS (ac zS (ac yE (ac yE (ac yE (ac yE (ac yE (ac yE an)))))))))))))))))))))))))))))) ?_
       cases h
       exact ⟨rfl,(sw [] [] [.s 4] [] an)⟩
     ·replace h:=zQ zS h
      refine rg [(11,Ht),(18,Ht),(25,Ht),(27,Hg),(28,Hg),(29,Hg),(30,Hg),(31,Hg),(32,Hf),(34,Hg),(35,Hg),(36,Hg),(37,Hg),(38,Hg),(39,Hf)] [4] [] 2 [.bool false] [] zF (ac zH (ac zH (ac zH (ac zH (ac zH (ac zH (ac zJ (ac zJ (ac zJ (ac zJ (ac zJ (ac zJ (ac zO (ac zO (ac zO (ac zO (ac zO (ac zO (ac zS (ac zS (ac zS (ac zS (ac zS (ac zS (ac (rfl:false=!true) (ac (rfl:false=!true) (ac (rfl:false=!true) (ac (rfl:false=!true) (ac (rfl:false=!true) (ar false an)))))))))))))))))))))))))))))) ?_
      cases h
      exact ⟨rfl,(sw [] [] [.s 4] [] an)⟩
    ·replace h:=zQ zO h
     refine rg [(11,Ht),(18,Ht),(20,Hg),(21,Hg),(22,Hg),(23,Hg),(24,Hg),(25,Hf),(27,Hg),(28,Hg),(29,Hg),(30,Hg),(31,Hg),(32,Hf),(34,Hg),(35,Hg),(36,Hg),(37,Hg),(38,Hg),(39,Hf)] [4] [] 2 [.bool false] [] zF (ac zH (ac zH (ac zH (ac zH (ac zH (ac zH (ac zJ (ac zJ (ac zJ (ac zJ (ac zJ (ac zJ (ac zO (ac zO (ac zO (ac zO (ac zO (ac zO (ac (rfl:false=!true) (ac (rfl:false=!true) (ac (rfl:false=!true) (ac (rfl:false=!true) (ac (rfl:false=!true) (ar false (ac (rfl:false=!true) (ac (rfl:false=!true) (ac (rfl:false=!true) (ac (rfl:false=!true) (ac (rfl:false=!true) (ar false an)))))))))))))))))))))))))))))) ?_
     cases h
     exact ⟨rfl,(sw [] [] [.s 4] [] an)⟩
   ·replace h:=zQ zJ h
    refine rg [(11,Ht),(13,Hg),(14,Hg),(15,Hg),(16,Hg),(17,Hg),(18,Hf),(20,Hg),(21,Hg),(22,Hg),(23,Hg),(24,Hg),(25,Hf),(27,Hg),(28,Hg),(29,Hg),(30,Hg),(31,Hg),(32,Hf),(34,Hg),(35,Hg),(36,Hg),(37,Hg),(38,Hg),(39,Hf)] [4] [] 2 [.bool false] [] zF (ac zH (ac zH (ac zH (ac zH (ac zH (ac zH (ac zJ (ac zJ (ac zJ (ac zJ (ac zJ (ac zJ (ac (rfl:false=!true) (ac (rfl:false=!true) (ac (rfl:false=!true) (ac (rfl:false=!true) (ac (rfl:false=!true) (ar false (ac (rfl:false=!true) (ac (rfl:false=!true) (ac (rfl:false=!true) (ac (rfl:false=!true) (ac (rfl:false=!true) (ar false (ac (rfl:false=!true) (ac (rfl:false=!true) (ac (rfl:false=!true) (ac (rfl:false=!true) (ac (rfl:false=!true) (ar false an)))))))))))))))))))))))))))))) ?_
    cases h
    exact ⟨rfl,(sw [] [] [.s 4] [] an)⟩
  ·replace h:=zQ zH h
   refine rg [(6,Hg),(7,Hg),(8,Hg),(9,Hg),(10,Hg),(11,Hf),(13,Hg),(14,Hg),(15,Hg),(16,Hg),(17,Hg),(18,Hf),(20,Hg),(21,Hg),(22,Hg),(23,Hg),(24,Hg),(25,Hf),(27,Hg),(28,Hg),(29,Hg),(30,Hg),(31,Hg),(32,Hf),(34,Hg),(35,Hg),(36,Hg),(37,Hg),(38,Hg),(39,Hf)] [4] [] 2 [.bool false] [] zF (ac zH (ac zH (ac zH (ac zH (ac zH (ac zH (ac (rfl:false=!true) (ac (rfl:false=!true) (ac (rfl:false=!true) (ac (rfl:false=!true) (ac (rfl:false=!true) (ar false (ac (rfl:false=!true) (ac (rfl:false=!true) (ac (rfl:false=!true) (ac (rfl:false=!true) (ac (rfl:false=!true) (ar false (ac (rfl:false=!true) (ac (rfl:false=!true) (ac (rfl:false=!true) (ac (rfl:false=!true) (ac (rfl:false=!true) (ar false (ac (rfl:false=!true) (ac (rfl:false=!true) (ac (rfl:false=!true) (ac (rfl:false=!true) (ac (rfl:false=!true) (ar false an)))))))))))))))))))))))))))))) ?_
   cases h
   exact ⟨rfl,(sw [] [] [.s 4] [] an)⟩
 refine rt ?_
 cases h
 exact ⟨.inr rfl,Nat.le_of_ble_eq_true rfl,by kernel_rfl⟩
theorem zLh (F:Nat) (a_1:zB) (b_1:zB) (r:Bool) (h:zC9 F a_1 b_1=some r):zV prog 58 [] [] [zA a_1,zA b_1] [] (.bool r):=by
 refine yG (fn:=Go.Proofs.Try.f58) (code:=xC Go.Proofs.Try.f58) (by kernel_rfl) (by kernel_rfl) (Nat.le_of_ble_eq_true (by kernel_rfl)) ?_
 unfold zC9 at h
 refine sr [(0,{ id:=0 }),(1,{ id:=1 })] [2,3] [0,1] 2 [Pp 0,Pp 1] [Vb 59 (zX a_1),Vb 59 (zX b_1)] zF an ?_
 refine sq ?_
 refine sq ?_
 refine y4 (mk [(2,Pp 0),(3,Pp 1),(33,.bool ((a_1.Thread != b_1.Thread)||((a_1.Serial != b_1.Serial)||((a_1.Lost != b_1.Lost)||((lN (a_1.Events)) != (lN (b_1.Events)))))))] [(0,Vb 59 (zX a_1)),(1,Vb 59 (zX b_1))] 2) ?_ ?_
 ·rcases bft (a_1.Thread != b_1.Thread) with zH | zH
  ·refine rg [(6,Hg),(7,Hg),(8,Hg),(9,Hg),(10,Hg),(11,Ht),(13,Hg),(14,Hg),(15,Hg),(16,Hg),(17,Hg),(18,Ht),(20,Hg),(21,Hg),(22,Hg),(23,Hg),(24,Hg),(25,Hg),(26,Hg),(27,Ht)] [2,3,33] [0,1] 2 [Pp 0,Pp 1,.bool true] [Vb 59 (zX a_1),Vb 59 (zX b_1)] zF (ac zH (ac zH (ac zH (ac zH (ac zH (ac zH (ax (ax (ax (ax (ax (ar true (ax (ax (ax (ax (ax (ax (ax (ar true an)))))))))))))))))))) ?_
   exact ⟨rfl,(sw [0,1] [] [.s 2,.s 3,.a 33 (.bool ((a_1.Thread != b_1.Thread)||((a_1.Serial != b_1.Serial)||((a_1.Lost != b_1.Lost)||((lN (a_1.Events)) != (lN (b_1.Events)))))))] [.s 0,.s 1] (ac (congrArg AV.bool (ort zH):(.bool true:AV)=.bool ((a_1.Thread != b_1.Thread)||((a_1.Serial != b_1.Serial)||((a_1.Lost != b_1.Lost)||((lN (a_1.Events)) != (lN (b_1.Events))))))) an))⟩
  ·rcases bft (a_1.Serial != b_1.Serial) with zJ | zJ
   ·refine rg [(11,Hf),(13,Hg),(14,Hg),(15,Hg),(16,Hg),(17,Hg),(18,Ht),(20,Hg),(21,Hg),(22,Hg),(23,Hg),(24,Hg),(25,Hg),(26,Hg),(27,Ht)] [2,3,33] [0,1] 2 [Pp 0,Pp 1,.bool true] [Vb 59 (zX a_1),Vb 59 (zX b_1)] zF (ac zH (ac zH (ac zH (ac zH (ac zH (ac zH (ac zJ (ac zJ (ac zJ (ac zJ (ac zJ (ac zJ (ax (ax (ax (ax (ax (ax (ax (ar true an)))))))))))))))))))) ?_
    exact ⟨rfl,(sw [0,1] [] [.s 2,.s 3,.a 33 (.bool ((a_1.Thread != b_1.Thread)||((a_1.Serial != b_1.Serial)||((a_1.Lost != b_1.Lost)||((lN (a_1.Events)) != (lN (b_1.Events)))))))] [.s 0,.s 1] (ac (congrArg AV.bool (orf zH (ort zJ)):(.bool true:AV)=.bool ((a_1.Thread != b_1.Thread)||((a_1.Serial != b_1.Serial)||((a_1.Lost != b_1.Lost)||((lN (a_1.Events)) != (lN (b_1.Events))))))) an))⟩
   ·rcases bft (a_1.Lost != b_1.Lost) with zO | zO
    ·refine rg [(11,Hf),(18,Hf),(20,Hg),(21,Hg),(22,Hg),(23,Hg),(24,Hg),(25,Hg),(26,Hg),(27,Ht)] [2,3,33] [0,1] 2 [Pp 0,Pp 1,.bool true] [Vb 59 (zX a_1),Vb 59 (zX b_1)] zF (ac zH (ac zH (ac zH (ac zH (ac zH (ac zH (ac zJ (ac zJ (ac zJ (ac zJ (ac zJ (ac zJ (ac zO (ac zO (ac zO (ac zO (ac zO (ac zO (ac zO (ac zO an)))))))))))))))))))) ?_
     exact ⟨rfl,(sw [0,1] [] [.s 2,.s 3,.a 33 (.bool ((a_1.Thread != b_1.Thread)||((a_1.Serial != b_1.Serial)||((a_1.Lost != b_1.Lost)||((lN (a_1.Events)) != (lN (b_1.Events)))))))] [.s 0,.s 1] (ac (congrArg AV.bool (orf zH (orf zJ (ort zO))):(.bool true:AV)=.bool ((a_1.Thread != b_1.Thread)||((a_1.Serial != b_1.Serial)||((a_1.Lost != b_1.Lost)||((lN (a_1.Events)) != (lN (b_1.Events))))))) an))⟩
    ·refine rg [(11,Hf),(18,Hf),(22,{ n:=(a_1.Events).length }),(25,{ n:=(b_1.Events).length }),(27,Hf)] [2,3,33] [0,1] 2 [Pp 0,Pp 1,.bool ((lN (a_1.Events)) != (lN (b_1.Events)))] [Vb 59 (zX a_1),Vb 59 (zX b_1)] zF (ac zH (ac zH (ac zH (ac zH (ac zH (ac zH (ac zJ (ac zJ (ac zJ (ac zJ (ac zJ (ac zJ (ac zO (ac zO (ac zO (ac (yF _:((Mp zD a_1.Events)).length=(a_1.Events).length) (ac zO (ac zO (ac zO (ac (yF _:((Mp zD b_1.Events)).length=(b_1.Events).length) (ac zO (ac zO an)))))))))))))))))))))) ?_
     exact ⟨rfl,(sw [0,1] [] [.s 2,.s 3,.a 33 (.bool ((a_1.Thread != b_1.Thread)||((a_1.Serial != b_1.Serial)||((a_1.Lost != b_1.Lost)||((lN (a_1.Events)) != (lN (b_1.Events)))))))] [.s 0,.s 1] (ac (congrArg AV.bool (orf zH (orf zJ (orf zO rfl))):(.bool ((lN (a_1.Events)) != (lN (b_1.Events))):AV)=.bool ((a_1.Thread != b_1.Thread)||((a_1.Serial != b_1.Serial)||((a_1.Lost != b_1.Lost)||((lN (a_1.Events)) != (lN (b_1.Events))))))) an))⟩
 refine cd 33 ((a_1.Thread != b_1.Thread)||((a_1.Serial != b_1.Serial)||((a_1.Lost != b_1.Lost)||((lN (a_1.Events)) != (lN (b_1.Events)))))) ?_ ?_
 ·intro g_1;replace h:=zR g_1 h
  refine sr [] [4] [] 2 [.bool false] [] zF an ?_
  refine rt ?_
  cases h
  exact ⟨.inr rfl,Nat.le_of_ble_eq_true rfl,by kernel_rfl⟩
 intro g_1;replace h:=zQ g_1 h
 refine sk ?_
 refine sq ?_
 refine sr [] [2,3,5] [0,1] 2 [Pp 0,Pp 1,Ii 0] [Vb 59 (zX a_1),Vb 59 (zX b_1)] zF an ?_
 obtain ⟨o_1,h_1,h⟩:=bind_some h
 refine wI (K1:=(fun e st'=>match o_1 with | (.inl q0)=>e=.normal∧Sub 0 st' (mk [] [] 0) | (.inr q1)=>e=.ret∧uE prog Go.Proofs.Try.f58 0 [] (.bool q1) st')) ?_ ?_
 ·replace h:=h_1
  refine yD (id:=0) (by kernel_rfl) ?_
  refine wk [0,1] [] [.s 2,.s 3,.s 5] [.s 0,.s 1] [(2,Pp 0),(3,Pp 1),(5,Ii 0)] [(0,Vb 59 (zX a_1)),(1,Vb 59 (zX b_1))] an ?_
  refine xI (fun n st=>∃ (i_1:Int),st=mk [(2,Pp 0),(3,Pp 1),(5,Ii i_1)] [(0,Vb 59 (zX a_1)),(1,Vb 59 (zX b_1))] 2∧zAY F a_1 b_1 n i_1=some o_1) F (by kernel_rfl) ⟨_,rfl,h⟩ ?_ ?_
  ·rintro _ ⟨_,_,h⟩;exact xN (h:(none:Option (Unit⊕Bool))=some o_1)
  rintro n_1 _ ⟨i_1,rfl,h⟩
  replace h:tZ F a_1 b_1 (zAY F a_1 b_1 n_1) i_1=some o_1:=h
  unfold tZ at h
  refine sq ?_
  refine sr [(3,{ n:=(a_1.Events).length })] [2,3,5,38] [0,1] 2 [Pp 0,Pp 1,Ii i_1,.bool (decide (i_1<(lN (a_1.Events))))] [Vb 59 (zX a_1),Vb 59 (zX b_1)] zF (ac (yF _:((Mp zD a_1.Events)).length=(a_1.Events).length) an) ?_
  refine cd 38 (decide (i_1<(lN (a_1.Events)))) ?_ ?_
  rotate_left
  ·intro g_2;replace h:=zQ g_2 h
   refine xM (id:=0) (by kernel_rfl) ?_
   cases h
   exact ⟨rfl,(sw [] [] [] [] an)⟩
  intro g_2;replace h:=zR g_2 h
  refine sk ?_
  refine sq ?_
  refine yD (id:=1) (by kernel_rfl) ?_
  refine sq ?_
  obtain ⟨x_1,h_2,h⟩:=bind_some h
  obtain ⟨x_2,h_3,h⟩:=bind_some h
  obtain ⟨r_1,h_4,h⟩:=bind_some h
  refine rg [(3,{ av:=zD x_1 }),(8,{ av:=zD x_2 }),(10,{ av:=.bool r_1,l:=[zD x_1,zD x_2] })] [2,3,5,52] [0,1] 2 [Pp 0,Pp 1,Ii i_1,.bool (!r_1)] [Vb 59 (zX a_1),Vb 59 (zX b_1)] zF (ac (yR h_2:xJ (Mp zD a_1.Events) i_1=some (zD x_1)) (ac (yR h_3:xJ (Mp zD b_1.Events) i_1=some (zD x_2)) (ar ([zD x_1,zD x_2]:List AV) (ac (rfl:([]:List zW)=[]) (ac (zLj F x_1 x_2 r_1 h_4:zV prog 72 [] [] [zD x_1,zD x_2] [] (.bool r_1)) an))))) ?_
  refine cd 52 (!r_1) ?_ ?_
  rotate_left
  ·intro g_3;replace h:=zQ g_3 h
   refine sk ?_
   refine rg [] [2,3,5] [0,1] 2 [Pp 0,Pp 1,Ii (zP (i_1+(1:Int)))] [Vb 59 (zX a_1),Vb 59 (zX b_1)] zF an ?_
   exact ⟨_,(sw [0,1] [] [.s 2,.s 3,.s 5] [.s 0,.s 1] an),_,rfl,h⟩
  intro g_3;replace h:=zR g_3 h
  refine sr [] [4] [] 2 [.bool false] [] zF an ?_
  refine rt ?_
  cases h
  exact ⟨rfl,Nat.le_of_ble_eq_true rfl,by kernel_rfl⟩
 intro e st1 hk
 rcases o_1 with q_1 | q_2
 rotate_left
 ·obtain ⟨rfl,hf⟩:=hk
  cases h
  exact ⟨st1,Sub.refl _ _,.inr rfl,hf⟩
 obtain ⟨rfl,hs⟩:=hk
 refine ⟨_,hs,?_⟩
 refine sr [] [4] [] 0 [.bool true] [] zF an ?_
 refine rt ?_
 cases h
 exact ⟨.inr rfl,Nat.le_of_ble_eq_true rfl,by kernel_rfl⟩
theorem zFL (F:Nat) (a_1:List (zB)) (b_1:List (zB)) (r:Bool) (h:kG F a_1 b_1=some r):zV prog 36 [] [] [.sl false 4 (Mp zA a_1),.sl false 4 (Mp zA b_1)] [] (.bool r):=by
 refine yG (fn:=Go.Proofs.Try.f36) (code:=xC Go.Proofs.Try.f36) (by kernel_rfl) (by kernel_rfl) (Nat.le_of_ble_eq_true (by kernel_rfl)) ?_
 unfold kG at h
 refine sr [] [0,1] [] 0 [.sl false 4 (Mp zA a_1),.sl false 4 (Mp zA b_1)] [] zF an ?_
 refine sq ?_
 refine sr [(1,{ n:=(a_1).length }),(3,{ n:=(b_1).length })] [0,1,10] [] 0 [.sl false 4 (Mp zA a_1),.sl false 4 (Mp zA b_1),.bool ((lN (a_1)) != (lN (b_1)))] [] zF (ac (yF _:((Mp zA a_1)).length=(a_1).length) (ac (yF _:((Mp zA b_1)).length=(b_1).length) an)) ?_
 refine cd 10 ((lN (a_1)) != (lN (b_1))) ?_ ?_
 ·intro g_1;replace h:=zR g_1 h
  refine sr [] [4] [] 0 [.bool false] [] zF an ?_
  refine rt ?_
  cases h
  exact ⟨.inr rfl,Nat.le_of_ble_eq_true rfl,by kernel_rfl⟩
 intro g_1;replace h:=zQ g_1 h
 refine sk ?_
 refine sq ?_
 refine sr [] [0,1,5] [] 0 [.sl false 4 (Mp zA a_1),.sl false 4 (Mp zA b_1),Ii 0] [] zF an ?_
 obtain ⟨o_1,h_1,h⟩:=bind_some h
 refine wI (K1:=(fun e st'=>match o_1 with | (.inl q0)=>e=.normal∧Sub 0 st' (mk [] [] 0) | (.inr q1)=>e=.ret∧uE prog Go.Proofs.Try.f36 0 [] (.bool q1) st')) ?_ ?_
 ·replace h:=h_1
  refine yD (id:=0) (by kernel_rfl) ?_
  refine wk [] [] [.s 0,.s 1,.s 5] [] [(0,.sl false 4 (Mp zA a_1)),(1,.sl false 4 (Mp zA b_1)),(5,Ii 0)] [] an ?_
  refine xI (fun n st=>∃ (i_1:Int),st=mk [(0,.sl false 4 (Mp zA a_1)),(1,.sl false 4 (Mp zA b_1)),(5,Ii i_1)] [] 0∧qW F a_1 b_1 n i_1=some o_1) F (by kernel_rfl) ⟨_,rfl,h⟩ ?_ ?_
  ·rintro _ ⟨_,_,h⟩;exact xN (h:(none:Option (Unit⊕Bool))=some o_1)
  rintro n_1 _ ⟨i_1,rfl,h⟩
  replace h:vU F a_1 b_1 (qW F a_1 b_1 n_1) i_1=some o_1:=h
  unfold vU at h
  refine sq ?_
  refine sr [(2,{ n:=(a_1).length })] [0,1,5,14] [] 0 [.sl false 4 (Mp zA a_1),.sl false 4 (Mp zA b_1),Ii i_1,.bool (decide (i_1<(lN (a_1))))] [] zF (ac (yF _:((Mp zA a_1)).length=(a_1).length) an) ?_
  refine cd 14 (decide (i_1<(lN (a_1)))) ?_ ?_
  rotate_left
  ·intro g_2;replace h:=zQ g_2 h
   refine xM (id:=0) (by kernel_rfl) ?_
   cases h
   exact ⟨rfl,(sw [] [] [] [] an)⟩
  intro g_2;replace h:=zR g_2 h
  refine sk ?_
  refine sq ?_
  refine yD (id:=1) (by kernel_rfl) ?_
  refine sq ?_
  obtain ⟨x_1,h_2,h⟩:=bind_some h
  obtain ⟨x_2,h_3,h⟩:=bind_some h
  obtain ⟨r_1,h_4,h⟩:=bind_some h
  refine rg [(2,{ av:=zA x_1 }),(6,{ av:=zA x_2 }),(8,{ av:=.bool r_1,l:=[zA x_1,zA x_2] })] [0,1,5,26] [] 0 [.sl false 4 (Mp zA a_1),.sl false 4 (Mp zA b_1),Ii i_1,.bool (!r_1)] [] zF (ac (yR h_2:xJ (Mp zA a_1) i_1=some (zA x_1)) (ac (yR h_3:xJ (Mp zA b_1) i_1=some (zA x_2)) (ar ([zA x_1,zA x_2]:List AV) (ac (rfl:([]:List zW)=[]) (ac (zLh F x_1 x_2 r_1 h_4:zV prog 58 [] [] [zA x_1,zA x_2] [] (.bool r_1)) an))))) ?_
  refine cd 26 (!r_1) ?_ ?_
  rotate_left
  ·intro g_3;replace h:=zQ g_3 h
   refine sk ?_
   refine rg [] [0,1,5] [] 0 [.sl false 4 (Mp zA a_1),.sl false 4 (Mp zA b_1),Ii (zP (i_1+(1:Int)))] [] zF an ?_
   exact ⟨_,(sw [] [] [.s 0,.s 1,.s 5] [] an),_,rfl,h⟩
  intro g_3;replace h:=zR g_3 h
  refine sr [] [4] [] 0 [.bool false] [] zF an ?_
  refine rt ?_
  cases h
  exact ⟨rfl,Nat.le_of_ble_eq_true rfl,by kernel_rfl⟩
 intro e st1 hk
 rcases o_1 with q_1 | q_2
 rotate_left
 ·obtain ⟨rfl,hf⟩:=hk
  cases h
  exact ⟨st1,Sub.refl _ _,.inr rfl,hf⟩
 obtain ⟨rfl,hs⟩:=hk
 refine ⟨_,hs,?_⟩
 refine sr [] [4] [] 0 [.bool true] [] zF an ?_
 refine rt ?_
 cases h
 exact ⟨.inr rfl,Nat.le_of_ble_eq_true rfl,by kernel_rfl⟩
theorem zGm (F:Nat) (a_1:zM) (b_1:zM) (r:Bool) (h:zBZ F a_1 b_1=some r):zV prog 12 [] [] [z4 a_1,z4 b_1] [] (.bool r):=by
 refine yG (fn:=Go.Proofs.Try.f12) (code:=xC Go.Proofs.Try.f12) (by kernel_rfl) (by kernel_rfl) (Nat.le_of_ble_eq_true (by kernel_rfl)) ?_
 unfold zBZ at h
 refine sr [(0,{ id:=0 }),(1,{ id:=1 })] [2,3] [0,1] 2 [Pp 0,Pp 1] [Vb 31 (yB a_1),Vb 31 (yB b_1)] zF an ?_
 refine sq ?_
 obtain ⟨p_1,h_3,h⟩:=bind_some h
 refine y4 (mk [(4,.bool p_1)] [] 0) ?_ ?_
 ·replace h:=h_3
  obtain ⟨r_1,h_1,h⟩:=bind_some h
  rcases Bool.eq_false_or_eq_true r_1 with zH | zH
  ·replace h:=zR zH h
   obtain ⟨r_2,h_2,h⟩:=bind_some h
   refine rg [(4,{ av:=.bool r_1,l:=[yU a_1.Head,yU b_1.Head] }),(10,{ av:=.bool r_2,l:=[.sl false 4 (Mp zA a_1.Parts),.sl false 4 (Mp zA b_1.Parts)] }),(11,Ht)] [4] [] 2 [.bool r_2] [] zF (ar ([yU a_1.Head,yU b_1.Head]:List AV) (ac (rfl:([]:List zW)=[]) (ac (zDE F a_1.Head b_1.Head r_1 h_1:zV prog 35 [] [] [yU a_1.Head,yU b_1.Head] [] (.bool r_1)) (ac zH (ac zH (ac zH (ac zH (ac zH (ar ([.sl false 4 (Mp zA a_1.Parts),.sl false 4 (Mp zA b_1.Parts)]:List AV) (ac (rfl:([]:List zW)=[]) (ac (zFL F a_1.Parts b_1.Parts r_2 h_2:zV prog 36 [] [] [.sl false 4 (Mp zA a_1.Parts),.sl false 4 (Mp zA b_1.Parts)] [] (.bool r_2)) (ac zH an)))))))))))) ?_
   cases h
   exact ⟨rfl,(sw [] [] [.s 4] [] an)⟩
  ·replace h:=zQ zH h
   refine rg [(4,{ av:=.bool r_1,l:=[yU a_1.Head,yU b_1.Head] }),(6,Hg),(7,Hg),(8,Hg),(9,Hg),(10,Hg),(11,Hf)] [4] [] 2 [.bool false] [] zF (ar ([yU a_1.Head,yU b_1.Head]:List AV) (ac (rfl:([]:List zW)=[]) (ac (zDE F a_1.Head b_1.Head r_1 h_1:zV prog 35 [] [] [yU a_1.Head,yU b_1.Head] [] (.bool r_1)) (ac zH (ac zH (ac zH (ac zH (ac zH (ac zH an))))))))) ?_
   cases h
   exact ⟨rfl,(sw [] [] [.s 4] [] an)⟩
 refine rt ?_
 cases h
 exact ⟨.inr rfl,Nat.le_of_ble_eq_true rfl,by kernel_rfl⟩
theorem zAq (F:Nat) (l_1:zM) (r:Int) (h:pX F l_1=some r):zV prog 15 [] [] [z4 l_1] [] (Ii r):=by
 refine yG (fn:=Go.Proofs.Try.f15) (code:=xC Go.Proofs.Try.f15) (by kernel_rfl) (by kernel_rfl) (Nat.le_of_ble_eq_true (by kernel_rfl)) ?_
 unfold pX at h
 refine sr [(0,{ id:=0 })] [1] [0] 1 [Pp 0] [Vb 31 (yB l_1)] zF an ?_
 refine sq ?_
 obtain ⟨r_1,h_1,h⟩:=bind_some h
 refine rg [(4,{ av:=.tuple [z4 r_1.1,Ii r_1.2],l:=[yU l_1.Head,.sl false 4 (Mp zA l_1.Parts)] }),(8,{ id:=1 })] [1,3,4] [0,1] 2 [Pp 0,Pp 1,Ii r_1.2] [Vb 31 (yB l_1),Vb 31 (yB r_1.1)] zF (ar ([yU l_1.Head,.sl false 4 (Mp zA l_1.Parts)]:List AV) (ac (rfl:([]:List zW)=[]) (ac (zNE F l_1.Head l_1.Parts r_1 h_1:zV prog 11 [] [] [yU l_1.Head,.sl false 4 (Mp zA l_1.Parts)] [] (.tuple [z4 r_1.1,Ii r_1.2])) an))) ?_
 refine sq ?_
 refine sr [] [1,3,4,14] [0,1] 2 [Pp 0,Pp 1,Ii r_1.2,.bool (r_1.2 != (0:Int))] [Vb 31 (yB l_1),Vb 31 (yB r_1.1)] zF an ?_
 refine cd 14 (r_1.2 != (0:Int)) ?_ ?_
 ·intro g_1;replace h:=zR g_1 h
  refine sr [] [2] [] 2 [Ii r_1.2] [] zF an ?_
  refine rt ?_
  cases h
  exact ⟨.inr rfl,Nat.le_of_ble_eq_true rfl,by kernel_rfl⟩
 intro g_1;replace h:=zQ g_1 h
 refine sk ?_
 refine sq ?_
 refine sq ?_
 obtain ⟨r_2,h_2,h⟩:=bind_some h
 refine rg [(2,{ av:=.bool r_2,l:=[z4 r_1.1,z4 l_1] })] [19] [] 2 [.bool (!r_2)] [] zF (ar ([z4 r_1.1,z4 l_1]:List AV) (ac (rfl:([]:List zW)=[]) (ac (zGm F r_1.1 l_1 r_2 h_2:zV prog 12 [] [] [z4 r_1.1,z4 l_1] [] (.bool r_2)) an))) ?_
 refine cd 19 (!r_2) ?_ ?_
 ·intro g_2;replace h:=zR g_2 h
  refine sr [] [2] [] 2 [Ii 10] [] zF an ?_
  refine rt ?_
  cases h
  exact ⟨.inr rfl,Nat.le_of_ble_eq_true rfl,by kernel_rfl⟩
 intro g_2;replace h:=zQ g_2 h
 refine sk ?_
 refine sr [] [2] [] 2 [Ii 0] [] zF an ?_
 refine rt ?_
 cases h
 exact ⟨.inr rfl,Nat.le_of_ble_eq_true rfl,by kernel_rfl⟩
theorem zL8 (F:Nat) (l_1:zM) (yM:z6) (r:zI×Bool) (h:zD9 F l_1 yM=some r):zV prog 17 [] [] [z4 l_1,yA yM] [] (.tuple [zD r.1,.bool r.2]):=by
 refine yG (fn:=Go.Proofs.Try.f17) (code:=xC Go.Proofs.Try.f17) (by kernel_rfl) (by kernel_rfl) (Nat.le_of_ble_eq_true (by kernel_rfl)) ?_
 unfold zD9 at h
 refine sr [(0,{ id:=0 }),(1,{ id:=1 }),(2,{ id:=2 })] [2,3,4] [0,1,2] 3 [Pp 0,Pp 1,Pp 2] [Vb 31 (yB l_1),Vb 37 (xZ yM),Vb 42 [Ii 0,Ii 0,.str ([]:List Int),Ii 0,Ii 0,.nilsl]] zF an ?_
 refine sq ?_
 refine sq ?_
 obtain ⟨r_1,h_1,h⟩:=bind_some h
 refine rg [(1,{ av:=Ii r_1,l:=[z4 l_1] })] [2,3,4,10] [0,1,2] 3 [Pp 0,Pp 1,Pp 2,.bool (r_1 != (0:Int))] [Vb 31 (yB l_1),Vb 37 (xZ yM),Vb 42 [Ii 0,Ii 0,.str ([]:List Int),Ii 0,Ii 0,.nilsl]] zF (ar ([z4 l_1]:List AV) (ac (rfl:([]:List zW)=[]) (ac (zAq F l_1 r_1 h_1:zV prog 15 [] [] [z4 l_1] [] (Ii r_1)) an))) ?_
 refine cd 10 (r_1 != (0:Int)) ?_ ?_
 ·intro g_1;replace h:=zR g_1 h
  refine sr [] [4,5] [2] 3 [Pp 2,.bool false] [Vb 42 [Ii 0,Ii 0,.str ([]:List Int),Ii 0,Ii 0,.nilsl]] zF an ?_
  refine wk [2] [] [.s 4,.s 5] [.a 0 (Vb 42 (zT (⟨(0:Int),(0:Int),([]:List Int),(0:Int),(0:Int),[]⟩:zI)))] [(4,Pp 0),(5,.bool false)] [(0,Vb 42 (zT (⟨(0:Int),(0:Int),([]:List Int),(0:Int),(0:Int),[]⟩:zI)))] (ar 42 (ac (rfl:v7 [Ii ((⟨(0:Int),(0:Int),([]:List Int),(0:Int),(0:Int),[]⟩:zI).At),Ii ((⟨(0:Int),(0:Int),([]:List Int),(0:Int),(0:Int),[]⟩:zI).Kind),.str ((⟨(0:Int),(0:Int),([]:List Int),(0:Int),(0:Int),[]⟩:zI).Name),Ii ((⟨(0:Int),(0:Int),([]:List Int),(0:Int),(0:Int),[]⟩:zI).N),Ii ((⟨(0:Int),(0:Int),([]:List Int),(0:Int),(0:Int),[]⟩:zI).M),.sl false 1 (Ms ((⟨(0:Int),(0:Int),([]:List Int),(0:Int),(0:Int),[]⟩:zI).Stack))]=true) (ac (rfl:(Ii 0:AV)=Ii ((⟨(0:Int),(0:Int),([]:List Int),(0:Int),(0:Int),[]⟩:zI).At)) (ac (rfl:(Ii 0:AV)=Ii ((⟨(0:Int),(0:Int),([]:List Int),(0:Int),(0:Int),[]⟩:zI).Kind)) (ac (rfl:(.str ([]:List Int):AV)=.str ((⟨(0:Int),(0:Int),([]:List Int),(0:Int),(0:Int),[]⟩:zI).Name)) (ac (rfl:(Ii 0:AV)=Ii ((⟨(0:Int),(0:Int),([]:List Int),(0:Int),(0:Int),[]⟩:zI).N)) (ac (rfl:(Ii 0:AV)=Ii ((⟨(0:Int),(0:Int),([]:List Int),(0:Int),(0:Int),[]⟩:zI).M)) (ac (rfl:((Ms ((⟨(0:Int),(0:Int),([]:List Int),(0:Int),(0:Int),[]⟩:zI).Stack)):List AV)=[]) an)))))))) ?_
  refine rt ?_
  cases h
  exact ⟨.inr rfl,Nat.le_of_ble_eq_true rfl,by kernel_rfl⟩
 intro g_1;replace h:=zQ g_1 h
 refine sk ?_
 refine sq ?_
 refine sr [] [2,3,4,6] [0,1,2] 3 [Pp 0,Pp 1,Pp 2,Ii 0] [Vb 31 (yB l_1),Vb 37 (xZ yM),Vb 42 [Ii 0,Ii 0,.str ([]:List Int),Ii 0,Ii 0,.nilsl]] zF an ?_
 obtain ⟨o_1,h_2,h⟩:=bind_some h
 refine wI (K1:=(fun e st'=>match o_1 with | (.inl q0)=>e=.normal∧Sub 0 st' (mk [(4,Pp 0)] [(0,Vb 42 [Ii 0,Ii 0,.str ([]:List Int),Ii 0,Ii 0,.nilsl])] 1) | (.inr q1)=>e=.ret∧uE prog Go.Proofs.Try.f17 0 [] (.tuple [zD q1.1,.bool q1.2]) st')) ?_ ?_
 ·replace h:=h_2
  refine yD (id:=0) (by kernel_rfl) ?_
  refine wk [0,1,2] [] [.s 2,.s 3,.s 4,.s 6] [.s 0,.s 1,.s 2] [(2,Pp 0),(3,Pp 1),(4,Pp 2),(6,Ii 0)] [(0,Vb 31 (yB l_1)),(1,Vb 37 (xZ yM)),(2,Vb 42 [Ii 0,Ii 0,.str ([]:List Int),Ii 0,Ii 0,.nilsl])] an ?_
  refine xI (fun n st=>∃ (i_1:Int),st=mk [(2,Pp 0),(3,Pp 1),(4,Pp 2),(6,Ii i_1)] [(0,Vb 31 (yB l_1)),(1,Vb 37 (xZ yM)),(2,Vb 42 [Ii 0,Ii 0,.str ([]:List Int),Ii 0,Ii 0,.nilsl])] 3∧zBJ F l_1 yM n i_1=some o_1) F (by kernel_rfl) ⟨_,rfl,h⟩ ?_ ?_
  ·rintro _ ⟨_,_,h⟩;exact xN (h:(none:Option (Unit⊕(zI×Bool)))=some o_1)
  rintro n_1 _ ⟨i_1,rfl,h⟩
  replace h:kE F l_1 yM (zBJ F l_1 yM n_1) i_1=some o_1:=h
  unfold kE at h
  refine sq ?_
  refine sr [(3,{ n:=(l_1.Parts).length })] [2,3,4,6,16] [0,1,2] 3 [Pp 0,Pp 1,Pp 2,Ii i_1,.bool (decide (i_1<(lN (l_1.Parts))))] [Vb 31 (yB l_1),Vb 37 (xZ yM),Vb 42 [Ii 0,Ii 0,.str ([]:List Int),Ii 0,Ii 0,.nilsl]] zF (ac (yF _:((Mp zA l_1.Parts)).length=(l_1.Parts).length) an) ?_
  refine cd 16 (decide (i_1<(lN (l_1.Parts)))) ?_ ?_
  rotate_left
  ·intro g_2;replace h:=zQ g_2 h
   refine xM (id:=0) (by kernel_rfl) ?_
   cases h
   exact ⟨rfl,(sw [2] [] [.s 4] [.s 0] an)⟩
  intro g_2;replace h:=zR g_2 h
  refine sk ?_
  refine sq ?_
  refine yD (id:=1) (by kernel_rfl) ?_
  refine sq ?_
  obtain ⟨x_1,h_3,h⟩:=bind_some h
  refine rg [(3,{ av:=zA x_1 }),(5,{ id:=3 })] [2,3,4,6,7] [0,1,2,3] 4 [Pp 0,Pp 1,Pp 2,Ii i_1,Pp 3] [Vb 31 (yB l_1),Vb 37 (xZ yM),Vb 42 [Ii 0,Ii 0,.str ([]:List Int),Ii 0,Ii 0,.nilsl],Vb 59 (zX x_1)] zF (ac (yR h_3:xJ (Mp zA l_1.Parts) i_1=some (zA x_1)) an) ?_
  refine sq ?_
  refine y4 (mk [(2,Pp 0),(3,Pp 1),(4,Pp 2),(6,Ii i_1),(7,Pp 3),(46,.bool ((x_1.Thread==yM.Thread)&&(decide (yM.Serial≥x_1.Serial)&&decide (yM.Serial<(zP (x_1.Serial+(lN (x_1.Events))))))))] [(0,Vb 31 (yB l_1)),(1,Vb 37 (xZ yM)),(2,Vb 42 [Ii 0,Ii 0,.str ([]:List Int),Ii 0,Ii 0,.nilsl]),(3,Vb 59 (zX x_1))] 4) ?_ ?_
  ·rcases bft (x_1.Thread==yM.Thread) with yQ | yQ
   ·rcases bft (decide (yM.Serial≥x_1.Serial)) with yS | yS
    ·refine rg [(11,Ht),(19,{ n:=(x_1.Events).length }),(22,Ht)] [2,3,4,6,7,30,31,32,33,34,37,38,39,40,41,42,43,44,45,46] [0,1,2,3] 4 [Pp 0,Pp 1,Pp 2,Ii i_1,Pp 3,.ptr 1 0 0 1,Ii yM.Serial,.ptr 3 0 0 1,Ii x_1.Serial,.bool (decide (yM.Serial≥x_1.Serial)),.ptr 1 0 0 1,Ii yM.Serial,.ptr 3 0 0 1,Ii x_1.Serial,.ptr 3 0 0 3,.sl false 6 (Mp zD x_1.Events),Ii (lN (x_1.Events)),Ii (zP (x_1.Serial+(lN (x_1.Events)))),.bool (decide (yM.Serial<(zP (x_1.Serial+(lN (x_1.Events)))))),.bool (decide (yM.Serial<(zP (x_1.Serial+(lN (x_1.Events))))))] [Vb 31 (yB l_1),Vb 37 (xZ yM),Vb 42 [Ii 0,Ii 0,.str ([]:List Int),Ii 0,Ii 0,.nilsl],Vb 59 (zX x_1)] zF (ac yQ (ac yQ (ac yQ (ac yQ (ac yQ (ac yQ (ac yS (ac yS (ac yS (ac yS (ac yS (ac yS (ac yS (ac (yF _:((Mp zD x_1.Events)).length=(x_1.Events).length) (ac yS (ac yS (ac yS an))))))))))))))))) ?_
     exact ⟨rfl,(sw [0,1,2,3] [] [.s 2,.s 3,.s 4,.s 6,.s 7,.a 46 (.bool ((x_1.Thread==yM.Thread)&&(decide (yM.Serial≥x_1.Serial)&&decide (yM.Serial<(zP (x_1.Serial+(lN (x_1.Events))))))))] [.s 0,.s 1,.s 2,.s 3] (ac (congrArg AV.bool (uO yQ (uO yS rfl)):(.bool (decide (yM.Serial<(zP (x_1.Serial+(lN (x_1.Events)))))):AV)=.bool ((x_1.Thread==yM.Thread)&&(decide (yM.Serial≥x_1.Serial)&&decide (yM.Serial<(zP (x_1.Serial+(lN (x_1.Events)))))))) an))⟩
    ·refine rg [(11,Ht),(13,Hg),(14,Hg),(15,Hg),(16,Hg),(17,Hg),(18,Hg),(19,Hg),(20,Hg),(21,Hg),(22,Hf)] [2,3,4,6,7,30,31,32,33,34,37,38,39,40,41,42,43,44,45,46] [0,1,2,3] 4 [Pp 0,Pp 1,Pp 2,Ii i_1,Pp 3,.ptr 1 0 0 1,Ii yM.Serial,.ptr 3 0 0 1,Ii x_1.Serial,.bool (decide (yM.Serial≥x_1.Serial)),.tuple [],.tuple [],.tuple [],.tuple [],.tuple [],.tuple [],.tuple [],.tuple [],.tuple [],.bool false] [Vb 31 (yB l_1),Vb 37 (xZ yM),Vb 42 [Ii 0,Ii 0,.str ([]:List Int),Ii 0,Ii 0,.nilsl],Vb 59 (zX x_1)] zF (ac yQ (ac yQ (ac yQ (ac yQ (ac yQ (ac yQ (ac yS (ac yS (ac yS (ac yS (ac yS (ac yS (ac yS (ac yS (ac yS (ac yS an)))))))))))))))) ?_
     exact ⟨rfl,(sw [0,1,2,3] [] [.s 2,.s 3,.s 4,.s 6,.s 7,.a 46 (.bool ((x_1.Thread==yM.Thread)&&(decide (yM.Serial≥x_1.Serial)&&decide (yM.Serial<(zP (x_1.Serial+(lN (x_1.Events))))))))] [.s 0,.s 1,.s 2,.s 3] (ac (congrArg AV.bool (uO yQ (j0 yS)):(.bool false:AV)=.bool ((x_1.Thread==yM.Thread)&&(decide (yM.Serial≥x_1.Serial)&&decide (yM.Serial<(zP (x_1.Serial+(lN (x_1.Events)))))))) an))⟩
   ·refine rg [(6,Hg),(7,Hg),(8,Hg),(9,Hg),(10,Hg),(11,Hf),(13,Hg),(14,Hg),(15,Hg),(16,Hg),(17,Hg),(18,Hg),(19,Hg),(20,Hg),(21,Hg),(22,Hf)] [2,3,4,6,7,30,31,32,33,34,37,38,39,40,41,42,43,44,45,46] [0,1,2,3] 4 [Pp 0,Pp 1,Pp 2,Ii i_1,Pp 3,.tuple [],.tuple [],.tuple [],.tuple [],.tuple [],.tuple [],.tuple [],.tuple [],.tuple [],.tuple [],.tuple [],.tuple [],.tuple [],.tuple [],.bool false] [Vb 31 (yB l_1),Vb 37 (xZ yM),Vb 42 [Ii 0,Ii 0,.str ([]:List Int),Ii 0,Ii 0,.nilsl],Vb 59 (zX x_1)] zF (ac yQ (ac yQ (ac yQ (ac yQ (ac yQ (ac yQ (ac (rfl:false=!true) (ac (rfl:false=!true) (ac (rfl:false=!true) (ac (rfl:false=!true) (ac (rfl:false=!true) (ac (rfl:false=!true) (ac (rfl:false=!true) (ac (rfl:false=!true) (ac (rfl:false=!true) (ar false an)))))))))))))))) ?_
    exact ⟨rfl,(sw [0,1,2,3] [] [.s 2,.s 3,.s 4,.s 6,.s 7,.a 46 (.bool ((x_1.Thread==yM.Thread)&&(decide (yM.Serial≥x_1.Serial)&&decide (yM.Serial<(zP (x_1.Serial+(lN (x_1.Events))))))))] [.s 0,.s 1,.s 2,.s 3] (ac (congrArg AV.bool (j0 yQ):(.bool false:AV)=.bool ((x_1.Thread==yM.Thread)&&(decide (yM.Serial≥x_1.Serial)&&decide (yM.Serial<(zP (x_1.Serial+(lN (x_1.Events)))))))) an))⟩
  refine cd 46 ((x_1.Thread==yM.Thread)&&(decide (yM.Serial≥x_1.Serial)&&decide (yM.Serial<(zP (x_1.Serial+(lN (x_1.Events))))))) ?_ ?_
  rotate_left
  ·intro g_3;replace h:=zQ g_3 h
   refine sk ?_
   refine rg [] [2,3,4,6] [0,1,2] 4 [Pp 0,Pp 1,Pp 2,Ii (zP (i_1+(1:Int)))] [Vb 31 (yB l_1),Vb 37 (xZ yM),Vb 42 [Ii 0,Ii 0,.str ([]:List Int),Ii 0,Ii 0,.nilsl]] zF an ?_
   exact ⟨_,(sw [0,1,2] [] [.s 2,.s 3,.s 4,.s 6] [.s 0,.s 1,.s 2] an),_,rfl,h⟩
  intro g_3;replace h:=zR g_3 h
  refine sq ?_
  obtain ⟨x_2,h_4,h⟩:=bind_some h
  refine rg [(7,{ av:=zD x_2 })] [4,5] [2] 4 [Pp 2,.bool true] [Vb 42 (zT x_2)] zF (ac (yR h_4:xJ (Mp zD x_1.Events) (zP (yM.Serial - x_1.Serial))=some (zD x_2)) an) ?_
  refine wk [2] [] [.s 4,.s 5] [.s 0] [(4,Pp 0),(5,.bool true)] [(0,Vb 42 (zT x_2))] an ?_
  refine rt ?_
  cases h
  exact ⟨rfl,Nat.le_of_ble_eq_true rfl,by kernel_rfl⟩
 intro e st1 hk
 rcases o_1 with q_1 | q_2
 rotate_left
 ·obtain ⟨rfl,hf⟩:=hk
  cases h
  exact ⟨st1,Sub.refl _ _,.inr rfl,hf⟩
 obtain ⟨rfl,hs⟩:=hk
 refine ⟨_,hs,?_⟩
 refine sr [] [4,5] [0] 1 [Pp 0,.bool false] [Vb 42 [Ii 0,Ii 0,.str ([]:List Int),Ii 0,Ii 0,.nilsl]] zF an ?_
 refine wk [0] [] [.s 4,.s 5] [.a 0 (Vb 42 (zT (⟨(0:Int),(0:Int),([]:List Int),(0:Int),(0:Int),[]⟩:zI)))] [(4,Pp 0),(5,.bool false)] [(0,Vb 42 (zT (⟨(0:Int),(0:Int),([]:List Int),(0:Int),(0:Int),[]⟩:zI)))] (ar 42 (ac (rfl:v7 [Ii ((⟨(0:Int),(0:Int),([]:List Int),(0:Int),(0:Int),[]⟩:zI).At),Ii ((⟨(0:Int),(0:Int),([]:List Int),(0:Int),(0:Int),[]⟩:zI).Kind),.str ((⟨(0:Int),(0:Int),([]:List Int),(0:Int),(0:Int),[]⟩:zI).Name),Ii ((⟨(0:Int),(0:Int),([]:List Int),(0:Int),(0:Int),[]⟩:zI).N),Ii ((⟨(0:Int),(0:Int),([]:List Int),(0:Int),(0:Int),[]⟩:zI).M),.sl false 1 (Ms ((⟨(0:Int),(0:Int),([]:List Int),(0:Int),(0:Int),[]⟩:zI).Stack))]=true) (ac (rfl:(Ii 0:AV)=Ii ((⟨(0:Int),(0:Int),([]:List Int),(0:Int),(0:Int),[]⟩:zI).At)) (ac (rfl:(Ii 0:AV)=Ii ((⟨(0:Int),(0:Int),([]:List Int),(0:Int),(0:Int),[]⟩:zI).Kind)) (ac (rfl:(.str ([]:List Int):AV)=.str ((⟨(0:Int),(0:Int),([]:List Int),(0:Int),(0:Int),[]⟩:zI).Name)) (ac (rfl:(Ii 0:AV)=Ii ((⟨(0:Int),(0:Int),([]:List Int),(0:Int),(0:Int),[]⟩:zI).N)) (ac (rfl:(Ii 0:AV)=Ii ((⟨(0:Int),(0:Int),([]:List Int),(0:Int),(0:Int),[]⟩:zI).M)) (ac (rfl:((Ms ((⟨(0:Int),(0:Int),([]:List Int),(0:Int),(0:Int),[]⟩:zI).Stack)):List AV)=[]) an)))))))) ?_
 refine rt ?_
 cases h
 exact ⟨.inr rfl,Nat.le_of_ble_eq_true rfl,by kernel_rfl⟩
theorem zLz (F:Nat) (l_1:zM) (r:(List (yC))) (h:zC8 F l_1=some r):zV prog 19 [] [] [z4 l_1] [.row 50 3 (Mp z9 r)] (.own 0 ((r).length)):=by
 refine yG (fn:=Go.Proofs.Try.f19) (code:=xC Go.Proofs.Try.f19) (by kernel_rfl) (by kernel_rfl) (Nat.le_of_ble_eq_true (by kernel_rfl)) ?_
 unfold zC8 at h
 refine sr [(0,{ id:=0 }),(1,{ id:=1,m:=1 })] [1] [0] 2 [Pp 0] [Vb 31 (yB l_1)] zF an ?_
 refine sq ?_
 refine sq ?_
 obtain ⟨r_1,h_1,h⟩:=bind_some h
 refine rg [(1,{ av:=Ii r_1,l:=[z4 l_1] })] [1,8] [0] 2 [Pp 0,.bool (r_1 != (0:Int))] [Vb 31 (yB l_1)] zF (ar ([z4 l_1]:List AV) (ac (rfl:([]:List zW)=[]) (ac (zAq F l_1 r_1 h_1:zV prog 15 [] [] [z4 l_1] [] (Ii r_1)) an))) ?_
 refine cd 8 (r_1 != (0:Int)) ?_ ?_
 ·intro g_1;replace h:=zR g_1 h
  refine sr [(0,{ id:=2,m:=1 })] [2] [2] 3 [.own 2 0] [Rb 50 3 []] zF an ?_
  refine wk [2] [] [.a 2 (.own 0 ((([]:List yC)).length))] [.s 0] [(2,.own 0 ((([]:List yC)).length))] [(0,Rb 50 3 [])] (ac (congrArg (AV.own _) (by first | (simp;done) | (simp;omega)):(.own 2 0:AV)=.own 2 ((([]:List yC)).length)) an) ?_
  refine rt ?_
  cases h
  exact ⟨.inr rfl,Nat.le_of_ble_eq_true rfl,by kernel_rfl⟩
 intro g_1;replace h:=zQ g_1 h
 refine sk ?_
 refine sr [(0,{ id:=2,m:=1 })] [1,3] [0,2] 3 [Pp 0,.own 2 0] [Vb 31 (yB l_1),Rb 50 3 []] zF an ?_
 refine sq ?_
 refine sr [] [1,3,4] [0,2] 3 [Pp 0,.own 2 0,Ii 0] [Vb 31 (yB l_1),Rb 50 3 []] zF an ?_
 obtain ⟨o_1,h_2,h⟩:=bind_some h
 refine y4 (mk [(3,.own 0 ((o_1).length))] [(0,Rb 50 3 (Mp z9 o_1))] 1) ?_ ?_
 ·replace h:=h_2
  refine yD (id:=0) (by kernel_rfl) ?_
  refine wk [0,2] [] [.s 1,.s 3,.s 4] [.s 0,.s 1] [(1,Pp 0),(3,.own 1 0),(4,Ii 0)] [(0,Vb 31 (yB l_1)),(1,Rb 50 3 [])] an ?_
  refine xI (fun n st=>∃ (i_1:Int),∃ (zE:List yC),st=mk [(1,Pp 0),(3,.own 1 ((zE).length)),(4,Ii i_1)] [(0,Vb 31 (yB l_1)),(1,Rb 50 3 (Mp z9 zE))] 2∧zAL F l_1 n i_1 zE=some o_1) F (by kernel_rfl) ⟨_,_,rfl,h⟩ ?_ ?_
  ·rintro _ ⟨_,_,_,h⟩;exact xN (h:(none:Option (List yC))=some o_1)
  rintro n_1 _ ⟨i_1,zE,rfl,h⟩
  replace h:j4 F l_1 (zAL F l_1 n_1) i_1 zE=some o_1:=h
  unfold j4 at h
  refine sq ?_
  refine sr [(3,{ n:=(l_1.Parts).length })] [1,3,4,13] [0,1] 2 [Pp 0,.own 1 ((zE).length),Ii i_1,.bool (decide (i_1<(lN (l_1.Parts))))] [Vb 31 (yB l_1),Rb 50 3 (Mp z9 zE)] zF (ac (yF _:((Mp zA l_1.Parts)).length=(l_1.Parts).length) an) ?_
  refine cd 13 (decide (i_1<(lN (l_1.Parts)))) ?_ ?_
  rotate_left
  ·intro g_2;replace h:=zQ g_2 h
   refine xM (id:=0) (by kernel_rfl) ?_
   cases h
   exact ⟨rfl,(sw [1] [] [.s 3] [.s 0] an)⟩
  intro g_2;replace h:=zR g_2 h
  refine sk ?_
  refine sq ?_
  obtain ⟨o_2,h_3,h⟩:=bind_some h
  refine y4 (mk [(1,Pp 0),(3,.own 1 ((o_2).length)),(4,Ii i_1)] [(0,Vb 31 (yB l_1)),(1,Rb 50 3 (Mp z9 o_2))] 2) ?_ ?_
  ·replace h:=h_3
   refine yD (id:=1) (by kernel_rfl) ?_
   refine sq ?_
   obtain ⟨x_1,h_4,h⟩:=bind_some h
   refine rg [(3,{ av:=zA x_1 }),(5,{ id:=2 })] [1,3,4,5] [0,1,2] 3 [Pp 0,.own 1 ((zE).length),Ii i_1,Pp 2] [Vb 31 (yB l_1),Rb 50 3 (Mp z9 zE),Vb 59 (zX x_1)] zF (ac (yR h_4:xJ (Mp zA l_1.Parts) i_1=some (zA x_1)) an) ?_
   refine sr [] [1,3,4,5,23] [0,1,2] 3 [Pp 0,.own 1 ((zE).length),Ii i_1,Pp 2,.bool (decide (x_1.Lost>(0:Int)))] [Vb 31 (yB l_1),Rb 50 3 (Mp z9 zE),Vb 59 (zX x_1)] zF an ?_
   refine cd 23 (decide (x_1.Lost>(0:Int))) ?_ ?_
   rotate_left
   ·intro g_3;replace h:=zQ g_3 h
    refine sk ?_
    cases h
    exact ⟨rfl,(sw [0,1] [] [.s 1,.s 3,.s 4] [.s 0,.s 1] an)⟩
   intro g_3;replace h:=zR g_3 h
   obtain ⟨_,h_5,h⟩:=bind_some h;replace h_5:=wK h_5
   refine rg [(11,{ id:=3 }),(12,{ id:=4,l:=(Mp z9 (zE++([(⟨x_1.Thread,zP (x_1.Serial - x_1.Lost),x_1.Lost⟩:yC)]:List yC))),n:=((zE++([(⟨x_1.Thread,zP (x_1.Serial - x_1.Lost),x_1.Lost⟩:yC)]:List yC))).length })] [1,3,4] [0,4] 5 [Pp 0,.own 4 (((zE++([(⟨x_1.Thread,zP (x_1.Serial - x_1.Lost),x_1.Lost⟩:yC)]:List yC))).length),Ii i_1] [Vb 31 (yB l_1),Rb 50 3 (Mp z9 (zE++([(⟨x_1.Thread,zP (x_1.Serial - x_1.Lost),x_1.Lost⟩:yC)]:List yC)))] zF (ac (by first | (simp;done) | (simp;omega):(zE).length=((List.map z9 zE)).length) (ac (by first | (simp;done) | (simp;omega):1=((List.map z9 ([(⟨x_1.Thread,zP (x_1.Serial - x_1.Lost),x_1.Lost⟩:yC)]:List yC))).length) (ac (zBD _ _:(Mp z9 (zE++([(⟨x_1.Thread,zP (x_1.Serial - x_1.Lost),x_1.Lost⟩:yC)]:List yC)))=(Mp z9 zE)++(Mp z9 ([(⟨x_1.Thread,zP (x_1.Serial - x_1.Lost),x_1.Lost⟩:yC)]:List yC))) (ac (by simp:((zE++([(⟨x_1.Thread,zP (x_1.Serial - x_1.Lost),x_1.Lost⟩:yC)]:List yC))).length=((List.map z9 (zE++([(⟨x_1.Thread,zP (x_1.Serial - x_1.Lost),x_1.Lost⟩:yC)]:List yC)))).length) (ac (by first | (simp;done) | simpa using h_5:(((List.map z9 zE):List AV).length+((List.map z9 ([(⟨x_1.Thread,zP (x_1.Serial - x_1.Lost),x_1.Lost⟩:yC)]:List yC)):List AV).length) * 24≤140737488355328) an))))) ?_
   cases h
   exact ⟨rfl,(sw [0,4] [] [.s 1,.s 3,.s 4] [.s 0,.s 1] an)⟩
  refine rg [] [1,3,4] [0,1] 2 [Pp 0,.own 1 ((o_2).length),Ii (zP (i_1+(1:Int)))] [Vb 31 (yB l_1),Rb 50 3 (Mp z9 o_2)] zF an ?_
  exact ⟨_,(sw [0,1] [] [.s 1,.s 3,.s 4] [.s 0,.s 1] an),_,_,rfl,h⟩
 refine sr [] [2] [0] 1 [.own 0 ((o_1).length)] [Rb 50 3 (Mp z9 o_1)] zF an ?_
 refine wk [0] [] [.s 2] [.s 0] [(2,.own 0 ((o_1).length))] [(0,Rb 50 3 (Mp z9 o_1))] an ?_
 refine rt ?_
 cases h
 exact ⟨.inr rfl,Nat.le_of_ble_eq_true rfl,by kernel_rfl⟩
theorem zMD (F:Nat) (l_1:zM) (r:(List (z6))) (h:zC0 F l_1=some r):zV prog 20 [] [] [z4 l_1] [.row 37 2 (Mp yA r)] (.own 0 ((r).length)):=by
 refine yG (fn:=Go.Proofs.Try.f20) (code:=xC Go.Proofs.Try.f20) (by kernel_rfl) (by kernel_rfl) (Nat.le_of_ble_eq_true (by kernel_rfl)) ?_
 unfold zC0 at h
 refine sr [(0,{ id:=0 }),(1,{ id:=1,m:=1 })] [1] [0] 2 [Pp 0] [Vb 31 (yB l_1)] zF an ?_
 refine sq ?_
 refine sq ?_
 obtain ⟨r_1,h_1,h⟩:=bind_some h
 refine rg [(1,{ av:=Ii r_1,l:=[z4 l_1] })] [1,9] [0] 2 [Pp 0,.bool (r_1 != (0:Int))] [Vb 31 (yB l_1)] zF (ar ([z4 l_1]:List AV) (ac (rfl:([]:List zW)=[]) (ac (pU F l_1 r_1 h_1:zV prog 14 [] [] [z4 l_1] [] (Ii r_1)) an))) ?_
 refine cd 9 (r_1 != (0:Int)) ?_ ?_
 ·intro g_1;replace h:=zR g_1 h
  refine sr [(0,{ id:=2,m:=1 })] [2] [2] 3 [.own 2 0] [Rb 37 2 []] zF an ?_
  refine wk [2] [] [.a 2 (.own 0 ((([]:List z6)).length))] [.s 0] [(2,.own 0 ((([]:List z6)).length))] [(0,Rb 37 2 [])] (ac (congrArg (AV.own _) (by first | (simp;done) | (simp;omega)):(.own 2 0:AV)=.own 2 ((([]:List z6)).length)) an) ?_
  refine rt ?_
  cases h
  exact ⟨.inr rfl,Nat.le_of_ble_eq_true rfl,by kernel_rfl⟩
 intro g_1;replace h:=zQ g_1 h
 refine sk ?_
 refine sr [(0,{ id:=2,m:=1 })] [1,3] [0,2] 3 [Pp 0,.own 2 0] [Vb 31 (yB l_1),Rb 37 2 []] zF an ?_
 refine sq ?_
 refine sr [(2,{ n:=(l_1.Parts).length })] [3,11,12,13] [2] 3 [.own 2 0,.sl false 4 (Mp zA l_1.Parts),Ii (lN (l_1.Parts)),Ii 0] [Rb 37 2 []] zF (ac (yF _:((Mp zA l_1.Parts)).length=(l_1.Parts).length) an) ?_
 obtain ⟨o_1,h_2,h⟩:=bind_some h
 refine y4 (mk [(3,.own 0 ((o_1).length))] [(0,Rb 37 2 (Mp yA o_1))] 1) ?_ ?_
 ·replace h:=h_2
  refine yD (id:=0) (by kernel_rfl) ?_
  refine wk [2] [] [.s 3,.s 11,.s 12,.s 13] [.s 0] [(3,.own 0 0),(11,.sl false 4 (Mp zA l_1.Parts)),(12,Ii (lN (l_1.Parts))),(13,Ii 0)] [(0,Rb 37 2 [])] an ?_
  refine xI (fun n st=>∃ (v_1:Int),∃ (zE:List z6),st=mk [(3,.own 0 ((zE).length)),(11,.sl false 4 (Mp zA l_1.Parts)),(12,Ii (lN (l_1.Parts))),(13,Ii v_1)] [(0,Rb 37 2 (Mp yA zE))] 1∧nI F l_1 n v_1 zE=some o_1) F (by kernel_rfl) ⟨_,_,rfl,h⟩ ?_ ?_
  ·rintro _ ⟨_,_,_,h⟩;exact xN (h:(none:Option (List z6))=some o_1)
  rintro n_1 _ ⟨v_1,zE,rfl,h⟩
  replace h:qG F l_1 (nI F l_1 n_1) v_1 zE=some o_1:=h
  unfold qG at h
  refine sr [] [3,11,12,13,14] [0] 1 [.own 0 ((zE).length),.sl false 4 (Mp zA l_1.Parts),Ii (lN (l_1.Parts)),Ii v_1,.bool (decide (v_1<(lN (l_1.Parts))))] [Rb 37 2 (Mp yA zE)] zF an ?_
  refine sq ?_
  refine cd 14 (decide (v_1<(lN (l_1.Parts)))) ?_ ?_
  rotate_left
  ·intro g_2;replace h:=zQ g_2 h
   refine xM (id:=0) (by kernel_rfl) ?_
   cases h
   exact ⟨rfl,(sw [0] [] [.s 3] [.s 0] an)⟩
  intro g_2;replace h:=zR g_2 h
  refine sk ?_
  refine sq ?_
  refine yD (id:=1) (by kernel_rfl) ?_
  refine sq ?_
  obtain ⟨x_1,h_3,h⟩:=bind_some h
  refine rg [(0,{ av:=zA x_1 }),(2,{ id:=1 })] [3,5,11,12,13] [0,1] 2 [.own 0 ((zE).length),Pp 1,.sl false 4 (Mp zA l_1.Parts),Ii (lN (l_1.Parts)),Ii v_1] [Rb 37 2 (Mp yA zE),Vb 59 (zX x_1)] zF (ac (yR h_3:xJ (Mp zA l_1.Parts) v_1=some (zA x_1)) an) ?_
  refine sr [(2,{ n:=(x_1.Events).length })] [3,5,11,12,13,19,20] [0,1] 2 [.own 0 ((zE).length),Pp 1,.sl false 4 (Mp zA l_1.Parts),Ii (lN (l_1.Parts)),Ii v_1,Ii (lN (x_1.Events)),Ii 0] [Rb 37 2 (Mp yA zE),Vb 59 (zX x_1)] zF (ac (yF _:((Mp zD x_1.Events)).length=(x_1.Events).length) an) ?_
  obtain ⟨o_2,h_4,h⟩:=bind_some h
  refine y4 (mk [(3,.own 0 ((o_2).length)),(11,.sl false 4 (Mp zA l_1.Parts)),(12,Ii (lN (l_1.Parts))),(13,Ii v_1)] [(0,Rb 37 2 (Mp yA o_2))] 1) ?_ ?_
  ·replace h:=h_4
   refine yD (id:=2) (by kernel_rfl) ?_
   refine wk [0,1] [] [.s 3,.s 5,.s 11,.s 12,.s 13,.s 19,.s 20] [.s 0,.s 1] [(3,.own 0 ((zE).length)),(5,Pp 1),(11,.sl false 4 (Mp zA l_1.Parts)),(12,Ii (lN (l_1.Parts))),(13,Ii v_1),(19,Ii (lN (x_1.Events))),(20,Ii 0)] [(0,Rb 37 2 (Mp yA zE)),(1,Vb 59 (zX x_1))] an ?_
   refine xI (fun n st=>∃ (v_2:Int),∃ (zY:List z6),st=mk [(3,.own 0 ((zY).length)),(5,Pp 1),(11,.sl false 4 (Mp zA l_1.Parts)),(12,Ii (lN (l_1.Parts))),(13,Ii v_1),(19,Ii (lN (x_1.Events))),(20,Ii v_2)] [(0,Rb 37 2 (Mp yA zY)),(1,Vb 59 (zX x_1))] 2∧nJ F x_1 n v_2 zY=some o_2) F (by kernel_rfl) ⟨_,_,rfl,h⟩ ?_ ?_
   ·rintro _ ⟨_,_,_,h⟩;exact xN (h:(none:Option (List z6))=some o_2)
   rintro n_2 _ ⟨v_2,zY,rfl,h⟩
   replace h:qF F x_1 (nJ F x_1 n_2) v_2 zY=some o_2:=h
   unfold qF at h
   refine sr [] [3,5,11,12,13,19,20,21] [0,1] 2 [.own 0 ((zY).length),Pp 1,.sl false 4 (Mp zA l_1.Parts),Ii (lN (l_1.Parts)),Ii v_1,Ii (lN (x_1.Events)),Ii v_2,.bool (decide (v_2<(lN (x_1.Events))))] [Rb 37 2 (Mp yA zY),Vb 59 (zX x_1)] zF an ?_
   refine sq ?_
   refine cd 21 (decide (v_2<(lN (x_1.Events)))) ?_ ?_
   rotate_left
   ·intro g_3;replace h:=zQ g_3 h
    refine xM (id:=2) (by kernel_rfl) ?_
    cases h
    exact ⟨rfl,(sw [0] [] [.s 3,.s 11,.s 12,.s 13] [.s 0] an)⟩
   intro g_3;replace h:=zR g_3 h
   refine sk ?_
   refine sq ?_
   refine yD (id:=3) (by kernel_rfl) ?_
   refine sr [] [3,5,6,11,12,13,19,20] [0,1] 2 [.own 0 ((zY).length),Pp 1,Ii v_2,.sl false 4 (Mp zA l_1.Parts),Ii (lN (l_1.Parts)),Ii v_1,Ii (lN (x_1.Events)),Ii v_2] [Rb 37 2 (Mp yA zY),Vb 59 (zX x_1)] zF an ?_
   obtain ⟨_,h_5,h⟩:=bind_some h;replace h_5:=wK h_5
   refine rg [(8,{ id:=2 }),(9,{ id:=3,l:=(Mp yA (zY++([(⟨x_1.Thread,zP (x_1.Serial+v_2)⟩:z6)]:List z6))),n:=((zY++([(⟨x_1.Thread,zP (x_1.Serial+v_2)⟩:z6)]:List z6))).length })] [3,5,11,12,13,19,20] [1,3] 4 [.own 3 (((zY++([(⟨x_1.Thread,zP (x_1.Serial+v_2)⟩:z6)]:List z6))).length),Pp 1,.sl false 4 (Mp zA l_1.Parts),Ii (lN (l_1.Parts)),Ii v_1,Ii (lN (x_1.Events)),Ii v_2] [Vb 59 (zX x_1),Rb 37 2 (Mp yA (zY++([(⟨x_1.Thread,zP (x_1.Serial+v_2)⟩:z6)]:List z6)))] zF (ac (by first | (simp;done) | (simp;omega):(zY).length=((List.map yA zY)).length) (ac (by first | (simp;done) | (simp;omega):1=((List.map yA ([(⟨x_1.Thread,zP (x_1.Serial+v_2)⟩:z6)]:List z6))).length) (ac (zBD _ _:(Mp yA (zY++([(⟨x_1.Thread,zP (x_1.Serial+v_2)⟩:z6)]:List z6)))=(Mp yA zY)++(Mp yA ([(⟨x_1.Thread,zP (x_1.Serial+v_2)⟩:z6)]:List z6))) (ac (by simp:((zY++([(⟨x_1.Thread,zP (x_1.Serial+v_2)⟩:z6)]:List z6))).length=((List.map yA (zY++([(⟨x_1.Thread,zP (x_1.Serial+v_2)⟩:z6)]:List z6)))).length) (ac (by first | (simp;done) | simpa using h_5:(((List.map yA zY):List AV).length+((List.map yA ([(⟨x_1.Thread,zP (x_1.Serial+v_2)⟩:z6)]:List z6)):List AV).length) * 16≤140737488355328) an))))) ?_
   refine rg [] [3,5,11,12,13,19,20] [1,3] 4 [.own 3 (((zY++([(⟨x_1.Thread,zP (x_1.Serial+v_2)⟩:z6)]:List z6))).length),Pp 1,.sl false 4 (Mp zA l_1.Parts),Ii (lN (l_1.Parts)),Ii v_1,Ii (lN (x_1.Events)),Ii (zP (v_2+(1:Int)))] [Vb 59 (zX x_1),Rb 37 2 (Mp yA (zY++([(⟨x_1.Thread,zP (x_1.Serial+v_2)⟩:z6)]:List z6)))] zF an ?_
   exact ⟨_,(sw [3,1] [] [.s 3,.s 5,.s 11,.s 12,.s 13,.s 19,.s 20] [.s 0,.s 1] an),_,_,rfl,h⟩
  refine rg [] [3,11,12,13] [0] 1 [.own 0 ((o_2).length),.sl false 4 (Mp zA l_1.Parts),Ii (lN (l_1.Parts)),Ii (zP (v_1+(1:Int)))] [Rb 37 2 (Mp yA o_2)] zF an ?_
  exact ⟨_,(sw [0] [] [.s 3,.s 11,.s 12,.s 13] [.s 0] an),_,_,rfl,h⟩
 refine sr [] [2] [0] 1 [.own 0 ((o_1).length)] [Rb 37 2 (Mp yA o_1)] zF an ?_
 refine wk [0] [] [.s 2] [.s 0] [(2,.own 0 ((o_1).length))] [(0,Rb 37 2 (Mp yA o_1))] an ?_
 refine rt ?_
 cases h
 exact ⟨.inr rfl,Nat.le_of_ble_eq_true rfl,by kernel_rfl⟩
theorem zMU (F:Nat) (l_1:zM) (r:(List (z6))) (h:zEk F l_1=some r):zV prog 21 [] [] [z4 l_1] [.row 37 2 (Mp yA r)] (.own 0 ((r).length)):=by
 refine yG (fn:=Go.Proofs.Try.f21) (code:=xC Go.Proofs.Try.f21) (by kernel_rfl) (by kernel_rfl) (Nat.le_of_ble_eq_true (by kernel_rfl)) ?_
 unfold zEk at h
 refine sr [(0,{ id:=0 }),(1,{ id:=1,m:=1 })] [1] [0] 2 [Pp 0] [Vb 31 (yB l_1)] zF an ?_
 refine sq ?_
 refine sq ?_
 obtain ⟨r_1,h_1,h⟩:=bind_some h
 refine rg [(1,{ av:=Ii r_1,l:=[z4 l_1] })] [1,8] [0] 2 [Pp 0,.bool (r_1 != (0:Int))] [Vb 31 (yB l_1)] zF (ar ([z4 l_1]:List AV) (ac (rfl:([]:List zW)=[]) (ac (zAq F l_1 r_1 h_1:zV prog 15 [] [] [z4 l_1] [] (Ii r_1)) an))) ?_
 refine cd 8 (r_1 != (0:Int)) ?_ ?_
 ·intro g_1;replace h:=zR g_1 h
  refine sr [(0,{ id:=2,m:=1 })] [2] [2] 3 [.own 2 0] [Rb 37 2 []] zF an ?_
  refine wk [2] [] [.a 2 (.own 0 ((([]:List z6)).length))] [.s 0] [(2,.own 0 ((([]:List z6)).length))] [(0,Rb 37 2 [])] (ac (congrArg (AV.own _) (by first | (simp;done) | (simp;omega)):(.own 2 0:AV)=.own 2 ((([]:List z6)).length)) an) ?_
  refine rt ?_
  cases h
  exact ⟨.inr rfl,Nat.le_of_ble_eq_true rfl,by kernel_rfl⟩
 intro g_1;replace h:=zQ g_1 h
 refine sk ?_
 refine sr [(0,{ id:=2,m:=1 })] [1,3] [0,2] 3 [Pp 0,.own 2 0] [Vb 31 (yB l_1),Rb 37 2 []] zF an ?_
 refine sq ?_
 refine sr [] [1,3,4] [0,2] 3 [Pp 0,.own 2 0,Ii 0] [Vb 31 (yB l_1),Rb 37 2 []] zF an ?_
 obtain ⟨o_1,h_2,h⟩:=bind_some h
 refine y4 (mk [(3,.own 0 ((o_1).length))] [(0,Rb 37 2 (Mp yA o_1))] 1) ?_ ?_
 ·replace h:=h_2
  refine yD (id:=0) (by kernel_rfl) ?_
  refine wk [0,2] [] [.s 1,.s 3,.s 4] [.s 0,.s 1] [(1,Pp 0),(3,.own 1 0),(4,Ii 0)] [(0,Vb 31 (yB l_1)),(1,Rb 37 2 [])] an ?_
  refine xI (fun n st=>∃ (i_1:Int),∃ (zE:List z6),st=mk [(1,Pp 0),(3,.own 1 ((zE).length)),(4,Ii i_1)] [(0,Vb 31 (yB l_1)),(1,Rb 37 2 (Mp yA zE))] 2∧zBN F l_1 n i_1 zE=some o_1) F (by kernel_rfl) ⟨_,_,rfl,h⟩ ?_ ?_
  ·rintro _ ⟨_,_,_,h⟩;exact xN (h:(none:Option (List z6))=some o_1)
  rintro n_1 _ ⟨i_1,zE,rfl,h⟩
  replace h:kM F l_1 (zBN F l_1 n_1) i_1 zE=some o_1:=h
  unfold kM at h
  refine sq ?_
  refine sr [(3,{ n:=(l_1.Parts).length })] [1,3,4,13] [0,1] 2 [Pp 0,.own 1 ((zE).length),Ii i_1,.bool (decide (i_1<(lN (l_1.Parts))))] [Vb 31 (yB l_1),Rb 37 2 (Mp yA zE)] zF (ac (yF _:((Mp zA l_1.Parts)).length=(l_1.Parts).length) an) ?_
  refine cd 13 (decide (i_1<(lN (l_1.Parts)))) ?_ ?_
  rotate_left
  ·intro g_2;replace h:=zQ g_2 h
   refine xM (id:=0) (by kernel_rfl) ?_
   cases h
   exact ⟨rfl,(sw [1] [] [.s 3] [.s 0] an)⟩
  intro g_2;replace h:=zR g_2 h
  refine sk ?_
  refine sq ?_
  refine yD (id:=1) (by kernel_rfl) ?_
  refine sr [] [1,3,4,5] [0,1] 2 [Pp 0,.own 1 ((zE).length),Ii i_1,Ii 0] [Vb 31 (yB l_1),Rb 37 2 (Mp yA zE)] zF an ?_
  obtain ⟨o_2,h_3,h⟩:=bind_some h
  refine y4 (mk [(1,Pp 0),(3,.own 1 ((o_2).length)),(4,Ii i_1)] [(0,Vb 31 (yB l_1)),(1,Rb 37 2 (Mp yA o_2))] 2) ?_ ?_
  ·replace h:=h_3
   refine yD (id:=2) (by kernel_rfl) ?_
   refine wk [0,1] [] [.s 1,.s 3,.s 4,.s 5] [.s 0,.s 1] [(1,Pp 0),(3,.own 1 ((zE).length)),(4,Ii i_1),(5,Ii 0)] [(0,Vb 31 (yB l_1)),(1,Rb 37 2 (Mp yA zE))] an ?_
   refine xI (fun n st=>∃ (k_1:Int),∃ (zY:List z6),st=mk [(1,Pp 0),(3,.own 1 ((zY).length)),(4,Ii i_1),(5,Ii k_1)] [(0,Vb 31 (yB l_1)),(1,Rb 37 2 (Mp yA zY))] 2∧zBG F l_1 i_1 n k_1 zY=some o_2) F (by kernel_rfl) ⟨_,_,rfl,h⟩ ?_ ?_
   ·rintro _ ⟨_,_,_,h⟩;exact xN (h:(none:Option (List z6))=some o_2)
   rintro n_2 _ ⟨k_1,zY,rfl,h⟩
   replace h:kH F l_1 i_1 (zBG F l_1 i_1 n_2) k_1 zY=some o_2:=h
   unfold kH at h
   refine sq ?_
   refine sq ?_
   obtain ⟨x_1,h_4,h⟩:=bind_some h
   refine rg [(4,{ av:=zA x_1 }),(7,{ n:=(x_1.Events).length })] [1,3,4,5,24] [0,1] 2 [Pp 0,.own 1 ((zY).length),Ii i_1,Ii k_1,.bool (decide (k_1<(lN (x_1.Events))))] [Vb 31 (yB l_1),Rb 37 2 (Mp yA zY)] zF (ac (yR h_4:xJ (Mp zA l_1.Parts) i_1=some (zA x_1)) (ac (yF _:((Mp zD x_1.Events)).length=(x_1.Events).length) an)) ?_
   refine cd 24 (decide (k_1<(lN (x_1.Events)))) ?_ ?_
   rotate_left
   ·intro g_3;replace h:=zQ g_3 h
    refine xM (id:=2) (by kernel_rfl) ?_
    cases h
    exact ⟨rfl,(sw [0,1] [] [.s 1,.s 3,.s 4] [.s 0,.s 1] an)⟩
   intro g_3;replace h:=zR g_3 h
   refine sk ?_
   refine sq ?_
   refine yD (id:=3) (by kernel_rfl) ?_
   obtain ⟨x_2,h_5,h⟩:=bind_some h
   obtain ⟨x_3,h_6,h⟩:=bind_some h
   obtain ⟨_,h_7,h⟩:=bind_some h;replace h_7:=wK h_7
   refine rg [(4,{ av:=zA x_2 }),(10,{ av:=zA x_3 }),(16,{ id:=2 }),(17,{ id:=3,l:=(Mp yA (zY++([(⟨x_2.Thread,zP (x_3.Serial+k_1)⟩:z6)]:List z6))),n:=((zY++([(⟨x_2.Thread,zP (x_3.Serial+k_1)⟩:z6)]:List z6))).length })] [1,3,4,5] [0,3] 4 [Pp 0,.own 3 (((zY++([(⟨x_2.Thread,zP (x_3.Serial+k_1)⟩:z6)]:List z6))).length),Ii i_1,Ii k_1] [Vb 31 (yB l_1),Rb 37 2 (Mp yA (zY++([(⟨x_2.Thread,zP (x_3.Serial+k_1)⟩:z6)]:List z6)))] zF (ac (yR h_5:xJ (Mp zA l_1.Parts) i_1=some (zA x_2)) (ac (yR h_6:xJ (Mp zA l_1.Parts) i_1=some (zA x_3)) (ac (by first | (simp;done) | (simp;omega):(zY).length=((List.map yA zY)).length) (ac (by first | (simp;done) | (simp;omega):1=((List.map yA ([(⟨x_2.Thread,zP (x_3.Serial+k_1)⟩:z6)]:List z6))).length) (ac (zBD _ _:(Mp yA (zY++([(⟨x_2.Thread,zP (x_3.Serial+k_1)⟩:z6)]:List z6)))=(Mp yA zY)++(Mp yA ([(⟨x_2.Thread,zP (x_3.Serial+k_1)⟩:z6)]:List z6))) (ac (by simp:((zY++([(⟨x_2.Thread,zP (x_3.Serial+k_1)⟩:z6)]:List z6))).length=((List.map yA (zY++([(⟨x_2.Thread,zP (x_3.Serial+k_1)⟩:z6)]:List z6)))).length) (ac (by first | (simp;done) | simpa using h_7:(((List.map yA zY):List AV).length+((List.map yA ([(⟨x_2.Thread,zP (x_3.Serial+k_1)⟩:z6)]:List z6)):List AV).length) * 16≤140737488355328) an))))))) ?_
   refine rg [] [1,3,4,5] [0,3] 4 [Pp 0,.own 3 (((zY++([(⟨x_2.Thread,zP (x_3.Serial+k_1)⟩:z6)]:List z6))).length),Ii i_1,Ii (zP (k_1+(1:Int)))] [Vb 31 (yB l_1),Rb 37 2 (Mp yA (zY++([(⟨x_2.Thread,zP (x_3.Serial+k_1)⟩:z6)]:List z6)))] zF an ?_
   exact ⟨_,(sw [0,3] [] [.s 1,.s 3,.s 4,.s 5] [.s 0,.s 1] an),_,_,rfl,h⟩
  refine rg [] [1,3,4] [0,1] 2 [Pp 0,.own 1 ((o_2).length),Ii (zP (i_1+(1:Int)))] [Vb 31 (yB l_1),Rb 37 2 (Mp yA o_2)] zF an ?_
  exact ⟨_,(sw [0,1] [] [.s 1,.s 3,.s 4] [.s 0,.s 1] an),_,_,rfl,h⟩
 refine sr [] [2] [0] 1 [.own 0 ((o_1).length)] [Rb 37 2 (Mp yA o_1)] zF an ?_
 refine wk [0] [] [.s 2] [.s 0] [(2,.own 0 ((o_1).length))] [(0,Rb 37 2 (Mp yA o_1))] an ?_
 refine rt ?_
 cases h
 exact ⟨.inr rfl,Nat.le_of_ble_eq_true rfl,by kernel_rfl⟩
end Go.Ab
