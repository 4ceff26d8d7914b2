/- Printed: the typed Lean functions of the Go functions, or the proofs that the Go functions meet them. No conditions but those that the theorems name. -/
import Derived.Test.YtbifmbdcejggkaaP16x2
namespace Go.Ab
open Go
set_option linter.unusedVariables false
theorem zIW (F:Nat) (z4:Int) (l_1:List (zB)) (r:(List (zB))) (h:zBW F z4 l_1=some r):zW prog 34 [] [] [Ii z4,.sl false 4 (Mp zA l_1)] [] (.sl false 4 (Mp zA r)):=by
 refine yA (fn:=Go.Proofs.Try.f34) (code:=xC Go.Proofs.Try.f34) (by kernel_rfl) (by kernel_rfl) (Nat.le_of_ble_eq_true (by kernel_rfl)) ?_
 unfold zBW at h
 refine sr [] [0,1] [] 0 [Ii z4,.sl false 4 (Mp zA l_1)] [] zG an ?_
 refine sr [(0,{ id:=0,m:=1 })] [0,1,5] [0] 1 [Ii z4,.sl false 4 (Mp zA l_1),.own 0 0] [Rb 59 4 []] zG an ?_
 refine uI (zKA (e:=59) (sz:=4) 0 1 42 6 (z5 (lst ([]:List zB))++[.own 1 ((lst ([]:List zB)).Events).length]) (by kernel_rfl)) ?_
 refine wk [0,1] [] [.s 0,.s 1,.a 5 (.own 0 ((([]:List zB)).length))] [.s 0,.s 1] [(0,Ii z4),(1,.sl false 4 (Mp zA l_1)),(5,.own 0 ((([]:List zB)).length))] [(0,.live (.rowQ 59 4 (Mp zA (ini ([]:List zB))) (!(([]:List zB)).isEmpty) (z5 (lst ([]:List zB))++[.own 1 ((lst ([]:List zB)).Events).length]))),(1,Rb 42 6 (Mp zD (lst ([]:List zB)).Events))] (ac (congrArg (AV.own _) (by first | (simp;done) | (simp;omega)):(.own 0 0:AV)=.own 0 ((([]:List zB)).length)) an) ?_
 refine sq ?_
 refine sr [] [0,1,5,6] [0,1] 2 [Ii z4,.sl false 4 (Mp zA l_1),.own 0 ((([]:List zB)).length),Ii 0] [.live (.rowQ 59 4 (Mp zA (ini ([]:List zB))) (!(([]:List zB)).isEmpty) (z5 (lst ([]:List zB))++[.own 1 ((lst ([]:List zB)).Events).length])),Rb 42 6 (Mp zD (lst ([]:List zB)).Events)] zG an ?_
 obtain ⟨o_1,h_1,h⟩:=bind_some h
 refine y9 (mk [(5,.own 0 ((o_1).length))] [(0,.live (.rowQ 59 4 (Mp zA (ini o_1)) (!(o_1).isEmpty) (z5 (lst o_1)++[.own 1 ((lst o_1).Events).length]))),(1,Rb 42 6 (Mp zD (lst o_1).Events))] 2) ?_ ?_
 ·replace h:=h_1
  refine yC (id:=0) (by kernel_rfl) ?_
  refine wk [0,1] [] [.s 0,.s 1,.s 5,.s 6] [.s 0,.s 1] [(0,Ii z4),(1,.sl false 4 (Mp zA l_1)),(5,.own 0 ((([]:List zB)).length)),(6,Ii 0)] [(0,.live (.rowQ 59 4 (Mp zA (ini ([]:List zB))) (!(([]:List zB)).isEmpty) (z5 (lst ([]:List zB))++[.own 1 ((lst ([]:List zB)).Events).length]))),(1,Rb 42 6 (Mp zD (lst ([]:List zB)).Events))] an ?_
  refine xH (fun n st=>∃ (i_1:Int),∃ (zE:List zB),st=mk [(0,Ii z4),(1,.sl false 4 (Mp zA l_1)),(5,.own 0 ((zE).length)),(6,Ii i_1)] [(0,.live (.rowQ 59 4 (Mp zA (ini zE)) (!(zE).isEmpty) (z5 (lst zE)++[.own 1 ((lst zE).Events).length]))),(1,Rb 42 6 (Mp zD (lst zE).Events))] 2∧kW F z4 l_1 n i_1 zE=some o_1) F (by kernel_rfl) ⟨_,_,rfl,h⟩ ?_ ?_
  ·rintro _ ⟨_,_,_,h⟩;exact xX (h:(none:Option (List zB))=some o_1)
  rintro n_1 _ ⟨i_1,zE,rfl,h⟩
  replace h:qZ F z4 l_1 (kW F z4 l_1 n_1) i_1 zE=some o_1:=h
  unfold qZ at h
  refine sq ?_
  refine sr [(2,{ n:=(l_1).length })] [0,1,5,6,13] [0,1] 2 [Ii z4,.sl false 4 (Mp zA l_1),.own 0 ((zE).length),Ii i_1,.bool (decide (i_1<(lN (l_1))))] [.live (.rowQ 59 4 (Mp zA (ini zE)) (!(zE).isEmpty) (z5 (lst zE)++[.own 1 ((lst zE).Events).length])),Rb 42 6 (Mp zD (lst zE).Events)] zG (ac (z9 _:((Mp zA l_1)).length=(l_1).length) an) ?_
  refine cd 13 (decide (i_1<(lN (l_1)))) ?_ ?_
  rotate_left
  ·intro g_1;replace h:=zO g_1 h
   refine xS (id:=0) (by kernel_rfl) ?_
   cases h
   exact ⟨rfl,(sw [0,1] [] [.s 5] [.s 0,.s 1] an)⟩
  intro g_1;replace h:=zP g_1 h
  refine sk ?_
  refine sq ?_
  obtain ⟨o_2,h_2,h⟩:=bind_some h
  refine y9 (mk [(0,Ii z4),(1,.sl false 4 (Mp zA l_1)),(5,.own 0 ((o_2).length)),(6,Ii i_1)] [(0,.live (.rowQ 59 4 (Mp zA (ini o_2)) (!(o_2).isEmpty) (z5 (lst o_2)++[.own 1 ((lst o_2).Events).length]))),(1,Rb 42 6 (Mp zD (lst o_2).Events))] 2) ?_ ?_
  ·replace h:=h_2
   refine yC (id:=1) (by kernel_rfl) ?_
   refine sq ?_
   refine sq ?_
   obtain ⟨x_1,h_3,h⟩:=bind_some h
   refine rg [(2,{ av:=zA x_1 })] [0,1,5,6,22] [0,1] 2 [Ii z4,.sl false 4 (Mp zA l_1),.own 0 ((zE).length),Ii i_1,.bool (x_1.Thread != z4)] [.live (.rowQ 59 4 (Mp zA (ini zE)) (!(zE).isEmpty) (z5 (lst zE)++[.own 1 ((lst zE).Events).length])),Rb 42 6 (Mp zD (lst zE).Events)] zG (ac (yP h_3:xG (Mp zA l_1) i_1=some (zA x_1)) an) ?_
   refine cd 22 (x_1.Thread != z4) ?_ ?_
   ·intro g_2;replace h:=zP g_2 h
    refine xS (id:=1) (by kernel_rfl) ?_
    cases h
    exact ⟨rfl,(sw [0,1] [] [.s 0,.s 1,.s 5,.s 6] [.s 0,.s 1] an)⟩
   intro g_2;replace h:=zO g_2 h
   refine sk ?_
   refine sr [] [0,1,5,6,7] [0,1] 2 [Ii z4,.sl false 4 (Mp zA l_1),.own 0 ((zE).length),Ii i_1,Ii 0] [.live (.rowQ 59 4 (Mp zA (ini zE)) (!(zE).isEmpty) (z5 (lst zE)++[.own 1 ((lst zE).Events).length])),Rb 42 6 (Mp zD (lst zE).Events)] zG an ?_
   obtain ⟨o_3,h_4,h⟩:=bind_some h
   refine y9 (mk [(0,Ii z4),(1,.sl false 4 (Mp zA l_1)),(5,.own 0 ((o_3).length)),(6,Ii i_1)] [(0,.live (.rowQ 59 4 (Mp zA (ini o_3)) (!(o_3).isEmpty) (z5 (lst o_3)++[.own 1 ((lst o_3).Events).length]))),(1,Rb 42 6 (Mp zD (lst o_3).Events))] 2) ?_ ?_
   ·replace h:=h_4
    refine yC (id:=2) (by kernel_rfl) ?_
    refine wk [0,1] [] [.s 0,.s 1,.s 5,.s 6,.s 7] [.s 0,.s 1] [(0,Ii z4),(1,.sl false 4 (Mp zA l_1)),(5,.own 0 ((zE).length)),(6,Ii i_1),(7,Ii 0)] [(0,.live (.rowQ 59 4 (Mp zA (ini zE)) (!(zE).isEmpty) (z5 (lst zE)++[.own 1 ((lst zE).Events).length]))),(1,Rb 42 6 (Mp zD (lst zE).Events))] an ?_
    refine xH (fun n st=>∃ (k_1:Int),∃ (z6:List zB),st=mk [(0,Ii z4),(1,.sl false 4 (Mp zA l_1)),(5,.own 0 ((z6).length)),(6,Ii i_1),(7,Ii k_1)] [(0,.live (.rowQ 59 4 (Mp zA (ini z6)) (!(z6).isEmpty) (z5 (lst z6)++[.own 1 ((lst z6).Events).length]))),(1,Rb 42 6 (Mp zD (lst z6).Events))] 2∧kG F z4 l_1 i_1 n k_1 z6=some o_3) F (by kernel_rfl) ⟨_,_,rfl,h⟩ ?_ ?_
    ·rintro _ ⟨_,_,_,h⟩;exact xX (h:(none:Option (List zB))=some o_3)
    rintro n_2 _ ⟨k_1,z6,rfl,h⟩
    replace h:u9 F z4 l_1 i_1 (kG F z4 l_1 i_1 n_2) k_1 z6=some o_3:=h
    unfold u9 at h
    refine sq ?_
    refine sq ?_
    obtain ⟨x_2,h_5,h⟩:=bind_some h
    refine rg [(3,{ av:=zA x_2 }),(6,{ n:=(x_2.Events).length })] [0,1,5,6,7,30] [0,1] 2 [Ii z4,.sl false 4 (Mp zA l_1),.own 0 ((z6).length),Ii i_1,Ii k_1,.bool (decide (k_1<(lN (x_2.Events))))] [.live (.rowQ 59 4 (Mp zA (ini z6)) (!(z6).isEmpty) (z5 (lst z6)++[.own 1 ((lst z6).Events).length])),Rb 42 6 (Mp zD (lst z6).Events)] zG (ac (yP h_5:xG (Mp zA l_1) i_1=some (zA x_2)) (ac (z9 _:((Mp zD x_2.Events)).length=(x_2.Events).length) an)) ?_
    refine cd 30 (decide (k_1<(lN (x_2.Events)))) ?_ ?_
    rotate_left
    ·intro g_3;replace h:=zO g_3 h
     refine xS (id:=2) (by kernel_rfl) ?_
     cases h
     exact ⟨rfl,(sw [0,1] [] [.s 0,.s 1,.s 5,.s 6] [.s 0,.s 1] an)⟩
    intro g_3;replace h:=zP g_3 h
    refine sk ?_
    refine sq ?_
    obtain ⟨o_4,h_6,h⟩:=bind_some h
    refine y9 (mk [(0,Ii z4),(1,.sl false 4 (Mp zA l_1)),(5,.own 0 ((o_4).length)),(6,Ii i_1),(7,Ii k_1)] [(0,.live (.rowQ 59 4 (Mp zA (ini o_4)) (!(o_4).isEmpty) (z5 (lst o_4)++[.own 1 ((lst o_4).Events).length]))),(1,Rb 42 6 (Mp zD (lst o_4).Events))] 2) ?_ ?_
    ·replace h:=h_6
     refine yC (id:=3) (by kernel_rfl) ?_
     refine sr [] [0,1,5,6,7,8] [0,1] 2 [Ii z4,.sl false 4 (Mp zA l_1),.own 0 ((z6).length),Ii i_1,Ii k_1,Ii 0] [.live (.rowQ 59 4 (Mp zA (ini z6)) (!(z6).isEmpty) (z5 (lst z6)++[.own 1 ((lst z6).Events).length])),Rb 42 6 (Mp zD (lst z6).Events)] zG an ?_
     refine sq ?_
     refine sr [] [0,1,5,6,7,8,34] [0,1] 2 [Ii z4,.sl false 4 (Mp zA l_1),.own 0 ((z6).length),Ii i_1,Ii k_1,Ii 0,.bool (k_1==(0:Int))] [.live (.rowQ 59 4 (Mp zA (ini z6)) (!(z6).isEmpty) (z5 (lst z6)++[.own 1 ((lst z6).Events).length])),Rb 42 6 (Mp zD (lst z6).Events)] zG an ?_
     obtain ⟨o_5,h_7,h⟩:=bind_some h
     refine y9 (mk [(0,Ii z4),(1,.sl false 4 (Mp zA l_1)),(5,.own 0 ((z6).length)),(6,Ii i_1),(7,Ii k_1),(8,Ii o_5)] [(0,.live (.rowQ 59 4 (Mp zA (ini z6)) (!(z6).isEmpty) (z5 (lst z6)++[.own 1 ((lst z6).Events).length]))),(1,Rb 42 6 (Mp zD (lst z6).Events))] 2) ?_ ?_
     ·replace h:=h_7
      refine cd 34 (k_1==(0:Int)) ?_ ?_
      rotate_left
      ·intro g_4;replace h:=zO g_4 h
       refine sk ?_
       cases h
       exact ⟨rfl,(sw [0,1] [] [.s 0,.s 1,.s 5,.s 6,.s 7,.s 8] [.s 0,.s 1] an)⟩
      intro g_4;replace h:=zP g_4 h
      obtain ⟨x_3,h_8,h⟩:=bind_some h
      refine rg [(2,{ av:=zA x_3 })] [0,1,5,6,7,8] [0,1] 2 [Ii z4,.sl false 4 (Mp zA l_1),.own 0 ((z6).length),Ii i_1,Ii k_1,Ii x_3.Lost] [.live (.rowQ 59 4 (Mp zA (ini z6)) (!(z6).isEmpty) (z5 (lst z6)++[.own 1 ((lst z6).Events).length])),Rb 42 6 (Mp zD (lst z6).Events)] zG (ac (yP h_8:xG (Mp zA l_1) i_1=some (zA x_3)) an) ?_
      cases h
      exact ⟨rfl,(sw [0,1] [] [.s 0,.s 1,.s 5,.s 6,.s 7,.s 8] [.s 0,.s 1] an)⟩
     refine sr [] [0,1,5,6,7,8,9] [0,1] 2 [Ii z4,.sl false 4 (Mp zA l_1),.own 0 ((z6).length),Ii i_1,Ii k_1,Ii o_5,Ii (lN (z6))] [.live (.rowQ 59 4 (Mp zA (ini z6)) (!(z6).isEmpty) (z5 (lst z6)++[.own 1 ((lst z6).Events).length])),Rb 42 6 (Mp zD (lst z6).Events)] zG an ?_
     refine sq ?_
     refine sq ?_
     obtain ⟨p_1,tX,h⟩:=bind_some h
     refine y9 (mk [(0,Ii z4),(1,.sl false 4 (Mp zA l_1)),(5,.own 0 ((z6).length)),(6,Ii i_1),(7,Ii k_1),(8,Ii o_5),(9,Ii (lN (z6))),(57,.bool p_1)] [(0,.live (.rowQ 59 4 (Mp zA (ini z6)) (!(z6).isEmpty) (z5 (lst z6)++[.own 1 ((lst z6).Events).length]))),(1,Rb 42 6 (Mp zD (lst z6).Events))] 2) ?_ ?_
     ·replace h:=tX
      rcases bft ((lN (z6))==(0:Int)) with zAx | zAx
      ·replace h:=zP zAx h
       refine rg [(3,Hg),(4,Hg),(5,Ht),(7,Hg),(8,Hg),(9,Hg),(10,Hg),(11,Hg),(12,Hg),(13,Hg),(14,Hg),(15,Ht)] [0,1,5,6,7,8,9,45,46,49,50,51,52,53,54,55,56,57] [0,1] 2 [Ii z4,.sl false 4 (Mp zA l_1),.own 0 ((z6).length),Ii i_1,Ii k_1,Ii o_5,Ii (lN (z6)),.tuple [],.tuple [],.tuple [],.tuple [],.tuple [],.tuple [],.tuple [],.tuple [],.tuple [],.tuple [],.bool true] [.live (.rowQ 59 4 (Mp zA (ini z6)) (!(z6).isEmpty) (z5 (lst z6)++[.own 1 ((lst z6).Events).length])),Rb 42 6 (Mp zD (lst z6).Events)] zG (ac zAx (ac zAx (ac zAx (ax (ax (ax (ax (ax (ax (ax (ax (ar true an)))))))))))) ?_
       cases h
       exact ⟨rfl,(sw [0,1] [] [.s 0,.s 1,.s 5,.s 6,.s 7,.s 8,.s 9,.s 57] [.s 0,.s 1] an)⟩
      ·replace h:=zO zAx h
       rcases bft (decide (o_5>(0:Int))) with qG | qG
       ·replace h:=zP qG h
        refine rg [(5,Hf),(7,Hg),(8,Hg),(9,Hg),(10,Hg),(11,Hg),(12,Hg),(13,Hg),(14,Hg),(15,Ht)] [0,1,5,6,7,8,9,45,46,49,50,51,52,53,54,55,56,57] [0,1] 2 [Ii z4,.sl false 4 (Mp zA l_1),.own 0 ((z6).length),Ii i_1,Ii k_1,Ii o_5,Ii (lN (z6)),Ii o_5,.bool (decide (o_5>(0:Int))),.tuple [],.tuple [],.tuple [],.tuple [],.tuple [],.tuple [],.tuple [],.tuple [],.bool true] [.live (.rowQ 59 4 (Mp zA (ini z6)) (!(z6).isEmpty) (z5 (lst z6)++[.own 1 ((lst z6).Events).length])),Rb 42 6 (Mp zD (lst z6).Events)] zG (ac zAx (ac zAx (ac zAx (ac qG (ac qG (ac qG (ac qG (ac qG (ac qG (ac qG (ac qG (ac qG an)))))))))))) ?_
        cases h
        exact ⟨rfl,(sw [0,1] [] [.s 0,.s 1,.s 5,.s 6,.s 7,.s 8,.s 9,.s 57] [.s 0,.s 1] an)⟩
       ·replace h:=zO qG h
        obtain ⟨_,h_9,h⟩:=bind_some h;replace h_9:=wN h_9
        obtain ⟨_,tW,h⟩:=bind_some h;replace tW:=wN tW
        refine rg [(5,Hf),(12,{ x:=true }),(15,Hf)] [0,1,5,6,7,8,9,45,46,49,50,51,52,53,54,55,56,57] [0,1] 2 [Ii z4,.sl false 4 (Mp zA l_1),.own 0 ((z6).length),Ii i_1,Ii k_1,Ii o_5,Ii (lN (z6)),Ii o_5,.bool (decide (o_5>(0:Int))),.own 0 ((z6).length),Ii (lN (z6)),Ii (zR ((lN (z6)) - (1:Int))),.ptr 0 4 ((zR ((lN (z6)) - (1:Int))).toNat) 0,.ptr 0 4 ((zR ((lN (z6)) - (1:Int))).toNat) 3,.own 1 (((lst z6).Events).length),Ii (lN ((lst z6).Events)),.bool ((lN ((lst z6).Events))==(1000:Int)),.bool ((lN ((lst z6).Events))==(1000:Int))] [.live (.rowQ 59 4 (Mp zA (ini z6)) (!(z6).isEmpty) (z5 (lst z6)++[.own 1 ((lst z6).Events).length])),Rb 42 6 (Mp zD (lst z6).Events)] zG (ac zAx (ac zAx (ac zAx (ac qG (ac qG (ac qG (ac qG (ac h_9.1 (ac h_9.2 (ac qG (ac qG (ac (zDY _ tW:(zR ((lN (z6)) - (1:Int))).toNat=(Mp zA (ini z6)).length) (ac (zA4 (Nat.lt_of_lt_of_eq (Nat.succ_pos _) tW):(!(z6).isEmpty)=true) (ac qG (ac qG (ac qG an)))))))))))))))) ?_
        cases h
        exact ⟨rfl,(sw [0,1] [] [.s 0,.s 1,.s 5,.s 6,.s 7,.s 8,.s 9,.s 57] [.s 0,.s 1] an)⟩
     obtain ⟨o_6,zCQ,h⟩:=bind_some h
     refine y9 (mk [(0,Ii z4),(1,.sl false 4 (Mp zA l_1)),(5,.own 0 ((o_6.2).length)),(6,Ii i_1),(7,Ii k_1),(9,Ii o_6.1)] [(0,.live (.rowQ 59 4 (Mp zA (ini o_6.2)) (!(o_6.2).isEmpty) (z5 (lst o_6.2)++[.own 1 ((lst o_6.2).Events).length]))),(1,Rb 42 6 (Mp zD (lst o_6.2).Events))] 2) ?_ ?_
     ·replace h:=zCQ
      refine cd 57 p_1 ?_ ?_
      rotate_left
      ·intro g_5;replace h:=zO g_5 h
       refine sk ?_
       cases h
       exact ⟨rfl,(sw [0,1] [] [.s 0,.s 1,.s 5,.s 6,.s 7,.s 9] [.s 0,.s 1] an)⟩
      intro g_5;replace h:=zP g_5 h
      refine sq ?_
      refine uI (zD0 (e:=59) (sz:=4) 0 1 (Mp zA z6) (by kernel_rfl) (ac ((List.length_map _).symm:((lst z6).Events).length=(Mp zD (lst z6).Events:List AV).length) (ac (zEV zA z6 _ rfl:(Mp zA z6:List AV)=List.map zA (ini z6)++bif (!(z6).isEmpty) then [.agg (z5 (lst z6)++[.sl false 6 (Mp zD (lst z6).Events)])] else []) an))) ?_
      refine wk [0] [] [.s 0,.s 1,.s 5,.s 6,.s 7,.s 8,.s 9] [.s 0] [(0,Ii z4),(1,.sl false 4 (Mp zA l_1)),(5,.own 0 ((z6).length)),(6,Ii i_1),(7,Ii k_1),(8,Ii o_5),(9,Ii (lN (z6)))] [(0,Rb 59 4 (Mp zA z6))] an ?_
      obtain ⟨x_4,zGh,h⟩:=bind_some h
      obtain ⟨_,zGi,h⟩:=bind_some h;replace zGi:=wN zGi
      refine rg [(4,{ av:=zA x_4 }),(11,{ id:=1 }),(12,{ id:=2,l:=(Mp zA z6++[.agg [Ii z4,Ii (zR (x_4.Serial+k_1)),Ii o_5,.nilsl]]),n:=((z6).length+1) })] [0,1,5,6,7,9] [2] 3 [Ii z4,.sl false 4 (Mp zA l_1),.own 2 ((z6).length+1),Ii i_1,Ii k_1,Ii (lN (z6))] [Rb 59 4 (Mp zA z6++[.agg [Ii z4,Ii (zR (x_4.Serial+k_1)),Ii o_5,.nilsl]])] zG (ac (yP zGh:xG (Mp zA l_1) i_1=some (zA x_4)) (ac ((List.length_map _).symm:(z6).length=(Mp zA z6).length) (ac (rfl:1=([.agg [Ii z4,Ii (zR (x_4.Serial+k_1)),Ii o_5,.nilsl]]:List AV).length) (ac (rfl:((Mp zA z6++[.agg [Ii z4,Ii (zR (x_4.Serial+k_1)),Ii o_5,.nilsl]]):List AV)=List.map zA z6++[.agg [Ii z4,Ii (zR (x_4.Serial+k_1)),Ii o_5,.nilsl]]) (ac (by simp:((z6).length+1)=((List.map zA z6++[.agg [Ii z4,Ii (zR (x_4.Serial+k_1)),Ii o_5,.nilsl]]):List AV).length) (ac (by rw [List.length_map];exact zGi:((List.map zA z6:List AV).length+([.agg [Ii z4,Ii (zR (x_4.Serial+k_1)),Ii o_5,.nilsl]]:List AV).length) * 48≤140737488355328) an)))))) ?_
      refine uI (zEh (e:=59) (sz:=4) 2 3 42 6 (Mp zA z6) [Ii z4,Ii (zR (x_4.Serial+k_1)),Ii o_5] (by kernel_rfl) (ac (rfl:(Mp zA z6++[.agg [Ii z4,Ii (zR (x_4.Serial+k_1)),Ii o_5,.nilsl]]:List AV)=List.map zA z6++[.agg ([Ii z4,Ii (zR (x_4.Serial+k_1)),Ii o_5]++[.nilsl])]) an)) ?_
      refine wk [2,3] [] [.s 0,.s 1,.a 5 (.own 0 (((z6++[(⟨z4,zR (x_4.Serial+k_1),o_5,[]⟩:zB)])).length)),.s 6,.s 7,.s 9] [.a 0 (.live (.rowQ 59 4 (Mp zA (ini (z6++[(⟨z4,zR (x_4.Serial+k_1),o_5,[]⟩:zB)]))) (!((z6++[(⟨z4,zR (x_4.Serial+k_1),o_5,[]⟩:zB)])).isEmpty) (z5 (lst (z6++[(⟨z4,zR (x_4.Serial+k_1),o_5,[]⟩:zB)]))++[.own 1 ((lst (z6++[(⟨z4,zR (x_4.Serial+k_1),o_5,[]⟩:zB)])).Events).length]))),.a 1 (Rb 42 6 (Mp zD (lst (z6++[(⟨z4,zR (x_4.Serial+k_1),o_5,[]⟩:zB)])).Events))] [(0,Ii z4),(1,.sl false 4 (Mp zA l_1)),(5,.own 0 (((z6++[(⟨z4,zR (x_4.Serial+k_1),o_5,[]⟩:zB)])).length)),(6,Ii i_1),(7,Ii k_1),(9,Ii (lN (z6)))] [(0,.live (.rowQ 59 4 (Mp zA (ini (z6++[(⟨z4,zR (x_4.Serial+k_1),o_5,[]⟩:zB)]))) (!((z6++[(⟨z4,zR (x_4.Serial+k_1),o_5,[]⟩:zB)])).isEmpty) (z5 (lst (z6++[(⟨z4,zR (x_4.Serial+k_1),o_5,[]⟩:zB)]))++[.own 1 ((lst (z6++[(⟨z4,zR (x_4.Serial+k_1),o_5,[]⟩:zB)])).Events).length]))),(1,Rb 42 6 (Mp zD (lst (z6++[(⟨z4,zR (x_4.Serial+k_1),o_5,[]⟩:zB)])).Events))] (ac (congrArg (AV.own _) (by first | (simp;done) | (simp;omega)):(.own 2 ((z6).length+1):AV)=.own 2 (((z6++[(⟨z4,zR (x_4.Serial+k_1),o_5,[]⟩:zB)])).length)) (ar 59 (ar 4 (ac ((congrArg (List.map _) (pY _ _)).symm:((Mp zA z6):List AV)=List.map zA (ini (z6++[(⟨z4,zR (x_4.Serial+k_1),o_5,[]⟩:zB)]))) (ac ((zEE _ _).symm:true=(!((z6++[(⟨z4,zR (x_4.Serial+k_1),o_5,[]⟩:zB)])).isEmpty)) (ac (rfl:vZ (z5 (lst (z6++[(⟨z4,zR (x_4.Serial+k_1),o_5,[]⟩:zB)]))++[.own 3 ((lst (z6++[(⟨z4,zR (x_4.Serial+k_1),o_5,[]⟩:zB)])).Events).length])=true) (ac (by first | (simp only [yV];done) | simp [yV]:(Ii z4:AV)=Ii ((lst (z6++[(⟨z4,zR (x_4.Serial+k_1),o_5,[]⟩:zB)])).Thread)) (ac (by first | (simp only [yV];done) | simp [yV]:(Ii (zR (x_4.Serial+k_1)):AV)=Ii ((lst (z6++[(⟨z4,zR (x_4.Serial+k_1),o_5,[]⟩:zB)])).Serial)) (ac (by first | (simp only [yV];done) | simp [yV]:(Ii o_5:AV)=Ii ((lst (z6++[(⟨z4,zR (x_4.Serial+k_1),o_5,[]⟩:zB)])).Lost)) (ac (congrArg (AV.own _) (by first | (simp only [yV];done) | simp [yV]):(.own 3 0:AV)=.own 3 (((lst (z6++[(⟨z4,zR (x_4.Serial+k_1),o_5,[]⟩:zB)])).Events).length)) (ar 42 (ar 6 (ac (by first | (simp only [yV];done) | simp [yV]:([]:List AV)=List.map zD (lst (z6++[(⟨z4,zR (x_4.Serial+k_1),o_5,[]⟩:zB)])).Events) an))))))))))))) ?_
      refine rg [] [0,1,5,6,7,9] [0,1] 2 [Ii z4,.sl false 4 (Mp zA l_1),.own 0 (((z6++[(⟨z4,zR (x_4.Serial+k_1),o_5,[]⟩:zB)])).length),Ii i_1,Ii k_1,Ii (zR ((lN (z6))+(1:Int)))] [.live (.rowQ 59 4 (Mp zA (ini (z6++[(⟨z4,zR (x_4.Serial+k_1),o_5,[]⟩:zB)]))) (!((z6++[(⟨z4,zR (x_4.Serial+k_1),o_5,[]⟩:zB)])).isEmpty) (z5 (lst (z6++[(⟨z4,zR (x_4.Serial+k_1),o_5,[]⟩:zB)]))++[.own 1 ((lst (z6++[(⟨z4,zR (x_4.Serial+k_1),o_5,[]⟩:zB)])).Events).length])),Rb 42 6 (Mp zD (lst (z6++[(⟨z4,zR (x_4.Serial+k_1),o_5,[]⟩:zB)])).Events)] zG an ?_
      cases h
      exact ⟨rfl,(sw [0,1] [] [.s 0,.s 1,.s 5,.s 6,.s 7,.s 9] [.s 0,.s 1] an)⟩
     obtain ⟨_,zFb,h⟩:=bind_some h;replace zFb:=wN zFb
     obtain ⟨_,h_16,h⟩:=bind_some h;replace h_16:=wN h_16
     obtain ⟨x_5,h_17,h⟩:=bind_some h
     obtain ⟨x_6,h_18,h⟩:=bind_some h
     obtain ⟨_,h_19,h⟩:=bind_some h;replace h_19:=wN h_19
     obtain ⟨_,h_20,h⟩:=bind_some h;replace h_20:=wN h_20
     obtain ⟨_,h_21,h⟩:=bind_some h;replace h_21:=wN h_21
     refine rg [(8,{ x:=true }),(11,{ av:=zA x_5 }),(15,{ av:=zD x_6 }),(17,{ id:=2 }),(18,{ id:=3,l:=(Mp zD (((lst o_6.2).Events)++([x_6]:List zK))),n:=((((lst o_6.2).Events)++([x_6]:List zK))).length }),(21,{ x:=true })] [0,1,5,6,7] [0,3] 4 [Ii z4,.sl false 4 (Mp zA l_1),.own 0 ((o_6.2).length),Ii i_1,Ii k_1] [.live (.rowQ 59 4 (Mp zA (ini o_6.2)) (!(o_6.2).isEmpty) [Ii ((lst o_6.2).Thread),Ii ((lst o_6.2).Serial),Ii ((lst o_6.2).Lost),.own 3 (((((lst o_6.2).Events)++([x_6]:List zK))).length)]),Rb 42 6 (Mp zD (((lst o_6.2).Events)++([x_6]:List zK)))] zG (ac zFb.1 (ac zFb.2 (ac (zDY _ h_16:(zR (o_6.1 - (1:Int))).toNat=(Mp zA (ini o_6.2)).length) (ac (zA4 (Nat.lt_of_lt_of_eq (Nat.succ_pos _) h_16):(!(o_6.2).isEmpty)=true) (ac (yP h_17:xG (Mp zA l_1) i_1=some (zA x_5)) (ac (yP h_18:xG (Mp zD x_5.Events) k_1=some (zD x_6)) (ac (by first | (simp;done) | (simp;omega):((lst o_6.2).Events).length=((List.map zD ((lst o_6.2).Events))).length) (ac (by first | (simp;done) | (simp;omega):1=((List.map zD ([x_6]:List zK))).length) (ac (zDy _ _:(Mp zD (((lst o_6.2).Events)++([x_6]:List zK)))=(Mp zD ((lst o_6.2).Events))++(Mp zD ([x_6]:List zK))) (ac (by simp:((((lst o_6.2).Events)++([x_6]:List zK))).length=((List.map zD (((lst o_6.2).Events)++([x_6]:List zK)))).length) (ac (by first | (simp;done) | simpa using h_19:(((List.map zD ((lst o_6.2).Events)):List AV).length+((List.map zD ([x_6]:List zK)):List AV).length) * 72≤140737488355328) (ac h_20.1 (ac h_20.2 (ac (zDY _ h_21:(zR (o_6.1 - (1:Int))).toNat=(Mp zA (ini o_6.2)).length) (ac (zA4 (Nat.lt_of_lt_of_eq (Nat.succ_pos _) h_21):(!(o_6.2).isEmpty)=true) an))))))))))))))) ?_
     cases h
     exact ⟨rfl,(Sub.trans (zFh [0,3] [] [.s 0,.s 1,.a 5 (.own 0 ((((ini o_6.2)++[(⟨(lst o_6.2).Thread,(lst o_6.2).Serial,(lst o_6.2).Lost,(((lst o_6.2).Events)++([x_6]:List zK))⟩:zB)])).length)),.s 6,.s 7] [.a 0 (.live (.rowQ 59 4 (Mp zA (ini ((ini o_6.2)++[(⟨(lst o_6.2).Thread,(lst o_6.2).Serial,(lst o_6.2).Lost,(((lst o_6.2).Events)++([x_6]:List zK))⟩:zB)]))) (!(((ini o_6.2)++[(⟨(lst o_6.2).Thread,(lst o_6.2).Serial,(lst o_6.2).Lost,(((lst o_6.2).Events)++([x_6]:List zK))⟩:zB)])).isEmpty) (z5 (lst ((ini o_6.2)++[(⟨(lst o_6.2).Thread,(lst o_6.2).Serial,(lst o_6.2).Lost,(((lst o_6.2).Events)++([x_6]:List zK))⟩:zB)]))++[.own 1 ((lst ((ini o_6.2)++[(⟨(lst o_6.2).Thread,(lst o_6.2).Serial,(lst o_6.2).Lost,(((lst o_6.2).Events)++([x_6]:List zK))⟩:zB)])).Events).length]))),.a 1 (Rb 42 6 (Mp zD (lst ((ini o_6.2)++[(⟨(lst o_6.2).Thread,(lst o_6.2).Serial,(lst o_6.2).Lost,(((lst o_6.2).Events)++([x_6]:List zK))⟩:zB)])).Events))] (sl2:=[(0,Ii z4),(1,.sl false 4 (Mp zA l_1)),(5,.own 0 ((((ini o_6.2)++[(⟨(lst o_6.2).Thread,(lst o_6.2).Serial,(lst o_6.2).Lost,(((lst o_6.2).Events)++([x_6]:List zK))⟩:zB)])).length)),(6,Ii i_1),(7,Ii k_1)]) (bx2:=[(0,.live (.rowQ 59 4 (Mp zA (ini ((ini o_6.2)++[(⟨(lst o_6.2).Thread,(lst o_6.2).Serial,(lst o_6.2).Lost,(((lst o_6.2).Events)++([x_6]:List zK))⟩:zB)]))) (!(((ini o_6.2)++[(⟨(lst o_6.2).Thread,(lst o_6.2).Serial,(lst o_6.2).Lost,(((lst o_6.2).Events)++([x_6]:List zK))⟩:zB)])).isEmpty) (z5 (lst ((ini o_6.2)++[(⟨(lst o_6.2).Thread,(lst o_6.2).Serial,(lst o_6.2).Lost,(((lst o_6.2).Events)++([x_6]:List zK))⟩:zB)]))++[.own 1 ((lst ((ini o_6.2)++[(⟨(lst o_6.2).Thread,(lst o_6.2).Serial,(lst o_6.2).Lost,(((lst o_6.2).Events)++([x_6]:List zK))⟩:zB)])).Events).length]))),(1,Rb 42 6 (Mp zD (lst ((ini o_6.2)++[(⟨(lst o_6.2).Thread,(lst o_6.2).Serial,(lst o_6.2).Lost,(((lst o_6.2).Events)++([x_6]:List zK))⟩:zB)])).Events))]) (by kernel_rfl) (ac (congrArg (AV.own _) (zNZ _ h_21).symm:(.own 0 ((o_6.2).length):AV)=.own 0 ((((ini o_6.2)++[(⟨(lst o_6.2).Thread,(lst o_6.2).Serial,(lst o_6.2).Lost,(((lst o_6.2).Events)++([x_6]:List zK))⟩:zB)])).length)) (ar 59 (ar 4 (ac ((congrArg (List.map _) (pY _ _)).symm:((Mp zA (ini o_6.2)):List AV)=List.map zA (ini ((ini o_6.2)++[(⟨(lst o_6.2).Thread,(lst o_6.2).Serial,(lst o_6.2).Lost,(((lst o_6.2).Events)++([x_6]:List zK))⟩:zB)]))) (ac ((zA4 (Nat.lt_of_lt_of_eq (Nat.succ_pos _) h_21)).trans (zEE _ _).symm:(!(o_6.2).isEmpty)=(!(((ini o_6.2)++[(⟨(lst o_6.2).Thread,(lst o_6.2).Serial,(lst o_6.2).Lost,(((lst o_6.2).Events)++([x_6]:List zK))⟩:zB)])).isEmpty)) (ac (rfl:vZ (z5 (lst ((ini o_6.2)++[(⟨(lst o_6.2).Thread,(lst o_6.2).Serial,(lst o_6.2).Lost,(((lst o_6.2).Events)++([x_6]:List zK))⟩:zB)]))++[.own 3 ((lst ((ini o_6.2)++[(⟨(lst o_6.2).Thread,(lst o_6.2).Serial,(lst o_6.2).Lost,(((lst o_6.2).Events)++([x_6]:List zK))⟩:zB)])).Events).length])=true) (ac (by first | (simp only [yV];done) | simp [yV]:(Ii ((lst o_6.2).Thread):AV)=Ii ((lst ((ini o_6.2)++[(⟨(lst o_6.2).Thread,(lst o_6.2).Serial,(lst o_6.2).Lost,(((lst o_6.2).Events)++([x_6]:List zK))⟩:zB)])).Thread)) (ac (by first | (simp only [yV];done) | simp [yV]:(Ii ((lst o_6.2).Serial):AV)=Ii ((lst ((ini o_6.2)++[(⟨(lst o_6.2).Thread,(lst o_6.2).Serial,(lst o_6.2).Lost,(((lst o_6.2).Events)++([x_6]:List zK))⟩:zB)])).Serial)) (ac (by first | (simp only [yV];done) | simp [yV]:(Ii ((lst o_6.2).Lost):AV)=Ii ((lst ((ini o_6.2)++[(⟨(lst o_6.2).Thread,(lst o_6.2).Serial,(lst o_6.2).Lost,(((lst o_6.2).Events)++([x_6]:List zK))⟩:zB)])).Lost)) (ac (congrArg (AV.own _) (by first | (simp only [yV];done) | simp [yV]):(.own 3 (((((lst o_6.2).Events)++([x_6]:List zK))).length):AV)=.own 3 (((lst ((ini o_6.2)++[(⟨(lst o_6.2).Thread,(lst o_6.2).Serial,(lst o_6.2).Lost,(((lst o_6.2).Events)++([x_6]:List zK))⟩:zB)])).Events).length)) (ar 42 (ar 6 (ac (by first | (simp only [yV];done) | simp [yV]:((List.map zD (((lst o_6.2).Events)++([x_6]:List zK))):List AV)=List.map zD (lst ((ini o_6.2)++[(⟨(lst o_6.2).Thread,(lst o_6.2).Serial,(lst o_6.2).Lost,(((lst o_6.2).Events)++([x_6]:List zK))⟩:zB)])).Events) an)))))))))))))) (sw [0,1] [] [.s 0,.s 1,.s 5,.s 6,.s 7] [.s 0,.s 1] an))⟩
    refine rg [] [0,1,5,6,7] [0,1] 2 [Ii z4,.sl false 4 (Mp zA l_1),.own 0 ((o_4).length),Ii i_1,Ii (zR (k_1+(1:Int)))] [.live (.rowQ 59 4 (Mp zA (ini o_4)) (!(o_4).isEmpty) (z5 (lst o_4)++[.own 1 ((lst o_4).Events).length])),Rb 42 6 (Mp zD (lst o_4).Events)] zG an ?_
    exact ⟨_,(sw [0,1] [] [.s 0,.s 1,.s 5,.s 6,.s 7] [.s 0,.s 1] an),_,_,rfl,h⟩
   cases h
   exact ⟨rfl,(sw [0,1] [] [.s 0,.s 1,.s 5,.s 6] [.s 0,.s 1] an)⟩
  refine rg [] [0,1,5,6] [0,1] 2 [Ii z4,.sl false 4 (Mp zA l_1),.own 0 ((o_2).length),Ii (zR (i_1+(1:Int)))] [.live (.rowQ 59 4 (Mp zA (ini o_2)) (!(o_2).isEmpty) (z5 (lst o_2)++[.own 1 ((lst o_2).Events).length])),Rb 42 6 (Mp zD (lst o_2).Events)] zG an ?_
  exact ⟨_,(sw [0,1] [] [.s 0,.s 1,.s 5,.s 6] [.s 0,.s 1] an),_,_,rfl,h⟩
 refine sr [] [4] [0,1] 2 [.own 0 ((o_1).length)] [.live (.rowQ 59 4 (Mp zA (ini o_1)) (!(o_1).isEmpty) (z5 (lst o_1)++[.own 1 ((lst o_1).Events).length])),Rb 42 6 (Mp zD (lst o_1).Events)] zG an ?_
 refine uI (zD0 (e:=59) (sz:=4) 0 1 (Mp zA o_1) (by kernel_rfl) (ac ((List.length_map _).symm:((lst o_1).Events).length=(Mp zD (lst o_1).Events:List AV).length) (ac (zEV zA o_1 _ rfl:(Mp zA o_1:List AV)=List.map zA (ini o_1)++bif (!(o_1).isEmpty) then [.agg (z5 (lst o_1)++[.sl false 6 (Mp zD (lst o_1).Events)])] else []) an))) ?_
 refine wk [0] [] [.s 4] [.s 0] [(4,.own 0 ((o_1).length))] [(0,Rb 59 4 (Mp zA o_1))] an ?_
 refine wk [] [0] [.a 4 (.sl false 4 (Mp zA o_1))] [] [(4,.sl false 4 (Mp zA o_1))] [] (ac (by first | (simp;done) | (simp;omega):(o_1).length=((List.map zA o_1)).length) (ar 4 (ar ((Mp zA o_1):List AV) (ac (rfl:(!false||false)=true) an)))) ?_
 refine rt ?_
 cases h
 exact ⟨.inr rfl,Nat.le_of_ble_eq_true rfl,by kernel_rfl⟩
theorem zM1 (F:Nat) (h_1:zL) (l_1:List (zB)) (r:zQ×Int) (h:zFa F h_1 l_1=some r):zW prog 11 [] [] [yN h_1,.sl false 4 (Mp zA l_1)] [] (.tuple [yE r.1,Ii r.2]):=by
 refine yA (fn:=Go.Proofs.Try.f11) (code:=xC Go.Proofs.Try.f11) (by kernel_rfl) (by kernel_rfl) (Nat.le_of_ble_eq_true (by kernel_rfl)) ?_
 unfold zFa at h
 refine sr [(0,{ id:=0 }),(1,{ id:=1 })] [1,2,4] [0,1] 2 [.sl false 4 (Mp zA l_1),Pp 0,Pp 1] [Vb 26 (zM h_1),Vb 31 [.nilsl,.nilsl,.nilsl,.nilsl]] zG an ?_
 refine uI (uV 1 3 2 59 4 (by kernel_rfl)) ?_
 refine wk [0,1,2] [] [.s 1,.s 2,.s 4] [.s 0,.s 1,.s 2] [(1,.sl false 4 (Mp zA l_1)),(2,Pp 0),(4,Pp 1)] [(0,Vb 26 (zM h_1)),(1,Vb 31 [.nilsl,.nilsl,.nilsl,.own 2 0]),(2,Rb 59 4 [])] an ?_
 refine sq ?_
 obtain ⟨r_1,h_2,h⟩:=bind_some h
 refine rg [(1,{ av:=Ii r_1,l:=[yN h_1] })] [1,2,4,6] [0,1,2] 3 [.sl false 4 (Mp zA l_1),Pp 0,Pp 1,Ii r_1] [Vb 26 (zM h_1),Vb 31 [.nilsl,.nilsl,.nilsl,.own 2 0],Rb 59 4 []] zG (ar ([yN h_1]:List AV) (ac (rfl:([]:List zT)=[]) (ac (zKn F h_1 r_1 h_2:zW prog 30 [] [] [yN h_1] [] (Ii r_1)) an))) ?_
 refine sq ?_
 refine sr [] [1,2,4,6,13] [0,1,2] 3 [.sl false 4 (Mp zA l_1),Pp 0,Pp 1,Ii r_1,.bool (r_1 != (0:Int))] [Vb 26 (zM h_1),Vb 31 [.nilsl,.nilsl,.nilsl,.own 2 0],Rb 59 4 []] zG an ?_
 refine cd 13 (r_1 != (0:Int)) ?_ ?_
 ·intro g_1;replace h:=zP g_1 h
  refine sr [] [4,5] [1] 3 [Pp 1,Ii r_1] [Vb 31 [.nilsl,.nilsl,.nilsl,.nilsl]] zG an ?_
  refine uI (uV 1 3 3 59 4 (by kernel_rfl)) ?_
  refine wk [1,3] [] [.s 4,.s 5] [.s 0,.s 1] [(4,Pp 0),(5,Ii r_1)] [(0,Vb 31 [.nilsl,.nilsl,.nilsl,.own 1 0]),(1,Rb 59 4 [])] an ?_
  refine wk [0] [1] [.s 4,.s 5] [.a 0 (Vb 31 [.sl false 3 (Mp zF (((⟨(⟨[],[],[]⟩:zL),[]⟩:zQ).Head).Threads)),.sl false 2 (Mp zC (((⟨(⟨[],[],[]⟩:zL),[]⟩:zQ).Head).Domains)),.sl false 5 (Mp zJ (((⟨(⟨[],[],[]⟩:zL),[]⟩:zQ).Head).Snaps)),.sl false 4 (Mp zA ((⟨(⟨[],[],[]⟩:zL),[]⟩:zQ).Parts))])] [(4,Pp 0),(5,Ii r_1)] [(0,Vb 31 [.sl false 3 (Mp zF (((⟨(⟨[],[],[]⟩:zL),[]⟩:zQ).Head).Threads)),.sl false 2 (Mp zC (((⟨(⟨[],[],[]⟩:zL),[]⟩:zQ).Head).Domains)),.sl false 5 (Mp zJ (((⟨(⟨[],[],[]⟩:zL),[]⟩:zQ).Head).Snaps)),.sl false 4 (Mp zA ((⟨(⟨[],[],[]⟩:zL),[]⟩:zQ).Parts))])] (ar 31 (ac (rfl:vZ [.sl false 3 (Mp zF (((⟨(⟨[],[],[]⟩:zL),[]⟩:zQ).Head).Threads)),.sl false 2 (Mp zC (((⟨(⟨[],[],[]⟩:zL),[]⟩:zQ).Head).Domains)),.sl false 5 (Mp zJ (((⟨(⟨[],[],[]⟩:zL),[]⟩:zQ).Head).Snaps)),.sl false 4 (Mp zA ((⟨(⟨[],[],[]⟩:zL),[]⟩:zQ).Parts))]=true) (ac (by first | (simp;done) | (simp;omega):0=(([]:List AV)).length) (ac (rfl:((Mp zF (((⟨(⟨[],[],[]⟩:zL),[]⟩:zQ).Head).Threads)):List AV)=[]) (ac (rfl:((Mp zC (((⟨(⟨[],[],[]⟩:zL),[]⟩:zQ).Head).Domains)):List AV)=[]) (ac (rfl:((Mp zJ (((⟨(⟨[],[],[]⟩:zL),[]⟩:zQ).Head).Snaps)):List AV)=[]) (ar 4 (ac (rfl:([]:List AV)=(Mp zA ((⟨(⟨[],[],[]⟩:zL),[]⟩:zQ).Parts))) (ac (rfl:(!false||false)=true) an))))))))) ?_
  refine rt ?_
  cases h
  exact ⟨.inr rfl,Nat.le_of_ble_eq_true rfl,by kernel_rfl⟩
 intro g_1;replace h:=zO g_1 h
 refine sk ?_
 refine sq ?_
 refine sr [] [1,2,4,7] [0,1,2] 3 [.sl false 4 (Mp zA l_1),Pp 0,Pp 1,Ii 0] [Vb 26 (zM h_1),Vb 31 [.nilsl,.nilsl,.nilsl,.own 2 0],Rb 59 4 []] zG an ?_
 obtain ⟨o_1,h_3,h⟩:=bind_some h
 refine wK (K1:=(fun e st'=>match o_1 with | (.inl q0)=>e=.normal∧Sub 0 st' (mk [(1,.sl false 4 (Mp zA l_1)),(2,Pp 0),(4,Pp 1)] [(0,Vb 26 (zM h_1)),(1,Vb 31 [.nilsl,.nilsl,.nilsl,.own 2 0]),(2,Rb 59 4 [])] 3) | (.inr q1)=>e=.ret∧uF prog Go.Proofs.Try.f11 0 [] (.tuple [yE q1.1,Ii q1.2]) st')) ?_ ?_
 ·replace h:=h_3
  refine yC (id:=0) (by kernel_rfl) ?_
  refine wk [0,1,2] [] [.s 1,.s 2,.s 4,.s 7] [.s 0,.s 1,.s 2] [(1,.sl false 4 (Mp zA l_1)),(2,Pp 0),(4,Pp 1),(7,Ii 0)] [(0,Vb 26 (zM h_1)),(1,Vb 31 [.nilsl,.nilsl,.nilsl,.own 2 0]),(2,Rb 59 4 [])] an ?_
  refine xH (fun n st=>∃ (i_1:Int),st=mk [(1,.sl false 4 (Mp zA l_1)),(2,Pp 0),(4,Pp 1),(7,Ii i_1)] [(0,Vb 26 (zM h_1)),(1,Vb 31 [.nilsl,.nilsl,.nilsl,.own 2 0]),(2,Rb 59 4 [])] 3∧zAL F h_1 l_1 n i_1=some o_1) F (by kernel_rfl) ⟨_,rfl,h⟩ ?_ ?_
  ·rintro _ ⟨_,_,h⟩;exact xX (h:(none:Option (Unit⊕(zQ×Int)))=some o_1)
  rintro n_1 _ ⟨i_1,rfl,h⟩
  replace h:kV F h_1 l_1 (zAL F h_1 l_1 n_1) i_1=some o_1:=h
  unfold kV at h
  refine sq ?_
  refine sr [(2,{ n:=(l_1).length })] [1,2,4,7,19] [0,1,2] 3 [.sl false 4 (Mp zA l_1),Pp 0,Pp 1,Ii i_1,.bool (decide (i_1<(lN (l_1))))] [Vb 26 (zM h_1),Vb 31 [.nilsl,.nilsl,.nilsl,.own 2 0],Rb 59 4 []] zG (ac (z9 _:((Mp zA l_1)).length=(l_1).length) an) ?_
  refine cd 19 (decide (i_1<(lN (l_1)))) ?_ ?_
  rotate_left
  ·intro g_2;replace h:=zO g_2 h
   refine xS (id:=0) (by kernel_rfl) ?_
   cases h
   exact ⟨rfl,(sw [0,1,2] [] [.s 1,.s 2,.s 4] [.s 0,.s 1,.s 2] an)⟩
  intro g_2;replace h:=zP g_2 h
  refine sk ?_
  refine sq ?_
  refine yC (id:=1) (by kernel_rfl) ?_
  refine sq ?_
  obtain ⟨x_1,h_4,h⟩:=bind_some h
  obtain ⟨r_2,h_5,h⟩:=bind_some h
  refine rg [(2,{ av:=zA x_1 }),(4,{ av:=Ii r_2,l:=[zA x_1] })] [1,2,4,6,7] [0,1,2] 3 [.sl false 4 (Mp zA l_1),Pp 0,Pp 1,Ii r_2,Ii i_1] [Vb 26 (zM h_1),Vb 31 [.nilsl,.nilsl,.nilsl,.own 2 0],Rb 59 4 []] zG (ac (yP h_4:xG (Mp zA l_1) i_1=some (zA x_1)) (ar ([zA x_1]:List AV) (ac (rfl:([]:List zT)=[]) (ac (zI3 F x_1 r_2 h_5:zW prog 31 [] [] [zA x_1] [] (Ii r_2)) an)))) ?_
  refine sq ?_
  refine sr [] [1,2,4,6,7,28] [0,1,2] 3 [.sl false 4 (Mp zA l_1),Pp 0,Pp 1,Ii r_2,Ii i_1,.bool (r_2 != (0:Int))] [Vb 26 (zM h_1),Vb 31 [.nilsl,.nilsl,.nilsl,.own 2 0],Rb 59 4 []] zG an ?_
  refine cd 28 (r_2 != (0:Int)) ?_ ?_
  ·intro g_3;replace h:=zP g_3 h
   refine sr [] [4,5] [1] 3 [Pp 1,Ii r_2] [Vb 31 [.nilsl,.nilsl,.nilsl,.nilsl]] zG an ?_
   refine uI (uV 1 3 3 59 4 (by kernel_rfl)) ?_
   refine wk [1,3] [] [.s 4,.s 5] [.s 0,.s 1] [(4,Pp 0),(5,Ii r_2)] [(0,Vb 31 [.nilsl,.nilsl,.nilsl,.own 1 0]),(1,Rb 59 4 [])] an ?_
   refine wk [0] [1] [.s 4,.s 5] [.a 0 (Vb 31 [.sl false 3 (Mp zF (((⟨(⟨[],[],[]⟩:zL),[]⟩:zQ).Head).Threads)),.sl false 2 (Mp zC (((⟨(⟨[],[],[]⟩:zL),[]⟩:zQ).Head).Domains)),.sl false 5 (Mp zJ (((⟨(⟨[],[],[]⟩:zL),[]⟩:zQ).Head).Snaps)),.sl false 4 (Mp zA ((⟨(⟨[],[],[]⟩:zL),[]⟩:zQ).Parts))])] [(4,Pp 0),(5,Ii r_2)] [(0,Vb 31 [.sl false 3 (Mp zF (((⟨(⟨[],[],[]⟩:zL),[]⟩:zQ).Head).Threads)),.sl false 2 (Mp zC (((⟨(⟨[],[],[]⟩:zL),[]⟩:zQ).Head).Domains)),.sl false 5 (Mp zJ (((⟨(⟨[],[],[]⟩:zL),[]⟩:zQ).Head).Snaps)),.sl false 4 (Mp zA ((⟨(⟨[],[],[]⟩:zL),[]⟩:zQ).Parts))])] (ar 31 (ac (rfl:vZ [.sl false 3 (Mp zF (((⟨(⟨[],[],[]⟩:zL),[]⟩:zQ).Head).Threads)),.sl false 2 (Mp zC (((⟨(⟨[],[],[]⟩:zL),[]⟩:zQ).Head).Domains)),.sl false 5 (Mp zJ (((⟨(⟨[],[],[]⟩:zL),[]⟩:zQ).Head).Snaps)),.sl false 4 (Mp zA ((⟨(⟨[],[],[]⟩:zL),[]⟩:zQ).Parts))]=true) (ac (by first | (simp;done) | (simp;omega):0=(([]:List AV)).length) (ac (rfl:((Mp zF (((⟨(⟨[],[],[]⟩:zL),[]⟩:zQ).Head).Threads)):List AV)=[]) (ac (rfl:((Mp zC (((⟨(⟨[],[],[]⟩:zL),[]⟩:zQ).Head).Domains)):List AV)=[]) (ac (rfl:((Mp zJ (((⟨(⟨[],[],[]⟩:zL),[]⟩:zQ).Head).Snaps)):List AV)=[]) (ar 4 (ac (rfl:([]:List AV)=(Mp zA ((⟨(⟨[],[],[]⟩:zL),[]⟩:zQ).Parts))) (ac (rfl:(!false||false)=true) an))))))))) ?_
   refine rt ?_
   cases h
   exact ⟨rfl,Nat.le_of_ble_eq_true rfl,by kernel_rfl⟩
  intro g_3;replace h:=zO g_3 h
  refine sk ?_
  refine sq ?_
  refine sq ?_
  obtain ⟨x_2,h_6,h⟩:=bind_some h
  obtain ⟨r_3,h_7,h⟩:=bind_some h
  refine rg [(3,{ av:=zA x_2 }),(6,{ av:=.bool r_3,l:=[yN h_1,Ii x_2.Thread] })] [1,2,4,7,38] [0,1,2] 3 [.sl false 4 (Mp zA l_1),Pp 0,Pp 1,Ii i_1,.bool (!r_3)] [Vb 26 (zM h_1),Vb 31 [.nilsl,.nilsl,.nilsl,.own 2 0],Rb 59 4 []] zG (ac (yP h_6:xG (Mp zA l_1) i_1=some (zA x_2)) (ar ([yN h_1,Ii x_2.Thread]:List AV) (ac (rfl:([]:List zT)=[]) (ac (zJ0 F h_1 x_2.Thread r_3 h_7:zW prog 32 [] [] [yN h_1,Ii x_2.Thread] [] (.bool r_3)) an)))) ?_
  refine cd 38 (!r_3) ?_ ?_
  ·intro g_4;replace h:=zP g_4 h
   refine sr [] [4,5] [1] 3 [Pp 1,Ii 5] [Vb 31 [.nilsl,.nilsl,.nilsl,.nilsl]] zG an ?_
   refine uI (uV 1 3 3 59 4 (by kernel_rfl)) ?_
   refine wk [1,3] [] [.s 4,.s 5] [.s 0,.s 1] [(4,Pp 0),(5,Ii 5)] [(0,Vb 31 [.nilsl,.nilsl,.nilsl,.own 1 0]),(1,Rb 59 4 [])] an ?_
   refine wk [0] [1] [.s 4,.s 5] [.a 0 (Vb 31 [.sl false 3 (Mp zF (((⟨(⟨[],[],[]⟩:zL),[]⟩:zQ).Head).Threads)),.sl false 2 (Mp zC (((⟨(⟨[],[],[]⟩:zL),[]⟩:zQ).Head).Domains)),.sl false 5 (Mp zJ (((⟨(⟨[],[],[]⟩:zL),[]⟩:zQ).Head).Snaps)),.sl false 4 (Mp zA ((⟨(⟨[],[],[]⟩:zL),[]⟩:zQ).Parts))])] [(4,Pp 0),(5,Ii 5)] [(0,Vb 31 [.sl false 3 (Mp zF (((⟨(⟨[],[],[]⟩:zL),[]⟩:zQ).Head).Threads)),.sl false 2 (Mp zC (((⟨(⟨[],[],[]⟩:zL),[]⟩:zQ).Head).Domains)),.sl false 5 (Mp zJ (((⟨(⟨[],[],[]⟩:zL),[]⟩:zQ).Head).Snaps)),.sl false 4 (Mp zA ((⟨(⟨[],[],[]⟩:zL),[]⟩:zQ).Parts))])] (ar 31 (ac (rfl:vZ [.sl false 3 (Mp zF (((⟨(⟨[],[],[]⟩:zL),[]⟩:zQ).Head).Threads)),.sl false 2 (Mp zC (((⟨(⟨[],[],[]⟩:zL),[]⟩:zQ).Head).Domains)),.sl false 5 (Mp zJ (((⟨(⟨[],[],[]⟩:zL),[]⟩:zQ).Head).Snaps)),.sl false 4 (Mp zA ((⟨(⟨[],[],[]⟩:zL),[]⟩:zQ).Parts))]=true) (ac (by first | (simp;done) | (simp;omega):0=(([]:List AV)).length) (ac (rfl:((Mp zF (((⟨(⟨[],[],[]⟩:zL),[]⟩:zQ).Head).Threads)):List AV)=[]) (ac (rfl:((Mp zC (((⟨(⟨[],[],[]⟩:zL),[]⟩:zQ).Head).Domains)):List AV)=[]) (ac (rfl:((Mp zJ (((⟨(⟨[],[],[]⟩:zL),[]⟩:zQ).Head).Snaps)):List AV)=[]) (ar 4 (ac (rfl:([]:List AV)=(Mp zA ((⟨(⟨[],[],[]⟩:zL),[]⟩:zQ).Parts))) (ac (rfl:(!false||false)=true) an))))))))) ?_
   refine rt ?_
   cases h
   exact ⟨rfl,Nat.le_of_ble_eq_true rfl,by kernel_rfl⟩
  intro g_4;replace h:=zO g_4 h
  refine sk ?_
  refine sq ?_
  obtain ⟨_,h_8,h⟩:=bind_some h;replace h_8:=wN h_8
  obtain ⟨x_3,h_9,h⟩:=bind_some h
  obtain ⟨r_4,tW,h⟩:=bind_some h
  refine rg [(2,{ l:=(Mp zA (sub l_1 (0:Int) i_1)) }),(5,{ av:=zA x_3 }),(7,{ av:=.bool r_4,l:=[.sl false 4 (Mp zA (sub l_1 (0:Int) i_1)),zA x_3] })] [1,2,4,7,48] [0,1,2] 3 [.sl false 4 (Mp zA l_1),Pp 0,Pp 1,Ii i_1,.bool (!r_4)] [Vb 26 (zM h_1),Vb 31 [.nilsl,.nilsl,.nilsl,.own 2 0],Rb 59 4 []] zG (ac (by decide:(0:Int)≤(0:Int)) (ac h_8.1 (ac (zDM h_8.2:i_1≤(lN ((Mp zA l_1)))) (ac (zI1 _ _ _:(Mp zA (sub l_1 (0:Int) i_1))=(((Mp zA l_1)).take (i_1).toNat).drop ((0:Int)).toNat) (ac (yP h_9:xG (Mp zA l_1) i_1=some (zA x_3)) (ar ([.sl false 4 (Mp zA (sub l_1 (0:Int) i_1)),zA x_3]:List AV) (ac (rfl:([]:List zT)=[]) (ac (zHz F (sub l_1 (0:Int) i_1) x_3 r_4 tW:zW prog 33 [] [] [.sl false 4 (Mp zA (sub l_1 (0:Int) i_1)),zA x_3] [] (.bool r_4)) an)))))))) ?_
  refine cd 48 (!r_4) ?_ ?_
  rotate_left
  ·intro g_5;replace h:=zO g_5 h
   refine sk ?_
   refine rg [] [1,2,4,7] [0,1,2] 3 [.sl false 4 (Mp zA l_1),Pp 0,Pp 1,Ii (zR (i_1+(1:Int)))] [Vb 26 (zM h_1),Vb 31 [.nilsl,.nilsl,.nilsl,.own 2 0],Rb 59 4 []] zG an ?_
   exact ⟨_,(sw [0,1,2] [] [.s 1,.s 2,.s 4,.s 7] [.s 0,.s 1,.s 2] an),_,rfl,h⟩
  intro g_5;replace h:=zP g_5 h
  refine sr [] [4,5] [1] 3 [Pp 1,Ii 11] [Vb 31 [.nilsl,.nilsl,.nilsl,.nilsl]] zG an ?_
  refine uI (uV 1 3 3 59 4 (by kernel_rfl)) ?_
  refine wk [1,3] [] [.s 4,.s 5] [.s 0,.s 1] [(4,Pp 0),(5,Ii 11)] [(0,Vb 31 [.nilsl,.nilsl,.nilsl,.own 1 0]),(1,Rb 59 4 [])] an ?_
  refine wk [0] [1] [.s 4,.s 5] [.a 0 (Vb 31 [.sl false 3 (Mp zF (((⟨(⟨[],[],[]⟩:zL),[]⟩:zQ).Head).Threads)),.sl false 2 (Mp zC (((⟨(⟨[],[],[]⟩:zL),[]⟩:zQ).Head).Domains)),.sl false 5 (Mp zJ (((⟨(⟨[],[],[]⟩:zL),[]⟩:zQ).Head).Snaps)),.sl false 4 (Mp zA ((⟨(⟨[],[],[]⟩:zL),[]⟩:zQ).Parts))])] [(4,Pp 0),(5,Ii 11)] [(0,Vb 31 [.sl false 3 (Mp zF (((⟨(⟨[],[],[]⟩:zL),[]⟩:zQ).Head).Threads)),.sl false 2 (Mp zC (((⟨(⟨[],[],[]⟩:zL),[]⟩:zQ).Head).Domains)),.sl false 5 (Mp zJ (((⟨(⟨[],[],[]⟩:zL),[]⟩:zQ).Head).Snaps)),.sl false 4 (Mp zA ((⟨(⟨[],[],[]⟩:zL),[]⟩:zQ).Parts))])] (ar 31 (ac (rfl:vZ [.sl false 3 (Mp zF (((⟨(⟨[],[],[]⟩:zL),[]⟩:zQ).Head).Threads)),.sl false 2 (Mp zC (((⟨(⟨[],[],[]⟩:zL),[]⟩:zQ).Head).Domains)),.sl false 5 (Mp zJ (((⟨(⟨[],[],[]⟩:zL),[]⟩:zQ).Head).Snaps)),.sl false 4 (Mp zA ((⟨(⟨[],[],[]⟩:zL),[]⟩:zQ).Parts))]=true) (ac (by first | (simp;done) | (simp;omega):0=(([]:List AV)).length) (ac (rfl:((Mp zF (((⟨(⟨[],[],[]⟩:zL),[]⟩:zQ).Head).Threads)):List AV)=[]) (ac (rfl:((Mp zC (((⟨(⟨[],[],[]⟩:zL),[]⟩:zQ).Head).Domains)):List AV)=[]) (ac (rfl:((Mp zJ (((⟨(⟨[],[],[]⟩:zL),[]⟩:zQ).Head).Snaps)):List AV)=[]) (ar 4 (ac (rfl:([]:List AV)=(Mp zA ((⟨(⟨[],[],[]⟩:zL),[]⟩:zQ).Parts))) (ac (rfl:(!false||false)=true) an))))))))) ?_
  refine rt ?_
  cases h
  exact ⟨rfl,Nat.le_of_ble_eq_true rfl,by kernel_rfl⟩
 intro e st1 hk
 rcases o_1 with q_1 | q_2
 rotate_left
 ·obtain ⟨rfl,hf⟩:=hk
  cases h
  exact ⟨st1,Sub.refl _ _,.inr rfl,hf⟩
 obtain ⟨rfl,hs⟩:=hk
 refine ⟨_,hs,?_⟩
 refine sq ?_
 refine sq ?_
 obtain ⟨r_5,tX,h⟩:=bind_some h
 refine rg [(1,{ av:=Ii r_5,l:=[.sl false 4 (Mp zA l_1)] })] [1,2,4,52] [0,1,2] 3 [.sl false 4 (Mp zA l_1),Pp 0,Pp 1,.bool (decide (r_5>(20000:Int)))] [Vb 26 (zM h_1),Vb 31 [.nilsl,.nilsl,.nilsl,.own 2 0],Rb 59 4 []] zG (ar ([.sl false 4 (Mp zA l_1)]:List AV) (ac (rfl:([]:List zT)=[]) (ac (zIp F l_1 r_5 tX:zW prog 22 [] [] [.sl false 4 (Mp zA l_1)] [] (Ii r_5)) an))) ?_
 refine cd 52 (decide (r_5>(20000:Int))) ?_ ?_
 ·intro g_6;replace h:=zP g_6 h
  refine sr [] [4,5] [1] 3 [Pp 1,Ii 7] [Vb 31 [.nilsl,.nilsl,.nilsl,.nilsl]] zG an ?_
  refine uI (uV 1 3 3 59 4 (by kernel_rfl)) ?_
  refine wk [1,3] [] [.s 4,.s 5] [.s 0,.s 1] [(4,Pp 0),(5,Ii 7)] [(0,Vb 31 [.nilsl,.nilsl,.nilsl,.own 1 0]),(1,Rb 59 4 [])] an ?_
  refine wk [0] [1] [.s 4,.s 5] [.a 0 (Vb 31 [.sl false 3 (Mp zF (((⟨(⟨[],[],[]⟩:zL),[]⟩:zQ).Head).Threads)),.sl false 2 (Mp zC (((⟨(⟨[],[],[]⟩:zL),[]⟩:zQ).Head).Domains)),.sl false 5 (Mp zJ (((⟨(⟨[],[],[]⟩:zL),[]⟩:zQ).Head).Snaps)),.sl false 4 (Mp zA ((⟨(⟨[],[],[]⟩:zL),[]⟩:zQ).Parts))])] [(4,Pp 0),(5,Ii 7)] [(0,Vb 31 [.sl false 3 (Mp zF (((⟨(⟨[],[],[]⟩:zL),[]⟩:zQ).Head).Threads)),.sl false 2 (Mp zC (((⟨(⟨[],[],[]⟩:zL),[]⟩:zQ).Head).Domains)),.sl false 5 (Mp zJ (((⟨(⟨[],[],[]⟩:zL),[]⟩:zQ).Head).Snaps)),.sl false 4 (Mp zA ((⟨(⟨[],[],[]⟩:zL),[]⟩:zQ).Parts))])] (ar 31 (ac (rfl:vZ [.sl false 3 (Mp zF (((⟨(⟨[],[],[]⟩:zL),[]⟩:zQ).Head).Threads)),.sl false 2 (Mp zC (((⟨(⟨[],[],[]⟩:zL),[]⟩:zQ).Head).Domains)),.sl false 5 (Mp zJ (((⟨(⟨[],[],[]⟩:zL),[]⟩:zQ).Head).Snaps)),.sl false 4 (Mp zA ((⟨(⟨[],[],[]⟩:zL),[]⟩:zQ).Parts))]=true) (ac (by first | (simp;done) | (simp;omega):0=(([]:List AV)).length) (ac (rfl:((Mp zF (((⟨(⟨[],[],[]⟩:zL),[]⟩:zQ).Head).Threads)):List AV)=[]) (ac (rfl:((Mp zC (((⟨(⟨[],[],[]⟩:zL),[]⟩:zQ).Head).Domains)):List AV)=[]) (ac (rfl:((Mp zJ (((⟨(⟨[],[],[]⟩:zL),[]⟩:zQ).Head).Snaps)):List AV)=[]) (ar 4 (ac (rfl:([]:List AV)=(Mp zA ((⟨(⟨[],[],[]⟩:zL),[]⟩:zQ).Parts))) (ac (rfl:(!false||false)=true) an))))))))) ?_
  refine rt ?_
  cases h
  exact ⟨.inr rfl,Nat.le_of_ble_eq_true rfl,by kernel_rfl⟩
 intro g_6;replace h:=zO g_6 h
 refine sk ?_
 refine sr [(2,{ id:=3 })] [1,2,4,8] [0,1,2,3] 4 [.sl false 4 (Mp zA l_1),Pp 0,Pp 1,Pp 3] [Vb 26 (zM h_1),Vb 31 [.nilsl,.nilsl,.nilsl,.own 2 0],Rb 59 4 [],Vb 31 [.sl false 3 (Mp zF h_1.Threads),.sl false 2 (Mp zC h_1.Domains),.sl false 5 (Mp zJ h_1.Snaps),.nilsl]] zG an ?_
 refine uI (uV 3 3 4 59 4 (by kernel_rfl)) ?_
 refine wk [0,1,2,3,4] [] [.s 1,.s 2,.s 4,.s 8] [.s 0,.s 1,.s 2,.s 3,.s 4] [(1,.sl false 4 (Mp zA l_1)),(2,Pp 0),(4,Pp 1),(8,Pp 3)] [(0,Vb 26 (zM h_1)),(1,Vb 31 [.nilsl,.nilsl,.nilsl,.own 2 0]),(2,Rb 59 4 []),(3,Vb 31 [.sl false 3 (Mp zF h_1.Threads),.sl false 2 (Mp zC h_1.Domains),.sl false 5 (Mp zJ h_1.Snaps),.own 4 0]),(4,Rb 59 4 [])] an ?_
 refine sq ?_
 refine sr [] [1,2,4,8,9] [0,1,2,3,4] 5 [.sl false 4 (Mp zA l_1),Pp 0,Pp 1,Pp 3,Ii 0] [Vb 26 (zM h_1),Vb 31 [.nilsl,.nilsl,.nilsl,.own 2 0],Rb 59 4 [],Vb 31 [.sl false 3 (Mp zF h_1.Threads),.sl false 2 (Mp zC h_1.Domains),.sl false 5 (Mp zJ h_1.Snaps),.own 4 0],Rb 59 4 []] zG an ?_
 obtain ⟨o_2,zCQ,h⟩:=bind_some h
 refine y9 (mk [(4,Pp 0),(8,Pp 2)] [(0,Vb 31 [.nilsl,.nilsl,.nilsl,.own 1 0]),(1,Rb 59 4 []),(2,Vb 31 [.sl false 3 (Mp zF h_1.Threads),.sl false 2 (Mp zC h_1.Domains),.sl false 5 (Mp zJ h_1.Snaps),.own 3 ((o_2).length)]),(3,Rb 59 4 (Mp zA o_2))] 4) ?_ ?_
 ·replace h:=zCQ
  refine yC (id:=2) (by kernel_rfl) ?_
  refine wk [0,1,2,3,4] [] [.s 1,.s 2,.s 4,.s 8,.s 9] [.s 0,.s 1,.s 2,.s 3,.s 4] [(1,.sl false 4 (Mp zA l_1)),(2,Pp 0),(4,Pp 1),(8,Pp 3),(9,Ii 0)] [(0,Vb 26 (zM h_1)),(1,Vb 31 [.nilsl,.nilsl,.nilsl,.own 2 0]),(2,Rb 59 4 []),(3,Vb 31 [.sl false 3 (Mp zF h_1.Threads),.sl false 2 (Mp zC h_1.Domains),.sl false 5 (Mp zJ h_1.Snaps),.own 4 0]),(4,Rb 59 4 [])] an ?_
  refine xH (fun n st=>∃ (t_1:Int),∃ (zE:List zB),st=mk [(1,.sl false 4 (Mp zA l_1)),(2,Pp 0),(4,Pp 1),(8,Pp 3),(9,Ii t_1)] [(0,Vb 26 (zM h_1)),(1,Vb 31 [.nilsl,.nilsl,.nilsl,.own 2 0]),(2,Rb 59 4 []),(3,Vb 31 [.sl false 3 (Mp zF h_1.Threads),.sl false 2 (Mp zC h_1.Domains),.sl false 5 (Mp zJ h_1.Snaps),.own 4 ((zE).length)]),(4,Rb 59 4 (Mp zA zE))] 5∧zAQ F h_1 l_1 n t_1 zE=some o_2) F (by kernel_rfl) ⟨_,_,rfl,h⟩ ?_ ?_
  ·rintro _ ⟨_,_,_,h⟩;exact xX (h:(none:Option (List zB))=some o_2)
  rintro n_2 _ ⟨t_1,zE,rfl,h⟩
  replace h:kU F h_1 l_1 (zAQ F h_1 l_1 n_2) t_1 zE=some o_2:=h
  unfold kU at h
  refine sq ?_
  refine sr [(3,{ n:=(h_1.Threads).length })] [1,2,4,8,9,60] [0,1,2,3,4] 5 [.sl false 4 (Mp zA l_1),Pp 0,Pp 1,Pp 3,Ii t_1,.bool (decide (t_1<(lN (h_1.Threads))))] [Vb 26 (zM h_1),Vb 31 [.nilsl,.nilsl,.nilsl,.own 2 0],Rb 59 4 [],Vb 31 [.sl false 3 (Mp zF h_1.Threads),.sl false 2 (Mp zC h_1.Domains),.sl false 5 (Mp zJ h_1.Snaps),.own 4 ((zE).length)],Rb 59 4 (Mp zA zE)] zG (ac (z9 _:((Mp zF h_1.Threads)).length=(h_1.Threads).length) an) ?_
  refine cd 60 (decide (t_1<(lN (h_1.Threads)))) ?_ ?_
  rotate_left
  ·intro g_7;replace h:=zO g_7 h
   refine xS (id:=2) (by kernel_rfl) ?_
   cases h
   exact ⟨rfl,(sw [1,2,3,4] [] [.s 4,.s 8] [.s 0,.s 1,.s 2,.s 3] an)⟩
  intro g_7;replace h:=zP g_7 h
  refine sk ?_
  refine sq ?_
  refine yC (id:=3) (by kernel_rfl) ?_
  obtain ⟨x_4,zGh,h⟩:=bind_some h
  obtain ⟨r_6,zGi,h⟩:=bind_some h
  obtain ⟨_,zFb,h⟩:=bind_some h;replace zFb:=wN zFb
  refine rg [(5,{ av:=zF x_4 }),(9,{ av:=.sl false 4 (Mp zA r_6),l:=[Ii x_4.Id,.sl false 4 (Mp zA l_1)] }),(10,{ id:=5,l:=(Mp zA (zE++r_6)),n:=((zE++r_6)).length })] [1,2,4,8,9] [0,1,2,3,5] 6 [.sl false 4 (Mp zA l_1),Pp 0,Pp 1,Pp 3,Ii t_1] [Vb 26 (zM h_1),Vb 31 [.nilsl,.nilsl,.nilsl,.own 2 0],Rb 59 4 [],Vb 31 [.sl false 3 (Mp zF h_1.Threads),.sl false 2 (Mp zC h_1.Domains),.sl false 5 (Mp zJ h_1.Snaps),.own 5 (((zE++r_6)).length)],Rb 59 4 (Mp zA (zE++r_6))] zG (ac (yP zGh:xG (Mp zF h_1.Threads) t_1=some (zF x_4)) (ar ([Ii x_4.Id,.sl false 4 (Mp zA l_1)]:List AV) (ac (rfl:([]:List zT)=[]) (ac (zIW F x_4.Id l_1 r_6 zGi:zW prog 34 [] [] [Ii x_4.Id,.sl false 4 (Mp zA l_1)] [] (.sl false 4 (Mp zA r_6))) (ac (by first | (simp;done) | (simp;omega):(zE).length=((List.map zA zE)).length) (ac (trivial:True) (ac (zDy _ _:(Mp zA (zE++r_6))=(Mp zA zE)++(Mp zA r_6)) (ac (by simp:((zE++r_6)).length=((List.map zA (zE++r_6))).length) (ac (by first | (simp;done) | simpa using zFb:(((List.map zA zE):List AV).length+((List.map zA r_6):List AV).length) * 48≤140737488355328) an))))))))) ?_
  refine rg [] [1,2,4,8,9] [0,1,2,3,5] 6 [.sl false 4 (Mp zA l_1),Pp 0,Pp 1,Pp 3,Ii (zR (t_1+(1:Int)))] [Vb 26 (zM h_1),Vb 31 [.nilsl,.nilsl,.nilsl,.own 2 0],Rb 59 4 [],Vb 31 [.sl false 3 (Mp zF h_1.Threads),.sl false 2 (Mp zC h_1.Domains),.sl false 5 (Mp zJ h_1.Snaps),.own 5 (((zE++r_6)).length)],Rb 59 4 (Mp zA (zE++r_6))] zG an ?_
  exact ⟨_,(sw [0,1,2,3,5] [] [.s 1,.s 2,.s 4,.s 8,.s 9] [.s 0,.s 1,.s 2,.s 3,.s 4] an),_,_,rfl,h⟩
 refine sr [] [4,5] [0,3] 4 [Pp 0,Ii 0] [Vb 31 [.sl false 3 (Mp zF h_1.Threads),.sl false 2 (Mp zC h_1.Domains),.sl false 5 (Mp zJ h_1.Snaps),.own 3 ((o_2).length)],Rb 59 4 (Mp zA o_2)] zG an ?_
 refine wk [0] [3] [.s 4,.s 5] [.a 0 (Vb 31 [.sl false 3 (Mp zF (((⟨h_1,o_2⟩:zQ).Head).Threads)),.sl false 2 (Mp zC (((⟨h_1,o_2⟩:zQ).Head).Domains)),.sl false 5 (Mp zJ (((⟨h_1,o_2⟩:zQ).Head).Snaps)),.sl false 4 (Mp zA ((⟨h_1,o_2⟩:zQ).Parts))])] [(4,Pp 0),(5,Ii 0)] [(0,Vb 31 [.sl false 3 (Mp zF (((⟨h_1,o_2⟩:zQ).Head).Threads)),.sl false 2 (Mp zC (((⟨h_1,o_2⟩:zQ).Head).Domains)),.sl false 5 (Mp zJ (((⟨h_1,o_2⟩:zQ).Head).Snaps)),.sl false 4 (Mp zA ((⟨h_1,o_2⟩:zQ).Parts))])] (ar 31 (ac (rfl:vZ [.sl false 3 (Mp zF (((⟨h_1,o_2⟩:zQ).Head).Threads)),.sl false 2 (Mp zC (((⟨h_1,o_2⟩:zQ).Head).Domains)),.sl false 5 (Mp zJ (((⟨h_1,o_2⟩:zQ).Head).Snaps)),.sl false 4 (Mp zA ((⟨h_1,o_2⟩:zQ).Parts))]=true) (ac (by first | (simp;done) | (simp;omega):(o_2).length=((List.map zA o_2)).length) (ar 3 (ac (rfl:((Mp zF h_1.Threads):List AV)=(Mp zF (((⟨h_1,o_2⟩:zQ).Head).Threads))) (ac (rfl:(!false||false)=true) (ar 2 (ac (rfl:((Mp zC h_1.Domains):List AV)=(Mp zC (((⟨h_1,o_2⟩:zQ).Head).Domains))) (ac (rfl:(!false||false)=true) (ar 5 (ac (rfl:((Mp zJ h_1.Snaps):List AV)=(Mp zJ (((⟨h_1,o_2⟩:zQ).Head).Snaps))) (ac (rfl:(!false||false)=true) (ar 4 (ac (rfl:((Mp zA o_2):List AV)=(Mp zA ((⟨h_1,o_2⟩:zQ).Parts))) (ac (rfl:(!false||false)=true) an))))))))))))))) ?_
 refine rt ?_
 cases h
 exact ⟨.inr rfl,Nat.le_of_ble_eq_true rfl,by kernel_rfl⟩
theorem zC4 (F:Nat) (a_1:zL) (b_1:zL) (r:Bool) (h:nE F a_1 b_1=some r):zW prog 35 [] [] [yN a_1,yN b_1] [] (.bool r):=by
 refine yA (fn:=Go.Proofs.Try.f35) (code:=xC Go.Proofs.Try.f35) (by kernel_rfl) (by kernel_rfl) (Nat.le_of_ble_eq_true (by kernel_rfl)) ?_
 unfold nE at h
 refine sr [(0,{ id:=0 }),(1,{ id:=1 })] [2,3] [0,1] 2 [Pp 0,Pp 1] [Vb 26 (zM a_1),Vb 26 (zM b_1)] zG an ?_
 refine sq ?_
 refine sq ?_
 refine y9 (mk [(2,Pp 0),(3,Pp 1),(32,.bool (((lN (a_1.Threads)) != (lN (b_1.Threads)))||(((lN (a_1.Domains)) != (lN (b_1.Domains)))||((lN (a_1.Snaps)) != (lN (b_1.Snaps))))))] [(0,Vb 26 (zM a_1)),(1,Vb 26 (zM b_1))] 2) ?_ ?_
 ·rcases bft ((lN (a_1.Threads)) != (lN (b_1.Threads))) with zH | zH
  ·refine rg [(2,{ n:=(a_1.Threads).length }),(5,{ n:=(b_1.Threads).length }),(8,Hg),(9,Hg),(10,Hg),(11,Hg),(12,Hg),(13,Hg),(14,Hg),(15,Ht),(17,Hg),(18,Hg),(19,Hg),(20,Hg),(21,Hg),(22,Hg),(23,Hg),(24,Ht)] [2,3,32] [0,1] 2 [Pp 0,Pp 1,.bool true] [Vb 26 (zM a_1),Vb 26 (zM b_1)] zG (ac (z9 _:((Mp zF a_1.Threads)).length=(a_1.Threads).length) (ac (z9 _:((Mp zF b_1.Threads)).length=(b_1.Threads).length) (ac zH (ac zH (ac zH (ac zH (ac zH (ac zH (ac zH (ac zH (ax (ax (ax (ax (ax (ax (ax (ar true an)))))))))))))))))) ?_
   exact ⟨rfl,(sw [0,1] [] [.s 2,.s 3,.a 32 (.bool (((lN (a_1.Threads)) != (lN (b_1.Threads)))||(((lN (a_1.Domains)) != (lN (b_1.Domains)))||((lN (a_1.Snaps)) != (lN (b_1.Snaps))))))] [.s 0,.s 1] (ac (congrArg AV.bool (ort zH):(.bool true:AV)=.bool (((lN (a_1.Threads)) != (lN (b_1.Threads)))||(((lN (a_1.Domains)) != (lN (b_1.Domains)))||((lN (a_1.Snaps)) != (lN (b_1.Snaps)))))) an))⟩
  ·rcases bft ((lN (a_1.Domains)) != (lN (b_1.Domains))) with zI | zI
   ·refine rg [(2,{ n:=(a_1.Threads).length }),(5,{ n:=(b_1.Threads).length }),(10,{ n:=(a_1.Domains).length }),(13,{ n:=(b_1.Domains).length }),(15,Hf),(17,Hg),(18,Hg),(19,Hg),(20,Hg),(21,Hg),(22,Hg),(23,Hg),(24,Ht)] [2,3,32] [0,1] 2 [Pp 0,Pp 1,.bool true] [Vb 26 (zM a_1),Vb 26 (zM b_1)] zG (ac (z9 _:((Mp zF a_1.Threads)).length=(a_1.Threads).length) (ac (z9 _:((Mp zF b_1.Threads)).length=(b_1.Threads).length) (ac zH (ac zH (ac zH (ac (z9 _:((Mp zC a_1.Domains)).length=(a_1.Domains).length) (ac zH (ac zH (ac zH (ac (z9 _:((Mp zC b_1.Domains)).length=(b_1.Domains).length) (ac zH (ac zH (ac zI (ac zI (ac zI (ac zI (ac zI (ac zI (ac zI (ac zI an)))))))))))))))))))) ?_
    exact ⟨rfl,(sw [0,1] [] [.s 2,.s 3,.a 32 (.bool (((lN (a_1.Threads)) != (lN (b_1.Threads)))||(((lN (a_1.Domains)) != (lN (b_1.Domains)))||((lN (a_1.Snaps)) != (lN (b_1.Snaps))))))] [.s 0,.s 1] (ac (congrArg AV.bool (orf zH (ort zI)):(.bool true:AV)=.bool (((lN (a_1.Threads)) != (lN (b_1.Threads)))||(((lN (a_1.Domains)) != (lN (b_1.Domains)))||((lN (a_1.Snaps)) != (lN (b_1.Snaps)))))) an))⟩
   ·refine rg [(2,{ n:=(a_1.Threads).length }),(5,{ n:=(b_1.Threads).length }),(10,{ n:=(a_1.Domains).length }),(13,{ n:=(b_1.Domains).length }),(15,Hf),(19,{ n:=(a_1.Snaps).length }),(22,{ n:=(b_1.Snaps).length }),(24,Hf)] [2,3,32] [0,1] 2 [Pp 0,Pp 1,.bool ((lN (a_1.Snaps)) != (lN (b_1.Snaps)))] [Vb 26 (zM a_1),Vb 26 (zM b_1)] zG (ac (z9 _:((Mp zF a_1.Threads)).length=(a_1.Threads).length) (ac (z9 _:((Mp zF b_1.Threads)).length=(b_1.Threads).length) (ac zH (ac zH (ac zH (ac (z9 _:((Mp zC a_1.Domains)).length=(a_1.Domains).length) (ac zH (ac zH (ac zH (ac (z9 _:((Mp zC b_1.Domains)).length=(b_1.Domains).length) (ac zH (ac zH (ac zI (ac zI (ac zI (ac (z9 _:((Mp zJ a_1.Snaps)).length=(a_1.Snaps).length) (ac zI (ac zI (ac zI (ac (z9 _:((Mp zJ b_1.Snaps)).length=(b_1.Snaps).length) (ac zI (ac zI an)))))))))))))))))))))) ?_
    exact ⟨rfl,(sw [0,1] [] [.s 2,.s 3,.a 32 (.bool (((lN (a_1.Threads)) != (lN (b_1.Threads)))||(((lN (a_1.Domains)) != (lN (b_1.Domains)))||((lN (a_1.Snaps)) != (lN (b_1.Snaps))))))] [.s 0,.s 1] (ac (congrArg AV.bool (orf zH (orf zI rfl)):(.bool ((lN (a_1.Snaps)) != (lN (b_1.Snaps))):AV)=.bool (((lN (a_1.Threads)) != (lN (b_1.Threads)))||(((lN (a_1.Domains)) != (lN (b_1.Domains)))||((lN (a_1.Snaps)) != (lN (b_1.Snaps)))))) an))⟩
 refine cd 32 (((lN (a_1.Threads)) != (lN (b_1.Threads)))||(((lN (a_1.Domains)) != (lN (b_1.Domains)))||((lN (a_1.Snaps)) != (lN (b_1.Snaps))))) ?_ ?_
 ·intro g_1;replace h:=zP g_1 h
  refine sr [] [4] [] 2 [.bool false] [] zG an ?_
  refine rt ?_
  cases h
  exact ⟨.inr rfl,Nat.le_of_ble_eq_true rfl,by kernel_rfl⟩
 intro g_1;replace h:=zO g_1 h
 refine sk ?_
 refine sq ?_
 refine sr [] [2,3,5] [0,1] 2 [Pp 0,Pp 1,Ii 0] [Vb 26 (zM a_1),Vb 26 (zM b_1)] zG an ?_
 obtain ⟨o_1,h_1,h⟩:=bind_some h
 refine wK (K1:=(fun e st'=>match o_1 with | (.inl q0)=>e=.normal∧Sub 0 st' (mk [(2,Pp 0),(3,Pp 1)] [(0,Vb 26 (zM a_1)),(1,Vb 26 (zM b_1))] 2) | (.inr q1)=>e=.ret∧uF prog Go.Proofs.Try.f35 0 [] (.bool q1) st')) ?_ ?_
 ·replace h:=h_1
  refine yC (id:=0) (by kernel_rfl) ?_
  refine wk [0,1] [] [.s 2,.s 3,.s 5] [.s 0,.s 1] [(2,Pp 0),(3,Pp 1),(5,Ii 0)] [(0,Vb 26 (zM a_1)),(1,Vb 26 (zM b_1))] an ?_
  refine xH (fun n st=>∃ (i_1:Int),st=mk [(2,Pp 0),(3,Pp 1),(5,Ii i_1)] [(0,Vb 26 (zM a_1)),(1,Vb 26 (zM b_1))] 2∧j3 F a_1 b_1 n i_1=some o_1) F (by kernel_rfl) ⟨_,rfl,h⟩ ?_ ?_
  ·rintro _ ⟨_,_,h⟩;exact xX (h:(none:Option (Unit⊕Bool))=some o_1)
  rintro n_1 _ ⟨i_1,rfl,h⟩
  replace h:v5 F a_1 b_1 (j3 F a_1 b_1 n_1) i_1=some o_1:=h
  unfold v5 at h
  refine sq ?_
  refine sr [(3,{ n:=(a_1.Threads).length })] [2,3,5,37] [0,1] 2 [Pp 0,Pp 1,Ii i_1,.bool (decide (i_1<(lN (a_1.Threads))))] [Vb 26 (zM a_1),Vb 26 (zM b_1)] zG (ac (z9 _:((Mp zF a_1.Threads)).length=(a_1.Threads).length) an) ?_
  refine cd 37 (decide (i_1<(lN (a_1.Threads)))) ?_ ?_
  rotate_left
  ·intro g_2;replace h:=zO g_2 h
   refine xS (id:=0) (by kernel_rfl) ?_
   cases h
   exact ⟨rfl,(sw [0,1] [] [.s 2,.s 3] [.s 0,.s 1] an)⟩
  intro g_2;replace h:=zP g_2 h
  refine sk ?_
  refine sq ?_
  refine yC (id:=1) (by kernel_rfl) ?_
  refine sq ?_
  obtain ⟨x_1,h_2,h⟩:=bind_some h
  obtain ⟨x_2,h_3,h⟩:=bind_some h
  refine rg [(3,{ av:=zF x_1 }),(8,{ av:=zF x_2 }),(10,{ b:=(decide (x_1=x_2)),mks:=[.int .i64,.str,.int .i64] })] [2,3,5,50] [0,1] 2 [Pp 0,Pp 1,Ii i_1,.bool (!(decide (x_1=x_2)))] [Vb 26 (zM a_1),Vb 26 (zM b_1)] zG (ac (yP h_2:xG (Mp zF a_1.Threads) i_1=some (zF x_1)) (ac (yP h_3:xG (Mp zF b_1.Threads) i_1=some (zF x_2)) (ac (zK8:jK prog 66 [.int .i64,.str,.int .i64]) (ac (pM (f:=zF) zCw x_1 x_2:((decide (x_1=x_2))=true↔AV.agg [Ii x_1.Id,.str x_1.Name,Ii x_1.Domain]=AV.agg [Ii x_2.Id,.str x_2.Name,Ii x_2.Domain])) an)))) ?_
  refine cd 50 (!(decide (x_1=x_2))) ?_ ?_
  rotate_left
  ·intro g_3;replace h:=zO g_3 h
   refine sk ?_
   refine rg [] [2,3,5] [0,1] 2 [Pp 0,Pp 1,Ii (zR (i_1+(1:Int)))] [Vb 26 (zM a_1),Vb 26 (zM b_1)] zG an ?_
   exact ⟨_,(sw [0,1] [] [.s 2,.s 3,.s 5] [.s 0,.s 1] an),_,rfl,h⟩
  intro g_3;replace h:=zP g_3 h
  refine sr [] [4] [] 2 [.bool false] [] zG an ?_
  refine rt ?_
  cases h
  exact ⟨rfl,Nat.le_of_ble_eq_true rfl,by kernel_rfl⟩
 intro e st1 hk
 rcases o_1 with q_1 | q_2
 rotate_left
 ·obtain ⟨rfl,hf⟩:=hk
  cases h
  exact ⟨st1,Sub.refl _ _,.inr rfl,hf⟩
 obtain ⟨rfl,hs⟩:=hk
 refine ⟨_,hs,?_⟩
 refine sq ?_
 refine sr [] [2,3,6] [0,1] 2 [Pp 0,Pp 1,Ii 0] [Vb 26 (zM a_1),Vb 26 (zM b_1)] zG an ?_
 obtain ⟨o_2,h_4,h⟩:=bind_some h
 refine wK (K1:=(fun e st'=>match o_2 with | (.inl q0)=>e=.normal∧Sub 0 st' (mk [(2,Pp 0),(3,Pp 1)] [(0,Vb 26 (zM a_1)),(1,Vb 26 (zM b_1))] 2) | (.inr q1)=>e=.ret∧uF prog Go.Proofs.Try.f35 0 [] (.bool q1) st')) ?_ ?_
 ·replace h:=h_4
  refine yC (id:=2) (by kernel_rfl) ?_
  refine wk [0,1] [] [.s 2,.s 3,.s 6] [.s 0,.s 1] [(2,Pp 0),(3,Pp 1),(6,Ii 0)] [(0,Vb 26 (zM a_1)),(1,Vb 26 (zM b_1))] an ?_
  refine xH (fun n st=>∃ (i_2:Int),st=mk [(2,Pp 0),(3,Pp 1),(6,Ii i_2)] [(0,Vb 26 (zM a_1)),(1,Vb 26 (zM b_1))] 2∧jZ F a_1 b_1 n i_2=some o_2) F (by kernel_rfl) ⟨_,rfl,h⟩ ?_ ?_
  ·rintro _ ⟨_,_,h⟩;exact xX (h:(none:Option (Unit⊕Bool))=some o_2)
  rintro n_2 _ ⟨i_2,rfl,h⟩
  replace h:v8 F a_1 b_1 (jZ F a_1 b_1 n_2) i_2=some o_2:=h
  unfold v8 at h
  refine sq ?_
  refine sr [(3,{ n:=(a_1.Domains).length })] [2,3,6,55] [0,1] 2 [Pp 0,Pp 1,Ii i_2,.bool (decide (i_2<(lN (a_1.Domains))))] [Vb 26 (zM a_1),Vb 26 (zM b_1)] zG (ac (z9 _:((Mp zC a_1.Domains)).length=(a_1.Domains).length) an) ?_
  refine cd 55 (decide (i_2<(lN (a_1.Domains)))) ?_ ?_
  rotate_left
  ·intro g_4;replace h:=zO g_4 h
   refine xS (id:=2) (by kernel_rfl) ?_
   cases h
   exact ⟨rfl,(sw [0,1] [] [.s 2,.s 3] [.s 0,.s 1] an)⟩
  intro g_4;replace h:=zP g_4 h
  refine sk ?_
  refine sq ?_
  refine yC (id:=3) (by kernel_rfl) ?_
  refine sq ?_
  obtain ⟨x_3,h_5,h⟩:=bind_some h
  obtain ⟨x_4,h_6,h⟩:=bind_some h
  refine rg [(3,{ av:=zC x_3 }),(8,{ av:=zC x_4 }),(10,{ b:=(decide (x_3=x_4)),mks:=[.int .i64,.int .i64] })] [2,3,6,68] [0,1] 2 [Pp 0,Pp 1,Ii i_2,.bool (!(decide (x_3=x_4)))] [Vb 26 (zM a_1),Vb 26 (zM b_1)] zG (ac (yP h_5:xG (Mp zC a_1.Domains) i_2=some (zC x_3)) (ac (yP h_6:xG (Mp zC b_1.Domains) i_2=some (zC x_4)) (ac (zHL:jK prog 68 [.int .i64,.int .i64]) (ac (pM (f:=zC) zAF x_3 x_4:((decide (x_3=x_4))=true↔AV.agg [Ii x_3.Id,Ii x_3.Ppm]=AV.agg [Ii x_4.Id,Ii x_4.Ppm])) an)))) ?_
  refine cd 68 (!(decide (x_3=x_4))) ?_ ?_
  rotate_left
  ·intro g_5;replace h:=zO g_5 h
   refine sk ?_
   refine rg [] [2,3,6] [0,1] 2 [Pp 0,Pp 1,Ii (zR (i_2+(1:Int)))] [Vb 26 (zM a_1),Vb 26 (zM b_1)] zG an ?_
   exact ⟨_,(sw [0,1] [] [.s 2,.s 3,.s 6] [.s 0,.s 1] an),_,rfl,h⟩
  intro g_5;replace h:=zP g_5 h
  refine sr [] [4] [] 2 [.bool false] [] zG an ?_
  refine rt ?_
  cases h
  exact ⟨rfl,Nat.le_of_ble_eq_true rfl,by kernel_rfl⟩
 intro e st1 hk
 rcases o_2 with q_3 | q_4
 rotate_left
 ·obtain ⟨rfl,hf⟩:=hk
  cases h
  exact ⟨st1,Sub.refl _ _,.inr rfl,hf⟩
 obtain ⟨rfl,hs⟩:=hk
 refine ⟨_,hs,?_⟩
 refine sq ?_
 refine sr [] [2,3,7] [0,1] 2 [Pp 0,Pp 1,Ii 0] [Vb 26 (zM a_1),Vb 26 (zM b_1)] zG an ?_
 obtain ⟨o_3,h_7,h⟩:=bind_some h
 refine wK (K1:=(fun e st'=>match o_3 with | (.inl q0)=>e=.normal∧Sub 0 st' (mk [] [] 0) | (.inr q1)=>e=.ret∧uF prog Go.Proofs.Try.f35 0 [] (.bool q1) st')) ?_ ?_
 ·replace h:=h_7
  refine yC (id:=4) (by kernel_rfl) ?_
  refine wk [0,1] [] [.s 2,.s 3,.s 7] [.s 0,.s 1] [(2,Pp 0),(3,Pp 1),(7,Ii 0)] [(0,Vb 26 (zM a_1)),(1,Vb 26 (zM b_1))] an ?_
  refine xH (fun n st=>∃ (i_3:Int),st=mk [(2,Pp 0),(3,Pp 1),(7,Ii i_3)] [(0,Vb 26 (zM a_1)),(1,Vb 26 (zM b_1))] 2∧jR F a_1 b_1 n i_3=some o_3) F (by kernel_rfl) ⟨_,rfl,h⟩ ?_ ?_
  ·rintro _ ⟨_,_,h⟩;exact xX (h:(none:Option (Unit⊕Bool))=some o_3)
  rintro n_3 _ ⟨i_3,rfl,h⟩
  replace h:v4 F a_1 b_1 (jR F a_1 b_1 n_3) i_3=some o_3:=h
  unfold v4 at h
  refine sq ?_
  refine sr [(3,{ n:=(a_1.Snaps).length })] [2,3,7,73] [0,1] 2 [Pp 0,Pp 1,Ii i_3,.bool (decide (i_3<(lN (a_1.Snaps))))] [Vb 26 (zM a_1),Vb 26 (zM b_1)] zG (ac (z9 _:((Mp zJ a_1.Snaps)).length=(a_1.Snaps).length) an) ?_
  refine cd 73 (decide (i_3<(lN (a_1.Snaps)))) ?_ ?_
  rotate_left
  ·intro g_6;replace h:=zO g_6 h
   refine xS (id:=4) (by kernel_rfl) ?_
   cases h
   exact ⟨rfl,(sw [] [] [] [] an)⟩
  intro g_6;replace h:=zP g_6 h
  refine sk ?_
  refine sq ?_
  refine yC (id:=5) (by kernel_rfl) ?_
  refine sq ?_
  obtain ⟨x_5,h_8,h⟩:=bind_some h
  obtain ⟨x_6,h_9,h⟩:=bind_some h
  refine rg [(3,{ av:=zJ x_5 }),(8,{ av:=zJ x_6 }),(10,{ b:=(decide (x_5=x_6)),mks:=[.int .i64,.int .i64,.int .i64,.int .i64,.int .i64] })] [2,3,7,86] [0,1] 2 [Pp 0,Pp 1,Ii i_3,.bool (!(decide (x_5=x_6)))] [Vb 26 (zM a_1),Vb 26 (zM b_1)] zG (ac (yP h_8:xG (Mp zJ a_1.Snaps) i_3=some (zJ x_5)) (ac (yP h_9:xG (Mp zJ b_1.Snaps) i_3=some (zJ x_6)) (ac (zKZ:jK prog 86 [.int .i64,.int .i64,.int .i64,.int .i64,.int .i64]) (ac (pM (f:=zJ) zDB x_5 x_6:((decide (x_5=x_6))=true↔AV.agg [Ii x_5.A,Ii x_5.AtA,Ii x_5.B,Ii x_5.AtB.Lo,Ii x_5.AtB.Hi]=AV.agg [Ii x_6.A,Ii x_6.AtA,Ii x_6.B,Ii x_6.AtB.Lo,Ii x_6.AtB.Hi])) an)))) ?_
  refine cd 86 (!(decide (x_5=x_6))) ?_ ?_
  rotate_left
  ·intro g_7;replace h:=zO g_7 h
   refine sk ?_
   refine rg [] [2,3,7] [0,1] 2 [Pp 0,Pp 1,Ii (zR (i_3+(1:Int)))] [Vb 26 (zM a_1),Vb 26 (zM b_1)] zG an ?_
   exact ⟨_,(sw [0,1] [] [.s 2,.s 3,.s 7] [.s 0,.s 1] an),_,rfl,h⟩
  intro g_7;replace h:=zP g_7 h
  refine sr [] [4] [] 2 [.bool false] [] zG an ?_
  refine rt ?_
  cases h
  exact ⟨rfl,Nat.le_of_ble_eq_true rfl,by kernel_rfl⟩
 intro e st1 hk
 rcases o_3 with q_5 | q_6
 rotate_left
 ·obtain ⟨rfl,hf⟩:=hk
  cases h
  exact ⟨st1,Sub.refl _ _,.inr rfl,hf⟩
 obtain ⟨rfl,hs⟩:=hk
 refine ⟨_,hs,?_⟩
 refine sr [] [4] [] 0 [.bool true] [] zG an ?_
 refine rt ?_
 cases h
 exact ⟨.inr rfl,Nat.le_of_ble_eq_true rfl,by kernel_rfl⟩
theorem zJY (F:Nat) (a_1:List (List Int)) (b_1:List (List Int)) (r:Bool) (h:zBN F a_1 b_1=some r):zW prog 83 [] [] [.sl false 1 (Ms a_1),.sl false 1 (Ms b_1)] [] (.bool r):=by
 refine yA (fn:=Go.Proofs.Try.f83) (code:=xC Go.Proofs.Try.f83) (by kernel_rfl) (by kernel_rfl) (Nat.le_of_ble_eq_true (by kernel_rfl)) ?_
 unfold zBN at h
 refine sr [] [0,1] [] 0 [.sl false 1 (Ms a_1),.sl false 1 (Ms b_1)] [] zG an ?_
 refine sq ?_
 refine sr [(1,{ n:=(a_1).length }),(3,{ n:=(b_1).length })] [0,1,10] [] 0 [.sl false 1 (Ms a_1),.sl false 1 (Ms b_1),.bool ((lN (a_1)) != (lN (b_1)))] [] zG (ac (z9 _:((Ms a_1)).length=(a_1).length) (ac (z9 _:((Ms b_1)).length=(b_1).length) an)) ?_
 refine cd 10 ((lN (a_1)) != (lN (b_1))) ?_ ?_
 ·intro g_1;replace h:=zP g_1 h
  refine sr [] [4] [] 0 [.bool false] [] zG an ?_
  refine rt ?_
  cases h
  exact ⟨.inr rfl,Nat.le_of_ble_eq_true rfl,by kernel_rfl⟩
 intro g_1;replace h:=zO g_1 h
 refine sk ?_
 refine sq ?_
 refine sr [] [0,1,5] [] 0 [.sl false 1 (Ms a_1),.sl false 1 (Ms b_1),Ii 0] [] zG an ?_
 obtain ⟨o_1,h_1,h⟩:=bind_some h
 refine wK (K1:=(fun e st'=>match o_1 with | (.inl q0)=>e=.normal∧Sub 0 st' (mk [] [] 0) | (.inr q1)=>e=.ret∧uF prog Go.Proofs.Try.f83 0 [] (.bool q1) st')) ?_ ?_
 ·replace h:=h_1
  refine yC (id:=0) (by kernel_rfl) ?_
  refine wk [] [] [.s 0,.s 1,.s 5] [] [(0,.sl false 1 (Ms a_1)),(1,.sl false 1 (Ms b_1)),(5,Ii 0)] [] an ?_
  refine xH (fun n st=>∃ (i_1:Int),st=mk [(0,.sl false 1 (Ms a_1)),(1,.sl false 1 (Ms b_1)),(5,Ii i_1)] [] 0∧nG F a_1 b_1 n i_1=some o_1) F (by kernel_rfl) ⟨_,rfl,h⟩ ?_ ?_
  ·rintro _ ⟨_,_,h⟩;exact xX (h:(none:Option (Unit⊕Bool))=some o_1)
  rintro n_1 _ ⟨i_1,rfl,h⟩
  replace h:u7 F a_1 b_1 (nG F a_1 b_1 n_1) i_1=some o_1:=h
  unfold u7 at h
  refine sq ?_
  refine sr [(2,{ n:=(a_1).length })] [0,1,5,14] [] 0 [.sl false 1 (Ms a_1),.sl false 1 (Ms b_1),Ii i_1,.bool (decide (i_1<(lN (a_1))))] [] zG (ac (z9 _:((Ms a_1)).length=(a_1).length) an) ?_
  refine cd 14 (decide (i_1<(lN (a_1)))) ?_ ?_
  rotate_left
  ·intro g_2;replace h:=zO g_2 h
   refine xS (id:=0) (by kernel_rfl) ?_
   cases h
   exact ⟨rfl,(sw [] [] [] [] an)⟩
  intro g_2;replace h:=zP g_2 h
  refine sk ?_
  refine sq ?_
  refine yC (id:=1) (by kernel_rfl) ?_
  refine sq ?_
  obtain ⟨x_1,h_2,h⟩:=bind_some h
  obtain ⟨x_2,h_3,h⟩:=bind_some h
  refine rg [(2,{ av:=.str x_1 }),(6,{ av:=.str x_2 })] [0,1,5,25] [] 0 [.sl false 1 (Ms a_1),.sl false 1 (Ms b_1),Ii i_1,.bool (!(x_1==x_2))] [] zG (ac (yP h_2:xG (Ms a_1) i_1=some (.str x_1)) (ac (yP h_3:xG (Ms b_1) i_1=some (.str x_2)) an)) ?_
  refine cd 25 (!(x_1==x_2)) ?_ ?_
  rotate_left
  ·intro g_3;replace h:=zO g_3 h
   refine sk ?_
   refine rg [] [0,1,5] [] 0 [.sl false 1 (Ms a_1),.sl false 1 (Ms b_1),Ii (zR (i_1+(1:Int)))] [] zG an ?_
   exact ⟨_,(sw [] [] [.s 0,.s 1,.s 5] [] an),_,rfl,h⟩
  intro g_3;replace h:=zP g_3 h
  refine sr [] [4] [] 0 [.bool false] [] zG an ?_
  refine rt ?_
  cases h
  exact ⟨rfl,Nat.le_of_ble_eq_true rfl,by kernel_rfl⟩
 intro e st1 hk
 rcases o_1 with q_1 | q_2
 rotate_left
 ·obtain ⟨rfl,hf⟩:=hk
  cases h
  exact ⟨st1,Sub.refl _ _,.inr rfl,hf⟩
 obtain ⟨rfl,hs⟩:=hk
 refine ⟨_,hs,?_⟩
 refine sr [] [4] [] 0 [.bool true] [] zG an ?_
 refine rt ?_
 cases h
 exact ⟨.inr rfl,Nat.le_of_ble_eq_true rfl,by kernel_rfl⟩
theorem zKz (F:Nat) (a_1:zK) (b_1:zK) (r:Bool) (h:zCz F a_1 b_1=some r):zW prog 72 [] [] [zD a_1,zD b_1] [] (.bool r):=by
 refine yA (fn:=Go.Proofs.Try.f72) (code:=xC Go.Proofs.Try.f72) (by kernel_rfl) (by kernel_rfl) (Nat.le_of_ble_eq_true (by kernel_rfl)) ?_
 unfold zCz at h
 refine sr [(0,{ id:=0 }),(1,{ id:=1 })] [2,3] [0,1] 2 [Pp 0,Pp 1] [Vb 42 (zU a_1),Vb 42 (zU b_1)] zG an ?_
 refine sq ?_
 obtain ⟨p_1,h_2,h⟩:=bind_some h
 refine y9 (mk [(4,.bool p_1)] [] 0) ?_ ?_
 ·replace h:=h_2
  rcases bft (a_1.At==b_1.At) with zH | zH
  ·replace h:=zP zH h
   rcases bft (a_1.Kind==b_1.Kind) with zI | zI
   ·replace h:=zP zI h
    rcases bft (a_1.Name==b_1.Name) with zN | zN
    ·replace h:=zP zN h
     rcases bft (a_1.N==b_1.N) with zV | zV
     ·replace h:=zP zV h
      rcases bft (a_1.M==b_1.M) with yF | yF
      ·replace h:=zP yF h
       obtain ⟨r_1,h_1,h⟩:=bind_some h
       refine rg [(11,Ht),(18,Ht),(25,Ht),(32,Ht),(38,{ av:=.bool r_1,l:=[.sl false 1 (Ms a_1.Stack),.sl false 1 (Ms b_1.Stack)] }),(39,Ht)] [4] [] 2 [.bool r_1] [] zG (ac zH (ac zH (ac zH (ac zH (ac zH (ac zH (ac zI (ac zI (ac zI (ac zI (ac zI (ac zI (ac zN (ac zN (ac zN (ac zN (ac zN (ac zN (ac zV (ac zV (ac zV (ac zV (ac zV (ac zV (ac yF (ac yF (ac yF (ac yF (ac yF (ar ([.sl false 1 (Ms a_1.Stack),.sl false 1 (Ms b_1.Stack)]:List AV) (ac (rfl:([]:List zT)=[]) (ac (zJY F a_1.Stack b_1.Stack r_1 h_1:zW prog 83 [] [] [.sl false 1 (Ms a_1.Stack),.sl false 1 (Ms b_1.Stack)] [] (.bool r_1)) (ac yF an))))))))))))))))))))))))))))))))) ?_
       cases h
       exact ⟨rfl,(sw [] [] [.s 4] [] an)⟩
      ·replace h:=zO yF h
       refine rg [(11,Ht),(18,Ht),(25,Ht),(32,Ht),(34,Hg),(35,Hg),(36,Hg),(37,Hg),(38,Hg),(39,Hf)] [4] [] 2 [.bool false] [] zG (ac zH (ac zH (ac zH (ac zH (ac zH (ac zH (ac zI (ac zI (ac zI (ac zI (ac zI (ac zI (ac zN (ac zN (ac zN (ac zN (ac zN (ac zN (ac zV (ac zV (ac zV (ac zV (ac zV (ac zV (ac yF (ac yF (ac yF (ac yF (ac yF (ac yF an)))))))))))))))))))))))))))))) ?_
       cases h
       exact ⟨rfl,(sw [] [] [.s 4] [] an)⟩
     ·replace h:=zO zV h
      refine rg [(11,Ht),(18,Ht),(25,Ht),(27,Hg),(28,Hg),(29,Hg),(30,Hg),(31,Hg),(32,Hf),(34,Hg),(35,Hg),(36,Hg),(37,Hg),(38,Hg),(39,Hf)] [4] [] 2 [.bool false] [] zG (ac zH (ac zH (ac zH (ac zH (ac zH (ac zH (ac zI (ac zI (ac zI (ac zI (ac zI (ac zI (ac zN (ac zN (ac zN (ac zN (ac zN (ac zN (ac zV (ac zV (ac zV (ac zV (ac zV (ac zV (ac (rfl:false=!true) (ac (rfl:false=!true) (ac (rfl:false=!true) (ac (rfl:false=!true) (ac (rfl:false=!true) (ar false an)))))))))))))))))))))))))))))) ?_
      cases h
      exact ⟨rfl,(sw [] [] [.s 4] [] an)⟩
    ·replace h:=zO zN h
     refine rg [(11,Ht),(18,Ht),(20,Hg),(21,Hg),(22,Hg),(23,Hg),(24,Hg),(25,Hf),(27,Hg),(28,Hg),(29,Hg),(30,Hg),(31,Hg),(32,Hf),(34,Hg),(35,Hg),(36,Hg),(37,Hg),(38,Hg),(39,Hf)] [4] [] 2 [.bool false] [] zG (ac zH (ac zH (ac zH (ac zH (ac zH (ac zH (ac zI (ac zI (ac zI (ac zI (ac zI (ac zI (ac zN (ac zN (ac zN (ac zN (ac zN (ac zN (ac (rfl:false=!true) (ac (rfl:false=!true) (ac (rfl:false=!true) (ac (rfl:false=!true) (ac (rfl:false=!true) (ar false (ac (rfl:false=!true) (ac (rfl:false=!true) (ac (rfl:false=!true) (ac (rfl:false=!true) (ac (rfl:false=!true) (ar false an)))))))))))))))))))))))))))))) ?_
     cases h
     exact ⟨rfl,(sw [] [] [.s 4] [] an)⟩
   ·replace h:=zO zI h
    refine rg [(11,Ht),(13,Hg),(14,Hg),(15,Hg),(16,Hg),(17,Hg),(18,Hf),(20,Hg),(21,Hg),(22,Hg),(23,Hg),(24,Hg),(25,Hf),(27,Hg),(28,Hg),(29,Hg),(30,Hg),(31,Hg),(32,Hf),(34,Hg),(35,Hg),(36,Hg),(37,Hg),(38,Hg),(39,Hf)] [4] [] 2 [.bool false] [] zG (ac zH (ac zH (ac zH (ac zH (ac zH (ac zH (ac zI (ac zI (ac zI (ac zI (ac zI (ac zI (ac (rfl:false=!true) (ac (rfl:false=!true) (ac (rfl:false=!true) (ac (rfl:false=!true) (ac (rfl:false=!true) (ar false (ac (rfl:false=!true) (ac (rfl:false=!true) (ac (rfl:false=!true) (ac (rfl:false=!true) (ac (rfl:false=!true) (ar false (ac (rfl:false=!true) (ac (rfl:false=!true) (ac (rfl:false=!true) (ac (rfl:false=!true) (ac (rfl:false=!true) (ar false an)))))))))))))))))))))))))))))) ?_
    cases h
    exact ⟨rfl,(sw [] [] [.s 4] [] an)⟩
  ·replace h:=zO zH h
   refine rg [(6,Hg),(7,Hg),(8,Hg),(9,Hg),(10,Hg),(11,Hf),(13,Hg),(14,Hg),(15,Hg),(16,Hg),(17,Hg),(18,Hf),(20,Hg),(21,Hg),(22,Hg),(23,Hg),(24,Hg),(25,Hf),(27,Hg),(28,Hg),(29,Hg),(30,Hg),(31,Hg),(32,Hf),(34,Hg),(35,Hg),(36,Hg),(37,Hg),(38,Hg),(39,Hf)] [4] [] 2 [.bool false] [] zG (ac zH (ac zH (ac zH (ac zH (ac zH (ac zH (ac (rfl:false=!true) (ac (rfl:false=!true) (ac (rfl:false=!true) (ac (rfl:false=!true) (ac (rfl:false=!true) (ar false (ac (rfl:false=!true) (ac (rfl:false=!true) (ac (rfl:false=!true) (ac (rfl:false=!true) (ac (rfl:false=!true) (ar false (ac (rfl:false=!true) (ac (rfl:false=!true) (ac (rfl:false=!true) (ac (rfl:false=!true) (ac (rfl:false=!true) (ar false (ac (rfl:false=!true) (ac (rfl:false=!true) (ac (rfl:false=!true) (ac (rfl:false=!true) (ac (rfl:false=!true) (ar false an)))))))))))))))))))))))))))))) ?_
   cases h
   exact ⟨rfl,(sw [] [] [.s 4] [] an)⟩
 refine rt ?_
 cases h
 exact ⟨.inr rfl,Nat.le_of_ble_eq_true rfl,by kernel_rfl⟩
theorem zKx (F:Nat) (a_1:zB) (b_1:zB) (r:Bool) (h:zCp F a_1 b_1=some r):zW prog 58 [] [] [zA a_1,zA b_1] [] (.bool r):=by
 refine yA (fn:=Go.Proofs.Try.f58) (code:=xC Go.Proofs.Try.f58) (by kernel_rfl) (by kernel_rfl) (Nat.le_of_ble_eq_true (by kernel_rfl)) ?_
 unfold zCp at h
 refine sr [(0,{ id:=0 }),(1,{ id:=1 })] [2,3] [0,1] 2 [Pp 0,Pp 1] [Vb 59 (zZ a_1),Vb 59 (zZ b_1)] zG an ?_
 refine sq ?_
 refine sq ?_
 refine y9 (mk [(2,Pp 0),(3,Pp 1),(33,.bool ((a_1.Thread != b_1.Thread)||((a_1.Serial != b_1.Serial)||((a_1.Lost != b_1.Lost)||((lN (a_1.Events)) != (lN (b_1.Events)))))))] [(0,Vb 59 (zZ a_1)),(1,Vb 59 (zZ b_1))] 2) ?_ ?_
 ·rcases bft (a_1.Thread != b_1.Thread) with zH | zH
  ·refine rg [(6,Hg),(7,Hg),(8,Hg),(9,Hg),(10,Hg),(11,Ht),(13,Hg),(14,Hg),(15,Hg),(16,Hg),(17,Hg),(18,Ht),(20,Hg),(21,Hg),(22,Hg),(23,Hg),(24,Hg),(25,Hg),(26,Hg),(27,Ht)] [2,3,33] [0,1] 2 [Pp 0,Pp 1,.bool true] [Vb 59 (zZ a_1),Vb 59 (zZ b_1)] zG (ac zH (ac zH (ac zH (ac zH (ac zH (ac zH (ax (ax (ax (ax (ax (ar true (ax (ax (ax (ax (ax (ax (ax (ar true an)))))))))))))))))))) ?_
   exact ⟨rfl,(sw [0,1] [] [.s 2,.s 3,.a 33 (.bool ((a_1.Thread != b_1.Thread)||((a_1.Serial != b_1.Serial)||((a_1.Lost != b_1.Lost)||((lN (a_1.Events)) != (lN (b_1.Events)))))))] [.s 0,.s 1] (ac (congrArg AV.bool (ort zH):(.bool true:AV)=.bool ((a_1.Thread != b_1.Thread)||((a_1.Serial != b_1.Serial)||((a_1.Lost != b_1.Lost)||((lN (a_1.Events)) != (lN (b_1.Events))))))) an))⟩
  ·rcases bft (a_1.Serial != b_1.Serial) with zI | zI
   ·refine rg [(11,Hf),(13,Hg),(14,Hg),(15,Hg),(16,Hg),(17,Hg),(18,Ht),(20,Hg),(21,Hg),(22,Hg),(23,Hg),(24,Hg),(25,Hg),(26,Hg),(27,Ht)] [2,3,33] [0,1] 2 [Pp 0,Pp 1,.bool true] [Vb 59 (zZ a_1),Vb 59 (zZ b_1)] zG (ac zH (ac zH (ac zH (ac zH (ac zH (ac zH (ac zI (ac zI (ac zI (ac zI (ac zI (ac zI (ax (ax (ax (ax (ax (ax (ax (ar true an)))))))))))))))))))) ?_
    exact ⟨rfl,(sw [0,1] [] [.s 2,.s 3,.a 33 (.bool ((a_1.Thread != b_1.Thread)||((a_1.Serial != b_1.Serial)||((a_1.Lost != b_1.Lost)||((lN (a_1.Events)) != (lN (b_1.Events)))))))] [.s 0,.s 1] (ac (congrArg AV.bool (orf zH (ort zI)):(.bool true:AV)=.bool ((a_1.Thread != b_1.Thread)||((a_1.Serial != b_1.Serial)||((a_1.Lost != b_1.Lost)||((lN (a_1.Events)) != (lN (b_1.Events))))))) an))⟩
   ·rcases bft (a_1.Lost != b_1.Lost) with zN | zN
    ·refine rg [(11,Hf),(18,Hf),(20,Hg),(21,Hg),(22,Hg),(23,Hg),(24,Hg),(25,Hg),(26,Hg),(27,Ht)] [2,3,33] [0,1] 2 [Pp 0,Pp 1,.bool true] [Vb 59 (zZ a_1),Vb 59 (zZ b_1)] zG (ac zH (ac zH (ac zH (ac zH (ac zH (ac zH (ac zI (ac zI (ac zI (ac zI (ac zI (ac zI (ac zN (ac zN (ac zN (ac zN (ac zN (ac zN (ac zN (ac zN an)))))))))))))))))))) ?_
     exact ⟨rfl,(sw [0,1] [] [.s 2,.s 3,.a 33 (.bool ((a_1.Thread != b_1.Thread)||((a_1.Serial != b_1.Serial)||((a_1.Lost != b_1.Lost)||((lN (a_1.Events)) != (lN (b_1.Events)))))))] [.s 0,.s 1] (ac (congrArg AV.bool (orf zH (orf zI (ort zN))):(.bool true:AV)=.bool ((a_1.Thread != b_1.Thread)||((a_1.Serial != b_1.Serial)||((a_1.Lost != b_1.Lost)||((lN (a_1.Events)) != (lN (b_1.Events))))))) an))⟩
    ·refine rg [(11,Hf),(18,Hf),(22,{ n:=(a_1.Events).length }),(25,{ n:=(b_1.Events).length }),(27,Hf)] [2,3,33] [0,1] 2 [Pp 0,Pp 1,.bool ((lN (a_1.Events)) != (lN (b_1.Events)))] [Vb 59 (zZ a_1),Vb 59 (zZ b_1)] zG (ac zH (ac zH (ac zH (ac zH (ac zH (ac zH (ac zI (ac zI (ac zI (ac zI (ac zI (ac zI (ac zN (ac zN (ac zN (ac (z9 _:((Mp zD a_1.Events)).length=(a_1.Events).length) (ac zN (ac zN (ac zN (ac (z9 _:((Mp zD b_1.Events)).length=(b_1.Events).length) (ac zN (ac zN an)))))))))))))))))))))) ?_
     exact ⟨rfl,(sw [0,1] [] [.s 2,.s 3,.a 33 (.bool ((a_1.Thread != b_1.Thread)||((a_1.Serial != b_1.Serial)||((a_1.Lost != b_1.Lost)||((lN (a_1.Events)) != (lN (b_1.Events)))))))] [.s 0,.s 1] (ac (congrArg AV.bool (orf zH (orf zI (orf zN rfl))):(.bool ((lN (a_1.Events)) != (lN (b_1.Events))):AV)=.bool ((a_1.Thread != b_1.Thread)||((a_1.Serial != b_1.Serial)||((a_1.Lost != b_1.Lost)||((lN (a_1.Events)) != (lN (b_1.Events))))))) an))⟩
 refine cd 33 ((a_1.Thread != b_1.Thread)||((a_1.Serial != b_1.Serial)||((a_1.Lost != b_1.Lost)||((lN (a_1.Events)) != (lN (b_1.Events)))))) ?_ ?_
 ·intro g_1;replace h:=zP g_1 h
  refine sr [] [4] [] 2 [.bool false] [] zG an ?_
  refine rt ?_
  cases h
  exact ⟨.inr rfl,Nat.le_of_ble_eq_true rfl,by kernel_rfl⟩
 intro g_1;replace h:=zO g_1 h
 refine sk ?_
 refine sq ?_
 refine sr [] [2,3,5] [0,1] 2 [Pp 0,Pp 1,Ii 0] [Vb 59 (zZ a_1),Vb 59 (zZ b_1)] zG an ?_
 obtain ⟨o_1,h_1,h⟩:=bind_some h
 refine wK (K1:=(fun e st'=>match o_1 with | (.inl q0)=>e=.normal∧Sub 0 st' (mk [] [] 0) | (.inr q1)=>e=.ret∧uF prog Go.Proofs.Try.f58 0 [] (.bool q1) st')) ?_ ?_
 ·replace h:=h_1
  refine yC (id:=0) (by kernel_rfl) ?_
  refine wk [0,1] [] [.s 2,.s 3,.s 5] [.s 0,.s 1] [(2,Pp 0),(3,Pp 1),(5,Ii 0)] [(0,Vb 59 (zZ a_1)),(1,Vb 59 (zZ b_1))] an ?_
  refine xH (fun n st=>∃ (i_1:Int),st=mk [(2,Pp 0),(3,Pp 1),(5,Ii i_1)] [(0,Vb 59 (zZ a_1)),(1,Vb 59 (zZ b_1))] 2∧zAq F a_1 b_1 n i_1=some o_1) F (by kernel_rfl) ⟨_,rfl,h⟩ ?_ ?_
  ·rintro _ ⟨_,_,h⟩;exact xX (h:(none:Option (Unit⊕Bool))=some o_1)
  rintro n_1 _ ⟨i_1,rfl,h⟩
  replace h:tR F a_1 b_1 (zAq F a_1 b_1 n_1) i_1=some o_1:=h
  unfold tR at h
  refine sq ?_
  refine sr [(3,{ n:=(a_1.Events).length })] [2,3,5,38] [0,1] 2 [Pp 0,Pp 1,Ii i_1,.bool (decide (i_1<(lN (a_1.Events))))] [Vb 59 (zZ a_1),Vb 59 (zZ b_1)] zG (ac (z9 _:((Mp zD a_1.Events)).length=(a_1.Events).length) an) ?_
  refine cd 38 (decide (i_1<(lN (a_1.Events)))) ?_ ?_
  rotate_left
  ·intro g_2;replace h:=zO g_2 h
   refine xS (id:=0) (by kernel_rfl) ?_
   cases h
   exact ⟨rfl,(sw [] [] [] [] an)⟩
  intro g_2;replace h:=zP g_2 h
  refine sk ?_
  refine sq ?_
  refine yC (id:=1) (by kernel_rfl) ?_
  refine sq ?_
  obtain ⟨x_1,h_2,h⟩:=bind_some h
  obtain ⟨x_2,h_3,h⟩:=bind_some h
  obtain ⟨r_1,h_4,h⟩:=bind_some h
  refine rg [(3,{ av:=zD x_1 }),(8,{ av:=zD x_2 }),(10,{ av:=.bool r_1,l:=[zD x_1,zD x_2] })] [2,3,5,52] [0,1] 2 [Pp 0,Pp 1,Ii i_1,.bool (!r_1)] [Vb 59 (zZ a_1),Vb 59 (zZ b_1)] zG (ac (yP h_2:xG (Mp zD a_1.Events) i_1=some (zD x_1)) (ac (yP h_3:xG (Mp zD b_1.Events) i_1=some (zD x_2)) (ar ([zD x_1,zD x_2]:List AV) (ac (rfl:([]:List zT)=[]) (ac (zKz F x_1 x_2 r_1 h_4:zW prog 72 [] [] [zD x_1,zD x_2] [] (.bool r_1)) an))))) ?_
  refine cd 52 (!r_1) ?_ ?_
  rotate_left
  ·intro g_3;replace h:=zO g_3 h
   refine sk ?_
   refine rg [] [2,3,5] [0,1] 2 [Pp 0,Pp 1,Ii (zR (i_1+(1:Int)))] [Vb 59 (zZ a_1),Vb 59 (zZ b_1)] zG an ?_
   exact ⟨_,(sw [0,1] [] [.s 2,.s 3,.s 5] [.s 0,.s 1] an),_,rfl,h⟩
  intro g_3;replace h:=zP g_3 h
  refine sr [] [4] [] 2 [.bool false] [] zG an ?_
  refine rt ?_
  cases h
  exact ⟨rfl,Nat.le_of_ble_eq_true rfl,by kernel_rfl⟩
 intro e st1 hk
 rcases o_1 with q_1 | q_2
 rotate_left
 ·obtain ⟨rfl,hf⟩:=hk
  cases h
  exact ⟨st1,Sub.refl _ _,.inr rfl,hf⟩
 obtain ⟨rfl,hs⟩:=hk
 refine ⟨_,hs,?_⟩
 refine sr [] [4] [] 0 [.bool true] [] zG an ?_
 refine rt ?_
 cases h
 exact ⟨.inr rfl,Nat.le_of_ble_eq_true rfl,by kernel_rfl⟩
theorem zEQ (F:Nat) (a_1:List (zB)) (b_1:List (zB)) (r:Bool) (h:jV F a_1 b_1=some r):zW prog 36 [] [] [.sl false 4 (Mp zA a_1),.sl false 4 (Mp zA b_1)] [] (.bool r):=by
 refine yA (fn:=Go.Proofs.Try.f36) (code:=xC Go.Proofs.Try.f36) (by kernel_rfl) (by kernel_rfl) (Nat.le_of_ble_eq_true (by kernel_rfl)) ?_
 unfold jV at h
 refine sr [] [0,1] [] 0 [.sl false 4 (Mp zA a_1),.sl false 4 (Mp zA b_1)] [] zG an ?_
 refine sq ?_
 refine sr [(1,{ n:=(a_1).length }),(3,{ n:=(b_1).length })] [0,1,10] [] 0 [.sl false 4 (Mp zA a_1),.sl false 4 (Mp zA b_1),.bool ((lN (a_1)) != (lN (b_1)))] [] zG (ac (z9 _:((Mp zA a_1)).length=(a_1).length) (ac (z9 _:((Mp zA b_1)).length=(b_1).length) an)) ?_
 refine cd 10 ((lN (a_1)) != (lN (b_1))) ?_ ?_
 ·intro g_1;replace h:=zP g_1 h
  refine sr [] [4] [] 0 [.bool false] [] zG an ?_
  refine rt ?_
  cases h
  exact ⟨.inr rfl,Nat.le_of_ble_eq_true rfl,by kernel_rfl⟩
 intro g_1;replace h:=zO g_1 h
 refine sk ?_
 refine sq ?_
 refine sr [] [0,1,5] [] 0 [.sl false 4 (Mp zA a_1),.sl false 4 (Mp zA b_1),Ii 0] [] zG an ?_
 obtain ⟨o_1,h_1,h⟩:=bind_some h
 refine wK (K1:=(fun e st'=>match o_1 with | (.inl q0)=>e=.normal∧Sub 0 st' (mk [] [] 0) | (.inr q1)=>e=.ret∧uF prog Go.Proofs.Try.f36 0 [] (.bool q1) st')) ?_ ?_
 ·replace h:=h_1
  refine yC (id:=0) (by kernel_rfl) ?_
  refine wk [] [] [.s 0,.s 1,.s 5] [] [(0,.sl false 4 (Mp zA a_1)),(1,.sl false 4 (Mp zA b_1)),(5,Ii 0)] [] an ?_
  refine xH (fun n st=>∃ (i_1:Int),st=mk [(0,.sl false 4 (Mp zA a_1)),(1,.sl false 4 (Mp zA b_1)),(5,Ii i_1)] [] 0∧qH F a_1 b_1 n i_1=some o_1) F (by kernel_rfl) ⟨_,rfl,h⟩ ?_ ?_
  ·rintro _ ⟨_,_,h⟩;exact xX (h:(none:Option (Unit⊕Bool))=some o_1)
  rintro n_1 _ ⟨i_1,rfl,h⟩
  replace h:vL F a_1 b_1 (qH F a_1 b_1 n_1) i_1=some o_1:=h
  unfold vL at h
  refine sq ?_
  refine sr [(2,{ n:=(a_1).length })] [0,1,5,14] [] 0 [.sl false 4 (Mp zA a_1),.sl false 4 (Mp zA b_1),Ii i_1,.bool (decide (i_1<(lN (a_1))))] [] zG (ac (z9 _:((Mp zA a_1)).length=(a_1).length) an) ?_
  refine cd 14 (decide (i_1<(lN (a_1)))) ?_ ?_
  rotate_left
  ·intro g_2;replace h:=zO g_2 h
   refine xS (id:=0) (by kernel_rfl) ?_
   cases h
   exact ⟨rfl,(sw [] [] [] [] an)⟩
  intro g_2;replace h:=zP g_2 h
  refine sk ?_
  refine sq ?_
  refine yC (id:=1) (by kernel_rfl) ?_
  refine sq ?_
  obtain ⟨x_1,h_2,h⟩:=bind_some h
  obtain ⟨x_2,h_3,h⟩:=bind_some h
  obtain ⟨r_1,h_4,h⟩:=bind_some h
  refine rg [(2,{ av:=zA x_1 }),(6,{ av:=zA x_2 }),(8,{ av:=.bool r_1,l:=[zA x_1,zA x_2] })] [0,1,5,26] [] 0 [.sl false 4 (Mp zA a_1),.sl false 4 (Mp zA b_1),Ii i_1,.bool (!r_1)] [] zG (ac (yP h_2:xG (Mp zA a_1) i_1=some (zA x_1)) (ac (yP h_3:xG (Mp zA b_1) i_1=some (zA x_2)) (ar ([zA x_1,zA x_2]:List AV) (ac (rfl:([]:List zT)=[]) (ac (zKx F x_1 x_2 r_1 h_4:zW prog 58 [] [] [zA x_1,zA x_2] [] (.bool r_1)) an))))) ?_
  refine cd 26 (!r_1) ?_ ?_
  rotate_left
  ·intro g_3;replace h:=zO g_3 h
   refine sk ?_
   refine rg [] [0,1,5] [] 0 [.sl false 4 (Mp zA a_1),.sl false 4 (Mp zA b_1),Ii (zR (i_1+(1:Int)))] [] zG an ?_
   exact ⟨_,(sw [] [] [.s 0,.s 1,.s 5] [] an),_,rfl,h⟩
  intro g_3;replace h:=zP g_3 h
  refine sr [] [4] [] 0 [.bool false] [] zG an ?_
  refine rt ?_
  cases h
  exact ⟨rfl,Nat.le_of_ble_eq_true rfl,by kernel_rfl⟩
 intro e st1 hk
 rcases o_1 with q_1 | q_2
 rotate_left
 ·obtain ⟨rfl,hf⟩:=hk
  cases h
  exact ⟨st1,Sub.refl _ _,.inr rfl,hf⟩
 obtain ⟨rfl,hs⟩:=hk
 refine ⟨_,hs,?_⟩
 refine sr [] [4] [] 0 [.bool true] [] zG an ?_
 refine rt ?_
 cases h
 exact ⟨.inr rfl,Nat.le_of_ble_eq_true rfl,by kernel_rfl⟩
theorem zDe (F:Nat) (a_1:zQ) (b_1:zQ) (r:Bool) (h:zCI F a_1 b_1=some r):zW prog 12 [] [] [yE a_1,yE b_1] [] (.bool r):=by
 refine yA (fn:=Go.Proofs.Try.f12) (code:=xC Go.Proofs.Try.f12) (by kernel_rfl) (by kernel_rfl) (Nat.le_of_ble_eq_true (by kernel_rfl)) ?_
 unfold zCI at h
 refine sr [(0,{ id:=0 }),(1,{ id:=1 })] [2,3] [0,1] 2 [Pp 0,Pp 1] [Vb 31 (wD a_1),Vb 31 (wD b_1)] zG an ?_
 refine sq ?_
 obtain ⟨p_1,h_3,h⟩:=bind_some h
 refine y9 (mk [(4,.bool p_1)] [] 0) ?_ ?_
 ·replace h:=h_3
  obtain ⟨r_1,h_1,h⟩:=bind_some h
  rcases Bool.eq_false_or_eq_true r_1 with zH | zH
  ·replace h:=zP zH h
   obtain ⟨r_2,h_2,h⟩:=bind_some h
   refine rg [(4,{ av:=.bool r_1,l:=[yN a_1.Head,yN b_1.Head] }),(10,{ av:=.bool r_2,l:=[.sl false 4 (Mp zA a_1.Parts),.sl false 4 (Mp zA b_1.Parts)] }),(11,Ht)] [4] [] 2 [.bool r_2] [] zG (ar ([yN a_1.Head,yN b_1.Head]:List AV) (ac (rfl:([]:List zT)=[]) (ac (zC4 F a_1.Head b_1.Head r_1 h_1:zW prog 35 [] [] [yN a_1.Head,yN b_1.Head] [] (.bool r_1)) (ac zH (ac zH (ac zH (ac zH (ac zH (ar ([.sl false 4 (Mp zA a_1.Parts),.sl false 4 (Mp zA b_1.Parts)]:List AV) (ac (rfl:([]:List zT)=[]) (ac (zEQ F a_1.Parts b_1.Parts r_2 h_2:zW prog 36 [] [] [.sl false 4 (Mp zA a_1.Parts),.sl false 4 (Mp zA b_1.Parts)] [] (.bool r_2)) (ac zH an)))))))))))) ?_
   cases h
   exact ⟨rfl,(sw [] [] [.s 4] [] an)⟩
  ·replace h:=zO zH h
   refine rg [(4,{ av:=.bool r_1,l:=[yN a_1.Head,yN b_1.Head] }),(6,Hg),(7,Hg),(8,Hg),(9,Hg),(10,Hg),(11,Hf)] [4] [] 2 [.bool false] [] zG (ar ([yN a_1.Head,yN b_1.Head]:List AV) (ac (rfl:([]:List zT)=[]) (ac (zC4 F a_1.Head b_1.Head r_1 h_1:zW prog 35 [] [] [yN a_1.Head,yN b_1.Head] [] (.bool r_1)) (ac zH (ac zH (ac zH (ac zH (ac zH (ac zH an))))))))) ?_
   cases h
   exact ⟨rfl,(sw [] [] [.s 4] [] an)⟩
 refine rt ?_
 cases h
 exact ⟨.inr rfl,Nat.le_of_ble_eq_true rfl,by kernel_rfl⟩
end Go.Ab
