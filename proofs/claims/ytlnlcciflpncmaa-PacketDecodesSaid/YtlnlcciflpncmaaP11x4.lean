/- Printed: the typed Lean functions of the Go functions, or the proofs that the Go functions meet them. No conditions but those that the theorems name. -/
import Derived.Test.YtlnlcciflpncmaaP11x3
namespace Go.Ab
open Go
set_option linter.unusedVariables false
theorem zFe (F:Nat) (b_1:List (Int)) (count_1:Int) (r:(List (Int))×Int×Int) (h:zAM F b_1 count_1=some r):zM prog 97 [] [] [.sl false 1 (Mb b_1),Ii count_1] [.row 3 1 (Mi r.1)] (.tuple [.own 0 ((r.1).length),Ii r.2.1,Ii r.2.2]):=by
 refine zS (fn:=Go.Proofs.Try.f97) (code:=z6 Go.Proofs.Try.f97) (by kernel_rfl) (by kernel_rfl) (Nat.le_of_ble_eq_true (by kernel_rfl)) ?_
 unfold zAM at h
 refine sr [(0,{ id:=0,m:=1 })] [0,1] [] 1 [.sl false 1 (Mb b_1),Ii count_1] [] zD an ?_
 refine sr [(0,{ id:=1,m:=1 })] [0,1,7] [1] 2 [.sl false 1 (Mb b_1),Ii count_1,.own 1 0] [Rb 3 1 []] zD an ?_
 refine sr [] [0,1,7,8] [1] 2 [.sl false 1 (Mb b_1),Ii count_1,.own 1 0,Ii 0] [Rb 3 1 []] zD an ?_
 refine sq ?_
 refine sr [] [0,1,7,8,9] [1] 2 [.sl false 1 (Mb b_1),Ii count_1,.own 1 0,Ii 0,Ii 0] [Rb 3 1 []] zD an ?_
 obtain ⟨o_1,h_1,h⟩:=bind_some h
 refine yZ (K1:=(fun e st'=>match o_1 with | (.inl q0)=>e=.normal∧Sub 0 st' (mk [(7,.own 0 ((q0.2).length)),(8,Ii q0.1)] [(0,Rb 3 1 (Mi q0.2))] 1) | (.inr q1)=>e=.ret∧vS prog Go.Proofs.Try.f97 0 [.row 3 1 (Mi q1.1)] (.tuple [.own 0 ((q1.1).length),Ii q1.2.1,Ii q1.2.2]) st')) ?_ ?_
 ·replace h:=h_1
  refine zT (id:=0) (by kernel_rfl) ?_
  refine wk [1] [] [.s 0,.s 1,.s 7,.s 8,.s 9] [.s 0] [(0,.sl false 1 (Mb b_1)),(1,Ii count_1),(7,.own 0 0),(8,Ii 0),(9,Ii 0)] [(0,Rb 3 1 [])] an ?_
  refine yF (fun n st=>∃ (at__1:Int),∃ (i_1:Int),∃ (row_1:List Int),st=mk [(0,.sl false 1 (Mb b_1)),(1,Ii count_1),(7,.own 0 ((row_1).length)),(8,Ii at__1),(9,Ii i_1)] [(0,Rb 3 1 (Mi row_1))] 1∧nA F b_1 count_1 n at__1 i_1 row_1=some o_1) F (by kernel_rfl) ⟨_,_,_,rfl,h⟩ ?_ ?_
  ·rintro _ ⟨_,_,_,_,h⟩;exact yM (h:(none:Option ((Int×(List Int))⊕((List (Int))×Int×Int)))=some o_1)
  rintro n_1 _ ⟨at__1,i_1,row_1,rfl,h⟩
  replace h:u6 F b_1 count_1 (nA F b_1 count_1 n_1) at__1 i_1 row_1=some o_1:=h
  unfold u6 at h
  refine sq ?_
  refine sr [] [0,1,7,8,9,15] [0] 1 [.sl false 1 (Mb b_1),Ii count_1,.own 0 ((row_1).length),Ii at__1,Ii i_1,.bool (decide (i_1<count_1))] [Rb 3 1 (Mi row_1)] zD an ?_
  refine cd 15 (decide (i_1<count_1)) ?_ ?_
  rotate_left
  ·intro g_1;replace h:=zO g_1 h
   refine yL (id:=0) (by kernel_rfl) ?_
   cases h
   exact ⟨rfl,(sw [0] [] [.s 7,.s 8] [.s 0] an)⟩
  intro g_1;replace h:=zN g_1 h
  refine sk ?_
  refine sq ?_
  refine zT (id:=1) (by kernel_rfl) ?_
  refine sq ?_
  obtain ⟨_,h_2,h⟩:=bind_some h;replace h_2:=z0 h_2
  obtain ⟨r_1,h_3,h⟩:=bind_some h
  refine rg [(2,{ l:=(Mb (sub b_1 at__1 (lN (b_1)))) }),(3,{ av:=.tuple [Ii r_1.1,Ii r_1.2.1,Ii r_1.2.2],l:=[.sl false 1 (Mb (sub b_1 at__1 (lN (b_1))))] })] [0,1,7,8,9,10,11,12] [0] 1 [.sl false 1 (Mb b_1),Ii count_1,.own 0 ((row_1).length),Ii at__1,Ii i_1,Ii r_1.1,Ii r_1.2.1,Ii r_1.2.2] [Rb 3 1 (Mi row_1)] zD (ac h_2.1 (ac (v5 h_2.2:at__1≤(lN ((Mb b_1)))) (ac (Int.le_refl _:(lN ((Mb b_1)))≤(lN ((Mb b_1)))) (ac (zAk _ _:(Mb (sub b_1 at__1 (lN (b_1))))=(((Mb b_1)).take ((lN ((Mb b_1)))).toNat).drop (at__1).toNat) (ar ([.sl false 1 (Mb (sub b_1 at__1 (lN (b_1))))]:List AV) (ac (rfl:([]:List zP)=[]) (ac (zDR F (sub b_1 at__1 (lN (b_1))) r_1 h_3:zM prog 89 [] [] [.sl false 1 (Mb (sub b_1 at__1 (lN (b_1))))] [] (.tuple [Ii r_1.1,Ii r_1.2.1,Ii r_1.2.2])) an))))))) ?_
  refine sq ?_
  refine sr [] [0,1,7,8,9,10,11,12,27] [0] 1 [.sl false 1 (Mb b_1),Ii count_1,.own 0 ((row_1).length),Ii at__1,Ii i_1,Ii r_1.1,Ii r_1.2.1,Ii r_1.2.2,.bool (r_1.2.2 != (0:Int))] [Rb 3 1 (Mi row_1)] zD an ?_
  refine cd 27 (r_1.2.2 != (0:Int)) ?_ ?_
  ·intro g_2;replace h:=zN g_2 h
   refine sr [(1,{ id:=1,m:=1 })] [4,5,6] [1] 2 [.own 1 0,Ii 0,Ii r_1.2.2] [Rb 3 1 []] zD an ?_
   refine wk [1] [] [.a 4 (.own 0 ((([]:List Int)).length)),.s 5,.s 6] [.s 0] [(4,.own 0 ((([]:List Int)).length)),(5,Ii 0),(6,Ii r_1.2.2)] [(0,Rb 3 1 [])] (ac (congrArg (AV.own _) (by first | (simp;done) | (simp;omega)):(.own 1 0:AV)=.own 1 ((([]:List Int)).length)) an) ?_
   refine rt ?_
   cases h
   exact ⟨rfl,Nat.le_of_ble_eq_true rfl,by kernel_rfl⟩
  intro g_2;replace h:=zO g_2 h
  refine sk ?_
  refine sq ?_
  obtain ⟨_,h_4,h⟩:=bind_some h;replace h_4:=z0 h_4
  refine rg [(2,{ id:=1 }),(3,{ id:=2,l:=(Mi (row_1++([r_1.1]:List Int))),n:=((row_1++([r_1.1]:List Int))).length })] [0,1,7,8,9,11] [2] 3 [.sl false 1 (Mb b_1),Ii count_1,.own 2 (((row_1++([r_1.1]:List Int))).length),Ii at__1,Ii i_1,Ii r_1.2.1] [Rb 3 1 (Mi (row_1++([r_1.1]:List Int)))] zD (ac (by first | (simp;done) | (simp;omega):(row_1).length=((List.map (AV.int .i64) row_1)).length) (ac (by first | (simp;done) | (simp;omega):1=((List.map (AV.int .i64) ([r_1.1]:List Int))).length) (ac (w9 _ _:(Mi (row_1++([r_1.1]:List Int)))=(Mi row_1)++(Mi ([r_1.1]:List Int))) (ac (by simp:((row_1++([r_1.1]:List Int))).length=((List.map (AV.int .i64) (row_1++([r_1.1]:List Int)))).length) (ac (by first | (simp;done) | simpa using h_4:(((List.map (AV.int .i64) row_1):List AV).length+((List.map (AV.int .i64) ([r_1.1]:List Int)):List AV).length) * 8≤140737488355328) an))))) ?_
  refine rg [] [0,1,7,8,9] [2] 3 [.sl false 1 (Mb b_1),Ii count_1,.own 2 (((row_1++([r_1.1]:List Int))).length),Ii (zK (at__1+r_1.2.1)),Ii i_1] [Rb 3 1 (Mi (row_1++([r_1.1]:List Int)))] zD an ?_
  refine rg [] [0,1,7,8,9] [2] 3 [.sl false 1 (Mb b_1),Ii count_1,.own 2 (((row_1++([r_1.1]:List Int))).length),Ii (zK (at__1+r_1.2.1)),Ii (zK (i_1+(1:Int)))] [Rb 3 1 (Mi (row_1++([r_1.1]:List Int)))] zD an ?_
  exact ⟨_,(sw [2] [] [.s 0,.s 1,.s 7,.s 8,.s 9] [.s 0] an),_,_,_,rfl,h⟩
 intro e st1 hk
 rcases o_1 with q_1 | q_2
 rotate_left
 ·obtain ⟨rfl,hf⟩:=hk
  cases h
  exact ⟨st1,Sub.refl _ _,.inr rfl,hf⟩
 obtain ⟨rfl,hs⟩:=hk
 refine ⟨_,hs,?_⟩
 refine sr [] [4,5,6] [0] 1 [.own 0 ((q_1.2).length),Ii q_1.1,Ii 0] [Rb 3 1 (Mi q_1.2)] zD an ?_
 refine wk [0] [] [.s 4,.s 5,.s 6] [.s 0] [(4,.own 0 ((q_1.2).length)),(5,Ii q_1.1),(6,Ii 0)] [(0,Rb 3 1 (Mi q_1.2))] an ?_
 refine rt ?_
 cases h
 exact ⟨.inr rfl,Nat.le_of_ble_eq_true rfl,by kernel_rfl⟩
theorem zB2 (b_1:Bool) (r:Int) (h:zBs b_1=some r):zM prog 98 [] [] [.bool b_1] [] (Ii r):=by
 refine zS (fn:=Go.Proofs.Try.f98) (code:=z6 Go.Proofs.Try.f98) (by kernel_rfl) (by kernel_rfl) (Nat.le_of_ble_eq_true (by kernel_rfl)) ?_
 unfold zBs at h
 refine sr [] [0] [] 0 [.bool b_1] [] zD an ?_
 refine sq ?_
 refine sr [] [3] [] 0 [.bool b_1] [] zD an ?_
 refine cd 3 b_1 ?_ ?_
 ·intro g_1;replace h:=zN g_1 h
  refine sr [] [2] [] 0 [Ii 1] [] zD an ?_
  refine rt ?_
  cases h
  exact ⟨.inr rfl,Nat.le_of_ble_eq_true rfl,by kernel_rfl⟩
 intro g_1;replace h:=zO g_1 h
 refine sk ?_
 refine sr [] [2] [] 0 [Ii 0] [] zD an ?_
 refine rt ?_
 cases h
 exact ⟨.inr rfl,Nat.le_of_ble_eq_true rfl,by kernel_rfl⟩
theorem zIH (F:Nat) (names_1:List (List Int)) (stacks_1:List (zE)) (i_1:Int) (r:(List (List Int))×Int) (h:zBQ F names_1 stacks_1 i_1=some r):zM prog 99 [] [] [.sl false 1 (Ms names_1),.sl false 2 (Mp zC stacks_1),Ii i_1] [] (.tuple [.sl false 1 (Ms r.1),Ii r.2]):=by
 refine zS (fn:=Go.Proofs.Try.f99) (code:=z6 Go.Proofs.Try.f99) (by kernel_rfl) (by kernel_rfl) (Nat.le_of_ble_eq_true (by kernel_rfl)) ?_
 unfold zBQ at h
 refine sr [] [0,1,2] [] 0 [.sl false 1 (Ms names_1),.sl false 2 (Mp zC stacks_1),Ii i_1] [] zD an ?_
 refine sq ?_
 refine sq ?_
 obtain ⟨r_1,h_1,h⟩:=bind_some h
 refine rg [(2,{ av:=Ii r_1,l:=[.sl false 1 (Ms names_1),.sl false 2 (Mp zC stacks_1)] })] [0,1,2,12] [] 0 [.sl false 1 (Ms names_1),.sl false 2 (Mp zC stacks_1),Ii i_1,.bool (r_1 != (0:Int))] [] zD (ar ([.sl false 1 (Ms names_1),.sl false 2 (Mp zC stacks_1)]:List AV) (ac (rfl:([]:List zP)=[]) (ac (zAS F names_1 stacks_1 r_1 h_1:zM prog 55 [] [] [.sl false 1 (Ms names_1),.sl false 2 (Mp zC stacks_1)] [] (Ii r_1)) an))) ?_
 refine cd 12 (r_1 != (0:Int)) ?_ ?_
 ·intro g_1;replace h:=zN g_1 h
  refine sr [] [6,7] [] 0 [.nilsl,Ii 1] [] zD an ?_
  refine wk [] [] [.a 6 (.sl false 1 []),.s 7] [] [(6,.sl false 1 []),(7,Ii 1)] [] (ar ([]:List AV) an) ?_
  refine rt ?_
  cases h
  exact ⟨.inr rfl,Nat.le_of_ble_eq_true rfl,by kernel_rfl⟩
 intro g_1;replace h:=zO g_1 h
 refine sk ?_
 refine sq ?_
 refine sq ?_
 refine zX (mk [(0,.sl false 1 (Ms names_1)),(1,.sl false 2 (Mp zC stacks_1)),(2,Ii i_1),(20,.bool (decide (i_1<(-1:Int))||decide (i_1≥(lN (stacks_1)))))] [] 0) ?_ ?_
 ·rcases bft (decide (i_1<(-1:Int))) with gg_2 | gg_2
  ·refine rg [(3,Hg),(4,Hg),(5,Hg),(6,Hg),(7,Ht)] [0,1,2,20] [] 0 [.sl false 1 (Ms names_1),.sl false 2 (Mp zC stacks_1),Ii i_1,.bool true] [] zD (ac gg_2 (ac gg_2 (ac gg_2 (ac gg_2 (ac gg_2 an))))) ?_
   exact ⟨rfl,(sw [] [] [.s 0,.s 1,.s 2,.a 20 (.bool (decide (i_1<(-1:Int))||decide (i_1≥(lN (stacks_1)))))] [] (ac (congrArg AV.bool (ort gg_2):(.bool true:AV)=.bool (decide (i_1<(-1:Int))||decide (i_1≥(lN (stacks_1))))) an))⟩
  ·refine rg [(5,{ n:=(stacks_1).length }),(7,Hf)] [0,1,2,20] [] 0 [.sl false 1 (Ms names_1),.sl false 2 (Mp zC stacks_1),Ii i_1,.bool (decide (i_1≥(lN (stacks_1))))] [] zD (ac gg_2 (ac gg_2 (ac gg_2 (ac (zY _:((Mp zC stacks_1)).length=(stacks_1).length) (ac gg_2 (ac gg_2 an)))))) ?_
   exact ⟨rfl,(sw [] [] [.s 0,.s 1,.s 2,.a 20 (.bool (decide (i_1<(-1:Int))||decide (i_1≥(lN (stacks_1)))))] [] (ac (congrArg AV.bool (orf gg_2 rfl):(.bool (decide (i_1≥(lN (stacks_1)))):AV)=.bool (decide (i_1<(-1:Int))||decide (i_1≥(lN (stacks_1))))) an))⟩
 refine cd 20 (decide (i_1<(-1:Int))||decide (i_1≥(lN (stacks_1)))) ?_ ?_
 ·intro g_2;replace h:=zN g_2 h
  refine sr [] [6,7] [] 0 [.nilsl,Ii 2] [] zD an ?_
  refine wk [] [] [.a 6 (.sl false 1 []),.s 7] [] [(6,.sl false 1 []),(7,Ii 2)] [] (ar ([]:List AV) an) ?_
  refine rt ?_
  cases h
  exact ⟨.inr rfl,Nat.le_of_ble_eq_true rfl,by kernel_rfl⟩
 intro g_2;replace h:=zO g_2 h
 refine sk ?_
 refine sr [] [0,1,2,8] [] 0 [.sl false 1 (Ms names_1),.sl false 2 (Mp zC stacks_1),Ii i_1,.nilsl] [] zD an ?_
 refine sq ?_
 obtain ⟨o_1,h_2,h⟩:=bind_some h
 refine zX (mk [(8,.sl false 1 (Ms o_1))] [] 0) ?_ ?_
 ·replace h:=h_2
  refine zT (id:=0) (by kernel_rfl) ?_
  refine wk [] [] [.s 0,.s 1,.s 2,.a 8 (.sl false 1 [])] [] [(0,.sl false 1 (Ms names_1)),(1,.sl false 2 (Mp zC stacks_1)),(2,Ii i_1),(8,.sl false 1 [])] [] (ar ([]:List AV) an) ?_
  refine yF (fun n st=>∃ (i_2:Int),∃ (l_1:List (List Int)),st=mk [(0,.sl false 1 (Ms names_1)),(1,.sl false 2 (Mp zC stacks_1)),(2,Ii i_2),(8,.sl false 1 (Ms l_1))] [] 0∧nU F names_1 stacks_1 n i_2 l_1=some o_1) F (by kernel_rfl) ⟨_,_,rfl,h⟩ ?_ ?_
  ·rintro _ ⟨_,_,_,h⟩;exact yM (h:(none:Option (List (List Int)))=some o_1)
  rintro n_1 _ ⟨i_2,l_1,rfl,h⟩
  replace h:uM F names_1 stacks_1 (nU F names_1 stacks_1 n_1) i_2 l_1=some o_1:=h
  unfold uM at h
  refine sq ?_
  refine sr [] [0,1,2,8,22] [] 0 [.sl false 1 (Ms names_1),.sl false 2 (Mp zC stacks_1),Ii i_2,.sl false 1 (Ms l_1),.bool (decide (i_2≥(0:Int)))] [] zD an ?_
  refine cd 22 (decide (i_2≥(0:Int))) ?_ ?_
  rotate_left
  ·intro g_3;replace h:=zO g_3 h
   refine yL (id:=0) (by kernel_rfl) ?_
   cases h
   exact ⟨rfl,(sw [] [] [.s 8] [] an)⟩
  intro g_3;replace h:=zN g_3 h
  refine sk ?_
  refine zT (id:=1) (by kernel_rfl) ?_
  refine sq ?_
  obtain ⟨x_1,h_3,h⟩:=bind_some h
  obtain ⟨x_2,h_4,h⟩:=bind_some h
  obtain ⟨_,h_5,h⟩:=bind_some h;replace h_5:=z0 h_5
  refine rg [(3,{ av:=.agg [Ii x_1.c0,Ii x_1.c1] }),(6,{ av:=.str x_2 }),(8,{ id:=0 }),(10,{ id:=1,l:=(Ms (([x_2]:List (List Int))++l_1)),n:=((([x_2]:List (List Int))++l_1)).length })] [0,1,2,8] [1] 2 [.sl false 1 (Ms names_1),.sl false 2 (Mp zC stacks_1),Ii i_2,.own 1 (((([x_2]:List (List Int))++l_1)).length)] [Rb 9 1 (Ms (([x_2]:List (List Int))++l_1))] zD (ac (yO h_3:xD (Mp zC stacks_1) i_2=some (.agg [Ii x_1.c0,Ii x_1.c1])) (ac (by decide:(0:Int)≤(1:Int)) (ac (by decide:(1:Int)<((2:Nat):Int)) (ac (yO h_4:xD (Ms names_1) x_1.c1=some (.str x_2)) (ac (by first | (simp;done) | (simp;omega):1=((List.map AV.str ([x_2]:List (List Int)))).length) (ac (trivial:True) (ac (w9 _ _:(Ms (([x_2]:List (List Int))++l_1))=(Ms ([x_2]:List (List Int)))++(Ms l_1)) (ac (by simp:((([x_2]:List (List Int))++l_1)).length=((List.map AV.str (([x_2]:List (List Int))++l_1))).length) (ac (by first | (simp;done) | simpa using h_5:(((List.map AV.str ([x_2]:List (List Int))):List AV).length+((List.map AV.str l_1):List AV).length) * 16≤140737488355328) an))))))))) ?_
  obtain ⟨x_3,h_6,h⟩:=bind_some h
  refine rg [(2,{ av:=.agg [Ii x_3.c0,Ii x_3.c1] })] [0,1,2,8] [1] 2 [.sl false 1 (Ms names_1),.sl false 2 (Mp zC stacks_1),Ii x_3.c0,.own 1 (((([x_2]:List (List Int))++l_1)).length)] [Rb 9 1 (Ms (([x_2]:List (List Int))++l_1))] zD (ac (yO h_6:xD (Mp zC stacks_1) i_2=some (.agg [Ii x_3.c0,Ii x_3.c1])) (ac (by decide:(0:Int)≤(0:Int)) (ac (by decide:(0:Int)<((2:Nat):Int)) an))) ?_
  exact ⟨_,(Sub.trans (zEE [] [1] [.s 0,.s 1,.s 2,.a 8 (.sl false 1 (Ms (([x_2]:List (List Int))++l_1)))] [] (sl2:=[(0,.sl false 1 (Ms names_1)),(1,.sl false 2 (Mp zC stacks_1)),(2,Ii x_3.c0),(8,.sl false 1 (Ms (([x_2]:List (List Int))++l_1)))]) (bx2:=[]) (by kernel_rfl) (ac (by first | (simp;done) | (simp;omega):((([x_2]:List (List Int))++l_1)).length=((List.map AV.str (([x_2]:List (List Int))++l_1))).length) (ar 1 (ar ((Ms (([x_2]:List (List Int))++l_1)):List AV) (ac (rfl:(!false||false)=true) an))))) (sw [] [] [.s 0,.s 1,.s 2,.s 8] [] an)),_,_,rfl,h⟩
 refine sr [] [6,7] [] 0 [.sl false 1 (Ms o_1),Ii 0] [] zD an ?_
 refine rt ?_
 cases h
 exact ⟨.inr rfl,Nat.le_of_ble_eq_true rfl,by kernel_rfl⟩
theorem zH1 (F:Nat) (names_1:List (List Int)) (stacks_1:List (zE)) (b_1:List (Int)) (r:zA×Int×Int) (h:zAW F names_1 stacks_1 b_1=some r):zM prog 91 [] [] [.sl false 1 (Ms names_1),.sl false 2 (Mp zC stacks_1),.sl false 1 (Mb b_1)] [] (.tuple [zB r.1,Ii r.2.1,Ii r.2.2]):=by
 refine zS (fn:=Go.Proofs.Try.f91) (code:=z6 Go.Proofs.Try.f91) (by kernel_rfl) (by kernel_rfl) (Nat.le_of_ble_eq_true (by kernel_rfl)) ?_
 unfold zAW at h
 refine sr [(0,{ id:=0 })] [0,1,2,6] [0] 1 [.sl false 1 (Ms names_1),.sl false 2 (Mp zC stacks_1),.sl false 1 (Mb b_1),Pp 0] [Vb 33 [Ii 0,Ii 0,.str ([]:List Int),Ii 0,Ii 0,.nilsl]] zD an ?_
 refine sq ?_
 refine sq ?_
 obtain ⟨r_1,h_1,h⟩:=bind_some h
 refine rg [(2,{ av:=Ii r_1,l:=[.sl false 1 (Ms names_1),.sl false 2 (Mp zC stacks_1)] })] [0,1,2,6,25] [0] 1 [.sl false 1 (Ms names_1),.sl false 2 (Mp zC stacks_1),.sl false 1 (Mb b_1),Pp 0,.bool (r_1 != (0:Int))] [Vb 33 [Ii 0,Ii 0,.str ([]:List Int),Ii 0,Ii 0,.nilsl]] zD (ar ([.sl false 1 (Ms names_1),.sl false 2 (Mp zC stacks_1)]:List AV) (ac (rfl:([]:List zP)=[]) (ac (zAS F names_1 stacks_1 r_1 h_1:zM prog 55 [] [] [.sl false 1 (Ms names_1),.sl false 2 (Mp zC stacks_1)] [] (Ii r_1)) an))) ?_
 refine cd 25 (r_1 != (0:Int)) ?_ ?_
 ·intro g_1;replace h:=zN g_1 h
  refine sr [] [6,7,8] [0] 1 [Pp 0,Ii 0,Ii 1] [Vb 33 [Ii 0,Ii 0,.str ([]:List Int),Ii 0,Ii 0,.nilsl]] zD an ?_
  refine wk [0] [] [.s 6,.s 7,.s 8] [.a 0 (Vb 33 (zJ (⟨(0:Int),(0:Int),([]:List Int),(0:Int),(0:Int),[]⟩:zA)))] [(6,Pp 0),(7,Ii 0),(8,Ii 1)] [(0,Vb 33 (zJ (⟨(0:Int),(0:Int),([]:List Int),(0:Int),(0:Int),[]⟩:zA)))] (ar 33 (ac (rfl:xA [Ii ((⟨(0:Int),(0:Int),([]:List Int),(0:Int),(0:Int),[]⟩:zA).At),Ii ((⟨(0:Int),(0:Int),([]:List Int),(0:Int),(0:Int),[]⟩:zA).Kind),.str ((⟨(0:Int),(0:Int),([]:List Int),(0:Int),(0:Int),[]⟩:zA).Name),Ii ((⟨(0:Int),(0:Int),([]:List Int),(0:Int),(0:Int),[]⟩:zA).N),Ii ((⟨(0:Int),(0:Int),([]:List Int),(0:Int),(0:Int),[]⟩:zA).M),.sl false 1 (Ms ((⟨(0:Int),(0:Int),([]:List Int),(0:Int),(0:Int),[]⟩:zA).Stack))]=true) (ac (rfl:(Ii 0:AV)=Ii ((⟨(0:Int),(0:Int),([]:List Int),(0:Int),(0:Int),[]⟩:zA).At)) (ac (rfl:(Ii 0:AV)=Ii ((⟨(0:Int),(0:Int),([]:List Int),(0:Int),(0:Int),[]⟩:zA).Kind)) (ac (rfl:(.str ([]:List Int):AV)=.str ((⟨(0:Int),(0:Int),([]:List Int),(0:Int),(0:Int),[]⟩:zA).Name)) (ac (rfl:(Ii 0:AV)=Ii ((⟨(0:Int),(0:Int),([]:List Int),(0:Int),(0:Int),[]⟩:zA).N)) (ac (rfl:(Ii 0:AV)=Ii ((⟨(0:Int),(0:Int),([]:List Int),(0:Int),(0:Int),[]⟩:zA).M)) (ac (rfl:((Ms ((⟨(0:Int),(0:Int),([]:List Int),(0:Int),(0:Int),[]⟩:zA).Stack)):List AV)=[]) an)))))))) ?_
  refine rt ?_
  cases h
  exact ⟨.inr rfl,Nat.le_of_ble_eq_true rfl,by kernel_rfl⟩
 intro g_1;replace h:=zO g_1 h
 refine sk ?_
 refine sq ?_
 obtain ⟨r_2,h_2,h⟩:=bind_some h
 refine rg [(1,{ av:=.tuple [.own 0 ((r_2.1).length),Ii r_2.2.1,Ii r_2.2.2],ids:=[1],l:=[.sl false 1 (Mb b_1),Ii 2],post:=[(.row 3 1 (Mi r_2.1))] })] [0,1,2,6,9,11] [0,1] 2 [.sl false 1 (Ms names_1),.sl false 2 (Mp zC stacks_1),.sl false 1 (Mb b_1),Pp 0,.own 1 ((r_2.1).length),Ii r_2.2.2] [Vb 33 [Ii 0,Ii 0,.str ([]:List Int),Ii 0,Ii 0,.nilsl],Rb 3 1 (Mi r_2.1)] zD (ar ([.sl false 1 (Mb b_1),Ii 2]:List AV) (ac (rfl:([]:List zP)=[]) (ac (zFe F b_1 (2:Int) r_2 h_2:zM prog 97 [] [] [.sl false 1 (Mb b_1),Ii 2] [(.row 3 1 (Mi r_2.1))] (.tuple [.own 0 ((r_2.1).length),Ii r_2.2.1,Ii r_2.2.2])) an))) ?_
 refine sq ?_
 refine sr [] [0,1,2,6,9,11,34] [0,1] 2 [.sl false 1 (Ms names_1),.sl false 2 (Mp zC stacks_1),.sl false 1 (Mb b_1),Pp 0,.own 1 ((r_2.1).length),Ii r_2.2.2,.bool (r_2.2.2 != (0:Int))] [Vb 33 [Ii 0,Ii 0,.str ([]:List Int),Ii 0,Ii 0,.nilsl],Rb 3 1 (Mi r_2.1)] zD an ?_
 refine cd 34 (r_2.2.2 != (0:Int)) ?_ ?_
 ·intro g_2;replace h:=zN g_2 h
  refine sr [] [6,7,8] [0] 2 [Pp 0,Ii 0,Ii r_2.2.2] [Vb 33 [Ii 0,Ii 0,.str ([]:List Int),Ii 0,Ii 0,.nilsl]] zD an ?_
  refine wk [0] [] [.s 6,.s 7,.s 8] [.a 0 (Vb 33 (zJ (⟨(0:Int),(0:Int),([]:List Int),(0:Int),(0:Int),[]⟩:zA)))] [(6,Pp 0),(7,Ii 0),(8,Ii r_2.2.2)] [(0,Vb 33 (zJ (⟨(0:Int),(0:Int),([]:List Int),(0:Int),(0:Int),[]⟩:zA)))] (ar 33 (ac (rfl:xA [Ii ((⟨(0:Int),(0:Int),([]:List Int),(0:Int),(0:Int),[]⟩:zA).At),Ii ((⟨(0:Int),(0:Int),([]:List Int),(0:Int),(0:Int),[]⟩:zA).Kind),.str ((⟨(0:Int),(0:Int),([]:List Int),(0:Int),(0:Int),[]⟩:zA).Name),Ii ((⟨(0:Int),(0:Int),([]:List Int),(0:Int),(0:Int),[]⟩:zA).N),Ii ((⟨(0:Int),(0:Int),([]:List Int),(0:Int),(0:Int),[]⟩:zA).M),.sl false 1 (Ms ((⟨(0:Int),(0:Int),([]:List Int),(0:Int),(0:Int),[]⟩:zA).Stack))]=true) (ac (rfl:(Ii 0:AV)=Ii ((⟨(0:Int),(0:Int),([]:List Int),(0:Int),(0:Int),[]⟩:zA).At)) (ac (rfl:(Ii 0:AV)=Ii ((⟨(0:Int),(0:Int),([]:List Int),(0:Int),(0:Int),[]⟩:zA).Kind)) (ac (rfl:(.str ([]:List Int):AV)=.str ((⟨(0:Int),(0:Int),([]:List Int),(0:Int),(0:Int),[]⟩:zA).Name)) (ac (rfl:(Ii 0:AV)=Ii ((⟨(0:Int),(0:Int),([]:List Int),(0:Int),(0:Int),[]⟩:zA).N)) (ac (rfl:(Ii 0:AV)=Ii ((⟨(0:Int),(0:Int),([]:List Int),(0:Int),(0:Int),[]⟩:zA).M)) (ac (rfl:((Ms ((⟨(0:Int),(0:Int),([]:List Int),(0:Int),(0:Int),[]⟩:zA).Stack)):List AV)=[]) an)))))))) ?_
  refine rt ?_
  cases h
  exact ⟨.inr rfl,Nat.le_of_ble_eq_true rfl,by kernel_rfl⟩
 intro g_2;replace h:=zO g_2 h
 refine sk ?_
 refine sq ?_
 refine sq ?_
 obtain ⟨p_1,h_5,h⟩:=bind_some h
 refine zX (mk [(0,.sl false 1 (Ms names_1)),(1,.sl false 2 (Mp zC stacks_1)),(2,.sl false 1 (Mb b_1)),(6,Pp 0),(9,.own 1 ((r_2.1).length)),(46,.bool p_1)] [(0,Vb 33 [Ii 0,Ii 0,.str ([]:List Int),Ii 0,Ii 0,.nilsl]),(1,Rb 3 1 (Mi r_2.1))] 2) ?_ ?_
 ·replace h:=h_5
  obtain ⟨x_1,h_3,h⟩:=bind_some h
  rcases bft (decide (x_1<(1:Int))) with gg_1 | gg_1
  ·replace h:=zN gg_1 h
   refine rg [(2,{ av:=Ii x_1 }),(5,Hg),(6,Hg),(7,Hg),(8,Hg),(9,Ht)] [0,1,2,6,9,46] [0,1] 2 [.sl false 1 (Ms names_1),.sl false 2 (Mp zC stacks_1),.sl false 1 (Mb b_1),Pp 0,.own 1 ((r_2.1).length),.bool true] [Vb 33 [Ii 0,Ii 0,.str ([]:List Int),Ii 0,Ii 0,.nilsl],Rb 3 1 (Mi r_2.1)] zD (ac (wQ h_3:(0:Int)≤(0:Int)) (ac (by first | (simp;done) | simpa using wR h_3:(0:Int)<(((r_2.1).length:Nat):Int)) (ac (vP h_3:(Mi r_2.1)[0]?=some (Ii x_1)) (ac gg_1 (ac gg_1 (ac gg_1 (ac gg_1 (ac gg_1 an)))))))) ?_
   cases h
   exact ⟨rfl,(sw [0,1] [] [.s 0,.s 1,.s 2,.s 6,.s 9,.s 46] [.s 0,.s 1] an)⟩
  ·replace h:=zO gg_1 h
   obtain ⟨x_2,h_4,h⟩:=bind_some h
   refine rg [(2,{ av:=Ii x_1 }),(7,{ av:=Ii x_2 }),(9,Hf)] [0,1,2,6,9,46] [0,1] 2 [.sl false 1 (Ms names_1),.sl false 2 (Mp zC stacks_1),.sl false 1 (Mb b_1),Pp 0,.own 1 ((r_2.1).length),.bool (decide (x_2>(12:Int)))] [Vb 33 [Ii 0,Ii 0,.str ([]:List Int),Ii 0,Ii 0,.nilsl],Rb 3 1 (Mi r_2.1)] zD (ac (wQ h_3:(0:Int)≤(0:Int)) (ac (by first | (simp;done) | simpa using wR h_3:(0:Int)<(((r_2.1).length:Nat):Int)) (ac (vP h_3:(Mi r_2.1)[0]?=some (Ii x_1)) (ac gg_1 (ac gg_1 (ac (wQ h_4:(0:Int)≤(0:Int)) (ac (by first | (simp;done) | simpa using wR h_4:(0:Int)<(((r_2.1).length:Nat):Int)) (ac gg_1 (ac (vP h_4:(Mi r_2.1)[0]?=some (Ii x_2)) (ac gg_1 (ac gg_1 an))))))))))) ?_
   cases h
   exact ⟨rfl,(sw [0,1] [] [.s 0,.s 1,.s 2,.s 6,.s 9,.s 46] [.s 0,.s 1] an)⟩
 refine cd 46 p_1 ?_ ?_
 ·intro g_3;replace h:=zN g_3 h
  refine sr [] [6,7,8] [0] 2 [Pp 0,Ii 0,Ii 10] [Vb 33 [Ii 0,Ii 0,.str ([]:List Int),Ii 0,Ii 0,.nilsl]] zD an ?_
  refine wk [0] [] [.s 6,.s 7,.s 8] [.a 0 (Vb 33 (zJ (⟨(0:Int),(0:Int),([]:List Int),(0:Int),(0:Int),[]⟩:zA)))] [(6,Pp 0),(7,Ii 0),(8,Ii 10)] [(0,Vb 33 (zJ (⟨(0:Int),(0:Int),([]:List Int),(0:Int),(0:Int),[]⟩:zA)))] (ar 33 (ac (rfl:xA [Ii ((⟨(0:Int),(0:Int),([]:List Int),(0:Int),(0:Int),[]⟩:zA).At),Ii ((⟨(0:Int),(0:Int),([]:List Int),(0:Int),(0:Int),[]⟩:zA).Kind),.str ((⟨(0:Int),(0:Int),([]:List Int),(0:Int),(0:Int),[]⟩:zA).Name),Ii ((⟨(0:Int),(0:Int),([]:List Int),(0:Int),(0:Int),[]⟩:zA).N),Ii ((⟨(0:Int),(0:Int),([]:List Int),(0:Int),(0:Int),[]⟩:zA).M),.sl false 1 (Ms ((⟨(0:Int),(0:Int),([]:List Int),(0:Int),(0:Int),[]⟩:zA).Stack))]=true) (ac (rfl:(Ii 0:AV)=Ii ((⟨(0:Int),(0:Int),([]:List Int),(0:Int),(0:Int),[]⟩:zA).At)) (ac (rfl:(Ii 0:AV)=Ii ((⟨(0:Int),(0:Int),([]:List Int),(0:Int),(0:Int),[]⟩:zA).Kind)) (ac (rfl:(.str ([]:List Int):AV)=.str ((⟨(0:Int),(0:Int),([]:List Int),(0:Int),(0:Int),[]⟩:zA).Name)) (ac (rfl:(Ii 0:AV)=Ii ((⟨(0:Int),(0:Int),([]:List Int),(0:Int),(0:Int),[]⟩:zA).N)) (ac (rfl:(Ii 0:AV)=Ii ((⟨(0:Int),(0:Int),([]:List Int),(0:Int),(0:Int),[]⟩:zA).M)) (ac (rfl:((Ms ((⟨(0:Int),(0:Int),([]:List Int),(0:Int),(0:Int),[]⟩:zA).Stack)):List AV)=[]) an)))))))) ?_
  refine rt ?_
  cases h
  exact ⟨.inr rfl,Nat.le_of_ble_eq_true rfl,by kernel_rfl⟩
 intro g_3;replace h:=zO g_3 h
 refine sk ?_
 refine sq ?_
 obtain ⟨x_3,h_6,h⟩:=bind_some h
 obtain ⟨r_3,h_7,h⟩:=bind_some h
 refine rg [(2,{ av:=Ii x_3 }),(3,{ av:=.tuple [.bool r_3.1,.bool r_3.2.1,.bool r_3.2.2.1,.bool r_3.2.2.2],l:=[Ii x_3] })] [0,1,2,6,12,13,14,15] [0] 2 [.sl false 1 (Ms names_1),.sl false 2 (Mp zC stacks_1),.sl false 1 (Mb b_1),Pp 0,.bool r_3.1,.bool r_3.2.1,.bool r_3.2.2.1,.bool r_3.2.2.2] [Vb 33 [Ii 0,Ii 0,.str ([]:List Int),Ii 0,Ii 0,.nilsl]] zD (ac (wQ h_6:(0:Int)≤(0:Int)) (ac (by first | (simp;done) | simpa using wR h_6:(0:Int)<(((r_2.1).length:Nat):Int)) (ac (vP h_6:(Mi r_2.1)[0]?=some (Ii x_3)) (ar ([Ii x_3]:List AV) (ac (rfl:([]:List zP)=[]) (ac (zEZ x_3 r_3 h_7:zM prog 56 [] [] [Ii x_3] [] (.tuple [.bool r_3.1,.bool r_3.2.1,.bool r_3.2.2.1,.bool r_3.2.2.2])) an)))))) ?_
 refine sq ?_
 obtain ⟨r_4,h_8,h⟩:=bind_some h
 obtain ⟨r_5,h_9,h⟩:=bind_some h
 obtain ⟨r_6,h_10,h⟩:=bind_some h
 obtain ⟨r_7,h_11,h⟩:=bind_some h
 obtain ⟨r_8,h_12,h⟩:=bind_some h
 refine rg [(2,{ av:=Ii r_4,l:=[.bool r_3.1] }),(5,{ av:=Ii r_5,l:=[.bool r_3.2.1] }),(8,{ av:=Ii r_6,l:=[.bool r_3.2.2.1] }),(11,{ av:=Ii r_7,l:=[.bool r_3.2.2.2] }),(13,{ av:=.tuple [.own 0 ((r_8.1).length),Ii r_8.2.1,Ii r_8.2.2],ids:=[2],l:=[.sl false 1 (Mb b_1),Ii (zK ((zK ((zK ((zK ((2:Int)+r_4))+r_5))+r_6))+r_7))],post:=[(.row 3 1 (Mi r_8.1))] })] [0,1,6,11,12,13,14,15,16,17] [0,2] 3 [.sl false 1 (Ms names_1),.sl false 2 (Mp zC stacks_1),Pp 0,Ii r_8.2.2,.bool r_3.1,.bool r_3.2.1,.bool r_3.2.2.1,.bool r_3.2.2.2,.own 2 ((r_8.1).length),Ii r_8.2.1] [Vb 33 [Ii 0,Ii 0,.str ([]:List Int),Ii 0,Ii 0,.nilsl],Rb 3 1 (Mi r_8.1)] zD (ar ([.bool r_3.1]:List AV) (ac (rfl:([]:List zP)=[]) (ac (zB2 r_3.1 r_4 h_8:zM prog 98 [] [] [.bool r_3.1] [] (Ii r_4)) (ar ([.bool r_3.2.1]:List AV) (ac (rfl:([]:List zP)=[]) (ac (zB2 r_3.2.1 r_5 h_9:zM prog 98 [] [] [.bool r_3.2.1] [] (Ii r_5)) (ar ([.bool r_3.2.2.1]:List AV) (ac (rfl:([]:List zP)=[]) (ac (zB2 r_3.2.2.1 r_6 h_10:zM prog 98 [] [] [.bool r_3.2.2.1] [] (Ii r_6)) (ar ([.bool r_3.2.2.2]:List AV) (ac (rfl:([]:List zP)=[]) (ac (zB2 r_3.2.2.2 r_7 h_11:zM prog 98 [] [] [.bool r_3.2.2.2] [] (Ii r_7)) (ar ([.sl false 1 (Mb b_1),Ii (zK ((zK ((zK ((zK ((2:Int)+r_4))+r_5))+r_6))+r_7))]:List AV) (ac (rfl:([]:List zP)=[]) (ac (zFe F b_1 (zK ((zK ((zK ((zK ((2:Int)+r_4))+r_5))+r_6))+r_7)) r_8 h_12:zM prog 97 [] [] [.sl false 1 (Mb b_1),Ii (zK ((zK ((zK ((zK ((2:Int)+r_4))+r_5))+r_6))+r_7))] [(.row 3 1 (Mi r_8.1))] (.tuple [.own 0 ((r_8.1).length),Ii r_8.2.1,Ii r_8.2.2])) an))))))))))))))) ?_
 refine sq ?_
 refine sr [] [0,1,6,11,12,13,14,15,16,17,76] [0,2] 3 [.sl false 1 (Ms names_1),.sl false 2 (Mp zC stacks_1),Pp 0,Ii r_8.2.2,.bool r_3.1,.bool r_3.2.1,.bool r_3.2.2.1,.bool r_3.2.2.2,.own 2 ((r_8.1).length),Ii r_8.2.1,.bool (r_8.2.2 != (0:Int))] [Vb 33 [Ii 0,Ii 0,.str ([]:List Int),Ii 0,Ii 0,.nilsl],Rb 3 1 (Mi r_8.1)] zD an ?_
 refine cd 76 (r_8.2.2 != (0:Int)) ?_ ?_
 ·intro g_4;replace h:=zN g_4 h
  refine sr [] [6,7,8] [0] 3 [Pp 0,Ii 0,Ii r_8.2.2] [Vb 33 [Ii 0,Ii 0,.str ([]:List Int),Ii 0,Ii 0,.nilsl]] zD an ?_
  refine wk [0] [] [.s 6,.s 7,.s 8] [.a 0 (Vb 33 (zJ (⟨(0:Int),(0:Int),([]:List Int),(0:Int),(0:Int),[]⟩:zA)))] [(6,Pp 0),(7,Ii 0),(8,Ii r_8.2.2)] [(0,Vb 33 (zJ (⟨(0:Int),(0:Int),([]:List Int),(0:Int),(0:Int),[]⟩:zA)))] (ar 33 (ac (rfl:xA [Ii ((⟨(0:Int),(0:Int),([]:List Int),(0:Int),(0:Int),[]⟩:zA).At),Ii ((⟨(0:Int),(0:Int),([]:List Int),(0:Int),(0:Int),[]⟩:zA).Kind),.str ((⟨(0:Int),(0:Int),([]:List Int),(0:Int),(0:Int),[]⟩:zA).Name),Ii ((⟨(0:Int),(0:Int),([]:List Int),(0:Int),(0:Int),[]⟩:zA).N),Ii ((⟨(0:Int),(0:Int),([]:List Int),(0:Int),(0:Int),[]⟩:zA).M),.sl false 1 (Ms ((⟨(0:Int),(0:Int),([]:List Int),(0:Int),(0:Int),[]⟩:zA).Stack))]=true) (ac (rfl:(Ii 0:AV)=Ii ((⟨(0:Int),(0:Int),([]:List Int),(0:Int),(0:Int),[]⟩:zA).At)) (ac (rfl:(Ii 0:AV)=Ii ((⟨(0:Int),(0:Int),([]:List Int),(0:Int),(0:Int),[]⟩:zA).Kind)) (ac (rfl:(.str ([]:List Int):AV)=.str ((⟨(0:Int),(0:Int),([]:List Int),(0:Int),(0:Int),[]⟩:zA).Name)) (ac (rfl:(Ii 0:AV)=Ii ((⟨(0:Int),(0:Int),([]:List Int),(0:Int),(0:Int),[]⟩:zA).N)) (ac (rfl:(Ii 0:AV)=Ii ((⟨(0:Int),(0:Int),([]:List Int),(0:Int),(0:Int),[]⟩:zA).M)) (ac (rfl:((Ms ((⟨(0:Int),(0:Int),([]:List Int),(0:Int),(0:Int),[]⟩:zA).Stack)):List AV)=[]) an)))))))) ?_
  refine rt ?_
  cases h
  exact ⟨.inr rfl,Nat.le_of_ble_eq_true rfl,by kernel_rfl⟩
 intro g_4;replace h:=zO g_4 h
 refine sk ?_
 refine sq ?_
 obtain ⟨x_4,h_13,h⟩:=bind_some h
 obtain ⟨x_5,h_14,h⟩:=bind_some h
 refine rg [(2,{ av:=Ii x_4 }),(5,{ av:=Ii x_5 }),(7,{ id:=3 })] [0,1,6,12,13,14,15,16,17,18] [0,2,3] 4 [.sl false 1 (Ms names_1),.sl false 2 (Mp zC stacks_1),Pp 0,.bool r_3.1,.bool r_3.2.1,.bool r_3.2.2.1,.bool r_3.2.2.2,.own 2 ((r_8.1).length),Ii r_8.2.1,Pp 3] [Vb 33 [Ii 0,Ii 0,.str ([]:List Int),Ii 0,Ii 0,.nilsl],Rb 3 1 (Mi r_8.1),Vb 33 [Ii x_5,Ii x_4,.str ([]:List Int),Ii 0,Ii 0,.nilsl]] zD (ac (wQ h_13:(0:Int)≤(0:Int)) (ac (by first | (simp;done) | simpa using wR h_13:(0:Int)<(((r_8.1).length:Nat):Int)) (ac (vP h_13:(Mi r_8.1)[0]?=some (Ii x_4)) (ac (wQ h_14:(0:Int)≤(1:Int)) (ac (by first | (simp;done) | simpa using wR h_14:(1:Int)<(((r_8.1).length:Nat):Int)) (ac (vP h_14:(Mi r_8.1)[1]?=some (Ii x_5)) an)))))) ?_
 refine sr [] [0,1,6,12,13,14,15,16,17,18,19] [0,2,3] 4 [.sl false 1 (Ms names_1),.sl false 2 (Mp zC stacks_1),Pp 0,.bool r_3.1,.bool r_3.2.1,.bool r_3.2.2.1,.bool r_3.2.2.2,.own 2 ((r_8.1).length),Ii r_8.2.1,Pp 3,Ii 2] [Vb 33 [Ii 0,Ii 0,.str ([]:List Int),Ii 0,Ii 0,.nilsl],Rb 3 1 (Mi r_8.1),Vb 33 [Ii x_5,Ii x_4,.str ([]:List Int),Ii 0,Ii 0,.nilsl]] zD an ?_
 refine sq ?_
 refine sr [] [0,1,6,13,14,15,16,17,18,19,86] [0,2,3] 4 [.sl false 1 (Ms names_1),.sl false 2 (Mp zC stacks_1),Pp 0,.bool r_3.2.1,.bool r_3.2.2.1,.bool r_3.2.2.2,.own 2 ((r_8.1).length),Ii r_8.2.1,Pp 3,Ii 2,.bool r_3.1] [Vb 33 [Ii 0,Ii 0,.str ([]:List Int),Ii 0,Ii 0,.nilsl],Rb 3 1 (Mi r_8.1),Vb 33 [Ii x_5,Ii x_4,.str ([]:List Int),Ii 0,Ii 0,.nilsl]] zD an ?_
 obtain ⟨o_1,h_15,h⟩:=bind_some h
 refine yZ (K1:=(fun e st'=>match o_1 with | (.inl q0)=>e=.normal∧Sub 0 st' (mk [(0,.sl false 1 (Ms names_1)),(1,.sl false 2 (Mp zC stacks_1)),(6,Pp 0),(13,.bool r_3.2.1),(14,.bool r_3.2.2.1),(15,.bool r_3.2.2.2),(16,.own 1 ((r_8.1).length)),(17,Ii r_8.2.1),(18,Pp 2),(19,Ii q0.1)] [(0,Vb 33 [Ii 0,Ii 0,.str ([]:List Int),Ii 0,Ii 0,.nilsl]),(1,Rb 3 1 (Mi r_8.1)),(2,Vb 33 [Ii x_5,Ii x_4,.str q0.2,Ii 0,Ii 0,.nilsl])] 3) | (.inr q1)=>e=.ret∧vS prog Go.Proofs.Try.f91 0 [] (.tuple [zB q1.1,Ii q1.2.1,Ii q1.2.2]) st')) ?_ ?_
 ·replace h:=h_15
  refine cd 86 r_3.1 ?_ ?_
  rotate_left
  ·intro g_5;replace h:=zO g_5 h
   refine sk ?_
   cases h
   exact ⟨rfl,(sw [0,2,3] [] [.s 0,.s 1,.s 6,.s 13,.s 14,.s 15,.s 16,.s 17,.s 18,.s 19] [.s 0,.s 1,.s 2] an)⟩
  intro g_5;replace h:=zN g_5 h
  refine sq ?_
  refine sq ?_
  obtain ⟨p_2,h_18,h⟩:=bind_some h
  refine zX (mk [(0,.sl false 1 (Ms names_1)),(1,.sl false 2 (Mp zC stacks_1)),(6,Pp 0),(13,.bool r_3.2.1),(14,.bool r_3.2.2.1),(15,.bool r_3.2.2.2),(16,.own 1 ((r_8.1).length)),(17,Ii r_8.2.1),(18,Pp 2),(19,Ii 2),(100,.bool p_2)] [(0,Vb 33 [Ii 0,Ii 0,.str ([]:List Int),Ii 0,Ii 0,.nilsl]),(1,Rb 3 1 (Mi r_8.1)),(2,Vb 33 [Ii x_5,Ii x_4,.str ([]:List Int),Ii 0,Ii 0,.nilsl])] 3) ?_ ?_
  ·replace h:=h_18
   obtain ⟨x_6,h_16,h⟩:=bind_some h
   rcases bft (decide (x_6<(0:Int))) with gg_3 | gg_3
   ·replace h:=zN gg_3 h
    refine rg [(3,{ av:=Ii x_6 }),(6,Hg),(7,Hg),(8,Hg),(9,Hg),(10,Hg),(11,Hg),(12,Hg),(13,Ht)] [0,1,6,13,14,15,16,17,18,19,100] [0,2,3] 4 [.sl false 1 (Ms names_1),.sl false 2 (Mp zC stacks_1),Pp 0,.bool r_3.2.1,.bool r_3.2.2.1,.bool r_3.2.2.2,.own 2 ((r_8.1).length),Ii r_8.2.1,Pp 3,Ii 2,.bool true] [Vb 33 [Ii 0,Ii 0,.str ([]:List Int),Ii 0,Ii 0,.nilsl],Rb 3 1 (Mi r_8.1),Vb 33 [Ii x_5,Ii x_4,.str ([]:List Int),Ii 0,Ii 0,.nilsl]] zD (ac (wQ h_16:(0:Int)≤(2:Int)) (ac (by first | (simp;done) | simpa using wR h_16:(2:Int)<(((r_8.1).length:Nat):Int)) (ac (vP h_16:(Mi r_8.1)[2]?=some (Ii x_6)) (ac gg_3 (ac gg_3 (ac gg_3 (ac gg_3 (ac gg_3 (ac gg_3 (ac gg_3 (ac gg_3 an))))))))))) ?_
    cases h
    exact ⟨rfl,(sw [0,2,3] [] [.s 0,.s 1,.s 6,.s 13,.s 14,.s 15,.s 16,.s 17,.s 18,.s 19,.s 100] [.s 0,.s 1,.s 2] an)⟩
   ·replace h:=zO gg_3 h
    obtain ⟨x_7,h_17,h⟩:=bind_some h
    refine rg [(3,{ av:=Ii x_6 }),(9,{ av:=Ii x_7 }),(11,{ n:=(names_1).length }),(13,Hf)] [0,1,6,13,14,15,16,17,18,19,100] [0,2,3] 4 [.sl false 1 (Ms names_1),.sl false 2 (Mp zC stacks_1),Pp 0,.bool r_3.2.1,.bool r_3.2.2.1,.bool r_3.2.2.2,.own 2 ((r_8.1).length),Ii r_8.2.1,Pp 3,Ii 2,.bool (decide (x_7≥(lN (names_1))))] [Vb 33 [Ii 0,Ii 0,.str ([]:List Int),Ii 0,Ii 0,.nilsl],Rb 3 1 (Mi r_8.1),Vb 33 [Ii x_5,Ii x_4,.str ([]:List Int),Ii 0,Ii 0,.nilsl]] zD (ac (wQ h_16:(0:Int)≤(2:Int)) (ac (by first | (simp;done) | simpa using wR h_16:(2:Int)<(((r_8.1).length:Nat):Int)) (ac (vP h_16:(Mi r_8.1)[2]?=some (Ii x_6)) (ac gg_3 (ac gg_3 (ac gg_3 (ac (wQ h_17:(0:Int)≤(2:Int)) (ac (by first | (simp;done) | simpa using wR h_17:(2:Int)<(((r_8.1).length:Nat):Int)) (ac gg_3 (ac (vP h_17:(Mi r_8.1)[2]?=some (Ii x_7)) (ac gg_3 (ac gg_3 (ac (zY _:((Ms names_1)).length=(names_1).length) (ac gg_3 (ac gg_3 an))))))))))))))) ?_
    cases h
    exact ⟨rfl,(sw [0,2,3] [] [.s 0,.s 1,.s 6,.s 13,.s 14,.s 15,.s 16,.s 17,.s 18,.s 19,.s 100] [.s 0,.s 1,.s 2] an)⟩
  refine cd 100 p_2 ?_ ?_
  ·intro g_6;replace h:=zN g_6 h
   refine sr [] [6,7,8] [0] 3 [Pp 0,Ii 0,Ii 2] [Vb 33 [Ii 0,Ii 0,.str ([]:List Int),Ii 0,Ii 0,.nilsl]] zD an ?_
   refine wk [0] [] [.s 6,.s 7,.s 8] [.a 0 (Vb 33 (zJ (⟨(0:Int),(0:Int),([]:List Int),(0:Int),(0:Int),[]⟩:zA)))] [(6,Pp 0),(7,Ii 0),(8,Ii 2)] [(0,Vb 33 (zJ (⟨(0:Int),(0:Int),([]:List Int),(0:Int),(0:Int),[]⟩:zA)))] (ar 33 (ac (rfl:xA [Ii ((⟨(0:Int),(0:Int),([]:List Int),(0:Int),(0:Int),[]⟩:zA).At),Ii ((⟨(0:Int),(0:Int),([]:List Int),(0:Int),(0:Int),[]⟩:zA).Kind),.str ((⟨(0:Int),(0:Int),([]:List Int),(0:Int),(0:Int),[]⟩:zA).Name),Ii ((⟨(0:Int),(0:Int),([]:List Int),(0:Int),(0:Int),[]⟩:zA).N),Ii ((⟨(0:Int),(0:Int),([]:List Int),(0:Int),(0:Int),[]⟩:zA).M),.sl false 1 (Ms ((⟨(0:Int),(0:Int),([]:List Int),(0:Int),(0:Int),[]⟩:zA).Stack))]=true) (ac (rfl:(Ii 0:AV)=Ii ((⟨(0:Int),(0:Int),([]:List Int),(0:Int),(0:Int),[]⟩:zA).At)) (ac (rfl:(Ii 0:AV)=Ii ((⟨(0:Int),(0:Int),([]:List Int),(0:Int),(0:Int),[]⟩:zA).Kind)) (ac (rfl:(.str ([]:List Int):AV)=.str ((⟨(0:Int),(0:Int),([]:List Int),(0:Int),(0:Int),[]⟩:zA).Name)) (ac (rfl:(Ii 0:AV)=Ii ((⟨(0:Int),(0:Int),([]:List Int),(0:Int),(0:Int),[]⟩:zA).N)) (ac (rfl:(Ii 0:AV)=Ii ((⟨(0:Int),(0:Int),([]:List Int),(0:Int),(0:Int),[]⟩:zA).M)) (ac (rfl:((Ms ((⟨(0:Int),(0:Int),([]:List Int),(0:Int),(0:Int),[]⟩:zA).Stack)):List AV)=[]) an)))))))) ?_
   refine rt ?_
   cases h
   exact ⟨rfl,Nat.le_of_ble_eq_true rfl,by kernel_rfl⟩
  intro g_6;replace h:=zO g_6 h
  refine sk ?_
  refine sq ?_
  obtain ⟨x_8,h_19,h⟩:=bind_some h
  obtain ⟨x_9,h_20,h⟩:=bind_some h
  refine rg [(4,{ av:=Ii x_8 }),(5,{ av:=.str x_9 })] [0,1,6,13,14,15,16,17,18,19] [0,1,2] 3 [.sl false 1 (Ms names_1),.sl false 2 (Mp zC stacks_1),Pp 0,.bool r_3.2.1,.bool r_3.2.2.1,.bool r_3.2.2.2,.own 1 ((r_8.1).length),Ii r_8.2.1,Pp 2,Ii 2] [Vb 33 [Ii 0,Ii 0,.str ([]:List Int),Ii 0,Ii 0,.nilsl],Rb 3 1 (Mi r_8.1),Vb 33 [Ii x_5,Ii x_4,.str x_9,Ii 0,Ii 0,.nilsl]] zD (ac (wQ h_19:(0:Int)≤(2:Int)) (ac (by first | (simp;done) | simpa using wR h_19:(2:Int)<(((r_8.1).length:Nat):Int)) (ac (vP h_19:(Mi r_8.1)[2]?=some (Ii x_8)) (ac (yO h_20:xD (Ms names_1) x_8=some (.str x_9)) an)))) ?_
  refine rg [] [0,1,6,13,14,15,16,17,18,19] [0,1,2] 3 [.sl false 1 (Ms names_1),.sl false 2 (Mp zC stacks_1),Pp 0,.bool r_3.2.1,.bool r_3.2.2.1,.bool r_3.2.2.2,.own 1 ((r_8.1).length),Ii r_8.2.1,Pp 2,Ii (zK ((2:Int)+(1:Int)))] [Vb 33 [Ii 0,Ii 0,.str ([]:List Int),Ii 0,Ii 0,.nilsl],Rb 3 1 (Mi r_8.1),Vb 33 [Ii x_5,Ii x_4,.str x_9,Ii 0,Ii 0,.nilsl]] zD an ?_
  cases h
  exact ⟨rfl,(sw [0,1,2] [] [.s 0,.s 1,.s 6,.s 13,.s 14,.s 15,.s 16,.s 17,.s 18,.s 19] [.s 0,.s 1,.s 2] an)⟩
 intro e st1 hk
 rcases o_1 with q_1 | q_2
 rotate_left
 ·obtain ⟨rfl,hf⟩:=hk
  cases h
  exact ⟨st1,Sub.refl _ _,.inr rfl,hf⟩
 obtain ⟨rfl,hs⟩:=hk
 refine ⟨_,hs,?_⟩
 refine sq ?_
 refine sr [] [0,1,6,14,15,16,17,18,19,112] [0,1,2] 3 [.sl false 1 (Ms names_1),.sl false 2 (Mp zC stacks_1),Pp 0,.bool r_3.2.2.1,.bool r_3.2.2.2,.own 1 ((r_8.1).length),Ii r_8.2.1,Pp 2,Ii q_1.1,.bool r_3.2.1] [Vb 33 [Ii 0,Ii 0,.str ([]:List Int),Ii 0,Ii 0,.nilsl],Rb 3 1 (Mi r_8.1),Vb 33 [Ii x_5,Ii x_4,.str q_1.2,Ii 0,Ii 0,.nilsl]] zD an ?_
 obtain ⟨o_2,h_21,h⟩:=bind_some h
 refine zX (mk [(0,.sl false 1 (Ms names_1)),(1,.sl false 2 (Mp zC stacks_1)),(6,Pp 0),(14,.bool r_3.2.2.1),(15,.bool r_3.2.2.2),(16,.own 1 ((r_8.1).length)),(17,Ii r_8.2.1),(18,Pp 2),(19,Ii o_2.1)] [(0,Vb 33 [Ii 0,Ii 0,.str ([]:List Int),Ii 0,Ii 0,.nilsl]),(1,Rb 3 1 (Mi r_8.1)),(2,Vb 33 [Ii x_5,Ii x_4,.str q_1.2,Ii o_2.2,Ii 0,.nilsl])] 3) ?_ ?_
 ·replace h:=h_21
  refine cd 112 r_3.2.1 ?_ ?_
  rotate_left
  ·intro g_7;replace h:=zO g_7 h
   refine sk ?_
   cases h
   exact ⟨rfl,(sw [0,1,2] [] [.s 0,.s 1,.s 6,.s 14,.s 15,.s 16,.s 17,.s 18,.s 19] [.s 0,.s 1,.s 2] an)⟩
  intro g_7;replace h:=zN g_7 h
  refine sq ?_
  obtain ⟨x_10,h_22,h⟩:=bind_some h
  refine rg [(3,{ av:=Ii x_10 })] [0,1,6,14,15,16,17,18,19] [0,1,2] 3 [.sl false 1 (Ms names_1),.sl false 2 (Mp zC stacks_1),Pp 0,.bool r_3.2.2.1,.bool r_3.2.2.2,.own 1 ((r_8.1).length),Ii r_8.2.1,Pp 2,Ii q_1.1] [Vb 33 [Ii 0,Ii 0,.str ([]:List Int),Ii 0,Ii 0,.nilsl],Rb 3 1 (Mi r_8.1),Vb 33 [Ii x_5,Ii x_4,.str q_1.2,Ii x_10,Ii 0,.nilsl]] zD (ac (wQ h_22:(0:Int)≤q_1.1) (ac (by first | (simp;done) | simpa using wR h_22:q_1.1<(((r_8.1).length:Nat):Int)) (ac (vP h_22:(Mi r_8.1)[(q_1.1).toNat]?=some (Ii x_10)) an))) ?_
  refine rg [] [0,1,6,14,15,16,17,18,19] [0,1,2] 3 [.sl false 1 (Ms names_1),.sl false 2 (Mp zC stacks_1),Pp 0,.bool r_3.2.2.1,.bool r_3.2.2.2,.own 1 ((r_8.1).length),Ii r_8.2.1,Pp 2,Ii (zK (q_1.1+(1:Int)))] [Vb 33 [Ii 0,Ii 0,.str ([]:List Int),Ii 0,Ii 0,.nilsl],Rb 3 1 (Mi r_8.1),Vb 33 [Ii x_5,Ii x_4,.str q_1.2,Ii x_10,Ii 0,.nilsl]] zD an ?_
  cases h
  exact ⟨rfl,(sw [0,1,2] [] [.s 0,.s 1,.s 6,.s 14,.s 15,.s 16,.s 17,.s 18,.s 19] [.s 0,.s 1,.s 2] an)⟩
 refine sq ?_
 refine sr [] [0,1,6,15,16,17,18,19,120] [0,1,2] 3 [.sl false 1 (Ms names_1),.sl false 2 (Mp zC stacks_1),Pp 0,.bool r_3.2.2.2,.own 1 ((r_8.1).length),Ii r_8.2.1,Pp 2,Ii o_2.1,.bool r_3.2.2.1] [Vb 33 [Ii 0,Ii 0,.str ([]:List Int),Ii 0,Ii 0,.nilsl],Rb 3 1 (Mi r_8.1),Vb 33 [Ii x_5,Ii x_4,.str q_1.2,Ii o_2.2,Ii 0,.nilsl]] zD an ?_
 obtain ⟨o_3,h_23,h⟩:=bind_some h
 refine zX (mk [(0,.sl false 1 (Ms names_1)),(1,.sl false 2 (Mp zC stacks_1)),(6,Pp 0),(15,.bool r_3.2.2.2),(16,.own 1 ((r_8.1).length)),(17,Ii r_8.2.1),(18,Pp 2),(19,Ii o_3.1)] [(0,Vb 33 [Ii 0,Ii 0,.str ([]:List Int),Ii 0,Ii 0,.nilsl]),(1,Rb 3 1 (Mi r_8.1)),(2,Vb 33 [Ii x_5,Ii x_4,.str q_1.2,Ii o_2.2,Ii o_3.2,.nilsl])] 3) ?_ ?_
 ·replace h:=h_23
  refine cd 120 r_3.2.2.1 ?_ ?_
  rotate_left
  ·intro g_8;replace h:=zO g_8 h
   refine sk ?_
   cases h
   exact ⟨rfl,(sw [0,1,2] [] [.s 0,.s 1,.s 6,.s 15,.s 16,.s 17,.s 18,.s 19] [.s 0,.s 1,.s 2] an)⟩
  intro g_8;replace h:=zN g_8 h
  refine sq ?_
  obtain ⟨x_11,h_24,h⟩:=bind_some h
  refine rg [(3,{ av:=Ii x_11 })] [0,1,6,15,16,17,18,19] [0,1,2] 3 [.sl false 1 (Ms names_1),.sl false 2 (Mp zC stacks_1),Pp 0,.bool r_3.2.2.2,.own 1 ((r_8.1).length),Ii r_8.2.1,Pp 2,Ii o_2.1] [Vb 33 [Ii 0,Ii 0,.str ([]:List Int),Ii 0,Ii 0,.nilsl],Rb 3 1 (Mi r_8.1),Vb 33 [Ii x_5,Ii x_4,.str q_1.2,Ii o_2.2,Ii x_11,.nilsl]] zD (ac (wQ h_24:(0:Int)≤o_2.1) (ac (by first | (simp;done) | simpa using wR h_24:o_2.1<(((r_8.1).length:Nat):Int)) (ac (vP h_24:(Mi r_8.1)[(o_2.1).toNat]?=some (Ii x_11)) an))) ?_
  refine rg [] [0,1,6,15,16,17,18,19] [0,1,2] 3 [.sl false 1 (Ms names_1),.sl false 2 (Mp zC stacks_1),Pp 0,.bool r_3.2.2.2,.own 1 ((r_8.1).length),Ii r_8.2.1,Pp 2,Ii (zK (o_2.1+(1:Int)))] [Vb 33 [Ii 0,Ii 0,.str ([]:List Int),Ii 0,Ii 0,.nilsl],Rb 3 1 (Mi r_8.1),Vb 33 [Ii x_5,Ii x_4,.str q_1.2,Ii o_2.2,Ii x_11,.nilsl]] zD an ?_
  cases h
  exact ⟨rfl,(sw [0,1,2] [] [.s 0,.s 1,.s 6,.s 15,.s 16,.s 17,.s 18,.s 19] [.s 0,.s 1,.s 2] an)⟩
 refine sq ?_
 refine sr [] [0,1,6,16,17,18,19,128] [0,1,2] 3 [.sl false 1 (Ms names_1),.sl false 2 (Mp zC stacks_1),Pp 0,.own 1 ((r_8.1).length),Ii r_8.2.1,Pp 2,Ii o_3.1,.bool r_3.2.2.2] [Vb 33 [Ii 0,Ii 0,.str ([]:List Int),Ii 0,Ii 0,.nilsl],Rb 3 1 (Mi r_8.1),Vb 33 [Ii x_5,Ii x_4,.str q_1.2,Ii o_2.2,Ii o_3.2,.nilsl]] zD an ?_
 obtain ⟨o_4,h_25,h⟩:=bind_some h
 refine yZ (K1:=(fun e st'=>match o_4 with | (.inl q0)=>e=.normal∧Sub 0 st' (mk [(6,Pp 0),(17,Ii r_8.2.1),(18,Pp 1)] [(0,Vb 33 [Ii 0,Ii 0,.str ([]:List Int),Ii 0,Ii 0,.nilsl]),(1,Vb 33 [Ii x_5,Ii x_4,.str q_1.2,Ii o_2.2,Ii o_3.2,.sl false 1 (Ms q0)])] 2) | (.inr q1)=>e=.ret∧vS prog Go.Proofs.Try.f91 0 [] (.tuple [zB q1.1,Ii q1.2.1,Ii q1.2.2]) st')) ?_ ?_
 ·replace h:=h_25
  refine cd 128 r_3.2.2.2 ?_ ?_
  rotate_left
  ·intro g_9;replace h:=zO g_9 h
   refine sk ?_
   cases h
   exact ⟨rfl,(sw [0,2] [] [.s 6,.s 17,.s 18] [.s 0,.a 1 (Vb 33 [Ii x_5,Ii x_4,.str q_1.2,Ii o_2.2,Ii o_3.2,.sl false 1 []])] (ar 33 (ac (rfl:xA [Ii x_5,Ii x_4,.str q_1.2,Ii o_2.2,Ii o_3.2,.sl false 1 []]=true) (ac (rfl:(Ii x_5:AV)=Ii x_5) (ac (rfl:(Ii x_4:AV)=Ii x_4) (ac (rfl:(.str q_1.2:AV)=.str q_1.2) (ac (rfl:(Ii o_2.2:AV)=Ii o_2.2) (ac (rfl:(Ii o_3.2:AV)=Ii o_3.2) (ar ([]:List AV) an)))))))))⟩
  intro g_9;replace h:=zN g_9 h
  refine sq ?_
  obtain ⟨x_12,h_26,h⟩:=bind_some h
  obtain ⟨r_9,h_27,h⟩:=bind_some h
  refine rg [(5,{ av:=Ii x_12 }),(6,{ av:=.tuple [.sl false 1 (Ms r_9.1),Ii r_9.2],l:=[.sl false 1 (Ms names_1),.sl false 2 (Mp zC stacks_1),Ii x_12] })] [6,17,18,20,21] [0,2] 3 [Pp 0,Ii r_8.2.1,Pp 2,.sl false 1 (Ms r_9.1),Ii r_9.2] [Vb 33 [Ii 0,Ii 0,.str ([]:List Int),Ii 0,Ii 0,.nilsl],Vb 33 [Ii x_5,Ii x_4,.str q_1.2,Ii o_2.2,Ii o_3.2,.nilsl]] zD (ac (wQ h_26:(0:Int)≤o_3.1) (ac (by first | (simp;done) | simpa using wR h_26:o_3.1<(((r_8.1).length:Nat):Int)) (ac (vP h_26:(Mi r_8.1)[(o_3.1).toNat]?=some (Ii x_12)) (ar ([.sl false 1 (Ms names_1),.sl false 2 (Mp zC stacks_1),Ii x_12]:List AV) (ac (rfl:([]:List zP)=[]) (ac (zIH F names_1 stacks_1 x_12 r_9 h_27:zM prog 99 [] [] [.sl false 1 (Ms names_1),.sl false 2 (Mp zC stacks_1),Ii x_12] [] (.tuple [.sl false 1 (Ms r_9.1),Ii r_9.2])) an)))))) ?_
  refine sq ?_
  refine sr [] [6,17,18,20,140] [0,2] 3 [Pp 0,Ii r_8.2.1,Pp 2,.sl false 1 (Ms r_9.1),.bool (r_9.2 != (0:Int))] [Vb 33 [Ii 0,Ii 0,.str ([]:List Int),Ii 0,Ii 0,.nilsl],Vb 33 [Ii x_5,Ii x_4,.str q_1.2,Ii o_2.2,Ii o_3.2,.nilsl]] zD an ?_
  refine cd 140 (r_9.2 != (0:Int)) ?_ ?_
  rotate_left
  ·intro g_10;replace h:=zO g_10 h
   refine sk ?_
   refine rg [] [6,17,18] [0,2] 3 [Pp 0,Ii r_8.2.1,Pp 2] [Vb 33 [Ii 0,Ii 0,.str ([]:List Int),Ii 0,Ii 0,.nilsl],Vb 33 [Ii x_5,Ii x_4,.str q_1.2,Ii o_2.2,Ii o_3.2,.sl false 1 (Ms r_9.1)]] zD an ?_
   cases h
   exact ⟨rfl,(sw [0,2] [] [.s 6,.s 17,.s 18] [.s 0,.s 1] an)⟩
  intro g_10;replace h:=zN g_10 h
  refine sr [] [6,7,8] [0] 3 [Pp 0,Ii 0,Ii 2] [Vb 33 [Ii 0,Ii 0,.str ([]:List Int),Ii 0,Ii 0,.nilsl]] zD an ?_
  refine wk [0] [] [.s 6,.s 7,.s 8] [.a 0 (Vb 33 (zJ (⟨(0:Int),(0:Int),([]:List Int),(0:Int),(0:Int),[]⟩:zA)))] [(6,Pp 0),(7,Ii 0),(8,Ii 2)] [(0,Vb 33 (zJ (⟨(0:Int),(0:Int),([]:List Int),(0:Int),(0:Int),[]⟩:zA)))] (ar 33 (ac (rfl:xA [Ii ((⟨(0:Int),(0:Int),([]:List Int),(0:Int),(0:Int),[]⟩:zA).At),Ii ((⟨(0:Int),(0:Int),([]:List Int),(0:Int),(0:Int),[]⟩:zA).Kind),.str ((⟨(0:Int),(0:Int),([]:List Int),(0:Int),(0:Int),[]⟩:zA).Name),Ii ((⟨(0:Int),(0:Int),([]:List Int),(0:Int),(0:Int),[]⟩:zA).N),Ii ((⟨(0:Int),(0:Int),([]:List Int),(0:Int),(0:Int),[]⟩:zA).M),.sl false 1 (Ms ((⟨(0:Int),(0:Int),([]:List Int),(0:Int),(0:Int),[]⟩:zA).Stack))]=true) (ac (rfl:(Ii 0:AV)=Ii ((⟨(0:Int),(0:Int),([]:List Int),(0:Int),(0:Int),[]⟩:zA).At)) (ac (rfl:(Ii 0:AV)=Ii ((⟨(0:Int),(0:Int),([]:List Int),(0:Int),(0:Int),[]⟩:zA).Kind)) (ac (rfl:(.str ([]:List Int):AV)=.str ((⟨(0:Int),(0:Int),([]:List Int),(0:Int),(0:Int),[]⟩:zA).Name)) (ac (rfl:(Ii 0:AV)=Ii ((⟨(0:Int),(0:Int),([]:List Int),(0:Int),(0:Int),[]⟩:zA).N)) (ac (rfl:(Ii 0:AV)=Ii ((⟨(0:Int),(0:Int),([]:List Int),(0:Int),(0:Int),[]⟩:zA).M)) (ac (rfl:((Ms ((⟨(0:Int),(0:Int),([]:List Int),(0:Int),(0:Int),[]⟩:zA).Stack)):List AV)=[]) an)))))))) ?_
  refine rt ?_
  cases h
  exact ⟨rfl,Nat.le_of_ble_eq_true rfl,by kernel_rfl⟩
 intro e st1 hk
 rcases o_4 with q_3 | q_4
 rotate_left
 ·obtain ⟨rfl,hf⟩:=hk
  cases h
  exact ⟨st1,Sub.refl _ _,.inr rfl,hf⟩
 obtain ⟨rfl,hs⟩:=hk
 refine ⟨_,hs,?_⟩
 refine sq ?_
 refine sq ?_
 obtain ⟨r_10,h_28,h⟩:=bind_some h
 refine rg [(1,{ av:=Ii r_10,l:=[.agg [Ii x_5,Ii x_4,.str q_1.2,Ii o_2.2,Ii o_3.2,.sl false 1 (Ms q_3)]] })] [6,17,18,146] [0,1] 2 [Pp 0,Ii r_8.2.1,Pp 1,.bool (r_10 != (0:Int))] [Vb 33 [Ii 0,Ii 0,.str ([]:List Int),Ii 0,Ii 0,.nilsl],Vb 33 [Ii x_5,Ii x_4,.str q_1.2,Ii o_2.2,Ii o_3.2,.sl false 1 (Ms q_3)]] zD (ar ([.agg [Ii x_5,Ii x_4,.str q_1.2,Ii o_2.2,Ii o_3.2,.sl false 1 (Ms q_3)]]:List AV) (ac (rfl:([]:List zP)=[]) (ac (y7 (args':=[zB (⟨x_5,x_4,q_1.2,o_2.2,o_3.2,q_3⟩:zA)]) (zCD F (⟨x_5,x_4,q_1.2,o_2.2,o_3.2,q_3⟩:zA) r_10 h_28) rfl ⟨rfl,rfl,rfl,rfl,rfl,rfl,rfl,rfl,trivial⟩:zM prog 47 [] [] [.agg [Ii x_5,Ii x_4,.str q_1.2,Ii o_2.2,Ii o_3.2,.sl false 1 (Ms q_3)]] [] (Ii r_10)) an))) ?_
 refine cd 146 (r_10 != (0:Int)) ?_ ?_
 ·intro g_11;replace h:=zN g_11 h
  refine sr [] [6,7,8] [0] 2 [Pp 0,Ii 0,Ii 10] [Vb 33 [Ii 0,Ii 0,.str ([]:List Int),Ii 0,Ii 0,.nilsl]] zD an ?_
  refine wk [0] [] [.s 6,.s 7,.s 8] [.a 0 (Vb 33 (zJ (⟨(0:Int),(0:Int),([]:List Int),(0:Int),(0:Int),[]⟩:zA)))] [(6,Pp 0),(7,Ii 0),(8,Ii 10)] [(0,Vb 33 (zJ (⟨(0:Int),(0:Int),([]:List Int),(0:Int),(0:Int),[]⟩:zA)))] (ar 33 (ac (rfl:xA [Ii ((⟨(0:Int),(0:Int),([]:List Int),(0:Int),(0:Int),[]⟩:zA).At),Ii ((⟨(0:Int),(0:Int),([]:List Int),(0:Int),(0:Int),[]⟩:zA).Kind),.str ((⟨(0:Int),(0:Int),([]:List Int),(0:Int),(0:Int),[]⟩:zA).Name),Ii ((⟨(0:Int),(0:Int),([]:List Int),(0:Int),(0:Int),[]⟩:zA).N),Ii ((⟨(0:Int),(0:Int),([]:List Int),(0:Int),(0:Int),[]⟩:zA).M),.sl false 1 (Ms ((⟨(0:Int),(0:Int),([]:List Int),(0:Int),(0:Int),[]⟩:zA).Stack))]=true) (ac (rfl:(Ii 0:AV)=Ii ((⟨(0:Int),(0:Int),([]:List Int),(0:Int),(0:Int),[]⟩:zA).At)) (ac (rfl:(Ii 0:AV)=Ii ((⟨(0:Int),(0:Int),([]:List Int),(0:Int),(0:Int),[]⟩:zA).Kind)) (ac (rfl:(.str ([]:List Int):AV)=.str ((⟨(0:Int),(0:Int),([]:List Int),(0:Int),(0:Int),[]⟩:zA).Name)) (ac (rfl:(Ii 0:AV)=Ii ((⟨(0:Int),(0:Int),([]:List Int),(0:Int),(0:Int),[]⟩:zA).N)) (ac (rfl:(Ii 0:AV)=Ii ((⟨(0:Int),(0:Int),([]:List Int),(0:Int),(0:Int),[]⟩:zA).M)) (ac (rfl:((Ms ((⟨(0:Int),(0:Int),([]:List Int),(0:Int),(0:Int),[]⟩:zA).Stack)):List AV)=[]) an)))))))) ?_
  refine rt ?_
  cases h
  exact ⟨.inr rfl,Nat.le_of_ble_eq_true rfl,by kernel_rfl⟩
 intro g_11;replace h:=zO g_11 h
 refine sk ?_
 refine sr [] [6,7,8] [0] 2 [Pp 0,Ii r_8.2.1,Ii 0] [Vb 33 [Ii x_5,Ii x_4,.str q_1.2,Ii o_2.2,Ii o_3.2,.sl false 1 (Ms q_3)]] zD an ?_
 refine wk [0] [] [.s 6,.s 7,.s 8] [.a 0 (Vb 33 (zJ (⟨x_5,x_4,q_1.2,o_2.2,o_3.2,q_3⟩:zA)))] [(6,Pp 0),(7,Ii r_8.2.1),(8,Ii 0)] [(0,Vb 33 (zJ (⟨x_5,x_4,q_1.2,o_2.2,o_3.2,q_3⟩:zA)))] (ar 33 (ac (rfl:xA [Ii ((⟨x_5,x_4,q_1.2,o_2.2,o_3.2,q_3⟩:zA).At),Ii ((⟨x_5,x_4,q_1.2,o_2.2,o_3.2,q_3⟩:zA).Kind),.str ((⟨x_5,x_4,q_1.2,o_2.2,o_3.2,q_3⟩:zA).Name),Ii ((⟨x_5,x_4,q_1.2,o_2.2,o_3.2,q_3⟩:zA).N),Ii ((⟨x_5,x_4,q_1.2,o_2.2,o_3.2,q_3⟩:zA).M),.sl false 1 (Ms ((⟨x_5,x_4,q_1.2,o_2.2,o_3.2,q_3⟩:zA).Stack))]=true) (ac (rfl:(Ii x_5:AV)=Ii ((⟨x_5,x_4,q_1.2,o_2.2,o_3.2,q_3⟩:zA).At)) (ac (rfl:(Ii x_4:AV)=Ii ((⟨x_5,x_4,q_1.2,o_2.2,o_3.2,q_3⟩:zA).Kind)) (ac (rfl:(.str q_1.2:AV)=.str ((⟨x_5,x_4,q_1.2,o_2.2,o_3.2,q_3⟩:zA).Name)) (ac (rfl:(Ii o_2.2:AV)=Ii ((⟨x_5,x_4,q_1.2,o_2.2,o_3.2,q_3⟩:zA).N)) (ac (rfl:(Ii o_3.2:AV)=Ii ((⟨x_5,x_4,q_1.2,o_2.2,o_3.2,q_3⟩:zA).M)) (ar 1 (ac (rfl:((Ms q_3):List AV)=(Ms ((⟨x_5,x_4,q_1.2,o_2.2,o_3.2,q_3⟩:zA).Stack))) (ac (rfl:(!false||false)=true) an)))))))))) ?_
 refine rt ?_
 cases h
 exact ⟨.inr rfl,Nat.le_of_ble_eq_true rfl,by kernel_rfl⟩
theorem zD5 (F:Nat) (c_1:zL) (names_1:List (List Int)) (stacks_1:List (zE)) (r:zA×zL) (h:jS F c_1 names_1 stacks_1=some r):zM prog 69 [(.var 71 (zG c_1))] [] [Pp 0,.sl false 1 (Ms names_1),.sl false 2 (Mp zC stacks_1)] [(.var 71 (zG r.2))] (zB r.1):=by
 refine zS (fn:=Go.Proofs.Try.f69) (code:=z6 Go.Proofs.Try.f69) (by kernel_rfl) (by kernel_rfl) (Nat.le_of_ble_eq_true (by kernel_rfl)) ?_
 unfold jS at h
 refine sr [(0,{ id:=1 })] [0,1,2,6] [0,1] 2 [Pp 0,.sl false 1 (Ms names_1),.sl false 2 (Mp zC stacks_1),Pp 1] [Vb 71 (zG c_1),Vb 33 [Ii 0,Ii 0,.str ([]:List Int),Ii 0,Ii 0,.nilsl]] zD an ?_
 refine sq ?_
 refine sr [] [0,1,2,6,14] [0,1] 2 [Pp 0,.sl false 1 (Ms names_1),.sl false 2 (Mp zC stacks_1),Pp 1,.bool (c_1.E != (0:Int))] [Vb 71 (zG c_1),Vb 33 [Ii 0,Ii 0,.str ([]:List Int),Ii 0,Ii 0,.nilsl]] zD an ?_
 refine cd 14 (c_1.E != (0:Int)) ?_ ?_
 ·intro g_1;replace h:=zN g_1 h
  refine sr [] [6] [0,1] 2 [Pp 1] [Vb 71 (zG c_1),Vb 33 [Ii 0,Ii 0,.str ([]:List Int),Ii 0,Ii 0,.nilsl]] zD an ?_
  refine wk [0,1] [] [.s 6] [.s 0,.a 1 (Vb 33 (zJ (⟨(0:Int),(0:Int),([]:List Int),(0:Int),(0:Int),[]⟩:zA)))] [(6,Pp 1)] [(0,Vb 71 (zG c_1)),(1,Vb 33 (zJ (⟨(0:Int),(0:Int),([]:List Int),(0:Int),(0:Int),[]⟩:zA)))] (ar 33 (ac (rfl:xA [Ii ((⟨(0:Int),(0:Int),([]:List Int),(0:Int),(0:Int),[]⟩:zA).At),Ii ((⟨(0:Int),(0:Int),([]:List Int),(0:Int),(0:Int),[]⟩:zA).Kind),.str ((⟨(0:Int),(0:Int),([]:List Int),(0:Int),(0:Int),[]⟩:zA).Name),Ii ((⟨(0:Int),(0:Int),([]:List Int),(0:Int),(0:Int),[]⟩:zA).N),Ii ((⟨(0:Int),(0:Int),([]:List Int),(0:Int),(0:Int),[]⟩:zA).M),.sl false 1 (Ms ((⟨(0:Int),(0:Int),([]:List Int),(0:Int),(0:Int),[]⟩:zA).Stack))]=true) (ac (rfl:(Ii 0:AV)=Ii ((⟨(0:Int),(0:Int),([]:List Int),(0:Int),(0:Int),[]⟩:zA).At)) (ac (rfl:(Ii 0:AV)=Ii ((⟨(0:Int),(0:Int),([]:List Int),(0:Int),(0:Int),[]⟩:zA).Kind)) (ac (rfl:(.str ([]:List Int):AV)=.str ((⟨(0:Int),(0:Int),([]:List Int),(0:Int),(0:Int),[]⟩:zA).Name)) (ac (rfl:(Ii 0:AV)=Ii ((⟨(0:Int),(0:Int),([]:List Int),(0:Int),(0:Int),[]⟩:zA).N)) (ac (rfl:(Ii 0:AV)=Ii ((⟨(0:Int),(0:Int),([]:List Int),(0:Int),(0:Int),[]⟩:zA).M)) (ac (rfl:((Ms ((⟨(0:Int),(0:Int),([]:List Int),(0:Int),(0:Int),[]⟩:zA).Stack)):List AV)=[]) an)))))))) ?_
  refine rt ?_
  cases h
  exact ⟨.inr rfl,Nat.le_of_ble_eq_true rfl,by kernel_rfl⟩
 intro g_1;replace h:=zO g_1 h
 refine sk ?_
 refine sq ?_
 obtain ⟨_,h_1,h⟩:=bind_some h;replace h_1:=z0 h_1
 obtain ⟨r_1,h_2,h⟩:=bind_some h
 refine rg [(10,{ l:=(Mb (sub c_1.B c_1.At (lN (c_1.B)))) }),(11,{ av:=.tuple [zB r_1.1,Ii r_1.2.1,Ii r_1.2.2],l:=[.sl false 1 (Ms names_1),.sl false 2 (Mp zC stacks_1),.sl false 1 (Mb (sub c_1.B c_1.At (lN (c_1.B))))] }),(16,{ id:=2 })] [0,6,7,8,9] [0,1,2] 3 [Pp 0,Pp 1,Pp 2,Ii r_1.2.1,Ii r_1.2.2] [Vb 71 (zG c_1),Vb 33 [Ii 0,Ii 0,.str ([]:List Int),Ii 0,Ii 0,.nilsl],Vb 33 (zJ r_1.1)] zD (ac h_1.1 (ac (v5 h_1.2:c_1.At≤(lN ((Mb c_1.B)))) (ac (Int.le_refl _:(lN ((Mb c_1.B)))≤(lN ((Mb c_1.B)))) (ac (zAk _ _:(Mb (sub c_1.B c_1.At (lN (c_1.B))))=(((Mb c_1.B)).take ((lN ((Mb c_1.B)))).toNat).drop (c_1.At).toNat) (ar ([.sl false 1 (Ms names_1),.sl false 2 (Mp zC stacks_1),.sl false 1 (Mb (sub c_1.B c_1.At (lN (c_1.B))))]:List AV) (ac (rfl:([]:List zP)=[]) (ac (zH1 F names_1 stacks_1 (sub c_1.B c_1.At (lN (c_1.B))) r_1 h_2:zM prog 91 [] [] [.sl false 1 (Ms names_1),.sl false 2 (Mp zC stacks_1),.sl false 1 (Mb (sub c_1.B c_1.At (lN (c_1.B))))] [] (.tuple [zB r_1.1,Ii r_1.2.1,Ii r_1.2.2])) an))))))) ?_
 refine sr [] [0,6,7,9] [0,1,2] 3 [Pp 0,Pp 1,Pp 2,Ii r_1.2.2] [Vb 71 [.sl false 1 (Mb c_1.B),Ii (zK (c_1.At+r_1.2.1)),Ii c_1.E],Vb 33 [Ii 0,Ii 0,.str ([]:List Int),Ii 0,Ii 0,.nilsl],Vb 33 (zJ r_1.1)] zD an ?_
 refine sr [] [6,7] [0,1,2] 3 [Pp 1,Pp 2] [Vb 71 [.sl false 1 (Mb c_1.B),Ii (zK (c_1.At+r_1.2.1)),Ii r_1.2.2],Vb 33 [Ii 0,Ii 0,.str ([]:List Int),Ii 0,Ii 0,.nilsl],Vb 33 (zJ r_1.1)] zD an ?_
 refine sr [] [6] [0,1] 3 [Pp 1] [Vb 71 [.sl false 1 (Mb c_1.B),Ii (zK (c_1.At+r_1.2.1)),Ii r_1.2.2],Vb 33 (zJ r_1.1)] zD an ?_
 refine wk [0,1] [] [.s 6] [.a 0 (Vb 71 (zG (⟨c_1.B,zK (c_1.At+r_1.2.1),r_1.2.2⟩:zL))),.s 1] [(6,Pp 1)] [(0,Vb 71 (zG (⟨c_1.B,zK (c_1.At+r_1.2.1),r_1.2.2⟩:zL))),(1,Vb 33 (zJ r_1.1))] (ar 71 (ac (rfl:xA [.sl false 1 (Mb ((⟨c_1.B,zK (c_1.At+r_1.2.1),r_1.2.2⟩:zL).B)),Ii ((⟨c_1.B,zK (c_1.At+r_1.2.1),r_1.2.2⟩:zL).At),Ii ((⟨c_1.B,zK (c_1.At+r_1.2.1),r_1.2.2⟩:zL).E)]=true) (ar 1 (ac (rfl:((Mb c_1.B):List AV)=(Mb ((⟨c_1.B,zK (c_1.At+r_1.2.1),r_1.2.2⟩:zL).B))) (ac (rfl:(!false||false)=true) (ac (rfl:(Ii (zK (c_1.At+r_1.2.1)):AV)=Ii ((⟨c_1.B,zK (c_1.At+r_1.2.1),r_1.2.2⟩:zL).At)) (ac (rfl:(Ii r_1.2.2:AV)=Ii ((⟨c_1.B,zK (c_1.At+r_1.2.1),r_1.2.2⟩:zL).E)) an))))))) ?_
 refine rt ?_
 cases h
 exact ⟨.inr rfl,Nat.le_of_ble_eq_true rfl,by kernel_rfl⟩
theorem zDO (F:Nat) (c_1:zL) (r:zF×zL) (h:jH F c_1=some r):zM prog 43 [(.var 71 (zG c_1))] [] [Pp 0] [(.var 71 (zG r.2))] (zI r.1):=by
 refine zS (fn:=Go.Proofs.Try.f43) (code:=z6 Go.Proofs.Try.f43) (by kernel_rfl) (by kernel_rfl) (Nat.le_of_ble_eq_true (by kernel_rfl)) ?_
 unfold jH at h
 refine sr [(0,{ id:=1 })] [0,2] [0,1] 2 [Pp 0,Pp 1] [Vb 71 (zG c_1),Vb 24 [Ii 0,Ii 0,Ii 0,.nilsl]] zD an ?_
 refine zAy (n8 1 3 2 33 6 (by kernel_rfl)) ?_
 refine wk [0,1,2] [] [.s 0,.s 2] [.s 0,.s 1,.s 2] [(0,Pp 0),(2,Pp 1)] [(0,Vb 71 (zG c_1)),(1,Vb 24 [Ii 0,Ii 0,Ii 0,.own 2 0]),(2,Rb 33 6 [])] an ?_
 refine sq ?_
 obtain ⟨r_1,h_1,h⟩:=bind_some h
 refine rg [(1,{ av:=Ii r_1.1,ids:=[0],l:=[Pp 0],post:=[(.var 71 (zG r_1.2))],pre:=[(.var 71 (zG c_1))] }),(3,{ id:=3 })] [0,2,3] [0,1,2,3] 4 [Pp 0,Pp 1,Pp 3] [Vb 71 (zG r_1.2),Vb 24 [Ii 0,Ii 0,Ii 0,.own 2 0],Rb 33 6 [],Vb 24 [Ii r_1.1,Ii 0,Ii 0,.nilsl]] zD (ar ([Pp 0]:List AV) (ac (rfl:([Vb 71 (zG c_1)]:List zP)=[Vb 71 (zG c_1)]) (ac (vT F c_1 r_1 h_1:zM prog 66 [(.var 71 (zG c_1))] [] [Pp 0] [(.var 71 (zG r_1.2))] (Ii r_1.1)) an))) ?_
 refine zAy (n8 3 3 4 33 6 (by kernel_rfl)) ?_
 refine wk [0,1,2,3,4] [] [.s 0,.s 2,.s 3] [.s 0,.s 1,.s 2,.s 3,.s 4] [(0,Pp 0),(2,Pp 1),(3,Pp 3)] [(0,Vb 71 (zG r_1.2)),(1,Vb 24 [Ii 0,Ii 0,Ii 0,.own 2 0]),(2,Rb 33 6 []),(3,Vb 24 [Ii r_1.1,Ii 0,Ii 0,.own 4 0]),(4,Rb 33 6 [])] an ?_
 refine sq ?_
 obtain ⟨r_2,h_2,h⟩:=bind_some h
 refine rg [(1,{ av:=Ii r_2.1,ids:=[0],l:=[Pp 0],post:=[(.var 71 (zG r_2.2))],pre:=[(.var 71 (zG r_1.2))] })] [0,2,3] [0,1,2,3,4] 5 [Pp 0,Pp 1,Pp 3] [Vb 71 (zG r_2.2),Vb 24 [Ii 0,Ii 0,Ii 0,.own 2 0],Rb 33 6 [],Vb 24 [Ii r_1.1,Ii r_2.1,Ii 0,.own 4 0],Rb 33 6 []] zD (ar ([Pp 0]:List AV) (ac (rfl:([Vb 71 (zG r_1.2)]:List zP)=[Vb 71 (zG r_1.2)]) (ac (vT F r_1.2 r_2 h_2:zM prog 66 [(.var 71 (zG r_1.2))] [] [Pp 0] [(.var 71 (zG r_2.2))] (Ii r_2.1)) an))) ?_
 refine sq ?_
 obtain ⟨r_3,h_3,h⟩:=bind_some h
 refine rg [(1,{ av:=Ii r_3.1,ids:=[0],l:=[Pp 0],post:=[(.var 71 (zG r_3.2))],pre:=[(.var 71 (zG r_2.2))] })] [0,2,3] [0,1,2,3,4] 5 [Pp 0,Pp 1,Pp 3] [Vb 71 (zG r_3.2),Vb 24 [Ii 0,Ii 0,Ii 0,.own 2 0],Rb 33 6 [],Vb 24 [Ii r_1.1,Ii r_2.1,Ii r_3.1,.own 4 0],Rb 33 6 []] zD (ar ([Pp 0]:List AV) (ac (rfl:([Vb 71 (zG r_2.2)]:List zP)=[Vb 71 (zG r_2.2)]) (ac (vT F r_2.2 r_3 h_3:zM prog 66 [(.var 71 (zG r_2.2))] [] [Pp 0] [(.var 71 (zG r_3.2))] (Ii r_3.1)) an))) ?_
 refine sr [(0,{ id:=5,m:=1 })] [0,2,3,4] [0,1,2,3,4,5] 6 [Pp 0,Pp 1,Pp 3,.own 5 0] [Vb 71 (zG r_3.2),Vb 24 [Ii 0,Ii 0,Ii 0,.own 2 0],Rb 33 6 [],Vb 24 [Ii r_1.1,Ii r_2.1,Ii r_3.1,.own 4 0],Rb 33 6 [],Rb 9 1 []] zD an ?_
 refine sq ?_
 obtain ⟨r_4,h_4,h⟩:=bind_some h
 refine rg [(1,{ av:=Ii r_4.1,ids:=[0],l:=[Pp 0,Ii 1000],post:=[(.var 71 (zG r_4.2))],pre:=[(.var 71 (zG r_3.2))] })] [0,2,3,4,5] [0,1,2,3,4,5] 6 [Pp 0,Pp 1,Pp 3,.own 5 0,Ii r_4.1] [Vb 71 (zG r_4.2),Vb 24 [Ii 0,Ii 0,Ii 0,.own 2 0],Rb 33 6 [],Vb 24 [Ii r_1.1,Ii r_2.1,Ii r_3.1,.own 4 0],Rb 33 6 [],Rb 9 1 []] zD (ar ([Pp 0,Ii 1000]:List AV) (ac (rfl:([Vb 71 (zG r_3.2)]:List zP)=[Vb 71 (zG r_3.2)]) (ac (nH F r_3.2 (1000:Int) r_4 h_4:zM prog 67 [(.var 71 (zG r_3.2))] [] [Pp 0,Ii 1000] [(.var 71 (zG r_4.2))] (Ii r_4.1)) an))) ?_
 refine sq ?_
 refine sr [] [0,2,3,4,5,6] [0,1,2,3,4,5] 6 [Pp 0,Pp 1,Pp 3,.own 5 0,Ii r_4.1,Ii 0] [Vb 71 (zG r_4.2),Vb 24 [Ii 0,Ii 0,Ii 0,.own 2 0],Rb 33 6 [],Vb 24 [Ii r_1.1,Ii r_2.1,Ii r_3.1,.own 4 0],Rb 33 6 [],Rb 9 1 []] zD an ?_
 obtain ⟨o_1,h_5,h⟩:=bind_some h
 refine zX (mk [(0,Pp 0),(2,Pp 1),(3,Pp 3),(4,.own 5 ((o_1.2.2.2).length))] [(0,Vb 71 [.sl false 1 (Mb o_1.1),Ii o_1.2.1,Ii o_1.2.2.1]),(1,Vb 24 [Ii 0,Ii 0,Ii 0,.own 2 0]),(2,Rb 33 6 []),(3,Vb 24 [Ii r_1.1,Ii r_2.1,Ii r_3.1,.own 4 0]),(4,Rb 33 6 []),(5,Rb 9 1 (Ms o_1.2.2.2))] 6) ?_ ?_
 ·replace h:=h_5
  refine zT (id:=0) (by kernel_rfl) ?_
  refine wk [0,1,2,3,4,5] [] [.s 0,.s 2,.s 3,.s 4,.s 5,.s 6] [.s 0,.s 1,.s 2,.s 3,.s 4,.s 5] [(0,Pp 0),(2,Pp 1),(3,Pp 3),(4,.own 5 0),(5,Ii r_4.1),(6,Ii 0)] [(0,Vb 71 (zG r_4.2)),(1,Vb 24 [Ii 0,Ii 0,Ii 0,.own 2 0]),(2,Rb 33 6 []),(3,Vb 24 [Ii r_1.1,Ii r_2.1,Ii r_3.1,.own 4 0]),(4,Rb 33 6 []),(5,Rb 9 1 [])] an ?_
  refine yF (fun n st=>∃ (i_1:Int),∃ (c_2:List Int),∃ (c_3:Int),∃ (c_4:Int),∃ (row_1:List (List Int)),st=mk [(0,Pp 0),(2,Pp 1),(3,Pp 3),(4,.own 5 ((row_1).length)),(5,Ii r_4.1),(6,Ii i_1)] [(0,Vb 71 [.sl false 1 (Mb c_2),Ii c_3,Ii c_4]),(1,Vb 24 [Ii 0,Ii 0,Ii 0,.own 2 0]),(2,Rb 33 6 []),(3,Vb 24 [Ii r_1.1,Ii r_2.1,Ii r_3.1,.own 4 0]),(4,Rb 33 6 []),(5,Rb 9 1 (Ms row_1))] 6∧uB F r_4 n i_1 c_2 c_3 c_4 row_1=some o_1) F (by kernel_rfl) ⟨_,_,_,_,_,rfl,h⟩ ?_ ?_
  ·rintro _ ⟨_,_,_,_,_,_,h⟩;exact yM (h:(none:Option ((List Int)×Int×Int×(List (List Int))))=some o_1)
  rintro n_1 _ ⟨i_1,c_2,c_3,c_4,row_1,rfl,h⟩
  replace h:wB F r_4 (uB F r_4 n_1) i_1 c_2 c_3 c_4 row_1=some o_1:=h
  unfold wB at h
  refine sq ?_
  refine sq ?_
  refine zX (mk [(0,Pp 0),(2,Pp 1),(3,Pp 3),(4,.own 5 ((row_1).length)),(5,Ii r_4.1),(6,Ii i_1),(31,.bool (decide (i_1<r_4.1)&&(c_4==(0:Int))))] [(0,Vb 71 [.sl false 1 (Mb c_2),Ii c_3,Ii c_4]),(1,Vb 24 [Ii 0,Ii 0,Ii 0,.own 2 0]),(2,Rb 33 6 []),(3,Vb 24 [Ii r_1.1,Ii r_2.1,Ii r_3.1,.own 4 0]),(4,Rb 33 6 []),(5,Rb 9 1 (Ms row_1))] 6) ?_ ?_
  ·rcases bft (decide (i_1<r_4.1)) with gg_4 | gg_4
   ·refine rg [(9,Ht)] [0,2,3,4,5,6,26,27,28,29,30,31] [0,1,2,3,4,5] 6 [Pp 0,Pp 1,Pp 3,.own 5 ((row_1).length),Ii r_4.1,Ii i_1,Pp 0,Pp 0,.ptr 0 0 0 2,Ii c_4,.bool (c_4==(0:Int)),.bool (c_4==(0:Int))] [Vb 71 [.sl false 1 (Mb c_2),Ii c_3,Ii c_4],Vb 24 [Ii 0,Ii 0,Ii 0,.own 2 0],Rb 33 6 [],Vb 24 [Ii r_1.1,Ii r_2.1,Ii r_3.1,.own 4 0],Rb 33 6 [],Rb 9 1 (Ms row_1)] zD (ac gg_4 (ac gg_4 (ac gg_4 (ac gg_4 (ac gg_4 (ac gg_4 an)))))) ?_
    exact ⟨rfl,(sw [0,1,2,3,4,5] [] [.s 0,.s 2,.s 3,.s 4,.s 5,.s 6,.a 31 (.bool (decide (i_1<r_4.1)&&(c_4==(0:Int))))] [.s 0,.s 1,.s 2,.s 3,.s 4,.s 5] (ac (congrArg AV.bool (vR gg_4 rfl):(.bool (c_4==(0:Int)):AV)=.bool (decide (i_1<r_4.1)&&(c_4==(0:Int)))) an))⟩
   ·refine rg [(4,Hg),(5,Hg),(6,Hg),(7,Hg),(8,Hg),(9,Hf)] [0,2,3,4,5,6,26,27,28,29,30,31] [0,1,2,3,4,5] 6 [Pp 0,Pp 1,Pp 3,.own 5 ((row_1).length),Ii r_4.1,Ii i_1,.tuple [],.tuple [],.tuple [],.tuple [],.tuple [],.bool false] [Vb 71 [.sl false 1 (Mb c_2),Ii c_3,Ii c_4],Vb 24 [Ii 0,Ii 0,Ii 0,.own 2 0],Rb 33 6 [],Vb 24 [Ii r_1.1,Ii r_2.1,Ii r_3.1,.own 4 0],Rb 33 6 [],Rb 9 1 (Ms row_1)] zD (ac gg_4 (ac gg_4 (ac gg_4 (ac gg_4 (ac gg_4 (ac gg_4 an)))))) ?_
    exact ⟨rfl,(sw [0,1,2,3,4,5] [] [.s 0,.s 2,.s 3,.s 4,.s 5,.s 6,.a 31 (.bool (decide (i_1<r_4.1)&&(c_4==(0:Int))))] [.s 0,.s 1,.s 2,.s 3,.s 4,.s 5] (ac (congrArg AV.bool (qL gg_4):(.bool false:AV)=.bool (decide (i_1<r_4.1)&&(c_4==(0:Int)))) an))⟩
  refine cd 31 (decide (i_1<r_4.1)&&(c_4==(0:Int))) ?_ ?_
  rotate_left
  ·intro g_1;replace h:=zO g_1 h
   refine yL (id:=0) (by kernel_rfl) ?_
   cases h
   exact ⟨rfl,(sw [0,1,2,3,4,5] [] [.s 0,.s 2,.s 3,.s 4] [.s 0,.s 1,.s 2,.s 3,.s 4,.s 5] an)⟩
  intro g_1;replace h:=zN g_1 h
  refine sk ?_
  refine sq ?_
  refine zT (id:=1) (by kernel_rfl) ?_
  obtain ⟨r_5,h_6,h⟩:=bind_some h
  obtain ⟨_,h_7,h⟩:=bind_some h;replace h_7:=z0 h_7
  refine rg [(2,{ av:=.str r_5.1,ids:=[0],l:=[Pp 0],post:=[(.var 71 (zG r_5.2))],pre:=[(.var 71 [.sl false 1 (Mb c_2),Ii c_3,Ii c_4])] }),(3,{ id:=6 }),(4,{ id:=7,l:=(Ms (row_1++([r_5.1]:List (List Int)))),n:=((row_1++([r_5.1]:List (List Int)))).length })] [0,2,3,4,5,6] [0,1,2,3,4,7] 8 [Pp 0,Pp 1,Pp 3,.own 7 (((row_1++([r_5.1]:List (List Int)))).length),Ii r_4.1,Ii i_1] [Vb 71 (zG r_5.2),Vb 24 [Ii 0,Ii 0,Ii 0,.own 2 0],Rb 33 6 [],Vb 24 [Ii r_1.1,Ii r_2.1,Ii r_3.1,.own 4 0],Rb 33 6 [],Rb 9 1 (Ms (row_1++([r_5.1]:List (List Int))))] zD (ar ([Pp 0]:List AV) (ac (rfl:([Vb 71 [.sl false 1 (Mb c_2),Ii c_3,Ii c_4]]:List zP)=[Vb 71 [.sl false 1 (Mb c_2),Ii c_3,Ii c_4]]) (ac (zEh F (⟨c_2,c_3,c_4⟩:zL) r_5 h_6:zM prog 68 [(.var 71 [.sl false 1 (Mb c_2),Ii c_3,Ii c_4])] [] [Pp 0] [(.var 71 (zG r_5.2))] (.str r_5.1)) (ac (by first | (simp;done) | (simp;omega):(row_1).length=((List.map AV.str row_1)).length) (ac (by first | (simp;done) | (simp;omega):1=((List.map AV.str ([r_5.1]:List (List Int)))).length) (ac (w9 _ _:(Ms (row_1++([r_5.1]:List (List Int))))=(Ms row_1)++(Ms ([r_5.1]:List (List Int)))) (ac (by simp:((row_1++([r_5.1]:List (List Int)))).length=((List.map AV.str (row_1++([r_5.1]:List (List Int))))).length) (ac (by first | (simp;done) | simpa using h_7:(((List.map AV.str row_1):List AV).length+((List.map AV.str ([r_5.1]:List (List Int))):List AV).length) * 16≤140737488355328) an)))))))) ?_
  refine rg [] [0,2,3,4,5,6] [0,1,2,3,4,7] 8 [Pp 0,Pp 1,Pp 3,.own 7 (((row_1++([r_5.1]:List (List Int)))).length),Ii r_4.1,Ii (zK (i_1+(1:Int)))] [Vb 71 (zG r_5.2),Vb 24 [Ii 0,Ii 0,Ii 0,.own 2 0],Rb 33 6 [],Vb 24 [Ii r_1.1,Ii r_2.1,Ii r_3.1,.own 4 0],Rb 33 6 [],Rb 9 1 (Ms (row_1++([r_5.1]:List (List Int))))] zD an ?_
  exact ⟨_,(sw [0,1,2,3,4,7] [] [.s 0,.s 2,.s 3,.s 4,.s 5,.s 6] [.s 0,.s 1,.s 2,.s 3,.s 4,.s 5] an),_,_,_,_,_,rfl,h⟩
 refine sr [(0,{ id:=6,m:=1 })] [0,2,3,4,7] [0,1,2,3,4,5,6] 7 [Pp 0,Pp 1,Pp 3,.own 5 ((o_1.2.2.2).length),.own 6 0] [Vb 71 [.sl false 1 (Mb o_1.1),Ii o_1.2.1,Ii o_1.2.2.1],Vb 24 [Ii 0,Ii 0,Ii 0,.own 2 0],Rb 33 6 [],Vb 24 [Ii r_1.1,Ii r_2.1,Ii r_3.1,.own 4 0],Rb 33 6 [],Rb 9 1 (Ms o_1.2.2.2),Rb 57 2 []] zD an ?_
 refine sq ?_
 obtain ⟨r_6,h_8,h⟩:=bind_some h
 refine rg [(1,{ av:=Ii r_6.1,ids:=[0],l:=[Pp 0,Ii 1000],post:=[(.var 71 (zG r_6.2))],pre:=[(.var 71 [.sl false 1 (Mb o_1.1),Ii o_1.2.1,Ii o_1.2.2.1])] })] [0,2,3,4,5,7] [0,1,2,3,4,5,6] 7 [Pp 0,Pp 1,Pp 3,.own 5 ((o_1.2.2.2).length),Ii r_6.1,.own 6 0] [Vb 71 (zG r_6.2),Vb 24 [Ii 0,Ii 0,Ii 0,.own 2 0],Rb 33 6 [],Vb 24 [Ii r_1.1,Ii r_2.1,Ii r_3.1,.own 4 0],Rb 33 6 [],Rb 9 1 (Ms o_1.2.2.2),Rb 57 2 []] zD (ar ([Pp 0,Ii 1000]:List AV) (ac (rfl:([Vb 71 [.sl false 1 (Mb o_1.1),Ii o_1.2.1,Ii o_1.2.2.1]]:List zP)=[Vb 71 [.sl false 1 (Mb o_1.1),Ii o_1.2.1,Ii o_1.2.2.1]]) (ac (nH F (⟨o_1.1,o_1.2.1,o_1.2.2.1⟩:zL) (1000:Int) r_6 h_8:zM prog 67 [(.var 71 [.sl false 1 (Mb o_1.1),Ii o_1.2.1,Ii o_1.2.2.1])] [] [Pp 0,Ii 1000] [(.var 71 (zG r_6.2))] (Ii r_6.1)) an))) ?_
 refine sq ?_
 refine sr [] [0,2,3,4,5,7,8] [0,1,2,3,4,5,6] 7 [Pp 0,Pp 1,Pp 3,.own 5 ((o_1.2.2.2).length),Ii r_6.1,.own 6 0,Ii 0] [Vb 71 (zG r_6.2),Vb 24 [Ii 0,Ii 0,Ii 0,.own 2 0],Rb 33 6 [],Vb 24 [Ii r_1.1,Ii r_2.1,Ii r_3.1,.own 4 0],Rb 33 6 [],Rb 9 1 (Ms o_1.2.2.2),Rb 57 2 []] zD an ?_
 obtain ⟨o_2,h_9,h⟩:=bind_some h
 refine zX (mk [(0,Pp 0),(2,Pp 1),(3,Pp 3),(4,.own 5 ((o_1.2.2.2).length)),(7,.own 6 ((o_2.2.2.2).length))] [(0,Vb 71 [.sl false 1 (Mb o_2.1),Ii o_2.2.1,Ii o_2.2.2.1]),(1,Vb 24 [Ii 0,Ii 0,Ii 0,.own 2 0]),(2,Rb 33 6 []),(3,Vb 24 [Ii r_1.1,Ii r_2.1,Ii r_3.1,.own 4 0]),(4,Rb 33 6 []),(5,Rb 9 1 (Ms o_1.2.2.2)),(6,Rb 57 2 (Mp zC o_2.2.2.2))] 7) ?_ ?_
 ·replace h:=h_9
  refine zT (id:=2) (by kernel_rfl) ?_
  refine wk [0,1,2,3,4,5,6] [] [.s 0,.s 2,.s 3,.s 4,.s 5,.s 7,.s 8] [.s 0,.s 1,.s 2,.s 3,.s 4,.s 5,.s 6] [(0,Pp 0),(2,Pp 1),(3,Pp 3),(4,.own 5 ((o_1.2.2.2).length)),(5,Ii r_6.1),(7,.own 6 0),(8,Ii 0)] [(0,Vb 71 (zG r_6.2)),(1,Vb 24 [Ii 0,Ii 0,Ii 0,.own 2 0]),(2,Rb 33 6 []),(3,Vb 24 [Ii r_1.1,Ii r_2.1,Ii r_3.1,.own 4 0]),(4,Rb 33 6 []),(5,Rb 9 1 (Ms o_1.2.2.2)),(6,Rb 57 2 [])] an ?_
  refine yF (fun n st=>∃ (i_2:Int),∃ (c_5:List Int),∃ (c_6:Int),∃ (c_7:Int),∃ (row_2:List zE),st=mk [(0,Pp 0),(2,Pp 1),(3,Pp 3),(4,.own 5 ((o_1.2.2.2).length)),(5,Ii r_6.1),(7,.own 6 ((row_2).length)),(8,Ii i_2)] [(0,Vb 71 [.sl false 1 (Mb c_5),Ii c_6,Ii c_7]),(1,Vb 24 [Ii 0,Ii 0,Ii 0,.own 2 0]),(2,Rb 33 6 []),(3,Vb 24 [Ii r_1.1,Ii r_2.1,Ii r_3.1,.own 4 0]),(4,Rb 33 6 []),(5,Rb 9 1 (Ms o_1.2.2.2)),(6,Rb 57 2 (Mp zC row_2))] 7∧uG F r_6 n i_2 c_5 c_6 c_7 row_2=some o_2) F (by kernel_rfl) ⟨_,_,_,_,_,rfl,h⟩ ?_ ?_
  ·rintro _ ⟨_,_,_,_,_,_,h⟩;exact yM (h:(none:Option ((List Int)×Int×Int×(List zE)))=some o_2)
  rintro n_2 _ ⟨i_2,c_5,c_6,c_7,row_2,rfl,h⟩
  replace h:x5 F r_6 (uG F r_6 n_2) i_2 c_5 c_6 c_7 row_2=some o_2:=h
  unfold x5 at h
  refine sq ?_
  refine sq ?_
  refine zX (mk [(0,Pp 0),(2,Pp 1),(3,Pp 3),(4,.own 5 ((o_1.2.2.2).length)),(5,Ii r_6.1),(7,.own 6 ((row_2).length)),(8,Ii i_2),(50,.bool (decide (i_2<r_6.1)&&(c_7==(0:Int))))] [(0,Vb 71 [.sl false 1 (Mb c_5),Ii c_6,Ii c_7]),(1,Vb 24 [Ii 0,Ii 0,Ii 0,.own 2 0]),(2,Rb 33 6 []),(3,Vb 24 [Ii r_1.1,Ii r_2.1,Ii r_3.1,.own 4 0]),(4,Rb 33 6 []),(5,Rb 9 1 (Ms o_1.2.2.2)),(6,Rb 57 2 (Mp zC row_2))] 7) ?_ ?_
  ·rcases bft (decide (i_2<r_6.1)) with gg_8 | gg_8
   ·refine rg [(9,Ht)] [0,2,3,4,5,7,8,45,46,47,48,49,50] [0,1,2,3,4,5,6] 7 [Pp 0,Pp 1,Pp 3,.own 5 ((o_1.2.2.2).length),Ii r_6.1,.own 6 ((row_2).length),Ii i_2,Pp 0,Pp 0,.ptr 0 0 0 2,Ii c_7,.bool (c_7==(0:Int)),.bool (c_7==(0:Int))] [Vb 71 [.sl false 1 (Mb c_5),Ii c_6,Ii c_7],Vb 24 [Ii 0,Ii 0,Ii 0,.own 2 0],Rb 33 6 [],Vb 24 [Ii r_1.1,Ii r_2.1,Ii r_3.1,.own 4 0],Rb 33 6 [],Rb 9 1 (Ms o_1.2.2.2),Rb 57 2 (Mp zC row_2)] zD (ac gg_8 (ac gg_8 (ac gg_8 (ac gg_8 (ac gg_8 (ac gg_8 an)))))) ?_
    exact ⟨rfl,(sw [0,1,2,3,4,5,6] [] [.s 0,.s 2,.s 3,.s 4,.s 5,.s 7,.s 8,.a 50 (.bool (decide (i_2<r_6.1)&&(c_7==(0:Int))))] [.s 0,.s 1,.s 2,.s 3,.s 4,.s 5,.s 6] (ac (congrArg AV.bool (vR gg_8 rfl):(.bool (c_7==(0:Int)):AV)=.bool (decide (i_2<r_6.1)&&(c_7==(0:Int)))) an))⟩
   ·refine rg [(4,Hg),(5,Hg),(6,Hg),(7,Hg),(8,Hg),(9,Hf)] [0,2,3,4,5,7,8,45,46,47,48,49,50] [0,1,2,3,4,5,6] 7 [Pp 0,Pp 1,Pp 3,.own 5 ((o_1.2.2.2).length),Ii r_6.1,.own 6 ((row_2).length),Ii i_2,.tuple [],.tuple [],.tuple [],.tuple [],.tuple [],.bool false] [Vb 71 [.sl false 1 (Mb c_5),Ii c_6,Ii c_7],Vb 24 [Ii 0,Ii 0,Ii 0,.own 2 0],Rb 33 6 [],Vb 24 [Ii r_1.1,Ii r_2.1,Ii r_3.1,.own 4 0],Rb 33 6 [],Rb 9 1 (Ms o_1.2.2.2),Rb 57 2 (Mp zC row_2)] zD (ac gg_8 (ac gg_8 (ac gg_8 (ac gg_8 (ac gg_8 (ac gg_8 an)))))) ?_
    exact ⟨rfl,(sw [0,1,2,3,4,5,6] [] [.s 0,.s 2,.s 3,.s 4,.s 5,.s 7,.s 8,.a 50 (.bool (decide (i_2<r_6.1)&&(c_7==(0:Int))))] [.s 0,.s 1,.s 2,.s 3,.s 4,.s 5,.s 6] (ac (congrArg AV.bool (qL gg_8):(.bool false:AV)=.bool (decide (i_2<r_6.1)&&(c_7==(0:Int)))) an))⟩
  refine cd 50 (decide (i_2<r_6.1)&&(c_7==(0:Int))) ?_ ?_
  rotate_left
  ·intro g_2;replace h:=zO g_2 h
   refine yL (id:=2) (by kernel_rfl) ?_
   cases h
   exact ⟨rfl,(sw [0,1,2,3,4,5,6] [] [.s 0,.s 2,.s 3,.s 4,.s 7] [.s 0,.s 1,.s 2,.s 3,.s 4,.s 5,.s 6] an)⟩
  intro g_2;replace h:=zN g_2 h
  refine sk ?_
  refine sq ?_
  refine zT (id:=3) (by kernel_rfl) ?_
  refine sq ?_
  obtain ⟨r_7,h_10,h⟩:=bind_some h
  refine rg [(1,{ av:=Ii r_7.1,ids:=[0],l:=[Pp 0],post:=[(.var 71 (zG r_7.2))],pre:=[(.var 71 [.sl false 1 (Mb c_5),Ii c_6,Ii c_7])] })] [0,2,3,4,5,7,8,9] [0,1,2,3,4,5,6] 7 [Pp 0,Pp 1,Pp 3,.own 5 ((o_1.2.2.2).length),Ii r_6.1,.own 6 ((row_2).length),Ii i_2,Ii r_7.1] [Vb 71 (zG r_7.2),Vb 24 [Ii 0,Ii 0,Ii 0,.own 2 0],Rb 33 6 [],Vb 24 [Ii r_1.1,Ii r_2.1,Ii r_3.1,.own 4 0],Rb 33 6 [],Rb 9 1 (Ms o_1.2.2.2),Rb 57 2 (Mp zC row_2)] zD (ar ([Pp 0]:List AV) (ac (rfl:([Vb 71 [.sl false 1 (Mb c_5),Ii c_6,Ii c_7]]:List zP)=[Vb 71 [.sl false 1 (Mb c_5),Ii c_6,Ii c_7]]) (ac (vT F (⟨c_5,c_6,c_7⟩:zL) r_7 h_10:zM prog 66 [(.var 71 [.sl false 1 (Mb c_5),Ii c_6,Ii c_7])] [] [Pp 0] [(.var 71 (zG r_7.2))] (Ii r_7.1)) an))) ?_
  obtain ⟨r_8,h_11,h⟩:=bind_some h
  obtain ⟨_,h_12,h⟩:=bind_some h;replace h_12:=z0 h_12
  refine rg [(3,{ av:=Ii r_8.1,ids:=[0],l:=[Pp 0],post:=[(.var 71 (zG r_8.2))],pre:=[(.var 71 (zG r_7.2))] }),(5,{ id:=7 }),(6,{ id:=8,l:=(Mp zC (row_2++([(⟨r_7.1,r_8.1⟩:zE)]:List zE))),n:=((row_2++([(⟨r_7.1,r_8.1⟩:zE)]:List zE))).length })] [0,2,3,4,5,7,8] [0,1,2,3,4,5,8] 9 [Pp 0,Pp 1,Pp 3,.own 5 ((o_1.2.2.2).length),Ii r_6.1,.own 8 (((row_2++([(⟨r_7.1,r_8.1⟩:zE)]:List zE))).length),Ii i_2] [Vb 71 (zG r_8.2),Vb 24 [Ii 0,Ii 0,Ii 0,.own 2 0],Rb 33 6 [],Vb 24 [Ii r_1.1,Ii r_2.1,Ii r_3.1,.own 4 0],Rb 33 6 [],Rb 9 1 (Ms o_1.2.2.2),Rb 57 2 (Mp zC (row_2++([(⟨r_7.1,r_8.1⟩:zE)]:List zE)))] zD (ar ([Pp 0]:List AV) (ac (rfl:([Vb 71 (zG r_7.2)]:List zP)=[Vb 71 (zG r_7.2)]) (ac (vT F r_7.2 r_8 h_11:zM prog 66 [(.var 71 (zG r_7.2))] [] [Pp 0] [(.var 71 (zG r_8.2))] (Ii r_8.1)) (ac (by first | (simp;done) | (simp;omega):(row_2).length=((List.map zC row_2)).length) (ac (by first | (simp;done) | (simp;omega):1=((List.map zC ([(⟨r_7.1,r_8.1⟩:zE)]:List zE))).length) (ac (w9 _ _:(Mp zC (row_2++([(⟨r_7.1,r_8.1⟩:zE)]:List zE)))=(Mp zC row_2)++(Mp zC ([(⟨r_7.1,r_8.1⟩:zE)]:List zE))) (ac (by simp:((row_2++([(⟨r_7.1,r_8.1⟩:zE)]:List zE))).length=((List.map zC (row_2++([(⟨r_7.1,r_8.1⟩:zE)]:List zE)))).length) (ac (by first | (simp;done) | simpa using h_12:(((List.map zC row_2):List AV).length+((List.map zC ([(⟨r_7.1,r_8.1⟩:zE)]:List zE)):List AV).length) * 16≤140737488355328) an)))))))) ?_
  refine rg [] [0,2,3,4,5,7,8] [0,1,2,3,4,5,8] 9 [Pp 0,Pp 1,Pp 3,.own 5 ((o_1.2.2.2).length),Ii r_6.1,.own 8 (((row_2++([(⟨r_7.1,r_8.1⟩:zE)]:List zE))).length),Ii (zK (i_2+(1:Int)))] [Vb 71 (zG r_8.2),Vb 24 [Ii 0,Ii 0,Ii 0,.own 2 0],Rb 33 6 [],Vb 24 [Ii r_1.1,Ii r_2.1,Ii r_3.1,.own 4 0],Rb 33 6 [],Rb 9 1 (Ms o_1.2.2.2),Rb 57 2 (Mp zC (row_2++([(⟨r_7.1,r_8.1⟩:zE)]:List zE)))] zD an ?_
  exact ⟨_,(sw [0,1,2,3,4,5,8] [] [.s 0,.s 2,.s 3,.s 4,.s 5,.s 7,.s 8] [.s 0,.s 1,.s 2,.s 3,.s 4,.s 5,.s 6] an),_,_,_,_,_,rfl,h⟩
 refine sq ?_
 refine sr [] [0,2,3,4,7,66] [0,1,2,3,4,5,6] 7 [Pp 0,Pp 1,Pp 3,.own 5 ((o_1.2.2.2).length),.own 6 ((o_2.2.2.2).length),.bool (o_2.2.2.1==(0:Int))] [Vb 71 [.sl false 1 (Mb o_2.1),Ii o_2.2.1,Ii o_2.2.2.1],Vb 24 [Ii 0,Ii 0,Ii 0,.own 2 0],Rb 33 6 [],Vb 24 [Ii r_1.1,Ii r_2.1,Ii r_3.1,.own 4 0],Rb 33 6 [],Rb 9 1 (Ms o_1.2.2.2),Rb 57 2 (Mp zC o_2.2.2.2)] zD an ?_
 obtain ⟨o_3,h_13,h⟩:=bind_some h
 refine zX (mk [(0,Pp 0),(2,Pp 1),(3,Pp 3),(4,.own 5 ((o_1.2.2.2).length)),(7,.own 6 ((o_2.2.2.2).length))] [(0,Vb 71 [.sl false 1 (Mb o_2.1),Ii o_2.2.1,Ii o_3]),(1,Vb 24 [Ii 0,Ii 0,Ii 0,.own 2 0]),(2,Rb 33 6 []),(3,Vb 24 [Ii r_1.1,Ii r_2.1,Ii r_3.1,.own 4 0]),(4,Rb 33 6 []),(5,Rb 9 1 (Ms o_1.2.2.2)),(6,Rb 57 2 (Mp zC o_2.2.2.2))] 7) ?_ ?_
 ·replace h:=h_13
  refine cd 66 (o_2.2.2.1==(0:Int)) ?_ ?_
  rotate_left
  ·intro g_3;replace h:=zO g_3 h
   refine sk ?_
   cases h
   exact ⟨rfl,(sw [0,1,2,3,4,5,6] [] [.s 0,.s 2,.s 3,.s 4,.s 7] [.s 0,.s 1,.s 2,.s 3,.s 4,.s 5,.s 6] an)⟩
  intro g_3;replace h:=zN g_3 h
  obtain ⟨r_9,h_14,h⟩:=bind_some h
  refine rg [(3,{ av:=Ii r_9,l:=[.sl false 1 (Ms o_1.2.2.2),.sl false 2 (Mp zC o_2.2.2.2)],lend:=[5,6] })] [0,2,3,4,7] [0,1,2,3,4,5,6] 7 [Pp 0,Pp 1,Pp 3,.own 5 ((o_1.2.2.2).length),.own 6 ((o_2.2.2.2).length)] [Vb 71 [.sl false 1 (Mb o_2.1),Ii o_2.2.1,Ii r_9],Vb 24 [Ii 0,Ii 0,Ii 0,.own 2 0],Rb 33 6 [],Vb 24 [Ii r_1.1,Ii r_2.1,Ii r_3.1,.own 4 0],Rb 33 6 [],Rb 9 1 (Ms o_1.2.2.2),Rb 57 2 (Mp zC o_2.2.2.2)] zD (ac (by first | (simp;done) | (simp;omega):(o_1.2.2.2).length=((List.map AV.str o_1.2.2.2)).length) (ac (by first | (simp;done) | (simp;omega):(o_2.2.2.2).length=((List.map zC o_2.2.2.2)).length) (ar ([.sl false 1 (Ms o_1.2.2.2),.sl false 2 (Mp zC o_2.2.2.2)]:List AV) (ac (rfl:([]:List zP)=[]) (ac (zAS F o_1.2.2.2 o_2.2.2.2 r_9 h_14:zM prog 55 [] [] [.sl false 1 (Ms o_1.2.2.2),.sl false 2 (Mp zC o_2.2.2.2)] [] (Ii r_9)) an))))) ?_
  cases h
  exact ⟨rfl,(sw [0,1,2,3,4,5,6] [] [.s 0,.s 2,.s 3,.s 4,.s 7] [.s 0,.s 1,.s 2,.s 3,.s 4,.s 5,.s 6] an)⟩
 refine sq ?_
 obtain ⟨r_10,h_15,h⟩:=bind_some h
 refine rg [(1,{ av:=Ii r_10.1,ids:=[0],l:=[Pp 0,Ii 1000],post:=[(.var 71 (zG r_10.2))],pre:=[(.var 71 [.sl false 1 (Mb o_2.1),Ii o_2.2.1,Ii o_3])] })] [0,2,3,4,5,7] [0,1,2,3,4,5,6] 7 [Pp 0,Pp 1,Pp 3,.own 5 ((o_1.2.2.2).length),Ii r_10.1,.own 6 ((o_2.2.2.2).length)] [Vb 71 (zG r_10.2),Vb 24 [Ii 0,Ii 0,Ii 0,.own 2 0],Rb 33 6 [],Vb 24 [Ii r_1.1,Ii r_2.1,Ii r_3.1,.own 4 0],Rb 33 6 [],Rb 9 1 (Ms o_1.2.2.2),Rb 57 2 (Mp zC o_2.2.2.2)] zD (ar ([Pp 0,Ii 1000]:List AV) (ac (rfl:([Vb 71 [.sl false 1 (Mb o_2.1),Ii o_2.2.1,Ii o_3]]:List zP)=[Vb 71 [.sl false 1 (Mb o_2.1),Ii o_2.2.1,Ii o_3]]) (ac (nH F (⟨o_2.1,o_2.2.1,o_3⟩:zL) (1000:Int) r_10 h_15:zM prog 67 [(.var 71 [.sl false 1 (Mb o_2.1),Ii o_2.2.1,Ii o_3])] [] [Pp 0,Ii 1000] [(.var 71 (zG r_10.2))] (Ii r_10.1)) an))) ?_
 refine sq ?_
 refine sr [] [0,2,3,4,5,7,10] [0,1,2,3,4,5,6] 7 [Pp 0,Pp 1,Pp 3,.own 5 ((o_1.2.2.2).length),Ii r_10.1,.own 6 ((o_2.2.2.2).length),Ii 0] [Vb 71 (zG r_10.2),Vb 24 [Ii 0,Ii 0,Ii 0,.own 2 0],Rb 33 6 [],Vb 24 [Ii r_1.1,Ii r_2.1,Ii r_3.1,.own 4 0],Rb 33 6 [],Rb 9 1 (Ms o_1.2.2.2),Rb 57 2 (Mp zC o_2.2.2.2)] zD an ?_
 obtain ⟨o_4,h_16,h⟩:=bind_some h
 refine zX (mk [(2,Pp 1),(3,Pp 3)] [(0,Vb 71 [.sl false 1 (Mb o_4.1),Ii o_4.2.1,Ii o_4.2.2.1]),(1,Vb 24 [Ii 0,Ii 0,Ii 0,.own 2 0]),(2,Rb 33 6 []),(3,Vb 24 [Ii r_1.1,Ii r_2.1,Ii r_3.1,.own 4 ((o_4.2.2.2).length)]),(4,Rb 33 6 (Mp zB o_4.2.2.2))] 5) ?_ ?_
 ·replace h:=h_16
  refine zT (id:=4) (by kernel_rfl) ?_
  refine wk [0,1,2,3,4] [5,6] [.s 0,.s 2,.s 3,.a 4 (.sl false 1 (Ms o_1.2.2.2)),.s 5,.a 7 (.sl false 2 (Mp zC o_2.2.2.2)),.s 10] [.s 0,.s 1,.s 2,.s 3,.s 4] [(0,Pp 0),(2,Pp 1),(3,Pp 3),(4,.sl false 1 (Ms o_1.2.2.2)),(5,Ii r_10.1),(7,.sl false 2 (Mp zC o_2.2.2.2)),(10,Ii 0)] [(0,Vb 71 (zG r_10.2)),(1,Vb 24 [Ii 0,Ii 0,Ii 0,.own 2 0]),(2,Rb 33 6 []),(3,Vb 24 [Ii r_1.1,Ii r_2.1,Ii r_3.1,.own 4 0]),(4,Rb 33 6 [])] (ac (by first | (simp;done) | (simp;omega):(o_1.2.2.2).length=((List.map AV.str o_1.2.2.2)).length) (ar 1 (ar ((Ms o_1.2.2.2):List AV) (ac (rfl:(!false||false)=true) (ac (by first | (simp;done) | (simp;omega):(o_2.2.2.2).length=((List.map zC o_2.2.2.2)).length) (ar 2 (ar ((Mp zC o_2.2.2.2):List AV) (ac (rfl:(!false||false)=true) an)))))))) ?_
  refine wk [0,1,2,3,4] [] [.s 0,.s 2,.s 3,.s 4,.s 5,.s 7,.s 10] [.s 0,.s 1,.s 2,.s 3,.s 4] [(0,Pp 0),(2,Pp 1),(3,Pp 3),(4,.sl false 1 (Ms o_1.2.2.2)),(5,Ii r_10.1),(7,.sl false 2 (Mp zC o_2.2.2.2)),(10,Ii 0)] [(0,Vb 71 (zG r_10.2)),(1,Vb 24 [Ii 0,Ii 0,Ii 0,.own 2 0]),(2,Rb 33 6 []),(3,Vb 24 [Ii r_1.1,Ii r_2.1,Ii r_3.1,.own 4 0]),(4,Rb 33 6 [])] an ?_
  refine yF (fun n st=>∃ (i_3:Int),∃ (c_8:List Int),∃ (c_9:Int),∃ (c_10:Int),∃ (row_3:List zA),st=mk [(0,Pp 0),(2,Pp 1),(3,Pp 3),(4,.sl false 1 (Ms o_1.2.2.2)),(5,Ii r_10.1),(7,.sl false 2 (Mp zC o_2.2.2.2)),(10,Ii i_3)] [(0,Vb 71 [.sl false 1 (Mb c_8),Ii c_9,Ii c_10]),(1,Vb 24 [Ii 0,Ii 0,Ii 0,.own 2 0]),(2,Rb 33 6 []),(3,Vb 24 [Ii r_1.1,Ii r_2.1,Ii r_3.1,.own 4 ((row_3).length)]),(4,Rb 33 6 (Mp zB row_3))] 5∧uC F o_1 o_2 r_10 n i_3 c_8 c_9 c_10 row_3=some o_4) F (by kernel_rfl) ⟨_,_,_,_,_,rfl,h⟩ ?_ ?_
  ·rintro _ ⟨_,_,_,_,_,_,h⟩;exact yM (h:(none:Option ((List Int)×Int×Int×(List zA)))=some o_4)
  rintro n_3 _ ⟨i_3,c_8,c_9,c_10,row_3,rfl,h⟩
  replace h:wA F o_1 o_2 r_10 (uC F o_1 o_2 r_10 n_3) i_3 c_8 c_9 c_10 row_3=some o_4:=h
  unfold wA at h
  refine sq ?_
  refine sq ?_
  refine zX (mk [(0,Pp 0),(2,Pp 1),(3,Pp 3),(4,.sl false 1 (Ms o_1.2.2.2)),(5,Ii r_10.1),(7,.sl false 2 (Mp zC o_2.2.2.2)),(10,Ii i_3),(84,.bool (decide (i_3<r_10.1)&&(c_10==(0:Int))))] [(0,Vb 71 [.sl false 1 (Mb c_8),Ii c_9,Ii c_10]),(1,Vb 24 [Ii 0,Ii 0,Ii 0,.own 2 0]),(2,Rb 33 6 []),(3,Vb 24 [Ii r_1.1,Ii r_2.1,Ii r_3.1,.own 4 ((row_3).length)]),(4,Rb 33 6 (Mp zB row_3))] 5) ?_ ?_
  ·rcases bft (decide (i_3<r_10.1)) with gg_13 | gg_13
   ·refine rg [(9,Ht)] [0,2,3,4,5,7,10,79,80,81,82,83,84] [0,1,2,3,4] 5 [Pp 0,Pp 1,Pp 3,.sl false 1 (Ms o_1.2.2.2),Ii r_10.1,.sl false 2 (Mp zC o_2.2.2.2),Ii i_3,Pp 0,Pp 0,.ptr 0 0 0 2,Ii c_10,.bool (c_10==(0:Int)),.bool (c_10==(0:Int))] [Vb 71 [.sl false 1 (Mb c_8),Ii c_9,Ii c_10],Vb 24 [Ii 0,Ii 0,Ii 0,.own 2 0],Rb 33 6 [],Vb 24 [Ii r_1.1,Ii r_2.1,Ii r_3.1,.own 4 ((row_3).length)],Rb 33 6 (Mp zB row_3)] zD (ac gg_13 (ac gg_13 (ac gg_13 (ac gg_13 (ac gg_13 (ac gg_13 an)))))) ?_
    exact ⟨rfl,(sw [0,1,2,3,4] [] [.s 0,.s 2,.s 3,.s 4,.s 5,.s 7,.s 10,.a 84 (.bool (decide (i_3<r_10.1)&&(c_10==(0:Int))))] [.s 0,.s 1,.s 2,.s 3,.s 4] (ac (congrArg AV.bool (vR gg_13 rfl):(.bool (c_10==(0:Int)):AV)=.bool (decide (i_3<r_10.1)&&(c_10==(0:Int)))) an))⟩
   ·refine rg [(4,Hg),(5,Hg),(6,Hg),(7,Hg),(8,Hg),(9,Hf)] [0,2,3,4,5,7,10,79,80,81,82,83,84] [0,1,2,3,4] 5 [Pp 0,Pp 1,Pp 3,.sl false 1 (Ms o_1.2.2.2),Ii r_10.1,.sl false 2 (Mp zC o_2.2.2.2),Ii i_3,.tuple [],.tuple [],.tuple [],.tuple [],.tuple [],.bool false] [Vb 71 [.sl false 1 (Mb c_8),Ii c_9,Ii c_10],Vb 24 [Ii 0,Ii 0,Ii 0,.own 2 0],Rb 33 6 [],Vb 24 [Ii r_1.1,Ii r_2.1,Ii r_3.1,.own 4 ((row_3).length)],Rb 33 6 (Mp zB row_3)] zD (ac gg_13 (ac gg_13 (ac gg_13 (ac gg_13 (ac gg_13 (ac gg_13 an)))))) ?_
    exact ⟨rfl,(sw [0,1,2,3,4] [] [.s 0,.s 2,.s 3,.s 4,.s 5,.s 7,.s 10,.a 84 (.bool (decide (i_3<r_10.1)&&(c_10==(0:Int))))] [.s 0,.s 1,.s 2,.s 3,.s 4] (ac (congrArg AV.bool (qL gg_13):(.bool false:AV)=.bool (decide (i_3<r_10.1)&&(c_10==(0:Int)))) an))⟩
  refine cd 84 (decide (i_3<r_10.1)&&(c_10==(0:Int))) ?_ ?_
  rotate_left
  ·intro g_4;replace h:=zO g_4 h
   refine yL (id:=4) (by kernel_rfl) ?_
   cases h
   exact ⟨rfl,(sw [0,1,2,3,4] [] [.s 2,.s 3] [.s 0,.s 1,.s 2,.s 3,.s 4] an)⟩
  intro g_4;replace h:=zN g_4 h
  refine sk ?_
  refine sq ?_
  refine zT (id:=5) (by kernel_rfl) ?_
  obtain ⟨r_11,h_17,h⟩:=bind_some h
  obtain ⟨_,h_18,h⟩:=bind_some h;replace h_18:=z0 h_18
  refine rg [(5,{ av:=zB r_11.1,ids:=[0],l:=[Pp 0,.sl false 1 (Ms o_1.2.2.2),.sl false 2 (Mp zC o_2.2.2.2)],post:=[(.var 71 (zG r_11.2))],pre:=[(.var 71 [.sl false 1 (Mb c_8),Ii c_9,Ii c_10])] }),(6,{ id:=5 }),(7,{ id:=6,l:=(Mp zB (row_3++([r_11.1]:List zA))),n:=((row_3++([r_11.1]:List zA))).length })] [0,2,3,4,5,7,10] [0,1,2,3,6] 7 [Pp 0,Pp 1,Pp 3,.sl false 1 (Ms o_1.2.2.2),Ii r_10.1,.sl false 2 (Mp zC o_2.2.2.2),Ii i_3] [Vb 71 (zG r_11.2),Vb 24 [Ii 0,Ii 0,Ii 0,.own 2 0],Rb 33 6 [],Vb 24 [Ii r_1.1,Ii r_2.1,Ii r_3.1,.own 6 (((row_3++([r_11.1]:List zA))).length)],Rb 33 6 (Mp zB (row_3++([r_11.1]:List zA)))] zD (ar ([Pp 0,.sl false 1 (Ms o_1.2.2.2),.sl false 2 (Mp zC o_2.2.2.2)]:List AV) (ac (rfl:([Vb 71 [.sl false 1 (Mb c_8),Ii c_9,Ii c_10]]:List zP)=[Vb 71 [.sl false 1 (Mb c_8),Ii c_9,Ii c_10]]) (ac (zD5 F (⟨c_8,c_9,c_10⟩:zL) o_1.2.2.2 o_2.2.2.2 r_11 h_17:zM prog 69 [(.var 71 [.sl false 1 (Mb c_8),Ii c_9,Ii c_10])] [] [Pp 0,.sl false 1 (Ms o_1.2.2.2),.sl false 2 (Mp zC o_2.2.2.2)] [(.var 71 (zG r_11.2))] (zB r_11.1)) (ac (by first | (simp;done) | (simp;omega):(row_3).length=((List.map zB row_3)).length) (ac (by first | (simp;done) | (simp;omega):1=((List.map zB ([r_11.1]:List zA))).length) (ac (w9 _ _:(Mp zB (row_3++([r_11.1]:List zA)))=(Mp zB row_3)++(Mp zB ([r_11.1]:List zA))) (ac (by simp:((row_3++([r_11.1]:List zA))).length=((List.map zB (row_3++([r_11.1]:List zA)))).length) (ac (by first | (simp;done) | simpa using h_18:(((List.map zB row_3):List AV).length+((List.map zB ([r_11.1]:List zA)):List AV).length) * 72≤140737488355328) an)))))))) ?_
  refine rg [] [0,2,3,4,5,7,10] [0,1,2,3,6] 7 [Pp 0,Pp 1,Pp 3,.sl false 1 (Ms o_1.2.2.2),Ii r_10.1,.sl false 2 (Mp zC o_2.2.2.2),Ii (zK (i_3+(1:Int)))] [Vb 71 (zG r_11.2),Vb 24 [Ii 0,Ii 0,Ii 0,.own 2 0],Rb 33 6 [],Vb 24 [Ii r_1.1,Ii r_2.1,Ii r_3.1,.own 6 (((row_3++([r_11.1]:List zA))).length)],Rb 33 6 (Mp zB (row_3++([r_11.1]:List zA)))] zD an ?_
  exact ⟨_,(sw [0,1,2,3,6] [] [.s 0,.s 2,.s 3,.s 4,.s 5,.s 7,.s 10] [.s 0,.s 1,.s 2,.s 3,.s 4] an),_,_,_,_,_,rfl,h⟩
 refine sr [] [2] [0,1,4] 5 [Pp 1] [Vb 71 [.sl false 1 (Mb o_4.1),Ii o_4.2.1,Ii o_4.2.2.1],Vb 24 [Ii r_1.1,Ii r_2.1,Ii r_3.1,.own 4 ((o_4.2.2.2).length)],Rb 33 6 (Mp zB o_4.2.2.2)] zD an ?_
 refine wk [0,1] [4] [.s 2] [.a 0 (Vb 71 (zG (⟨o_4.1,o_4.2.1,o_4.2.2.1⟩:zL))),.a 1 (Vb 24 (zH (⟨r_1.1,r_2.1,r_3.1,o_4.2.2.2⟩:zF)))] [(2,Pp 1)] [(0,Vb 71 (zG (⟨o_4.1,o_4.2.1,o_4.2.2.1⟩:zL))),(1,Vb 24 (zH (⟨r_1.1,r_2.1,r_3.1,o_4.2.2.2⟩:zF)))] (ar 71 (ac (rfl:xA [.sl false 1 (Mb ((⟨o_4.1,o_4.2.1,o_4.2.2.1⟩:zL).B)),Ii ((⟨o_4.1,o_4.2.1,o_4.2.2.1⟩:zL).At),Ii ((⟨o_4.1,o_4.2.1,o_4.2.2.1⟩:zL).E)]=true) (ar 1 (ac (rfl:((Mb o_4.1):List AV)=(Mb ((⟨o_4.1,o_4.2.1,o_4.2.2.1⟩:zL).B))) (ac (rfl:(!false||false)=true) (ac (rfl:(Ii o_4.2.1:AV)=Ii ((⟨o_4.1,o_4.2.1,o_4.2.2.1⟩:zL).At)) (ac (rfl:(Ii o_4.2.2.1:AV)=Ii ((⟨o_4.1,o_4.2.1,o_4.2.2.1⟩:zL).E)) (ar 24 (ac (rfl:xA [Ii ((⟨r_1.1,r_2.1,r_3.1,o_4.2.2.2⟩:zF).Thread),Ii ((⟨r_1.1,r_2.1,r_3.1,o_4.2.2.2⟩:zF).Serial),Ii ((⟨r_1.1,r_2.1,r_3.1,o_4.2.2.2⟩:zF).Lost),.sl false 6 (Mp zB ((⟨r_1.1,r_2.1,r_3.1,o_4.2.2.2⟩:zF).Events))]=true) (ac (by first | (simp;done) | (simp;omega):(o_4.2.2.2).length=((List.map zB o_4.2.2.2)).length) (ac (rfl:(Ii r_1.1:AV)=Ii ((⟨r_1.1,r_2.1,r_3.1,o_4.2.2.2⟩:zF).Thread)) (ac (rfl:(Ii r_2.1:AV)=Ii ((⟨r_1.1,r_2.1,r_3.1,o_4.2.2.2⟩:zF).Serial)) (ac (rfl:(Ii r_3.1:AV)=Ii ((⟨r_1.1,r_2.1,r_3.1,o_4.2.2.2⟩:zF).Lost)) (ar 6 (ac (rfl:((Mp zB o_4.2.2.2):List AV)=(Mp zB ((⟨r_1.1,r_2.1,r_3.1,o_4.2.2.2⟩:zF).Events))) (ac (rfl:(!false||false)=true) an)))))))))))))))) ?_
 refine rt ?_
 cases h
 exact ⟨.inr rfl,Nat.le_of_ble_eq_true rfl,by kernel_rfl⟩
theorem zH9 (F:Nat) (b_1:List (Int)) (r:zF×Int×Int) (h:zAZ F b_1=some r):zM prog 20 [] [] [.sl false 1 (Mb b_1)] [] (.tuple [zI r.1,Ii r.2.1,Ii r.2.2]):=by
 refine zS (fn:=Go.Proofs.Try.f20) (code:=z6 Go.Proofs.Try.f20) (by kernel_rfl) (by kernel_rfl) (Nat.le_of_ble_eq_true (by kernel_rfl)) ?_
 unfold zAZ at h
 refine sr [(0,{ id:=0 })] [0,2] [0] 1 [.sl false 1 (Mb b_1),Pp 0] [Vb 24 [Ii 0,Ii 0,Ii 0,.nilsl]] zD an ?_
 refine sr [(2,{ id:=1 })] [0,2,5] [0,1] 2 [.sl false 1 (Mb b_1),Pp 0,Pp 1] [Vb 24 [Ii 0,Ii 0,Ii 0,.nilsl],Vb 71 [.sl false 1 (Mb b_1),Ii 0,Ii 0]] zD an ?_
 refine sq ?_
 obtain ⟨r_1,h_1,h⟩:=bind_some h
 refine rg [(1,{ av:=zI r_1.1,ids:=[1],l:=[Pp 0],post:=[(.var 71 (zG r_1.2))],pre:=[(.var 71 [.sl false 1 (Mb b_1),Ii 0,Ii 0])] }),(2,{ id:=2 })] [0,2,5,6] [0,1,2] 3 [.sl false 1 (Mb b_1),Pp 0,Pp 1,Pp 2] [Vb 24 [Ii 0,Ii 0,Ii 0,.nilsl],Vb 71 (zG r_1.2),Vb 24 (zH r_1.1)] zD (ar ([Pp 1]:List AV) (ac (rfl:([Vb 71 [.sl false 1 (Mb b_1),Ii 0,Ii 0]]:List zP)=[Vb 71 [.sl false 1 (Mb b_1),Ii 0,Ii 0]]) (ac (zDO F (⟨b_1,(0:Int),(0:Int)⟩:zL) r_1 h_1:zM prog 43 [(.var 71 [.sl false 1 (Mb b_1),Ii 0,Ii 0])] [] [Pp 0] [(.var 71 (zG r_1.2))] (zI r_1.1)) an))) ?_
 refine sq ?_
 refine sr [] [0,2,5,6,19] [0,1,2] 3 [.sl false 1 (Mb b_1),Pp 0,Pp 1,Pp 2,.bool (r_1.2.E != (0:Int))] [Vb 24 [Ii 0,Ii 0,Ii 0,.nilsl],Vb 71 (zG r_1.2),Vb 24 (zH r_1.1)] zD an ?_
 refine cd 19 (r_1.2.E != (0:Int)) ?_ ?_
 ·intro g_1;replace h:=zN g_1 h
  refine sr [] [2,3,4] [0] 3 [Pp 0,Ii 0,Ii r_1.2.E] [Vb 24 [Ii 0,Ii 0,Ii 0,.nilsl]] zD an ?_
  refine wk [0] [] [.s 2,.s 3,.s 4] [.a 0 (Vb 24 (zH (⟨(0:Int),(0:Int),(0:Int),[]⟩:zF)))] [(2,Pp 0),(3,Ii 0),(4,Ii r_1.2.E)] [(0,Vb 24 (zH (⟨(0:Int),(0:Int),(0:Int),[]⟩:zF)))] (ar 24 (ac (rfl:xA [Ii ((⟨(0:Int),(0:Int),(0:Int),[]⟩:zF).Thread),Ii ((⟨(0:Int),(0:Int),(0:Int),[]⟩:zF).Serial),Ii ((⟨(0:Int),(0:Int),(0:Int),[]⟩:zF).Lost),.sl false 6 (Mp zB ((⟨(0:Int),(0:Int),(0:Int),[]⟩:zF).Events))]=true) (ac (rfl:(Ii 0:AV)=Ii ((⟨(0:Int),(0:Int),(0:Int),[]⟩:zF).Thread)) (ac (rfl:(Ii 0:AV)=Ii ((⟨(0:Int),(0:Int),(0:Int),[]⟩:zF).Serial)) (ac (rfl:(Ii 0:AV)=Ii ((⟨(0:Int),(0:Int),(0:Int),[]⟩:zF).Lost)) (ac (rfl:((Mp zB ((⟨(0:Int),(0:Int),(0:Int),[]⟩:zF).Events)):List AV)=[]) an)))))) ?_
  refine rt ?_
  cases h
  exact ⟨.inr rfl,Nat.le_of_ble_eq_true rfl,by kernel_rfl⟩
 intro g_1;replace h:=zO g_1 h
 refine sk ?_
 refine sq ?_
 obtain ⟨r_2,h_2,h⟩:=bind_some h
 refine rg [(1,{ av:=Ii r_2,l:=[zI r_1.1] })] [0,2,5,6,7] [0,1,2] 3 [.sl false 1 (Mb b_1),Pp 0,Pp 1,Pp 2,Ii r_2] [Vb 24 [Ii 0,Ii 0,Ii 0,.nilsl],Vb 71 (zG r_1.2),Vb 24 (zH r_1.1)] zD (ar ([zI r_1.1]:List AV) (ac (rfl:([]:List zP)=[]) (ac (zEy F r_1.1 r_2 h_2:zM prog 14 [] [] [zI r_1.1] [] (Ii r_2)) an))) ?_
 refine sq ?_
 refine sr [] [0,2,5,6,7,28] [0,1,2] 3 [.sl false 1 (Mb b_1),Pp 0,Pp 1,Pp 2,Ii r_2,.bool (r_2 != (0:Int))] [Vb 24 [Ii 0,Ii 0,Ii 0,.nilsl],Vb 71 (zG r_1.2),Vb 24 (zH r_1.1)] zD an ?_
 refine cd 28 (r_2 != (0:Int)) ?_ ?_
 ·intro g_2;replace h:=zN g_2 h
  refine sr [] [2,3,4] [0] 3 [Pp 0,Ii 0,Ii r_2] [Vb 24 [Ii 0,Ii 0,Ii 0,.nilsl]] zD an ?_
  refine wk [0] [] [.s 2,.s 3,.s 4] [.a 0 (Vb 24 (zH (⟨(0:Int),(0:Int),(0:Int),[]⟩:zF)))] [(2,Pp 0),(3,Ii 0),(4,Ii r_2)] [(0,Vb 24 (zH (⟨(0:Int),(0:Int),(0:Int),[]⟩:zF)))] (ar 24 (ac (rfl:xA [Ii ((⟨(0:Int),(0:Int),(0:Int),[]⟩:zF).Thread),Ii ((⟨(0:Int),(0:Int),(0:Int),[]⟩:zF).Serial),Ii ((⟨(0:Int),(0:Int),(0:Int),[]⟩:zF).Lost),.sl false 6 (Mp zB ((⟨(0:Int),(0:Int),(0:Int),[]⟩:zF).Events))]=true) (ac (rfl:(Ii 0:AV)=Ii ((⟨(0:Int),(0:Int),(0:Int),[]⟩:zF).Thread)) (ac (rfl:(Ii 0:AV)=Ii ((⟨(0:Int),(0:Int),(0:Int),[]⟩:zF).Serial)) (ac (rfl:(Ii 0:AV)=Ii ((⟨(0:Int),(0:Int),(0:Int),[]⟩:zF).Lost)) (ac (rfl:((Mp zB ((⟨(0:Int),(0:Int),(0:Int),[]⟩:zF).Events)):List AV)=[]) an)))))) ?_
  refine rt ?_
  cases h
  exact ⟨.inr rfl,Nat.le_of_ble_eq_true rfl,by kernel_rfl⟩
 intro g_2;replace h:=zO g_2 h
 refine sk ?_
 refine sq ?_
 obtain ⟨r_3,h_3,h⟩:=bind_some h
 refine rg [(1,{ av:=.tuple [.own 0 ((r_3.1).length),Ii r_3.2],ids:=[3],l:=[zI r_1.1],post:=[(.row 5 1 (Mb r_3.1))] })] [0,2,5,6,8] [0,1,2,3] 4 [.sl false 1 (Mb b_1),Pp 0,Pp 1,Pp 2,.own 3 ((r_3.1).length)] [Vb 24 [Ii 0,Ii 0,Ii 0,.nilsl],Vb 71 (zG r_1.2),Vb 24 (zH r_1.1),Rb 5 1 (Mb r_3.1)] zD (ar ([zI r_1.1]:List AV) (ac (rfl:([]:List zP)=[]) (ac (zIt F r_1.1 r_3 h_3:zM prog 18 [] [] [zI r_1.1] [(.row 5 1 (Mb r_3.1))] (.tuple [.own 0 ((r_3.1).length),Ii r_3.2])) an))) ?_
 refine sq ?_
 refine sq ?_
 obtain ⟨_,h_4,h⟩:=bind_some h;replace h_4:=z0 h_4
 refine rg [(1,{ s:=r_3.1 }),(7,{ l:=(Mb (sub b_1 (0:Int) r_1.2.At)) }),(8,{ s:=sub b_1 (0:Int) r_1.2.At })] [2,5,6,45] [0,1,2] 4 [Pp 0,Pp 1,Pp 2,.bool (!(r_3.1==(sub b_1 (0:Int) r_1.2.At)))] [Vb 24 [Ii 0,Ii 0,Ii 0,.nilsl],Vb 71 (zG r_1.2),Vb 24 (zH r_1.1)] zD (ac (by first | (simp;done) | (simp;omega):(r_3.1).length=((List.map (AV.int .u8) r_3.1)).length) (ac (rfl:(Mb r_3.1)=List.map (AV.int .u8) r_3.1) (ac (by decide:(0:Int)≤(0:Int)) (ac h_4.1 (ac (v5 h_4.2:r_1.2.At≤(lN ((Mb b_1)))) (ac (zBP _ _ _:(Mb (sub b_1 (0:Int) r_1.2.At))=(((Mb b_1)).take (r_1.2.At).toNat).drop ((0:Int)).toNat) (ac (rfl:(Mb (sub b_1 (0:Int) r_1.2.At))=List.map (AV.int .u8) (sub b_1 (0:Int) r_1.2.At)) an))))))) ?_
 refine cd 45 (!(r_3.1==(sub b_1 (0:Int) r_1.2.At))) ?_ ?_
 ·intro g_3;replace h:=zN g_3 h
  refine sr [] [2,3,4] [0] 4 [Pp 0,Ii 0,Ii 10] [Vb 24 [Ii 0,Ii 0,Ii 0,.nilsl]] zD an ?_
  refine wk [0] [] [.s 2,.s 3,.s 4] [.a 0 (Vb 24 (zH (⟨(0:Int),(0:Int),(0:Int),[]⟩:zF)))] [(2,Pp 0),(3,Ii 0),(4,Ii 10)] [(0,Vb 24 (zH (⟨(0:Int),(0:Int),(0:Int),[]⟩:zF)))] (ar 24 (ac (rfl:xA [Ii ((⟨(0:Int),(0:Int),(0:Int),[]⟩:zF).Thread),Ii ((⟨(0:Int),(0:Int),(0:Int),[]⟩:zF).Serial),Ii ((⟨(0:Int),(0:Int),(0:Int),[]⟩:zF).Lost),.sl false 6 (Mp zB ((⟨(0:Int),(0:Int),(0:Int),[]⟩:zF).Events))]=true) (ac (rfl:(Ii 0:AV)=Ii ((⟨(0:Int),(0:Int),(0:Int),[]⟩:zF).Thread)) (ac (rfl:(Ii 0:AV)=Ii ((⟨(0:Int),(0:Int),(0:Int),[]⟩:zF).Serial)) (ac (rfl:(Ii 0:AV)=Ii ((⟨(0:Int),(0:Int),(0:Int),[]⟩:zF).Lost)) (ac (rfl:((Mp zB ((⟨(0:Int),(0:Int),(0:Int),[]⟩:zF).Events)):List AV)=[]) an)))))) ?_
  refine rt ?_
  cases h
  exact ⟨.inr rfl,Nat.le_of_ble_eq_true rfl,by kernel_rfl⟩
 intro g_3;replace h:=zO g_3 h
 refine sk ?_
 refine sr [] [2,3,4] [0] 4 [Pp 0,Ii r_1.2.At,Ii 0] [Vb 24 (zH r_1.1)] zD an ?_
 refine wk [0] [] [.s 2,.s 3,.s 4] [.s 0] [(2,Pp 0),(3,Ii r_1.2.At),(4,Ii 0)] [(0,Vb 24 (zH r_1.1))] an ?_
 refine rt ?_
 cases h
 exact ⟨.inr rfl,Nat.le_of_ble_eq_true rfl,by kernel_rfl⟩
end Go.Ab
