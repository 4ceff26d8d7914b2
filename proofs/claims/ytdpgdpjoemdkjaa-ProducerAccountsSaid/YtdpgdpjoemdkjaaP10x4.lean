/- Printed: the typed Lean functions of the Go functions, or the proofs that the Go functions meet them. No conditions but those that the theorems name. -/
import Derived.Test.YtdpgdpjoemdkjaaP10x3
namespace Go.Ab
open Go
set_option linter.unusedVariables false
theorem zHJ (F:Nat) (a_1:List (List Int)) (b_1:List (List Int)) (r:Bool) (h:zAj F a_1 b_1=some r):zQ prog 85 [] [] [.sl false 1 (Ms a_1),.sl false 1 (Ms b_1)] [] (.bool r):=by
 refine zV (fn:=Go.Proofs.Try.f85) (code:=yI Go.Proofs.Try.f85) (by kernel_rfl) (by kernel_rfl) (Nat.le_of_ble_eq_true (by kernel_rfl)) ?_
 unfold zAj at h
 refine sr [] [0,1] [] 0 [.sl false 1 (Ms a_1),.sl false 1 (Ms b_1)] [] zG an ?_
 refine sq ?_
 refine sr [(1,{ n:=(a_1).length }),(3,{ n:=(b_1).length })] [0,1,10] [] 0 [.sl false 1 (Ms a_1),.sl false 1 (Ms b_1),.bool ((lN (a_1)) != (lN (b_1)))] [] zG (ac (z9 _:((Ms a_1)).length=(a_1).length) (ac (z9 _:((Ms b_1)).length=(b_1).length) an)) ?_
 refine cd 10 ((lN (a_1)) != (lN (b_1))) ?_ ?_
 ·intro g_1;replace h:=zR g_1 h
  refine sr [] [4] [] 0 [.bool false] [] zG an ?_
  refine rt ?_
  cases h
  exact ⟨.inr rfl,Nat.le_of_ble_eq_true rfl,by kernel_rfl⟩
 intro g_1;replace h:=zS g_1 h
 refine sk ?_
 refine sq ?_
 refine sr [] [0,1,5] [] 0 [.sl false 1 (Ms a_1),.sl false 1 (Ms b_1),Ii 0] [] zG an ?_
 obtain ⟨o_1,h_1,h⟩:=bind_some h
 refine wZ (K1:=(fun e st'=>match o_1 with | (.inl q0)=>e=.normal∧Sub 0 st' (mk [] [] 0) | (.inr q1)=>e=.ret∧jB prog Go.Proofs.Try.f85 0 [] (.bool q1) st')) ?_ ?_
 ·replace h:=h_1
  refine z6 (id:=0) (by kernel_rfl) ?_
  refine wk [] [] [.s 0,.s 1,.s 5] [] [(0,.sl false 1 (Ms a_1)),(1,.sl false 1 (Ms b_1)),(5,Ii 0)] [] an ?_
  refine xQ (fun n st=>∃ (i_1:Int),st=mk [(0,.sl false 1 (Ms a_1)),(1,.sl false 1 (Ms b_1)),(5,Ii i_1)] [] 0∧j9 F a_1 b_1 n i_1=some o_1) F (by kernel_rfl) ⟨_,rfl,h⟩ ?_ ?_
  ·rintro _ ⟨_,_,h⟩;exact wH (h:(none:Option (Unit⊕Bool))=some o_1)
  rintro n_1 _ ⟨i_1,rfl,h⟩
  replace h:vH F a_1 b_1 (j9 F a_1 b_1 n_1) i_1=some o_1:=h
  unfold vH at h
  refine sq ?_
  refine sr [(2,{ n:=(a_1).length })] [0,1,5,14] [] 0 [.sl false 1 (Ms a_1),.sl false 1 (Ms b_1),Ii i_1,.bool (decide (i_1<(lN (a_1))))] [] zG (ac (z9 _:((Ms a_1)).length=(a_1).length) an) ?_
  refine cd 14 (decide (i_1<(lN (a_1)))) ?_ ?_
  rotate_left
  ·intro g_2;replace h:=zS g_2 h
   refine xR (id:=0) (by kernel_rfl) ?_
   cases h
   exact ⟨rfl,(sw [] [] [] [] an)⟩
  intro g_2;replace h:=zR g_2 h
  refine sk ?_
  refine sq ?_
  refine z6 (id:=1) (by kernel_rfl) ?_
  refine sq ?_
  obtain ⟨x_1,h_2,h⟩:=bind_some h
  obtain ⟨x_2,h_3,h⟩:=bind_some h
  refine rg [(2,{ av:=.str x_1 }),(6,{ av:=.str x_2 })] [0,1,5,25] [] 0 [.sl false 1 (Ms a_1),.sl false 1 (Ms b_1),Ii i_1,.bool (!(x_1==x_2))] [] zG (ac (vQ h_2:uK (Ms a_1) i_1=some (.str x_1)) (ac (vQ h_3:uK (Ms b_1) i_1=some (.str x_2)) an)) ?_
  refine cd 25 (!(x_1==x_2)) ?_ ?_
  rotate_left
  ·intro g_3;replace h:=zS g_3 h
   refine sk ?_
   refine rg [] [0,1,5] [] 0 [.sl false 1 (Ms a_1),.sl false 1 (Ms b_1),Ii (zH (i_1+(1:Int)))] [] zG an ?_
   exact ⟨_,(sw [] [] [.s 0,.s 1,.s 5] [] an),_,rfl,h⟩
  intro g_3;replace h:=zR g_3 h
  refine sr [] [4] [] 0 [.bool false] [] zG an ?_
  refine rt ?_
  cases h
  exact ⟨rfl,Nat.le_of_ble_eq_true rfl,by kernel_rfl⟩
 intro e st1 hk
 rcases o_1 with q_1 | q_2
 rotate_left
 ·obtain ⟨rfl,hf⟩:=hk
  cases h
  exact ⟨st1,Sub.refl _ _,.inr rfl,hf⟩
 obtain ⟨rfl,hs⟩:=hk
 refine ⟨_,hs,?_⟩
 refine sr [] [4] [] 0 [.bool true] [] zG an ?_
 refine rt ?_
 cases h
 exact ⟨.inr rfl,Nat.le_of_ble_eq_true rfl,by kernel_rfl⟩
theorem zH6 (F:Nat) (a_1:zE) (b_1:zE) (r:Bool) (h:zA7 F a_1 b_1=some r):zQ prog 55 [] [] [zF a_1,zF b_1] [] (.bool r):=by
 refine zV (fn:=Go.Proofs.Try.f55) (code:=yI Go.Proofs.Try.f55) (by kernel_rfl) (by kernel_rfl) (Nat.le_of_ble_eq_true (by kernel_rfl)) ?_
 unfold zA7 at h
 refine sr [(0,{ id:=0 }),(1,{ id:=1 })] [2,3] [0,1] 2 [Pp 0,Pp 1] [Vb 45 (zM a_1),Vb 45 (zM b_1)] zG an ?_
 refine sq ?_
 obtain ⟨p_1,h_2,h⟩:=bind_some h
 refine yE (mk [(4,.bool p_1)] [] 0) ?_ ?_
 ·replace h:=h_2
  rcases bft (a_1.At==b_1.At) with gg_1 | gg_1
  ·replace h:=zR gg_1 h
   rcases bft (a_1.Kind==b_1.Kind) with gg_2 | gg_2
   ·replace h:=zR gg_2 h
    rcases bft (a_1.Name==b_1.Name) with gg_3 | gg_3
    ·replace h:=zR gg_3 h
     rcases bft (a_1.N==b_1.N) with gg_4 | gg_4
     ·replace h:=zR gg_4 h
      rcases bft (a_1.M==b_1.M) with gg_5 | gg_5
      ·replace h:=zR gg_5 h
       obtain ⟨r_1,h_1,h⟩:=bind_some h
       refine rg [(11,Ht),(18,Ht),(25,Ht),(32,Ht),(38,{ av:=.bool r_1,l:=[.sl false 1 (Ms a_1.Stack),.sl false 1 (Ms b_1.Stack)] }),(39,Ht)] [4] [] 2 [.bool r_1] [] zG (ac gg_1 (ac gg_1 (ac gg_1 (ac gg_1 (ac gg_1 (ac gg_1 (ac gg_2 (ac gg_2 (ac gg_2 (ac gg_2 (ac gg_2 (ac gg_2 (ac gg_3 (ac gg_3 (ac gg_3 (ac gg_3 (ac gg_3 (ac gg_3 (ac gg_4 (ac gg_4 (ac gg_4 (ac gg_4 (ac gg_4 (ac gg_4 (ac gg_5 (ac gg_5 (ac gg_5 (ac gg_5 (ac gg_5 (ar ([.sl false 1 (Ms a_1.Stack),.sl false 1 (Ms b_1.Stack)]:List AV) (ac (rfl:([]:List zP)=[]) (ac (zHJ F a_1.Stack b_1.Stack r_1 h_1:zQ prog 85 [] [] [.sl false 1 (Ms a_1.Stack),.sl false 1 (Ms b_1.Stack)] [] (.bool r_1)) (ac gg_5 an))))))))))))))))))))))))))))))))) ?_
       cases h
       exact ⟨rfl,(sw [] [] [.s 4] [] an)⟩
      ·replace h:=zS gg_5 h
       refine rg [(11,Ht),(18,Ht),(25,Ht),(32,Ht),(34,Hg),(35,Hg),(36,Hg),(37,Hg),(38,Hg),(39,Hf)] [4] [] 2 [.bool false] [] zG (ac gg_1 (ac gg_1 (ac gg_1 (ac gg_1 (ac gg_1 (ac gg_1 (ac gg_2 (ac gg_2 (ac gg_2 (ac gg_2 (ac gg_2 (ac gg_2 (ac gg_3 (ac gg_3 (ac gg_3 (ac gg_3 (ac gg_3 (ac gg_3 (ac gg_4 (ac gg_4 (ac gg_4 (ac gg_4 (ac gg_4 (ac gg_4 (ac gg_5 (ac gg_5 (ac gg_5 (ac gg_5 (ac gg_5 (ac gg_5 an)))))))))))))))))))))))))))))) ?_
       cases h
       exact ⟨rfl,(sw [] [] [.s 4] [] an)⟩
     ·replace h:=zS gg_4 h
      refine rg [(11,Ht),(18,Ht),(25,Ht),(27,Hg),(28,Hg),(29,Hg),(30,Hg),(31,Hg),(32,Hf),(34,Hg),(35,Hg),(36,Hg),(37,Hg),(38,Hg),(39,Hf)] [4] [] 2 [.bool false] [] zG (ac gg_1 (ac gg_1 (ac gg_1 (ac gg_1 (ac gg_1 (ac gg_1 (ac gg_2 (ac gg_2 (ac gg_2 (ac gg_2 (ac gg_2 (ac gg_2 (ac gg_3 (ac gg_3 (ac gg_3 (ac gg_3 (ac gg_3 (ac gg_3 (ac gg_4 (ac gg_4 (ac gg_4 (ac gg_4 (ac gg_4 (ac gg_4 (ac (rfl:false=!true) (ac (rfl:false=!true) (ac (rfl:false=!true) (ac (rfl:false=!true) (ac (rfl:false=!true) (ar false an)))))))))))))))))))))))))))))) ?_
      cases h
      exact ⟨rfl,(sw [] [] [.s 4] [] an)⟩
    ·replace h:=zS gg_3 h
     refine rg [(11,Ht),(18,Ht),(20,Hg),(21,Hg),(22,Hg),(23,Hg),(24,Hg),(25,Hf),(27,Hg),(28,Hg),(29,Hg),(30,Hg),(31,Hg),(32,Hf),(34,Hg),(35,Hg),(36,Hg),(37,Hg),(38,Hg),(39,Hf)] [4] [] 2 [.bool false] [] zG (ac gg_1 (ac gg_1 (ac gg_1 (ac gg_1 (ac gg_1 (ac gg_1 (ac gg_2 (ac gg_2 (ac gg_2 (ac gg_2 (ac gg_2 (ac gg_2 (ac gg_3 (ac gg_3 (ac gg_3 (ac gg_3 (ac gg_3 (ac gg_3 (ac (rfl:false=!true) (ac (rfl:false=!true) (ac (rfl:false=!true) (ac (rfl:false=!true) (ac (rfl:false=!true) (ar false (ac (rfl:false=!true) (ac (rfl:false=!true) (ac (rfl:false=!true) (ac (rfl:false=!true) (ac (rfl:false=!true) (ar false an)))))))))))))))))))))))))))))) ?_
     cases h
     exact ⟨rfl,(sw [] [] [.s 4] [] an)⟩
   ·replace h:=zS gg_2 h
    refine rg [(11,Ht),(13,Hg),(14,Hg),(15,Hg),(16,Hg),(17,Hg),(18,Hf),(20,Hg),(21,Hg),(22,Hg),(23,Hg),(24,Hg),(25,Hf),(27,Hg),(28,Hg),(29,Hg),(30,Hg),(31,Hg),(32,Hf),(34,Hg),(35,Hg),(36,Hg),(37,Hg),(38,Hg),(39,Hf)] [4] [] 2 [.bool false] [] zG (ac gg_1 (ac gg_1 (ac gg_1 (ac gg_1 (ac gg_1 (ac gg_1 (ac gg_2 (ac gg_2 (ac gg_2 (ac gg_2 (ac gg_2 (ac gg_2 (ac (rfl:false=!true) (ac (rfl:false=!true) (ac (rfl:false=!true) (ac (rfl:false=!true) (ac (rfl:false=!true) (ar false (ac (rfl:false=!true) (ac (rfl:false=!true) (ac (rfl:false=!true) (ac (rfl:false=!true) (ac (rfl:false=!true) (ar false (ac (rfl:false=!true) (ac (rfl:false=!true) (ac (rfl:false=!true) (ac (rfl:false=!true) (ac (rfl:false=!true) (ar false an)))))))))))))))))))))))))))))) ?_
    cases h
    exact ⟨rfl,(sw [] [] [.s 4] [] an)⟩
  ·replace h:=zS gg_1 h
   refine rg [(6,Hg),(7,Hg),(8,Hg),(9,Hg),(10,Hg),(11,Hf),(13,Hg),(14,Hg),(15,Hg),(16,Hg),(17,Hg),(18,Hf),(20,Hg),(21,Hg),(22,Hg),(23,Hg),(24,Hg),(25,Hf),(27,Hg),(28,Hg),(29,Hg),(30,Hg),(31,Hg),(32,Hf),(34,Hg),(35,Hg),(36,Hg),(37,Hg),(38,Hg),(39,Hf)] [4] [] 2 [.bool false] [] zG (ac gg_1 (ac gg_1 (ac gg_1 (ac gg_1 (ac gg_1 (ac gg_1 (ac (rfl:false=!true) (ac (rfl:false=!true) (ac (rfl:false=!true) (ac (rfl:false=!true) (ac (rfl:false=!true) (ar false (ac (rfl:false=!true) (ac (rfl:false=!true) (ac (rfl:false=!true) (ac (rfl:false=!true) (ac (rfl:false=!true) (ar false (ac (rfl:false=!true) (ac (rfl:false=!true) (ac (rfl:false=!true) (ac (rfl:false=!true) (ac (rfl:false=!true) (ar false (ac (rfl:false=!true) (ac (rfl:false=!true) (ac (rfl:false=!true) (ac (rfl:false=!true) (ac (rfl:false=!true) (ar false an)))))))))))))))))))))))))))))) ?_
   cases h
   exact ⟨rfl,(sw [] [] [.s 4] [] an)⟩
 refine rt ?_
 cases h
 exact ⟨.inr rfl,Nat.le_of_ble_eq_true rfl,by kernel_rfl⟩
theorem zE8 (F:Nat) (a_1:List (zE)) (b_1:List (zE)) (r:Bool) (h:pD F a_1 b_1=some r):zQ prog 37 [] [] [.sl false 6 (Mp zF a_1),.sl false 6 (Mp zF b_1)] [] (.bool r):=by
 refine zV (fn:=Go.Proofs.Try.f37) (code:=yI Go.Proofs.Try.f37) (by kernel_rfl) (by kernel_rfl) (Nat.le_of_ble_eq_true (by kernel_rfl)) ?_
 unfold pD at h
 refine sr [] [0,1] [] 0 [.sl false 6 (Mp zF a_1),.sl false 6 (Mp zF b_1)] [] zG an ?_
 refine sq ?_
 refine sr [(1,{ n:=(a_1).length }),(3,{ n:=(b_1).length })] [0,1,10] [] 0 [.sl false 6 (Mp zF a_1),.sl false 6 (Mp zF b_1),.bool ((lN (a_1)) != (lN (b_1)))] [] zG (ac (z9 _:((Mp zF a_1)).length=(a_1).length) (ac (z9 _:((Mp zF b_1)).length=(b_1).length) an)) ?_
 refine cd 10 ((lN (a_1)) != (lN (b_1))) ?_ ?_
 ·intro g_1;replace h:=zR g_1 h
  refine sr [] [4] [] 0 [.bool false] [] zG an ?_
  refine rt ?_
  cases h
  exact ⟨.inr rfl,Nat.le_of_ble_eq_true rfl,by kernel_rfl⟩
 intro g_1;replace h:=zS g_1 h
 refine sk ?_
 refine sq ?_
 refine sr [] [0,1,5] [] 0 [.sl false 6 (Mp zF a_1),.sl false 6 (Mp zF b_1),Ii 0] [] zG an ?_
 obtain ⟨o_1,h_1,h⟩:=bind_some h
 refine wZ (K1:=(fun e st'=>match o_1 with | (.inl q0)=>e=.normal∧Sub 0 st' (mk [] [] 0) | (.inr q1)=>e=.ret∧jB prog Go.Proofs.Try.f37 0 [] (.bool q1) st')) ?_ ?_
 ·replace h:=h_1
  refine z6 (id:=0) (by kernel_rfl) ?_
  refine wk [] [] [.s 0,.s 1,.s 5] [] [(0,.sl false 6 (Mp zF a_1)),(1,.sl false 6 (Mp zF b_1)),(5,Ii 0)] [] an ?_
  refine xQ (fun n st=>∃ (i_1:Int),st=mk [(0,.sl false 6 (Mp zF a_1)),(1,.sl false 6 (Mp zF b_1)),(5,Ii i_1)] [] 0∧jE F a_1 b_1 n i_1=some o_1) F (by kernel_rfl) ⟨_,rfl,h⟩ ?_ ?_
  ·rintro _ ⟨_,_,h⟩;exact wH (h:(none:Option (Unit⊕Bool))=some o_1)
  rintro n_1 _ ⟨i_1,rfl,h⟩
  replace h:w3 F a_1 b_1 (jE F a_1 b_1 n_1) i_1=some o_1:=h
  unfold w3 at h
  refine sq ?_
  refine sr [(2,{ n:=(a_1).length })] [0,1,5,14] [] 0 [.sl false 6 (Mp zF a_1),.sl false 6 (Mp zF b_1),Ii i_1,.bool (decide (i_1<(lN (a_1))))] [] zG (ac (z9 _:((Mp zF a_1)).length=(a_1).length) an) ?_
  refine cd 14 (decide (i_1<(lN (a_1)))) ?_ ?_
  rotate_left
  ·intro g_2;replace h:=zS g_2 h
   refine xR (id:=0) (by kernel_rfl) ?_
   cases h
   exact ⟨rfl,(sw [] [] [] [] an)⟩
  intro g_2;replace h:=zR g_2 h
  refine sk ?_
  refine sq ?_
  refine z6 (id:=1) (by kernel_rfl) ?_
  refine sq ?_
  obtain ⟨x_1,h_2,h⟩:=bind_some h
  obtain ⟨x_2,h_3,h⟩:=bind_some h
  obtain ⟨r_1,h_4,h⟩:=bind_some h
  refine rg [(2,{ av:=zF x_1 }),(6,{ av:=zF x_2 }),(8,{ av:=.bool r_1,l:=[zF x_1,zF x_2] })] [0,1,5,26] [] 0 [.sl false 6 (Mp zF a_1),.sl false 6 (Mp zF b_1),Ii i_1,.bool (!r_1)] [] zG (ac (vQ h_2:uK (Mp zF a_1) i_1=some (zF x_1)) (ac (vQ h_3:uK (Mp zF b_1) i_1=some (zF x_2)) (ar ([zF x_1,zF x_2]:List AV) (ac (rfl:([]:List zP)=[]) (ac (zH6 F x_1 x_2 r_1 h_4:zQ prog 55 [] [] [zF x_1,zF x_2] [] (.bool r_1)) an))))) ?_
  refine cd 26 (!r_1) ?_ ?_
  rotate_left
  ·intro g_3;replace h:=zS g_3 h
   refine sk ?_
   refine rg [] [0,1,5] [] 0 [.sl false 6 (Mp zF a_1),.sl false 6 (Mp zF b_1),Ii (zH (i_1+(1:Int)))] [] zG an ?_
   exact ⟨_,(sw [] [] [.s 0,.s 1,.s 5] [] an),_,rfl,h⟩
  intro g_3;replace h:=zR g_3 h
  refine sr [] [4] [] 0 [.bool false] [] zG an ?_
  refine rt ?_
  cases h
  exact ⟨rfl,Nat.le_of_ble_eq_true rfl,by kernel_rfl⟩
 intro e st1 hk
 rcases o_1 with q_1 | q_2
 rotate_left
 ·obtain ⟨rfl,hf⟩:=hk
  cases h
  exact ⟨st1,Sub.refl _ _,.inr rfl,hf⟩
 obtain ⟨rfl,hs⟩:=hk
 refine ⟨_,hs,?_⟩
 refine sr [] [4] [] 0 [.bool true] [] zG an ?_
 refine rt ?_
 cases h
 exact ⟨.inr rfl,Nat.le_of_ble_eq_true rfl,by kernel_rfl⟩
end Go.Ab
