/- Printed: the typed Lean functions of the Go functions, or the proofs that the Go functions meet them. No conditions but those that the theorems name. -/
import Derived.Test.YtbifmbdcejggkaaP16x1
namespace Go.Ab
open Go
set_option linter.unusedVariables false
theorem wL (F:Nat) (s1_1:List (z0)) (s2_1:List (z0)) (r:Bool) (h:wC F s1_1 s2_1=some r):zV prog 37 [] [] [.sl false 3 (Mp zG s1_1),.sl false 3 (Mp zG s2_1)] [] (.bool r):=by
 refine yG (fn:=Go.Proofs.Try.f37) (code:=xC Go.Proofs.Try.f37) (by kernel_rfl) (by kernel_rfl) (Nat.le_of_ble_eq_true (by kernel_rfl)) ?_
 unfold wC at h
 refine sr [] [0,1] [] 0 [.sl false 3 (Mp zG s1_1),.sl false 3 (Mp zG s2_1)] [] zF an ?_
 refine sq ?_
 refine sr [(1,{ n:=(s1_1).length }),(3,{ n:=(s2_1).length })] [0,1,10] [] 0 [.sl false 3 (Mp zG s1_1),.sl false 3 (Mp zG s2_1),.bool ((lN (s1_1)) != (lN (s2_1)))] [] zF (ac (yF _:((Mp zG s1_1)).length=(s1_1).length) (ac (yF _:((Mp zG s2_1)).length=(s2_1).length) an)) ?_
 refine cd 10 ((lN (s1_1)) != (lN (s2_1))) ?_ ?_
 ·intro g_1;replace h:=zR g_1 h
  refine sr [] [4] [] 0 [.bool false] [] zF an ?_
  refine rt ?_
  cases h
  exact ⟨.inr rfl,Nat.le_of_ble_eq_true rfl,by kernel_rfl⟩
 intro g_1;replace h:=zQ g_1 h
 refine sk ?_
 refine sq ?_
 refine sr [(1,{ n:=(s1_1).length })] [0,1,12,13] [] 0 [.sl false 3 (Mp zG s1_1),.sl false 3 (Mp zG s2_1),Ii (lN (s1_1)),Ii 0] [] zF (ac (yF _:((Mp zG s1_1)).length=(s1_1).length) an) ?_
 obtain ⟨o_1,h_1,h⟩:=bind_some h
 refine wI (K1:=(fun e st'=>match o_1 with | (.inl q0)=>e=.normal∧Sub 0 st' (mk [] [] 0) | (.inr q1)=>e=.ret∧uE prog Go.Proofs.Try.f37 0 [] (.bool q1) st')) ?_ ?_
 ·replace h:=h_1
  refine yD (id:=0) (by kernel_rfl) ?_
  refine wk [] [] [.s 0,.s 1,.s 12,.s 13] [] [(0,.sl false 3 (Mp zG s1_1)),(1,.sl false 3 (Mp zG s2_1)),(12,Ii (lN (s1_1))),(13,Ii 0)] [] an ?_
  refine xI (fun n st=>∃ (v_1:Int),st=mk [(0,.sl false 3 (Mp zG s1_1)),(1,.sl false 3 (Mp zG s2_1)),(12,Ii (lN (s1_1))),(13,Ii v_1)] [] 0∧x6 F s1_1 s2_1 n v_1=some o_1) F (by kernel_rfl) ⟨_,rfl,h⟩ ?_ ?_
  ·rintro _ ⟨_,_,h⟩;exact xN (h:(none:Option (Unit⊕Bool))=some o_1)
  rintro n_1 _ ⟨v_1,rfl,h⟩
  replace h:y8 F s1_1 s2_1 (x6 F s1_1 s2_1 n_1) v_1=some o_1:=h
  unfold y8 at h
  refine sr [] [0,1,12,13,14] [] 0 [.sl false 3 (Mp zG s1_1),.sl false 3 (Mp zG s2_1),Ii (lN (s1_1)),Ii v_1,.bool (decide (v_1<(lN (s1_1))))] [] zF an ?_
  refine sq ?_
  refine cd 14 (decide (v_1<(lN (s1_1)))) ?_ ?_
  rotate_left
  ·intro g_2;replace h:=zQ g_2 h
   refine xM (id:=0) (by kernel_rfl) ?_
   cases h
   exact ⟨rfl,(sw [] [] [] [] an)⟩
  intro g_2;replace h:=zR g_2 h
  refine sk ?_
  refine sq ?_
  refine yD (id:=1) (by kernel_rfl) ?_
  refine sr [] [0,1,5,12,13] [] 0 [.sl false 3 (Mp zG s1_1),.sl false 3 (Mp zG s2_1),Ii v_1,Ii (lN (s1_1)),Ii v_1] [] zF an ?_
  refine sq ?_
  obtain ⟨x_1,h_2,h⟩:=bind_some h
  obtain ⟨x_2,h_3,h⟩:=bind_some h
  refine rg [(2,{ av:=zG x_1 }),(6,{ av:=zG x_2 }),(8,{ b:=(decide (x_1=x_2)),mks:=[.int .i64,.str,.int .i64] })] [0,1,12,13,24] [] 0 [.sl false 3 (Mp zG s1_1),.sl false 3 (Mp zG s2_1),Ii (lN (s1_1)),Ii v_1,.bool (!(decide (x_1=x_2)))] [] zF (ac (yR h_2:xJ (Mp zG s1_1) v_1=some (zG x_1)) (ac (yR h_3:xJ (Mp zG s2_1) v_1=some (zG x_2)) (ac (zL3:jG prog 66 [.int .i64,.str,.int .i64]) (ac (kC (f:=zG) zC4 x_1 x_2:((decide (x_1=x_2))=true↔AV.agg [Ii x_1.Id,.str x_1.Name,Ii x_1.Domain]=AV.agg [Ii x_2.Id,.str x_2.Name,Ii x_2.Domain])) an)))) ?_
  refine cd 24 (!(decide (x_1=x_2))) ?_ ?_
  rotate_left
  ·intro g_3;replace h:=zQ g_3 h
   refine sk ?_
   refine rg [] [0,1,12,13] [] 0 [.sl false 3 (Mp zG s1_1),.sl false 3 (Mp zG s2_1),Ii (lN (s1_1)),Ii (zP (v_1+(1:Int)))] [] zF an ?_
   exact ⟨_,(sw [] [] [.s 0,.s 1,.s 12,.s 13] [] an),_,rfl,h⟩
  intro g_3;replace h:=zR g_3 h
  refine sr [] [4] [] 0 [.bool false] [] zF an ?_
  refine rt ?_
  cases h
  exact ⟨rfl,Nat.le_of_ble_eq_true rfl,by kernel_rfl⟩
 intro e st1 hk
 rcases o_1 with q_1 | q_2
 rotate_left
 ·obtain ⟨rfl,hf⟩:=hk
  cases h
  exact ⟨st1,Sub.refl _ _,.inr rfl,hf⟩
 obtain ⟨rfl,hs⟩:=hk
 refine ⟨_,hs,?_⟩
 refine sr [] [4] [] 0 [.bool true] [] zF an ?_
 refine rt ?_
 cases h
 exact ⟨.inr rfl,Nat.le_of_ble_eq_true rfl,by kernel_rfl⟩
theorem w6 (F:Nat) (s1_1:List (zU)) (s2_1:List (zU)) (r:Bool) (h:wB F s1_1 s2_1=some r):zV prog 38 [] [] [.sl false 2 (Mp zC s1_1),.sl false 2 (Mp zC s2_1)] [] (.bool r):=by
 refine yG (fn:=Go.Proofs.Try.f38) (code:=xC Go.Proofs.Try.f38) (by kernel_rfl) (by kernel_rfl) (Nat.le_of_ble_eq_true (by kernel_rfl)) ?_
 unfold wB at h
 refine sr [] [0,1] [] 0 [.sl false 2 (Mp zC s1_1),.sl false 2 (Mp zC s2_1)] [] zF an ?_
 refine sq ?_
 refine sr [(1,{ n:=(s1_1).length }),(3,{ n:=(s2_1).length })] [0,1,10] [] 0 [.sl false 2 (Mp zC s1_1),.sl false 2 (Mp zC s2_1),.bool ((lN (s1_1)) != (lN (s2_1)))] [] zF (ac (yF _:((Mp zC s1_1)).length=(s1_1).length) (ac (yF _:((Mp zC s2_1)).length=(s2_1).length) an)) ?_
 refine cd 10 ((lN (s1_1)) != (lN (s2_1))) ?_ ?_
 ·intro g_1;replace h:=zR g_1 h
  refine sr [] [4] [] 0 [.bool false] [] zF an ?_
  refine rt ?_
  cases h
  exact ⟨.inr rfl,Nat.le_of_ble_eq_true rfl,by kernel_rfl⟩
 intro g_1;replace h:=zQ g_1 h
 refine sk ?_
 refine sq ?_
 refine sr [(1,{ n:=(s1_1).length })] [0,1,12,13] [] 0 [.sl false 2 (Mp zC s1_1),.sl false 2 (Mp zC s2_1),Ii (lN (s1_1)),Ii 0] [] zF (ac (yF _:((Mp zC s1_1)).length=(s1_1).length) an) ?_
 obtain ⟨o_1,h_1,h⟩:=bind_some h
 refine wI (K1:=(fun e st'=>match o_1 with | (.inl q0)=>e=.normal∧Sub 0 st' (mk [] [] 0) | (.inr q1)=>e=.ret∧uE prog Go.Proofs.Try.f38 0 [] (.bool q1) st')) ?_ ?_
 ·replace h:=h_1
  refine yD (id:=0) (by kernel_rfl) ?_
  refine wk [] [] [.s 0,.s 1,.s 12,.s 13] [] [(0,.sl false 2 (Mp zC s1_1)),(1,.sl false 2 (Mp zC s2_1)),(12,Ii (lN (s1_1))),(13,Ii 0)] [] an ?_
  refine xI (fun n st=>∃ (v_1:Int),st=mk [(0,.sl false 2 (Mp zC s1_1)),(1,.sl false 2 (Mp zC s2_1)),(12,Ii (lN (s1_1))),(13,Ii v_1)] [] 0∧x7 F s1_1 s2_1 n v_1=some o_1) F (by kernel_rfl) ⟨_,rfl,h⟩ ?_ ?_
  ·rintro _ ⟨_,_,h⟩;exact xN (h:(none:Option (Unit⊕Bool))=some o_1)
  rintro n_1 _ ⟨v_1,rfl,h⟩
  replace h:y7 F s1_1 s2_1 (x7 F s1_1 s2_1 n_1) v_1=some o_1:=h
  unfold y7 at h
  refine sr [] [0,1,12,13,14] [] 0 [.sl false 2 (Mp zC s1_1),.sl false 2 (Mp zC s2_1),Ii (lN (s1_1)),Ii v_1,.bool (decide (v_1<(lN (s1_1))))] [] zF an ?_
  refine sq ?_
  refine cd 14 (decide (v_1<(lN (s1_1)))) ?_ ?_
  rotate_left
  ·intro g_2;replace h:=zQ g_2 h
   refine xM (id:=0) (by kernel_rfl) ?_
   cases h
   exact ⟨rfl,(sw [] [] [] [] an)⟩
  intro g_2;replace h:=zR g_2 h
  refine sk ?_
  refine sq ?_
  refine yD (id:=1) (by kernel_rfl) ?_
  refine sr [] [0,1,5,12,13] [] 0 [.sl false 2 (Mp zC s1_1),.sl false 2 (Mp zC s2_1),Ii v_1,Ii (lN (s1_1)),Ii v_1] [] zF an ?_
  refine sq ?_
  obtain ⟨x_1,h_2,h⟩:=bind_some h
  obtain ⟨x_2,h_3,h⟩:=bind_some h
  refine rg [(2,{ av:=zC x_1 }),(6,{ av:=zC x_2 }),(8,{ b:=(decide (x_1=x_2)),mks:=[.int .i64,.int .i64] })] [0,1,12,13,24] [] 0 [.sl false 2 (Mp zC s1_1),.sl false 2 (Mp zC s2_1),Ii (lN (s1_1)),Ii v_1,.bool (!(decide (x_1=x_2)))] [] zF (ac (yR h_2:xJ (Mp zC s1_1) v_1=some (zC x_1)) (ac (yR h_3:xJ (Mp zC s2_1) v_1=some (zC x_2)) (ac (zIh:jG prog 68 [.int .i64,.int .i64]) (ac (kC (f:=zC) zBb x_1 x_2:((decide (x_1=x_2))=true↔AV.agg [Ii x_1.Id,Ii x_1.Ppm]=AV.agg [Ii x_2.Id,Ii x_2.Ppm])) an)))) ?_
  refine cd 24 (!(decide (x_1=x_2))) ?_ ?_
  rotate_left
  ·intro g_3;replace h:=zQ g_3 h
   refine sk ?_
   refine rg [] [0,1,12,13] [] 0 [.sl false 2 (Mp zC s1_1),.sl false 2 (Mp zC s2_1),Ii (lN (s1_1)),Ii (zP (v_1+(1:Int)))] [] zF an ?_
   exact ⟨_,(sw [] [] [.s 0,.s 1,.s 12,.s 13] [] an),_,rfl,h⟩
  intro g_3;replace h:=zR g_3 h
  refine sr [] [4] [] 0 [.bool false] [] zF an ?_
  refine rt ?_
  cases h
  exact ⟨rfl,Nat.le_of_ble_eq_true rfl,by kernel_rfl⟩
 intro e st1 hk
 rcases o_1 with q_1 | q_2
 rotate_left
 ·obtain ⟨rfl,hf⟩:=hk
  cases h
  exact ⟨st1,Sub.refl _ _,.inr rfl,hf⟩
 obtain ⟨rfl,hs⟩:=hk
 refine ⟨_,hs,?_⟩
 refine sr [] [4] [] 0 [.bool true] [] zF an ?_
 refine rt ?_
 cases h
 exact ⟨.inr rfl,Nat.le_of_ble_eq_true rfl,by kernel_rfl⟩
theorem uN (F:Nat) (s1_1:List (xR)) (s2_1:List (xR)) (r:Bool) (h:wG F s1_1 s2_1=some r):zV prog 39 [] [] [.sl false 5 (Mp zK s1_1),.sl false 5 (Mp zK s2_1)] [] (.bool r):=by
 refine yG (fn:=Go.Proofs.Try.f39) (code:=xC Go.Proofs.Try.f39) (by kernel_rfl) (by kernel_rfl) (Nat.le_of_ble_eq_true (by kernel_rfl)) ?_
 unfold wG at h
 refine sr [] [0,1] [] 0 [.sl false 5 (Mp zK s1_1),.sl false 5 (Mp zK s2_1)] [] zF an ?_
 refine sq ?_
 refine sr [(1,{ n:=(s1_1).length }),(3,{ n:=(s2_1).length })] [0,1,10] [] 0 [.sl false 5 (Mp zK s1_1),.sl false 5 (Mp zK s2_1),.bool ((lN (s1_1)) != (lN (s2_1)))] [] zF (ac (yF _:((Mp zK s1_1)).length=(s1_1).length) (ac (yF _:((Mp zK s2_1)).length=(s2_1).length) an)) ?_
 refine cd 10 ((lN (s1_1)) != (lN (s2_1))) ?_ ?_
 ·intro g_1;replace h:=zR g_1 h
  refine sr [] [4] [] 0 [.bool false] [] zF an ?_
  refine rt ?_
  cases h
  exact ⟨.inr rfl,Nat.le_of_ble_eq_true rfl,by kernel_rfl⟩
 intro g_1;replace h:=zQ g_1 h
 refine sk ?_
 refine sq ?_
 refine sr [(1,{ n:=(s1_1).length })] [0,1,12,13] [] 0 [.sl false 5 (Mp zK s1_1),.sl false 5 (Mp zK s2_1),Ii (lN (s1_1)),Ii 0] [] zF (ac (yF _:((Mp zK s1_1)).length=(s1_1).length) an) ?_
 obtain ⟨o_1,h_1,h⟩:=bind_some h
 refine wI (K1:=(fun e st'=>match o_1 with | (.inl q0)=>e=.normal∧Sub 0 st' (mk [] [] 0) | (.inr q1)=>e=.ret∧uE prog Go.Proofs.Try.f39 0 [] (.bool q1) st')) ?_ ?_
 ·replace h:=h_1
  refine yD (id:=0) (by kernel_rfl) ?_
  refine wk [] [] [.s 0,.s 1,.s 12,.s 13] [] [(0,.sl false 5 (Mp zK s1_1)),(1,.sl false 5 (Mp zK s2_1)),(12,Ii (lN (s1_1))),(13,Ii 0)] [] an ?_
  refine xI (fun n st=>∃ (v_1:Int),st=mk [(0,.sl false 5 (Mp zK s1_1)),(1,.sl false 5 (Mp zK s2_1)),(12,Ii (lN (s1_1))),(13,Ii v_1)] [] 0∧wD F s1_1 s2_1 n v_1=some o_1) F (by kernel_rfl) ⟨_,rfl,h⟩ ?_ ?_
  ·rintro _ ⟨_,_,h⟩;exact xN (h:(none:Option (Unit⊕Bool))=some o_1)
  rintro n_1 _ ⟨v_1,rfl,h⟩
  replace h:xH F s1_1 s2_1 (wD F s1_1 s2_1 n_1) v_1=some o_1:=h
  unfold xH at h
  refine sr [] [0,1,12,13,14] [] 0 [.sl false 5 (Mp zK s1_1),.sl false 5 (Mp zK s2_1),Ii (lN (s1_1)),Ii v_1,.bool (decide (v_1<(lN (s1_1))))] [] zF an ?_
  refine sq ?_
  refine cd 14 (decide (v_1<(lN (s1_1)))) ?_ ?_
  rotate_left
  ·intro g_2;replace h:=zQ g_2 h
   refine xM (id:=0) (by kernel_rfl) ?_
   cases h
   exact ⟨rfl,(sw [] [] [] [] an)⟩
  intro g_2;replace h:=zR g_2 h
  refine sk ?_
  refine sq ?_
  refine yD (id:=1) (by kernel_rfl) ?_
  refine sr [] [0,1,5,12,13] [] 0 [.sl false 5 (Mp zK s1_1),.sl false 5 (Mp zK s2_1),Ii v_1,Ii (lN (s1_1)),Ii v_1] [] zF an ?_
  refine sq ?_
  obtain ⟨x_1,h_2,h⟩:=bind_some h
  obtain ⟨x_2,h_3,h⟩:=bind_some h
  refine rg [(2,{ av:=zK x_1 }),(6,{ av:=zK x_2 }),(8,{ b:=(decide (x_1=x_2)),mks:=[.int .i64,.int .i64,.int .i64,.int .i64,.int .i64] })] [0,1,12,13,24] [] 0 [.sl false 5 (Mp zK s1_1),.sl false 5 (Mp zK s2_1),Ii (lN (s1_1)),Ii v_1,.bool (!(decide (x_1=x_2)))] [] zF (ac (yR h_2:xJ (Mp zK s1_1) v_1=some (zK x_1)) (ac (yR h_3:xJ (Mp zK s2_1) v_1=some (zK x_2)) (ac (zL2:jG prog 86 [.int .i64,.int .i64,.int .i64,.int .i64,.int .i64]) (ac (kC (f:=zK) zEh x_1 x_2:((decide (x_1=x_2))=true↔AV.agg [Ii x_1.A,Ii x_1.AtA,Ii x_1.B,Ii x_1.AtB.Lo,Ii x_1.AtB.Hi]=AV.agg [Ii x_2.A,Ii x_2.AtA,Ii x_2.B,Ii x_2.AtB.Lo,Ii x_2.AtB.Hi])) an)))) ?_
  refine cd 24 (!(decide (x_1=x_2))) ?_ ?_
  rotate_left
  ·intro g_3;replace h:=zQ g_3 h
   refine sk ?_
   refine rg [] [0,1,12,13] [] 0 [.sl false 5 (Mp zK s1_1),.sl false 5 (Mp zK s2_1),Ii (lN (s1_1)),Ii (zP (v_1+(1:Int)))] [] zF an ?_
   exact ⟨_,(sw [] [] [.s 0,.s 1,.s 12,.s 13] [] an),_,rfl,h⟩
  intro g_3;replace h:=zR g_3 h
  refine sr [] [4] [] 0 [.bool false] [] zF an ?_
  refine rt ?_
  cases h
  exact ⟨rfl,Nat.le_of_ble_eq_true rfl,by kernel_rfl⟩
 intro e st1 hk
 rcases o_1 with q_1 | q_2
 rotate_left
 ·obtain ⟨rfl,hf⟩:=hk
  cases h
  exact ⟨st1,Sub.refl _ _,.inr rfl,hf⟩
 obtain ⟨rfl,hs⟩:=hk
 refine ⟨_,hs,?_⟩
 refine sr [] [4] [] 0 [.bool true] [] zF an ?_
 refine rt ?_
 cases h
 exact ⟨.inr rfl,Nat.le_of_ble_eq_true rfl,by kernel_rfl⟩
theorem zBT (F:Nat) (s1_1:List (List Int)) (s2_1:List (List Int)) (r:Bool) (h:uQ F s1_1 s2_1=some r):zV prog 73 [] [] [.sl false 1 (Ms s1_1),.sl false 1 (Ms s2_1)] [] (.bool r):=by
 refine yG (fn:=Go.Proofs.Try.f73) (code:=xC Go.Proofs.Try.f73) (by kernel_rfl) (by kernel_rfl) (Nat.le_of_ble_eq_true (by kernel_rfl)) ?_
 unfold uQ at h
 refine sr [] [0,1] [] 0 [.sl false 1 (Ms s1_1),.sl false 1 (Ms s2_1)] [] zF an ?_
 refine sq ?_
 refine sr [(1,{ n:=(s1_1).length }),(3,{ n:=(s2_1).length })] [0,1,10] [] 0 [.sl false 1 (Ms s1_1),.sl false 1 (Ms s2_1),.bool ((lN (s1_1)) != (lN (s2_1)))] [] zF (ac (yF _:((Ms s1_1)).length=(s1_1).length) (ac (yF _:((Ms s2_1)).length=(s2_1).length) an)) ?_
 refine cd 10 ((lN (s1_1)) != (lN (s2_1))) ?_ ?_
 ·intro g_1;replace h:=zR g_1 h
  refine sr [] [4] [] 0 [.bool false] [] zF an ?_
  refine rt ?_
  cases h
  exact ⟨.inr rfl,Nat.le_of_ble_eq_true rfl,by kernel_rfl⟩
 intro g_1;replace h:=zQ g_1 h
 refine sk ?_
 refine sq ?_
 refine sr [(1,{ n:=(s1_1).length })] [0,1,12,13] [] 0 [.sl false 1 (Ms s1_1),.sl false 1 (Ms s2_1),Ii (lN (s1_1)),Ii 0] [] zF (ac (yF _:((Ms s1_1)).length=(s1_1).length) an) ?_
 obtain ⟨o_1,h_1,h⟩:=bind_some h
 refine wI (K1:=(fun e st'=>match o_1 with | (.inl q0)=>e=.normal∧Sub 0 st' (mk [] [] 0) | (.inr q1)=>e=.ret∧uE prog Go.Proofs.Try.f73 0 [] (.bool q1) st')) ?_ ?_
 ·replace h:=h_1
  refine yD (id:=0) (by kernel_rfl) ?_
  refine wk [] [] [.s 0,.s 1,.s 12,.s 13] [] [(0,.sl false 1 (Ms s1_1)),(1,.sl false 1 (Ms s2_1)),(12,Ii (lN (s1_1))),(13,Ii 0)] [] an ?_
  refine xI (fun n st=>∃ (v_1:Int),st=mk [(0,.sl false 1 (Ms s1_1)),(1,.sl false 1 (Ms s2_1)),(12,Ii (lN (s1_1))),(13,Ii v_1)] [] 0∧v5 F s1_1 s2_1 n v_1=some o_1) F (by kernel_rfl) ⟨_,rfl,h⟩ ?_ ?_
  ·rintro _ ⟨_,_,h⟩;exact xN (h:(none:Option (Unit⊕Bool))=some o_1)
  rintro n_1 _ ⟨v_1,rfl,h⟩
  replace h:wQ F s1_1 s2_1 (v5 F s1_1 s2_1 n_1) v_1=some o_1:=h
  unfold wQ at h
  refine sr [] [0,1,12,13,14] [] 0 [.sl false 1 (Ms s1_1),.sl false 1 (Ms s2_1),Ii (lN (s1_1)),Ii v_1,.bool (decide (v_1<(lN (s1_1))))] [] zF an ?_
  refine sq ?_
  refine cd 14 (decide (v_1<(lN (s1_1)))) ?_ ?_
  rotate_left
  ·intro g_2;replace h:=zQ g_2 h
   refine xM (id:=0) (by kernel_rfl) ?_
   cases h
   exact ⟨rfl,(sw [] [] [] [] an)⟩
  intro g_2;replace h:=zR g_2 h
  refine sk ?_
  refine sq ?_
  refine yD (id:=1) (by kernel_rfl) ?_
  refine sr [] [0,1,5,12,13] [] 0 [.sl false 1 (Ms s1_1),.sl false 1 (Ms s2_1),Ii v_1,Ii (lN (s1_1)),Ii v_1] [] zF an ?_
  refine sq ?_
  obtain ⟨x_1,h_2,h⟩:=bind_some h
  obtain ⟨x_2,h_3,h⟩:=bind_some h
  refine rg [(2,{ av:=.str x_1 }),(6,{ av:=.str x_2 })] [0,1,12,13,24] [] 0 [.sl false 1 (Ms s1_1),.sl false 1 (Ms s2_1),Ii (lN (s1_1)),Ii v_1,.bool (!(x_1==x_2))] [] zF (ac (yR h_2:xJ (Ms s1_1) v_1=some (.str x_1)) (ac (yR h_3:xJ (Ms s2_1) v_1=some (.str x_2)) an)) ?_
  refine cd 24 (!(x_1==x_2)) ?_ ?_
  rotate_left
  ·intro g_3;replace h:=zQ g_3 h
   refine sk ?_
   refine rg [] [0,1,12,13] [] 0 [.sl false 1 (Ms s1_1),.sl false 1 (Ms s2_1),Ii (lN (s1_1)),Ii (zP (v_1+(1:Int)))] [] zF an ?_
   exact ⟨_,(sw [] [] [.s 0,.s 1,.s 12,.s 13] [] an),_,rfl,h⟩
  intro g_3;replace h:=zR g_3 h
  refine sr [] [4] [] 0 [.bool false] [] zF an ?_
  refine rt ?_
  cases h
  exact ⟨rfl,Nat.le_of_ble_eq_true rfl,by kernel_rfl⟩
 intro e st1 hk
 rcases o_1 with q_1 | q_2
 rotate_left
 ·obtain ⟨rfl,hf⟩:=hk
  cases h
  exact ⟨st1,Sub.refl _ _,.inr rfl,hf⟩
 obtain ⟨rfl,hs⟩:=hk
 refine ⟨_,hs,?_⟩
 refine sr [] [4] [] 0 [.bool true] [] zF an ?_
 refine rt ?_
 cases h
 exact ⟨.inr rfl,Nat.le_of_ble_eq_true rfl,by kernel_rfl⟩
theorem zI9 (F:Nat) (a_1:zI) (b_1:zI) (r:Bool) (h:zBE F a_1 b_1=some r):zV prog 60 [] [] [zD a_1,zD b_1] [] (.bool r):=by
 refine yG (fn:=Go.Proofs.Try.f60) (code:=xC Go.Proofs.Try.f60) (by kernel_rfl) (by kernel_rfl) (Nat.le_of_ble_eq_true (by kernel_rfl)) ?_
 unfold zBE at h
 refine sr [(0,{ id:=0 }),(1,{ id:=1 })] [2,3] [0,1] 2 [Pp 0,Pp 1] [Vb 42 (zT a_1),Vb 42 (zT b_1)] zF an ?_
 refine sq ?_
 obtain ⟨p_1,h_2,h⟩:=bind_some h
 refine y4 (mk [(4,.bool p_1)] [] 0) ?_ ?_
 ·replace h:=h_2
  rcases bft (a_1.At==b_1.At) with zH | zH
  ·replace h:=zR zH h
   rcases bft (a_1.Kind==b_1.Kind) with zJ | zJ
   ·replace h:=zR zJ h
    rcases bft (a_1.Name==b_1.Name) with zO | zO
    ·replace h:=zR zO h
     rcases bft (a_1.N==b_1.N) with zS | zS
     ·replace h:=zR zS h
      rcases bft (a_1.M==b_1.M) with yE | yE
      ·replace h:=zR yE h
       obtain ⟨r_1,h_1,h⟩:=bind_some h
       refine rg [(11,Ht),(18,Ht),(25,Ht),(32,Ht),(38,{ av:=.bool r_1,l:=[.sl false 1 (Ms a_1.Stack),.sl false 1 (Ms b_1.Stack)] }),(39,Ht)] [4] [] 2 [.bool r_1] [] zF (ac zH (ac zH (ac zH (ac zH (ac zH (ac zH (ac zJ (ac zJ (ac zJ (ac zJ (ac zJ (ac zJ (ac zO (ac zO (ac zO (ac zO (ac zO (ac zO (ac zS (ac zS (ac zS (ac zS (ac zS (ac zS (ac yE (ac yE (ac yE (ac yE (ac yE (ar ([.sl false 1 (Ms a_1.Stack),.sl false 1 (Ms b_1.Stack)]:List AV) (ac (rfl:([]:List zW)=[]) (ac (zBT F a_1.Stack b_1.Stack r_1 h_1:zV prog 73 [] [] [.sl false 1 (Ms a_1.Stack),.sl false 1 (Ms b_1.Stack)] [] (.bool r_1)) (ac yE an))))))))))))))))))))))))))))))))) ?_
       cases h
       exact ⟨rfl,(sw [] [] [.s 4] [] an)⟩
      ·replace h:=zQ yE h
       refine rg [(11,Ht),(18,Ht),(25,Ht),(32,Ht),(34,Hg),(35,Hg),(36,Hg),(37,Hg),(38,Hg),(39,Hf)] [4] [] 2 [.bool false] [] zF (ac zH (ac zH (ac zH (ac zH (ac zH (ac zH (ac zJ (ac zJ (ac zJ (ac zJ (ac zJ (ac zJ (ac zO (ac zO (ac zO (ac zO (ac zO (ac zO (ac zS (ac zS (ac zS (ac zS (ac zS (ac zS (ac yE (ac yE (ac yE (ac yE (ac yE (ac yE an)))))))))))))))))))))))))))))) ?_
       cases h
       exact ⟨rfl,(sw [] [] [.s 4] [] an)⟩
     ·replace h:=zQ zS h
      refine rg [(11,Ht),(18,Ht),(25,Ht),(27,Hg),(28,Hg),(29,Hg),(30,Hg),(31,Hg),(32,Hf),(34,Hg),(35,Hg),(36,Hg),(37,Hg),(38,Hg),(39,Hf)] [4] [] 2 [.bool false] [] zF (ac zH (ac zH (ac zH (ac zH (ac zH (ac zH (ac zJ (ac zJ (ac zJ (ac zJ (ac zJ (ac zJ (ac zO (ac zO (ac zO (ac zO (ac zO (ac zO (ac zS (ac zS (ac zS (ac zS (ac zS (ac zS (ac (rfl:false=!true) (ac (rfl:false=!true) (ac (rfl:false=!true) (ac (rfl:false=!true) (ac (rfl:false=!true) (ar false an)))))))))))))))))))))))))))))) ?_
      cases h
      exact ⟨rfl,(sw [] [] [.s 4] [] an)⟩
    ·replace h:=zQ zO h
     refine rg [(11,Ht),(18,Ht),(20,Hg),(21,Hg),(22,Hg),(23,Hg),(24,Hg),(25,Hf),(27,Hg),(28,Hg),(29,Hg),(30,Hg),(31,Hg),(32,Hf),(34,Hg),(35,Hg),(36,Hg),(37,Hg),(38,Hg),(39,Hf)] [4] [] 2 [.bool false] [] zF (ac zH (ac zH (ac zH (ac zH (ac zH (ac zH (ac zJ (ac zJ (ac zJ (ac zJ (ac zJ (ac zJ (ac zO (ac zO (ac zO (ac zO (ac zO (ac zO (ac (rfl:false=!true) (ac (rfl:false=!true) (ac (rfl:false=!true) (ac (rfl:false=!true) (ac (rfl:false=!true) (ar false (ac (rfl:false=!true) (ac (rfl:false=!true) (ac (rfl:false=!true) (ac (rfl:false=!true) (ac (rfl:false=!true) (ar false an)))))))))))))))))))))))))))))) ?_
     cases h
     exact ⟨rfl,(sw [] [] [.s 4] [] an)⟩
   ·replace h:=zQ zJ h
    refine rg [(11,Ht),(13,Hg),(14,Hg),(15,Hg),(16,Hg),(17,Hg),(18,Hf),(20,Hg),(21,Hg),(22,Hg),(23,Hg),(24,Hg),(25,Hf),(27,Hg),(28,Hg),(29,Hg),(30,Hg),(31,Hg),(32,Hf),(34,Hg),(35,Hg),(36,Hg),(37,Hg),(38,Hg),(39,Hf)] [4] [] 2 [.bool false] [] zF (ac zH (ac zH (ac zH (ac zH (ac zH (ac zH (ac zJ (ac zJ (ac zJ (ac zJ (ac zJ (ac zJ (ac (rfl:false=!true) (ac (rfl:false=!true) (ac (rfl:false=!true) (ac (rfl:false=!true) (ac (rfl:false=!true) (ar false (ac (rfl:false=!true) (ac (rfl:false=!true) (ac (rfl:false=!true) (ac (rfl:false=!true) (ac (rfl:false=!true) (ar false (ac (rfl:false=!true) (ac (rfl:false=!true) (ac (rfl:false=!true) (ac (rfl:false=!true) (ac (rfl:false=!true) (ar false an)))))))))))))))))))))))))))))) ?_
    cases h
    exact ⟨rfl,(sw [] [] [.s 4] [] an)⟩
  ·replace h:=zQ zH h
   refine rg [(6,Hg),(7,Hg),(8,Hg),(9,Hg),(10,Hg),(11,Hf),(13,Hg),(14,Hg),(15,Hg),(16,Hg),(17,Hg),(18,Hf),(20,Hg),(21,Hg),(22,Hg),(23,Hg),(24,Hg),(25,Hf),(27,Hg),(28,Hg),(29,Hg),(30,Hg),(31,Hg),(32,Hf),(34,Hg),(35,Hg),(36,Hg),(37,Hg),(38,Hg),(39,Hf)] [4] [] 2 [.bool false] [] zF (ac zH (ac zH (ac zH (ac zH (ac zH (ac zH (ac (rfl:false=!true) (ac (rfl:false=!true) (ac (rfl:false=!true) (ac (rfl:false=!true) (ac (rfl:false=!true) (ar false (ac (rfl:false=!true) (ac (rfl:false=!true) (ac (rfl:false=!true) (ac (rfl:false=!true) (ac (rfl:false=!true) (ar false (ac (rfl:false=!true) (ac (rfl:false=!true) (ac (rfl:false=!true) (ac (rfl:false=!true) (ac (rfl:false=!true) (ar false (ac (rfl:false=!true) (ac (rfl:false=!true) (ac (rfl:false=!true) (ac (rfl:false=!true) (ac (rfl:false=!true) (ar false an)))))))))))))))))))))))))))))) ?_
   cases h
   exact ⟨rfl,(sw [] [] [.s 4] [] an)⟩
 refine rt ?_
 cases h
 exact ⟨.inr rfl,Nat.le_of_ble_eq_true rfl,by kernel_rfl⟩
theorem vK (F:Nat) (s1_1:List (zI)) (s2_1:List (zI)) (r:Bool) (h:xD F s1_1 s2_1=some r):zV prog 59 [] [] [.sl false 6 (Mp zD s1_1),.sl false 6 (Mp zD s2_1),.fn 60 []] [] (.bool r):=by
 refine yG (fn:=Go.Proofs.Try.f59) (code:=xC Go.Proofs.Try.f59) (by kernel_rfl) (by kernel_rfl) (Nat.le_of_ble_eq_true (by kernel_rfl)) ?_
 unfold xD at h
 refine sr [] [0,1,2] [] 0 [.sl false 6 (Mp zD s1_1),.sl false 6 (Mp zD s2_1),.fn 60 []] [] zF an ?_
 refine sq ?_
 refine sr [(1,{ n:=(s1_1).length }),(3,{ n:=(s2_1).length })] [0,1,2,14] [] 0 [.sl false 6 (Mp zD s1_1),.sl false 6 (Mp zD s2_1),.fn 60 [],.bool ((lN (s1_1)) != (lN (s2_1)))] [] zF (ac (yF _:((Mp zD s1_1)).length=(s1_1).length) (ac (yF _:((Mp zD s2_1)).length=(s2_1).length) an)) ?_
 refine cd 14 ((lN (s1_1)) != (lN (s2_1))) ?_ ?_
 ·intro g_1;replace h:=zR g_1 h
  refine sr [] [6] [] 0 [.bool false] [] zF an ?_
  refine rt ?_
  cases h
  exact ⟨.inr rfl,Nat.le_of_ble_eq_true rfl,by kernel_rfl⟩
 intro g_1;replace h:=zQ g_1 h
 refine sk ?_
 refine sq ?_
 refine sr [(1,{ n:=(s1_1).length })] [1,2,15,16,17] [] 0 [.sl false 6 (Mp zD s2_1),.fn 60 [],.sl false 6 (Mp zD s1_1),Ii (lN (s1_1)),Ii 0] [] zF (ac (yF _:((Mp zD s1_1)).length=(s1_1).length) an) ?_
 obtain ⟨o_1,h_1,h⟩:=bind_some h
 refine wI (K1:=(fun e st'=>match o_1 with | (.inl q0)=>e=.normal∧Sub 0 st' (mk [] [] 0) | (.inr q1)=>e=.ret∧uE prog Go.Proofs.Try.f59 0 [] (.bool q1) st')) ?_ ?_
 ·replace h:=h_1
  refine yD (id:=0) (by kernel_rfl) ?_
  refine wk [] [] [.s 1,.s 2,.s 15,.s 16,.s 17] [] [(1,.sl false 6 (Mp zD s2_1)),(2,.fn 60 []),(15,.sl false 6 (Mp zD s1_1)),(16,Ii (lN (s1_1))),(17,Ii 0)] [] an ?_
  refine xI (fun n st=>∃ (v_1:Int),st=mk [(1,.sl false 6 (Mp zD s2_1)),(2,.fn 60 []),(15,.sl false 6 (Mp zD s1_1)),(16,Ii (lN (s1_1))),(17,Ii v_1)] [] 0∧yY F s1_1 s2_1 n v_1=some o_1) F (by kernel_rfl) ⟨_,rfl,h⟩ ?_ ?_
  ·rintro _ ⟨_,_,h⟩;exact xN (h:(none:Option (Unit⊕Bool))=some o_1)
  rintro n_1 _ ⟨v_1,rfl,h⟩
  replace h:yK F s1_1 s2_1 (yY F s1_1 s2_1 n_1) v_1=some o_1:=h
  unfold yK at h
  refine sr [] [1,2,15,16,17,18] [] 0 [.sl false 6 (Mp zD s2_1),.fn 60 [],.sl false 6 (Mp zD s1_1),Ii (lN (s1_1)),Ii v_1,.bool (decide (v_1<(lN (s1_1))))] [] zF an ?_
  refine sq ?_
  refine cd 18 (decide (v_1<(lN (s1_1)))) ?_ ?_
  rotate_left
  ·intro g_2;replace h:=zQ g_2 h
   refine xM (id:=0) (by kernel_rfl) ?_
   cases h
   exact ⟨rfl,(sw [] [] [] [] an)⟩
  intro g_2;replace h:=zR g_2 h
  refine sk ?_
  refine sq ?_
  refine yD (id:=1) (by kernel_rfl) ?_
  refine sq ?_
  obtain ⟨x_1,h_2,h⟩:=bind_some h
  refine rg [(1,{ av:=zD x_1 }),(3,{ id:=0 })] [1,2,7,8,15,16,17] [0] 1 [.sl false 6 (Mp zD s2_1),.fn 60 [],Ii v_1,Pp 0,.sl false 6 (Mp zD s1_1),Ii (lN (s1_1)),Ii v_1] [Vb 42 (zT x_1)] zF (ac (yR h_2:xJ (Mp zD s1_1) v_1=some (zD x_1)) an) ?_
  refine sq ?_
  obtain ⟨x_2,h_3,h⟩:=bind_some h
  refine rg [(2,{ av:=zD x_2 }),(4,{ id:=1 })] [1,2,8,9,15,16,17] [0,1] 2 [.sl false 6 (Mp zD s2_1),.fn 60 [],Pp 0,Pp 1,.sl false 6 (Mp zD s1_1),Ii (lN (s1_1)),Ii v_1] [Vb 42 (zT x_1),Vb 42 (zT x_2)] zF (ac (yR h_3:xJ (Mp zD s2_1) v_1=some (zD x_2)) an) ?_
  refine sq ?_
  obtain ⟨r_1,h_4,h⟩:=bind_some h
  refine rg [(3,{ av:=.bool r_1,l:=[zD x_1,zD x_2] })] [1,2,15,16,17,30] [] 2 [.sl false 6 (Mp zD s2_1),.fn 60 [],.sl false 6 (Mp zD s1_1),Ii (lN (s1_1)),Ii v_1,.bool (!r_1)] [] zF (ar ([zD x_1,zD x_2]:List AV) (ac (rfl:([]:List zW)=[]) (ac (zI9 F x_1 x_2 r_1 h_4:zV prog 60 [] [] [zD x_1,zD x_2] [] (.bool r_1)) an))) ?_
  refine cd 30 (!r_1) ?_ ?_
  rotate_left
  ·intro g_3;replace h:=zQ g_3 h
   refine sk ?_
   refine rg [] [1,2,15,16,17] [] 2 [.sl false 6 (Mp zD s2_1),.fn 60 [],.sl false 6 (Mp zD s1_1),Ii (lN (s1_1)),Ii (zP (v_1+(1:Int)))] [] zF an ?_
   exact ⟨_,(sw [] [] [.s 1,.s 2,.s 15,.s 16,.s 17] [] an),_,rfl,h⟩
  intro g_3;replace h:=zR g_3 h
  refine sr [] [6] [] 2 [.bool false] [] zF an ?_
  refine rt ?_
  cases h
  exact ⟨rfl,Nat.le_of_ble_eq_true rfl,by kernel_rfl⟩
 intro e st1 hk
 rcases o_1 with q_1 | q_2
 rotate_left
 ·obtain ⟨rfl,hf⟩:=hk
  cases h
  exact ⟨st1,Sub.refl _ _,.inr rfl,hf⟩
 obtain ⟨rfl,hs⟩:=hk
 refine ⟨_,hs,?_⟩
 refine sr [] [6] [] 0 [.bool true] [] zF an ?_
 refine rt ?_
 cases h
 exact ⟨.inr rfl,Nat.le_of_ble_eq_true rfl,by kernel_rfl⟩
theorem zH3 (F:Nat) (a_1:zB) (b_1:zB) (r:Bool) (h:zAW F a_1 b_1=some r):zV prog 42 [] [] [zA a_1,zA b_1] [] (.bool r):=by
 refine yG (fn:=Go.Proofs.Try.f42) (code:=xC Go.Proofs.Try.f42) (by kernel_rfl) (by kernel_rfl) (Nat.le_of_ble_eq_true (by kernel_rfl)) ?_
 unfold zAW at h
 refine sr [(0,{ id:=0 }),(1,{ id:=1 })] [2,3] [0,1] 2 [Pp 0,Pp 1] [Vb 59 (zX a_1),Vb 59 (zX b_1)] zF an ?_
 refine sq ?_
 obtain ⟨p_1,h_2,h⟩:=bind_some h
 refine y4 (mk [(4,.bool p_1)] [] 0) ?_ ?_
 ·replace h:=h_2
  rcases bft (a_1.Thread==b_1.Thread) with zH | zH
  ·replace h:=zR zH h
   rcases bft (a_1.Serial==b_1.Serial) with zJ | zJ
   ·replace h:=zR zJ h
    rcases bft (a_1.Lost==b_1.Lost) with zO | zO
    ·replace h:=zR zO h
     obtain ⟨r_1,h_1,h⟩:=bind_some h
     refine rg [(11,Ht),(18,Ht),(24,{ av:=.bool r_1,l:=[.sl false 6 (Mp zD a_1.Events),.sl false 6 (Mp zD b_1.Events),.fn 60 []] }),(25,Ht)] [4] [] 2 [.bool r_1] [] zF (ac zH (ac zH (ac zH (ac zH (ac zH (ac zH (ac zJ (ac zJ (ac zJ (ac zJ (ac zJ (ac zJ (ac zO (ac zO (ac zO (ac zO (ac zO (ar ([.sl false 6 (Mp zD a_1.Events),.sl false 6 (Mp zD b_1.Events),.fn 60 []]:List AV) (ac (rfl:([]:List zW)=[]) (ac (vK F a_1.Events b_1.Events r_1 h_1:zV prog 59 [] [] [.sl false 6 (Mp zD a_1.Events),.sl false 6 (Mp zD b_1.Events),.fn 60 []] [] (.bool r_1)) (ac zO an))))))))))))))))))))) ?_
     cases h
     exact ⟨rfl,(sw [] [] [.s 4] [] an)⟩
    ·replace h:=zQ zO h
     refine rg [(11,Ht),(18,Ht),(20,Hg),(21,Hg),(22,Hg),(23,Hg),(24,Hg),(25,Hf)] [4] [] 2 [.bool false] [] zF (ac zH (ac zH (ac zH (ac zH (ac zH (ac zH (ac zJ (ac zJ (ac zJ (ac zJ (ac zJ (ac zJ (ac zO (ac zO (ac zO (ac zO (ac zO (ac zO an)))))))))))))))))) ?_
     cases h
     exact ⟨rfl,(sw [] [] [.s 4] [] an)⟩
   ·replace h:=zQ zJ h
    refine rg [(11,Ht),(13,Hg),(14,Hg),(15,Hg),(16,Hg),(17,Hg),(18,Hf),(20,Hg),(21,Hg),(22,Hg),(23,Hg),(24,Hg),(25,Hf)] [4] [] 2 [.bool false] [] zF (ac zH (ac zH (ac zH (ac zH (ac zH (ac zH (ac zJ (ac zJ (ac zJ (ac zJ (ac zJ (ac zJ (ac (rfl:false=!true) (ac (rfl:false=!true) (ac (rfl:false=!true) (ac (rfl:false=!true) (ac (rfl:false=!true) (ar false an)))))))))))))))))) ?_
    cases h
    exact ⟨rfl,(sw [] [] [.s 4] [] an)⟩
  ·replace h:=zQ zH h
   refine rg [(6,Hg),(7,Hg),(8,Hg),(9,Hg),(10,Hg),(11,Hf),(13,Hg),(14,Hg),(15,Hg),(16,Hg),(17,Hg),(18,Hf),(20,Hg),(21,Hg),(22,Hg),(23,Hg),(24,Hg),(25,Hf)] [4] [] 2 [.bool false] [] zF (ac zH (ac zH (ac zH (ac zH (ac zH (ac zH (ac (rfl:false=!true) (ac (rfl:false=!true) (ac (rfl:false=!true) (ac (rfl:false=!true) (ac (rfl:false=!true) (ar false (ac (rfl:false=!true) (ac (rfl:false=!true) (ac (rfl:false=!true) (ac (rfl:false=!true) (ac (rfl:false=!true) (ar false an)))))))))))))))))) ?_
   cases h
   exact ⟨rfl,(sw [] [] [.s 4] [] an)⟩
 refine rt ?_
 cases h
 exact ⟨.inr rfl,Nat.le_of_ble_eq_true rfl,by kernel_rfl⟩
theorem zIZ (F:Nat) (p_1:zB) (q_1:zB) (r:Bool) (h:zCP F p_1 q_1=some r):zV prog 41 [] [] [zA p_1,zA q_1] [] (.bool r):=by
 refine yG (fn:=Go.Proofs.Try.f41) (code:=xC Go.Proofs.Try.f41) (by kernel_rfl) (by kernel_rfl) (Nat.le_of_ble_eq_true (by kernel_rfl)) ?_
 unfold zCP at h
 refine sr [(0,{ id:=0 }),(1,{ id:=1 })] [2,3] [0,1] 2 [Pp 0,Pp 1] [Vb 59 (zX p_1),Vb 59 (zX q_1)] zF an ?_
 refine sq ?_
 obtain ⟨r_1,h_1,h⟩:=bind_some h
 refine rg [(2,{ av:=.bool r_1,l:=[zA p_1,zA q_1] })] [4] [] 2 [.bool r_1] [] zF (ar ([zA p_1,zA q_1]:List AV) (ac (rfl:([]:List zW)=[]) (ac (zH3 F p_1 q_1 r_1 h_1:zV prog 42 [] [] [zA p_1,zA q_1] [] (.bool r_1)) an))) ?_
 refine rt ?_
 cases h
 exact ⟨.inr rfl,Nat.le_of_ble_eq_true rfl,by kernel_rfl⟩
theorem vB (F:Nat) (s1_1:List (zB)) (s2_1:List (zB)) (r:Bool) (h:yX F s1_1 s2_1=some r):zV prog 40 [] [] [.sl false 4 (Mp zA s1_1),.sl false 4 (Mp zA s2_1),.fn 41 []] [] (.bool r):=by
 refine yG (fn:=Go.Proofs.Try.f40) (code:=xC Go.Proofs.Try.f40) (by kernel_rfl) (by kernel_rfl) (Nat.le_of_ble_eq_true (by kernel_rfl)) ?_
 unfold yX at h
 refine sr [] [0,1,2] [] 0 [.sl false 4 (Mp zA s1_1),.sl false 4 (Mp zA s2_1),.fn 41 []] [] zF an ?_
 refine sq ?_
 refine sr [(1,{ n:=(s1_1).length }),(3,{ n:=(s2_1).length })] [0,1,2,14] [] 0 [.sl false 4 (Mp zA s1_1),.sl false 4 (Mp zA s2_1),.fn 41 [],.bool ((lN (s1_1)) != (lN (s2_1)))] [] zF (ac (yF _:((Mp zA s1_1)).length=(s1_1).length) (ac (yF _:((Mp zA s2_1)).length=(s2_1).length) an)) ?_
 refine cd 14 ((lN (s1_1)) != (lN (s2_1))) ?_ ?_
 ·intro g_1;replace h:=zR g_1 h
  refine sr [] [6] [] 0 [.bool false] [] zF an ?_
  refine rt ?_
  cases h
  exact ⟨.inr rfl,Nat.le_of_ble_eq_true rfl,by kernel_rfl⟩
 intro g_1;replace h:=zQ g_1 h
 refine sk ?_
 refine sq ?_
 refine sr [(1,{ n:=(s1_1).length })] [1,2,15,16,17] [] 0 [.sl false 4 (Mp zA s2_1),.fn 41 [],.sl false 4 (Mp zA s1_1),Ii (lN (s1_1)),Ii 0] [] zF (ac (yF _:((Mp zA s1_1)).length=(s1_1).length) an) ?_
 obtain ⟨o_1,h_1,h⟩:=bind_some h
 refine wI (K1:=(fun e st'=>match o_1 with | (.inl q0)=>e=.normal∧Sub 0 st' (mk [] [] 0) | (.inr q1)=>e=.ret∧uE prog Go.Proofs.Try.f40 0 [] (.bool q1) st')) ?_ ?_
 ·replace h:=h_1
  refine yD (id:=0) (by kernel_rfl) ?_
  refine wk [] [] [.s 1,.s 2,.s 15,.s 16,.s 17] [] [(1,.sl false 4 (Mp zA s2_1)),(2,.fn 41 []),(15,.sl false 4 (Mp zA s1_1)),(16,Ii (lN (s1_1))),(17,Ii 0)] [] an ?_
  refine xI (fun n st=>∃ (v_1:Int),st=mk [(1,.sl false 4 (Mp zA s2_1)),(2,.fn 41 []),(15,.sl false 4 (Mp zA s1_1)),(16,Ii (lN (s1_1))),(17,Ii v_1)] [] 0∧yV F s1_1 s2_1 n v_1=some o_1) F (by kernel_rfl) ⟨_,rfl,h⟩ ?_ ?_
  ·rintro _ ⟨_,_,h⟩;exact xN (h:(none:Option (Unit⊕Bool))=some o_1)
  rintro n_1 _ ⟨v_1,rfl,h⟩
  replace h:yJ F s1_1 s2_1 (yV F s1_1 s2_1 n_1) v_1=some o_1:=h
  unfold yJ at h
  refine sr [] [1,2,15,16,17,18] [] 0 [.sl false 4 (Mp zA s2_1),.fn 41 [],.sl false 4 (Mp zA s1_1),Ii (lN (s1_1)),Ii v_1,.bool (decide (v_1<(lN (s1_1))))] [] zF an ?_
  refine sq ?_
  refine cd 18 (decide (v_1<(lN (s1_1)))) ?_ ?_
  rotate_left
  ·intro g_2;replace h:=zQ g_2 h
   refine xM (id:=0) (by kernel_rfl) ?_
   cases h
   exact ⟨rfl,(sw [] [] [] [] an)⟩
  intro g_2;replace h:=zR g_2 h
  refine sk ?_
  refine sq ?_
  refine yD (id:=1) (by kernel_rfl) ?_
  refine sq ?_
  obtain ⟨x_1,h_2,h⟩:=bind_some h
  refine rg [(1,{ av:=zA x_1 }),(3,{ id:=0 })] [1,2,7,8,15,16,17] [0] 1 [.sl false 4 (Mp zA s2_1),.fn 41 [],Ii v_1,Pp 0,.sl false 4 (Mp zA s1_1),Ii (lN (s1_1)),Ii v_1] [Vb 59 (zX x_1)] zF (ac (yR h_2:xJ (Mp zA s1_1) v_1=some (zA x_1)) an) ?_
  refine sq ?_
  obtain ⟨x_2,h_3,h⟩:=bind_some h
  refine rg [(2,{ av:=zA x_2 }),(4,{ id:=1 })] [1,2,8,9,15,16,17] [0,1] 2 [.sl false 4 (Mp zA s2_1),.fn 41 [],Pp 0,Pp 1,.sl false 4 (Mp zA s1_1),Ii (lN (s1_1)),Ii v_1] [Vb 59 (zX x_1),Vb 59 (zX x_2)] zF (ac (yR h_3:xJ (Mp zA s2_1) v_1=some (zA x_2)) an) ?_
  refine sq ?_
  obtain ⟨r_1,h_4,h⟩:=bind_some h
  refine rg [(3,{ av:=.bool r_1,l:=[zA x_1,zA x_2] })] [1,2,15,16,17,30] [] 2 [.sl false 4 (Mp zA s2_1),.fn 41 [],.sl false 4 (Mp zA s1_1),Ii (lN (s1_1)),Ii v_1,.bool (!r_1)] [] zF (ar ([zA x_1,zA x_2]:List AV) (ac (rfl:([]:List zW)=[]) (ac (zIZ F x_1 x_2 r_1 h_4:zV prog 41 [] [] [zA x_1,zA x_2] [] (.bool r_1)) an))) ?_
  refine cd 30 (!r_1) ?_ ?_
  rotate_left
  ·intro g_3;replace h:=zQ g_3 h
   refine sk ?_
   refine rg [] [1,2,15,16,17] [] 2 [.sl false 4 (Mp zA s2_1),.fn 41 [],.sl false 4 (Mp zA s1_1),Ii (lN (s1_1)),Ii (zP (v_1+(1:Int)))] [] zF an ?_
   exact ⟨_,(sw [] [] [.s 1,.s 2,.s 15,.s 16,.s 17] [] an),_,rfl,h⟩
  intro g_3;replace h:=zR g_3 h
  refine sr [] [6] [] 2 [.bool false] [] zF an ?_
  refine rt ?_
  cases h
  exact ⟨rfl,Nat.le_of_ble_eq_true rfl,by kernel_rfl⟩
 intro e st1 hk
 rcases o_1 with q_1 | q_2
 rotate_left
 ·obtain ⟨rfl,hf⟩:=hk
  cases h
  exact ⟨st1,Sub.refl _ _,.inr rfl,hf⟩
 obtain ⟨rfl,hs⟩:=hk
 refine ⟨_,hs,?_⟩
 refine sr [] [6] [] 0 [.bool true] [] zF an ?_
 refine rt ?_
 cases h
 exact ⟨.inr rfl,Nat.le_of_ble_eq_true rfl,by kernel_rfl⟩
theorem zGl (F:Nat) (a_1:zM) (b_1:zM) (r:Bool) (h:zBV F a_1 b_1=some r):zV prog 13 [] [] [z4 a_1,z4 b_1] [] (.bool r):=by
 refine yG (fn:=Go.Proofs.Try.f13) (code:=xC Go.Proofs.Try.f13) (by kernel_rfl) (by kernel_rfl) (Nat.le_of_ble_eq_true (by kernel_rfl)) ?_
 unfold zBV at h
 refine sr [(0,{ id:=0 }),(1,{ id:=1 })] [2,3] [0,1] 2 [Pp 0,Pp 1] [Vb 31 (yB a_1),Vb 31 (yB b_1)] zF an ?_
 refine sr [(4,{ id:=2 }),(5,{ id:=3 })] [2,3,5,6] [0,1,2,3] 4 [Pp 0,Pp 1,Pp 2,Pp 3] [Vb 31 (yB a_1),Vb 31 (yB b_1),Vb 26 (zN a_1.Head),Vb 26 (zN b_1.Head)] zF an ?_
 refine sq ?_
 obtain ⟨p_1,h_5,h⟩:=bind_some h
 refine y4 (mk [(4,.bool p_1)] [] 0) ?_ ?_
 ·replace h:=h_5
  obtain ⟨r_1,h_1,h⟩:=bind_some h
  rcases Bool.eq_false_or_eq_true r_1 with zH | zH
  ·replace h:=zR zH h
   obtain ⟨r_2,h_2,h⟩:=bind_some h
   rcases Bool.eq_false_or_eq_true r_2 with zJ | zJ
   ·replace h:=zR zJ h
    obtain ⟨r_3,h_3,h⟩:=bind_some h
    rcases Bool.eq_false_or_eq_true r_3 with zO | zO
    ·replace h:=zR zO h
     obtain ⟨r_4,h_4,h⟩:=bind_some h
     refine rg [(4,{ av:=.bool r_1,l:=[.sl false 3 (Mp zG a_1.Head.Threads),.sl false 3 (Mp zG b_1.Head.Threads)] }),(10,{ av:=.bool r_2,l:=[.sl false 2 (Mp zC a_1.Head.Domains),.sl false 2 (Mp zC b_1.Head.Domains)] }),(11,Ht),(17,{ av:=.bool r_3,l:=[.sl false 5 (Mp zK a_1.Head.Snaps),.sl false 5 (Mp zK b_1.Head.Snaps)] }),(18,Ht),(24,{ av:=.bool r_4,l:=[.sl false 4 (Mp zA a_1.Parts),.sl false 4 (Mp zA b_1.Parts),.fn 41 []] }),(25,Ht)] [4] [] 4 [.bool r_4] [] zF (ar ([.sl false 3 (Mp zG a_1.Head.Threads),.sl false 3 (Mp zG b_1.Head.Threads)]:List AV) (ac (rfl:([]:List zW)=[]) (ac (wL F a_1.Head.Threads b_1.Head.Threads r_1 h_1:zV prog 37 [] [] [.sl false 3 (Mp zG a_1.Head.Threads),.sl false 3 (Mp zG b_1.Head.Threads)] [] (.bool r_1)) (ac zH (ac zH (ac zH (ac zH (ac zH (ar ([.sl false 2 (Mp zC a_1.Head.Domains),.sl false 2 (Mp zC b_1.Head.Domains)]:List AV) (ac (rfl:([]:List zW)=[]) (ac (w6 F a_1.Head.Domains b_1.Head.Domains r_2 h_2:zV prog 38 [] [] [.sl false 2 (Mp zC a_1.Head.Domains),.sl false 2 (Mp zC b_1.Head.Domains)] [] (.bool r_2)) (ac zH (ac zJ (ac zJ (ac zJ (ac zJ (ac zJ (ar ([.sl false 5 (Mp zK a_1.Head.Snaps),.sl false 5 (Mp zK b_1.Head.Snaps)]:List AV) (ac (rfl:([]:List zW)=[]) (ac (uN F a_1.Head.Snaps b_1.Head.Snaps r_3 h_3:zV prog 39 [] [] [.sl false 5 (Mp zK a_1.Head.Snaps),.sl false 5 (Mp zK b_1.Head.Snaps)] [] (.bool r_3)) (ac zJ (ac zO (ac zO (ac zO (ac zO (ac zO (ar ([.sl false 4 (Mp zA a_1.Parts),.sl false 4 (Mp zA b_1.Parts),.fn 41 []]:List AV) (ac (rfl:([]:List zW)=[]) (ac (vB F a_1.Parts b_1.Parts r_4 h_4:zV prog 40 [] [] [.sl false 4 (Mp zA a_1.Parts),.sl false 4 (Mp zA b_1.Parts),.fn 41 []] [] (.bool r_4)) (ac zO an)))))))))))))))))))))))))))))) ?_
     cases h
     exact ⟨rfl,(sw [] [] [.s 4] [] an)⟩
    ·replace h:=zQ zO h
     refine rg [(4,{ av:=.bool r_1,l:=[.sl false 3 (Mp zG a_1.Head.Threads),.sl false 3 (Mp zG b_1.Head.Threads)] }),(10,{ av:=.bool r_2,l:=[.sl false 2 (Mp zC a_1.Head.Domains),.sl false 2 (Mp zC b_1.Head.Domains)] }),(11,Ht),(17,{ av:=.bool r_3,l:=[.sl false 5 (Mp zK a_1.Head.Snaps),.sl false 5 (Mp zK b_1.Head.Snaps)] }),(18,Ht),(20,Hg),(21,Hg),(22,Hg),(23,Hg),(24,Hg),(25,Hf)] [4] [] 4 [.bool false] [] zF (ar ([.sl false 3 (Mp zG a_1.Head.Threads),.sl false 3 (Mp zG b_1.Head.Threads)]:List AV) (ac (rfl:([]:List zW)=[]) (ac (wL F a_1.Head.Threads b_1.Head.Threads r_1 h_1:zV prog 37 [] [] [.sl false 3 (Mp zG a_1.Head.Threads),.sl false 3 (Mp zG b_1.Head.Threads)] [] (.bool r_1)) (ac zH (ac zH (ac zH (ac zH (ac zH (ar ([.sl false 2 (Mp zC a_1.Head.Domains),.sl false 2 (Mp zC b_1.Head.Domains)]:List AV) (ac (rfl:([]:List zW)=[]) (ac (w6 F a_1.Head.Domains b_1.Head.Domains r_2 h_2:zV prog 38 [] [] [.sl false 2 (Mp zC a_1.Head.Domains),.sl false 2 (Mp zC b_1.Head.Domains)] [] (.bool r_2)) (ac zH (ac zJ (ac zJ (ac zJ (ac zJ (ac zJ (ar ([.sl false 5 (Mp zK a_1.Head.Snaps),.sl false 5 (Mp zK b_1.Head.Snaps)]:List AV) (ac (rfl:([]:List zW)=[]) (ac (uN F a_1.Head.Snaps b_1.Head.Snaps r_3 h_3:zV prog 39 [] [] [.sl false 5 (Mp zK a_1.Head.Snaps),.sl false 5 (Mp zK b_1.Head.Snaps)] [] (.bool r_3)) (ac zJ (ac zO (ac zO (ac zO (ac zO (ac zO (ac zO an))))))))))))))))))))))))))) ?_
     cases h
     exact ⟨rfl,(sw [] [] [.s 4] [] an)⟩
   ·replace h:=zQ zJ h
    refine rg [(4,{ av:=.bool r_1,l:=[.sl false 3 (Mp zG a_1.Head.Threads),.sl false 3 (Mp zG b_1.Head.Threads)] }),(10,{ av:=.bool r_2,l:=[.sl false 2 (Mp zC a_1.Head.Domains),.sl false 2 (Mp zC b_1.Head.Domains)] }),(11,Ht),(13,Hg),(14,Hg),(15,Hg),(16,Hg),(17,Hg),(18,Hf),(20,Hg),(21,Hg),(22,Hg),(23,Hg),(24,Hg),(25,Hf)] [4] [] 4 [.bool false] [] zF (ar ([.sl false 3 (Mp zG a_1.Head.Threads),.sl false 3 (Mp zG b_1.Head.Threads)]:List AV) (ac (rfl:([]:List zW)=[]) (ac (wL F a_1.Head.Threads b_1.Head.Threads r_1 h_1:zV prog 37 [] [] [.sl false 3 (Mp zG a_1.Head.Threads),.sl false 3 (Mp zG b_1.Head.Threads)] [] (.bool r_1)) (ac zH (ac zH (ac zH (ac zH (ac zH (ar ([.sl false 2 (Mp zC a_1.Head.Domains),.sl false 2 (Mp zC b_1.Head.Domains)]:List AV) (ac (rfl:([]:List zW)=[]) (ac (w6 F a_1.Head.Domains b_1.Head.Domains r_2 h_2:zV prog 38 [] [] [.sl false 2 (Mp zC a_1.Head.Domains),.sl false 2 (Mp zC b_1.Head.Domains)] [] (.bool r_2)) (ac zH (ac zJ (ac zJ (ac zJ (ac zJ (ac zJ (ac zJ (ac (rfl:false=!true) (ac (rfl:false=!true) (ac (rfl:false=!true) (ac (rfl:false=!true) (ac (rfl:false=!true) (ar false an)))))))))))))))))))))))) ?_
    cases h
    exact ⟨rfl,(sw [] [] [.s 4] [] an)⟩
  ·replace h:=zQ zH h
   refine rg [(4,{ av:=.bool r_1,l:=[.sl false 3 (Mp zG a_1.Head.Threads),.sl false 3 (Mp zG b_1.Head.Threads)] }),(6,Hg),(7,Hg),(8,Hg),(9,Hg),(10,Hg),(11,Hf),(13,Hg),(14,Hg),(15,Hg),(16,Hg),(17,Hg),(18,Hf),(20,Hg),(21,Hg),(22,Hg),(23,Hg),(24,Hg),(25,Hf)] [4] [] 4 [.bool false] [] zF (ar ([.sl false 3 (Mp zG a_1.Head.Threads),.sl false 3 (Mp zG b_1.Head.Threads)]:List AV) (ac (rfl:([]:List zW)=[]) (ac (wL F a_1.Head.Threads b_1.Head.Threads r_1 h_1:zV prog 37 [] [] [.sl false 3 (Mp zG a_1.Head.Threads),.sl false 3 (Mp zG b_1.Head.Threads)] [] (.bool r_1)) (ac zH (ac zH (ac zH (ac zH (ac zH (ac zH (ac (rfl:false=!true) (ac (rfl:false=!true) (ac (rfl:false=!true) (ac (rfl:false=!true) (ac (rfl:false=!true) (ar false (ac (rfl:false=!true) (ac (rfl:false=!true) (ac (rfl:false=!true) (ac (rfl:false=!true) (ac (rfl:false=!true) (ar false an))))))))))))))))))))) ?_
   cases h
   exact ⟨rfl,(sw [] [] [.s 4] [] an)⟩
 refine rt ?_
 cases h
 exact ⟨.inr rfl,Nat.le_of_ble_eq_true rfl,by kernel_rfl⟩
theorem pU (F:Nat) (l_1:zM) (r:Int) (h:kJ F l_1=some r):zV prog 14 [] [] [z4 l_1] [] (Ii r):=by
 refine yG (fn:=Go.Proofs.Try.f14) (code:=xC Go.Proofs.Try.f14) (by kernel_rfl) (by kernel_rfl) (Nat.le_of_ble_eq_true (by kernel_rfl)) ?_
 unfold kJ at h
 refine sr [(0,{ id:=0 })] [1] [0] 1 [Pp 0] [Vb 31 (yB l_1)] zF an ?_
 refine sq ?_
 obtain ⟨r_1,h_1,h⟩:=bind_some h
 refine rg [(4,{ av:=.tuple [z4 r_1.1,Ii r_1.2],l:=[yU l_1.Head,.sl false 4 (Mp zA l_1.Parts)] }),(8,{ id:=1 })] [1,3,4] [0,1] 2 [Pp 0,Pp 1,Ii r_1.2] [Vb 31 (yB l_1),Vb 31 (yB r_1.1)] zF (ar ([yU l_1.Head,.sl false 4 (Mp zA l_1.Parts)]:List AV) (ac (rfl:([]:List zW)=[]) (ac (zDw F l_1.Head l_1.Parts r_1 h_1:zV prog 10 [] [] [yU l_1.Head,.sl false 4 (Mp zA l_1.Parts)] [] (.tuple [z4 r_1.1,Ii r_1.2])) an))) ?_
 refine sq ?_
 refine sq ?_
 obtain ⟨p_1,h_3,h⟩:=bind_some h
 refine y4 (mk [(4,Ii r_1.2),(20,.bool p_1)] [] 0) ?_ ?_
 ·replace h:=h_3
  rcases bft (r_1.2==(0:Int)) with zH | zH
  ·replace h:=zR zH h
   obtain ⟨r_2,h_2,h⟩:=bind_some h
   refine rg [(5,{ av:=.bool r_2,l:=[z4 r_1.1,z4 l_1] }),(7,Ht)] [4,20] [] 2 [Ii r_1.2,.bool (!r_2)] [] zF (ac zH (ac zH (ac zH (ar ([z4 r_1.1,z4 l_1]:List AV) (ac (rfl:([]:List zW)=[]) (ac (zGl F r_1.1 l_1 r_2 h_2:zV prog 13 [] [] [z4 r_1.1,z4 l_1] [] (.bool r_2)) (ac zH (ac zH an)))))))) ?_
   cases h
   exact ⟨rfl,(sw [] [] [.s 4,.s 20] [] an)⟩
  ·replace h:=zQ zH h
   refine rg [(3,Hg),(4,Hg),(5,Hg),(6,Hg),(7,Hf)] [4,20] [] 2 [Ii r_1.2,.bool false] [] zF (ac zH (ac zH (ac zH (ac zH (ac zH an))))) ?_
   cases h
   exact ⟨rfl,(sw [] [] [.s 4,.s 20] [] an)⟩
 refine cd 20 p_1 ?_ ?_
 ·intro g_1;replace h:=zR g_1 h
  refine sr [] [2] [] 0 [Ii 10] [] zF an ?_
  refine rt ?_
  cases h
  exact ⟨.inr rfl,Nat.le_of_ble_eq_true rfl,by kernel_rfl⟩
 intro g_1;replace h:=zQ g_1 h
 refine sk ?_
 refine sr [] [2] [] 0 [Ii r_1.2] [] zF an ?_
 refine rt ?_
 cases h
 exact ⟨.inr rfl,Nat.le_of_ble_eq_true rfl,by kernel_rfl⟩
theorem zGp (F:Nat) (l_1:zM) (r:(List (yC))) (h:zBd F l_1=some r):zV prog 18 [] [] [z4 l_1] [.row 50 3 (Mp z9 r)] (.own 0 ((r).length)):=by
 refine yG (fn:=Go.Proofs.Try.f18) (code:=xC Go.Proofs.Try.f18) (by kernel_rfl) (by kernel_rfl) (Nat.le_of_ble_eq_true (by kernel_rfl)) ?_
 unfold zBd at h
 refine sr [(0,{ id:=0 }),(1,{ id:=1,m:=1 })] [1] [0] 2 [Pp 0] [Vb 31 (yB l_1)] zF an ?_
 refine sq ?_
 refine sq ?_
 obtain ⟨r_1,h_1,h⟩:=bind_some h
 refine rg [(1,{ av:=Ii r_1,l:=[z4 l_1] })] [1,8] [0] 2 [Pp 0,.bool (r_1 != (0:Int))] [Vb 31 (yB l_1)] zF (ar ([z4 l_1]:List AV) (ac (rfl:([]:List zW)=[]) (ac (pU F l_1 r_1 h_1:zV prog 14 [] [] [z4 l_1] [] (Ii r_1)) an))) ?_
 refine cd 8 (r_1 != (0:Int)) ?_ ?_
 ·intro g_1;replace h:=zR g_1 h
  refine sr [(0,{ id:=2,m:=1 })] [2] [2] 3 [.own 2 0] [Rb 50 3 []] zF an ?_
  refine wk [2] [] [.a 2 (.own 0 ((([]:List yC)).length))] [.s 0] [(2,.own 0 ((([]:List yC)).length))] [(0,Rb 50 3 [])] (ac (congrArg (AV.own _) (by first | (simp;done) | (simp;omega)):(.own 2 0:AV)=.own 2 ((([]:List yC)).length)) an) ?_
  refine rt ?_
  cases h
  exact ⟨.inr rfl,Nat.le_of_ble_eq_true rfl,by kernel_rfl⟩
 intro g_1;replace h:=zQ g_1 h
 refine sk ?_
 refine sr [(0,{ id:=2,m:=1 })] [1,3] [0,2] 3 [Pp 0,.own 2 0] [Vb 31 (yB l_1),Rb 50 3 []] zF an ?_
 refine sq ?_
 refine sr [(2,{ n:=(l_1.Parts).length })] [3,10,11,12] [2] 3 [.own 2 0,.sl false 4 (Mp zA l_1.Parts),Ii (lN (l_1.Parts)),Ii 0] [Rb 50 3 []] zF (ac (yF _:((Mp zA l_1.Parts)).length=(l_1.Parts).length) an) ?_
 obtain ⟨o_1,h_2,h⟩:=bind_some h
 refine y4 (mk [(3,.own 0 ((o_1).length))] [(0,Rb 50 3 (Mp z9 o_1))] 1) ?_ ?_
 ·replace h:=h_2
  refine yD (id:=0) (by kernel_rfl) ?_
  refine wk [2] [] [.s 3,.s 10,.s 11,.s 12] [.s 0] [(3,.own 0 0),(10,.sl false 4 (Mp zA l_1.Parts)),(11,Ii (lN (l_1.Parts))),(12,Ii 0)] [(0,Rb 50 3 [])] an ?_
  refine xI (fun n st=>∃ (v_1:Int),∃ (zE:List yC),st=mk [(3,.own 0 ((zE).length)),(10,.sl false 4 (Mp zA l_1.Parts)),(11,Ii (lN (l_1.Parts))),(12,Ii v_1)] [(0,Rb 50 3 (Mp z9 zE))] 1∧kY F l_1 n v_1 zE=some o_1) F (by kernel_rfl) ⟨_,_,rfl,h⟩ ?_ ?_
  ·rintro _ ⟨_,_,_,h⟩;exact xN (h:(none:Option (List yC))=some o_1)
  rintro n_1 _ ⟨v_1,zE,rfl,h⟩
  replace h:t9 F l_1 (kY F l_1 n_1) v_1 zE=some o_1:=h
  unfold t9 at h
  refine sr [] [3,10,11,12,13] [0] 1 [.own 0 ((zE).length),.sl false 4 (Mp zA l_1.Parts),Ii (lN (l_1.Parts)),Ii v_1,.bool (decide (v_1<(lN (l_1.Parts))))] [Rb 50 3 (Mp z9 zE)] zF an ?_
  refine sq ?_
  refine cd 13 (decide (v_1<(lN (l_1.Parts)))) ?_ ?_
  rotate_left
  ·intro g_2;replace h:=zQ g_2 h
   refine xM (id:=0) (by kernel_rfl) ?_
   cases h
   exact ⟨rfl,(sw [0] [] [.s 3] [.s 0] an)⟩
  intro g_2;replace h:=zR g_2 h
  refine sk ?_
  refine sq ?_
  refine yD (id:=1) (by kernel_rfl) ?_
  refine sq ?_
  obtain ⟨x_1,h_3,h⟩:=bind_some h
  refine rg [(0,{ av:=zA x_1 }),(2,{ id:=1 })] [3,5,10,11,12] [0,1] 2 [.own 0 ((zE).length),Pp 1,.sl false 4 (Mp zA l_1.Parts),Ii (lN (l_1.Parts)),Ii v_1] [Rb 50 3 (Mp z9 zE),Vb 59 (zX x_1)] zF (ac (yR h_3:xJ (Mp zA l_1.Parts) v_1=some (zA x_1)) an) ?_
  refine sr [] [3,5,10,11,12,18] [0,1] 2 [.own 0 ((zE).length),Pp 1,.sl false 4 (Mp zA l_1.Parts),Ii (lN (l_1.Parts)),Ii v_1,.bool (decide (x_1.Lost>(0:Int)))] [Rb 50 3 (Mp z9 zE),Vb 59 (zX x_1)] zF an ?_
  refine cd 18 (decide (x_1.Lost>(0:Int))) ?_ ?_
  rotate_left
  ·intro g_3;replace h:=zQ g_3 h
   refine sk ?_
   refine rg [] [3,10,11,12] [0] 2 [.own 0 ((zE).length),.sl false 4 (Mp zA l_1.Parts),Ii (lN (l_1.Parts)),Ii (zP (v_1+(1:Int)))] [Rb 50 3 (Mp z9 zE)] zF an ?_
   exact ⟨_,(sw [0] [] [.s 3,.s 10,.s 11,.s 12] [.s 0] an),_,_,rfl,h⟩
  intro g_3;replace h:=zR g_3 h
  obtain ⟨_,h_4,h⟩:=bind_some h;replace h_4:=wK h_4
  refine rg [(11,{ id:=2 }),(12,{ id:=3,l:=(Mp z9 (zE++([(⟨x_1.Thread,zP (x_1.Serial - x_1.Lost),x_1.Lost⟩:yC)]:List yC))),n:=((zE++([(⟨x_1.Thread,zP (x_1.Serial - x_1.Lost),x_1.Lost⟩:yC)]:List yC))).length })] [3,10,11,12] [3] 4 [.own 3 (((zE++([(⟨x_1.Thread,zP (x_1.Serial - x_1.Lost),x_1.Lost⟩:yC)]:List yC))).length),.sl false 4 (Mp zA l_1.Parts),Ii (lN (l_1.Parts)),Ii v_1] [Rb 50 3 (Mp z9 (zE++([(⟨x_1.Thread,zP (x_1.Serial - x_1.Lost),x_1.Lost⟩:yC)]:List yC)))] zF (ac (by first | (simp;done) | (simp;omega):(zE).length=((List.map z9 zE)).length) (ac (by first | (simp;done) | (simp;omega):1=((List.map z9 ([(⟨x_1.Thread,zP (x_1.Serial - x_1.Lost),x_1.Lost⟩:yC)]:List yC))).length) (ac (zBD _ _:(Mp z9 (zE++([(⟨x_1.Thread,zP (x_1.Serial - x_1.Lost),x_1.Lost⟩:yC)]:List yC)))=(Mp z9 zE)++(Mp z9 ([(⟨x_1.Thread,zP (x_1.Serial - x_1.Lost),x_1.Lost⟩:yC)]:List yC))) (ac (by simp:((zE++([(⟨x_1.Thread,zP (x_1.Serial - x_1.Lost),x_1.Lost⟩:yC)]:List yC))).length=((List.map z9 (zE++([(⟨x_1.Thread,zP (x_1.Serial - x_1.Lost),x_1.Lost⟩:yC)]:List yC)))).length) (ac (by first | (simp;done) | simpa using h_4:(((List.map z9 zE):List AV).length+((List.map z9 ([(⟨x_1.Thread,zP (x_1.Serial - x_1.Lost),x_1.Lost⟩:yC)]:List yC)):List AV).length) * 24≤140737488355328) an))))) ?_
  refine rg [] [3,10,11,12] [3] 4 [.own 3 (((zE++([(⟨x_1.Thread,zP (x_1.Serial - x_1.Lost),x_1.Lost⟩:yC)]:List yC))).length),.sl false 4 (Mp zA l_1.Parts),Ii (lN (l_1.Parts)),Ii (zP (v_1+(1:Int)))] [Rb 50 3 (Mp z9 (zE++([(⟨x_1.Thread,zP (x_1.Serial - x_1.Lost),x_1.Lost⟩:yC)]:List yC)))] zF an ?_
  exact ⟨_,(sw [3] [] [.s 3,.s 10,.s 11,.s 12] [.s 0] an),_,_,rfl,h⟩
 refine sr [] [2] [0] 1 [.own 0 ((o_1).length)] [Rb 50 3 (Mp z9 o_1)] zF an ?_
 refine wk [0] [] [.s 2] [.s 0] [(2,.own 0 ((o_1).length))] [(0,Rb 50 3 (Mp z9 o_1))] an ?_
 refine rt ?_
 cases h
 exact ⟨.inr rfl,Nat.le_of_ble_eq_true rfl,by kernel_rfl⟩
theorem zHA (F:Nat) (l_1:zM) (yM:z6) (r:zI×Bool) (h:zB2 F l_1 yM=some r):zV prog 16 [] [] [z4 l_1,yA yM] [] (.tuple [zD r.1,.bool r.2]):=by
 refine yG (fn:=Go.Proofs.Try.f16) (code:=xC Go.Proofs.Try.f16) (by kernel_rfl) (by kernel_rfl) (Nat.le_of_ble_eq_true (by kernel_rfl)) ?_
 unfold zB2 at h
 refine sr [(0,{ id:=0 }),(1,{ id:=1 }),(2,{ id:=2 })] [2,3,4] [0,1,2] 3 [Pp 0,Pp 1,Pp 2] [Vb 31 (yB l_1),Vb 37 (xZ yM),Vb 42 [Ii 0,Ii 0,.str ([]:List Int),Ii 0,Ii 0,.nilsl]] zF an ?_
 refine sq ?_
 refine sq ?_
 obtain ⟨r_1,h_1,h⟩:=bind_some h
 refine rg [(1,{ av:=Ii r_1,l:=[z4 l_1] })] [2,3,4,10] [0,1,2] 3 [Pp 0,Pp 1,Pp 2,.bool (r_1 != (0:Int))] [Vb 31 (yB l_1),Vb 37 (xZ yM),Vb 42 [Ii 0,Ii 0,.str ([]:List Int),Ii 0,Ii 0,.nilsl]] zF (ar ([z4 l_1]:List AV) (ac (rfl:([]:List zW)=[]) (ac (pU F l_1 r_1 h_1:zV prog 14 [] [] [z4 l_1] [] (Ii r_1)) an))) ?_
 refine cd 10 (r_1 != (0:Int)) ?_ ?_
 ·intro g_1;replace h:=zR g_1 h
  refine sr [] [4,5] [2] 3 [Pp 2,.bool false] [Vb 42 [Ii 0,Ii 0,.str ([]:List Int),Ii 0,Ii 0,.nilsl]] zF an ?_
  refine wk [2] [] [.s 4,.s 5] [.a 0 (Vb 42 (zT (⟨(0:Int),(0:Int),([]:List Int),(0:Int),(0:Int),[]⟩:zI)))] [(4,Pp 0),(5,.bool false)] [(0,Vb 42 (zT (⟨(0:Int),(0:Int),([]:List Int),(0:Int),(0:Int),[]⟩:zI)))] (ar 42 (ac (rfl:v7 [Ii ((⟨(0:Int),(0:Int),([]:List Int),(0:Int),(0:Int),[]⟩:zI).At),Ii ((⟨(0:Int),(0:Int),([]:List Int),(0:Int),(0:Int),[]⟩:zI).Kind),.str ((⟨(0:Int),(0:Int),([]:List Int),(0:Int),(0:Int),[]⟩:zI).Name),Ii ((⟨(0:Int),(0:Int),([]:List Int),(0:Int),(0:Int),[]⟩:zI).N),Ii ((⟨(0:Int),(0:Int),([]:List Int),(0:Int),(0:Int),[]⟩:zI).M),.sl false 1 (Ms ((⟨(0:Int),(0:Int),([]:List Int),(0:Int),(0:Int),[]⟩:zI).Stack))]=true) (ac (rfl:(Ii 0:AV)=Ii ((⟨(0:Int),(0:Int),([]:List Int),(0:Int),(0:Int),[]⟩:zI).At)) (ac (rfl:(Ii 0:AV)=Ii ((⟨(0:Int),(0:Int),([]:List Int),(0:Int),(0:Int),[]⟩:zI).Kind)) (ac (rfl:(.str ([]:List Int):AV)=.str ((⟨(0:Int),(0:Int),([]:List Int),(0:Int),(0:Int),[]⟩:zI).Name)) (ac (rfl:(Ii 0:AV)=Ii ((⟨(0:Int),(0:Int),([]:List Int),(0:Int),(0:Int),[]⟩:zI).N)) (ac (rfl:(Ii 0:AV)=Ii ((⟨(0:Int),(0:Int),([]:List Int),(0:Int),(0:Int),[]⟩:zI).M)) (ac (rfl:((Ms ((⟨(0:Int),(0:Int),([]:List Int),(0:Int),(0:Int),[]⟩:zI).Stack)):List AV)=[]) an)))))))) ?_
  refine rt ?_
  cases h
  exact ⟨.inr rfl,Nat.le_of_ble_eq_true rfl,by kernel_rfl⟩
 intro g_1;replace h:=zQ g_1 h
 refine sk ?_
 refine sq ?_
 refine sr [(2,{ n:=(l_1.Parts).length })] [3,4,13,14,15] [1,2] 3 [Pp 1,Pp 2,.sl false 4 (Mp zA l_1.Parts),Ii (lN (l_1.Parts)),Ii 0] [Vb 37 (xZ yM),Vb 42 [Ii 0,Ii 0,.str ([]:List Int),Ii 0,Ii 0,.nilsl]] zF (ac (yF _:((Mp zA l_1.Parts)).length=(l_1.Parts).length) an) ?_
 obtain ⟨o_1,h_2,h⟩:=bind_some h
 refine wI (K1:=(fun e st'=>match o_1 with | (.inl q0)=>e=.normal∧Sub 0 st' (mk [(4,Pp 0)] [(0,Vb 42 [Ii 0,Ii 0,.str ([]:List Int),Ii 0,Ii 0,.nilsl])] 1) | (.inr q1)=>e=.ret∧uE prog Go.Proofs.Try.f16 0 [] (.tuple [zD q1.1,.bool q1.2]) st')) ?_ ?_
 ·replace h:=h_2
  refine yD (id:=0) (by kernel_rfl) ?_
  refine wk [1,2] [] [.s 3,.s 4,.s 13,.s 14,.s 15] [.s 0,.s 1] [(3,Pp 0),(4,Pp 1),(13,.sl false 4 (Mp zA l_1.Parts)),(14,Ii (lN (l_1.Parts))),(15,Ii 0)] [(0,Vb 37 (xZ yM)),(1,Vb 42 [Ii 0,Ii 0,.str ([]:List Int),Ii 0,Ii 0,.nilsl])] an ?_
  refine xI (fun n st=>∃ (v_1:Int),st=mk [(3,Pp 0),(4,Pp 1),(13,.sl false 4 (Mp zA l_1.Parts)),(14,Ii (lN (l_1.Parts))),(15,Ii v_1)] [(0,Vb 37 (xZ yM)),(1,Vb 42 [Ii 0,Ii 0,.str ([]:List Int),Ii 0,Ii 0,.nilsl])] 2∧nG F l_1 yM n v_1=some o_1) F (by kernel_rfl) ⟨_,rfl,h⟩ ?_ ?_
  ·rintro _ ⟨_,_,h⟩;exact xN (h:(none:Option (Unit⊕(zI×Bool)))=some o_1)
  rintro n_1 _ ⟨v_1,rfl,h⟩
  replace h:uZ F l_1 yM (nG F l_1 yM n_1) v_1=some o_1:=h
  unfold uZ at h
  refine sr [] [3,4,13,14,15,16] [0,1] 2 [Pp 0,Pp 1,.sl false 4 (Mp zA l_1.Parts),Ii (lN (l_1.Parts)),Ii v_1,.bool (decide (v_1<(lN (l_1.Parts))))] [Vb 37 (xZ yM),Vb 42 [Ii 0,Ii 0,.str ([]:List Int),Ii 0,Ii 0,.nilsl]] zF an ?_
  refine sq ?_
  refine cd 16 (decide (v_1<(lN (l_1.Parts)))) ?_ ?_
  rotate_left
  ·intro g_2;replace h:=zQ g_2 h
   refine xM (id:=0) (by kernel_rfl) ?_
   cases h
   exact ⟨rfl,(sw [1] [] [.s 4] [.s 0] an)⟩
  intro g_2;replace h:=zR g_2 h
  refine sk ?_
  refine sq ?_
  refine yD (id:=1) (by kernel_rfl) ?_
  refine sq ?_
  obtain ⟨x_1,h_3,h⟩:=bind_some h
  refine rg [(0,{ av:=zA x_1 }),(2,{ id:=2 })] [3,4,7,13,14,15] [0,1,2] 3 [Pp 0,Pp 1,Pp 2,.sl false 4 (Mp zA l_1.Parts),Ii (lN (l_1.Parts)),Ii v_1] [Vb 37 (xZ yM),Vb 42 [Ii 0,Ii 0,.str ([]:List Int),Ii 0,Ii 0,.nilsl],Vb 59 (zX x_1)] zF (ac (yR h_3:xJ (Mp zA l_1.Parts) v_1=some (zA x_1)) an) ?_
  refine sq ?_
  refine y4 (mk [(3,Pp 0),(4,Pp 1),(7,Pp 2),(13,.sl false 4 (Mp zA l_1.Parts)),(14,Ii (lN (l_1.Parts))),(15,Ii v_1),(41,.bool ((x_1.Thread==yM.Thread)&&(decide (yM.Serial≥x_1.Serial)&&decide (yM.Serial<(zP (x_1.Serial+(lN (x_1.Events))))))))] [(0,Vb 37 (xZ yM)),(1,Vb 42 [Ii 0,Ii 0,.str ([]:List Int),Ii 0,Ii 0,.nilsl]),(2,Vb 59 (zX x_1))] 3) ?_ ?_
  ·rcases bft (x_1.Thread==yM.Thread) with yQ | yQ
   ·rcases bft (decide (yM.Serial≥x_1.Serial)) with yS | yS
    ·refine rg [(11,Ht),(19,{ n:=(x_1.Events).length }),(22,Ht)] [3,4,7,13,14,15,25,26,27,28,29,32,33,34,35,36,37,38,39,40,41] [0,1,2] 3 [Pp 0,Pp 1,Pp 2,.sl false 4 (Mp zA l_1.Parts),Ii (lN (l_1.Parts)),Ii v_1,.ptr 0 0 0 1,Ii yM.Serial,.ptr 2 0 0 1,Ii x_1.Serial,.bool (decide (yM.Serial≥x_1.Serial)),.ptr 0 0 0 1,Ii yM.Serial,.ptr 2 0 0 1,Ii x_1.Serial,.ptr 2 0 0 3,.sl false 6 (Mp zD x_1.Events),Ii (lN (x_1.Events)),Ii (zP (x_1.Serial+(lN (x_1.Events)))),.bool (decide (yM.Serial<(zP (x_1.Serial+(lN (x_1.Events)))))),.bool (decide (yM.Serial<(zP (x_1.Serial+(lN (x_1.Events))))))] [Vb 37 (xZ yM),Vb 42 [Ii 0,Ii 0,.str ([]:List Int),Ii 0,Ii 0,.nilsl],Vb 59 (zX x_1)] zF (ac yQ (ac yQ (ac yQ (ac yQ (ac yQ (ac yQ (ac yS (ac yS (ac yS (ac yS (ac yS (ac yS (ac yS (ac (yF _:((Mp zD x_1.Events)).length=(x_1.Events).length) (ac yS (ac yS (ac yS an))))))))))))))))) ?_
     exact ⟨rfl,(sw [0,1,2] [] [.s 3,.s 4,.s 7,.s 13,.s 14,.s 15,.a 41 (.bool ((x_1.Thread==yM.Thread)&&(decide (yM.Serial≥x_1.Serial)&&decide (yM.Serial<(zP (x_1.Serial+(lN (x_1.Events))))))))] [.s 0,.s 1,.s 2] (ac (congrArg AV.bool (uO yQ (uO yS rfl)):(.bool (decide (yM.Serial<(zP (x_1.Serial+(lN (x_1.Events)))))):AV)=.bool ((x_1.Thread==yM.Thread)&&(decide (yM.Serial≥x_1.Serial)&&decide (yM.Serial<(zP (x_1.Serial+(lN (x_1.Events)))))))) an))⟩
    ·refine rg [(11,Ht),(13,Hg),(14,Hg),(15,Hg),(16,Hg),(17,Hg),(18,Hg),(19,Hg),(20,Hg),(21,Hg),(22,Hf)] [3,4,7,13,14,15,25,26,27,28,29,32,33,34,35,36,37,38,39,40,41] [0,1,2] 3 [Pp 0,Pp 1,Pp 2,.sl false 4 (Mp zA l_1.Parts),Ii (lN (l_1.Parts)),Ii v_1,.ptr 0 0 0 1,Ii yM.Serial,.ptr 2 0 0 1,Ii x_1.Serial,.bool (decide (yM.Serial≥x_1.Serial)),.tuple [],.tuple [],.tuple [],.tuple [],.tuple [],.tuple [],.tuple [],.tuple [],.tuple [],.bool false] [Vb 37 (xZ yM),Vb 42 [Ii 0,Ii 0,.str ([]:List Int),Ii 0,Ii 0,.nilsl],Vb 59 (zX x_1)] zF (ac yQ (ac yQ (ac yQ (ac yQ (ac yQ (ac yQ (ac yS (ac yS (ac yS (ac yS (ac yS (ac yS (ac yS (ac yS (ac yS (ac yS an)))))))))))))))) ?_
     exact ⟨rfl,(sw [0,1,2] [] [.s 3,.s 4,.s 7,.s 13,.s 14,.s 15,.a 41 (.bool ((x_1.Thread==yM.Thread)&&(decide (yM.Serial≥x_1.Serial)&&decide (yM.Serial<(zP (x_1.Serial+(lN (x_1.Events))))))))] [.s 0,.s 1,.s 2] (ac (congrArg AV.bool (uO yQ (j0 yS)):(.bool false:AV)=.bool ((x_1.Thread==yM.Thread)&&(decide (yM.Serial≥x_1.Serial)&&decide (yM.Serial<(zP (x_1.Serial+(lN (x_1.Events)))))))) an))⟩
   ·refine rg [(6,Hg),(7,Hg),(8,Hg),(9,Hg),(10,Hg),(11,Hf),(13,Hg),(14,Hg),(15,Hg),(16,Hg),(17,Hg),(18,Hg),(19,Hg),(20,Hg),(21,Hg),(22,Hf)] [3,4,7,13,14,15,25,26,27,28,29,32,33,34,35,36,37,38,39,40,41] [0,1,2] 3 [Pp 0,Pp 1,Pp 2,.sl false 4 (Mp zA l_1.Parts),Ii (lN (l_1.Parts)),Ii v_1,.tuple [],.tuple [],.tuple [],.tuple [],.tuple [],.tuple [],.tuple [],.tuple [],.tuple [],.tuple [],.tuple [],.tuple [],.tuple [],.tuple [],.bool false] [Vb 37 (xZ yM),Vb 42 [Ii 0,Ii 0,.str ([]:List Int),Ii 0,Ii 0,.nilsl],Vb 59 (zX x_1)] zF (ac yQ (ac yQ (ac yQ (ac yQ (ac yQ (ac yQ (ac (rfl:false=!true) (ac (rfl:false=!true) (ac (rfl:false=!true) (ac (rfl:false=!true) (ac (rfl:false=!true) (ac (rfl:false=!true) (ac (rfl:false=!true) (ac (rfl:false=!true) (ac (rfl:false=!true) (ar false an)))))))))))))))) ?_
    exact ⟨rfl,(sw [0,1,2] [] [.s 3,.s 4,.s 7,.s 13,.s 14,.s 15,.a 41 (.bool ((x_1.Thread==yM.Thread)&&(decide (yM.Serial≥x_1.Serial)&&decide (yM.Serial<(zP (x_1.Serial+(lN (x_1.Events))))))))] [.s 0,.s 1,.s 2] (ac (congrArg AV.bool (j0 yQ):(.bool false:AV)=.bool ((x_1.Thread==yM.Thread)&&(decide (yM.Serial≥x_1.Serial)&&decide (yM.Serial<(zP (x_1.Serial+(lN (x_1.Events)))))))) an))⟩
  refine cd 41 ((x_1.Thread==yM.Thread)&&(decide (yM.Serial≥x_1.Serial)&&decide (yM.Serial<(zP (x_1.Serial+(lN (x_1.Events))))))) ?_ ?_
  rotate_left
  ·intro g_3;replace h:=zQ g_3 h
   refine sk ?_
   refine rg [] [3,4,13,14,15] [0,1] 3 [Pp 0,Pp 1,.sl false 4 (Mp zA l_1.Parts),Ii (lN (l_1.Parts)),Ii (zP (v_1+(1:Int)))] [Vb 37 (xZ yM),Vb 42 [Ii 0,Ii 0,.str ([]:List Int),Ii 0,Ii 0,.nilsl]] zF an ?_
   exact ⟨_,(sw [0,1] [] [.s 3,.s 4,.s 13,.s 14,.s 15] [.s 0,.s 1] an),_,rfl,h⟩
  intro g_3;replace h:=zR g_3 h
  refine sq ?_
  obtain ⟨x_2,h_4,h⟩:=bind_some h
  refine rg [(7,{ av:=zD x_2 })] [4,5] [1] 3 [Pp 1,.bool true] [Vb 42 (zT x_2)] zF (ac (yR h_4:xJ (Mp zD x_1.Events) (zP (yM.Serial - x_1.Serial))=some (zD x_2)) an) ?_
  refine wk [1] [] [.s 4,.s 5] [.s 0] [(4,Pp 0),(5,.bool true)] [(0,Vb 42 (zT x_2))] an ?_
  refine rt ?_
  cases h
  exact ⟨rfl,Nat.le_of_ble_eq_true rfl,by kernel_rfl⟩
 intro e st1 hk
 rcases o_1 with q_1 | q_2
 rotate_left
 ·obtain ⟨rfl,hf⟩:=hk
  cases h
  exact ⟨st1,Sub.refl _ _,.inr rfl,hf⟩
 obtain ⟨rfl,hs⟩:=hk
 refine ⟨_,hs,?_⟩
 refine sr [] [4,5] [0] 1 [Pp 0,.bool false] [Vb 42 [Ii 0,Ii 0,.str ([]:List Int),Ii 0,Ii 0,.nilsl]] zF an ?_
 refine wk [0] [] [.s 4,.s 5] [.a 0 (Vb 42 (zT (⟨(0:Int),(0:Int),([]:List Int),(0:Int),(0:Int),[]⟩:zI)))] [(4,Pp 0),(5,.bool false)] [(0,Vb 42 (zT (⟨(0:Int),(0:Int),([]:List Int),(0:Int),(0:Int),[]⟩:zI)))] (ar 42 (ac (rfl:v7 [Ii ((⟨(0:Int),(0:Int),([]:List Int),(0:Int),(0:Int),[]⟩:zI).At),Ii ((⟨(0:Int),(0:Int),([]:List Int),(0:Int),(0:Int),[]⟩:zI).Kind),.str ((⟨(0:Int),(0:Int),([]:List Int),(0:Int),(0:Int),[]⟩:zI).Name),Ii ((⟨(0:Int),(0:Int),([]:List Int),(0:Int),(0:Int),[]⟩:zI).N),Ii ((⟨(0:Int),(0:Int),([]:List Int),(0:Int),(0:Int),[]⟩:zI).M),.sl false 1 (Ms ((⟨(0:Int),(0:Int),([]:List Int),(0:Int),(0:Int),[]⟩:zI).Stack))]=true) (ac (rfl:(Ii 0:AV)=Ii ((⟨(0:Int),(0:Int),([]:List Int),(0:Int),(0:Int),[]⟩:zI).At)) (ac (rfl:(Ii 0:AV)=Ii ((⟨(0:Int),(0:Int),([]:List Int),(0:Int),(0:Int),[]⟩:zI).Kind)) (ac (rfl:(.str ([]:List Int):AV)=.str ((⟨(0:Int),(0:Int),([]:List Int),(0:Int),(0:Int),[]⟩:zI).Name)) (ac (rfl:(Ii 0:AV)=Ii ((⟨(0:Int),(0:Int),([]:List Int),(0:Int),(0:Int),[]⟩:zI).N)) (ac (rfl:(Ii 0:AV)=Ii ((⟨(0:Int),(0:Int),([]:List Int),(0:Int),(0:Int),[]⟩:zI).M)) (ac (rfl:((Ms ((⟨(0:Int),(0:Int),([]:List Int),(0:Int),(0:Int),[]⟩:zI).Stack)):List AV)=[]) an)))))))) ?_
 refine rt ?_
 cases h
 exact ⟨.inr rfl,Nat.le_of_ble_eq_true rfl,by kernel_rfl⟩
theorem zFB (F:Nat) (r:Bool) (h:zCv F=some r):zV prog 9 [] [] [] [] (.bool r):=by
 refine yG (fn:=Go.Proofs.Try.f9) (code:=xC Go.Proofs.Try.f9) (by kernel_rfl) (by kernel_rfl) (Nat.le_of_ble_eq_true (by kernel_rfl)) ?_
 unfold zCv at h
 refine sr [] [] [] 0 [] [] zF an ?_
 refine sr [(1,{ id:=0 }),(3,{ id:=1 }),(5,{ id:=2 })] [1] [0,1,2] 3 [Pp 2] [Rb 66 3 (Mp zG ([(⟨(1:Int),([116,49]:List Int),(0:Int)⟩:z0)]:List z0)),Rb 68 2 (Mp zC ([(⟨(0:Int),(0:Int)⟩:zU)]:List zU)),Vb 26 [.own 0 1,.own 1 1,.nilsl]] zF an ?_
 refine sq ?_
 refine wk [2,1] [0] [.s 1] [.a 0 (Vb 26 [.sl false 3 (Mp zG ([(⟨(1:Int),([116,49]:List Int),(0:Int)⟩:z0)]:List z0)),.own 1 1,.nilsl]),.s 1] [(1,Pp 0)] [(0,Vb 26 [.sl false 3 (Mp zG ([(⟨(1:Int),([116,49]:List Int),(0:Int)⟩:z0)]:List z0)),.own 1 1,.nilsl]),(1,Rb 68 2 (Mp zC ([(⟨(0:Int),(0:Int)⟩:zU)]:List zU)))] (ar 26 (ac (rfl:v7 [.sl false 3 (Mp zG ([(⟨(1:Int),([116,49]:List Int),(0:Int)⟩:z0)]:List z0)),.own 1 1,.nilsl]=true) (ac (by first | (simp;done) | (simp;omega):1=((List.map zG ([(⟨(1:Int),([116,49]:List Int),(0:Int)⟩:z0)]:List z0))).length) (ar 3 (ar ((Mp zG ([(⟨(1:Int),([116,49]:List Int),(0:Int)⟩:z0)]:List z0)):List AV) (ac (rfl:(!false||false)=true) (ac (rfl:(.own 1 1:AV)=.own 1 1) (ac (rfl:(.nilsl:AV)=.nilsl) an)))))))) ?_
 refine wk [0] [1] [.s 1] [.a 0 (Vb 26 [.sl false 3 (Mp zG ([(⟨(1:Int),([116,49]:List Int),(0:Int)⟩:z0)]:List z0)),.sl false 2 (Mp zC ([(⟨(0:Int),(0:Int)⟩:zU)]:List zU)),.nilsl])] [(1,Pp 0)] [(0,Vb 26 [.sl false 3 (Mp zG ([(⟨(1:Int),([116,49]:List Int),(0:Int)⟩:z0)]:List z0)),.sl false 2 (Mp zC ([(⟨(0:Int),(0:Int)⟩:zU)]:List zU)),.nilsl])] (ar 26 (ac (rfl:v7 [.sl false 3 (Mp zG ([(⟨(1:Int),([116,49]:List Int),(0:Int)⟩:z0)]:List z0)),.sl false 2 (Mp zC ([(⟨(0:Int),(0:Int)⟩:zU)]:List zU)),.nilsl]=true) (ac (by first | (simp;done) | (simp;omega):1=((List.map zC ([(⟨(0:Int),(0:Int)⟩:zU)]:List zU))).length) (ar 3 (ar ((Mp zG ([(⟨(1:Int),([116,49]:List Int),(0:Int)⟩:z0)]:List z0)):List AV) (ac (rfl:(!false||false)=true) (ar 2 (ar ((Mp zC ([(⟨(0:Int),(0:Int)⟩:zU)]:List zU)):List AV) (ac (rfl:(!false||false)=true) (ac (rfl:(.nilsl:AV)=.nilsl) an)))))))))) ?_
 obtain ⟨r_1,h_1,h⟩:=bind_some h
 obtain ⟨r_2,h_2,h⟩:=bind_some h
 obtain ⟨r_3,h_3,h⟩:=bind_some h
 refine rg [(1,{ id:=1 }),(2,{ av:=zA r_1,frz:=[1],l:=[Ii 0,Ii 0,.sl false 1 (Mi ([(1:Int),(2:Int)]:List Int))] }),(3,{ id:=2 }),(4,{ av:=zA r_2,frz:=[2],l:=[Ii 2,Ii 0,.sl false 1 (Mi ([(2:Int),(3:Int)]:List Int))] }),(5,{ id:=3 }),(6,{ av:=.tuple [z4 r_3.1,Ii r_3.2],frz:=[3],l:=[.agg [.sl false 3 (Mp zG ([(⟨(1:Int),([116,49]:List Int),(0:Int)⟩:z0)]:List z0)),.sl false 2 (Mp zC ([(⟨(0:Int),(0:Int)⟩:zU)]:List zU)),.nilsl],.sl false 4 (Mp zA ([r_1,r_2]:List zB))] }),(10,{ id:=4 })] [1,2,3] [0,4] 5 [Pp 0,Pp 4,Ii r_3.2] [Vb 26 [.sl false 3 (Mp zG ([(⟨(1:Int),([116,49]:List Int),(0:Int)⟩:z0)]:List z0)),.sl false 2 (Mp zC ([(⟨(0:Int),(0:Int)⟩:zU)]:List zU)),.nilsl],Vb 31 (yB r_3.1)] zF (ac (by first | (simp;done) | (simp;omega):2=((List.map (AV.int .i64) ([(1:Int),(2:Int)]:List Int))).length) (ar ([Ii 0,Ii 0,.sl false 1 (Mi ([(1:Int),(2:Int)]:List Int))]:List AV) (ac (rfl:([]:List zW)=[]) (ac (zBI F (0:Int) (0:Int) ([(1:Int),(2:Int)]:List Int) r_1 h_1:zV prog 26 [] [] [Ii 0,Ii 0,.sl false 1 (Mi ([(1:Int),(2:Int)]:List Int))] [] (zA r_1)) (ac (by first | (simp;done) | (simp;omega):2=((List.map (AV.int .i64) ([(2:Int),(3:Int)]:List Int))).length) (ar ([Ii 2,Ii 0,.sl false 1 (Mi ([(2:Int),(3:Int)]:List Int))]:List AV) (ac (rfl:([]:List zW)=[]) (ac (zBI F (2:Int) (0:Int) ([(2:Int),(3:Int)]:List Int) r_2 h_2:zV prog 26 [] [] [Ii 2,Ii 0,.sl false 1 (Mi ([(2:Int),(3:Int)]:List Int))] [] (zA r_2)) (ac (by first | (simp;done) | (simp;omega):2=((List.map zA ([r_1,r_2]:List zB))).length) (ar ([.agg [.sl false 3 (Mp zG ([(⟨(1:Int),([116,49]:List Int),(0:Int)⟩:z0)]:List z0)),.sl false 2 (Mp zC ([(⟨(0:Int),(0:Int)⟩:zU)]:List zU)),.nilsl],.sl false 4 (Mp zA ([r_1,r_2]:List zB))]:List AV) (ac (rfl:([]:List zW)=[]) (ac (zBg (args':=[yU (⟨([(⟨(1:Int),([116,49]:List Int),(0:Int)⟩:z0)]:List z0),([(⟨(0:Int),(0:Int)⟩:zU)]:List zU),[]⟩:zL),.sl false 4 (Mp zA ([r_1,r_2]:List zB))]) (zDw F (⟨([(⟨(1:Int),([116,49]:List Int),(0:Int)⟩:z0)]:List z0),([(⟨(0:Int),(0:Int)⟩:zU)]:List zU),[]⟩:zL) ([r_1,r_2]:List zB) r_3 h_3) rfl ⟨rfl,rfl,rfl,rfl,rfl,rfl,rfl,rfl,rfl,rfl,trivial⟩:zV prog 10 [] [] [.agg [.sl false 3 (Mp zG ([(⟨(1:Int),([116,49]:List Int),(0:Int)⟩:z0)]:List z0)),.sl false 2 (Mp zC ([(⟨(0:Int),(0:Int)⟩:zU)]:List zU)),.nilsl],.sl false 4 (Mp zA ([r_1,r_2]:List zB))] [] (.tuple [z4 r_3.1,Ii r_3.2])) an)))))))))))) ?_
 refine sq ?_
 obtain ⟨r_4,h_4,h⟩:=bind_some h
 obtain ⟨r_5,h_5,h⟩:=bind_some h
 refine rg [(1,{ id:=5 }),(2,{ av:=zA r_4,frz:=[5],l:=[Ii 3,Ii 3,.sl false 1 (Mi ([(5:Int)]:List Int))] }),(3,{ id:=6 }),(4,{ av:=.tuple [z4 r_5.1,Ii r_5.2],frz:=[6],l:=[.agg [.sl false 3 (Mp zG ([(⟨(1:Int),([116,49]:List Int),(0:Int)⟩:z0)]:List z0)),.sl false 2 (Mp zC ([(⟨(0:Int),(0:Int)⟩:zU)]:List zU)),.nilsl],.sl false 4 (Mp zA ([r_4]:List zB))] }),(8,{ id:=7 })] [1,2,3,4,5] [0,4,7] 8 [Pp 0,Pp 4,Ii r_3.2,Pp 7,Ii r_5.2] [Vb 26 [.sl false 3 (Mp zG ([(⟨(1:Int),([116,49]:List Int),(0:Int)⟩:z0)]:List z0)),.sl false 2 (Mp zC ([(⟨(0:Int),(0:Int)⟩:zU)]:List zU)),.nilsl],Vb 31 (yB r_3.1),Vb 31 (yB r_5.1)] zF (ac (by first | (simp;done) | (simp;omega):1=((List.map (AV.int .i64) ([(5:Int)]:List Int))).length) (ar ([Ii 3,Ii 3,.sl false 1 (Mi ([(5:Int)]:List Int))]:List AV) (ac (rfl:([]:List zW)=[]) (ac (zBI F (3:Int) (3:Int) ([(5:Int)]:List Int) r_4 h_4:zV prog 26 [] [] [Ii 3,Ii 3,.sl false 1 (Mi ([(5:Int)]:List Int))] [] (zA r_4)) (ac (by first | (simp;done) | (simp;omega):1=((List.map zA ([r_4]:List zB))).length) (ar ([.agg [.sl false 3 (Mp zG ([(⟨(1:Int),([116,49]:List Int),(0:Int)⟩:z0)]:List z0)),.sl false 2 (Mp zC ([(⟨(0:Int),(0:Int)⟩:zU)]:List zU)),.nilsl],.sl false 4 (Mp zA ([r_4]:List zB))]:List AV) (ac (rfl:([]:List zW)=[]) (ac (zBg (args':=[yU (⟨([(⟨(1:Int),([116,49]:List Int),(0:Int)⟩:z0)]:List z0),([(⟨(0:Int),(0:Int)⟩:zU)]:List zU),[]⟩:zL),.sl false 4 (Mp zA ([r_4]:List zB))]) (zDw F (⟨([(⟨(1:Int),([116,49]:List Int),(0:Int)⟩:z0)]:List z0),([(⟨(0:Int),(0:Int)⟩:zU)]:List zU),[]⟩:zL) ([r_4]:List zB) r_5 h_5) rfl ⟨rfl,rfl,rfl,rfl,rfl,rfl,rfl,rfl,rfl,rfl,trivial⟩:zV prog 10 [] [] [.agg [.sl false 3 (Mp zG ([(⟨(1:Int),([116,49]:List Int),(0:Int)⟩:z0)]:List z0)),.sl false 2 (Mp zC ([(⟨(0:Int),(0:Int)⟩:zU)]:List zU)),.nilsl],.sl false 4 (Mp zA ([r_4]:List zB))] [] (.tuple [z4 r_5.1,Ii r_5.2])) an)))))))) ?_
 refine sq ?_
 obtain ⟨r_6,h_6,h⟩:=bind_some h
 obtain ⟨r_7,h_7,h⟩:=bind_some h
 refine rg [(1,{ id:=8 }),(2,{ av:=zA r_6,frz:=[8],l:=[Ii 3,Ii 2,.sl false 1 (Mi ([(5:Int)]:List Int))] }),(3,{ id:=9 }),(4,{ av:=.tuple [z4 r_7.1,Ii r_7.2],frz:=[9],l:=[.agg [.sl false 3 (Mp zG ([(⟨(1:Int),([116,49]:List Int),(0:Int)⟩:z0)]:List z0)),.sl false 2 (Mp zC ([(⟨(0:Int),(0:Int)⟩:zU)]:List zU)),.nilsl],.sl false 4 (Mp zA ([r_6]:List zB))] }),(8,{ id:=10 })] [2,3,4,5,7] [4,7] 11 [Pp 4,Ii r_3.2,Pp 7,Ii r_5.2,Ii r_7.2] [Vb 31 (yB r_3.1),Vb 31 (yB r_5.1)] zF (ac (by first | (simp;done) | (simp;omega):1=((List.map (AV.int .i64) ([(5:Int)]:List Int))).length) (ar ([Ii 3,Ii 2,.sl false 1 (Mi ([(5:Int)]:List Int))]:List AV) (ac (rfl:([]:List zW)=[]) (ac (zBI F (3:Int) (2:Int) ([(5:Int)]:List Int) r_6 h_6:zV prog 26 [] [] [Ii 3,Ii 2,.sl false 1 (Mi ([(5:Int)]:List Int))] [] (zA r_6)) (ac (by first | (simp;done) | (simp;omega):1=((List.map zA ([r_6]:List zB))).length) (ar ([.agg [.sl false 3 (Mp zG ([(⟨(1:Int),([116,49]:List Int),(0:Int)⟩:z0)]:List z0)),.sl false 2 (Mp zC ([(⟨(0:Int),(0:Int)⟩:zU)]:List zU)),.nilsl],.sl false 4 (Mp zA ([r_6]:List zB))]:List AV) (ac (rfl:([]:List zW)=[]) (ac (zBg (args':=[yU (⟨([(⟨(1:Int),([116,49]:List Int),(0:Int)⟩:z0)]:List z0),([(⟨(0:Int),(0:Int)⟩:zU)]:List zU),[]⟩:zL),.sl false 4 (Mp zA ([r_6]:List zB))]) (zDw F (⟨([(⟨(1:Int),([116,49]:List Int),(0:Int)⟩:z0)]:List z0),([(⟨(0:Int),(0:Int)⟩:zU)]:List zU),[]⟩:zL) ([r_6]:List zB) r_7 h_7) rfl ⟨rfl,rfl,rfl,rfl,rfl,rfl,rfl,rfl,rfl,rfl,trivial⟩:zV prog 10 [] [] [.agg [.sl false 3 (Mp zG ([(⟨(1:Int),([116,49]:List Int),(0:Int)⟩:z0)]:List z0)),.sl false 2 (Mp zC ([(⟨(0:Int),(0:Int)⟩:zU)]:List zU)),.nilsl],.sl false 4 (Mp zA ([r_6]:List zB))] [] (.tuple [z4 r_7.1,Ii r_7.2])) an)))))))) ?_
 refine sq ?_
 obtain ⟨r_8,h_8,h⟩:=bind_some h
 refine rg [(1,{ av:=.own 0 ((r_8).length),ids:=[11],l:=[z4 r_5.1],post:=[(.row 50 3 (Mp z9 r_8))] })] [2,3,5,7,8] [4,11] 12 [Pp 4,Ii r_3.2,Ii r_5.2,Ii r_7.2,.own 11 ((r_8).length)] [Vb 31 (yB r_3.1),Rb 50 3 (Mp z9 r_8)] zF (ar ([z4 r_5.1]:List AV) (ac (rfl:([]:List zW)=[]) (ac (zGp F r_5.1 r_8 h_8:zV prog 18 [] [] [z4 r_5.1] [(.row 50 3 (Mp z9 r_8))] (.own 0 ((r_8).length))) an))) ?_
 refine sq ?_
 obtain ⟨r_9,h_9,h⟩:=bind_some h
 refine rg [(2,{ av:=.tuple [zD r_9.1,.bool r_9.2],l:=[z4 r_3.1,.agg [Ii 1,Ii 3]] }),(6,{ id:=12 })] [2,3,5,7,8,9,10] [4,11,12] 13 [Pp 4,Ii r_3.2,Ii r_5.2,Ii r_7.2,.own 11 ((r_8).length),Pp 12,.bool r_9.2] [Vb 31 (yB r_3.1),Rb 50 3 (Mp z9 r_8),Vb 42 (zT r_9.1)] zF (ar ([z4 r_3.1,.agg [Ii 1,Ii 3]]:List AV) (ac (rfl:([]:List zW)=[]) (ac (zBg (args':=[z4 r_3.1,yA (⟨(1:Int),(3:Int)⟩:z6)]) (zHA F r_3.1 (⟨(1:Int),(3:Int)⟩:z6) r_9 h_9) rfl ⟨rfl,rfl,rfl,rfl,rfl,rfl,rfl,rfl,rfl,rfl,rfl,rfl,rfl,rfl,trivial⟩:zV prog 16 [] [] [z4 r_3.1,.agg [Ii 1,Ii 3]] [] (.tuple [zD r_9.1,.bool r_9.2])) an))) ?_
 refine sq ?_
 obtain ⟨p_1,zEV,h⟩:=bind_some h
 refine y4 (mk [(0,.bool p_1)] [] 0) ?_ ?_
 ·replace h:=zEV
  rcases bft (r_3.2==(0:Int)) with zH | zH
  ·replace h:=zR zH h
   rcases bft ((lN (r_3.1.Parts))==(1:Int)) with zJ | zJ
   ·replace h:=zR zJ h
    obtain ⟨x_1,tT,h⟩:=bind_some h
    rcases bft ((lN (x_1.Events))==(4:Int)) with zO | zO
    ·replace h:=zR zO h
     rcases bft (r_5.2==(0:Int)) with zS | zS
     ·replace h:=zR zS h
      rcases bft ((lN (r_8))==(1:Int)) with yE | yE
      ·replace h:=zR yE h
       obtain ⟨x_2,tU,h⟩:=bind_some h
       rcases bft (decide (x_2=(⟨(1:Int),(0:Int),(3:Int)⟩:yC))) with yZ | yZ
       ·replace h:=zR yZ h
        rcases bft (r_7.2==(11:Int)) with yQ | yQ
        ·replace h:=zR yQ h
         rcases Bool.eq_false_or_eq_true r_9.2 with yS | yS
         ·replace h:=zR yS h
          rcases bft (r_9.1.At==(3:Int)) with xW | xW
          ·replace h:=zR xW h
           obtain ⟨wS,zCd,h⟩:=bind_some h
           refine rg [(5,{ n:=(r_3.1.Parts).length }),(7,Ht),(11,{ av:=zA x_1 }),(14,{ n:=(x_1.Events).length }),(16,Ht),(20,Ht),(25,Ht),(29,{ av:=z9 x_2 }),(31,{ b:=(decide (x_2=(⟨(1:Int),(0:Int),(3:Int)⟩:yC))),mks:=[.int .i64,.int .i64,.int .i64] }),(32,Ht),(36,Ht),(39,Ht),(44,Ht),(47,{ av:=Ii wS,l:=[z4 r_3.1] }),(49,Ht)] [0] [] 13 [.bool (wS==(0:Int))] [] zF (ac zH (ac zH (ac zH (ac (yF _:((Mp zA r_3.1.Parts)).length=(r_3.1.Parts).length) (ac zH (ac zH (ac zJ (ac zJ (ac zJ (ac (yR tT:xJ (Mp zA r_3.1.Parts) (0:Int)=some (zA x_1)) (ac zJ (ac zJ (ac zJ (ac (yF _:((Mp zD x_1.Events)).length=(x_1.Events).length) (ac zJ (ac zJ (ac zO (ac zO (ac zO (ac zS (ac zS (ac zS (ac zS (ac yE (ac yE (ac (pT tU:(0:Int)≤(0:Int)) (ac (by first | (simp;done) | simpa using pK tU:(0:Int)<(((r_8).length:Nat):Int)) (ac yE (ac (zAl tU:(Mp z9 r_8)[0]?=some (z9 x_2)) (ac yE (ac yE (ac (zCV:jG prog 50 [.int .i64,.int .i64,.int .i64]) (ac (kC (f:=z9) j9 x_2 (⟨(1:Int),(0:Int),(3:Int)⟩:yC):((decide (x_2=(⟨(1:Int),(0:Int),(3:Int)⟩:yC)))=true↔AV.agg [Ii x_2.Thread,Ii x_2.Serial,Ii x_2.Count]=AV.agg [Ii 1,Ii 0,Ii 3])) (ac yE (ac yZ (ac yZ (ac yZ (ac yQ (ac yQ (ac yS (ac yS (ac yS (ac yS (ac xW (ac xW (ar ([z4 r_3.1]:List AV) (ac (rfl:([]:List zW)=[]) (ac (pU F r_3.1 wS zCd:zV prog 14 [] [] [z4 r_3.1] [] (Ii wS)) (ac xW (ac xW an)))))))))))))))))))))))))))))))))))))))))))))))))) ?_
           cases h
           exact ⟨rfl,(sw [] [] [.s 0] [] an)⟩
          ·replace h:=zQ xW h
           refine rg [(5,{ n:=(r_3.1.Parts).length }),(7,Ht),(11,{ av:=zA x_1 }),(14,{ n:=(x_1.Events).length }),(16,Ht),(20,Ht),(25,Ht),(29,{ av:=z9 x_2 }),(31,{ b:=(decide (x_2=(⟨(1:Int),(0:Int),(3:Int)⟩:yC))),mks:=[.int .i64,.int .i64,.int .i64] }),(32,Ht),(36,Ht),(39,Ht),(44,Ht),(46,Hg),(47,Hg),(48,Hg),(49,Hf)] [0] [] 13 [.bool false] [] zF (ac zH (ac zH (ac zH (ac (yF _:((Mp zA r_3.1.Parts)).length=(r_3.1.Parts).length) (ac zH (ac zH (ac zJ (ac zJ (ac zJ (ac (yR tT:xJ (Mp zA r_3.1.Parts) (0:Int)=some (zA x_1)) (ac zJ (ac zJ (ac zJ (ac (yF _:((Mp zD x_1.Events)).length=(x_1.Events).length) (ac zJ (ac zJ (ac zO (ac zO (ac zO (ac zS (ac zS (ac zS (ac zS (ac yE (ac yE (ac (pT tU:(0:Int)≤(0:Int)) (ac (by first | (simp;done) | simpa using pK tU:(0:Int)<(((r_8).length:Nat):Int)) (ac yE (ac (zAl tU:(Mp z9 r_8)[0]?=some (z9 x_2)) (ac yE (ac yE (ac (zCV:jG prog 50 [.int .i64,.int .i64,.int .i64]) (ac (kC (f:=z9) j9 x_2 (⟨(1:Int),(0:Int),(3:Int)⟩:yC):((decide (x_2=(⟨(1:Int),(0:Int),(3:Int)⟩:yC)))=true↔AV.agg [Ii x_2.Thread,Ii x_2.Serial,Ii x_2.Count]=AV.agg [Ii 1,Ii 0,Ii 3])) (ac yE (ac yZ (ac yZ (ac yZ (ac yQ (ac yQ (ac yS (ac yS (ac yS (ac yS (ac xW (ac xW (ac xW (ac xW an))))))))))))))))))))))))))))))))))))))))))))))) ?_
           cases h
           exact ⟨rfl,(sw [] [] [.s 0] [] an)⟩
         ·replace h:=zQ yS h
          refine rg [(5,{ n:=(r_3.1.Parts).length }),(7,Ht),(11,{ av:=zA x_1 }),(14,{ n:=(x_1.Events).length }),(16,Ht),(20,Ht),(25,Ht),(29,{ av:=z9 x_2 }),(31,{ b:=(decide (x_2=(⟨(1:Int),(0:Int),(3:Int)⟩:yC))),mks:=[.int .i64,.int .i64,.int .i64] }),(32,Ht),(36,Ht),(39,Ht),(41,Hg),(42,Hg),(43,Hg),(44,Hf),(46,Hg),(47,Hg),(48,Hg),(49,Hf)] [0] [] 13 [.bool false] [] zF (ac zH (ac zH (ac zH (ac (yF _:((Mp zA r_3.1.Parts)).length=(r_3.1.Parts).length) (ac zH (ac zH (ac zJ (ac zJ (ac zJ (ac (yR tT:xJ (Mp zA r_3.1.Parts) (0:Int)=some (zA x_1)) (ac zJ (ac zJ (ac zJ (ac (yF _:((Mp zD x_1.Events)).length=(x_1.Events).length) (ac zJ (ac zJ (ac zO (ac zO (ac zO (ac zS (ac zS (ac zS (ac zS (ac yE (ac yE (ac (pT tU:(0:Int)≤(0:Int)) (ac (by first | (simp;done) | simpa using pK tU:(0:Int)<(((r_8).length:Nat):Int)) (ac yE (ac (zAl tU:(Mp z9 r_8)[0]?=some (z9 x_2)) (ac yE (ac yE (ac (zCV:jG prog 50 [.int .i64,.int .i64,.int .i64]) (ac (kC (f:=z9) j9 x_2 (⟨(1:Int),(0:Int),(3:Int)⟩:yC):((decide (x_2=(⟨(1:Int),(0:Int),(3:Int)⟩:yC)))=true↔AV.agg [Ii x_2.Thread,Ii x_2.Serial,Ii x_2.Count]=AV.agg [Ii 1,Ii 0,Ii 3])) (ac yE (ac yZ (ac yZ (ac yZ (ac yQ (ac yQ (ac yS (ac yS (ac yS (ac yS (ac (rfl:false=!true) (ac (rfl:false=!true) (ac (rfl:false=!true) (ar false an))))))))))))))))))))))))))))))))))))))))))))))) ?_
          cases h
          exact ⟨rfl,(sw [] [] [.s 0] [] an)⟩
        ·replace h:=zQ yQ h
         refine rg [(5,{ n:=(r_3.1.Parts).length }),(7,Ht),(11,{ av:=zA x_1 }),(14,{ n:=(x_1.Events).length }),(16,Ht),(20,Ht),(25,Ht),(29,{ av:=z9 x_2 }),(31,{ b:=(decide (x_2=(⟨(1:Int),(0:Int),(3:Int)⟩:yC))),mks:=[.int .i64,.int .i64,.int .i64] }),(32,Ht),(36,Ht),(38,Hg),(39,Hf),(41,Hg),(42,Hg),(43,Hg),(44,Hf),(46,Hg),(47,Hg),(48,Hg),(49,Hf)] [0] [] 13 [.bool false] [] zF (ac zH (ac zH (ac zH (ac (yF _:((Mp zA r_3.1.Parts)).length=(r_3.1.Parts).length) (ac zH (ac zH (ac zJ (ac zJ (ac zJ (ac (yR tT:xJ (Mp zA r_3.1.Parts) (0:Int)=some (zA x_1)) (ac zJ (ac zJ (ac zJ (ac (yF _:((Mp zD x_1.Events)).length=(x_1.Events).length) (ac zJ (ac zJ (ac zO (ac zO (ac zO (ac zS (ac zS (ac zS (ac zS (ac yE (ac yE (ac (pT tU:(0:Int)≤(0:Int)) (ac (by first | (simp;done) | simpa using pK tU:(0:Int)<(((r_8).length:Nat):Int)) (ac yE (ac (zAl tU:(Mp z9 r_8)[0]?=some (z9 x_2)) (ac yE (ac yE (ac (zCV:jG prog 50 [.int .i64,.int .i64,.int .i64]) (ac (kC (f:=z9) j9 x_2 (⟨(1:Int),(0:Int),(3:Int)⟩:yC):((decide (x_2=(⟨(1:Int),(0:Int),(3:Int)⟩:yC)))=true↔AV.agg [Ii x_2.Thread,Ii x_2.Serial,Ii x_2.Count]=AV.agg [Ii 1,Ii 0,Ii 3])) (ac yE (ac yZ (ac yZ (ac yZ (ac yQ (ac yQ (ac (rfl:false=!true) (ac (rfl:false=!true) (ac (rfl:false=!true) (ar false (ac (rfl:false=!true) (ac (rfl:false=!true) (ac (rfl:false=!true) (ar false an))))))))))))))))))))))))))))))))))))))))))))))) ?_
         cases h
         exact ⟨rfl,(sw [] [] [.s 0] [] an)⟩
       ·replace h:=zQ yZ h
        refine rg [(5,{ n:=(r_3.1.Parts).length }),(7,Ht),(11,{ av:=zA x_1 }),(14,{ n:=(x_1.Events).length }),(16,Ht),(20,Ht),(25,Ht),(29,{ av:=z9 x_2 }),(31,{ b:=(decide (x_2=(⟨(1:Int),(0:Int),(3:Int)⟩:yC))),mks:=[.int .i64,.int .i64,.int .i64] }),(32,Ht),(34,Hg),(35,Hg),(36,Hf),(38,Hg),(39,Hf),(41,Hg),(42,Hg),(43,Hg),(44,Hf),(46,Hg),(47,Hg),(48,Hg),(49,Hf)] [0] [] 13 [.bool false] [] zF (ac zH (ac zH (ac zH (ac (yF _:((Mp zA r_3.1.Parts)).length=(r_3.1.Parts).length) (ac zH (ac zH (ac zJ (ac zJ (ac zJ (ac (yR tT:xJ (Mp zA r_3.1.Parts) (0:Int)=some (zA x_1)) (ac zJ (ac zJ (ac zJ (ac (yF _:((Mp zD x_1.Events)).length=(x_1.Events).length) (ac zJ (ac zJ (ac zO (ac zO (ac zO (ac zS (ac zS (ac zS (ac zS (ac yE (ac yE (ac (pT tU:(0:Int)≤(0:Int)) (ac (by first | (simp;done) | simpa using pK tU:(0:Int)<(((r_8).length:Nat):Int)) (ac yE (ac (zAl tU:(Mp z9 r_8)[0]?=some (z9 x_2)) (ac yE (ac yE (ac (zCV:jG prog 50 [.int .i64,.int .i64,.int .i64]) (ac (kC (f:=z9) j9 x_2 (⟨(1:Int),(0:Int),(3:Int)⟩:yC):((decide (x_2=(⟨(1:Int),(0:Int),(3:Int)⟩:yC)))=true↔AV.agg [Ii x_2.Thread,Ii x_2.Serial,Ii x_2.Count]=AV.agg [Ii 1,Ii 0,Ii 3])) (ac yE (ac yZ (ac yZ (ac yZ (ac (rfl:false=!true) (ar false (ac (rfl:false=!true) (ac (rfl:false=!true) (ac (rfl:false=!true) (ar false (ac (rfl:false=!true) (ac (rfl:false=!true) (ac (rfl:false=!true) (ar false an))))))))))))))))))))))))))))))))))))))))))))))) ?_
        cases h
        exact ⟨rfl,(sw [] [] [.s 0] [] an)⟩
      ·replace h:=zQ yE h
       refine rg [(5,{ n:=(r_3.1.Parts).length }),(7,Ht),(11,{ av:=zA x_1 }),(14,{ n:=(x_1.Events).length }),(16,Ht),(20,Ht),(25,Ht),(27,Hg),(28,Hg),(29,Hg),(30,Hg),(31,Hg),(32,Hf),(34,Hg),(35,Hg),(36,Hf),(38,Hg),(39,Hf),(41,Hg),(42,Hg),(43,Hg),(44,Hf),(46,Hg),(47,Hg),(48,Hg),(49,Hf)] [0] [] 13 [.bool false] [] zF (ac zH (ac zH (ac zH (ac (yF _:((Mp zA r_3.1.Parts)).length=(r_3.1.Parts).length) (ac zH (ac zH (ac zJ (ac zJ (ac zJ (ac (yR tT:xJ (Mp zA r_3.1.Parts) (0:Int)=some (zA x_1)) (ac zJ (ac zJ (ac zJ (ac (yF _:((Mp zD x_1.Events)).length=(x_1.Events).length) (ac zJ (ac zJ (ac zO (ac zO (ac zO (ac zS (ac zS (ac zS (ac zS (ac yE (ac yE (ac yE (ac yE (ac yE (ac yE (ac (rfl:false=!true) (ac (rfl:false=!true) (ar false (ac (rfl:false=!true) (ar false (ac (rfl:false=!true) (ac (rfl:false=!true) (ac (rfl:false=!true) (ar false (ac (rfl:false=!true) (ac (rfl:false=!true) (ac (rfl:false=!true) (ar false an)))))))))))))))))))))))))))))))))))))))))) ?_
       cases h
       exact ⟨rfl,(sw [] [] [.s 0] [] an)⟩
     ·replace h:=zQ zS h
      refine rg [(5,{ n:=(r_3.1.Parts).length }),(7,Ht),(11,{ av:=zA x_1 }),(14,{ n:=(x_1.Events).length }),(16,Ht),(20,Ht),(22,Hg),(23,Hg),(24,Hg),(25,Hf),(27,Hg),(28,Hg),(29,Hg),(30,Hg),(31,Hg),(32,Hf),(34,Hg),(35,Hg),(36,Hf),(38,Hg),(39,Hf),(41,Hg),(42,Hg),(43,Hg),(44,Hf),(46,Hg),(47,Hg),(48,Hg),(49,Hf)] [0] [] 13 [.bool false] [] zF (ac zH (ac zH (ac zH (ac (yF _:((Mp zA r_3.1.Parts)).length=(r_3.1.Parts).length) (ac zH (ac zH (ac zJ (ac zJ (ac zJ (ac (yR tT:xJ (Mp zA r_3.1.Parts) (0:Int)=some (zA x_1)) (ac zJ (ac zJ (ac zJ (ac (yF _:((Mp zD x_1.Events)).length=(x_1.Events).length) (ac zJ (ac zJ (ac zO (ac zO (ac zO (ac zS (ac zS (ac zS (ac zS (ac (rfl:false=!true) (ac (rfl:false=!true) (ac (rfl:false=!true) (ac (rfl:false=!true) (ac (rfl:false=!true) (ar false (ac (rfl:false=!true) (ac (rfl:false=!true) (ar false (ac (rfl:false=!true) (ar false (ac (rfl:false=!true) (ac (rfl:false=!true) (ac (rfl:false=!true) (ar false (ac (rfl:false=!true) (ac (rfl:false=!true) (ac (rfl:false=!true) (ar false an)))))))))))))))))))))))))))))))))))))))))) ?_
      cases h
      exact ⟨rfl,(sw [] [] [.s 0] [] an)⟩
    ·replace h:=zQ zO h
     refine rg [(5,{ n:=(r_3.1.Parts).length }),(7,Ht),(11,{ av:=zA x_1 }),(14,{ n:=(x_1.Events).length }),(16,Ht),(18,Hg),(19,Hg),(20,Hf),(22,Hg),(23,Hg),(24,Hg),(25,Hf),(27,Hg),(28,Hg),(29,Hg),(30,Hg),(31,Hg),(32,Hf),(34,Hg),(35,Hg),(36,Hf),(38,Hg),(39,Hf),(41,Hg),(42,Hg),(43,Hg),(44,Hf),(46,Hg),(47,Hg),(48,Hg),(49,Hf)] [0] [] 13 [.bool false] [] zF (ac zH (ac zH (ac zH (ac (yF _:((Mp zA r_3.1.Parts)).length=(r_3.1.Parts).length) (ac zH (ac zH (ac zJ (ac zJ (ac zJ (ac (yR tT:xJ (Mp zA r_3.1.Parts) (0:Int)=some (zA x_1)) (ac zJ (ac zJ (ac zJ (ac (yF _:((Mp zD x_1.Events)).length=(x_1.Events).length) (ac zJ (ac zJ (ac zO (ac zO (ac zO (ac (rfl:false=!true) (ac (rfl:false=!true) (ac (rfl:false=!true) (ar false (ac (rfl:false=!true) (ac (rfl:false=!true) (ac (rfl:false=!true) (ac (rfl:false=!true) (ac (rfl:false=!true) (ar false (ac (rfl:false=!true) (ac (rfl:false=!true) (ar false (ac (rfl:false=!true) (ar false (ac (rfl:false=!true) (ac (rfl:false=!true) (ac (rfl:false=!true) (ar false (ac (rfl:false=!true) (ac (rfl:false=!true) (ac (rfl:false=!true) (ar false an)))))))))))))))))))))))))))))))))))))))))) ?_
     cases h
     exact ⟨rfl,(sw [] [] [.s 0] [] an)⟩
   ·replace h:=zQ zJ h
    refine rg [(5,{ n:=(r_3.1.Parts).length }),(7,Ht),(9,Hg),(10,Hg),(11,Hg),(12,Hg),(13,Hg),(14,Hg),(15,Hg),(16,Hf),(18,Hg),(19,Hg),(20,Hf),(22,Hg),(23,Hg),(24,Hg),(25,Hf),(27,Hg),(28,Hg),(29,Hg),(30,Hg),(31,Hg),(32,Hf),(34,Hg),(35,Hg),(36,Hf),(38,Hg),(39,Hf),(41,Hg),(42,Hg),(43,Hg),(44,Hf),(46,Hg),(47,Hg),(48,Hg),(49,Hf)] [0] [] 13 [.bool false] [] zF (ac zH (ac zH (ac zH (ac (yF _:((Mp zA r_3.1.Parts)).length=(r_3.1.Parts).length) (ac zH (ac zH (ac zJ (ac zJ (ac zJ (ac zJ (ac zJ (ac zJ (ac zJ (ac zJ (ac (rfl:false=!true) (ac (rfl:false=!true) (ar false (ac (rfl:false=!true) (ac (rfl:false=!true) (ac (rfl:false=!true) (ar false (ac (rfl:false=!true) (ac (rfl:false=!true) (ac (rfl:false=!true) (ac (rfl:false=!true) (ac (rfl:false=!true) (ar false (ac (rfl:false=!true) (ac (rfl:false=!true) (ar false (ac (rfl:false=!true) (ar false (ac (rfl:false=!true) (ac (rfl:false=!true) (ac (rfl:false=!true) (ar false (ac (rfl:false=!true) (ac (rfl:false=!true) (ac (rfl:false=!true) (ar false an)))))))))))))))))))))))))))))))))))))))) ?_
    cases h
    exact ⟨rfl,(sw [] [] [.s 0] [] an)⟩
  ·replace h:=zQ zH h
   refine rg [(3,Hg),(4,Hg),(5,Hg),(6,Hg),(7,Hf),(9,Hg),(10,Hg),(11,Hg),(12,Hg),(13,Hg),(14,Hg),(15,Hg),(16,Hf),(18,Hg),(19,Hg),(20,Hf),(22,Hg),(23,Hg),(24,Hg),(25,Hf),(27,Hg),(28,Hg),(29,Hg),(30,Hg),(31,Hg),(32,Hf),(34,Hg),(35,Hg),(36,Hf),(38,Hg),(39,Hf),(41,Hg),(42,Hg),(43,Hg),(44,Hf),(46,Hg),(47,Hg),(48,Hg),(49,Hf)] [0] [] 13 [.bool false] [] zF (ac zH (ac zH (ac zH (ac zH (ac zH (ac (rfl:false=!true) (ac (rfl:false=!true) (ac (rfl:false=!true) (ac (rfl:false=!true) (ac (rfl:false=!true) (ac (rfl:false=!true) (ac (rfl:false=!true) (ar false (ac (rfl:false=!true) (ac (rfl:false=!true) (ar false (ac (rfl:false=!true) (ac (rfl:false=!true) (ac (rfl:false=!true) (ar false (ac (rfl:false=!true) (ac (rfl:false=!true) (ac (rfl:false=!true) (ac (rfl:false=!true) (ac (rfl:false=!true) (ar false (ac (rfl:false=!true) (ac (rfl:false=!true) (ar false (ac (rfl:false=!true) (ar false (ac (rfl:false=!true) (ac (rfl:false=!true) (ac (rfl:false=!true) (ar false (ac (rfl:false=!true) (ac (rfl:false=!true) (ac (rfl:false=!true) (ar false an))))))))))))))))))))))))))))))))))))))) ?_
   cases h
   exact ⟨rfl,(sw [] [] [.s 0] [] an)⟩
 refine rt ?_
 cases h
 exact ⟨.inr rfl,Nat.le_of_ble_eq_true rfl,by kernel_rfl⟩
theorem zJc (F:Nat) (c_1:Int) (r:Bool) (h:zBL F c_1=some r):zV prog 78 [] [] [Iu c_1] [] (.bool r):=by
 refine yG (fn:=Go.Proofs.Try.f78) (code:=xC Go.Proofs.Try.f78) (by kernel_rfl) (by kernel_rfl) (Nat.le_of_ble_eq_true (by kernel_rfl)) ?_
 unfold zBL at h
 refine sr [] [0] [] 0 [Iu c_1] [] zF an ?_
 refine sq ?_
 refine sq ?_
 refine y4 (mk [(0,Iu c_1),(26,.bool (bif decide (c_1≥(97:Int)) then (decide (c_1≤(122:Int))||(bif decide (c_1≥(65:Int)) then (decide (c_1≤(90:Int))||(decide (c_1≥(48:Int))&&decide (c_1≤(57:Int)))) else (decide (c_1≥(48:Int))&&decide (c_1≤(57:Int))))) else (bif decide (c_1≥(65:Int)) then (decide (c_1≤(90:Int))||(decide (c_1≥(48:Int))&&decide (c_1≤(57:Int)))) else (decide (c_1≥(48:Int))&&decide (c_1≤(57:Int))))))] [] 0) ?_ ?_
 ·rcases bft (decide (c_1≥(97:Int))) with zH | zH
  ·rcases bft (decide (c_1≤(122:Int))) with zJ | zJ
   ·refine rg [(5,Ht),(7,Hg),(8,Hg),(9,Hg),(12,Hg),(13,Ht),(15,Hg),(16,Hg),(17,Hg),(20,Hg),(21,Ht)] [0,26] [] 0 [Iu c_1,.bool true] [] zF (ac zH (ac zH (ac zH (ac zJ (ac zJ (ac zJ (ac zJ (ac zJ (ax (ax (ax (ax (ar true an))))))))))))) ?_
    exact ⟨rfl,(sw [] [] [.s 0,.a 26 (.bool (bif decide (c_1≥(97:Int)) then (decide (c_1≤(122:Int))||(bif decide (c_1≥(65:Int)) then (decide (c_1≤(90:Int))||(decide (c_1≥(48:Int))&&decide (c_1≤(57:Int)))) else (decide (c_1≥(48:Int))&&decide (c_1≤(57:Int))))) else (bif decide (c_1≥(65:Int)) then (decide (c_1≤(90:Int))||(decide (c_1≥(48:Int))&&decide (c_1≤(57:Int)))) else (decide (c_1≥(48:Int))&&decide (c_1≤(57:Int))))))] [] (ac (congrArg AV.bool (ctr zH (ort zJ)):(.bool true:AV)=.bool (bif decide (c_1≥(97:Int)) then (decide (c_1≤(122:Int))||(bif decide (c_1≥(65:Int)) then (decide (c_1≤(90:Int))||(decide (c_1≥(48:Int))&&decide (c_1≤(57:Int)))) else (decide (c_1≥(48:Int))&&decide (c_1≤(57:Int))))) else (bif decide (c_1≥(65:Int)) then (decide (c_1≤(90:Int))||(decide (c_1≥(48:Int))&&decide (c_1≤(57:Int)))) else (decide (c_1≥(48:Int))&&decide (c_1≤(57:Int)))))) an))⟩
   ·rcases bft (decide (c_1≥(65:Int))) with zO | zO
    ·rcases bft (decide (c_1≤(90:Int))) with zS | zS
     ·refine rg [(5,Ht),(12,Ht),(13,Hf),(15,Hg),(16,Hg),(17,Hg),(20,Hg),(21,Ht)] [0,26] [] 0 [Iu c_1,.bool true] [] zF (ac zH (ac zH (ac zH (ac zJ (ac zJ (ac zJ (ac zO (ac zO (ac zJ (ac zO (ac zJ (ac zS (ac zS (ac zS (ac zS (ac zS an)))))))))))))))) ?_
      exact ⟨rfl,(sw [] [] [.s 0,.a 26 (.bool (bif decide (c_1≥(97:Int)) then (decide (c_1≤(122:Int))||(bif decide (c_1≥(65:Int)) then (decide (c_1≤(90:Int))||(decide (c_1≥(48:Int))&&decide (c_1≤(57:Int)))) else (decide (c_1≥(48:Int))&&decide (c_1≤(57:Int))))) else (bif decide (c_1≥(65:Int)) then (decide (c_1≤(90:Int))||(decide (c_1≥(48:Int))&&decide (c_1≤(57:Int)))) else (decide (c_1≥(48:Int))&&decide (c_1≤(57:Int))))))] [] (ac (congrArg AV.bool (ctr zH (orf zJ (ctr zO (ort zS)))):(.bool true:AV)=.bool (bif decide (c_1≥(97:Int)) then (decide (c_1≤(122:Int))||(bif decide (c_1≥(65:Int)) then (decide (c_1≤(90:Int))||(decide (c_1≥(48:Int))&&decide (c_1≤(57:Int)))) else (decide (c_1≥(48:Int))&&decide (c_1≤(57:Int))))) else (bif decide (c_1≥(65:Int)) then (decide (c_1≤(90:Int))||(decide (c_1≥(48:Int))&&decide (c_1≤(57:Int)))) else (decide (c_1≥(48:Int))&&decide (c_1≤(57:Int)))))) an))⟩
     ·rcases bft (decide (c_1≥(48:Int))) with yE | yE
      ·refine rg [(5,Ht),(12,Ht),(13,Hf),(20,Ht),(21,Hf)] [0,26] [] 0 [Iu c_1,.bool (decide (c_1≤(57:Int)))] [] zF (ac zH (ac zH (ac zH (ac zJ (ac zJ (ac zJ (ac zO (ac zO (ac zJ (ac zO (ac zJ (ac zS (ac zS (ac zS (ac yE (ac yE (ac zS (ac yE (ac zS an))))))))))))))))))) ?_
       exact ⟨rfl,(sw [] [] [.s 0,.a 26 (.bool (bif decide (c_1≥(97:Int)) then (decide (c_1≤(122:Int))||(bif decide (c_1≥(65:Int)) then (decide (c_1≤(90:Int))||(decide (c_1≥(48:Int))&&decide (c_1≤(57:Int)))) else (decide (c_1≥(48:Int))&&decide (c_1≤(57:Int))))) else (bif decide (c_1≥(65:Int)) then (decide (c_1≤(90:Int))||(decide (c_1≥(48:Int))&&decide (c_1≤(57:Int)))) else (decide (c_1≥(48:Int))&&decide (c_1≤(57:Int))))))] [] (ac (congrArg AV.bool (ctr zH (orf zJ (ctr zO (orf zS (uO yE rfl))))):(.bool (decide (c_1≤(57:Int))):AV)=.bool (bif decide (c_1≥(97:Int)) then (decide (c_1≤(122:Int))||(bif decide (c_1≥(65:Int)) then (decide (c_1≤(90:Int))||(decide (c_1≥(48:Int))&&decide (c_1≤(57:Int)))) else (decide (c_1≥(48:Int))&&decide (c_1≤(57:Int))))) else (bif decide (c_1≥(65:Int)) then (decide (c_1≤(90:Int))||(decide (c_1≥(48:Int))&&decide (c_1≤(57:Int)))) else (decide (c_1≥(48:Int))&&decide (c_1≤(57:Int)))))) an))⟩
      ·refine rg [(5,Ht),(12,Ht),(13,Hf),(18,Hg),(19,Hg),(20,Hf),(21,Hf)] [0,26] [] 0 [Iu c_1,.bool false] [] zF (ac zH (ac zH (ac zH (ac zJ (ac zJ (ac zJ (ac zO (ac zO (ac zJ (ac zO (ac zJ (ac zS (ac zS (ac zS (ac yE (ac yE (ac zS (ac yE (ac zS an))))))))))))))))))) ?_
       exact ⟨rfl,(sw [] [] [.s 0,.a 26 (.bool (bif decide (c_1≥(97:Int)) then (decide (c_1≤(122:Int))||(bif decide (c_1≥(65:Int)) then (decide (c_1≤(90:Int))||(decide (c_1≥(48:Int))&&decide (c_1≤(57:Int)))) else (decide (c_1≥(48:Int))&&decide (c_1≤(57:Int))))) else (bif decide (c_1≥(65:Int)) then (decide (c_1≤(90:Int))||(decide (c_1≥(48:Int))&&decide (c_1≤(57:Int)))) else (decide (c_1≥(48:Int))&&decide (c_1≤(57:Int))))))] [] (ac (congrArg AV.bool (ctr zH (orf zJ (ctr zO (orf zS (j0 yE))))):(.bool false:AV)=.bool (bif decide (c_1≥(97:Int)) then (decide (c_1≤(122:Int))||(bif decide (c_1≥(65:Int)) then (decide (c_1≤(90:Int))||(decide (c_1≥(48:Int))&&decide (c_1≤(57:Int)))) else (decide (c_1≥(48:Int))&&decide (c_1≤(57:Int))))) else (bif decide (c_1≥(65:Int)) then (decide (c_1≤(90:Int))||(decide (c_1≥(48:Int))&&decide (c_1≤(57:Int)))) else (decide (c_1≥(48:Int))&&decide (c_1≤(57:Int)))))) an))⟩
    ·rcases bft (decide (c_1≥(48:Int))) with yZ | yZ
     ·refine rg [(5,Ht),(10,Hg),(11,Hg),(12,Hf),(13,Hf),(20,Ht),(21,Hf)] [0,26] [] 0 [Iu c_1,.bool (decide (c_1≤(57:Int)))] [] zF (ac zH (ac zH (ac zH (ac zJ (ac zJ (ac zJ (ac zO (ac zO (ac zJ (ac zO (ac zJ (ar false (ar false (ar false (ac yZ (ac yZ (ar false (ac yZ (ar false an))))))))))))))))))) ?_
      exact ⟨rfl,(sw [] [] [.s 0,.a 26 (.bool (bif decide (c_1≥(97:Int)) then (decide (c_1≤(122:Int))||(bif decide (c_1≥(65:Int)) then (decide (c_1≤(90:Int))||(decide (c_1≥(48:Int))&&decide (c_1≤(57:Int)))) else (decide (c_1≥(48:Int))&&decide (c_1≤(57:Int))))) else (bif decide (c_1≥(65:Int)) then (decide (c_1≤(90:Int))||(decide (c_1≥(48:Int))&&decide (c_1≤(57:Int)))) else (decide (c_1≥(48:Int))&&decide (c_1≤(57:Int))))))] [] (ac (congrArg AV.bool (ctr zH (orf zJ (cfr zO (uO yZ rfl)))):(.bool (decide (c_1≤(57:Int))):AV)=.bool (bif decide (c_1≥(97:Int)) then (decide (c_1≤(122:Int))||(bif decide (c_1≥(65:Int)) then (decide (c_1≤(90:Int))||(decide (c_1≥(48:Int))&&decide (c_1≤(57:Int)))) else (decide (c_1≥(48:Int))&&decide (c_1≤(57:Int))))) else (bif decide (c_1≥(65:Int)) then (decide (c_1≤(90:Int))||(decide (c_1≥(48:Int))&&decide (c_1≤(57:Int)))) else (decide (c_1≥(48:Int))&&decide (c_1≤(57:Int)))))) an))⟩
     ·refine rg [(5,Ht),(10,Hg),(11,Hg),(12,Hf),(13,Hf),(18,Hg),(19,Hg),(20,Hf),(21,Hf)] [0,26] [] 0 [Iu c_1,.bool false] [] zF (ac zH (ac zH (ac zH (ac zJ (ac zJ (ac zJ (ac zO (ac zO (ac zJ (ac zO (ac zJ (ar false (ar false (ar false (ac yZ (ac yZ (ar false (ac yZ (ar false an))))))))))))))))))) ?_
      exact ⟨rfl,(sw [] [] [.s 0,.a 26 (.bool (bif decide (c_1≥(97:Int)) then (decide (c_1≤(122:Int))||(bif decide (c_1≥(65:Int)) then (decide (c_1≤(90:Int))||(decide (c_1≥(48:Int))&&decide (c_1≤(57:Int)))) else (decide (c_1≥(48:Int))&&decide (c_1≤(57:Int))))) else (bif decide (c_1≥(65:Int)) then (decide (c_1≤(90:Int))||(decide (c_1≥(48:Int))&&decide (c_1≤(57:Int)))) else (decide (c_1≥(48:Int))&&decide (c_1≤(57:Int))))))] [] (ac (congrArg AV.bool (ctr zH (orf zJ (cfr zO (j0 yZ)))):(.bool false:AV)=.bool (bif decide (c_1≥(97:Int)) then (decide (c_1≤(122:Int))||(bif decide (c_1≥(65:Int)) then (decide (c_1≤(90:Int))||(decide (c_1≥(48:Int))&&decide (c_1≤(57:Int)))) else (decide (c_1≥(48:Int))&&decide (c_1≤(57:Int))))) else (bif decide (c_1≥(65:Int)) then (decide (c_1≤(90:Int))||(decide (c_1≥(48:Int))&&decide (c_1≤(57:Int)))) else (decide (c_1≥(48:Int))&&decide (c_1≤(57:Int)))))) an))⟩
  ·rcases bft (decide (c_1≥(65:Int))) with yQ | yQ
   ·rcases bft (decide (c_1≤(90:Int))) with yS | yS
    ·refine rg [(3,Hg),(4,Hg),(5,Hf),(12,Ht),(13,Hf),(15,Hg),(16,Hg),(17,Hg),(20,Hg),(21,Ht)] [0,26] [] 0 [Iu c_1,.bool true] [] zF (ac zH (ac zH (ac zH (ar false (ar false (ar false (ac yQ (ac yQ (ar false (ac yQ (ar false (ac yS (ac yS (ac yS (ac yS (ac yS an)))))))))))))))) ?_
     exact ⟨rfl,(sw [] [] [.s 0,.a 26 (.bool (bif decide (c_1≥(97:Int)) then (decide (c_1≤(122:Int))||(bif decide (c_1≥(65:Int)) then (decide (c_1≤(90:Int))||(decide (c_1≥(48:Int))&&decide (c_1≤(57:Int)))) else (decide (c_1≥(48:Int))&&decide (c_1≤(57:Int))))) else (bif decide (c_1≥(65:Int)) then (decide (c_1≤(90:Int))||(decide (c_1≥(48:Int))&&decide (c_1≤(57:Int)))) else (decide (c_1≥(48:Int))&&decide (c_1≤(57:Int))))))] [] (ac (congrArg AV.bool (cfr zH (ctr yQ (ort yS))):(.bool true:AV)=.bool (bif decide (c_1≥(97:Int)) then (decide (c_1≤(122:Int))||(bif decide (c_1≥(65:Int)) then (decide (c_1≤(90:Int))||(decide (c_1≥(48:Int))&&decide (c_1≤(57:Int)))) else (decide (c_1≥(48:Int))&&decide (c_1≤(57:Int))))) else (bif decide (c_1≥(65:Int)) then (decide (c_1≤(90:Int))||(decide (c_1≥(48:Int))&&decide (c_1≤(57:Int)))) else (decide (c_1≥(48:Int))&&decide (c_1≤(57:Int)))))) an))⟩
    ·rcases bft (decide (c_1≥(48:Int))) with xW | xW
     ·refine rg [(3,Hg),(4,Hg),(5,Hf),(12,Ht),(13,Hf),(20,Ht),(21,Hf)] [0,26] [] 0 [Iu c_1,.bool (decide (c_1≤(57:Int)))] [] zF (ac zH (ac zH (ac zH (ar false (ar false (ar false (ac yQ (ac yQ (ar false (ac yQ (ar false (ac yS (ac yS (ac yS (ac xW (ac xW (ac yS (ac xW (ac yS an))))))))))))))))))) ?_
      exact ⟨rfl,(sw [] [] [.s 0,.a 26 (.bool (bif decide (c_1≥(97:Int)) then (decide (c_1≤(122:Int))||(bif decide (c_1≥(65:Int)) then (decide (c_1≤(90:Int))||(decide (c_1≥(48:Int))&&decide (c_1≤(57:Int)))) else (decide (c_1≥(48:Int))&&decide (c_1≤(57:Int))))) else (bif decide (c_1≥(65:Int)) then (decide (c_1≤(90:Int))||(decide (c_1≥(48:Int))&&decide (c_1≤(57:Int)))) else (decide (c_1≥(48:Int))&&decide (c_1≤(57:Int))))))] [] (ac (congrArg AV.bool (cfr zH (ctr yQ (orf yS (uO xW rfl)))):(.bool (decide (c_1≤(57:Int))):AV)=.bool (bif decide (c_1≥(97:Int)) then (decide (c_1≤(122:Int))||(bif decide (c_1≥(65:Int)) then (decide (c_1≤(90:Int))||(decide (c_1≥(48:Int))&&decide (c_1≤(57:Int)))) else (decide (c_1≥(48:Int))&&decide (c_1≤(57:Int))))) else (bif decide (c_1≥(65:Int)) then (decide (c_1≤(90:Int))||(decide (c_1≥(48:Int))&&decide (c_1≤(57:Int)))) else (decide (c_1≥(48:Int))&&decide (c_1≤(57:Int)))))) an))⟩
     ·refine rg [(3,Hg),(4,Hg),(5,Hf),(12,Ht),(13,Hf),(18,Hg),(19,Hg),(20,Hf),(21,Hf)] [0,26] [] 0 [Iu c_1,.bool false] [] zF (ac zH (ac zH (ac zH (ar false (ar false (ar false (ac yQ (ac yQ (ar false (ac yQ (ar false (ac yS (ac yS (ac yS (ac xW (ac xW (ac yS (ac xW (ac yS an))))))))))))))))))) ?_
      exact ⟨rfl,(sw [] [] [.s 0,.a 26 (.bool (bif decide (c_1≥(97:Int)) then (decide (c_1≤(122:Int))||(bif decide (c_1≥(65:Int)) then (decide (c_1≤(90:Int))||(decide (c_1≥(48:Int))&&decide (c_1≤(57:Int)))) else (decide (c_1≥(48:Int))&&decide (c_1≤(57:Int))))) else (bif decide (c_1≥(65:Int)) then (decide (c_1≤(90:Int))||(decide (c_1≥(48:Int))&&decide (c_1≤(57:Int)))) else (decide (c_1≥(48:Int))&&decide (c_1≤(57:Int))))))] [] (ac (congrArg AV.bool (cfr zH (ctr yQ (orf yS (j0 xW)))):(.bool false:AV)=.bool (bif decide (c_1≥(97:Int)) then (decide (c_1≤(122:Int))||(bif decide (c_1≥(65:Int)) then (decide (c_1≤(90:Int))||(decide (c_1≥(48:Int))&&decide (c_1≤(57:Int)))) else (decide (c_1≥(48:Int))&&decide (c_1≤(57:Int))))) else (bif decide (c_1≥(65:Int)) then (decide (c_1≤(90:Int))||(decide (c_1≥(48:Int))&&decide (c_1≤(57:Int)))) else (decide (c_1≥(48:Int))&&decide (c_1≤(57:Int)))))) an))⟩
   ·rcases bft (decide (c_1≥(48:Int))) with xK | xK
    ·refine rg [(3,Hg),(4,Hg),(5,Hf),(10,Hg),(11,Hg),(12,Hf),(13,Hf),(20,Ht),(21,Hf)] [0,26] [] 0 [Iu c_1,.bool (decide (c_1≤(57:Int)))] [] zF (ac zH (ac zH (ac zH (ar false (ar false (ar false (ac yQ (ac yQ (ar false (ac yQ (ar false (ar false (ar false (ar false (ac xK (ac xK (ar false (ac xK (ar false an))))))))))))))))))) ?_
     exact ⟨rfl,(sw [] [] [.s 0,.a 26 (.bool (bif decide (c_1≥(97:Int)) then (decide (c_1≤(122:Int))||(bif decide (c_1≥(65:Int)) then (decide (c_1≤(90:Int))||(decide (c_1≥(48:Int))&&decide (c_1≤(57:Int)))) else (decide (c_1≥(48:Int))&&decide (c_1≤(57:Int))))) else (bif decide (c_1≥(65:Int)) then (decide (c_1≤(90:Int))||(decide (c_1≥(48:Int))&&decide (c_1≤(57:Int)))) else (decide (c_1≥(48:Int))&&decide (c_1≤(57:Int))))))] [] (ac (congrArg AV.bool (cfr zH (cfr yQ (uO xK rfl))):(.bool (decide (c_1≤(57:Int))):AV)=.bool (bif decide (c_1≥(97:Int)) then (decide (c_1≤(122:Int))||(bif decide (c_1≥(65:Int)) then (decide (c_1≤(90:Int))||(decide (c_1≥(48:Int))&&decide (c_1≤(57:Int)))) else (decide (c_1≥(48:Int))&&decide (c_1≤(57:Int))))) else (bif decide (c_1≥(65:Int)) then (decide (c_1≤(90:Int))||(decide (c_1≥(48:Int))&&decide (c_1≤(57:Int)))) else (decide (c_1≥(48:Int))&&decide (c_1≤(57:Int)))))) an))⟩
    ·refine rg [(3,Hg),(4,Hg),(5,Hf),(10,Hg),(11,Hg),(12,Hf),(13,Hf),(18,Hg),(19,Hg),(20,Hf),(21,Hf)] [0,26] [] 0 [Iu c_1,.bool false] [] zF (ac zH (ac zH (ac zH (ar false (ar false (ar false (ac yQ (ac yQ (ar false (ac yQ (ar false (ar false (ar false (ar false (ac xK (ac xK (ar false (ac xK (ar false an))))))))))))))))))) ?_
     exact ⟨rfl,(sw [] [] [.s 0,.a 26 (.bool (bif decide (c_1≥(97:Int)) then (decide (c_1≤(122:Int))||(bif decide (c_1≥(65:Int)) then (decide (c_1≤(90:Int))||(decide (c_1≥(48:Int))&&decide (c_1≤(57:Int)))) else (decide (c_1≥(48:Int))&&decide (c_1≤(57:Int))))) else (bif decide (c_1≥(65:Int)) then (decide (c_1≤(90:Int))||(decide (c_1≥(48:Int))&&decide (c_1≤(57:Int)))) else (decide (c_1≥(48:Int))&&decide (c_1≤(57:Int))))))] [] (ac (congrArg AV.bool (cfr zH (cfr yQ (j0 xK))):(.bool false:AV)=.bool (bif decide (c_1≥(97:Int)) then (decide (c_1≤(122:Int))||(bif decide (c_1≥(65:Int)) then (decide (c_1≤(90:Int))||(decide (c_1≥(48:Int))&&decide (c_1≤(57:Int)))) else (decide (c_1≥(48:Int))&&decide (c_1≤(57:Int))))) else (bif decide (c_1≥(65:Int)) then (decide (c_1≤(90:Int))||(decide (c_1≥(48:Int))&&decide (c_1≤(57:Int)))) else (decide (c_1≥(48:Int))&&decide (c_1≤(57:Int)))))) an))⟩
 refine cd 26 (bif decide (c_1≥(97:Int)) then (decide (c_1≤(122:Int))||(bif decide (c_1≥(65:Int)) then (decide (c_1≤(90:Int))||(decide (c_1≥(48:Int))&&decide (c_1≤(57:Int)))) else (decide (c_1≥(48:Int))&&decide (c_1≤(57:Int))))) else (bif decide (c_1≥(65:Int)) then (decide (c_1≤(90:Int))||(decide (c_1≥(48:Int))&&decide (c_1≤(57:Int)))) else (decide (c_1≥(48:Int))&&decide (c_1≤(57:Int))))) ?_ ?_
 ·intro g_1;replace h:=zR g_1 h
  refine sr [] [2] [] 0 [.bool true] [] zF an ?_
  refine rt ?_
  cases h
  exact ⟨.inr rfl,Nat.le_of_ble_eq_true rfl,by kernel_rfl⟩
 intro g_1;replace h:=zQ g_1 h
 refine sk ?_
 refine sr [] [0,3] [] 0 [Iu c_1,.str ([95,46,58,47,60,62,36,42,126,45]:List Int)] [] zF an ?_
 refine sq ?_
 refine sr [] [0,3,4] [] 0 [Iu c_1,.str ([95,46,58,47,60,62,36,42,126,45]:List Int),Ii 0] [] zF an ?_
 obtain ⟨o_1,h_1,h⟩:=bind_some h
 refine wI (K1:=(fun e st'=>match o_1 with | (.inl q0)=>e=.normal∧Sub 0 st' (mk [] [] 0) | (.inr q1)=>e=.ret∧uE prog Go.Proofs.Try.f78 0 [] (.bool q1) st')) ?_ ?_
 ·replace h:=h_1
  refine yD (id:=0) (by kernel_rfl) ?_
  refine wk [] [] [.s 0,.s 3,.s 4] [] [(0,Iu c_1),(3,.str ([95,46,58,47,60,62,36,42,126,45]:List Int)),(4,Ii 0)] [] an ?_
  refine xI (fun n st=>∃ (i_1:Int),st=mk [(0,Iu c_1),(3,.str ([95,46,58,47,60,62,36,42,126,45]:List Int)),(4,Ii i_1)] [] 0∧qO F c_1 n i_1=some o_1) F (by kernel_rfl) ⟨_,rfl,h⟩ ?_ ?_
  ·rintro _ ⟨_,_,h⟩;exact xN (h:(none:Option (Unit⊕Bool))=some o_1)
  rintro n_1 _ ⟨i_1,rfl,h⟩
  replace h:u5 F c_1 (qO F c_1 n_1) i_1=some o_1:=h
  unfold u5 at h
  refine sq ?_
  refine sr [] [0,3,4,30] [] 0 [Iu c_1,.str ([95,46,58,47,60,62,36,42,126,45]:List Int),Ii i_1,.bool (decide (i_1<(lN (([95,46,58,47,60,62,36,42,126,45]:List Int)))))] [] zF an ?_
  refine cd 30 (decide (i_1<(lN (([95,46,58,47,60,62,36,42,126,45]:List Int))))) ?_ ?_
  rotate_left
  ·intro g_2;replace h:=zQ g_2 h
   refine xM (id:=0) (by kernel_rfl) ?_
   cases h
   exact ⟨rfl,(sw [] [] [] [] an)⟩
  intro g_2;replace h:=zR g_2 h
  refine sk ?_
  refine sq ?_
  refine yD (id:=1) (by kernel_rfl) ?_
  refine sq ?_
  obtain ⟨c_2,h_2,h⟩:=bind_some h
  refine rg [(2,{ z:=c_2 })] [0,3,4,37] [] 0 [Iu c_1,.str ([95,46,58,47,60,62,36,42,126,45]:List Int),Ii i_1,.bool (c_2==c_1)] [] zF (ac h_2 an) ?_
  refine cd 37 (c_2==c_1) ?_ ?_
  rotate_left
  ·intro g_3;replace h:=zQ g_3 h
   refine sk ?_
   refine rg [] [0,3,4] [] 0 [Iu c_1,.str ([95,46,58,47,60,62,36,42,126,45]:List Int),Ii (zP (i_1+(1:Int)))] [] zF an ?_
   exact ⟨_,(sw [] [] [.s 0,.s 3,.s 4] [] an),_,rfl,h⟩
  intro g_3;replace h:=zR g_3 h
  refine sr [] [2] [] 0 [.bool true] [] zF an ?_
  refine rt ?_
  cases h
  exact ⟨rfl,Nat.le_of_ble_eq_true rfl,by kernel_rfl⟩
 intro e st1 hk
 rcases o_1 with q_1 | q_2
 rotate_left
 ·obtain ⟨rfl,hf⟩:=hk
  cases h
  exact ⟨st1,Sub.refl _ _,.inr rfl,hf⟩
 obtain ⟨rfl,hs⟩:=hk
 refine ⟨_,hs,?_⟩
 refine sr [] [2] [] 0 [.bool false] [] zF an ?_
 refine rt ?_
 cases h
 exact ⟨.inr rfl,Nat.le_of_ble_eq_true rfl,by kernel_rfl⟩
theorem zDW (F:Nat) (s_1:List Int) (r:Int) (h:zA6 F s_1=some r):zV prog 68 [] [] [.str s_1] [] (Ii r):=by
 refine yG (fn:=Go.Proofs.Try.f68) (code:=xC Go.Proofs.Try.f68) (by kernel_rfl) (by kernel_rfl) (Nat.le_of_ble_eq_true (by kernel_rfl)) ?_
 unfold zA6 at h
 refine sr [] [0] [] 0 [.str s_1] [] zF an ?_
 refine sq ?_
 refine sq ?_
 refine y4 (mk [(0,.str s_1),(11,.bool (decide ((lN (s_1))<(1:Int))||decide ((lN (s_1))>(40:Int))))] [] 0) ?_ ?_
 ·rcases bft (decide ((lN (s_1))<(1:Int))) with zH | zH
  ·refine rg [(4,Hg),(5,Hg),(6,Hg),(7,Ht)] [0,11] [] 0 [.str s_1,.bool true] [] zF (ac zH (ac zH (ac zH (ac zH an)))) ?_
   exact ⟨rfl,(sw [] [] [.s 0,.a 11 (.bool (decide ((lN (s_1))<(1:Int))||decide ((lN (s_1))>(40:Int))))] [] (ac (congrArg AV.bool (ort zH):(.bool true:AV)=.bool (decide ((lN (s_1))<(1:Int))||decide ((lN (s_1))>(40:Int)))) an))⟩
  ·refine rg [(7,Hf)] [0,11] [] 0 [.str s_1,.bool (decide ((lN (s_1))>(40:Int)))] [] zF (ac zH (ac zH (ac zH (ac zH an)))) ?_
   exact ⟨rfl,(sw [] [] [.s 0,.a 11 (.bool (decide ((lN (s_1))<(1:Int))||decide ((lN (s_1))>(40:Int))))] [] (ac (congrArg AV.bool (orf zH rfl):(.bool (decide ((lN (s_1))>(40:Int))):AV)=.bool (decide ((lN (s_1))<(1:Int))||decide ((lN (s_1))>(40:Int)))) an))⟩
 refine cd 11 (decide ((lN (s_1))<(1:Int))||decide ((lN (s_1))>(40:Int))) ?_ ?_
 ·intro g_1;replace h:=zR g_1 h
  refine sr [] [2] [] 0 [Ii 3] [] zF an ?_
  refine rt ?_
  cases h
  exact ⟨.inr rfl,Nat.le_of_ble_eq_true rfl,by kernel_rfl⟩
 intro g_1;replace h:=zQ g_1 h
 refine sk ?_
 refine sq ?_
 refine sr [] [0,3] [] 0 [.str s_1,Ii 0] [] zF an ?_
 obtain ⟨o_1,h_1,h⟩:=bind_some h
 refine wI (K1:=(fun e st'=>match o_1 with | (.inl q0)=>e=.normal∧Sub 0 st' (mk [] [] 0) | (.inr q1)=>e=.ret∧uE prog Go.Proofs.Try.f68 0 [] (Ii q1) st')) ?_ ?_
 ·replace h:=h_1
  refine yD (id:=0) (by kernel_rfl) ?_
  refine wk [] [] [.s 0,.s 3] [] [(0,.str s_1),(3,Ii 0)] [] an ?_
  refine xI (fun n st=>∃ (i_1:Int),st=mk [(0,.str s_1),(3,Ii i_1)] [] 0∧zAP F s_1 n i_1=some o_1) F (by kernel_rfl) ⟨_,rfl,h⟩ ?_ ?_
  ·rintro _ ⟨_,_,h⟩;exact xN (h:(none:Option (Unit⊕Int))=some o_1)
  rintro n_1 _ ⟨i_1,rfl,h⟩
  replace h:jZ F s_1 (zAP F s_1 n_1) i_1=some o_1:=h
  unfold jZ at h
  refine sq ?_
  refine sr [] [0,3,15] [] 0 [.str s_1,Ii i_1,.bool (decide (i_1<(lN (s_1))))] [] zF an ?_
  refine cd 15 (decide (i_1<(lN (s_1)))) ?_ ?_
  rotate_left
  ·intro g_2;replace h:=zQ g_2 h
   refine xM (id:=0) (by kernel_rfl) ?_
   cases h
   exact ⟨rfl,(sw [] [] [] [] an)⟩
  intro g_2;replace h:=zR g_2 h
  refine sk ?_
  refine sq ?_
  refine yD (id:=1) (by kernel_rfl) ?_
  refine sq ?_
  obtain ⟨c_1,h_2,h⟩:=bind_some h
  obtain ⟨r_1,h_3,h⟩:=bind_some h
  refine rg [(2,{ z:=c_1 }),(3,{ av:=.bool r_1,l:=[Iu c_1] })] [0,3,22] [] 0 [.str s_1,Ii i_1,.bool (!r_1)] [] zF (ac h_2 (ar ([Iu c_1]:List AV) (ac (rfl:([]:List zW)=[]) (ac (zJc F c_1 r_1 h_3:zV prog 78 [] [] [Iu c_1] [] (.bool r_1)) an)))) ?_
  refine cd 22 (!r_1) ?_ ?_
  rotate_left
  ·intro g_3;replace h:=zQ g_3 h
   refine sk ?_
   refine rg [] [0,3] [] 0 [.str s_1,Ii (zP (i_1+(1:Int)))] [] zF an ?_
   exact ⟨_,(sw [] [] [.s 0,.s 3] [] an),_,rfl,h⟩
  intro g_3;replace h:=zR g_3 h
  refine sr [] [2] [] 0 [Ii 3] [] zF an ?_
  refine rt ?_
  cases h
  exact ⟨rfl,Nat.le_of_ble_eq_true rfl,by kernel_rfl⟩
 intro e st1 hk
 rcases o_1 with q_1 | q_2
 rotate_left
 ·obtain ⟨rfl,hf⟩:=hk
  cases h
  exact ⟨st1,Sub.refl _ _,.inr rfl,hf⟩
 obtain ⟨rfl,hs⟩:=hk
 refine ⟨_,hs,?_⟩
 refine sr [] [2] [] 0 [Ii 0] [] zF an ?_
 refine rt ?_
 cases h
 exact ⟨.inr rfl,Nat.le_of_ble_eq_true rfl,by kernel_rfl⟩
theorem zI6 (F:Nat) (t_1:z0) (r:Int) (h:zBz F t_1=some r):zV prog 53 [] [] [zG t_1] [] (Ii r):=by
 refine yG (fn:=Go.Proofs.Try.f53) (code:=xC Go.Proofs.Try.f53) (by kernel_rfl) (by kernel_rfl) (Nat.le_of_ble_eq_true (by kernel_rfl)) ?_
 unfold zBz at h
 refine sr [(0,{ id:=0 })] [1] [0] 1 [Pp 0] [Vb 66 (yI t_1)] zF an ?_
 refine sq ?_
 refine sq ?_
 refine y4 (mk [(1,Pp 0),(20,.bool (decide (t_1.Id<(0:Int))||(decide (t_1.Id>(1000000000000000:Int))||(decide (t_1.Domain<(0:Int))||decide (t_1.Domain≥(8:Int))))))] [(0,Vb 66 (yI t_1))] 1) ?_ ?_
 ·rcases bft (decide (t_1.Id<(0:Int))) with zH | zH
  ·refine rg [(4,Hg),(5,Hg),(6,Hg),(7,Ht),(9,Hg),(10,Hg),(11,Hg),(12,Ht),(14,Hg),(15,Hg),(16,Hg),(17,Ht)] [1,20] [0] 1 [Pp 0,.bool true] [Vb 66 (yI t_1)] zF (ac zH (ac zH (ac zH (ac zH (ax (ax (ax (ar true (ax (ax (ax (ar true an)))))))))))) ?_
   exact ⟨rfl,(sw [0] [] [.s 1,.a 20 (.bool (decide (t_1.Id<(0:Int))||(decide (t_1.Id>(1000000000000000:Int))||(decide (t_1.Domain<(0:Int))||decide (t_1.Domain≥(8:Int))))))] [.s 0] (ac (congrArg AV.bool (ort zH):(.bool true:AV)=.bool (decide (t_1.Id<(0:Int))||(decide (t_1.Id>(1000000000000000:Int))||(decide (t_1.Domain<(0:Int))||decide (t_1.Domain≥(8:Int)))))) an))⟩
  ·rcases bft (decide (t_1.Id>(1000000000000000:Int))) with zJ | zJ
   ·refine rg [(7,Hf),(9,Hg),(10,Hg),(11,Hg),(12,Ht),(14,Hg),(15,Hg),(16,Hg),(17,Ht)] [1,20] [0] 1 [Pp 0,.bool true] [Vb 66 (yI t_1)] zF (ac zH (ac zH (ac zH (ac zH (ac zJ (ac zJ (ac zJ (ac zJ (ax (ax (ax (ar true an)))))))))))) ?_
    exact ⟨rfl,(sw [0] [] [.s 1,.a 20 (.bool (decide (t_1.Id<(0:Int))||(decide (t_1.Id>(1000000000000000:Int))||(decide (t_1.Domain<(0:Int))||decide (t_1.Domain≥(8:Int))))))] [.s 0] (ac (congrArg AV.bool (orf zH (ort zJ)):(.bool true:AV)=.bool (decide (t_1.Id<(0:Int))||(decide (t_1.Id>(1000000000000000:Int))||(decide (t_1.Domain<(0:Int))||decide (t_1.Domain≥(8:Int)))))) an))⟩
   ·rcases bft (decide (t_1.Domain<(0:Int))) with zO | zO
    ·refine rg [(7,Hf),(12,Hf),(14,Hg),(15,Hg),(16,Hg),(17,Ht)] [1,20] [0] 1 [Pp 0,.bool true] [Vb 66 (yI t_1)] zF (ac zH (ac zH (ac zH (ac zH (ac zJ (ac zJ (ac zJ (ac zJ (ac zO (ac zO (ac zO (ac zO an)))))))))))) ?_
     exact ⟨rfl,(sw [0] [] [.s 1,.a 20 (.bool (decide (t_1.Id<(0:Int))||(decide (t_1.Id>(1000000000000000:Int))||(decide (t_1.Domain<(0:Int))||decide (t_1.Domain≥(8:Int))))))] [.s 0] (ac (congrArg AV.bool (orf zH (orf zJ (ort zO))):(.bool true:AV)=.bool (decide (t_1.Id<(0:Int))||(decide (t_1.Id>(1000000000000000:Int))||(decide (t_1.Domain<(0:Int))||decide (t_1.Domain≥(8:Int)))))) an))⟩
    ·refine rg [(7,Hf),(12,Hf),(17,Hf)] [1,20] [0] 1 [Pp 0,.bool (decide (t_1.Domain≥(8:Int)))] [Vb 66 (yI t_1)] zF (ac zH (ac zH (ac zH (ac zH (ac zJ (ac zJ (ac zJ (ac zJ (ac zO (ac zO (ac zO (ac zO an)))))))))))) ?_
     exact ⟨rfl,(sw [0] [] [.s 1,.a 20 (.bool (decide (t_1.Id<(0:Int))||(decide (t_1.Id>(1000000000000000:Int))||(decide (t_1.Domain<(0:Int))||decide (t_1.Domain≥(8:Int))))))] [.s 0] (ac (congrArg AV.bool (orf zH (orf zJ (orf zO rfl))):(.bool (decide (t_1.Domain≥(8:Int))):AV)=.bool (decide (t_1.Id<(0:Int))||(decide (t_1.Id>(1000000000000000:Int))||(decide (t_1.Domain<(0:Int))||decide (t_1.Domain≥(8:Int)))))) an))⟩
 refine cd 20 (decide (t_1.Id<(0:Int))||(decide (t_1.Id>(1000000000000000:Int))||(decide (t_1.Domain<(0:Int))||decide (t_1.Domain≥(8:Int))))) ?_ ?_
 ·intro g_1;replace h:=zR g_1 h
  refine sr [] [2] [] 1 [Ii 2] [] zF an ?_
  refine rt ?_
  cases h
  exact ⟨.inr rfl,Nat.le_of_ble_eq_true rfl,by kernel_rfl⟩
 intro g_1;replace h:=zQ g_1 h
 refine sk ?_
 refine sq ?_
 obtain ⟨r_1,h_1,h⟩:=bind_some h
 refine rg [(2,{ av:=Ii r_1,l:=[.str t_1.Name] })] [2] [] 1 [Ii r_1] [] zF (ar ([.str t_1.Name]:List AV) (ac (rfl:([]:List zW)=[]) (ac (zDW F t_1.Name r_1 h_1:zV prog 68 [] [] [.str t_1.Name] [] (Ii r_1)) an))) ?_
 refine rt ?_
 cases h
 exact ⟨.inr rfl,Nat.le_of_ble_eq_true rfl,by kernel_rfl⟩
theorem zAU (F:Nat) (d_1:List (zU)) (yM:Int) (r:Int) (h:zAo F d_1 yM=some r):zV prog 69 [] [] [.sl false 2 (Mp zC d_1),Ii yM] [] (Ii r):=by
 refine yG (fn:=Go.Proofs.Try.f69) (code:=xC Go.Proofs.Try.f69) (by kernel_rfl) (by kernel_rfl) (Nat.le_of_ble_eq_true (by kernel_rfl)) ?_
 unfold zAo at h
 refine sr [] [0,1] [] 0 [.sl false 2 (Mp zC d_1),Ii yM] [] zF an ?_
 refine sq ?_
 refine sr [] [0,1,5] [] 0 [.sl false 2 (Mp zC d_1),Ii yM,Ii 0] [] zF an ?_
 obtain ⟨o_1,h_1,h⟩:=bind_some h
 refine wI (K1:=(fun e st'=>match o_1 with | (.inl q0)=>e=.normal∧Sub 0 st' (mk [] [] 0) | (.inr q1)=>e=.ret∧uE prog Go.Proofs.Try.f69 0 [] (Ii q1) st')) ?_ ?_
 ·replace h:=h_1
  refine yD (id:=0) (by kernel_rfl) ?_
  refine wk [] [] [.s 0,.s 1,.s 5] [] [(0,.sl false 2 (Mp zC d_1)),(1,Ii yM),(5,Ii 0)] [] an ?_
  refine xI (fun n st=>∃ (i_1:Int),st=mk [(0,.sl false 2 (Mp zC d_1)),(1,Ii yM),(5,Ii i_1)] [] 0∧zAQ F d_1 yM n i_1=some o_1) F (by kernel_rfl) ⟨_,rfl,h⟩ ?_ ?_
  ·rintro _ ⟨_,_,h⟩;exact xN (h:(none:Option (Unit⊕Int))=some o_1)
  rintro n_1 _ ⟨i_1,rfl,h⟩
  replace h:t5 F d_1 yM (zAQ F d_1 yM n_1) i_1=some o_1:=h
  unfold t5 at h
  refine sq ?_
  refine sr [(2,{ n:=(d_1).length })] [0,1,5,9] [] 0 [.sl false 2 (Mp zC d_1),Ii yM,Ii i_1,.bool (decide (i_1<(lN (d_1))))] [] zF (ac (yF _:((Mp zC d_1)).length=(d_1).length) an) ?_
  refine cd 9 (decide (i_1<(lN (d_1)))) ?_ ?_
  rotate_left
  ·intro g_1;replace h:=zQ g_1 h
   refine xM (id:=0) (by kernel_rfl) ?_
   cases h
   exact ⟨rfl,(sw [] [] [] [] an)⟩
  intro g_1;replace h:=zR g_1 h
  refine sk ?_
  refine sq ?_
  refine yD (id:=1) (by kernel_rfl) ?_
  refine sq ?_
  obtain ⟨x_1,h_2,h⟩:=bind_some h
  refine rg [(2,{ av:=zC x_1 })] [0,1,5,18] [] 0 [.sl false 2 (Mp zC d_1),Ii yM,Ii i_1,.bool (x_1.Id==yM)] [] zF (ac (yR h_2:xJ (Mp zC d_1) i_1=some (zC x_1)) an) ?_
  refine cd 18 (x_1.Id==yM) ?_ ?_
  rotate_left
  ·intro g_2;replace h:=zQ g_2 h
   refine sk ?_
   refine rg [] [0,1,5] [] 0 [.sl false 2 (Mp zC d_1),Ii yM,Ii (zP (i_1+(1:Int)))] [] zF an ?_
   exact ⟨_,(sw [] [] [.s 0,.s 1,.s 5] [] an),_,rfl,h⟩
  intro g_2;replace h:=zR g_2 h
  refine sr [] [4] [] 0 [Ii i_1] [] zF an ?_
  refine rt ?_
  cases h
  exact ⟨rfl,Nat.le_of_ble_eq_true rfl,by kernel_rfl⟩
 intro e st1 hk
 rcases o_1 with q_1 | q_2
 rotate_left
 ·obtain ⟨rfl,hf⟩:=hk
  cases h
  exact ⟨st1,Sub.refl _ _,.inr rfl,hf⟩
 obtain ⟨rfl,hs⟩:=hk
 refine ⟨_,hs,?_⟩
 refine sr [] [4] [] 0 [Ii (-1)] [] zF an ?_
 refine rt ?_
 cases h
 exact ⟨.inr rfl,Nat.le_of_ble_eq_true rfl,by kernel_rfl⟩
theorem u7 (n_1:Int) (r:Bool) (h:nY n_1=some r):zV prog 79 [] [] [Ii n_1] [] (.bool r):=by
 refine yG (fn:=Go.Proofs.Try.f79) (code:=xC Go.Proofs.Try.f79) (by kernel_rfl) (by kernel_rfl) (Nat.le_of_ble_eq_true (by kernel_rfl)) ?_
 unfold nY at h
 refine sr [] [0] [] 0 [Ii n_1] [] zF an ?_
 refine sq ?_
 refine y4 (mk [(2,.bool (decide (n_1≥(0:Int))&&decide (n_1≤(1000000000000:Int))))] [] 0) ?_ ?_
 ·rcases bft (decide (n_1≥(0:Int))) with zH | zH
  ·refine rg [(5,Ht)] [2] [] 0 [.bool (decide (n_1≤(1000000000000:Int)))] [] zF (ac zH (ac zH (ac zH an))) ?_
   exact ⟨rfl,(sw [] [] [.a 2 (.bool (decide (n_1≥(0:Int))&&decide (n_1≤(1000000000000:Int))))] [] (ac (congrArg AV.bool (uO zH rfl):(.bool (decide (n_1≤(1000000000000:Int))):AV)=.bool (decide (n_1≥(0:Int))&&decide (n_1≤(1000000000000:Int)))) an))⟩
  ·refine rg [(3,Hg),(4,Hg),(5,Hf)] [2] [] 0 [.bool false] [] zF (ac zH (ac zH (ac zH an))) ?_
   exact ⟨rfl,(sw [] [] [.a 2 (.bool (decide (n_1≥(0:Int))&&decide (n_1≤(1000000000000:Int))))] [] (ac (congrArg AV.bool (j0 zH):(.bool false:AV)=.bool (decide (n_1≥(0:Int))&&decide (n_1≤(1000000000000:Int)))) an))⟩
 refine rt ?_
 cases h
 exact ⟨.inr rfl,Nat.le_of_ble_eq_true rfl,by kernel_rfl⟩
theorem zLg (F:Nat) (d_1:List (zU)) (x_1:xR) (r:Int) (h:zC5 F d_1 x_1=some r):zV prog 70 [] [] [.sl false 2 (Mp zC d_1),zK x_1] [] (Ii r):=by
 refine yG (fn:=Go.Proofs.Try.f70) (code:=xC Go.Proofs.Try.f70) (by kernel_rfl) (by kernel_rfl) (Nat.le_of_ble_eq_true (by kernel_rfl)) ?_
 unfold zC5 at h
 refine sr [(0,{ id:=0 })] [0,3] [0] 1 [.sl false 2 (Mp zC d_1),Pp 0] [Vb 86 (vE x_1)] zF an ?_
 refine sq ?_
 refine yD (id:=0) (by kernel_rfl) ?_
 refine sq ?_
 obtain ⟨p_1,h_3,h⟩:=bind_some h
 refine y4 (mk [(3,Pp 0),(5,.bool p_1)] [(0,Vb 86 (vE x_1))] 1) ?_ ?_
 ·replace h:=h_3
  obtain ⟨r_1,h_1,h⟩:=bind_some h
  rcases bft (decide (r_1<(0:Int))) with zH | zH
  ·replace h:=zR zH h
   refine rg [(3,{ av:=Ii r_1,l:=[.sl false 2 (Mp zC d_1),Ii x_1.A] }),(6,Hg),(7,Hg),(8,Hg),(9,Hg),(10,Hg),(11,Ht)] [3,5] [0] 1 [Pp 0,.bool true] [Vb 86 (vE x_1)] zF (ar ([.sl false 2 (Mp zC d_1),Ii x_1.A]:List AV) (ac (rfl:([]:List zW)=[]) (ac (zAU F d_1 x_1.A r_1 h_1:zV prog 69 [] [] [.sl false 2 (Mp zC d_1),Ii x_1.A] [] (Ii r_1)) (ac zH (ac zH (ac zH (ac zH (ac zH (ac zH an))))))))) ?_
   cases h
   exact ⟨rfl,(sw [0] [] [.s 3,.s 5] [.s 0] an)⟩
  ·replace h:=zQ zH h
   obtain ⟨r_2,h_2,h⟩:=bind_some h
   refine rg [(3,{ av:=Ii r_1,l:=[.sl false 2 (Mp zC d_1),Ii x_1.A] }),(9,{ av:=Ii r_2,l:=[.sl false 2 (Mp zC d_1),Ii x_1.B] }),(11,Hf)] [3,5] [0] 1 [Pp 0,.bool (decide (r_2<(0:Int)))] [Vb 86 (vE x_1)] zF (ar ([.sl false 2 (Mp zC d_1),Ii x_1.A]:List AV) (ac (rfl:([]:List zW)=[]) (ac (zAU F d_1 x_1.A r_1 h_1:zV prog 69 [] [] [.sl false 2 (Mp zC d_1),Ii x_1.A] [] (Ii r_1)) (ac zH (ac zH (ac zH (ac zH (ar ([.sl false 2 (Mp zC d_1),Ii x_1.B]:List AV) (ac (rfl:([]:List zW)=[]) (ac (zAU F d_1 x_1.B r_2 h_2:zV prog 69 [] [] [.sl false 2 (Mp zC d_1),Ii x_1.B] [] (Ii r_2)) (ac zH (ac zH an)))))))))))) ?_
   cases h
   exact ⟨rfl,(sw [0] [] [.s 3,.s 5] [.s 0] an)⟩
 refine cd 5 p_1 ?_ ?_
 ·intro g_1;replace h:=zR g_1 h
  refine sr [] [4] [] 1 [Ii 5] [] zF an ?_
  refine rt ?_
  cases h
  exact ⟨.inr rfl,Nat.le_of_ble_eq_true rfl,by kernel_rfl⟩
 intro g_1;replace h:=zQ g_1 h
 refine sr [] [3,18] [0] 1 [Pp 0,.bool (x_1.A==x_1.B)] [Vb 86 (vE x_1)] zF an ?_
 refine cd 18 (x_1.A==x_1.B) ?_ ?_
 ·intro g_2;replace h:=zR g_2 h
  refine sr [] [4] [] 1 [Ii 1] [] zF an ?_
  refine rt ?_
  cases h
  exact ⟨.inr rfl,Nat.le_of_ble_eq_true rfl,by kernel_rfl⟩
 intro g_2;replace h:=zQ g_2 h
 refine sq ?_
 obtain ⟨p_2,h_7,h⟩:=bind_some h
 refine y4 (mk [(24,.bool p_2)] [] 0) ?_ ?_
 ·replace h:=h_7
  obtain ⟨r_3,h_4,h⟩:=bind_some h
  rcases bft (!r_3) with zJ | zJ
  ·replace h:=zR zJ h
   refine rg [(2,{ av:=.bool r_3,l:=[Ii x_1.AtA] }),(5,Hg),(6,Hg),(7,Hg),(8,Hg),(9,Hg),(10,Ht),(12,Hg),(13,Hg),(14,Hg),(15,Hg),(16,Hg),(17,Ht),(19,Hg),(20,Hg),(21,Hg),(22,Hg),(23,Hg),(24,Hg),(25,Hg),(26,Ht)] [24] [] 1 [.bool true] [] zF (ar ([Ii x_1.AtA]:List AV) (ac (rfl:([]:List zW)=[]) (ac (u7 x_1.AtA r_3 h_4:zV prog 79 [] [] [Ii x_1.AtA] [] (.bool r_3)) (ac zJ (ac zJ (ac zJ (ac zJ (ac zJ (ac zJ (ax (ax (ax (ax (ax (ar true (ax (ax (ax (ax (ax (ax (ax (ar true an))))))))))))))))))))))) ?_
   cases h
   exact ⟨rfl,(sw [] [] [.s 24] [] an)⟩
  ·replace h:=zQ zJ h
   obtain ⟨r_4,h_5,h⟩:=bind_some h
   rcases bft (!r_4) with zO | zO
   ·replace h:=zR zO h
    refine rg [(2,{ av:=.bool r_3,l:=[Ii x_1.AtA] }),(8,{ av:=.bool r_4,l:=[Ii x_1.AtB.Lo] }),(10,Hf),(12,Hg),(13,Hg),(14,Hg),(15,Hg),(16,Hg),(17,Ht),(19,Hg),(20,Hg),(21,Hg),(22,Hg),(23,Hg),(24,Hg),(25,Hg),(26,Ht)] [24] [] 1 [.bool true] [] zF (ar ([Ii x_1.AtA]:List AV) (ac (rfl:([]:List zW)=[]) (ac (u7 x_1.AtA r_3 h_4:zV prog 79 [] [] [Ii x_1.AtA] [] (.bool r_3)) (ac zJ (ac zJ (ac zJ (ac zJ (ar ([Ii x_1.AtB.Lo]:List AV) (ac (rfl:([]:List zW)=[]) (ac (u7 x_1.AtB.Lo r_4 h_5:zV prog 79 [] [] [Ii x_1.AtB.Lo] [] (.bool r_4)) (ac zJ (ac zJ (ac zO (ac zO (ac zO (ac zO (ac zO (ac zO (ax (ax (ax (ax (ax (ax (ax (ar true an)))))))))))))))))))))))))) ?_
    cases h
    exact ⟨rfl,(sw [] [] [.s 24] [] an)⟩
   ·replace h:=zQ zO h
    obtain ⟨r_5,h_6,h⟩:=bind_some h
    rcases bft (!r_5) with zS | zS
    ·replace h:=zR zS h
     refine rg [(2,{ av:=.bool r_3,l:=[Ii x_1.AtA] }),(8,{ av:=.bool r_4,l:=[Ii x_1.AtB.Lo] }),(10,Hf),(15,{ av:=.bool r_5,l:=[Ii x_1.AtB.Hi] }),(17,Hf),(19,Hg),(20,Hg),(21,Hg),(22,Hg),(23,Hg),(24,Hg),(25,Hg),(26,Ht)] [24] [] 1 [.bool true] [] zF (ar ([Ii x_1.AtA]:List AV) (ac (rfl:([]:List zW)=[]) (ac (u7 x_1.AtA r_3 h_4:zV prog 79 [] [] [Ii x_1.AtA] [] (.bool r_3)) (ac zJ (ac zJ (ac zJ (ac zJ (ar ([Ii x_1.AtB.Lo]:List AV) (ac (rfl:([]:List zW)=[]) (ac (u7 x_1.AtB.Lo r_4 h_5:zV prog 79 [] [] [Ii x_1.AtB.Lo] [] (.bool r_4)) (ac zJ (ac zJ (ac zO (ac zO (ac zO (ac zO (ar ([Ii x_1.AtB.Hi]:List AV) (ac (rfl:([]:List zW)=[]) (ac (u7 x_1.AtB.Hi r_5 h_6:zV prog 79 [] [] [Ii x_1.AtB.Hi] [] (.bool r_5)) (ac zO (ac zO (ac zS (ac zS (ac zS (ac zS (ac zS (ac zS (ac zS (ac zS an))))))))))))))))))))))))))))) ?_
     cases h
     exact ⟨rfl,(sw [] [] [.s 24] [] an)⟩
    ·replace h:=zQ zS h
     refine rg [(2,{ av:=.bool r_3,l:=[Ii x_1.AtA] }),(8,{ av:=.bool r_4,l:=[Ii x_1.AtB.Lo] }),(10,Hf),(15,{ av:=.bool r_5,l:=[Ii x_1.AtB.Hi] }),(17,Hf),(26,Hf)] [24] [] 1 [.bool (decide (x_1.AtB.Lo>x_1.AtB.Hi))] [] zF (ar ([Ii x_1.AtA]:List AV) (ac (rfl:([]:List zW)=[]) (ac (u7 x_1.AtA r_3 h_4:zV prog 79 [] [] [Ii x_1.AtA] [] (.bool r_3)) (ac zJ (ac zJ (ac zJ (ac zJ (ar ([Ii x_1.AtB.Lo]:List AV) (ac (rfl:([]:List zW)=[]) (ac (u7 x_1.AtB.Lo r_4 h_5:zV prog 79 [] [] [Ii x_1.AtB.Lo] [] (.bool r_4)) (ac zJ (ac zJ (ac zO (ac zO (ac zO (ac zO (ar ([Ii x_1.AtB.Hi]:List AV) (ac (rfl:([]:List zW)=[]) (ac (u7 x_1.AtB.Hi r_5 h_6:zV prog 79 [] [] [Ii x_1.AtB.Hi] [] (.bool r_5)) (ac zO (ac zO (ac zS (ac zS (ac zS (ac zS (ac zS (ac zS (ac zS (ac zS an))))))))))))))))))))))))))))) ?_
     cases h
     exact ⟨rfl,(sw [] [] [.s 24] [] an)⟩
 refine cd 24 p_2 ?_ ?_
 ·intro g_3;replace h:=zR g_3 h
  refine sr [] [4] [] 0 [Ii 2] [] zF an ?_
  refine rt ?_
  cases h
  exact ⟨.inr rfl,Nat.le_of_ble_eq_true rfl,by kernel_rfl⟩
 intro g_3;replace h:=zQ g_3 h
 refine sk ?_
 refine sr [] [4] [] 0 [Ii 0] [] zF an ?_
 refine rt ?_
 cases h
 exact ⟨.inr rfl,Nat.le_of_ble_eq_true rfl,by kernel_rfl⟩
theorem zDg (F:Nat) (d_1:List (zU)) (l_1:List (xR)) (r:Int) (h:zBn F d_1 l_1=some r):zV prog 54 [] [] [.sl false 2 (Mp zC d_1),.sl false 5 (Mp zK l_1)] [] (Ii r):=by
 refine yG (fn:=Go.Proofs.Try.f54) (code:=xC Go.Proofs.Try.f54) (by kernel_rfl) (by kernel_rfl) (Nat.le_of_ble_eq_true (by kernel_rfl)) ?_
 unfold zBn at h
 refine sr [] [0,1] [] 0 [.sl false 2 (Mp zC d_1),.sl false 5 (Mp zK l_1)] [] zF an ?_
 refine sq ?_
 refine yD (id:=0) (by kernel_rfl) ?_
 refine sr [(1,{ n:=(d_1).length })] [0,1,8] [] 0 [.sl false 2 (Mp zC d_1),.sl false 5 (Mp zK l_1),.bool ((lN (d_1))==(0:Int))] [] zF (ac (yF _:((Mp zC d_1)).length=(d_1).length) an) ?_
 refine cd 8 ((lN (d_1))==(0:Int)) ?_ ?_
 ·intro g_1;replace h:=zR g_1 h
  refine sr [] [4] [] 0 [Ii 8] [] zF an ?_
  refine rt ?_
  cases h
  exact ⟨.inr rfl,Nat.le_of_ble_eq_true rfl,by kernel_rfl⟩
 intro g_1;replace h:=zQ g_1 h
 refine sq ?_
 refine y4 (mk [(0,.sl false 2 (Mp zC d_1)),(1,.sl false 5 (Mp zK l_1)),(12,.bool (decide ((lN (d_1))>(8:Int))||decide ((lN (l_1))>(200:Int))))] [] 0) ?_ ?_
 ·rcases bft (decide ((lN (d_1))>(8:Int))) with zH | zH
  ·refine rg [(1,{ n:=(d_1).length }),(4,Hg),(5,Hg),(6,Hg),(7,Ht)] [0,1,12] [] 0 [.sl false 2 (Mp zC d_1),.sl false 5 (Mp zK l_1),.bool true] [] zF (ac (yF _:((Mp zC d_1)).length=(d_1).length) (ac zH (ac zH (ac zH (ac zH an))))) ?_
   exact ⟨rfl,(sw [] [] [.s 0,.s 1,.a 12 (.bool (decide ((lN (d_1))>(8:Int))||decide ((lN (l_1))>(200:Int))))] [] (ac (congrArg AV.bool (ort zH):(.bool true:AV)=.bool (decide ((lN (d_1))>(8:Int))||decide ((lN (l_1))>(200:Int)))) an))⟩
  ·refine rg [(1,{ n:=(d_1).length }),(5,{ n:=(l_1).length }),(7,Hf)] [0,1,12] [] 0 [.sl false 2 (Mp zC d_1),.sl false 5 (Mp zK l_1),.bool (decide ((lN (l_1))>(200:Int)))] [] zF (ac (yF _:((Mp zC d_1)).length=(d_1).length) (ac zH (ac zH (ac (yF _:((Mp zK l_1)).length=(l_1).length) (ac zH (ac zH an)))))) ?_
   exact ⟨rfl,(sw [] [] [.s 0,.s 1,.a 12 (.bool (decide ((lN (d_1))>(8:Int))||decide ((lN (l_1))>(200:Int))))] [] (ac (congrArg AV.bool (orf zH rfl):(.bool (decide ((lN (l_1))>(200:Int))):AV)=.bool (decide ((lN (d_1))>(8:Int))||decide ((lN (l_1))>(200:Int)))) an))⟩
 refine cd 12 (decide ((lN (d_1))>(8:Int))||decide ((lN (l_1))>(200:Int))) ?_ ?_
 ·intro g_2;replace h:=zR g_2 h
  refine sr [] [4] [] 0 [Ii 7] [] zF an ?_
  refine rt ?_
  cases h
  exact ⟨.inr rfl,Nat.le_of_ble_eq_true rfl,by kernel_rfl⟩
 intro g_2;replace h:=zQ g_2 h
 refine sq ?_
 obtain ⟨p_1,h_3,h⟩:=bind_some h
 refine y4 (mk [(0,.sl false 2 (Mp zC d_1)),(1,.sl false 5 (Mp zK l_1)),(21,.bool p_1)] [] 0) ?_ ?_
 ·replace h:=h_3
  obtain ⟨x_1,h_1,h⟩:=bind_some h
  rcases bft (x_1.Id != (0:Int)) with zJ | zJ
  ·replace h:=zR zJ h
   refine rg [(1,{ av:=zC x_1 }),(6,Hg),(7,Hg),(8,Hg),(9,Hg),(10,Hg),(11,Ht)] [0,1,21] [] 0 [.sl false 2 (Mp zC d_1),.sl false 5 (Mp zK l_1),.bool true] [] zF (ac (yR h_1:xJ (Mp zC d_1) (0:Int)=some (zC x_1)) (ac zJ (ac zJ (ac zJ (ac zJ (ac zJ (ac zJ an))))))) ?_
   cases h
   exact ⟨rfl,(sw [] [] [.s 0,.s 1,.s 21] [] an)⟩
  ·replace h:=zQ zJ h
   obtain ⟨x_2,h_2,h⟩:=bind_some h
   refine rg [(1,{ av:=zC x_1 }),(7,{ av:=zC x_2 }),(11,Hf)] [0,1,21] [] 0 [.sl false 2 (Mp zC d_1),.sl false 5 (Mp zK l_1),.bool (x_2.Ppm != (0:Int))] [] zF (ac (yR h_1:xJ (Mp zC d_1) (0:Int)=some (zC x_1)) (ac zJ (ac zJ (ac (yR h_2:xJ (Mp zC d_1) (0:Int)=some (zC x_2)) (ac zJ (ac zJ (ac zJ (ac zJ an)))))))) ?_
   cases h
   exact ⟨rfl,(sw [] [] [.s 0,.s 1,.s 21] [] an)⟩
 refine cd 21 p_1 ?_ ?_
 ·intro g_3;replace h:=zR g_3 h
  refine sr [] [4] [] 0 [Ii 10] [] zF an ?_
  refine rt ?_
  cases h
  exact ⟨.inr rfl,Nat.le_of_ble_eq_true rfl,by kernel_rfl⟩
 intro g_3;replace h:=zQ g_3 h
 refine sk ?_
 refine sq ?_
 refine sr [] [0,1,5] [] 0 [.sl false 2 (Mp zC d_1),.sl false 5 (Mp zK l_1),Ii 0] [] zF an ?_
 obtain ⟨o_1,h_4,h⟩:=bind_some h
 refine wI (K1:=(fun e st'=>match o_1 with | (.inl q0)=>e=.normal∧Sub 0 st' (mk [(0,.sl false 2 (Mp zC d_1)),(1,.sl false 5 (Mp zK l_1))] [] 0) | (.inr q1)=>e=.ret∧uE prog Go.Proofs.Try.f54 0 [] (Ii q1) st')) ?_ ?_
 ·replace h:=h_4
  refine yD (id:=1) (by kernel_rfl) ?_
  refine wk [] [] [.s 0,.s 1,.s 5] [] [(0,.sl false 2 (Mp zC d_1)),(1,.sl false 5 (Mp zK l_1)),(5,Ii 0)] [] an ?_
  refine xI (fun n st=>∃ (i_1:Int),st=mk [(0,.sl false 2 (Mp zC d_1)),(1,.sl false 5 (Mp zK l_1)),(5,Ii i_1)] [] 0∧zAd F d_1 n i_1=some o_1) F (by kernel_rfl) ⟨_,rfl,h⟩ ?_ ?_
  ·rintro _ ⟨_,_,h⟩;exact xN (h:(none:Option (Unit⊕Int))=some o_1)
  rintro n_1 _ ⟨i_1,rfl,h⟩
  replace h:tI F d_1 (zAd F d_1 n_1) i_1=some o_1:=h
  unfold tI at h
  refine sq ?_
  refine sr [(2,{ n:=(d_1).length })] [0,1,5,37] [] 0 [.sl false 2 (Mp zC d_1),.sl false 5 (Mp zK l_1),Ii i_1,.bool (decide (i_1<(lN (d_1))))] [] zF (ac (yF _:((Mp zC d_1)).length=(d_1).length) an) ?_
  refine cd 37 (decide (i_1<(lN (d_1)))) ?_ ?_
  rotate_left
  ·intro g_4;replace h:=zQ g_4 h
   refine xM (id:=1) (by kernel_rfl) ?_
   cases h
   exact ⟨rfl,(sw [] [] [.s 0,.s 1] [] an)⟩
  intro g_4;replace h:=zR g_4 h
  refine sk ?_
  refine sq ?_
  refine yD (id:=2) (by kernel_rfl) ?_
  refine sq ?_
  refine sq ?_
  obtain ⟨p_2,h_9,h⟩:=bind_some h
  refine y4 (mk [(0,.sl false 2 (Mp zC d_1)),(1,.sl false 5 (Mp zK l_1)),(5,Ii i_1),(69,.bool p_2)] [] 0) ?_ ?_
  ·replace h:=h_9
   obtain ⟨x_3,h_5,h⟩:=bind_some h
   rcases bft (decide (x_3.Id<(0:Int))) with xB | xB
   ·replace h:=zR xB h
    refine rg [(2,{ av:=zC x_3 }),(7,Hg),(8,Hg),(9,Hg),(10,Hg),(11,Hg),(12,Hg),(13,Ht),(15,Hg),(16,Hg),(17,Hg),(18,Hg),(19,Hg),(20,Hg),(21,Ht),(23,Hg),(24,Hg),(25,Hg),(26,Hg),(27,Hg),(28,Hg),(29,Ht)] [0,1,5,47,48,49,50,51,52,55,56,57,58,59,60,63,64,65,66,67,68,69] [] 0 [.sl false 2 (Mp zC d_1),.sl false 5 (Mp zK l_1),Ii i_1,.tuple [],.tuple [],.tuple [],.tuple [],.tuple [],.tuple [],.tuple [],.tuple [],.tuple [],.tuple [],.tuple [],.tuple [],.tuple [],.tuple [],.tuple [],.tuple [],.tuple [],.tuple [],.bool true] [] zF (ac (yR h_5:xJ (Mp zC d_1) i_1=some (zC x_3)) (ac xB (ac xB (ac xB (ac xB (ac xB (ac xB (ac xB (ax (ax (ax (ax (ax (ax (ar true (ax (ax (ax (ax (ax (ax (ar true an)))))))))))))))))))))) ?_
    cases h
    exact ⟨rfl,(sw [] [] [.s 0,.s 1,.s 5,.s 69] [] an)⟩
   ·replace h:=zQ xB h
    obtain ⟨x_4,h_6,h⟩:=bind_some h
    rcases bft (decide (x_4.Id≥(8:Int))) with wA | wA
    ·replace h:=zR wA h
     refine rg [(2,{ av:=zC x_3 }),(9,{ av:=zC x_4 }),(13,Hf),(15,Hg),(16,Hg),(17,Hg),(18,Hg),(19,Hg),(20,Hg),(21,Ht),(23,Hg),(24,Hg),(25,Hg),(26,Hg),(27,Hg),(28,Hg),(29,Ht)] [0,1,5,47,48,49,50,51,52,55,56,57,58,59,60,63,64,65,66,67,68,69] [] 0 [.sl false 2 (Mp zC d_1),.sl false 5 (Mp zK l_1),Ii i_1,.sl false 2 (Mp zC d_1),Ii i_1,.ref (zC x_4),.ref (Ii x_4.Id),Ii x_4.Id,.bool (decide (x_4.Id≥(8:Int))),.tuple [],.tuple [],.tuple [],.tuple [],.tuple [],.tuple [],.tuple [],.tuple [],.tuple [],.tuple [],.tuple [],.tuple [],.bool true] [] zF (ac (yR h_5:xJ (Mp zC d_1) i_1=some (zC x_3)) (ac xB (ac xB (ac xB (ac (yR h_6:xJ (Mp zC d_1) i_1=some (zC x_4)) (ac xB (ac xB (ac xB (ac xB (ac wA (ac wA (ac wA (ac wA (ac wA (ac wA (ac wA (ax (ax (ax (ax (ax (ax (ar true an))))))))))))))))))))))) ?_
     cases h
     exact ⟨rfl,(sw [] [] [.s 0,.s 1,.s 5,.s 69] [] an)⟩
    ·replace h:=zQ wA h
     obtain ⟨x_5,h_7,h⟩:=bind_some h
     rcases bft (decide (x_5.Ppm<(0:Int))) with wJ | wJ
     ·replace h:=zR wJ h
      refine rg [(2,{ av:=zC x_3 }),(9,{ av:=zC x_4 }),(13,Hf),(17,{ av:=zC x_5 }),(21,Hf),(23,Hg),(24,Hg),(25,Hg),(26,Hg),(27,Hg),(28,Hg),(29,Ht)] [0,1,5,47,48,49,50,51,52,55,56,57,58,59,60,63,64,65,66,67,68,69] [] 0 [.sl false 2 (Mp zC d_1),.sl false 5 (Mp zK l_1),Ii i_1,.sl false 2 (Mp zC d_1),Ii i_1,.ref (zC x_4),.ref (Ii x_4.Id),Ii x_4.Id,.bool (decide (x_4.Id≥(8:Int))),.sl false 2 (Mp zC d_1),Ii i_1,.ref (zC x_5),.ref (Ii x_5.Ppm),Ii x_5.Ppm,.bool (decide (x_5.Ppm<(0:Int))),.tuple [],.tuple [],.tuple [],.tuple [],.tuple [],.tuple [],.bool true] [] zF (ac (yR h_5:xJ (Mp zC d_1) i_1=some (zC x_3)) (ac xB (ac xB (ac xB (ac (yR h_6:xJ (Mp zC d_1) i_1=some (zC x_4)) (ac xB (ac xB (ac xB (ac xB (ac wA (ac wA (ac wA (ac (yR h_7:xJ (Mp zC d_1) i_1=some (zC x_5)) (ac wA (ac wA (ac wA (ac wA (ac wJ (ac wJ (ac wJ (ac wJ (ac wJ (ac wJ (ac wJ an)))))))))))))))))))))))) ?_
      cases h
      exact ⟨rfl,(sw [] [] [.s 0,.s 1,.s 5,.s 69] [] an)⟩
     ·replace h:=zQ wJ h
      obtain ⟨x_6,h_8,h⟩:=bind_some h
      refine rg [(2,{ av:=zC x_3 }),(9,{ av:=zC x_4 }),(13,Hf),(17,{ av:=zC x_5 }),(21,Hf),(25,{ av:=zC x_6 }),(29,Hf)] [0,1,5,47,48,49,50,51,52,55,56,57,58,59,60,63,64,65,66,67,68,69] [] 0 [.sl false 2 (Mp zC d_1),.sl false 5 (Mp zK l_1),Ii i_1,.sl false 2 (Mp zC d_1),Ii i_1,.ref (zC x_4),.ref (Ii x_4.Id),Ii x_4.Id,.bool (decide (x_4.Id≥(8:Int))),.sl false 2 (Mp zC d_1),Ii i_1,.ref (zC x_5),.ref (Ii x_5.Ppm),Ii x_5.Ppm,.bool (decide (x_5.Ppm<(0:Int))),.sl false 2 (Mp zC d_1),Ii i_1,.ref (zC x_6),.ref (Ii x_6.Ppm),Ii x_6.Ppm,.bool (decide (x_6.Ppm>(10000:Int))),.bool (decide (x_6.Ppm>(10000:Int)))] [] zF (ac (yR h_5:xJ (Mp zC d_1) i_1=some (zC x_3)) (ac xB (ac xB (ac xB (ac (yR h_6:xJ (Mp zC d_1) i_1=some (zC x_4)) (ac xB (ac xB (ac xB (ac xB (ac wA (ac wA (ac wA (ac (yR h_7:xJ (Mp zC d_1) i_1=some (zC x_5)) (ac wA (ac wA (ac wA (ac wA (ac wJ (ac wJ (ac wJ (ac (yR h_8:xJ (Mp zC d_1) i_1=some (zC x_6)) (ac wJ (ac wJ (ac wJ (ac wJ an))))))))))))))))))))))))) ?_
      cases h
      exact ⟨rfl,(sw [] [] [.s 0,.s 1,.s 5,.s 69] [] an)⟩
  refine cd 69 p_2 ?_ ?_
  ·intro g_5;replace h:=zR g_5 h
   refine sr [] [4] [] 0 [Ii 2] [] zF an ?_
   refine rt ?_
   cases h
   exact ⟨rfl,Nat.le_of_ble_eq_true rfl,by kernel_rfl⟩
  intro g_5;replace h:=zQ g_5 h
  refine sk ?_
  refine sq ?_
  obtain ⟨x_7,tT,h⟩:=bind_some h
  obtain ⟨r_1,tU,h⟩:=bind_some h
  refine rg [(3,{ av:=zC x_7 }),(6,{ av:=Ii r_1,l:=[.sl false 2 (Mp zC d_1),Ii x_7.Id] })] [0,1,5,78] [] 0 [.sl false 2 (Mp zC d_1),.sl false 5 (Mp zK l_1),Ii i_1,.bool (decide (r_1<i_1))] [] zF (ac (yR tT:xJ (Mp zC d_1) i_1=some (zC x_7)) (ar ([.sl false 2 (Mp zC d_1),Ii x_7.Id]:List AV) (ac (rfl:([]:List zW)=[]) (ac (zAU F d_1 x_7.Id r_1 tU:zV prog 69 [] [] [.sl false 2 (Mp zC d_1),Ii x_7.Id] [] (Ii r_1)) an)))) ?_
  refine cd 78 (decide (r_1<i_1)) ?_ ?_
  rotate_left
  ·intro g_6;replace h:=zQ g_6 h
   refine sk ?_
   refine rg [] [0,1,5] [] 0 [.sl false 2 (Mp zC d_1),.sl false 5 (Mp zK l_1),Ii (zP (i_1+(1:Int)))] [] zF an ?_
   exact ⟨_,(sw [] [] [.s 0,.s 1,.s 5] [] an),_,rfl,h⟩
  intro g_6;replace h:=zR g_6 h
  refine sr [] [4] [] 0 [Ii 4] [] zF an ?_
  refine rt ?_
  cases h
  exact ⟨rfl,Nat.le_of_ble_eq_true rfl,by kernel_rfl⟩
 intro e st1 hk
 rcases o_1 with q_1 | q_2
 rotate_left
 ·obtain ⟨rfl,hf⟩:=hk
  cases h
  exact ⟨st1,Sub.refl _ _,.inr rfl,hf⟩
 obtain ⟨rfl,hs⟩:=hk
 refine ⟨_,hs,?_⟩
 refine sq ?_
 refine sr [] [0,1,6] [] 0 [.sl false 2 (Mp zC d_1),.sl false 5 (Mp zK l_1),Ii 0] [] zF an ?_
 obtain ⟨o_2,zCd,h⟩:=bind_some h
 refine wI (K1:=(fun e st'=>match o_2 with | (.inl q0)=>e=.normal∧Sub 0 st' (mk [] [] 0) | (.inr q1)=>e=.ret∧uE prog Go.Proofs.Try.f54 0 [] (Ii q1) st')) ?_ ?_
 ·replace h:=zCd
  refine yD (id:=3) (by kernel_rfl) ?_
  refine wk [] [] [.s 0,.s 1,.s 6] [] [(0,.sl false 2 (Mp zC d_1)),(1,.sl false 5 (Mp zK l_1)),(6,Ii 0)] [] an ?_
  refine xI (fun n st=>∃ (i_2:Int),st=mk [(0,.sl false 2 (Mp zC d_1)),(1,.sl false 5 (Mp zK l_1)),(6,Ii i_2)] [] 0∧zAe F d_1 l_1 n i_2=some o_2) F (by kernel_rfl) ⟨_,rfl,h⟩ ?_ ?_
  ·rintro _ ⟨_,_,h⟩;exact xN (h:(none:Option (Unit⊕Int))=some o_2)
  rintro n_2 _ ⟨i_2,rfl,h⟩
  replace h:tK F d_1 l_1 (zAe F d_1 l_1 n_2) i_2=some o_2:=h
  unfold tK at h
  refine sq ?_
  refine sr [(2,{ n:=(l_1).length })] [0,1,6,82] [] 0 [.sl false 2 (Mp zC d_1),.sl false 5 (Mp zK l_1),Ii i_2,.bool (decide (i_2<(lN (l_1))))] [] zF (ac (yF _:((Mp zK l_1)).length=(l_1).length) an) ?_
  refine cd 82 (decide (i_2<(lN (l_1)))) ?_ ?_
  rotate_left
  ·intro g_7;replace h:=zQ g_7 h
   refine xM (id:=3) (by kernel_rfl) ?_
   cases h
   exact ⟨rfl,(sw [] [] [] [] an)⟩
  intro g_7;replace h:=zR g_7 h
  refine sk ?_
  refine sq ?_
  refine yD (id:=4) (by kernel_rfl) ?_
  refine sq ?_
  obtain ⟨x_8,zEV,h⟩:=bind_some h
  obtain ⟨r_2,zEW,h⟩:=bind_some h
  refine rg [(3,{ av:=zK x_8 }),(5,{ av:=Ii r_2,l:=[.sl false 2 (Mp zC d_1),zK x_8] })] [0,1,6,7] [] 0 [.sl false 2 (Mp zC d_1),.sl false 5 (Mp zK l_1),Ii i_2,Ii r_2] [] zF (ac (yR zEV:xJ (Mp zK l_1) i_2=some (zK x_8)) (ar ([.sl false 2 (Mp zC d_1),zK x_8]:List AV) (ac (rfl:([]:List zW)=[]) (ac (zLg F d_1 x_8 r_2 zEW:zV prog 70 [] [] [.sl false 2 (Mp zC d_1),zK x_8] [] (Ii r_2)) an)))) ?_
  refine sr [] [0,1,6,7,92] [] 0 [.sl false 2 (Mp zC d_1),.sl false 5 (Mp zK l_1),Ii i_2,Ii r_2,.bool (r_2 != (0:Int))] [] zF an ?_
  refine cd 92 (r_2 != (0:Int)) ?_ ?_
  rotate_left
  ·intro g_8;replace h:=zQ g_8 h
   refine sk ?_
   refine rg [] [0,1,6] [] 0 [.sl false 2 (Mp zC d_1),.sl false 5 (Mp zK l_1),Ii (zP (i_2+(1:Int)))] [] zF an ?_
   exact ⟨_,(sw [] [] [.s 0,.s 1,.s 6] [] an),_,rfl,h⟩
  intro g_8;replace h:=zR g_8 h
  refine sr [] [4] [] 0 [Ii r_2] [] zF an ?_
  refine rt ?_
  cases h
  exact ⟨rfl,Nat.le_of_ble_eq_true rfl,by kernel_rfl⟩
 intro e st1 hk
 rcases o_2 with q_3 | q_4
 rotate_left
 ·obtain ⟨rfl,hf⟩:=hk
  cases h
  exact ⟨st1,Sub.refl _ _,.inr rfl,hf⟩
 obtain ⟨rfl,hs⟩:=hk
 refine ⟨_,hs,?_⟩
 refine sr [] [4] [] 0 [Ii 0] [] zF an ?_
 refine rt ?_
 cases h
 exact ⟨.inr rfl,Nat.le_of_ble_eq_true rfl,by kernel_rfl⟩
theorem zMV (F:Nat) (d_1:List (zU)) (yM:Int) (r:Int×Bool) (h:zD8 F d_1 yM=some r):zV prog 55 [] [] [.sl false 2 (Mp zC d_1),Ii yM] [] (.tuple [Ii r.1,.bool r.2]):=by
 refine yG (fn:=Go.Proofs.Try.f55) (code:=xC Go.Proofs.Try.f55) (by kernel_rfl) (by kernel_rfl) (Nat.le_of_ble_eq_true (by kernel_rfl)) ?_
 unfold zD8 at h
 refine sr [] [0,1] [] 0 [.sl false 2 (Mp zC d_1),Ii yM] [] zF an ?_
 refine sq ?_
 obtain ⟨r_1,h_1,h⟩:=bind_some h
 refine rg [(2,{ av:=Ii r_1,l:=[.sl false 2 (Mp zC d_1),Ii yM] })] [0,6] [] 0 [.sl false 2 (Mp zC d_1),Ii r_1] [] zF (ar ([.sl false 2 (Mp zC d_1),Ii yM]:List AV) (ac (rfl:([]:List zW)=[]) (ac (zAU F d_1 yM r_1 h_1:zV prog 69 [] [] [.sl false 2 (Mp zC d_1),Ii yM] [] (Ii r_1)) an))) ?_
 refine sq ?_
 refine sq ?_
 obtain ⟨p_1,h_3,h⟩:=bind_some h
 refine y4 (mk [(0,.sl false 2 (Mp zC d_1)),(6,Ii r_1),(16,.bool p_1)] [] 0) ?_ ?_
 ·replace h:=h_3
  obtain ⟨r_2,h_2,h⟩:=bind_some h
  rcases bft (r_2 != (0:Int)) with zH | zH
  ·replace h:=zR zH h
   refine rg [(1,{ av:=Ii r_2,l:=[.sl false 2 (Mp zC d_1),.nilsl] }),(4,Hg),(5,Hg),(6,Ht)] [0,6,16] [] 0 [.sl false 2 (Mp zC d_1),Ii r_1,.bool true] [] zF (ar ([.sl false 2 (Mp zC d_1),.nilsl]:List AV) (ac (rfl:([]:List zW)=[]) (ac (zBg (args':=[.sl false 2 (Mp zC d_1),.sl false 5 []]) (zDg F d_1 [] r_2 h_2) rfl ⟨rfl,rfl,rfl,rfl,trivial⟩:zV prog 54 [] [] [.sl false 2 (Mp zC d_1),.nilsl] [] (Ii r_2)) (ac zH (ac zH (ac zH an)))))) ?_
   cases h
   exact ⟨rfl,(sw [] [] [.s 0,.s 6,.s 16] [] an)⟩
  ·replace h:=zQ zH h
   refine rg [(1,{ av:=Ii r_2,l:=[.sl false 2 (Mp zC d_1),.nilsl] }),(6,Hf)] [0,6,16] [] 0 [.sl false 2 (Mp zC d_1),Ii r_1,.bool (decide (r_1<(0:Int)))] [] zF (ar ([.sl false 2 (Mp zC d_1),.nilsl]:List AV) (ac (rfl:([]:List zW)=[]) (ac (zBg (args':=[.sl false 2 (Mp zC d_1),.sl false 5 []]) (zDg F d_1 [] r_2 h_2) rfl ⟨rfl,rfl,rfl,rfl,trivial⟩:zV prog 54 [] [] [.sl false 2 (Mp zC d_1),.nilsl] [] (Ii r_2)) (ac zH (ac zH (ac zH an)))))) ?_
   cases h
   exact ⟨rfl,(sw [] [] [.s 0,.s 6,.s 16] [] an)⟩
 refine cd 16 p_1 ?_ ?_
 ·intro g_1;replace h:=zR g_1 h
  refine sr [] [4,5] [] 0 [Ii 0,.bool false] [] zF an ?_
  refine rt ?_
  cases h
  exact ⟨.inr rfl,Nat.le_of_ble_eq_true rfl,by kernel_rfl⟩
 intro g_1;replace h:=zQ g_1 h
 refine sk ?_
 refine sq ?_
 obtain ⟨x_1,h_4,h⟩:=bind_some h
 refine rg [(2,{ av:=zC x_1 })] [4,5] [] 0 [Ii x_1.Ppm,.bool true] [] zF (ac (yR h_4:xJ (Mp zC d_1) r_1=some (zC x_1)) an) ?_
 refine rt ?_
 cases h
 exact ⟨.inr rfl,Nat.le_of_ble_eq_true rfl,by kernel_rfl⟩
theorem zLs (F:Nat) (h_1:zL) (r:Int) (h:zDb F h_1=some r):zV prog 30 [] [] [yU h_1] [] (Ii r):=by
 refine yG (fn:=Go.Proofs.Try.f30) (code:=xC Go.Proofs.Try.f30) (by kernel_rfl) (by kernel_rfl) (Nat.le_of_ble_eq_true (by kernel_rfl)) ?_
 unfold zDb at h
 refine sr [(0,{ id:=0 })] [1] [0] 1 [Pp 0] [Vb 26 (zN h_1)] zF an ?_
 refine sq ?_
 refine sr [(2,{ n:=(h_1.Threads).length })] [1,13] [0] 1 [Pp 0,.bool ((lN (h_1.Threads))==(0:Int))] [Vb 26 (zN h_1)] zF (ac (yF _:((Mp zG h_1.Threads)).length=(h_1.Threads).length) an) ?_
 refine cd 13 ((lN (h_1.Threads))==(0:Int)) ?_ ?_
 ·intro g_1;replace h:=zR g_1 h
  refine sr [] [2] [] 1 [Ii 8] [] zF an ?_
  refine rt ?_
  cases h
  exact ⟨.inr rfl,Nat.le_of_ble_eq_true rfl,by kernel_rfl⟩
 intro g_1;replace h:=zQ g_1 h
 refine sk ?_
 refine sq ?_
 refine sr [(2,{ n:=(h_1.Threads).length })] [1,17] [0] 1 [Pp 0,.bool (decide ((lN (h_1.Threads))>(64:Int)))] [Vb 26 (zN h_1)] zF (ac (yF _:((Mp zG h_1.Threads)).length=(h_1.Threads).length) an) ?_
 refine cd 17 (decide ((lN (h_1.Threads))>(64:Int))) ?_ ?_
 ·intro g_2;replace h:=zR g_2 h
  refine sr [] [2] [] 1 [Ii 7] [] zF an ?_
  refine rt ?_
  cases h
  exact ⟨.inr rfl,Nat.le_of_ble_eq_true rfl,by kernel_rfl⟩
 intro g_2;replace h:=zQ g_2 h
 refine sk ?_
 refine sq ?_
 refine sr [] [1,3] [0] 1 [Pp 0,Ii 0] [Vb 26 (zN h_1)] zF an ?_
 obtain ⟨o_1,h_2,h⟩:=bind_some h
 refine wI (K1:=(fun e st'=>match o_1 with | (.inl q0)=>e=.normal∧Sub 0 st' (mk [(1,Pp 0)] [(0,Vb 26 (zN h_1))] 1) | (.inr q1)=>e=.ret∧uE prog Go.Proofs.Try.f30 0 [] (Ii q1) st')) ?_ ?_
 ·replace h:=h_2
  refine yD (id:=0) (by kernel_rfl) ?_
  refine wk [0] [] [.s 1,.s 3] [.s 0] [(1,Pp 0),(3,Ii 0)] [(0,Vb 26 (zN h_1))] an ?_
  refine xI (fun n st=>∃ (i_1:Int),st=mk [(1,Pp 0),(3,Ii i_1)] [(0,Vb 26 (zN h_1))] 1∧zAS F h_1 n i_1=some o_1) F (by kernel_rfl) ⟨_,rfl,h⟩ ?_ ?_
  ·rintro _ ⟨_,_,h⟩;exact xN (h:(none:Option (Unit⊕Int))=some o_1)
  rintro n_1 _ ⟨i_1,rfl,h⟩
  replace h:t3 F h_1 (zAS F h_1 n_1) i_1=some o_1:=h
  unfold t3 at h
  refine sq ?_
  refine sr [(3,{ n:=(h_1.Threads).length })] [1,3,22] [0] 1 [Pp 0,Ii i_1,.bool (decide (i_1<(lN (h_1.Threads))))] [Vb 26 (zN h_1)] zF (ac (yF _:((Mp zG h_1.Threads)).length=(h_1.Threads).length) an) ?_
  refine cd 22 (decide (i_1<(lN (h_1.Threads)))) ?_ ?_
  rotate_left
  ·intro g_3;replace h:=zQ g_3 h
   refine xM (id:=0) (by kernel_rfl) ?_
   cases h
   exact ⟨rfl,(sw [0] [] [.s 1] [.s 0] an)⟩
  intro g_3;replace h:=zR g_3 h
  refine sk ?_
  refine sq ?_
  refine yD (id:=1) (by kernel_rfl) ?_
  refine sq ?_
  obtain ⟨x_1,h_3,h⟩:=bind_some h
  obtain ⟨r_1,h_4,h⟩:=bind_some h
  refine rg [(3,{ av:=zG x_1 }),(5,{ av:=Ii r_1,l:=[zG x_1] })] [1,3,4] [0] 1 [Pp 0,Ii i_1,Ii r_1] [Vb 26 (zN h_1)] zF (ac (yR h_3:xJ (Mp zG h_1.Threads) i_1=some (zG x_1)) (ar ([zG x_1]:List AV) (ac (rfl:([]:List zW)=[]) (ac (zI6 F x_1 r_1 h_4:zV prog 53 [] [] [zG x_1] [] (Ii r_1)) an)))) ?_
  refine sq ?_
  refine sr [] [1,3,4,32] [0] 1 [Pp 0,Ii i_1,Ii r_1,.bool (r_1 != (0:Int))] [Vb 26 (zN h_1)] zF an ?_
  refine cd 32 (r_1 != (0:Int)) ?_ ?_
  ·intro g_4;replace h:=zR g_4 h
   refine sr [] [2] [] 1 [Ii r_1] [] zF an ?_
   refine rt ?_
   cases h
   exact ⟨rfl,Nat.le_of_ble_eq_true rfl,by kernel_rfl⟩
  intro g_4;replace h:=zQ g_4 h
  refine sk ?_
  refine sr [] [1,3,5] [0] 1 [Pp 0,Ii i_1,Ii 0] [Vb 26 (zN h_1)] zF an ?_
  obtain ⟨o_2,h_5,h⟩:=bind_some h
  refine wI (K1:=(fun e st'=>match o_2 with | (.inl q0)=>e=.normal∧Sub 0 st' (mk [(1,Pp 0),(3,Ii i_1)] [(0,Vb 26 (zN h_1))] 1) | (.inr q1)=>e=.ret∧uE prog Go.Proofs.Try.f30 0 [] (Ii q1) st')) ?_ ?_
  ·replace h:=h_5
   refine yD (id:=2) (by kernel_rfl) ?_
   refine wk [0] [] [.s 1,.s 3,.s 5] [.s 0] [(1,Pp 0),(3,Ii i_1),(5,Ii 0)] [(0,Vb 26 (zN h_1))] an ?_
   refine xI (fun n st=>∃ (k_1:Int),st=mk [(1,Pp 0),(3,Ii i_1),(5,Ii k_1)] [(0,Vb 26 (zN h_1))] 1∧nZ F h_1 i_1 n k_1=some o_2) F (by kernel_rfl) ⟨_,rfl,h⟩ ?_ ?_
   ·rintro _ ⟨_,_,h⟩;exact xN (h:(none:Option (Unit⊕Int))=some o_2)
   rintro n_2 _ ⟨k_1,rfl,h⟩
   replace h:t8 F h_1 i_1 (nZ F h_1 i_1 n_2) k_1=some o_2:=h
   unfold t8 at h
   refine sq ?_
   refine sr [] [1,3,5,36] [0] 1 [Pp 0,Ii i_1,Ii k_1,.bool (decide (k_1<i_1))] [Vb 26 (zN h_1)] zF an ?_
   refine cd 36 (decide (k_1<i_1)) ?_ ?_
   rotate_left
   ·intro g_5;replace h:=zQ g_5 h
    refine xM (id:=2) (by kernel_rfl) ?_
    cases h
    exact ⟨rfl,(sw [0] [] [.s 1,.s 3] [.s 0] an)⟩
   intro g_5;replace h:=zR g_5 h
   refine sk ?_
   refine sq ?_
   refine yD (id:=3) (by kernel_rfl) ?_
   refine sq ?_
   obtain ⟨x_2,h_6,h⟩:=bind_some h
   obtain ⟨x_3,h_7,h⟩:=bind_some h
   refine rg [(3,{ av:=zG x_2 }),(9,{ av:=zG x_3 })] [1,3,5,51] [0] 1 [Pp 0,Ii i_1,Ii k_1,.bool (x_2.Id==x_3.Id)] [Vb 26 (zN h_1)] zF (ac (yR h_6:xJ (Mp zG h_1.Threads) k_1=some (zG x_2)) (ac (yR h_7:xJ (Mp zG h_1.Threads) i_1=some (zG x_3)) an)) ?_
   refine cd 51 (x_2.Id==x_3.Id) ?_ ?_
   rotate_left
   ·intro g_6;replace h:=zQ g_6 h
    refine sk ?_
    refine rg [] [1,3,5] [0] 1 [Pp 0,Ii i_1,Ii (zP (k_1+(1:Int)))] [Vb 26 (zN h_1)] zF an ?_
    exact ⟨_,(sw [0] [] [.s 1,.s 3,.s 5] [.s 0] an),_,rfl,h⟩
   intro g_6;replace h:=zR g_6 h
   refine sr [] [2] [] 1 [Ii 4] [] zF an ?_
   refine rt ?_
   cases h
   exact ⟨rfl,Nat.le_of_ble_eq_true rfl,by kernel_rfl⟩
  intro e st1 hk
  rcases o_2 with q_1 | q_2
  rotate_left
  ·obtain ⟨rfl,hf⟩:=hk
   cases h
   exact ⟨_,Sub.refl _ _,rfl,hf⟩
  obtain ⟨rfl,hs⟩:=hk
  refine ⟨_,hs,?_⟩
  refine rg [] [1,3] [0] 1 [Pp 0,Ii (zP (i_1+(1:Int)))] [Vb 26 (zN h_1)] zF an ?_
  exact ⟨_,(sw [0] [] [.s 1,.s 3] [.s 0] an),_,rfl,h⟩
 intro e st1 hk
 rcases o_1 with q_3 | q_4
 rotate_left
 ·obtain ⟨rfl,hf⟩:=hk
  cases h
  exact ⟨st1,Sub.refl _ _,.inr rfl,hf⟩
 obtain ⟨rfl,hs⟩:=hk
 refine ⟨_,hs,?_⟩
 refine sq ?_
 obtain ⟨r_2,h_8,h⟩:=bind_some h
 refine rg [(4,{ av:=Ii r_2,l:=[.sl false 2 (Mp zC h_1.Domains),.sl false 5 (Mp zK h_1.Snaps)] })] [1,6] [0] 1 [Pp 0,Ii r_2] [Vb 26 (zN h_1)] zF (ar ([.sl false 2 (Mp zC h_1.Domains),.sl false 5 (Mp zK h_1.Snaps)]:List AV) (ac (rfl:([]:List zW)=[]) (ac (zDg F h_1.Domains h_1.Snaps r_2 h_8:zV prog 54 [] [] [.sl false 2 (Mp zC h_1.Domains),.sl false 5 (Mp zK h_1.Snaps)] [] (Ii r_2)) an))) ?_
 refine sq ?_
 refine sr [] [1,6,58] [0] 1 [Pp 0,Ii r_2,.bool (r_2 != (0:Int))] [Vb 26 (zN h_1)] zF an ?_
 refine cd 58 (r_2 != (0:Int)) ?_ ?_
 ·intro g_7;replace h:=zR g_7 h
  refine sr [] [2] [] 1 [Ii r_2] [] zF an ?_
  refine rt ?_
  cases h
  exact ⟨.inr rfl,Nat.le_of_ble_eq_true rfl,by kernel_rfl⟩
 intro g_7;replace h:=zQ g_7 h
 refine sk ?_
 refine sq ?_
 refine sr [] [1,7] [0] 1 [Pp 0,Ii 0] [Vb 26 (zN h_1)] zF an ?_
 obtain ⟨o_3,h_9,h⟩:=bind_some h
 refine wI (K1:=(fun e st'=>match o_3 with | (.inl q0)=>e=.normal∧Sub 0 st' (mk [] [] 0) | (.inr q1)=>e=.ret∧uE prog Go.Proofs.Try.f30 0 [] (Ii q1) st')) ?_ ?_
 ·replace h:=h_9
  refine yD (id:=4) (by kernel_rfl) ?_
  refine wk [0] [] [.s 1,.s 7] [.s 0] [(1,Pp 0),(7,Ii 0)] [(0,Vb 26 (zN h_1))] an ?_
  refine xI (fun n st=>∃ (i_2:Int),st=mk [(1,Pp 0),(7,Ii i_2)] [(0,Vb 26 (zN h_1))] 1∧nW F h_1 n i_2=some o_3) F (by kernel_rfl) ⟨_,rfl,h⟩ ?_ ?_
  ·rintro _ ⟨_,_,h⟩;exact xN (h:(none:Option (Unit⊕Int))=some o_3)
  rintro n_3 _ ⟨i_2,rfl,h⟩
  replace h:t7 F h_1 (nW F h_1 n_3) i_2=some o_3:=h
  unfold t7 at h
  refine sq ?_
  refine sr [(3,{ n:=(h_1.Threads).length })] [1,7,64] [0] 1 [Pp 0,Ii i_2,.bool (decide (i_2<(lN (h_1.Threads))))] [Vb 26 (zN h_1)] zF (ac (yF _:((Mp zG h_1.Threads)).length=(h_1.Threads).length) an) ?_
  refine cd 64 (decide (i_2<(lN (h_1.Threads)))) ?_ ?_
  rotate_left
  ·intro g_8;replace h:=zQ g_8 h
   refine xM (id:=4) (by kernel_rfl) ?_
   cases h
   exact ⟨rfl,(sw [] [] [] [] an)⟩
  intro g_8;replace h:=zR g_8 h
  refine sk ?_
  refine sq ?_
  refine yD (id:=5) (by kernel_rfl) ?_
  refine sq ?_
  obtain ⟨x_4,tT,h⟩:=bind_some h
  obtain ⟨r_3,tU,h⟩:=bind_some h
  refine rg [(5,{ av:=zG x_4 }),(8,{ av:=.tuple [Ii r_3.1,.bool r_3.2],l:=[.sl false 2 (Mp zC h_1.Domains),Ii x_4.Domain] })] [1,7,9] [0] 1 [Pp 0,Ii i_2,.bool r_3.2] [Vb 26 (zN h_1)] zF (ac (yR tT:xJ (Mp zG h_1.Threads) i_2=some (zG x_4)) (ar ([.sl false 2 (Mp zC h_1.Domains),Ii x_4.Domain]:List AV) (ac (rfl:([]:List zW)=[]) (ac (zMV F h_1.Domains x_4.Domain r_3 tU:zV prog 55 [] [] [.sl false 2 (Mp zC h_1.Domains),Ii x_4.Domain] [] (.tuple [Ii r_3.1,.bool r_3.2])) an)))) ?_
  refine sr [] [1,7,80] [0] 1 [Pp 0,Ii i_2,.bool (!r_3.2)] [Vb 26 (zN h_1)] zF an ?_
  refine cd 80 (!r_3.2) ?_ ?_
  rotate_left
  ·intro g_9;replace h:=zQ g_9 h
   refine sk ?_
   refine rg [] [1,7] [0] 1 [Pp 0,Ii (zP (i_2+(1:Int)))] [Vb 26 (zN h_1)] zF an ?_
   exact ⟨_,(sw [0] [] [.s 1,.s 7] [.s 0] an),_,rfl,h⟩
  intro g_9;replace h:=zR g_9 h
  refine sr [] [2] [] 1 [Ii 5] [] zF an ?_
  refine rt ?_
  cases h
  exact ⟨rfl,Nat.le_of_ble_eq_true rfl,by kernel_rfl⟩
 intro e st1 hk
 rcases o_3 with q_5 | q_6
 rotate_left
 ·obtain ⟨rfl,hf⟩:=hk
  cases h
  exact ⟨st1,Sub.refl _ _,.inr rfl,hf⟩
 obtain ⟨rfl,hs⟩:=hk
 refine ⟨_,hs,?_⟩
 refine sr [] [2] [] 0 [Ii 0] [] zF an ?_
 refine rt ?_
 cases h
 exact ⟨.inr rfl,Nat.le_of_ble_eq_true rfl,by kernel_rfl⟩
theorem tW (n_1:Int) (r:Bool) (h:nF n_1=some r):zV prog 56 [] [] [Ii n_1] [] (.bool r):=by
 refine yG (fn:=Go.Proofs.Try.f56) (code:=xC Go.Proofs.Try.f56) (by kernel_rfl) (by kernel_rfl) (Nat.le_of_ble_eq_true (by kernel_rfl)) ?_
 unfold nF at h
 refine sr [] [0] [] 0 [Ii n_1] [] zF an ?_
 refine sq ?_
 refine y4 (mk [(2,.bool (decide (n_1≥(0:Int))&&decide (n_1≤(1000000000000000:Int))))] [] 0) ?_ ?_
 ·rcases bft (decide (n_1≥(0:Int))) with zH | zH
  ·refine rg [(5,Ht)] [2] [] 0 [.bool (decide (n_1≤(1000000000000000:Int)))] [] zF (ac zH (ac zH (ac zH an))) ?_
   exact ⟨rfl,(sw [] [] [.a 2 (.bool (decide (n_1≥(0:Int))&&decide (n_1≤(1000000000000000:Int))))] [] (ac (congrArg AV.bool (uO zH rfl):(.bool (decide (n_1≤(1000000000000000:Int))):AV)=.bool (decide (n_1≥(0:Int))&&decide (n_1≤(1000000000000000:Int)))) an))⟩
  ·refine rg [(3,Hg),(4,Hg),(5,Hf)] [2] [] 0 [.bool false] [] zF (ac zH (ac zH (ac zH an))) ?_
   exact ⟨rfl,(sw [] [] [.a 2 (.bool (decide (n_1≥(0:Int))&&decide (n_1≤(1000000000000000:Int))))] [] (ac (congrArg AV.bool (j0 zH):(.bool false:AV)=.bool (decide (n_1≥(0:Int))&&decide (n_1≤(1000000000000000:Int)))) an))⟩
 refine rt ?_
 cases h
 exact ⟨.inr rfl,Nat.le_of_ble_eq_true rfl,by kernel_rfl⟩
theorem zLA (k_1:Int) (r:Bool×Bool×Bool×Bool) (h:zEF k_1=some r):zV prog 80 [] [] [Ii k_1] [] (.tuple [.bool r.1,.bool r.2.1,.bool r.2.2.1,.bool r.2.2.2]):=by
 refine yG (fn:=Go.Proofs.Try.f80) (code:=xC Go.Proofs.Try.f80) (by kernel_rfl) (by kernel_rfl) (Nat.le_of_ble_eq_true (by kernel_rfl)) ?_
 unfold zEF at h
 refine sr [] [0] [] 0 [Ii k_1] [] zF an ?_
 refine sq ?_
 refine y4 (mk [(0,Ii k_1),(6,.bool ((k_1==(1:Int))||((k_1==(3:Int))||(k_1==(4:Int)))))] [] 0) ?_ ?_
 ·rcases bft (k_1==(1:Int)) with zH | zH
  ·refine rg [(3,Hg),(4,Hg),(5,Ht),(7,Hg),(8,Hg),(9,Ht)] [0,6] [] 0 [Ii k_1,.bool true] [] zF (ac zH (ac zH (ac zH (ax (ax (ar true an)))))) ?_
   exact ⟨rfl,(sw [] [] [.s 0,.a 6 (.bool ((k_1==(1:Int))||((k_1==(3:Int))||(k_1==(4:Int)))))] [] (ac (congrArg AV.bool (ort zH):(.bool true:AV)=.bool ((k_1==(1:Int))||((k_1==(3:Int))||(k_1==(4:Int))))) an))⟩
  ·rcases bft (k_1==(3:Int)) with zJ | zJ
   ·refine rg [(5,Hf),(7,Hg),(8,Hg),(9,Ht)] [0,6] [] 0 [Ii k_1,.bool true] [] zF (ac zH (ac zH (ac zH (ac zJ (ac zJ (ac zJ an)))))) ?_
    exact ⟨rfl,(sw [] [] [.s 0,.a 6 (.bool ((k_1==(1:Int))||((k_1==(3:Int))||(k_1==(4:Int)))))] [] (ac (congrArg AV.bool (orf zH (ort zJ)):(.bool true:AV)=.bool ((k_1==(1:Int))||((k_1==(3:Int))||(k_1==(4:Int))))) an))⟩
   ·refine rg [(5,Hf),(9,Hf)] [0,6] [] 0 [Ii k_1,.bool (k_1==(4:Int))] [] zF (ac zH (ac zH (ac zH (ac zJ (ac zJ (ac zJ an)))))) ?_
    exact ⟨rfl,(sw [] [] [.s 0,.a 6 (.bool ((k_1==(1:Int))||((k_1==(3:Int))||(k_1==(4:Int)))))] [] (ac (congrArg AV.bool (orf zH (orf zJ rfl)):(.bool (k_1==(4:Int)):AV)=.bool ((k_1==(1:Int))||((k_1==(3:Int))||(k_1==(4:Int))))) an))⟩
 refine sr [] [0,6,7] [] 0 [Ii k_1,.bool ((k_1==(1:Int))||((k_1==(3:Int))||(k_1==(4:Int)))),.bool (decide (k_1≥(4:Int)))] [] zF an ?_
 refine sq ?_
 refine y4 (mk [(0,Ii k_1),(6,.bool ((k_1==(1:Int))||((k_1==(3:Int))||(k_1==(4:Int))))),(7,.bool (decide (k_1≥(4:Int)))),(8,.bool ((k_1==(9:Int))||(k_1==(11:Int))))] [] 0) ?_ ?_
 ·rcases bft (k_1==(9:Int)) with zO | zO
  ·refine rg [(3,Hg),(4,Hg),(5,Ht)] [0,6,7,8] [] 0 [Ii k_1,.bool ((k_1==(1:Int))||((k_1==(3:Int))||(k_1==(4:Int)))),.bool (decide (k_1≥(4:Int))),.bool true] [] zF (ac zO (ac zO (ac zO an))) ?_
   exact ⟨rfl,(sw [] [] [.s 0,.s 6,.s 7,.a 8 (.bool ((k_1==(9:Int))||(k_1==(11:Int))))] [] (ac (congrArg AV.bool (ort zO):(.bool true:AV)=.bool ((k_1==(9:Int))||(k_1==(11:Int)))) an))⟩
  ·refine rg [(5,Hf)] [0,6,7,8] [] 0 [Ii k_1,.bool ((k_1==(1:Int))||((k_1==(3:Int))||(k_1==(4:Int)))),.bool (decide (k_1≥(4:Int))),.bool (k_1==(11:Int))] [] zF (ac zO (ac zO (ac zO an))) ?_
   exact ⟨rfl,(sw [] [] [.s 0,.s 6,.s 7,.a 8 (.bool ((k_1==(9:Int))||(k_1==(11:Int))))] [] (ac (congrArg AV.bool (orf zO rfl):(.bool (k_1==(11:Int)):AV)=.bool ((k_1==(9:Int))||(k_1==(11:Int)))) an))⟩
 refine sq ?_
 refine y4 (mk [(6,.bool ((k_1==(1:Int))||((k_1==(3:Int))||(k_1==(4:Int))))),(7,.bool (decide (k_1≥(4:Int)))),(8,.bool ((k_1==(9:Int))||(k_1==(11:Int)))),(9,.bool ((k_1==(5:Int))||(k_1==(11:Int))))] [] 0) ?_ ?_
 ·rcases bft (k_1==(5:Int)) with zS | zS
  ·refine rg [(3,Hg),(4,Hg),(5,Ht)] [6,7,8,9] [] 0 [.bool ((k_1==(1:Int))||((k_1==(3:Int))||(k_1==(4:Int)))),.bool (decide (k_1≥(4:Int))),.bool ((k_1==(9:Int))||(k_1==(11:Int))),.bool true] [] zF (ac zS (ac zS (ac zS an))) ?_
   exact ⟨rfl,(sw [] [] [.s 6,.s 7,.s 8,.a 9 (.bool ((k_1==(5:Int))||(k_1==(11:Int))))] [] (ac (congrArg AV.bool (ort zS):(.bool true:AV)=.bool ((k_1==(5:Int))||(k_1==(11:Int)))) an))⟩
  ·refine rg [(5,Hf)] [6,7,8,9] [] 0 [.bool ((k_1==(1:Int))||((k_1==(3:Int))||(k_1==(4:Int)))),.bool (decide (k_1≥(4:Int))),.bool ((k_1==(9:Int))||(k_1==(11:Int))),.bool (k_1==(11:Int))] [] zF (ac zS (ac zS (ac zS an))) ?_
   exact ⟨rfl,(sw [] [] [.s 6,.s 7,.s 8,.a 9 (.bool ((k_1==(5:Int))||(k_1==(11:Int))))] [] (ac (congrArg AV.bool (orf zS rfl):(.bool (k_1==(11:Int)):AV)=.bool ((k_1==(5:Int))||(k_1==(11:Int)))) an))⟩
 refine sr [] [2,3,4,5] [] 0 [.bool ((k_1==(1:Int))||((k_1==(3:Int))||(k_1==(4:Int)))),.bool (decide (k_1≥(4:Int))),.bool ((k_1==(9:Int))||(k_1==(11:Int))),.bool ((k_1==(5:Int))||(k_1==(11:Int)))] [] zF an ?_
 refine rt ?_
 cases h
 exact ⟨.inr rfl,Nat.le_of_ble_eq_true rfl,by kernel_rfl⟩
theorem zI8 (F:Nat) (l_1:List (List Int)) (r:Int) (h:zBO F l_1=some r):zV prog 81 [] [] [.sl false 1 (Ms l_1)] [] (Ii r):=by
 refine yG (fn:=Go.Proofs.Try.f81) (code:=xC Go.Proofs.Try.f81) (by kernel_rfl) (by kernel_rfl) (Nat.le_of_ble_eq_true (by kernel_rfl)) ?_
 unfold zBO at h
 refine sr [] [0] [] 0 [.sl false 1 (Ms l_1)] [] zF an ?_
 refine sq ?_
 refine sr [(1,{ n:=(l_1).length })] [0,6] [] 0 [.sl false 1 (Ms l_1),.bool (decide ((lN (l_1))>(32:Int)))] [] zF (ac (yF _:((Ms l_1)).length=(l_1).length) an) ?_
 refine cd 6 (decide ((lN (l_1))>(32:Int))) ?_ ?_
 ·intro g_1;replace h:=zR g_1 h
  refine sr [] [2] [] 0 [Ii 7] [] zF an ?_
  refine rt ?_
  cases h
  exact ⟨.inr rfl,Nat.le_of_ble_eq_true rfl,by kernel_rfl⟩
 intro g_1;replace h:=zQ g_1 h
 refine sk ?_
 refine sq ?_
 refine sr [] [0,3] [] 0 [.sl false 1 (Ms l_1),Ii 0] [] zF an ?_
 obtain ⟨o_1,h_1,h⟩:=bind_some h
 refine wI (K1:=(fun e st'=>match o_1 with | (.inl q0)=>e=.normal∧Sub 0 st' (mk [] [] 0) | (.inr q1)=>e=.ret∧uE prog Go.Proofs.Try.f81 0 [] (Ii q1) st')) ?_ ?_
 ·replace h:=h_1
  refine yD (id:=0) (by kernel_rfl) ?_
  refine wk [] [] [.s 0,.s 3] [] [(0,.sl false 1 (Ms l_1)),(3,Ii 0)] [] an ?_
  refine xI (fun n st=>∃ (i_1:Int),st=mk [(0,.sl false 1 (Ms l_1)),(3,Ii i_1)] [] 0∧nP F l_1 n i_1=some o_1) F (by kernel_rfl) ⟨_,rfl,h⟩ ?_ ?_
  ·rintro _ ⟨_,_,h⟩;exact xN (h:(none:Option (Unit⊕Int))=some o_1)
  rintro n_1 _ ⟨i_1,rfl,h⟩
  replace h:q6 F l_1 (nP F l_1 n_1) i_1=some o_1:=h
  unfold q6 at h
  refine sq ?_
  refine sr [(2,{ n:=(l_1).length })] [0,3,10] [] 0 [.sl false 1 (Ms l_1),Ii i_1,.bool (decide (i_1<(lN (l_1))))] [] zF (ac (yF _:((Ms l_1)).length=(l_1).length) an) ?_
  refine cd 10 (decide (i_1<(lN (l_1)))) ?_ ?_
  rotate_left
  ·intro g_2;replace h:=zQ g_2 h
   refine xM (id:=0) (by kernel_rfl) ?_
   cases h
   exact ⟨rfl,(sw [] [] [] [] an)⟩
  intro g_2;replace h:=zR g_2 h
  refine sk ?_
  refine sq ?_
  refine yD (id:=1) (by kernel_rfl) ?_
  refine sq ?_
  obtain ⟨x_1,h_2,h⟩:=bind_some h
  obtain ⟨r_1,h_3,h⟩:=bind_some h
  refine rg [(2,{ av:=.str x_1 }),(4,{ av:=Ii r_1,l:=[.str x_1] })] [0,3,18] [] 0 [.sl false 1 (Ms l_1),Ii i_1,.bool (r_1 != (0:Int))] [] zF (ac (yR h_2:xJ (Ms l_1) i_1=some (.str x_1)) (ar ([.str x_1]:List AV) (ac (rfl:([]:List zW)=[]) (ac (zDW F x_1 r_1 h_3:zV prog 68 [] [] [.str x_1] [] (Ii r_1)) an)))) ?_
  refine cd 18 (r_1 != (0:Int)) ?_ ?_
  rotate_left
  ·intro g_3;replace h:=zQ g_3 h
   refine sk ?_
   refine rg [] [0,3] [] 0 [.sl false 1 (Ms l_1),Ii (zP (i_1+(1:Int)))] [] zF an ?_
   exact ⟨_,(sw [] [] [.s 0,.s 3] [] an),_,rfl,h⟩
  intro g_3;replace h:=zR g_3 h
  refine sr [] [2] [] 0 [Ii 3] [] zF an ?_
  refine rt ?_
  cases h
  exact ⟨rfl,Nat.le_of_ble_eq_true rfl,by kernel_rfl⟩
 intro e st1 hk
 rcases o_1 with q_1 | q_2
 rotate_left
 ·obtain ⟨rfl,hf⟩:=hk
  cases h
  exact ⟨st1,Sub.refl _ _,.inr rfl,hf⟩
 obtain ⟨rfl,hs⟩:=hk
 refine ⟨_,hs,?_⟩
 refine sr [] [2] [] 0 [Ii 0] [] zF an ?_
 refine rt ?_
 cases h
 exact ⟨.inr rfl,Nat.le_of_ble_eq_true rfl,by kernel_rfl⟩
theorem jF (n_1:Int) (zA4:Int) (pW:Int) (r:Int) (h:qI n_1 zA4 pW=some r):zV prog 88 [] [] [Ii n_1,Ii zA4,Ii pW] [] (Ii r):=by
 refine yG (fn:=Go.Proofs.Try.f88) (code:=xC Go.Proofs.Try.f88) (by kernel_rfl) (by kernel_rfl) (Nat.le_of_ble_eq_true (by kernel_rfl)) ?_
 unfold qI at h
 refine sr [] [0,1,2] [] 0 [Ii n_1,Ii zA4,Ii pW] [] zF an ?_
 refine sq ?_
 refine sq ?_
 refine y4 (mk [(14,.bool (decide (n_1<zA4)||decide (n_1>pW)))] [] 0) ?_ ?_
 ·rcases bft (decide (n_1<zA4)) with zH | zH
  ·refine rg [(4,Hg),(5,Hg),(6,Hg),(7,Ht)] [14] [] 0 [.bool true] [] zF (ac zH (ac zH (ac zH (ac zH an)))) ?_
   exact ⟨rfl,(sw [] [] [.a 14 (.bool (decide (n_1<zA4)||decide (n_1>pW)))] [] (ac (congrArg AV.bool (ort zH):(.bool true:AV)=.bool (decide (n_1<zA4)||decide (n_1>pW))) an))⟩
  ·refine rg [(7,Hf)] [14] [] 0 [.bool (decide (n_1>pW))] [] zF (ac zH (ac zH (ac zH (ac zH an)))) ?_
   exact ⟨rfl,(sw [] [] [.a 14 (.bool (decide (n_1<zA4)||decide (n_1>pW)))] [] (ac (congrArg AV.bool (orf zH rfl):(.bool (decide (n_1>pW)):AV)=.bool (decide (n_1<zA4)||decide (n_1>pW))) an))⟩
 refine cd 14 (decide (n_1<zA4)||decide (n_1>pW)) ?_ ?_
 ·intro g_1;replace h:=zR g_1 h
  refine sr [] [6] [] 0 [Ii 2] [] zF an ?_
  refine rt ?_
  cases h
  exact ⟨.inr rfl,Nat.le_of_ble_eq_true rfl,by kernel_rfl⟩
 intro g_1;replace h:=zQ g_1 h
 refine sk ?_
 refine sr [] [6] [] 0 [Ii 0] [] zF an ?_
 refine rt ?_
 cases h
 exact ⟨.inr rfl,Nat.le_of_ble_eq_true rfl,by kernel_rfl⟩
theorem zIe (e_1:zI) (r:Int) (h:zAX e_1=some r):zV prog 82 [] [] [zD e_1] [] (Ii r):=by
 refine yG (fn:=Go.Proofs.Try.f82) (code:=xC Go.Proofs.Try.f82) (by kernel_rfl) (by kernel_rfl) (Nat.le_of_ble_eq_true (by kernel_rfl)) ?_
 unfold zAX at h
 refine sr [(0,{ id:=0 })] [1] [0] 1 [Pp 0] [Vb 42 (zT e_1)] zF an ?_
 refine sq ?_
 refine sr [] [1,6] [0] 1 [Pp 0,Ii e_1.Kind] [Vb 42 (zT e_1)] zF an ?_
 obtain ⟨o_1,h_1,h⟩:=bind_some h
 refine wI (K1:=(fun e st'=>match o_1 with | (.inl q0)=>e=.normal∧Sub 0 st' (mk [(1,Pp 0)] [(0,Vb 42 (zT e_1))] 1) | (.inr q1)=>e=.ret∧uE prog Go.Proofs.Try.f82 0 [] (Ii q1) st')) ?_ ?_
 ·replace h:=h_1
  refine yD (id:=0) (by kernel_rfl) ?_
  refine sq ?_
  refine sr [] [1,6,7] [0] 1 [Pp 0,Ii e_1.Kind,.bool (e_1.Kind==(1:Int))] [Vb 42 (zT e_1)] zF an ?_
  obtain ⟨o_2,h_2,h⟩:=bind_some h
  refine y4 (mk [(1,Pp 0),(6,Ii e_1.Kind),(7,.bool o_2)] [(0,Vb 42 (zT e_1))] 1) ?_ ?_
  ·replace h:=h_2
   refine cd 7 (e_1.Kind==(1:Int)) ?_ ?_
   ·intro g_1;replace h:=zR g_1 h
    refine sk ?_
    cases h
    exact ⟨rfl,(sw [0] [] [.s 1,.s 6,.s 7] [.s 0] an)⟩
   intro g_1;replace h:=zQ g_1 h
   refine sr [] [1,6,7] [0] 1 [Pp 0,Ii e_1.Kind,.bool (e_1.Kind==(2:Int))] [Vb 42 (zT e_1)] zF an ?_
   refine cd 7 (e_1.Kind==(2:Int)) ?_ ?_
   ·intro g_2;replace h:=zR g_2 h
    refine sk ?_
    cases h
    exact ⟨rfl,(sw [0] [] [.s 1,.s 6,.s 7] [.s 0] an)⟩
   intro g_2;replace h:=zQ g_2 h
   refine rg [] [1,6,7] [0] 1 [Pp 0,Ii e_1.Kind,.bool (e_1.Kind==(3:Int))] [Vb 42 (zT e_1)] zF an ?_
   cases h
   exact ⟨rfl,(sw [0] [] [.s 1,.s 6,.s 7] [.s 0] an)⟩
  refine cd 7 o_2 ?_ ?_
  ·intro g_3;replace h:=zR g_3 h
   refine sr [] [2] [] 1 [Ii 0] [] zF an ?_
   refine rt ?_
   cases h
   exact ⟨rfl,Nat.le_of_ble_eq_true rfl,by kernel_rfl⟩
  intro g_3;replace h:=zQ g_3 h
  refine sr [] [1,6,11] [0] 1 [Pp 0,Ii e_1.Kind,.bool (e_1.Kind==(4:Int))] [Vb 42 (zT e_1)] zF an ?_
  refine cd 11 (e_1.Kind==(4:Int)) ?_ ?_
  ·intro g_4;replace h:=zR g_4 h
   refine sq ?_
   obtain ⟨r_1,h_3,h⟩:=bind_some h
   refine rg [(2,{ av:=Ii r_1,l:=[Ii e_1.N,Ii (-1000000000000000),Ii 1000000000000000] })] [2] [] 1 [Ii r_1] [] zF (ar ([Ii e_1.N,Ii (-1000000000000000),Ii 1000000000000000]:List AV) (ac (rfl:([]:List zW)=[]) (ac (jF e_1.N (-1000000000000000:Int) (1000000000000000:Int) r_1 h_3:zV prog 88 [] [] [Ii e_1.N,Ii (-1000000000000000),Ii 1000000000000000] [] (Ii r_1)) an))) ?_
   refine rt ?_
   cases h
   exact ⟨rfl,Nat.le_of_ble_eq_true rfl,by kernel_rfl⟩
  intro g_4;replace h:=zQ g_4 h
  refine sr [] [1,6,16] [0] 1 [Pp 0,Ii e_1.Kind,.bool (e_1.Kind==(5:Int))] [Vb 42 (zT e_1)] zF an ?_
  refine cd 16 (e_1.Kind==(5:Int)) ?_ ?_
  ·intro g_5;replace h:=zR g_5 h
   refine sq ?_
   obtain ⟨r_2,h_4,h⟩:=bind_some h
   refine rg [(2,{ av:=Ii r_2,l:=[Ii e_1.N,Ii 1,Ii 1000000000000] })] [2] [] 1 [Ii r_2] [] zF (ar ([Ii e_1.N,Ii 1,Ii 1000000000000]:List AV) (ac (rfl:([]:List zW)=[]) (ac (jF e_1.N (1:Int) (1000000000000:Int) r_2 h_4:zV prog 88 [] [] [Ii e_1.N,Ii 1,Ii 1000000000000] [] (Ii r_2)) an))) ?_
   refine rt ?_
   cases h
   exact ⟨rfl,Nat.le_of_ble_eq_true rfl,by kernel_rfl⟩
  intro g_5;replace h:=zQ g_5 h
  refine sr [] [1,6,21] [0] 1 [Pp 0,Ii e_1.Kind,.bool (e_1.Kind==(8:Int))] [Vb 42 (zT e_1)] zF an ?_
  refine cd 21 (e_1.Kind==(8:Int)) ?_ ?_
  ·intro g_6;replace h:=zR g_6 h
   refine sq ?_
   obtain ⟨r_3,h_5,h⟩:=bind_some h
   refine rg [(2,{ av:=Ii r_3,l:=[Ii e_1.N,Ii 0,Ii 63] })] [2] [] 1 [Ii r_3] [] zF (ar ([Ii e_1.N,Ii 0,Ii 63]:List AV) (ac (rfl:([]:List zW)=[]) (ac (jF e_1.N (0:Int) (63:Int) r_3 h_5:zV prog 88 [] [] [Ii e_1.N,Ii 0,Ii 63] [] (Ii r_3)) an))) ?_
   refine rt ?_
   cases h
   exact ⟨rfl,Nat.le_of_ble_eq_true rfl,by kernel_rfl⟩
  intro g_6;replace h:=zQ g_6 h
  refine sr [] [1,26] [0] 1 [Pp 0,.bool (e_1.Kind==(9:Int))] [Vb 42 (zT e_1)] zF an ?_
  refine cd 26 (e_1.Kind==(9:Int)) ?_ ?_
  rotate_left
  ·intro g_7;replace h:=zQ g_7 h
   refine sk ?_
   cases h
   exact ⟨rfl,(sw [0] [] [.s 1] [.s 0] an)⟩
  intro g_7;replace h:=zR g_7 h
  refine sq ?_
  obtain ⟨r_4,h_6,h⟩:=bind_some h
  refine rg [(2,{ av:=Ii r_4,l:=[Ii e_1.N,Ii 0,Ii 3] })] [1,3] [0] 1 [Pp 0,Ii r_4] [Vb 42 (zT e_1)] zF (ar ([Ii e_1.N,Ii 0,Ii 3]:List AV) (ac (rfl:([]:List zW)=[]) (ac (jF e_1.N (0:Int) (3:Int) r_4 h_6:zV prog 88 [] [] [Ii e_1.N,Ii 0,Ii 3] [] (Ii r_4)) an))) ?_
  refine sq ?_
  refine sq ?_
  refine y4 (mk [(1,Pp 0),(3,Ii r_4),(37,.bool ((r_4==(0:Int))&&(e_1.N==(2:Int))))] [(0,Vb 42 (zT e_1))] 1) ?_ ?_
  ·rcases bft (r_4==(0:Int)) with zO | zO
   ·refine rg [(6,Ht)] [1,3,37] [0] 1 [Pp 0,Ii r_4,.bool (e_1.N==(2:Int))] [Vb 42 (zT e_1)] zF (ac zO (ac zO (ac zO (ac zO an)))) ?_
    exact ⟨rfl,(sw [0] [] [.s 1,.s 3,.a 37 (.bool ((r_4==(0:Int))&&(e_1.N==(2:Int))))] [.s 0] (ac (congrArg AV.bool (uO zO rfl):(.bool (e_1.N==(2:Int)):AV)=.bool ((r_4==(0:Int))&&(e_1.N==(2:Int)))) an))⟩
   ·refine rg [(3,Hg),(4,Hg),(5,Hg),(6,Hf)] [1,3,37] [0] 1 [Pp 0,Ii r_4,.bool false] [Vb 42 (zT e_1)] zF (ac zO (ac zO (ac zO (ac zO an)))) ?_
    exact ⟨rfl,(sw [0] [] [.s 1,.s 3,.a 37 (.bool ((r_4==(0:Int))&&(e_1.N==(2:Int))))] [.s 0] (ac (congrArg AV.bool (j0 zO):(.bool false:AV)=.bool ((r_4==(0:Int))&&(e_1.N==(2:Int)))) an))⟩
  refine cd 37 ((r_4==(0:Int))&&(e_1.N==(2:Int))) ?_ ?_
  ·intro g_8;replace h:=zR g_8 h
   refine sq ?_
   obtain ⟨r_5,h_7,h⟩:=bind_some h
   refine rg [(2,{ av:=Ii r_5,l:=[Ii e_1.M,Ii 0,Ii 1000000000000000] })] [2] [] 1 [Ii r_5] [] zF (ar ([Ii e_1.M,Ii 0,Ii 1000000000000000]:List AV) (ac (rfl:([]:List zW)=[]) (ac (jF e_1.M (0:Int) (1000000000000000:Int) r_5 h_7:zV prog 88 [] [] [Ii e_1.M,Ii 0,Ii 1000000000000000] [] (Ii r_5)) an))) ?_
   refine rt ?_
   cases h
   exact ⟨rfl,Nat.le_of_ble_eq_true rfl,by kernel_rfl⟩
  intro g_8;replace h:=zQ g_8 h
  refine sk ?_
  refine sq ?_
  refine sq ?_
  refine y4 (mk [(3,Ii r_4),(47,.bool ((r_4==(0:Int))&&(e_1.M != (0:Int))))] [] 0) ?_ ?_
  ·rcases bft (r_4==(0:Int)) with zS | zS
   ·refine rg [(6,Ht)] [3,47] [] 1 [Ii r_4,.bool (e_1.M != (0:Int))] [] zF (ac zS (ac zS (ac zS (ac zS an)))) ?_
    exact ⟨rfl,(sw [] [] [.s 3,.a 47 (.bool ((r_4==(0:Int))&&(e_1.M != (0:Int))))] [] (ac (congrArg AV.bool (uO zS rfl):(.bool (e_1.M != (0:Int)):AV)=.bool ((r_4==(0:Int))&&(e_1.M != (0:Int)))) an))⟩
   ·refine rg [(3,Hg),(4,Hg),(5,Hg),(6,Hf)] [3,47] [] 1 [Ii r_4,.bool false] [] zF (ac zS (ac zS (ac zS (ac zS an)))) ?_
    exact ⟨rfl,(sw [] [] [.s 3,.a 47 (.bool ((r_4==(0:Int))&&(e_1.M != (0:Int))))] [] (ac (congrArg AV.bool (j0 zS):(.bool false:AV)=.bool ((r_4==(0:Int))&&(e_1.M != (0:Int)))) an))⟩
  refine cd 47 ((r_4==(0:Int))&&(e_1.M != (0:Int))) ?_ ?_
  ·intro g_9;replace h:=zR g_9 h
   refine sr [] [2] [] 0 [Ii 1] [] zF an ?_
   refine rt ?_
   cases h
   exact ⟨rfl,Nat.le_of_ble_eq_true rfl,by kernel_rfl⟩
  intro g_9;replace h:=zQ g_9 h
  refine sk ?_
  refine sr [] [2] [] 0 [Ii r_4] [] zF an ?_
  refine rt ?_
  cases h
  exact ⟨rfl,Nat.le_of_ble_eq_true rfl,by kernel_rfl⟩
 intro e st1 hk
 rcases o_1 with q_1 | q_2
 rotate_left
 ·obtain ⟨rfl,hf⟩:=hk
  cases h
  exact ⟨st1,Sub.refl _ _,.inr rfl,hf⟩
 obtain ⟨rfl,hs⟩:=hk
 refine ⟨_,hs,?_⟩
 refine sq ?_
 obtain ⟨r_6,h_8,h⟩:=bind_some h
 refine rg [(2,{ av:=Ii r_6,l:=[Ii e_1.N,Ii 0,Ii 1000000000000000] })] [1,4] [0] 1 [Pp 0,Ii r_6] [Vb 42 (zT e_1)] zF (ar ([Ii e_1.N,Ii 0,Ii 1000000000000000]:List AV) (ac (rfl:([]:List zW)=[]) (ac (jF e_1.N (0:Int) (1000000000000000:Int) r_6 h_8:zV prog 88 [] [] [Ii e_1.N,Ii 0,Ii 1000000000000000] [] (Ii r_6)) an))) ?_
 refine sq ?_
 refine sq ?_
 refine y4 (mk [(1,Pp 0),(4,Ii r_6),(58,.bool ((r_6==(0:Int))&&(e_1.Kind==(11:Int))))] [(0,Vb 42 (zT e_1))] 1) ?_ ?_
 ·rcases bft (r_6==(0:Int)) with yE | yE
  ·refine rg [(6,Ht)] [1,4,58] [0] 1 [Pp 0,Ii r_6,.bool (e_1.Kind==(11:Int))] [Vb 42 (zT e_1)] zF (ac yE (ac yE (ac yE (ac yE an)))) ?_
   exact ⟨rfl,(sw [0] [] [.s 1,.s 4,.a 58 (.bool ((r_6==(0:Int))&&(e_1.Kind==(11:Int))))] [.s 0] (ac (congrArg AV.bool (uO yE rfl):(.bool (e_1.Kind==(11:Int)):AV)=.bool ((r_6==(0:Int))&&(e_1.Kind==(11:Int)))) an))⟩
  ·refine rg [(3,Hg),(4,Hg),(5,Hg),(6,Hf)] [1,4,58] [0] 1 [Pp 0,Ii r_6,.bool false] [Vb 42 (zT e_1)] zF (ac yE (ac yE (ac yE (ac yE an)))) ?_
   exact ⟨rfl,(sw [0] [] [.s 1,.s 4,.a 58 (.bool ((r_6==(0:Int))&&(e_1.Kind==(11:Int))))] [.s 0] (ac (congrArg AV.bool (j0 yE):(.bool false:AV)=.bool ((r_6==(0:Int))&&(e_1.Kind==(11:Int)))) an))⟩
 refine cd 58 ((r_6==(0:Int))&&(e_1.Kind==(11:Int))) ?_ ?_
 ·intro g_10;replace h:=zR g_10 h
  refine sq ?_
  obtain ⟨r_7,h_9,h⟩:=bind_some h
  refine rg [(2,{ av:=Ii r_7,l:=[Ii e_1.M,Ii 1,Ii 1000000000000] })] [2] [] 1 [Ii r_7] [] zF (ar ([Ii e_1.M,Ii 1,Ii 1000000000000]:List AV) (ac (rfl:([]:List zW)=[]) (ac (jF e_1.M (1:Int) (1000000000000:Int) r_7 h_9:zV prog 88 [] [] [Ii e_1.M,Ii 1,Ii 1000000000000] [] (Ii r_7)) an))) ?_
  refine rt ?_
  cases h
  exact ⟨.inr rfl,Nat.le_of_ble_eq_true rfl,by kernel_rfl⟩
 intro g_10;replace h:=zQ g_10 h
 refine sk ?_
 refine sr [] [2] [] 1 [Ii r_6] [] zF an ?_
 refine rt ?_
 cases h
 exact ⟨.inr rfl,Nat.le_of_ble_eq_true rfl,by kernel_rfl⟩
theorem zKW (F:Nat) (e_1:zI) (r:Int) (h:zCo F e_1=some r):zV prog 71 [] [] [zD e_1] [] (Ii r):=by
 refine yG (fn:=Go.Proofs.Try.f71) (code:=xC Go.Proofs.Try.f71) (by kernel_rfl) (by kernel_rfl) (Nat.le_of_ble_eq_true (by kernel_rfl)) ?_
 unfold zCo at h
 refine sr [(0,{ id:=0 })] [1] [0] 1 [Pp 0] [Vb 42 (zT e_1)] zF an ?_
 refine sq ?_
 refine sq ?_
 refine y4 (mk [(1,Pp 0),(15,.bool (decide (e_1.At<(0:Int))||decide (e_1.At>(1000000000000:Int))))] [(0,Vb 42 (zT e_1))] 1) ?_ ?_
 ·rcases bft (decide (e_1.At<(0:Int))) with zH | zH
  ·refine rg [(4,Hg),(5,Hg),(6,Hg),(7,Ht)] [1,15] [0] 1 [Pp 0,.bool true] [Vb 42 (zT e_1)] zF (ac zH (ac zH (ac zH (ac zH an)))) ?_
   exact ⟨rfl,(sw [0] [] [.s 1,.a 15 (.bool (decide (e_1.At<(0:Int))||decide (e_1.At>(1000000000000:Int))))] [.s 0] (ac (congrArg AV.bool (ort zH):(.bool true:AV)=.bool (decide (e_1.At<(0:Int))||decide (e_1.At>(1000000000000:Int)))) an))⟩
  ·refine rg [(7,Hf)] [1,15] [0] 1 [Pp 0,.bool (decide (e_1.At>(1000000000000:Int)))] [Vb 42 (zT e_1)] zF (ac zH (ac zH (ac zH (ac zH an)))) ?_
   exact ⟨rfl,(sw [0] [] [.s 1,.a 15 (.bool (decide (e_1.At<(0:Int))||decide (e_1.At>(1000000000000:Int))))] [.s 0] (ac (congrArg AV.bool (orf zH rfl):(.bool (decide (e_1.At>(1000000000000:Int))):AV)=.bool (decide (e_1.At<(0:Int))||decide (e_1.At>(1000000000000:Int)))) an))⟩
 refine cd 15 (decide (e_1.At<(0:Int))||decide (e_1.At>(1000000000000:Int))) ?_ ?_
 ·intro g_1;replace h:=zR g_1 h
  refine sr [] [2] [] 1 [Ii 2] [] zF an ?_
  refine rt ?_
  cases h
  exact ⟨.inr rfl,Nat.le_of_ble_eq_true rfl,by kernel_rfl⟩
 intro g_1;replace h:=zQ g_1 h
 refine sk ?_
 refine sq ?_
 refine sq ?_
 refine y4 (mk [(1,Pp 0),(23,.bool (decide (e_1.Kind<(1:Int))||decide (e_1.Kind>(12:Int))))] [(0,Vb 42 (zT e_1))] 1) ?_ ?_
 ·rcases bft (decide (e_1.Kind<(1:Int))) with zJ | zJ
  ·refine rg [(4,Hg),(5,Hg),(6,Hg),(7,Ht)] [1,23] [0] 1 [Pp 0,.bool true] [Vb 42 (zT e_1)] zF (ac zJ (ac zJ (ac zJ (ac zJ an)))) ?_
   exact ⟨rfl,(sw [0] [] [.s 1,.a 23 (.bool (decide (e_1.Kind<(1:Int))||decide (e_1.Kind>(12:Int))))] [.s 0] (ac (congrArg AV.bool (ort zJ):(.bool true:AV)=.bool (decide (e_1.Kind<(1:Int))||decide (e_1.Kind>(12:Int)))) an))⟩
  ·refine rg [(7,Hf)] [1,23] [0] 1 [Pp 0,.bool (decide (e_1.Kind>(12:Int)))] [Vb 42 (zT e_1)] zF (ac zJ (ac zJ (ac zJ (ac zJ an)))) ?_
   exact ⟨rfl,(sw [0] [] [.s 1,.a 23 (.bool (decide (e_1.Kind<(1:Int))||decide (e_1.Kind>(12:Int))))] [.s 0] (ac (congrArg AV.bool (orf zJ rfl):(.bool (decide (e_1.Kind>(12:Int))):AV)=.bool (decide (e_1.Kind<(1:Int))||decide (e_1.Kind>(12:Int)))) an))⟩
 refine cd 23 (decide (e_1.Kind<(1:Int))||decide (e_1.Kind>(12:Int))) ?_ ?_
 ·intro g_2;replace h:=zR g_2 h
  refine sr [] [2] [] 1 [Ii 1] [] zF an ?_
  refine rt ?_
  cases h
  exact ⟨.inr rfl,Nat.le_of_ble_eq_true rfl,by kernel_rfl⟩
 intro g_2;replace h:=zQ g_2 h
 refine sk ?_
 refine sq ?_
 obtain ⟨r_1,h_1,h⟩:=bind_some h
 refine rg [(2,{ av:=.tuple [.bool r_1.1,.bool r_1.2.1,.bool r_1.2.2.1,.bool r_1.2.2.2],l:=[Ii e_1.Kind] })] [1,3,4,5,6] [0] 1 [Pp 0,.bool r_1.1,.bool r_1.2.1,.bool r_1.2.2.1,.bool r_1.2.2.2] [Vb 42 (zT e_1)] zF (ar ([Ii e_1.Kind]:List AV) (ac (rfl:([]:List zW)=[]) (ac (zLA e_1.Kind r_1 h_1:zV prog 80 [] [] [Ii e_1.Kind] [] (.tuple [.bool r_1.1,.bool r_1.2.1,.bool r_1.2.2.1,.bool r_1.2.2.2])) an))) ?_
 refine sq ?_
 refine sq ?_
 obtain ⟨p_1,h_2,h⟩:=bind_some h
 refine y4 (mk [(1,Pp 0),(3,.bool r_1.1),(6,.bool r_1.2.2.2),(66,.bool p_1)] [(0,Vb 42 (zT e_1))] 1) ?_ ?_
 ·replace h:=h_2
  rcases bft (!r_1.1) with zO | zO
  ·replace h:=zR zO h
   rcases bft (!(e_1.Name==([]:List Int))) with zS | zS
   ·replace h:=zR zS h
    refine rg [(6,Ht),(8,Hg),(9,Hg),(10,Hg),(14,Hg),(15,Ht),(17,Hg),(18,Hg),(19,Hg),(23,Hg),(24,Ht),(26,Hg),(27,Hg),(28,Hg),(33,Hg),(34,Ht)] [1,3,6,66] [0] 1 [Pp 0,.bool r_1.1,.bool r_1.2.2.2,.bool true] [Vb 42 (zT e_1)] zF (ac zO (ac zO (ac zO (ac zO (ac zS (ac zS (ac zS (ac zS (ac zS (ax (ax (ax (ax (ar true (ax (ax (ax (ax (ar true an))))))))))))))))))) ?_
    cases h
    exact ⟨rfl,(sw [0] [] [.s 1,.s 3,.s 6,.s 66] [.s 0] an)⟩
   ·replace h:=zQ zS h
    rcases bft (!r_1.2.1) with yE | yE
    ·replace h:=zR yE h
     rcases bft (e_1.N != (0:Int)) with yZ | yZ
     ·replace h:=zR yZ h
      refine rg [(6,Ht),(14,Ht),(15,Hf),(17,Hg),(18,Hg),(19,Hg),(23,Hg),(24,Ht),(26,Hg),(27,Hg),(28,Hg),(33,Hg),(34,Ht)] [1,3,6,66] [0] 1 [Pp 0,.bool r_1.1,.bool r_1.2.2.2,.bool true] [Vb 42 (zT e_1)] zF (ac zO (ac zO (ac zO (ac zO (ac zS (ac zS (ac zS (ac yE (ac yE (ac yE (ac zS (ac yE (ac zS (ac yZ (ac yZ (ac yZ (ac yZ (ac yZ (ax (ax (ax (ax (ar true an))))))))))))))))))))))) ?_
      cases h
      exact ⟨rfl,(sw [0] [] [.s 1,.s 3,.s 6,.s 66] [.s 0] an)⟩
     ·replace h:=zQ yZ h
      rcases bft (!r_1.2.2.1) with yQ | yQ
      ·replace h:=zR yQ h
       rcases bft (e_1.M != (0:Int)) with yS | yS
       ·replace h:=zR yS h
        refine rg [(6,Ht),(14,Ht),(15,Hf),(23,Ht),(24,Hf),(26,Hg),(27,Hg),(28,Hg),(33,Hg),(34,Ht)] [1,3,6,66] [0] 1 [Pp 0,.bool r_1.1,.bool r_1.2.2.2,.bool true] [Vb 42 (zT e_1)] zF (ac zO (ac zO (ac zO (ac zO (ac zS (ac zS (ac zS (ac yE (ac yE (ac yE (ac zS (ac yE (ac zS (ac yZ (ac yZ (ac yZ (ac yQ (ac yQ (ac yQ (ac yZ (ac yQ (ac yZ (ac yS (ac yS (ac yS (ac yS (ac yS an))))))))))))))))))))))))))) ?_
        cases h
        exact ⟨rfl,(sw [0] [] [.s 1,.s 3,.s 6,.s 66] [.s 0] an)⟩
       ·replace h:=zQ yS h
        rcases bft (!r_1.2.2.2) with xW | xW
        ·replace h:=zR xW h
         refine rg [(6,Ht),(14,Ht),(15,Hf),(23,Ht),(24,Hf),(31,{ n:=(e_1.Stack).length }),(33,Ht),(34,Hf)] [1,3,6,66] [0] 1 [Pp 0,.bool r_1.1,.bool r_1.2.2.2,.bool (decide ((lN (e_1.Stack))>(0:Int)))] [Vb 42 (zT e_1)] zF (ac zO (ac zO (ac zO (ac zO (ac zS (ac zS (ac zS (ac yE (ac yE (ac yE (ac zS (ac yE (ac zS (ac yZ (ac yZ (ac yZ (ac yQ (ac yQ (ac yQ (ac yZ (ac yQ (ac yZ (ac yS (ac yS (ac yS (ac xW (ac xW (ac xW (ac (yF _:((Ms e_1.Stack)).length=(e_1.Stack).length) (ac xW (ac yS (ac xW (ac yS an))))))))))))))))))))))))))))))))) ?_
         cases h
         exact ⟨rfl,(sw [0] [] [.s 1,.s 3,.s 6,.s 66] [.s 0] an)⟩
        ·replace h:=zQ xW h
         refine rg [(6,Ht),(14,Ht),(15,Hf),(23,Ht),(24,Hf),(29,Hg),(30,Hg),(31,Hg),(32,Hg),(33,Hf),(34,Hf)] [1,3,6,66] [0] 1 [Pp 0,.bool r_1.1,.bool r_1.2.2.2,.bool false] [Vb 42 (zT e_1)] zF (ac zO (ac zO (ac zO (ac zO (ac zS (ac zS (ac zS (ac yE (ac yE (ac yE (ac zS (ac yE (ac zS (ac yZ (ac yZ (ac yZ (ac yQ (ac yQ (ac yQ (ac yZ (ac yQ (ac yZ (ac yS (ac yS (ac yS (ac xW (ac xW (ac xW (ac xW (ac yS (ac xW (ac yS an)))))))))))))))))))))))))))))))) ?_
         cases h
         exact ⟨rfl,(sw [0] [] [.s 1,.s 3,.s 6,.s 66] [.s 0] an)⟩
      ·replace h:=zQ yQ h
       rcases bft (!r_1.2.2.2) with xK | xK
       ·replace h:=zR xK h
        refine rg [(6,Ht),(14,Ht),(15,Hf),(20,Hg),(21,Hg),(22,Hg),(23,Hf),(24,Hf),(31,{ n:=(e_1.Stack).length }),(33,Ht),(34,Hf)] [1,3,6,66] [0] 1 [Pp 0,.bool r_1.1,.bool r_1.2.2.2,.bool (decide ((lN (e_1.Stack))>(0:Int)))] [Vb 42 (zT e_1)] zF (ac zO (ac zO (ac zO (ac zO (ac zS (ac zS (ac zS (ac yE (ac yE (ac yE (ac zS (ac yE (ac zS (ac yZ (ac yZ (ac yZ (ac yQ (ac yQ (ac yQ (ac yZ (ac yQ (ac yZ (ar false (ar false (ar false (ac xK (ac xK (ac xK (ac (yF _:((Ms e_1.Stack)).length=(e_1.Stack).length) (ac xK (ar false (ac xK (ar false an))))))))))))))))))))))))))))))))) ?_
        cases h
        exact ⟨rfl,(sw [0] [] [.s 1,.s 3,.s 6,.s 66] [.s 0] an)⟩
       ·replace h:=zQ xK h
        refine rg [(6,Ht),(14,Ht),(15,Hf),(20,Hg),(21,Hg),(22,Hg),(23,Hf),(24,Hf),(29,Hg),(30,Hg),(31,Hg),(32,Hg),(33,Hf),(34,Hf)] [1,3,6,66] [0] 1 [Pp 0,.bool r_1.1,.bool r_1.2.2.2,.bool false] [Vb 42 (zT e_1)] zF (ac zO (ac zO (ac zO (ac zO (ac zS (ac zS (ac zS (ac yE (ac yE (ac yE (ac zS (ac yE (ac zS (ac yZ (ac yZ (ac yZ (ac yQ (ac yQ (ac yQ (ac yZ (ac yQ (ac yZ (ar false (ar false (ar false (ac xK (ac xK (ac xK (ac xK (ar false (ac xK (ar false an)))))))))))))))))))))))))))))))) ?_
        cases h
        exact ⟨rfl,(sw [0] [] [.s 1,.s 3,.s 6,.s 66] [.s 0] an)⟩
    ·replace h:=zQ yE h
     rcases bft (!r_1.2.2.1) with xO | xO
     ·replace h:=zR xO h
      rcases bft (e_1.M != (0:Int)) with xB | xB
      ·replace h:=zR xB h
       refine rg [(6,Ht),(11,Hg),(12,Hg),(13,Hg),(14,Hf),(15,Hf),(23,Ht),(24,Hf),(26,Hg),(27,Hg),(28,Hg),(33,Hg),(34,Ht)] [1,3,6,66] [0] 1 [Pp 0,.bool r_1.1,.bool r_1.2.2.2,.bool true] [Vb 42 (zT e_1)] zF (ac zO (ac zO (ac zO (ac zO (ac zS (ac zS (ac zS (ac yE (ac yE (ac yE (ac zS (ac yE (ac zS (ar false (ar false (ar false (ac xO (ac xO (ac xO (ar false (ac xO (ar false (ac xB (ac xB (ac xB (ac xB (ac xB an))))))))))))))))))))))))))) ?_
       cases h
       exact ⟨rfl,(sw [0] [] [.s 1,.s 3,.s 6,.s 66] [.s 0] an)⟩
      ·replace h:=zQ xB h
       rcases bft (!r_1.2.2.2) with wA | wA
       ·replace h:=zR wA h
        refine rg [(6,Ht),(11,Hg),(12,Hg),(13,Hg),(14,Hf),(15,Hf),(23,Ht),(24,Hf),(31,{ n:=(e_1.Stack).length }),(33,Ht),(34,Hf)] [1,3,6,66] [0] 1 [Pp 0,.bool r_1.1,.bool r_1.2.2.2,.bool (decide ((lN (e_1.Stack))>(0:Int)))] [Vb 42 (zT e_1)] zF (ac zO (ac zO (ac zO (ac zO (ac zS (ac zS (ac zS (ac yE (ac yE (ac yE (ac zS (ac yE (ac zS (ar false (ar false (ar false (ac xO (ac xO (ac xO (ar false (ac xO (ar false (ac xB (ac xB (ac xB (ac wA (ac wA (ac wA (ac (yF _:((Ms e_1.Stack)).length=(e_1.Stack).length) (ac wA (ac xB (ac wA (ac xB an))))))))))))))))))))))))))))))))) ?_
        cases h
        exact ⟨rfl,(sw [0] [] [.s 1,.s 3,.s 6,.s 66] [.s 0] an)⟩
       ·replace h:=zQ wA h
        refine rg [(6,Ht),(11,Hg),(12,Hg),(13,Hg),(14,Hf),(15,Hf),(23,Ht),(24,Hf),(29,Hg),(30,Hg),(31,Hg),(32,Hg),(33,Hf),(34,Hf)] [1,3,6,66] [0] 1 [Pp 0,.bool r_1.1,.bool r_1.2.2.2,.bool false] [Vb 42 (zT e_1)] zF (ac zO (ac zO (ac zO (ac zO (ac zS (ac zS (ac zS (ac yE (ac yE (ac yE (ac zS (ac yE (ac zS (ar false (ar false (ar false (ac xO (ac xO (ac xO (ar false (ac xO (ar false (ac xB (ac xB (ac xB (ac wA (ac wA (ac wA (ac wA (ac xB (ac wA (ac xB an)))))))))))))))))))))))))))))))) ?_
        cases h
        exact ⟨rfl,(sw [0] [] [.s 1,.s 3,.s 6,.s 66] [.s 0] an)⟩
     ·replace h:=zQ xO h
      rcases bft (!r_1.2.2.2) with wJ | wJ
      ·replace h:=zR wJ h
       refine rg [(6,Ht),(11,Hg),(12,Hg),(13,Hg),(14,Hf),(15,Hf),(20,Hg),(21,Hg),(22,Hg),(23,Hf),(24,Hf),(31,{ n:=(e_1.Stack).length }),(33,Ht),(34,Hf)] [1,3,6,66] [0] 1 [Pp 0,.bool r_1.1,.bool r_1.2.2.2,.bool (decide ((lN (e_1.Stack))>(0:Int)))] [Vb 42 (zT e_1)] zF (ac zO (ac zO (ac zO (ac zO (ac zS (ac zS (ac zS (ac yE (ac yE (ac yE (ac zS (ac yE (ac zS (ar false (ar false (ar false (ac xO (ac xO (ac xO (ar false (ac xO (ar false (ar false (ar false (ar false (ac wJ (ac wJ (ac wJ (ac (yF _:((Ms e_1.Stack)).length=(e_1.Stack).length) (ac wJ (ar false (ac wJ (ar false an))))))))))))))))))))))))))))))))) ?_
       cases h
       exact ⟨rfl,(sw [0] [] [.s 1,.s 3,.s 6,.s 66] [.s 0] an)⟩
      ·replace h:=zQ wJ h
       refine rg [(6,Ht),(11,Hg),(12,Hg),(13,Hg),(14,Hf),(15,Hf),(20,Hg),(21,Hg),(22,Hg),(23,Hf),(24,Hf),(29,Hg),(30,Hg),(31,Hg),(32,Hg),(33,Hf),(34,Hf)] [1,3,6,66] [0] 1 [Pp 0,.bool r_1.1,.bool r_1.2.2.2,.bool false] [Vb 42 (zT e_1)] zF (ac zO (ac zO (ac zO (ac zO (ac zS (ac zS (ac zS (ac yE (ac yE (ac yE (ac zS (ac yE (ac zS (ar false (ar false (ar false (ac xO (ac xO (ac xO (ar false (ac xO (ar false (ar false (ar false (ar false (ac wJ (ac wJ (ac wJ (ac wJ (ar false (ac wJ (ar false an)))))))))))))))))))))))))))))))) ?_
       cases h
       exact ⟨rfl,(sw [0] [] [.s 1,.s 3,.s 6,.s 66] [.s 0] an)⟩
  ·replace h:=zQ zO h
   rcases bft (!r_1.2.1) with xE | xE
   ·replace h:=zR xE h
    rcases bft (e_1.N != (0:Int)) with xS | xS
    ·replace h:=zR xS h
     refine rg [(3,Hg),(4,Hg),(5,Hg),(6,Hf),(14,Ht),(15,Hf),(17,Hg),(18,Hg),(19,Hg),(23,Hg),(24,Ht),(26,Hg),(27,Hg),(28,Hg),(33,Hg),(34,Ht)] [1,3,6,66] [0] 1 [Pp 0,.bool r_1.1,.bool r_1.2.2.2,.bool true] [Vb 42 (zT e_1)] zF (ac zO (ac zO (ac zO (ac zO (ar false (ar false (ar false (ac xE (ac xE (ac xE (ar false (ac xE (ar false (ac xS (ac xS (ac xS (ac xS (ac xS (ax (ax (ax (ax (ar true an))))))))))))))))))))))) ?_
     cases h
     exact ⟨rfl,(sw [0] [] [.s 1,.s 3,.s 6,.s 66] [.s 0] an)⟩
    ·replace h:=zQ xS h
     rcases bft (!r_1.2.2.1) with wY | wY
     ·replace h:=zR wY h
      rcases bft (e_1.M != (0:Int)) with vC | vC
      ·replace h:=zR vC h
       refine rg [(3,Hg),(4,Hg),(5,Hg),(6,Hf),(14,Ht),(15,Hf),(23,Ht),(24,Hf),(26,Hg),(27,Hg),(28,Hg),(33,Hg),(34,Ht)] [1,3,6,66] [0] 1 [Pp 0,.bool r_1.1,.bool r_1.2.2.2,.bool true] [Vb 42 (zT e_1)] zF (ac zO (ac zO (ac zO (ac zO (ar false (ar false (ar false (ac xE (ac xE (ac xE (ar false (ac xE (ar false (ac xS (ac xS (ac xS (ac wY (ac wY (ac wY (ac xS (ac wY (ac xS (ac vC (ac vC (ac vC (ac vC (ac vC an))))))))))))))))))))))))))) ?_
       cases h
       exact ⟨rfl,(sw [0] [] [.s 1,.s 3,.s 6,.s 66] [.s 0] an)⟩
      ·replace h:=zQ vC h
       rcases bft (!r_1.2.2.2) with tB | tB
       ·replace h:=zR tB h
        refine rg [(3,Hg),(4,Hg),(5,Hg),(6,Hf),(14,Ht),(15,Hf),(23,Ht),(24,Hf),(31,{ n:=(e_1.Stack).length }),(33,Ht),(34,Hf)] [1,3,6,66] [0] 1 [Pp 0,.bool r_1.1,.bool r_1.2.2.2,.bool (decide ((lN (e_1.Stack))>(0:Int)))] [Vb 42 (zT e_1)] zF (ac zO (ac zO (ac zO (ac zO (ar false (ar false (ar false (ac xE (ac xE (ac xE (ar false (ac xE (ar false (ac xS (ac xS (ac xS (ac wY (ac wY (ac wY (ac xS (ac wY (ac xS (ac vC (ac vC (ac vC (ac tB (ac tB (ac tB (ac (yF _:((Ms e_1.Stack)).length=(e_1.Stack).length) (ac tB (ac vC (ac tB (ac vC an))))))))))))))))))))))))))))))))) ?_
        cases h
        exact ⟨rfl,(sw [0] [] [.s 1,.s 3,.s 6,.s 66] [.s 0] an)⟩
       ·replace h:=zQ tB h
        refine rg [(3,Hg),(4,Hg),(5,Hg),(6,Hf),(14,Ht),(15,Hf),(23,Ht),(24,Hf),(29,Hg),(30,Hg),(31,Hg),(32,Hg),(33,Hf),(34,Hf)] [1,3,6,66] [0] 1 [Pp 0,.bool r_1.1,.bool r_1.2.2.2,.bool false] [Vb 42 (zT e_1)] zF (ac zO (ac zO (ac zO (ac zO (ar false (ar false (ar false (ac xE (ac xE (ac xE (ar false (ac xE (ar false (ac xS (ac xS (ac xS (ac wY (ac wY (ac wY (ac xS (ac wY (ac xS (ac vC (ac vC (ac vC (ac tB (ac tB (ac tB (ac tB (ac vC (ac tB (ac vC an)))))))))))))))))))))))))))))))) ?_
        cases h
        exact ⟨rfl,(sw [0] [] [.s 1,.s 3,.s 6,.s 66] [.s 0] an)⟩
     ·replace h:=zQ wY h
      rcases bft (!r_1.2.2.2) with tC | tC
      ·replace h:=zR tC h
       refine rg [(3,Hg),(4,Hg),(5,Hg),(6,Hf),(14,Ht),(15,Hf),(20,Hg),(21,Hg),(22,Hg),(23,Hf),(24,Hf),(31,{ n:=(e_1.Stack).length }),(33,Ht),(34,Hf)] [1,3,6,66] [0] 1 [Pp 0,.bool r_1.1,.bool r_1.2.2.2,.bool (decide ((lN (e_1.Stack))>(0:Int)))] [Vb 42 (zT e_1)] zF (ac zO (ac zO (ac zO (ac zO (ar false (ar false (ar false (ac xE (ac xE (ac xE (ar false (ac xE (ar false (ac xS (ac xS (ac xS (ac wY (ac wY (ac wY (ac xS (ac wY (ac xS (ar false (ar false (ar false (ac tC (ac tC (ac tC (ac (yF _:((Ms e_1.Stack)).length=(e_1.Stack).length) (ac tC (ar false (ac tC (ar false an))))))))))))))))))))))))))))))))) ?_
       cases h
       exact ⟨rfl,(sw [0] [] [.s 1,.s 3,.s 6,.s 66] [.s 0] an)⟩
      ·replace h:=zQ tC h
       refine rg [(3,Hg),(4,Hg),(5,Hg),(6,Hf),(14,Ht),(15,Hf),(20,Hg),(21,Hg),(22,Hg),(23,Hf),(24,Hf),(29,Hg),(30,Hg),(31,Hg),(32,Hg),(33,Hf),(34,Hf)] [1,3,6,66] [0] 1 [Pp 0,.bool r_1.1,.bool r_1.2.2.2,.bool false] [Vb 42 (zT e_1)] zF (ac zO (ac zO (ac zO (ac zO (ar false (ar false (ar false (ac xE (ac xE (ac xE (ar false (ac xE (ar false (ac xS (ac xS (ac xS (ac wY (ac wY (ac wY (ac xS (ac wY (ac xS (ar false (ar false (ar false (ac tC (ac tC (ac tC (ac tC (ar false (ac tC (ar false an)))))))))))))))))))))))))))))))) ?_
       cases h
       exact ⟨rfl,(sw [0] [] [.s 1,.s 3,.s 6,.s 66] [.s 0] an)⟩
   ·replace h:=zQ xE h
    rcases bft (!r_1.2.2.1) with wZ | wZ
    ·replace h:=zR wZ h
     rcases bft (e_1.M != (0:Int)) with vD | vD
     ·replace h:=zR vD h
      refine rg [(3,Hg),(4,Hg),(5,Hg),(6,Hf),(11,Hg),(12,Hg),(13,Hg),(14,Hf),(15,Hf),(23,Ht),(24,Hf),(26,Hg),(27,Hg),(28,Hg),(33,Hg),(34,Ht)] [1,3,6,66] [0] 1 [Pp 0,.bool r_1.1,.bool r_1.2.2.2,.bool true] [Vb 42 (zT e_1)] zF (ac zO (ac zO (ac zO (ac zO (ar false (ar false (ar false (ac xE (ac xE (ac xE (ar false (ac xE (ar false (ar false (ar false (ar false (ac wZ (ac wZ (ac wZ (ar false (ac wZ (ar false (ac vD (ac vD (ac vD (ac vD (ac vD an))))))))))))))))))))))))))) ?_
      cases h
      exact ⟨rfl,(sw [0] [] [.s 1,.s 3,.s 6,.s 66] [.s 0] an)⟩
     ·replace h:=zQ vD h
      rcases bft (!r_1.2.2.2) with tD | tD
      ·replace h:=zR tD h
       refine rg [(3,Hg),(4,Hg),(5,Hg),(6,Hf),(11,Hg),(12,Hg),(13,Hg),(14,Hf),(15,Hf),(23,Ht),(24,Hf),(31,{ n:=(e_1.Stack).length }),(33,Ht),(34,Hf)] [1,3,6,66] [0] 1 [Pp 0,.bool r_1.1,.bool r_1.2.2.2,.bool (decide ((lN (e_1.Stack))>(0:Int)))] [Vb 42 (zT e_1)] zF (ac zO (ac zO (ac zO (ac zO (ar false (ar false (ar false (ac xE (ac xE (ac xE (ar false (ac xE (ar false (ar false (ar false (ar false (ac wZ (ac wZ (ac wZ (ar false (ac wZ (ar false (ac vD (ac vD (ac vD (ac tD (ac tD (ac tD (ac (yF _:((Ms e_1.Stack)).length=(e_1.Stack).length) (ac tD (ac vD (ac tD (ac vD an))))))))))))))))))))))))))))))))) ?_
       cases h
       exact ⟨rfl,(sw [0] [] [.s 1,.s 3,.s 6,.s 66] [.s 0] an)⟩
      ·replace h:=zQ tD h
       refine rg [(3,Hg),(4,Hg),(5,Hg),(6,Hf),(11,Hg),(12,Hg),(13,Hg),(14,Hf),(15,Hf),(23,Ht),(24,Hf),(29,Hg),(30,Hg),(31,Hg),(32,Hg),(33,Hf),(34,Hf)] [1,3,6,66] [0] 1 [Pp 0,.bool r_1.1,.bool r_1.2.2.2,.bool false] [Vb 42 (zT e_1)] zF (ac zO (ac zO (ac zO (ac zO (ar false (ar false (ar false (ac xE (ac xE (ac xE (ar false (ac xE (ar false (ar false (ar false (ar false (ac wZ (ac wZ (ac wZ (ar false (ac wZ (ar false (ac vD (ac vD (ac vD (ac tD (ac tD (ac tD (ac tD (ac vD (ac tD (ac vD an)))))))))))))))))))))))))))))))) ?_
       cases h
       exact ⟨rfl,(sw [0] [] [.s 1,.s 3,.s 6,.s 66] [.s 0] an)⟩
    ·replace h:=zQ wZ h
     rcases bft (!r_1.2.2.2) with tE | tE
     ·replace h:=zR tE h
      refine rg [(3,Hg),(4,Hg),(5,Hg),(6,Hf),(11,Hg),(12,Hg),(13,Hg),(14,Hf),(15,Hf),(20,Hg),(21,Hg),(22,Hg),(23,Hf),(24,Hf),(31,{ n:=(e_1.Stack).length }),(33,Ht),(34,Hf)] [1,3,6,66] [0] 1 [Pp 0,.bool r_1.1,.bool r_1.2.2.2,.bool (decide ((lN (e_1.Stack))>(0:Int)))] [Vb 42 (zT e_1)] zF (ac zO (ac zO (ac zO (ac zO (ar false (ar false (ar false (ac xE (ac xE (ac xE (ar false (ac xE (ar false (ar false (ar false (ar false (ac wZ (ac wZ (ac wZ (ar false (ac wZ (ar false (ar false (ar false (ar false (ac tE (ac tE (ac tE (ac (yF _:((Ms e_1.Stack)).length=(e_1.Stack).length) (ac tE (ar false (ac tE (ar false an))))))))))))))))))))))))))))))))) ?_
      cases h
      exact ⟨rfl,(sw [0] [] [.s 1,.s 3,.s 6,.s 66] [.s 0] an)⟩
     ·replace h:=zQ tE h
      refine rg [(3,Hg),(4,Hg),(5,Hg),(6,Hf),(11,Hg),(12,Hg),(13,Hg),(14,Hf),(15,Hf),(20,Hg),(21,Hg),(22,Hg),(23,Hf),(24,Hf),(29,Hg),(30,Hg),(31,Hg),(32,Hg),(33,Hf),(34,Hf)] [1,3,6,66] [0] 1 [Pp 0,.bool r_1.1,.bool r_1.2.2.2,.bool false] [Vb 42 (zT e_1)] zF (ac zO (ac zO (ac zO (ac zO (ar false (ar false (ar false (ac xE (ac xE (ac xE (ar false (ac xE (ar false (ar false (ar false (ar false (ac wZ (ac wZ (ac wZ (ar false (ac wZ (ar false (ar false (ar false (ar false (ac tE (ac tE (ac tE (ac tE (ar false (ac tE (ar false an)))))))))))))))))))))))))))))))) ?_
      cases h
      exact ⟨rfl,(sw [0] [] [.s 1,.s 3,.s 6,.s 66] [.s 0] an)⟩
 refine cd 66 p_1 ?_ ?_
 ·intro g_3;replace h:=zR g_3 h
  refine sr [] [2] [] 1 [Ii 1] [] zF an ?_
  refine rt ?_
  cases h
  exact ⟨.inr rfl,Nat.le_of_ble_eq_true rfl,by kernel_rfl⟩
 intro g_3;replace h:=zQ g_3 h
 refine sk ?_
 refine sr [] [1,3,6,7] [0] 1 [Pp 0,.bool r_1.1,.bool r_1.2.2.2,Ii 0] [Vb 42 (zT e_1)] zF an ?_
 refine sq ?_
 refine sr [] [1,6,7,67] [0] 1 [Pp 0,.bool r_1.2.2.2,Ii 0,.bool r_1.1] [Vb 42 (zT e_1)] zF an ?_
 obtain ⟨o_1,h_3,h⟩:=bind_some h
 refine y4 (mk [(1,Pp 0),(6,.bool r_1.2.2.2),(7,Ii o_1)] [(0,Vb 42 (zT e_1))] 1) ?_ ?_
 ·replace h:=h_3
  refine cd 67 r_1.1 ?_ ?_
  rotate_left
  ·intro g_4;replace h:=zQ g_4 h
   refine sk ?_
   cases h
   exact ⟨rfl,(sw [0] [] [.s 1,.s 6,.s 7] [.s 0] an)⟩
  intro g_4;replace h:=zR g_4 h
  obtain ⟨r_2,h_4,h⟩:=bind_some h
  refine rg [(2,{ av:=Ii r_2,l:=[.str e_1.Name] })] [1,6,7] [0] 1 [Pp 0,.bool r_1.2.2.2,Ii r_2] [Vb 42 (zT e_1)] zF (ar ([.str e_1.Name]:List AV) (ac (rfl:([]:List zW)=[]) (ac (zDW F e_1.Name r_2 h_4:zV prog 68 [] [] [.str e_1.Name] [] (Ii r_2)) an))) ?_
  cases h
  exact ⟨rfl,(sw [0] [] [.s 1,.s 6,.s 7] [.s 0] an)⟩
 refine sq ?_
 refine sr [] [1,7,71] [0] 1 [Pp 0,Ii o_1,.bool r_1.2.2.2] [Vb 42 (zT e_1)] zF an ?_
 obtain ⟨o_2,h_5,h⟩:=bind_some h
 refine y4 (mk [(1,Pp 0),(7,Ii o_2)] [(0,Vb 42 (zT e_1))] 1) ?_ ?_
 ·replace h:=h_5
  refine cd 71 r_1.2.2.2 ?_ ?_
  rotate_left
  ·intro g_5;replace h:=zQ g_5 h
   refine sk ?_
   cases h
   exact ⟨rfl,(sw [0] [] [.s 1,.s 7] [.s 0] an)⟩
  intro g_5;replace h:=zR g_5 h
  obtain ⟨r_3,h_6,h⟩:=bind_some h
  refine rg [(2,{ av:=Ii r_3,l:=[.sl false 1 (Ms e_1.Stack)] })] [1,7] [0] 1 [Pp 0,Ii r_3] [Vb 42 (zT e_1)] zF (ar ([.sl false 1 (Ms e_1.Stack)]:List AV) (ac (rfl:([]:List zW)=[]) (ac (zI8 F e_1.Stack r_3 h_6:zV prog 81 [] [] [.sl false 1 (Ms e_1.Stack)] [] (Ii r_3)) an))) ?_
  cases h
  exact ⟨rfl,(sw [0] [] [.s 1,.s 7] [.s 0] an)⟩
 refine sq ?_
 refine sr [] [1,7,76] [0] 1 [Pp 0,Ii o_2,.bool (o_2 != (0:Int))] [Vb 42 (zT e_1)] zF an ?_
 refine cd 76 (o_2 != (0:Int)) ?_ ?_
 ·intro g_6;replace h:=zR g_6 h
  refine sr [] [2] [] 1 [Ii o_2] [] zF an ?_
  refine rt ?_
  cases h
  exact ⟨.inr rfl,Nat.le_of_ble_eq_true rfl,by kernel_rfl⟩
 intro g_6;replace h:=zQ g_6 h
 refine sk ?_
 refine sq ?_
 obtain ⟨r_4,h_7,h⟩:=bind_some h
 refine rg [(1,{ av:=Ii r_4,l:=[zD e_1] })] [2] [] 1 [Ii r_4] [] zF (ar ([zD e_1]:List AV) (ac (rfl:([]:List zW)=[]) (ac (zIe e_1 r_4 h_7:zV prog 82 [] [] [zD e_1] [] (Ii r_4)) an))) ?_
 refine rt ?_
 cases h
 exact ⟨.inr rfl,Nat.le_of_ble_eq_true rfl,by kernel_rfl⟩
theorem zHh (F:Nat) (l_1:List (zI)) (r:Int) (h:zAi F l_1=some r):zV prog 57 [] [] [.sl false 6 (Mp zD l_1)] [] (Ii r):=by
 refine yG (fn:=Go.Proofs.Try.f57) (code:=xC Go.Proofs.Try.f57) (by kernel_rfl) (by kernel_rfl) (Nat.le_of_ble_eq_true (by kernel_rfl)) ?_
 unfold zAi at h
 refine sr [] [0] [] 0 [.sl false 6 (Mp zD l_1)] [] zF an ?_
 refine sq ?_
 refine sr [] [0,3] [] 0 [.sl false 6 (Mp zD l_1),Ii 0] [] zF an ?_
 obtain ⟨o_1,h_1,h⟩:=bind_some h
 refine wI (K1:=(fun e st'=>match o_1 with | (.inl q0)=>e=.normal∧Sub 0 st' (mk [] [] 0) | (.inr q1)=>e=.ret∧uE prog Go.Proofs.Try.f57 0 [] (Ii q1) st')) ?_ ?_
 ·replace h:=h_1
  refine yD (id:=0) (by kernel_rfl) ?_
  refine wk [] [] [.s 0,.s 3] [] [(0,.sl false 6 (Mp zD l_1)),(3,Ii 0)] [] an ?_
  refine xI (fun n st=>∃ (i_1:Int),st=mk [(0,.sl false 6 (Mp zD l_1)),(3,Ii i_1)] [] 0∧jC F l_1 n i_1=some o_1) F (by kernel_rfl) ⟨_,rfl,h⟩ ?_ ?_
  ·rintro _ ⟨_,_,h⟩;exact xN (h:(none:Option (Unit⊕Int))=some o_1)
  rintro n_1 _ ⟨i_1,rfl,h⟩
  replace h:qJ F l_1 (jC F l_1 n_1) i_1=some o_1:=h
  unfold qJ at h
  refine sq ?_
  refine sr [(2,{ n:=(l_1).length })] [0,3,8] [] 0 [.sl false 6 (Mp zD l_1),Ii i_1,.bool (decide (i_1<(lN (l_1))))] [] zF (ac (yF _:((Mp zD l_1)).length=(l_1).length) an) ?_
  refine cd 8 (decide (i_1<(lN (l_1)))) ?_ ?_
  rotate_left
  ·intro g_1;replace h:=zQ g_1 h
   refine xM (id:=0) (by kernel_rfl) ?_
   cases h
   exact ⟨rfl,(sw [] [] [] [] an)⟩
  intro g_1;replace h:=zR g_1 h
  refine sk ?_
  refine sq ?_
  refine yD (id:=1) (by kernel_rfl) ?_
  refine sq ?_
  obtain ⟨x_1,h_2,h⟩:=bind_some h
  obtain ⟨r_1,h_3,h⟩:=bind_some h
  refine rg [(2,{ av:=zD x_1 }),(4,{ av:=Ii r_1,l:=[zD x_1] })] [0,3,4] [] 0 [.sl false 6 (Mp zD l_1),Ii i_1,Ii r_1] [] zF (ac (yR h_2:xJ (Mp zD l_1) i_1=some (zD x_1)) (ar ([zD x_1]:List AV) (ac (rfl:([]:List zW)=[]) (ac (zKW F x_1 r_1 h_3:zV prog 71 [] [] [zD x_1] [] (Ii r_1)) an)))) ?_
  refine sq ?_
  refine sr [] [0,3,4,17] [] 0 [.sl false 6 (Mp zD l_1),Ii i_1,Ii r_1,.bool (r_1 != (0:Int))] [] zF an ?_
  refine cd 17 (r_1 != (0:Int)) ?_ ?_
  ·intro g_2;replace h:=zR g_2 h
   refine sr [] [2] [] 0 [Ii r_1] [] zF an ?_
   refine rt ?_
   cases h
   exact ⟨rfl,Nat.le_of_ble_eq_true rfl,by kernel_rfl⟩
  intro g_2;replace h:=zQ g_2 h
  refine sk ?_
  refine sq ?_
  obtain ⟨p_1,h_6,h⟩:=bind_some h
  refine y4 (mk [(0,.sl false 6 (Mp zD l_1)),(3,Ii i_1),(34,.bool p_1)] [] 0) ?_ ?_
  ·replace h:=h_6
   rcases bft (decide (i_1>(0:Int))) with zS | zS
   ·replace h:=zR zS h
    obtain ⟨x_2,h_4,h⟩:=bind_some h
    obtain ⟨x_3,h_5,h⟩:=bind_some h
    refine rg [(5,{ av:=zD x_2 }),(11,{ av:=zD x_3 }),(15,Ht)] [0,3,22,23,24,25,26,27,28,29,30,31,32,33,34] [] 0 [.sl false 6 (Mp zD l_1),Ii i_1,.sl false 6 (Mp zD l_1),Ii i_1,.ref (zD x_2),.ref (Ii x_2.At),Ii x_2.At,.sl false 6 (Mp zD l_1),Ii i_1,Ii (zP (i_1 - (1:Int))),.ref (zD x_3),.ref (Ii x_3.At),Ii x_3.At,.bool (decide (x_2.At<x_3.At)),.bool (decide (x_2.At<x_3.At))] [] zF (ac zS (ac zS (ac zS (ac (yR h_4:xJ (Mp zD l_1) i_1=some (zD x_2)) (ac zS (ac zS (ac zS (ac zS (ac zS (ac zS (ac (yR h_5:xJ (Mp zD l_1) (zP (i_1 - (1:Int)))=some (zD x_3)) (ac zS (ac zS (ac zS (ac zS an))))))))))))))) ?_
    cases h
    exact ⟨rfl,(sw [] [] [.s 0,.s 3,.s 34] [] an)⟩
   ·replace h:=zQ zS h
    refine rg [(3,Hg),(4,Hg),(5,Hg),(6,Hg),(7,Hg),(8,Hg),(9,Hg),(10,Hg),(11,Hg),(12,Hg),(13,Hg),(14,Hg),(15,Hf)] [0,3,22,23,24,25,26,27,28,29,30,31,32,33,34] [] 0 [.sl false 6 (Mp zD l_1),Ii i_1,.tuple [],.tuple [],.tuple [],.tuple [],.tuple [],.tuple [],.tuple [],.tuple [],.tuple [],.tuple [],.tuple [],.tuple [],.bool false] [] zF (ac zS (ac zS (ac zS (ac zS (ac zS (ac zS (ac zS (ac zS (ac zS (ac zS (ac zS (ac zS (ac zS an))))))))))))) ?_
    cases h
    exact ⟨rfl,(sw [] [] [.s 0,.s 3,.s 34] [] an)⟩
  refine cd 34 p_1 ?_ ?_
  rotate_left
  ·intro g_3;replace h:=zQ g_3 h
   refine sk ?_
   refine rg [] [0,3] [] 0 [.sl false 6 (Mp zD l_1),Ii (zP (i_1+(1:Int)))] [] zF an ?_
   exact ⟨_,(sw [] [] [.s 0,.s 3] [] an),_,rfl,h⟩
  intro g_3;replace h:=zR g_3 h
  refine sr [] [2] [] 0 [Ii 11] [] zF an ?_
  refine rt ?_
  cases h
  exact ⟨rfl,Nat.le_of_ble_eq_true rfl,by kernel_rfl⟩
 intro e st1 hk
 rcases o_1 with q_1 | q_2
 rotate_left
 ·obtain ⟨rfl,hf⟩:=hk
  cases h
  exact ⟨st1,Sub.refl _ _,.inr rfl,hf⟩
 obtain ⟨rfl,hs⟩:=hk
 refine ⟨_,hs,?_⟩
 refine sr [] [2] [] 0 [Ii 0] [] zF an ?_
 refine rt ?_
 cases h
 exact ⟨.inr rfl,Nat.le_of_ble_eq_true rfl,by kernel_rfl⟩
theorem zKR (F:Nat) (p_1:zB) (r:Int) (h:zCx F p_1=some r):zV prog 31 [] [] [zA p_1] [] (Ii r):=by
 refine yG (fn:=Go.Proofs.Try.f31) (code:=xC Go.Proofs.Try.f31) (by kernel_rfl) (by kernel_rfl) (Nat.le_of_ble_eq_true (by kernel_rfl)) ?_
 unfold zCx at h
 refine sr [(0,{ id:=0 })] [1] [0] 1 [Pp 0] [Vb 59 (zX p_1)] zF an ?_
 refine sq ?_
 refine yD (id:=0) (by kernel_rfl) ?_
 refine sq ?_
 obtain ⟨p_2,h_4,h⟩:=bind_some h
 refine y4 (mk [(1,Pp 0),(3,.bool p_2)] [(0,Vb 59 (zX p_1))] 1) ?_ ?_
 ·replace h:=h_4
  obtain ⟨r_1,h_1,h⟩:=bind_some h
  rcases bft (!r_1) with zH | zH
  ·replace h:=zR zH h
   refine rg [(2,{ av:=.bool r_1,l:=[Ii p_1.Thread] }),(5,Hg),(6,Hg),(7,Hg),(8,Hg),(9,Ht),(11,Hg),(12,Hg),(13,Hg),(14,Hg),(15,Ht),(17,Hg),(18,Hg),(19,Hg),(20,Hg),(21,Hg),(22,Ht)] [1,3] [0] 1 [Pp 0,.bool true] [Vb 59 (zX p_1)] zF (ar ([Ii p_1.Thread]:List AV) (ac (rfl:([]:List zW)=[]) (ac (tW p_1.Thread r_1 h_1:zV prog 56 [] [] [Ii p_1.Thread] [] (.bool r_1)) (ac zH (ac zH (ac zH (ac zH (ac zH (ax (ax (ax (ax (ar true (ax (ax (ax (ax (ax (ar true an))))))))))))))))))) ?_
   cases h
   exact ⟨rfl,(sw [0] [] [.s 1,.s 3] [.s 0] an)⟩
  ·replace h:=zQ zH h
   obtain ⟨r_2,h_2,h⟩:=bind_some h
   rcases bft (!r_2) with zJ | zJ
   ·replace h:=zR zJ h
    refine rg [(2,{ av:=.bool r_1,l:=[Ii p_1.Thread] }),(7,{ av:=.bool r_2,l:=[Ii p_1.Serial] }),(9,Hf),(11,Hg),(12,Hg),(13,Hg),(14,Hg),(15,Ht),(17,Hg),(18,Hg),(19,Hg),(20,Hg),(21,Hg),(22,Ht)] [1,3] [0] 1 [Pp 0,.bool true] [Vb 59 (zX p_1)] zF (ar ([Ii p_1.Thread]:List AV) (ac (rfl:([]:List zW)=[]) (ac (tW p_1.Thread r_1 h_1:zV prog 56 [] [] [Ii p_1.Thread] [] (.bool r_1)) (ac zH (ac zH (ac zH (ar ([Ii p_1.Serial]:List AV) (ac (rfl:([]:List zW)=[]) (ac (tW p_1.Serial r_2 h_2:zV prog 56 [] [] [Ii p_1.Serial] [] (.bool r_2)) (ac zH (ac zH (ac zJ (ac zJ (ac zJ (ac zJ (ac zJ (ax (ax (ax (ax (ax (ar true an)))))))))))))))))))))) ?_
    cases h
    exact ⟨rfl,(sw [0] [] [.s 1,.s 3] [.s 0] an)⟩
   ·replace h:=zQ zJ h
    obtain ⟨r_3,h_3,h⟩:=bind_some h
    rcases bft (!r_3) with zO | zO
    ·replace h:=zR zO h
     refine rg [(2,{ av:=.bool r_1,l:=[Ii p_1.Thread] }),(7,{ av:=.bool r_2,l:=[Ii p_1.Serial] }),(9,Hf),(13,{ av:=.bool r_3,l:=[Ii p_1.Lost] }),(15,Hf),(17,Hg),(18,Hg),(19,Hg),(20,Hg),(21,Hg),(22,Ht)] [1,3] [0] 1 [Pp 0,.bool true] [Vb 59 (zX p_1)] zF (ar ([Ii p_1.Thread]:List AV) (ac (rfl:([]:List zW)=[]) (ac (tW p_1.Thread r_1 h_1:zV prog 56 [] [] [Ii p_1.Thread] [] (.bool r_1)) (ac zH (ac zH (ac zH (ar ([Ii p_1.Serial]:List AV) (ac (rfl:([]:List zW)=[]) (ac (tW p_1.Serial r_2 h_2:zV prog 56 [] [] [Ii p_1.Serial] [] (.bool r_2)) (ac zH (ac zH (ac zJ (ac zJ (ac zJ (ar ([Ii p_1.Lost]:List AV) (ac (rfl:([]:List zW)=[]) (ac (tW p_1.Lost r_3 h_3:zV prog 56 [] [] [Ii p_1.Lost] [] (.bool r_3)) (ac zJ (ac zJ (ac zO (ac zO (ac zO (ac zO (ac zO (ac zO an))))))))))))))))))))))))) ?_
     cases h
     exact ⟨rfl,(sw [0] [] [.s 1,.s 3] [.s 0] an)⟩
    ·replace h:=zQ zO h
     refine rg [(2,{ av:=.bool r_1,l:=[Ii p_1.Thread] }),(7,{ av:=.bool r_2,l:=[Ii p_1.Serial] }),(9,Hf),(13,{ av:=.bool r_3,l:=[Ii p_1.Lost] }),(15,Hf),(22,Hf)] [1,3] [0] 1 [Pp 0,.bool (decide (p_1.Lost>p_1.Serial))] [Vb 59 (zX p_1)] zF (ar ([Ii p_1.Thread]:List AV) (ac (rfl:([]:List zW)=[]) (ac (tW p_1.Thread r_1 h_1:zV prog 56 [] [] [Ii p_1.Thread] [] (.bool r_1)) (ac zH (ac zH (ac zH (ar ([Ii p_1.Serial]:List AV) (ac (rfl:([]:List zW)=[]) (ac (tW p_1.Serial r_2 h_2:zV prog 56 [] [] [Ii p_1.Serial] [] (.bool r_2)) (ac zH (ac zH (ac zJ (ac zJ (ac zJ (ar ([Ii p_1.Lost]:List AV) (ac (rfl:([]:List zW)=[]) (ac (tW p_1.Lost r_3 h_3:zV prog 56 [] [] [Ii p_1.Lost] [] (.bool r_3)) (ac zJ (ac zJ (ac zO (ac zO (ac zO (ac zO (ac zO (ac zO an))))))))))))))))))))))))) ?_
     cases h
     exact ⟨rfl,(sw [0] [] [.s 1,.s 3] [.s 0] an)⟩
 refine cd 3 p_2 ?_ ?_
 ·intro g_1;replace h:=zR g_1 h
  refine sr [] [2] [] 1 [Ii 2] [] zF an ?_
  refine rt ?_
  cases h
  exact ⟨.inr rfl,Nat.le_of_ble_eq_true rfl,by kernel_rfl⟩
 intro g_1;replace h:=zQ g_1 h
 refine sr [(4,{ n:=(p_1.Events).length })] [1,27] [0] 1 [Pp 0,.bool (decide (p_1.Serial>(zP ((1000000000000000:Int) - (lN (p_1.Events))))))] [Vb 59 (zX p_1)] zF (ac (yF _:((Mp zD p_1.Events)).length=(p_1.Events).length) an) ?_
 refine cd 27 (decide (p_1.Serial>(zP ((1000000000000000:Int) - (lN (p_1.Events)))))) ?_ ?_
 ·intro g_2;replace h:=zR g_2 h
  refine sr [] [2] [] 1 [Ii 2] [] zF an ?_
  refine rt ?_
  cases h
  exact ⟨.inr rfl,Nat.le_of_ble_eq_true rfl,by kernel_rfl⟩
 intro g_2;replace h:=zQ g_2 h
 refine sr [(2,{ n:=(p_1.Events).length })] [1,35] [0] 1 [Pp 0,.bool ((lN (p_1.Events))==(0:Int))] [Vb 59 (zX p_1)] zF (ac (yF _:((Mp zD p_1.Events)).length=(p_1.Events).length) an) ?_
 refine cd 35 ((lN (p_1.Events))==(0:Int)) ?_ ?_
 ·intro g_3;replace h:=zR g_3 h
  refine sr [] [2] [] 1 [Ii 8] [] zF an ?_
  refine rt ?_
  cases h
  exact ⟨.inr rfl,Nat.le_of_ble_eq_true rfl,by kernel_rfl⟩
 intro g_3;replace h:=zQ g_3 h
 refine sr [(2,{ n:=(p_1.Events).length })] [1,40] [0] 1 [Pp 0,.bool (decide ((lN (p_1.Events))>(1000:Int)))] [Vb 59 (zX p_1)] zF (ac (yF _:((Mp zD p_1.Events)).length=(p_1.Events).length) an) ?_
 refine cd 40 (decide ((lN (p_1.Events))>(1000:Int))) ?_ ?_
 ·intro g_4;replace h:=zR g_4 h
  refine sr [] [2] [] 1 [Ii 7] [] zF an ?_
  refine rt ?_
  cases h
  exact ⟨.inr rfl,Nat.le_of_ble_eq_true rfl,by kernel_rfl⟩
 intro g_4;replace h:=zQ g_4 h
 refine sk ?_
 refine sq ?_
 obtain ⟨r_4,h_5,h⟩:=bind_some h
 refine rg [(2,{ av:=Ii r_4,l:=[.sl false 6 (Mp zD p_1.Events)] })] [2] [] 1 [Ii r_4] [] zF (ar ([.sl false 6 (Mp zD p_1.Events)]:List AV) (ac (rfl:([]:List zW)=[]) (ac (zHh F p_1.Events r_4 h_5:zV prog 57 [] [] [.sl false 6 (Mp zD p_1.Events)] [] (Ii r_4)) an))) ?_
 refine rt ?_
 cases h
 exact ⟨.inr rfl,Nat.le_of_ble_eq_true rfl,by kernel_rfl⟩
theorem zKb (F:Nat) (h_1:zL) (z7:Int) (r:Bool) (h:zCD F h_1 z7=some r):zV prog 32 [] [] [yU h_1,Ii z7] [] (.bool r):=by
 refine yG (fn:=Go.Proofs.Try.f32) (code:=xC Go.Proofs.Try.f32) (by kernel_rfl) (by kernel_rfl) (Nat.le_of_ble_eq_true (by kernel_rfl)) ?_
 unfold zCD at h
 refine sr [(0,{ id:=0 })] [1,2] [0] 1 [Ii z7,Pp 0] [Vb 26 (zN h_1)] zF an ?_
 refine sq ?_
 refine sr [] [1,2,5] [0] 1 [Ii z7,Pp 0,Ii 0] [Vb 26 (zN h_1)] zF an ?_
 obtain ⟨o_1,h_2,h⟩:=bind_some h
 refine wI (K1:=(fun e st'=>match o_1 with | (.inl q0)=>e=.normal∧Sub 0 st' (mk [] [] 0) | (.inr q1)=>e=.ret∧uE prog Go.Proofs.Try.f32 0 [] (.bool q1) st')) ?_ ?_
 ·replace h:=h_2
  refine yD (id:=0) (by kernel_rfl) ?_
  refine wk [0] [] [.s 1,.s 2,.s 5] [.s 0] [(1,Ii z7),(2,Pp 0),(5,Ii 0)] [(0,Vb 26 (zN h_1))] an ?_
  refine xI (fun n st=>∃ (i_1:Int),st=mk [(1,Ii z7),(2,Pp 0),(5,Ii i_1)] [(0,Vb 26 (zN h_1))] 1∧zAk F h_1 z7 n i_1=some o_1) F (by kernel_rfl) ⟨_,rfl,h⟩ ?_ ?_
  ·rintro _ ⟨_,_,h⟩;exact xN (h:(none:Option (Unit⊕Bool))=some o_1)
  rintro n_1 _ ⟨i_1,rfl,h⟩
  replace h:tG F h_1 z7 (zAk F h_1 z7 n_1) i_1=some o_1:=h
  unfold tG at h
  refine sq ?_
  refine sr [(3,{ n:=(h_1.Threads).length })] [1,2,5,10] [0] 1 [Ii z7,Pp 0,Ii i_1,.bool (decide (i_1<(lN (h_1.Threads))))] [Vb 26 (zN h_1)] zF (ac (yF _:((Mp zG h_1.Threads)).length=(h_1.Threads).length) an) ?_
  refine cd 10 (decide (i_1<(lN (h_1.Threads)))) ?_ ?_
  rotate_left
  ·intro g_1;replace h:=zQ g_1 h
   refine xM (id:=0) (by kernel_rfl) ?_
   cases h
   exact ⟨rfl,(sw [] [] [] [] an)⟩
  intro g_1;replace h:=zR g_1 h
  refine sk ?_
  refine sq ?_
  refine yD (id:=1) (by kernel_rfl) ?_
  refine sq ?_
  obtain ⟨x_1,h_3,h⟩:=bind_some h
  refine rg [(3,{ av:=zG x_1 })] [1,2,5,20] [0] 1 [Ii z7,Pp 0,Ii i_1,.bool (x_1.Id==z7)] [Vb 26 (zN h_1)] zF (ac (yR h_3:xJ (Mp zG h_1.Threads) i_1=some (zG x_1)) an) ?_
  refine cd 20 (x_1.Id==z7) ?_ ?_
  rotate_left
  ·intro g_2;replace h:=zQ g_2 h
   refine sk ?_
   refine rg [] [1,2,5] [0] 1 [Ii z7,Pp 0,Ii (zP (i_1+(1:Int)))] [Vb 26 (zN h_1)] zF an ?_
   exact ⟨_,(sw [0] [] [.s 1,.s 2,.s 5] [.s 0] an),_,rfl,h⟩
  intro g_2;replace h:=zR g_2 h
  refine sr [] [4] [] 1 [.bool true] [] zF an ?_
  refine rt ?_
  cases h
  exact ⟨rfl,Nat.le_of_ble_eq_true rfl,by kernel_rfl⟩
 intro e st1 hk
 rcases o_1 with q_1 | q_2
 rotate_left
 ·obtain ⟨rfl,hf⟩:=hk
  cases h
  exact ⟨st1,Sub.refl _ _,.inr rfl,hf⟩
 obtain ⟨rfl,hs⟩:=hk
 refine ⟨_,hs,?_⟩
 refine sr [] [4] [] 0 [.bool false] [] zF an ?_
 refine rt ?_
 cases h
 exact ⟨.inr rfl,Nat.le_of_ble_eq_true rfl,by kernel_rfl⟩
theorem zMa (F:Nat) (l_1:List (zB)) (z7:Int) (r:Int×Int) (h:zD6 F l_1 z7=some r):zV prog 23 [] [] [.sl false 4 (Mp zA l_1),Ii z7] [] (.tuple [Ii r.1,Ii r.2]):=by
 refine yG (fn:=Go.Proofs.Try.f23) (code:=xC Go.Proofs.Try.f23) (by kernel_rfl) (by kernel_rfl) (Nat.le_of_ble_eq_true (by kernel_rfl)) ?_
 unfold zD6 at h
 refine sr [] [0,1] [] 0 [.sl false 4 (Mp zA l_1),Ii z7] [] zF an ?_
 refine sr [] [0,1,6] [] 0 [.sl false 4 (Mp zA l_1),Ii z7,Ii 0] [] zF an ?_
 refine sr [] [0,1,6,7] [] 0 [.sl false 4 (Mp zA l_1),Ii z7,Ii 0,Ii 0] [] zF an ?_
 refine sq ?_
 refine sr [] [0,1,6,7,8] [] 0 [.sl false 4 (Mp zA l_1),Ii z7,Ii 0,Ii 0,Ii 0] [] zF an ?_
 obtain ⟨o_1,h_1,h⟩:=bind_some h
 refine y4 (mk [(6,Ii o_1.1),(7,Ii o_1.2)] [] 0) ?_ ?_
 ·replace h:=h_1
  refine yD (id:=0) (by kernel_rfl) ?_
  refine wk [] [] [.s 0,.s 1,.s 6,.s 7,.s 8] [] [(0,.sl false 4 (Mp zA l_1)),(1,Ii z7),(6,Ii 0),(7,Ii 0),(8,Ii 0)] [] an ?_
  refine xI (fun n st=>∃ (n_1:Int),∃ (zAt:Int),∃ (i_1:Int),st=mk [(0,.sl false 4 (Mp zA l_1)),(1,Ii z7),(6,Ii n_1),(7,Ii zAt),(8,Ii i_1)] [] 0∧zAz F l_1 z7 n n_1 zAt i_1=some o_1) F (by kernel_rfl) ⟨_,_,_,rfl,h⟩ ?_ ?_
  ·rintro _ ⟨_,_,_,_,h⟩;exact xN (h:(none:Option (Int×Int))=some o_1)
  rintro n_2 _ ⟨n_1,zAt,i_1,rfl,h⟩
  replace h:kT F l_1 z7 (zAz F l_1 z7 n_2) n_1 zAt i_1=some o_1:=h
  unfold kT at h
  refine sq ?_
  refine sr [(2,{ n:=(l_1).length })] [0,1,6,7,8,12] [] 0 [.sl false 4 (Mp zA l_1),Ii z7,Ii n_1,Ii zAt,Ii i_1,.bool (decide (i_1<(lN (l_1))))] [] zF (ac (yF _:((Mp zA l_1)).length=(l_1).length) an) ?_
  refine cd 12 (decide (i_1<(lN (l_1)))) ?_ ?_
  rotate_left
  ·intro g_1;replace h:=zQ g_1 h
   refine xM (id:=0) (by kernel_rfl) ?_
   cases h
   exact ⟨rfl,(sw [] [] [.s 6,.s 7] [] an)⟩
  intro g_1;replace h:=zR g_1 h
  refine sk ?_
  refine sq ?_
  obtain ⟨o_2,h_2,h⟩:=bind_some h
  refine y4 (mk [(0,.sl false 4 (Mp zA l_1)),(1,Ii z7),(6,Ii o_2.1),(7,Ii o_2.2),(8,Ii i_1)] [] 0) ?_ ?_
  ·replace h:=h_2
   refine yD (id:=1) (by kernel_rfl) ?_
   refine sq ?_
   obtain ⟨x_1,h_3,h⟩:=bind_some h
   refine rg [(2,{ av:=zA x_1 })] [0,1,6,7,8,21] [] 0 [.sl false 4 (Mp zA l_1),Ii z7,Ii n_1,Ii zAt,Ii i_1,.bool (x_1.Thread==z7)] [] zF (ac (yR h_3:xJ (Mp zA l_1) i_1=some (zA x_1)) an) ?_
   refine cd 21 (x_1.Thread==z7) ?_ ?_
   rotate_left
   ·intro g_2;replace h:=zQ g_2 h
    refine sk ?_
    cases h
    exact ⟨rfl,(sw [] [] [.s 0,.s 1,.s 6,.s 7,.s 8] [] an)⟩
   intro g_2;replace h:=zR g_2 h
   refine sq ?_
   obtain ⟨x_2,h_4,h⟩:=bind_some h
   obtain ⟨x_3,h_5,h⟩:=bind_some h
   refine rg [(2,{ av:=zA x_2 }),(7,{ av:=zA x_3 }),(10,{ n:=(x_3.Events).length })] [0,1,6,8] [] 0 [.sl false 4 (Mp zA l_1),Ii z7,Ii (zP (x_2.Serial+(lN (x_3.Events)))),Ii i_1] [] zF (ac (yR h_4:xJ (Mp zA l_1) i_1=some (zA x_2)) (ac (yR h_5:xJ (Mp zA l_1) i_1=some (zA x_3)) (ac (yF _:((Mp zD x_3.Events)).length=(x_3.Events).length) an))) ?_
   obtain ⟨x_4,h_6,h⟩:=bind_some h
   obtain ⟨x_5,h_7,h⟩:=bind_some h
   obtain ⟨x_6,h_8,h⟩:=bind_some h
   refine rg [(2,{ av:=zA x_4 }),(7,{ av:=zA x_5 }),(10,{ n:=(x_5.Events).length }),(12,{ av:=zD x_6 })] [0,1,6,7,8] [] 0 [.sl false 4 (Mp zA l_1),Ii z7,Ii (zP (x_2.Serial+(lN (x_3.Events)))),Ii x_6.At,Ii i_1] [] zF (ac (yR h_6:xJ (Mp zA l_1) i_1=some (zA x_4)) (ac (yR h_7:xJ (Mp zA l_1) i_1=some (zA x_5)) (ac (yF _:((Mp zD x_5.Events)).length=(x_5.Events).length) (ac (yR h_8:xJ (Mp zD x_4.Events) (zP ((lN (x_5.Events)) - (1:Int)))=some (zD x_6)) an)))) ?_
   cases h
   exact ⟨rfl,(sw [] [] [.s 0,.s 1,.s 6,.s 7,.s 8] [] an)⟩
  refine rg [] [0,1,6,7,8] [] 0 [.sl false 4 (Mp zA l_1),Ii z7,Ii o_2.1,Ii o_2.2,Ii (zP (i_1+(1:Int)))] [] zF an ?_
  exact ⟨_,(sw [] [] [.s 0,.s 1,.s 6,.s 7,.s 8] [] an),_,_,_,rfl,h⟩
 refine sr [] [4,5] [] 0 [Ii o_1.1,Ii o_1.2] [] zF an ?_
 refine rt ?_
 cases h
 exact ⟨.inr rfl,Nat.le_of_ble_eq_true rfl,by kernel_rfl⟩
theorem zIx (F:Nat) (l_1:List (zB)) (p_1:zB) (r:Bool) (h:zAO F l_1 p_1=some r):zV prog 33 [] [] [.sl false 4 (Mp zA l_1),zA p_1] [] (.bool r):=by
 refine yG (fn:=Go.Proofs.Try.f33) (code:=xC Go.Proofs.Try.f33) (by kernel_rfl) (by kernel_rfl) (Nat.le_of_ble_eq_true (by kernel_rfl)) ?_
 unfold zAO at h
 refine sr [(0,{ id:=0 })] [0,3] [0] 1 [.sl false 4 (Mp zA l_1),Pp 0] [Vb 59 (zX p_1)] zF an ?_
 refine sq ?_
 obtain ⟨r_1,h_1,h⟩:=bind_some h
 refine rg [(3,{ av:=.tuple [Ii r_1.1,Ii r_1.2],l:=[.sl false 4 (Mp zA l_1),Ii p_1.Thread] })] [3,5,6] [0] 1 [Pp 0,Ii r_1.1,Ii r_1.2] [Vb 59 (zX p_1)] zF (ar ([.sl false 4 (Mp zA l_1),Ii p_1.Thread]:List AV) (ac (rfl:([]:List zW)=[]) (ac (zMa F l_1 p_1.Thread r_1 h_1:zV prog 23 [] [] [.sl false 4 (Mp zA l_1),Ii p_1.Thread] [] (.tuple [Ii r_1.1,Ii r_1.2])) an))) ?_
 refine sq ?_
 obtain ⟨p_2,h_3,h⟩:=bind_some h
 refine y4 (mk [(4,.bool p_2)] [] 0) ?_ ?_
 ·replace h:=h_3
  rcases bft (p_1.Serial==(zP (r_1.1+p_1.Lost))) with zH | zH
  ·replace h:=zR zH h
   obtain ⟨x_1,h_2,h⟩:=bind_some h
   refine rg [(10,{ av:=zD x_1 }),(15,Ht)] [4] [] 1 [.bool (decide (x_1.At≥r_1.2))] [] zF (ac zH (ac zH (ac zH (ac (yR h_2:xJ (Mp zD p_1.Events) (0:Int)=some (zD x_1)) (ac zH (ac zH (ac zH (ac zH (ac zH an))))))))) ?_
   cases h
   exact ⟨rfl,(sw [] [] [.s 4] [] an)⟩
  ·replace h:=zQ zH h
   refine rg [(8,Hg),(9,Hg),(10,Hg),(11,Hg),(12,Hg),(13,Hg),(14,Hg),(15,Hf)] [4] [] 1 [.bool false] [] zF (ac zH (ac zH (ac zH (ac zH (ac zH (ac zH (ac zH (ac zH an)))))))) ?_
   cases h
   exact ⟨rfl,(sw [] [] [.s 4] [] an)⟩
 refine rt ?_
 cases h
 exact ⟨.inr rfl,Nat.le_of_ble_eq_true rfl,by kernel_rfl⟩
theorem zJe (F:Nat) (l_1:List (zB)) (r:Int) (h:zBw F l_1=some r):zV prog 22 [] [] [.sl false 4 (Mp zA l_1)] [] (Ii r):=by
 refine yG (fn:=Go.Proofs.Try.f22) (code:=xC Go.Proofs.Try.f22) (by kernel_rfl) (by kernel_rfl) (Nat.le_of_ble_eq_true (by kernel_rfl)) ?_
 unfold zBw at h
 refine sr [] [0] [] 0 [.sl false 4 (Mp zA l_1)] [] zF an ?_
 refine sr [] [0,3] [] 0 [.sl false 4 (Mp zA l_1),Ii 0] [] zF an ?_
 refine sq ?_
 refine sr [] [0,3,4] [] 0 [.sl false 4 (Mp zA l_1),Ii 0,Ii 0] [] zF an ?_
 obtain ⟨o_1,h_1,h⟩:=bind_some h
 refine y4 (mk [(3,Ii o_1)] [] 0) ?_ ?_
 ·replace h:=h_1
  refine yD (id:=0) (by kernel_rfl) ?_
  refine wk [] [] [.s 0,.s 3,.s 4] [] [(0,.sl false 4 (Mp zA l_1)),(3,Ii 0),(4,Ii 0)] [] an ?_
  refine xI (fun n st=>∃ (n_1:Int),∃ (i_1:Int),st=mk [(0,.sl false 4 (Mp zA l_1)),(3,Ii n_1),(4,Ii i_1)] [] 0∧j8 F l_1 n n_1 i_1=some o_1) F (by kernel_rfl) ⟨_,_,rfl,h⟩ ?_ ?_
  ·rintro _ ⟨_,_,_,h⟩;exact xN (h:(none:Option Int)=some o_1)
  rintro n_2 _ ⟨n_1,i_1,rfl,h⟩
  replace h:qY F l_1 (j8 F l_1 n_2) n_1 i_1=some o_1:=h
  unfold qY at h
  refine sq ?_
  refine sr [(2,{ n:=(l_1).length })] [0,3,4,8] [] 0 [.sl false 4 (Mp zA l_1),Ii n_1,Ii i_1,.bool (decide (i_1<(lN (l_1))))] [] zF (ac (yF _:((Mp zA l_1)).length=(l_1).length) an) ?_
  refine cd 8 (decide (i_1<(lN (l_1)))) ?_ ?_
  rotate_left
  ·intro g_1;replace h:=zQ g_1 h
   refine xM (id:=0) (by kernel_rfl) ?_
   cases h
   exact ⟨rfl,(sw [] [] [.s 3] [] an)⟩
  intro g_1;replace h:=zR g_1 h
  refine sk ?_
  refine sq ?_
  refine yD (id:=1) (by kernel_rfl) ?_
  obtain ⟨x_1,h_2,h⟩:=bind_some h
  refine rg [(3,{ av:=zA x_1 }),(6,{ n:=(x_1.Events).length })] [0,3,4] [] 0 [.sl false 4 (Mp zA l_1),Ii (zP (n_1+(lN (x_1.Events)))),Ii i_1] [] zF (ac (yR h_2:xJ (Mp zA l_1) i_1=some (zA x_1)) (ac (yF _:((Mp zD x_1.Events)).length=(x_1.Events).length) an)) ?_
  refine rg [] [0,3,4] [] 0 [.sl false 4 (Mp zA l_1),Ii (zP (n_1+(lN (x_1.Events)))),Ii (zP (i_1+(1:Int)))] [] zF an ?_
  exact ⟨_,(sw [] [] [.s 0,.s 3,.s 4] [] an),_,_,rfl,h⟩
 refine sr [] [2] [] 0 [Ii o_1] [] zF an ?_
 refine rt ?_
 cases h
 exact ⟨.inr rfl,Nat.le_of_ble_eq_true rfl,by kernel_rfl⟩
end Go.Ab
