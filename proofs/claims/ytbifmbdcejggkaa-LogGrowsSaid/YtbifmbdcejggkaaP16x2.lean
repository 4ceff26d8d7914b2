/- Printed: the typed Lean functions of the Go functions, or the proofs that the Go functions meet them. No conditions but those that the theorems name. -/
import Derived.Test.YtbifmbdcejggkaaP16x1
namespace Go.Ab
open Go
set_option linter.unusedVariables false
theorem wA (F:Nat) (s1_1:List (zQ)) (s2_1:List (zQ)) (r:Bool) (h:xV F s1_1 s2_1=some r):zW prog 37 [] [] [.sl false 3 (Mp zG s1_1),.sl false 3 (Mp zG s2_1)] [] (.bool r):=by
 refine yK (fn:=Go.Proofs.Try.f37) (code:=xY Go.Proofs.Try.f37) (by kernel_rfl) (by kernel_rfl) (Nat.le_of_ble_eq_true (by kernel_rfl)) ?_
 unfold xV at h
 refine sr [] [0,1] [] 0 [.sl false 3 (Mp zG s1_1),.sl false 3 (Mp zG s2_1)] [] zH an ?_
 refine sq ?_
 refine sr [(1,{ n:=(s1_1).length }),(3,{ n:=(s2_1).length })] [0,1,10] [] 0 [.sl false 3 (Mp zG s1_1),.sl false 3 (Mp zG s2_1),.bool ((lN (s1_1)) != (lN (s2_1)))] [] zH (ac (yH _:((Mp zG s1_1)).length=(s1_1).length) (ac (yH _:((Mp zG s2_1)).length=(s2_1).length) an)) ?_
 refine cd 10 ((lN (s1_1)) != (lN (s2_1))) ?_ ?_
 ·intro g_1;replace h:=zT g_1 h
  refine sr [] [4] [] 0 [.bool false] [] zH an ?_
  refine rt ?_
  cases h
  exact ⟨.inr rfl,Nat.le_of_ble_eq_true rfl,by kernel_rfl⟩
 intro g_1;replace h:=zU g_1 h
 refine sk ?_
 refine sq ?_
 refine sr [(1,{ n:=(s1_1).length })] [0,1,12,13] [] 0 [.sl false 3 (Mp zG s1_1),.sl false 3 (Mp zG s2_1),Ii (lN (s1_1)),Ii 0] [] zH (ac (yH _:((Mp zG s1_1)).length=(s1_1).length) an) ?_
 obtain ⟨o_1,h_1,h⟩:=bind_some h
 refine uR (K1:=(fun e st'=>match o_1 with | (.inl q0)=>e=.normal∧Sub 0 st' (mk [] [] 0) | (.inr q1)=>e=.ret∧kO prog Go.Proofs.Try.f37 0 [] (.bool q1) st')) ?_ ?_
 ·replace h:=h_1
  refine yU (id:=0) (by kernel_rfl) ?_
  refine wk [] [] [.s 0,.s 1,.s 12,.s 13] [] [(0,.sl false 3 (Mp zG s1_1)),(1,.sl false 3 (Mp zG s2_1)),(12,Ii (lN (s1_1))),(13,Ii 0)] [] an ?_
  refine wT (fun n st=>∃ (v_1:Int),st=mk [(0,.sl false 3 (Mp zG s1_1)),(1,.sl false 3 (Mp zG s2_1)),(12,Ii (lN (s1_1))),(13,Ii v_1)] [] 0∧xN F s1_1 s2_1 n v_1=some o_1) F (by kernel_rfl) ⟨_,rfl,h⟩ ?_ ?_
  ·rintro _ ⟨_,_,h⟩;exact wV (h:(none:Option (Unit⊕Bool))=some o_1)
  rintro n_1 _ ⟨v_1,rfl,h⟩
  replace h:yW F s1_1 s2_1 (xN F s1_1 s2_1 n_1) v_1=some o_1:=h
  unfold yW at h
  refine sr [] [0,1,12,13,14] [] 0 [.sl false 3 (Mp zG s1_1),.sl false 3 (Mp zG s2_1),Ii (lN (s1_1)),Ii v_1,.bool (decide (v_1<(lN (s1_1))))] [] zH an ?_
  refine sq ?_
  refine cd 14 (decide (v_1<(lN (s1_1)))) ?_ ?_
  rotate_left
  ·intro g_2;replace h:=zU g_2 h
   refine w5 (id:=0) (by kernel_rfl) ?_
   cases h
   exact ⟨rfl,(sw [] [] [] [] an)⟩
  intro g_2;replace h:=zT g_2 h
  refine sk ?_
  refine sq ?_
  refine yU (id:=1) (by kernel_rfl) ?_
  refine sr [] [0,1,5,12,13] [] 0 [.sl false 3 (Mp zG s1_1),.sl false 3 (Mp zG s2_1),Ii v_1,Ii (lN (s1_1)),Ii v_1] [] zH an ?_
  refine sq ?_
  obtain ⟨x_1,h_2,h⟩:=bind_some h
  obtain ⟨x_2,h_3,h⟩:=bind_some h
  refine rg [(2,{ av:=zG x_1 }),(6,{ av:=zG x_2 }),(8,{ b:=(decide (x_1=x_2)),mks:=[.int .i64,.str,.int .i64] })] [0,1,12,13,24] [] 0 [.sl false 3 (Mp zG s1_1),.sl false 3 (Mp zG s2_1),Ii (lN (s1_1)),Ii v_1,.bool (!(decide (x_1=x_2)))] [] zH (ac (wI h_2:vA (Mp zG s1_1) v_1=some (zG x_1)) (ac (wI h_3:vA (Mp zG s2_1) v_1=some (zG x_2)) (ac (zMy:j9 prog 66 [.int .i64,.str,.int .i64]) (ac (zAe (f:=zG) zEo x_1 x_2:((decide (x_1=x_2))=true↔AV.agg [Ii x_1.Id,.str x_1.Name,Ii x_1.Domain]=AV.agg [Ii x_2.Id,.str x_2.Name,Ii x_2.Domain])) an)))) ?_
  refine cd 24 (!(decide (x_1=x_2))) ?_ ?_
  rotate_left
  ·intro g_3;replace h:=zU g_3 h
   refine sk ?_
   refine rg [] [0,1,12,13] [] 0 [.sl false 3 (Mp zG s1_1),.sl false 3 (Mp zG s2_1),Ii (lN (s1_1)),Ii (zK (v_1+(1:Int)))] [] zH an ?_
   exact ⟨_,(sw [] [] [.s 0,.s 1,.s 12,.s 13] [] an),_,rfl,h⟩
  intro g_3;replace h:=zT g_3 h
  refine sr [] [4] [] 0 [.bool false] [] zH an ?_
  refine rt ?_
  cases h
  exact ⟨rfl,Nat.le_of_ble_eq_true rfl,by kernel_rfl⟩
 intro e st1 hk
 rcases o_1 with q_1 | q_2
 rotate_left
 ·obtain ⟨rfl,hf⟩:=hk
  cases h
  exact ⟨st1,Sub.refl _ _,.inr rfl,hf⟩
 obtain ⟨rfl,hs⟩:=hk
 refine ⟨_,hs,?_⟩
 refine sr [] [4] [] 0 [.bool true] [] zH an ?_
 refine rt ?_
 cases h
 exact ⟨.inr rfl,Nat.le_of_ble_eq_true rfl,by kernel_rfl⟩

theorem w3 (F:Nat) (s1_1:List (zM)) (s2_1:List (zM)) (r:Bool) (h:xU F s1_1 s2_1=some r):zW prog 38 [] [] [.sl false 2 (Mp zD s1_1),.sl false 2 (Mp zD s2_1)] [] (.bool r):=by
 refine yK (fn:=Go.Proofs.Try.f38) (code:=xY Go.Proofs.Try.f38) (by kernel_rfl) (by kernel_rfl) (Nat.le_of_ble_eq_true (by kernel_rfl)) ?_
 unfold xU at h
 refine sr [] [0,1] [] 0 [.sl false 2 (Mp zD s1_1),.sl false 2 (Mp zD s2_1)] [] zH an ?_
 refine sq ?_
 refine sr [(1,{ n:=(s1_1).length }),(3,{ n:=(s2_1).length })] [0,1,10] [] 0 [.sl false 2 (Mp zD s1_1),.sl false 2 (Mp zD s2_1),.bool ((lN (s1_1)) != (lN (s2_1)))] [] zH (ac (yH _:((Mp zD s1_1)).length=(s1_1).length) (ac (yH _:((Mp zD s2_1)).length=(s2_1).length) an)) ?_
 refine cd 10 ((lN (s1_1)) != (lN (s2_1))) ?_ ?_
 ·intro g_1;replace h:=zT g_1 h
  refine sr [] [4] [] 0 [.bool false] [] zH an ?_
  refine rt ?_
  cases h
  exact ⟨.inr rfl,Nat.le_of_ble_eq_true rfl,by kernel_rfl⟩
 intro g_1;replace h:=zU g_1 h
 refine sk ?_
 refine sq ?_
 refine sr [(1,{ n:=(s1_1).length })] [0,1,12,13] [] 0 [.sl false 2 (Mp zD s1_1),.sl false 2 (Mp zD s2_1),Ii (lN (s1_1)),Ii 0] [] zH (ac (yH _:((Mp zD s1_1)).length=(s1_1).length) an) ?_
 obtain ⟨o_1,h_1,h⟩:=bind_some h
 refine uR (K1:=(fun e st'=>match o_1 with | (.inl q0)=>e=.normal∧Sub 0 st' (mk [] [] 0) | (.inr q1)=>e=.ret∧kO prog Go.Proofs.Try.f38 0 [] (.bool q1) st')) ?_ ?_
 ·replace h:=h_1
  refine yU (id:=0) (by kernel_rfl) ?_
  refine wk [] [] [.s 0,.s 1,.s 12,.s 13] [] [(0,.sl false 2 (Mp zD s1_1)),(1,.sl false 2 (Mp zD s2_1)),(12,Ii (lN (s1_1))),(13,Ii 0)] [] an ?_
  refine wT (fun n st=>∃ (v_1:Int),st=mk [(0,.sl false 2 (Mp zD s1_1)),(1,.sl false 2 (Mp zD s2_1)),(12,Ii (lN (s1_1))),(13,Ii v_1)] [] 0∧xM F s1_1 s2_1 n v_1=some o_1) F (by kernel_rfl) ⟨_,rfl,h⟩ ?_ ?_
  ·rintro _ ⟨_,_,h⟩;exact wV (h:(none:Option (Unit⊕Bool))=some o_1)
  rintro n_1 _ ⟨v_1,rfl,h⟩
  replace h:yX F s1_1 s2_1 (xM F s1_1 s2_1 n_1) v_1=some o_1:=h
  unfold yX at h
  refine sr [] [0,1,12,13,14] [] 0 [.sl false 2 (Mp zD s1_1),.sl false 2 (Mp zD s2_1),Ii (lN (s1_1)),Ii v_1,.bool (decide (v_1<(lN (s1_1))))] [] zH an ?_
  refine sq ?_
  refine cd 14 (decide (v_1<(lN (s1_1)))) ?_ ?_
  rotate_left
  ·intro g_2;replace h:=zU g_2 h
   refine w5 (id:=0) (by kernel_rfl) ?_
   cases h
   exact ⟨rfl,(sw [] [] [] [] an)⟩
  intro g_2;replace h:=zT g_2 h
  refine sk ?_
  refine sq ?_
  refine yU (id:=1) (by kernel_rfl) ?_
  refine sr [] [0,1,5,12,13] [] 0 [.sl false 2 (Mp zD s1_1),.sl false 2 (Mp zD s2_1),Ii v_1,Ii (lN (s1_1)),Ii v_1] [] zH an ?_
  refine sq ?_
  obtain ⟨x_1,h_2,h⟩:=bind_some h
  obtain ⟨x_2,h_3,h⟩:=bind_some h
  refine rg [(2,{ av:=zD x_1 }),(6,{ av:=zD x_2 }),(8,{ b:=(decide (x_1=x_2)),mks:=[.int .i64,.int .i64] })] [0,1,12,13,24] [] 0 [.sl false 2 (Mp zD s1_1),.sl false 2 (Mp zD s2_1),Ii (lN (s1_1)),Ii v_1,.bool (!(decide (x_1=x_2)))] [] zH (ac (wI h_2:vA (Mp zD s1_1) v_1=some (zD x_1)) (ac (wI h_3:vA (Mp zD s2_1) v_1=some (zD x_2)) (ac (zJo:j9 prog 68 [.int .i64,.int .i64]) (ac (zAe (f:=zD) zBz x_1 x_2:((decide (x_1=x_2))=true↔AV.agg [Ii x_1.Id,Ii x_1.Ppm]=AV.agg [Ii x_2.Id,Ii x_2.Ppm])) an)))) ?_
  refine cd 24 (!(decide (x_1=x_2))) ?_ ?_
  rotate_left
  ·intro g_3;replace h:=zU g_3 h
   refine sk ?_
   refine rg [] [0,1,12,13] [] 0 [.sl false 2 (Mp zD s1_1),.sl false 2 (Mp zD s2_1),Ii (lN (s1_1)),Ii (zK (v_1+(1:Int)))] [] zH an ?_
   exact ⟨_,(sw [] [] [.s 0,.s 1,.s 12,.s 13] [] an),_,rfl,h⟩
  intro g_3;replace h:=zT g_3 h
  refine sr [] [4] [] 0 [.bool false] [] zH an ?_
  refine rt ?_
  cases h
  exact ⟨rfl,Nat.le_of_ble_eq_true rfl,by kernel_rfl⟩
 intro e st1 hk
 rcases o_1 with q_1 | q_2
 rotate_left
 ·obtain ⟨rfl,hf⟩:=hk
  cases h
  exact ⟨st1,Sub.refl _ _,.inr rfl,hf⟩
 obtain ⟨rfl,hs⟩:=hk
 refine ⟨_,hs,?_⟩
 refine sr [] [4] [] 0 [.bool true] [] zH an ?_
 refine rt ?_
 cases h
 exact ⟨.inr rfl,Nat.le_of_ble_eq_true rfl,by kernel_rfl⟩

theorem uA (F:Nat) (s1_1:List (yC)) (s2_1:List (yC)) (r:Bool) (h:x5 F s1_1 s2_1=some r):zW prog 39 [] [] [.sl false 5 (Mp zF s1_1),.sl false 5 (Mp zF s2_1)] [] (.bool r):=by
 refine yK (fn:=Go.Proofs.Try.f39) (code:=xY Go.Proofs.Try.f39) (by kernel_rfl) (by kernel_rfl) (Nat.le_of_ble_eq_true (by kernel_rfl)) ?_
 unfold x5 at h
 refine sr [] [0,1] [] 0 [.sl false 5 (Mp zF s1_1),.sl false 5 (Mp zF s2_1)] [] zH an ?_
 refine sq ?_
 refine sr [(1,{ n:=(s1_1).length }),(3,{ n:=(s2_1).length })] [0,1,10] [] 0 [.sl false 5 (Mp zF s1_1),.sl false 5 (Mp zF s2_1),.bool ((lN (s1_1)) != (lN (s2_1)))] [] zH (ac (yH _:((Mp zF s1_1)).length=(s1_1).length) (ac (yH _:((Mp zF s2_1)).length=(s2_1).length) an)) ?_
 refine cd 10 ((lN (s1_1)) != (lN (s2_1))) ?_ ?_
 ·intro g_1;replace h:=zT g_1 h
  refine sr [] [4] [] 0 [.bool false] [] zH an ?_
  refine rt ?_
  cases h
  exact ⟨.inr rfl,Nat.le_of_ble_eq_true rfl,by kernel_rfl⟩
 intro g_1;replace h:=zU g_1 h
 refine sk ?_
 refine sq ?_
 refine sr [(1,{ n:=(s1_1).length })] [0,1,12,13] [] 0 [.sl false 5 (Mp zF s1_1),.sl false 5 (Mp zF s2_1),Ii (lN (s1_1)),Ii 0] [] zH (ac (yH _:((Mp zF s1_1)).length=(s1_1).length) an) ?_
 obtain ⟨o_1,h_1,h⟩:=bind_some h
 refine uR (K1:=(fun e st'=>match o_1 with | (.inl q0)=>e=.normal∧Sub 0 st' (mk [] [] 0) | (.inr q1)=>e=.ret∧kO prog Go.Proofs.Try.f39 0 [] (.bool q1) st')) ?_ ?_
 ·replace h:=h_1
  refine yU (id:=0) (by kernel_rfl) ?_
  refine wk [] [] [.s 0,.s 1,.s 12,.s 13] [] [(0,.sl false 5 (Mp zF s1_1)),(1,.sl false 5 (Mp zF s2_1)),(12,Ii (lN (s1_1))),(13,Ii 0)] [] an ?_
  refine wT (fun n st=>∃ (v_1:Int),st=mk [(0,.sl false 5 (Mp zF s1_1)),(1,.sl false 5 (Mp zF s2_1)),(12,Ii (lN (s1_1))),(13,Ii v_1)] [] 0∧xX F s1_1 s2_1 n v_1=some o_1) F (by kernel_rfl) ⟨_,rfl,h⟩ ?_ ?_
  ·rintro _ ⟨_,_,h⟩;exact wV (h:(none:Option (Unit⊕Bool))=some o_1)
  rintro n_1 _ ⟨v_1,rfl,h⟩
  replace h:y4 F s1_1 s2_1 (xX F s1_1 s2_1 n_1) v_1=some o_1:=h
  unfold y4 at h
  refine sr [] [0,1,12,13,14] [] 0 [.sl false 5 (Mp zF s1_1),.sl false 5 (Mp zF s2_1),Ii (lN (s1_1)),Ii v_1,.bool (decide (v_1<(lN (s1_1))))] [] zH an ?_
  refine sq ?_
  refine cd 14 (decide (v_1<(lN (s1_1)))) ?_ ?_
  rotate_left
  ·intro g_2;replace h:=zU g_2 h
   refine w5 (id:=0) (by kernel_rfl) ?_
   cases h
   exact ⟨rfl,(sw [] [] [] [] an)⟩
  intro g_2;replace h:=zT g_2 h
  refine sk ?_
  refine sq ?_
  refine yU (id:=1) (by kernel_rfl) ?_
  refine sr [] [0,1,5,12,13] [] 0 [.sl false 5 (Mp zF s1_1),.sl false 5 (Mp zF s2_1),Ii v_1,Ii (lN (s1_1)),Ii v_1] [] zH an ?_
  refine sq ?_
  obtain ⟨x_1,h_2,h⟩:=bind_some h
  obtain ⟨x_2,h_3,h⟩:=bind_some h
  refine rg [(2,{ av:=zF x_1 }),(6,{ av:=zF x_2 }),(8,{ b:=(decide (x_1=x_2)),mks:=[.int .i64,.int .i64,.int .i64,.int .i64,.int .i64] })] [0,1,12,13,24] [] 0 [.sl false 5 (Mp zF s1_1),.sl false 5 (Mp zF s2_1),Ii (lN (s1_1)),Ii v_1,.bool (!(decide (x_1=x_2)))] [] zH (ac (wI h_2:vA (Mp zF s1_1) v_1=some (zF x_1)) (ac (wI h_3:vA (Mp zF s2_1) v_1=some (zF x_2)) (ac (zMx:j9 prog 86 [.int .i64,.int .i64,.int .i64,.int .i64,.int .i64]) (ac (zAe (f:=zF) zF7 x_1 x_2:((decide (x_1=x_2))=true↔AV.agg [Ii x_1.A,Ii x_1.AtA,Ii x_1.B,Ii x_1.AtB.Lo,Ii x_1.AtB.Hi]=AV.agg [Ii x_2.A,Ii x_2.AtA,Ii x_2.B,Ii x_2.AtB.Lo,Ii x_2.AtB.Hi])) an)))) ?_
  refine cd 24 (!(decide (x_1=x_2))) ?_ ?_
  rotate_left
  ·intro g_3;replace h:=zU g_3 h
   refine sk ?_
   refine rg [] [0,1,12,13] [] 0 [.sl false 5 (Mp zF s1_1),.sl false 5 (Mp zF s2_1),Ii (lN (s1_1)),Ii (zK (v_1+(1:Int)))] [] zH an ?_
   exact ⟨_,(sw [] [] [.s 0,.s 1,.s 12,.s 13] [] an),_,rfl,h⟩
  intro g_3;replace h:=zT g_3 h
  refine sr [] [4] [] 0 [.bool false] [] zH an ?_
  refine rt ?_
  cases h
  exact ⟨rfl,Nat.le_of_ble_eq_true rfl,by kernel_rfl⟩
 intro e st1 hk
 rcases o_1 with q_1 | q_2
 rotate_left
 ·obtain ⟨rfl,hf⟩:=hk
  cases h
  exact ⟨st1,Sub.refl _ _,.inr rfl,hf⟩
 obtain ⟨rfl,hs⟩:=hk
 refine ⟨_,hs,?_⟩
 refine sr [] [4] [] 0 [.bool true] [] zH an ?_
 refine rt ?_
 cases h
 exact ⟨.inr rfl,Nat.le_of_ble_eq_true rfl,by kernel_rfl⟩

theorem zAu (F:Nat) (s1_1:List (List Int)) (s2_1:List (List Int)) (r:Bool) (h:uC F s1_1 s2_1=some r):zW prog 73 [] [] [.sl false 1 (Ms s1_1),.sl false 1 (Ms s2_1)] [] (.bool r):=by
 refine yK (fn:=Go.Proofs.Try.f73) (code:=xY Go.Proofs.Try.f73) (by kernel_rfl) (by kernel_rfl) (Nat.le_of_ble_eq_true (by kernel_rfl)) ?_
 unfold uC at h
 refine sr [] [0,1] [] 0 [.sl false 1 (Ms s1_1),.sl false 1 (Ms s2_1)] [] zH an ?_
 refine sq ?_
 refine sr [(1,{ n:=(s1_1).length }),(3,{ n:=(s2_1).length })] [0,1,10] [] 0 [.sl false 1 (Ms s1_1),.sl false 1 (Ms s2_1),.bool ((lN (s1_1)) != (lN (s2_1)))] [] zH (ac (yH _:((Ms s1_1)).length=(s1_1).length) (ac (yH _:((Ms s2_1)).length=(s2_1).length) an)) ?_
 refine cd 10 ((lN (s1_1)) != (lN (s2_1))) ?_ ?_
 ·intro g_1;replace h:=zT g_1 h
  refine sr [] [4] [] 0 [.bool false] [] zH an ?_
  refine rt ?_
  cases h
  exact ⟨.inr rfl,Nat.le_of_ble_eq_true rfl,by kernel_rfl⟩
 intro g_1;replace h:=zU g_1 h
 refine sk ?_
 refine sq ?_
 refine sr [(1,{ n:=(s1_1).length })] [0,1,12,13] [] 0 [.sl false 1 (Ms s1_1),.sl false 1 (Ms s2_1),Ii (lN (s1_1)),Ii 0] [] zH (ac (yH _:((Ms s1_1)).length=(s1_1).length) an) ?_
 obtain ⟨o_1,h_1,h⟩:=bind_some h
 refine uR (K1:=(fun e st'=>match o_1 with | (.inl q0)=>e=.normal∧Sub 0 st' (mk [] [] 0) | (.inr q1)=>e=.ret∧kO prog Go.Proofs.Try.f73 0 [] (.bool q1) st')) ?_ ?_
 ·replace h:=h_1
  refine yU (id:=0) (by kernel_rfl) ?_
  refine wk [] [] [.s 0,.s 1,.s 12,.s 13] [] [(0,.sl false 1 (Ms s1_1)),(1,.sl false 1 (Ms s2_1)),(12,Ii (lN (s1_1))),(13,Ii 0)] [] an ?_
  refine wT (fun n st=>∃ (v_1:Int),st=mk [(0,.sl false 1 (Ms s1_1)),(1,.sl false 1 (Ms s2_1)),(12,Ii (lN (s1_1))),(13,Ii v_1)] [] 0∧vU F s1_1 s2_1 n v_1=some o_1) F (by kernel_rfl) ⟨_,rfl,h⟩ ?_ ?_
  ·rintro _ ⟨_,_,h⟩;exact wV (h:(none:Option (Unit⊕Bool))=some o_1)
  rintro n_1 _ ⟨v_1,rfl,h⟩
  replace h:wJ F s1_1 s2_1 (vU F s1_1 s2_1 n_1) v_1=some o_1:=h
  unfold wJ at h
  refine sr [] [0,1,12,13,14] [] 0 [.sl false 1 (Ms s1_1),.sl false 1 (Ms s2_1),Ii (lN (s1_1)),Ii v_1,.bool (decide (v_1<(lN (s1_1))))] [] zH an ?_
  refine sq ?_
  refine cd 14 (decide (v_1<(lN (s1_1)))) ?_ ?_
  rotate_left
  ·intro g_2;replace h:=zU g_2 h
   refine w5 (id:=0) (by kernel_rfl) ?_
   cases h
   exact ⟨rfl,(sw [] [] [] [] an)⟩
  intro g_2;replace h:=zT g_2 h
  refine sk ?_
  refine sq ?_
  refine yU (id:=1) (by kernel_rfl) ?_
  refine sr [] [0,1,5,12,13] [] 0 [.sl false 1 (Ms s1_1),.sl false 1 (Ms s2_1),Ii v_1,Ii (lN (s1_1)),Ii v_1] [] zH an ?_
  refine sq ?_
  obtain ⟨x_1,h_2,h⟩:=bind_some h
  obtain ⟨x_2,h_3,h⟩:=bind_some h
  refine rg [(2,{ av:=.str x_1 }),(6,{ av:=.str x_2 })] [0,1,12,13,24] [] 0 [.sl false 1 (Ms s1_1),.sl false 1 (Ms s2_1),Ii (lN (s1_1)),Ii v_1,.bool (!(x_1==x_2))] [] zH (ac (wI h_2:vA (Ms s1_1) v_1=some (.str x_1)) (ac (wI h_3:vA (Ms s2_1) v_1=some (.str x_2)) an)) ?_
  refine cd 24 (!(x_1==x_2)) ?_ ?_
  rotate_left
  ·intro g_3;replace h:=zU g_3 h
   refine sk ?_
   refine rg [] [0,1,12,13] [] 0 [.sl false 1 (Ms s1_1),.sl false 1 (Ms s2_1),Ii (lN (s1_1)),Ii (zK (v_1+(1:Int)))] [] zH an ?_
   exact ⟨_,(sw [] [] [.s 0,.s 1,.s 12,.s 13] [] an),_,rfl,h⟩
  intro g_3;replace h:=zT g_3 h
  refine sr [] [4] [] 0 [.bool false] [] zH an ?_
  refine rt ?_
  cases h
  exact ⟨rfl,Nat.le_of_ble_eq_true rfl,by kernel_rfl⟩
 intro e st1 hk
 rcases o_1 with q_1 | q_2
 rotate_left
 ·obtain ⟨rfl,hf⟩:=hk
  cases h
  exact ⟨st1,Sub.refl _ _,.inr rfl,hf⟩
 obtain ⟨rfl,hs⟩:=hk
 refine ⟨_,hs,?_⟩
 refine sr [] [4] [] 0 [.bool true] [] zH an ?_
 refine rt ?_
 cases h
 exact ⟨.inr rfl,Nat.le_of_ble_eq_true rfl,by kernel_rfl⟩

theorem zHe (F:Nat) (a_1:zI) (b_1:zI) (r:Bool) (h:zAf F a_1 b_1=some r):zW prog 60 [] [] [zE a_1,zE b_1] [] (.bool r):=by
 refine yK (fn:=Go.Proofs.Try.f60) (code:=xY Go.Proofs.Try.f60) (by kernel_rfl) (by kernel_rfl) (Nat.le_of_ble_eq_true (by kernel_rfl)) ?_
 unfold zAf at h
 refine sr [(0,{ id:=0 }),(1,{ id:=1 })] [2,3] [0,1] 2 [Pp 0,Pp 1] [Vb 42 (z8 a_1),Vb 42 (z8 b_1)] zH an ?_
 refine sq ?_
 obtain ⟨p_1,h_2,h⟩:=bind_some h
 refine wO (mk [(4,.bool p_1)] [] 0) ?_ ?_
 ·replace h:=h_2
  rcases bft (a_1.At==b_1.At) with zL | zL
  ·replace h:=zT zL h
   rcases bft (a_1.Kind==b_1.Kind) with zJ | zJ
   ·replace h:=zT zJ h
    rcases bft (a_1.Name==b_1.Name) with zV | zV
    ·replace h:=zT zV h
     rcases bft (a_1.N==b_1.N) with zZ | zZ
     ·replace h:=zT zZ h
      rcases bft (a_1.M==b_1.M) with yV | yV
      ·replace h:=zT yV h
       obtain ⟨r_1,h_1,h⟩:=bind_some h
       refine rg [(11,Ht),(18,Ht),(25,Ht),(32,Ht),(38,{ av:=.bool r_1,l:=[.sl false 1 (Ms a_1.Stack),.sl false 1 (Ms b_1.Stack)] }),(39,Ht)] [4] [] 2 [.bool r_1] [] zH (ac zL (ac zL (ac zL (ac zL (ac zL (ac zL (ac zJ (ac zJ (ac zJ (ac zJ (ac zJ (ac zJ (ac zV (ac zV (ac zV (ac zV (ac zV (ac zV (ac zZ (ac zZ (ac zZ (ac zZ (ac zZ (ac zZ (ac yV (ac yV (ac yV (ac yV (ac yV (ar ([.sl false 1 (Ms a_1.Stack),.sl false 1 (Ms b_1.Stack)]:List AV) (ac (rfl:([]:List zO)=[]) (ac (zAu F a_1.Stack b_1.Stack r_1 h_1:zW prog 73 [] [] [.sl false 1 (Ms a_1.Stack),.sl false 1 (Ms b_1.Stack)] [] (.bool r_1)) (ac yV an))))))))))))))))))))))))))))))))) ?_
       cases h
       exact ⟨rfl,(sw [] [] [.s 4] [] an)⟩
      ·replace h:=zU yV h
       refine rg [(11,Ht),(18,Ht),(25,Ht),(32,Ht),(34,Hg),(35,Hg),(36,Hg),(37,Hg),(38,Hg),(39,Hf)] [4] [] 2 [.bool false] [] zH (ac zL (ac zL (ac zL (ac zL (ac zL (ac zL (ac zJ (ac zJ (ac zJ (ac zJ (ac zJ (ac zJ (ac zV (ac zV (ac zV (ac zV (ac zV (ac zV (ac zZ (ac zZ (ac zZ (ac zZ (ac zZ (ac zZ (ac yV (ac yV (ac yV (ac yV (ac yV (ac yV an)))))))))))))))))))))))))))))) ?_
       cases h
       exact ⟨rfl,(sw [] [] [.s 4] [] an)⟩
     ·replace h:=zU zZ h
      refine rg [(11,Ht),(18,Ht),(25,Ht),(27,Hg),(28,Hg),(29,Hg),(30,Hg),(31,Hg),(32,Hf),(34,Hg),(35,Hg),(36,Hg),(37,Hg),(38,Hg),(39,Hf)] [4] [] 2 [.bool false] [] zH (ac zL (ac zL (ac zL (ac zL (ac zL (ac zL (ac zJ (ac zJ (ac zJ (ac zJ (ac zJ (ac zJ (ac zV (ac zV (ac zV (ac zV (ac zV (ac zV (ac zZ (ac zZ (ac zZ (ac zZ (ac zZ (ac zZ (ac (rfl:false=!true) (ac (rfl:false=!true) (ac (rfl:false=!true) (ac (rfl:false=!true) (ac (rfl:false=!true) (ar false an)))))))))))))))))))))))))))))) ?_
      cases h
      exact ⟨rfl,(sw [] [] [.s 4] [] an)⟩
    ·replace h:=zU zV h
     refine rg [(11,Ht),(18,Ht),(20,Hg),(21,Hg),(22,Hg),(23,Hg),(24,Hg),(25,Hf),(27,Hg),(28,Hg),(29,Hg),(30,Hg),(31,Hg),(32,Hf),(34,Hg),(35,Hg),(36,Hg),(37,Hg),(38,Hg),(39,Hf)] [4] [] 2 [.bool false] [] zH (ac zL (ac zL (ac zL (ac zL (ac zL (ac zL (ac zJ (ac zJ (ac zJ (ac zJ (ac zJ (ac zJ (ac zV (ac zV (ac zV (ac zV (ac zV (ac zV (ac (rfl:false=!true) (ac (rfl:false=!true) (ac (rfl:false=!true) (ac (rfl:false=!true) (ac (rfl:false=!true) (ar false (ac (rfl:false=!true) (ac (rfl:false=!true) (ac (rfl:false=!true) (ac (rfl:false=!true) (ac (rfl:false=!true) (ar false an)))))))))))))))))))))))))))))) ?_
     cases h
     exact ⟨rfl,(sw [] [] [.s 4] [] an)⟩
   ·replace h:=zU zJ h
    refine rg [(11,Ht),(13,Hg),(14,Hg),(15,Hg),(16,Hg),(17,Hg),(18,Hf),(20,Hg),(21,Hg),(22,Hg),(23,Hg),(24,Hg),(25,Hf),(27,Hg),(28,Hg),(29,Hg),(30,Hg),(31,Hg),(32,Hf),(34,Hg),(35,Hg),(36,Hg),(37,Hg),(38,Hg),(39,Hf)] [4] [] 2 [.bool false] [] zH (ac zL (ac zL (ac zL (ac zL (ac zL (ac zL (ac zJ (ac zJ (ac zJ (ac zJ (ac zJ (ac zJ (ac (rfl:false=!true) (ac (rfl:false=!true) (ac (rfl:false=!true) (ac (rfl:false=!true) (ac (rfl:false=!true) (ar false (ac (rfl:false=!true) (ac (rfl:false=!true) (ac (rfl:false=!true) (ac (rfl:false=!true) (ac (rfl:false=!true) (ar false (ac (rfl:false=!true) (ac (rfl:false=!true) (ac (rfl:false=!true) (ac (rfl:false=!true) (ac (rfl:false=!true) (ar false an)))))))))))))))))))))))))))))) ?_
    cases h
    exact ⟨rfl,(sw [] [] [.s 4] [] an)⟩
  ·replace h:=zU zL h
   refine rg [(6,Hg),(7,Hg),(8,Hg),(9,Hg),(10,Hg),(11,Hf),(13,Hg),(14,Hg),(15,Hg),(16,Hg),(17,Hg),(18,Hf),(20,Hg),(21,Hg),(22,Hg),(23,Hg),(24,Hg),(25,Hf),(27,Hg),(28,Hg),(29,Hg),(30,Hg),(31,Hg),(32,Hf),(34,Hg),(35,Hg),(36,Hg),(37,Hg),(38,Hg),(39,Hf)] [4] [] 2 [.bool false] [] zH (ac zL (ac zL (ac zL (ac zL (ac zL (ac zL (ac (rfl:false=!true) (ac (rfl:false=!true) (ac (rfl:false=!true) (ac (rfl:false=!true) (ac (rfl:false=!true) (ar false (ac (rfl:false=!true) (ac (rfl:false=!true) (ac (rfl:false=!true) (ac (rfl:false=!true) (ac (rfl:false=!true) (ar false (ac (rfl:false=!true) (ac (rfl:false=!true) (ac (rfl:false=!true) (ac (rfl:false=!true) (ac (rfl:false=!true) (ar false (ac (rfl:false=!true) (ac (rfl:false=!true) (ac (rfl:false=!true) (ac (rfl:false=!true) (ac (rfl:false=!true) (ar false an)))))))))))))))))))))))))))))) ?_
   cases h
   exact ⟨rfl,(sw [] [] [.s 4] [] an)⟩
 refine rt ?_
 cases h
 exact ⟨.inr rfl,Nat.le_of_ble_eq_true rfl,by kernel_rfl⟩

theorem vI (F:Nat) (s1_1:List (zI)) (s2_1:List (zI)) (r:Bool) (h:y0 F s1_1 s2_1=some r):zW prog 59 [] [] [.sl false 6 (Mp zE s1_1),.sl false 6 (Mp zE s2_1),.fn 60 []] [] (.bool r):=by
 refine yK (fn:=Go.Proofs.Try.f59) (code:=xY Go.Proofs.Try.f59) (by kernel_rfl) (by kernel_rfl) (Nat.le_of_ble_eq_true (by kernel_rfl)) ?_
 unfold y0 at h
 refine sr [] [0,1,2] [] 0 [.sl false 6 (Mp zE s1_1),.sl false 6 (Mp zE s2_1),.fn 60 []] [] zH an ?_
 refine sq ?_
 refine sr [(1,{ n:=(s1_1).length }),(3,{ n:=(s2_1).length })] [0,1,2,14] [] 0 [.sl false 6 (Mp zE s1_1),.sl false 6 (Mp zE s2_1),.fn 60 [],.bool ((lN (s1_1)) != (lN (s2_1)))] [] zH (ac (yH _:((Mp zE s1_1)).length=(s1_1).length) (ac (yH _:((Mp zE s2_1)).length=(s2_1).length) an)) ?_
 refine cd 14 ((lN (s1_1)) != (lN (s2_1))) ?_ ?_
 ·intro g_1;replace h:=zT g_1 h
  refine sr [] [6] [] 0 [.bool false] [] zH an ?_
  refine rt ?_
  cases h
  exact ⟨.inr rfl,Nat.le_of_ble_eq_true rfl,by kernel_rfl⟩
 intro g_1;replace h:=zU g_1 h
 refine sk ?_
 refine sq ?_
 refine sr [(1,{ n:=(s1_1).length })] [1,2,15,16,17] [] 0 [.sl false 6 (Mp zE s2_1),.fn 60 [],.sl false 6 (Mp zE s1_1),Ii (lN (s1_1)),Ii 0] [] zH (ac (yH _:((Mp zE s1_1)).length=(s1_1).length) an) ?_
 obtain ⟨o_1,h_1,h⟩:=bind_some h
 refine uR (K1:=(fun e st'=>match o_1 with | (.inl q0)=>e=.normal∧Sub 0 st' (mk [] [] 0) | (.inr q1)=>e=.ret∧kO prog Go.Proofs.Try.f59 0 [] (.bool q1) st')) ?_ ?_
 ·replace h:=h_1
  refine yU (id:=0) (by kernel_rfl) ?_
  refine wk [] [] [.s 1,.s 2,.s 15,.s 16,.s 17] [] [(1,.sl false 6 (Mp zE s2_1)),(2,.fn 60 []),(15,.sl false 6 (Mp zE s1_1)),(16,Ii (lN (s1_1))),(17,Ii 0)] [] an ?_
  refine wT (fun n st=>∃ (v_1:Int),st=mk [(1,.sl false 6 (Mp zE s2_1)),(2,.fn 60 []),(15,.sl false 6 (Mp zE s1_1)),(16,Ii (lN (s1_1))),(17,Ii v_1)] [] 0∧yL F s1_1 s2_1 n v_1=some o_1) F (by kernel_rfl) ⟨_,rfl,h⟩ ?_ ?_
  ·rintro _ ⟨_,_,h⟩;exact wV (h:(none:Option (Unit⊕Bool))=some o_1)
  rintro n_1 _ ⟨v_1,rfl,h⟩
  replace h:z5 F s1_1 s2_1 (yL F s1_1 s2_1 n_1) v_1=some o_1:=h
  unfold z5 at h
  refine sr [] [1,2,15,16,17,18] [] 0 [.sl false 6 (Mp zE s2_1),.fn 60 [],.sl false 6 (Mp zE s1_1),Ii (lN (s1_1)),Ii v_1,.bool (decide (v_1<(lN (s1_1))))] [] zH an ?_
  refine sq ?_
  refine cd 18 (decide (v_1<(lN (s1_1)))) ?_ ?_
  rotate_left
  ·intro g_2;replace h:=zU g_2 h
   refine w5 (id:=0) (by kernel_rfl) ?_
   cases h
   exact ⟨rfl,(sw [] [] [] [] an)⟩
  intro g_2;replace h:=zT g_2 h
  refine sk ?_
  refine sq ?_
  refine yU (id:=1) (by kernel_rfl) ?_
  refine sq ?_
  obtain ⟨x_1,h_2,h⟩:=bind_some h
  refine rg [(1,{ av:=zE x_1 }),(3,{ id:=0 })] [1,2,7,8,15,16,17] [0] 1 [.sl false 6 (Mp zE s2_1),.fn 60 [],Ii v_1,Pp 0,.sl false 6 (Mp zE s1_1),Ii (lN (s1_1)),Ii v_1] [Vb 42 (z8 x_1)] zH (ac (wI h_2:vA (Mp zE s1_1) v_1=some (zE x_1)) an) ?_
  refine sq ?_
  obtain ⟨x_2,h_3,h⟩:=bind_some h
  refine rg [(2,{ av:=zE x_2 }),(4,{ id:=1 })] [1,2,8,9,15,16,17] [0,1] 2 [.sl false 6 (Mp zE s2_1),.fn 60 [],Pp 0,Pp 1,.sl false 6 (Mp zE s1_1),Ii (lN (s1_1)),Ii v_1] [Vb 42 (z8 x_1),Vb 42 (z8 x_2)] zH (ac (wI h_3:vA (Mp zE s2_1) v_1=some (zE x_2)) an) ?_
  refine sq ?_
  obtain ⟨r_1,h_4,h⟩:=bind_some h
  refine rg [(3,{ av:=.bool r_1,l:=[zE x_1,zE x_2] })] [1,2,15,16,17,30] [] 2 [.sl false 6 (Mp zE s2_1),.fn 60 [],.sl false 6 (Mp zE s1_1),Ii (lN (s1_1)),Ii v_1,.bool (!r_1)] [] zH (ar ([zE x_1,zE x_2]:List AV) (ac (rfl:([]:List zO)=[]) (ac (zHe F x_1 x_2 r_1 h_4:zW prog 60 [] [] [zE x_1,zE x_2] [] (.bool r_1)) an))) ?_
  refine cd 30 (!r_1) ?_ ?_
  rotate_left
  ·intro g_3;replace h:=zU g_3 h
   refine sk ?_
   refine rg [] [1,2,15,16,17] [] 2 [.sl false 6 (Mp zE s2_1),.fn 60 [],.sl false 6 (Mp zE s1_1),Ii (lN (s1_1)),Ii (zK (v_1+(1:Int)))] [] zH an ?_
   exact ⟨_,(sw [] [] [.s 1,.s 2,.s 15,.s 16,.s 17] [] an),_,rfl,h⟩
  intro g_3;replace h:=zT g_3 h
  refine sr [] [6] [] 2 [.bool false] [] zH an ?_
  refine rt ?_
  cases h
  exact ⟨rfl,Nat.le_of_ble_eq_true rfl,by kernel_rfl⟩
 intro e st1 hk
 rcases o_1 with q_1 | q_2
 rotate_left
 ·obtain ⟨rfl,hf⟩:=hk
  cases h
  exact ⟨st1,Sub.refl _ _,.inr rfl,hf⟩
 obtain ⟨rfl,hs⟩:=hk
 refine ⟨_,hs,?_⟩
 refine sr [] [6] [] 0 [.bool true] [] zH an ?_
 refine rt ?_
 cases h
 exact ⟨.inr rfl,Nat.le_of_ble_eq_true rfl,by kernel_rfl⟩

theorem zF1 (F:Nat) (a_1:zB) (b_1:zB) (r:Bool) (h:nC F a_1 b_1=some r):zW prog 42 [] [] [zA a_1,zA b_1] [] (.bool r):=by
 refine yK (fn:=Go.Proofs.Try.f42) (code:=xY Go.Proofs.Try.f42) (by kernel_rfl) (by kernel_rfl) (Nat.le_of_ble_eq_true (by kernel_rfl)) ?_
 unfold nC at h
 refine sr [(0,{ id:=0 }),(1,{ id:=1 })] [2,3] [0,1] 2 [Pp 0,Pp 1] [Vb 59 (z6 a_1),Vb 59 (z6 b_1)] zH an ?_
 refine sq ?_
 obtain ⟨p_1,h_2,h⟩:=bind_some h
 refine wO (mk [(4,.bool p_1)] [] 0) ?_ ?_
 ·replace h:=h_2
  rcases bft (a_1.Thread==b_1.Thread) with zL | zL
  ·replace h:=zT zL h
   rcases bft (a_1.Serial==b_1.Serial) with zJ | zJ
   ·replace h:=zT zJ h
    rcases bft (a_1.Lost==b_1.Lost) with zV | zV
    ·replace h:=zT zV h
     obtain ⟨r_1,h_1,h⟩:=bind_some h
     refine rg [(11,Ht),(18,Ht),(24,{ av:=.bool r_1,l:=[.sl false 6 (Mp zE a_1.Events),.sl false 6 (Mp zE b_1.Events),.fn 60 []] }),(25,Ht)] [4] [] 2 [.bool r_1] [] zH (ac zL (ac zL (ac zL (ac zL (ac zL (ac zL (ac zJ (ac zJ (ac zJ (ac zJ (ac zJ (ac zJ (ac zV (ac zV (ac zV (ac zV (ac zV (ar ([.sl false 6 (Mp zE a_1.Events),.sl false 6 (Mp zE b_1.Events),.fn 60 []]:List AV) (ac (rfl:([]:List zO)=[]) (ac (vI F a_1.Events b_1.Events r_1 h_1:zW prog 59 [] [] [.sl false 6 (Mp zE a_1.Events),.sl false 6 (Mp zE b_1.Events),.fn 60 []] [] (.bool r_1)) (ac zV an))))))))))))))))))))) ?_
     cases h
     exact ⟨rfl,(sw [] [] [.s 4] [] an)⟩
    ·replace h:=zU zV h
     refine rg [(11,Ht),(18,Ht),(20,Hg),(21,Hg),(22,Hg),(23,Hg),(24,Hg),(25,Hf)] [4] [] 2 [.bool false] [] zH (ac zL (ac zL (ac zL (ac zL (ac zL (ac zL (ac zJ (ac zJ (ac zJ (ac zJ (ac zJ (ac zJ (ac zV (ac zV (ac zV (ac zV (ac zV (ac zV an)))))))))))))))))) ?_
     cases h
     exact ⟨rfl,(sw [] [] [.s 4] [] an)⟩
   ·replace h:=zU zJ h
    refine rg [(11,Ht),(13,Hg),(14,Hg),(15,Hg),(16,Hg),(17,Hg),(18,Hf),(20,Hg),(21,Hg),(22,Hg),(23,Hg),(24,Hg),(25,Hf)] [4] [] 2 [.bool false] [] zH (ac zL (ac zL (ac zL (ac zL (ac zL (ac zL (ac zJ (ac zJ (ac zJ (ac zJ (ac zJ (ac zJ (ac (rfl:false=!true) (ac (rfl:false=!true) (ac (rfl:false=!true) (ac (rfl:false=!true) (ac (rfl:false=!true) (ar false an)))))))))))))))))) ?_
    cases h
    exact ⟨rfl,(sw [] [] [.s 4] [] an)⟩
  ·replace h:=zU zL h
   refine rg [(6,Hg),(7,Hg),(8,Hg),(9,Hg),(10,Hg),(11,Hf),(13,Hg),(14,Hg),(15,Hg),(16,Hg),(17,Hg),(18,Hf),(20,Hg),(21,Hg),(22,Hg),(23,Hg),(24,Hg),(25,Hf)] [4] [] 2 [.bool false] [] zH (ac zL (ac zL (ac zL (ac zL (ac zL (ac zL (ac (rfl:false=!true) (ac (rfl:false=!true) (ac (rfl:false=!true) (ac (rfl:false=!true) (ac (rfl:false=!true) (ar false (ac (rfl:false=!true) (ac (rfl:false=!true) (ac (rfl:false=!true) (ac (rfl:false=!true) (ac (rfl:false=!true) (ar false an)))))))))))))))))) ?_
   cases h
   exact ⟨rfl,(sw [] [] [.s 4] [] an)⟩
 refine rt ?_
 cases h
 exact ⟨.inr rfl,Nat.le_of_ble_eq_true rfl,by kernel_rfl⟩

theorem zGU (F:Nat) (p_1:zB) (q_1:zB) (r:Bool) (h:zBi F p_1 q_1=some r):zW prog 41 [] [] [zA p_1,zA q_1] [] (.bool r):=by
 refine yK (fn:=Go.Proofs.Try.f41) (code:=xY Go.Proofs.Try.f41) (by kernel_rfl) (by kernel_rfl) (Nat.le_of_ble_eq_true (by kernel_rfl)) ?_
 unfold zBi at h
 refine sr [(0,{ id:=0 }),(1,{ id:=1 })] [2,3] [0,1] 2 [Pp 0,Pp 1] [Vb 59 (z6 p_1),Vb 59 (z6 q_1)] zH an ?_
 refine sq ?_
 obtain ⟨r_1,h_1,h⟩:=bind_some h
 refine rg [(2,{ av:=.bool r_1,l:=[zA p_1,zA q_1] })] [4] [] 2 [.bool r_1] [] zH (ar ([zA p_1,zA q_1]:List AV) (ac (rfl:([]:List zO)=[]) (ac (zF1 F p_1 q_1 r_1 h_1:zW prog 42 [] [] [zA p_1,zA q_1] [] (.bool r_1)) an))) ?_
 refine rt ?_
 cases h
 exact ⟨.inr rfl,Nat.le_of_ble_eq_true rfl,by kernel_rfl⟩

theorem vB (F:Nat) (s1_1:List (zB)) (s2_1:List (zB)) (r:Bool) (h:yJ F s1_1 s2_1=some r):zW prog 40 [] [] [.sl false 4 (Mp zA s1_1),.sl false 4 (Mp zA s2_1),.fn 41 []] [] (.bool r):=by
 refine yK (fn:=Go.Proofs.Try.f40) (code:=xY Go.Proofs.Try.f40) (by kernel_rfl) (by kernel_rfl) (Nat.le_of_ble_eq_true (by kernel_rfl)) ?_
 unfold yJ at h
 refine sr [] [0,1,2] [] 0 [.sl false 4 (Mp zA s1_1),.sl false 4 (Mp zA s2_1),.fn 41 []] [] zH an ?_
 refine sq ?_
 refine sr [(1,{ n:=(s1_1).length }),(3,{ n:=(s2_1).length })] [0,1,2,14] [] 0 [.sl false 4 (Mp zA s1_1),.sl false 4 (Mp zA s2_1),.fn 41 [],.bool ((lN (s1_1)) != (lN (s2_1)))] [] zH (ac (yH _:((Mp zA s1_1)).length=(s1_1).length) (ac (yH _:((Mp zA s2_1)).length=(s2_1).length) an)) ?_
 refine cd 14 ((lN (s1_1)) != (lN (s2_1))) ?_ ?_
 ·intro g_1;replace h:=zT g_1 h
  refine sr [] [6] [] 0 [.bool false] [] zH an ?_
  refine rt ?_
  cases h
  exact ⟨.inr rfl,Nat.le_of_ble_eq_true rfl,by kernel_rfl⟩
 intro g_1;replace h:=zU g_1 h
 refine sk ?_
 refine sq ?_
 refine sr [(1,{ n:=(s1_1).length })] [1,2,15,16,17] [] 0 [.sl false 4 (Mp zA s2_1),.fn 41 [],.sl false 4 (Mp zA s1_1),Ii (lN (s1_1)),Ii 0] [] zH (ac (yH _:((Mp zA s1_1)).length=(s1_1).length) an) ?_
 obtain ⟨o_1,h_1,h⟩:=bind_some h
 refine uR (K1:=(fun e st'=>match o_1 with | (.inl q0)=>e=.normal∧Sub 0 st' (mk [] [] 0) | (.inr q1)=>e=.ret∧kO prog Go.Proofs.Try.f40 0 [] (.bool q1) st')) ?_ ?_
 ·replace h:=h_1
  refine yU (id:=0) (by kernel_rfl) ?_
  refine wk [] [] [.s 1,.s 2,.s 15,.s 16,.s 17] [] [(1,.sl false 4 (Mp zA s2_1)),(2,.fn 41 []),(15,.sl false 4 (Mp zA s1_1)),(16,Ii (lN (s1_1))),(17,Ii 0)] [] an ?_
  refine wT (fun n st=>∃ (v_1:Int),st=mk [(1,.sl false 4 (Mp zA s2_1)),(2,.fn 41 []),(15,.sl false 4 (Mp zA s1_1)),(16,Ii (lN (s1_1))),(17,Ii v_1)] [] 0∧yF F s1_1 s2_1 n v_1=some o_1) F (by kernel_rfl) ⟨_,rfl,h⟩ ?_ ?_
  ·rintro _ ⟨_,_,h⟩;exact wV (h:(none:Option (Unit⊕Bool))=some o_1)
  rintro n_1 _ ⟨v_1,rfl,h⟩
  replace h:z0 F s1_1 s2_1 (yF F s1_1 s2_1 n_1) v_1=some o_1:=h
  unfold z0 at h
  refine sr [] [1,2,15,16,17,18] [] 0 [.sl false 4 (Mp zA s2_1),.fn 41 [],.sl false 4 (Mp zA s1_1),Ii (lN (s1_1)),Ii v_1,.bool (decide (v_1<(lN (s1_1))))] [] zH an ?_
  refine sq ?_
  refine cd 18 (decide (v_1<(lN (s1_1)))) ?_ ?_
  rotate_left
  ·intro g_2;replace h:=zU g_2 h
   refine w5 (id:=0) (by kernel_rfl) ?_
   cases h
   exact ⟨rfl,(sw [] [] [] [] an)⟩
  intro g_2;replace h:=zT g_2 h
  refine sk ?_
  refine sq ?_
  refine yU (id:=1) (by kernel_rfl) ?_
  refine sq ?_
  obtain ⟨x_1,h_2,h⟩:=bind_some h
  refine rg [(1,{ av:=zA x_1 }),(3,{ id:=0 })] [1,2,7,8,15,16,17] [0] 1 [.sl false 4 (Mp zA s2_1),.fn 41 [],Ii v_1,Pp 0,.sl false 4 (Mp zA s1_1),Ii (lN (s1_1)),Ii v_1] [Vb 59 (z6 x_1)] zH (ac (wI h_2:vA (Mp zA s1_1) v_1=some (zA x_1)) an) ?_
  refine sq ?_
  obtain ⟨x_2,h_3,h⟩:=bind_some h
  refine rg [(2,{ av:=zA x_2 }),(4,{ id:=1 })] [1,2,8,9,15,16,17] [0,1] 2 [.sl false 4 (Mp zA s2_1),.fn 41 [],Pp 0,Pp 1,.sl false 4 (Mp zA s1_1),Ii (lN (s1_1)),Ii v_1] [Vb 59 (z6 x_1),Vb 59 (z6 x_2)] zH (ac (wI h_3:vA (Mp zA s2_1) v_1=some (zA x_2)) an) ?_
  refine sq ?_
  obtain ⟨r_1,h_4,h⟩:=bind_some h
  refine rg [(3,{ av:=.bool r_1,l:=[zA x_1,zA x_2] })] [1,2,15,16,17,30] [] 2 [.sl false 4 (Mp zA s2_1),.fn 41 [],.sl false 4 (Mp zA s1_1),Ii (lN (s1_1)),Ii v_1,.bool (!r_1)] [] zH (ar ([zA x_1,zA x_2]:List AV) (ac (rfl:([]:List zO)=[]) (ac (zGU F x_1 x_2 r_1 h_4:zW prog 41 [] [] [zA x_1,zA x_2] [] (.bool r_1)) an))) ?_
  refine cd 30 (!r_1) ?_ ?_
  rotate_left
  ·intro g_3;replace h:=zU g_3 h
   refine sk ?_
   refine rg [] [1,2,15,16,17] [] 2 [.sl false 4 (Mp zA s2_1),.fn 41 [],.sl false 4 (Mp zA s1_1),Ii (lN (s1_1)),Ii (zK (v_1+(1:Int)))] [] zH an ?_
   exact ⟨_,(sw [] [] [.s 1,.s 2,.s 15,.s 16,.s 17] [] an),_,rfl,h⟩
  intro g_3;replace h:=zT g_3 h
  refine sr [] [6] [] 2 [.bool false] [] zH an ?_
  refine rt ?_
  cases h
  exact ⟨rfl,Nat.le_of_ble_eq_true rfl,by kernel_rfl⟩
 intro e st1 hk
 rcases o_1 with q_1 | q_2
 rotate_left
 ·obtain ⟨rfl,hf⟩:=hk
  cases h
  exact ⟨st1,Sub.refl _ _,.inr rfl,hf⟩
 obtain ⟨rfl,hs⟩:=hk
 refine ⟨_,hs,?_⟩
 refine sr [] [6] [] 0 [.bool true] [] zH an ?_
 refine rt ?_
 cases h
 exact ⟨.inr rfl,Nat.le_of_ble_eq_true rfl,by kernel_rfl⟩

theorem zCk (F:Nat) (a_1:z9) (b_1:z9) (r:Bool) (h:zAz F a_1 b_1=some r):zW prog 13 [] [] [yB a_1,yB b_1] [] (.bool r):=by
 refine yK (fn:=Go.Proofs.Try.f13) (code:=xY Go.Proofs.Try.f13) (by kernel_rfl) (by kernel_rfl) (Nat.le_of_ble_eq_true (by kernel_rfl)) ?_
 unfold zAz at h
 refine sr [(0,{ id:=0 }),(1,{ id:=1 })] [2,3] [0,1] 2 [Pp 0,Pp 1] [Vb 31 (y9 a_1),Vb 31 (y9 b_1)] zH an ?_
 refine sr [(4,{ id:=2 }),(5,{ id:=3 })] [2,3,5,6] [0,1,2,3] 4 [Pp 0,Pp 1,Pp 2,Pp 3] [Vb 31 (y9 a_1),Vb 31 (y9 b_1),Vb 26 (zX a_1.Head),Vb 26 (zX b_1.Head)] zH an ?_
 refine sq ?_
 obtain ⟨p_1,h_5,h⟩:=bind_some h
 refine wO (mk [(4,.bool p_1)] [] 0) ?_ ?_
 ·replace h:=h_5
  obtain ⟨r_1,h_1,h⟩:=bind_some h
  rcases Bool.eq_false_or_eq_true r_1 with zL | zL
  ·replace h:=zT zL h
   obtain ⟨r_2,h_2,h⟩:=bind_some h
   rcases Bool.eq_false_or_eq_true r_2 with zJ | zJ
   ·replace h:=zT zJ h
    obtain ⟨r_3,h_3,h⟩:=bind_some h
    rcases Bool.eq_false_or_eq_true r_3 with zV | zV
    ·replace h:=zT zV h
     obtain ⟨r_4,h_4,h⟩:=bind_some h
     refine rg [(4,{ av:=.bool r_1,l:=[.sl false 3 (Mp zG a_1.Head.Threads),.sl false 3 (Mp zG b_1.Head.Threads)] }),(10,{ av:=.bool r_2,l:=[.sl false 2 (Mp zD a_1.Head.Domains),.sl false 2 (Mp zD b_1.Head.Domains)] }),(11,Ht),(17,{ av:=.bool r_3,l:=[.sl false 5 (Mp zF a_1.Head.Snaps),.sl false 5 (Mp zF b_1.Head.Snaps)] }),(18,Ht),(24,{ av:=.bool r_4,l:=[.sl false 4 (Mp zA a_1.Parts),.sl false 4 (Mp zA b_1.Parts),.fn 41 []] }),(25,Ht)] [4] [] 4 [.bool r_4] [] zH (ar ([.sl false 3 (Mp zG a_1.Head.Threads),.sl false 3 (Mp zG b_1.Head.Threads)]:List AV) (ac (rfl:([]:List zO)=[]) (ac (wA F a_1.Head.Threads b_1.Head.Threads r_1 h_1:zW prog 37 [] [] [.sl false 3 (Mp zG a_1.Head.Threads),.sl false 3 (Mp zG b_1.Head.Threads)] [] (.bool r_1)) (ac zL (ac zL (ac zL (ac zL (ac zL (ar ([.sl false 2 (Mp zD a_1.Head.Domains),.sl false 2 (Mp zD b_1.Head.Domains)]:List AV) (ac (rfl:([]:List zO)=[]) (ac (w3 F a_1.Head.Domains b_1.Head.Domains r_2 h_2:zW prog 38 [] [] [.sl false 2 (Mp zD a_1.Head.Domains),.sl false 2 (Mp zD b_1.Head.Domains)] [] (.bool r_2)) (ac zL (ac zJ (ac zJ (ac zJ (ac zJ (ac zJ (ar ([.sl false 5 (Mp zF a_1.Head.Snaps),.sl false 5 (Mp zF b_1.Head.Snaps)]:List AV) (ac (rfl:([]:List zO)=[]) (ac (uA F a_1.Head.Snaps b_1.Head.Snaps r_3 h_3:zW prog 39 [] [] [.sl false 5 (Mp zF a_1.Head.Snaps),.sl false 5 (Mp zF b_1.Head.Snaps)] [] (.bool r_3)) (ac zJ (ac zV (ac zV (ac zV (ac zV (ac zV (ar ([.sl false 4 (Mp zA a_1.Parts),.sl false 4 (Mp zA b_1.Parts),.fn 41 []]:List AV) (ac (rfl:([]:List zO)=[]) (ac (vB F a_1.Parts b_1.Parts r_4 h_4:zW prog 40 [] [] [.sl false 4 (Mp zA a_1.Parts),.sl false 4 (Mp zA b_1.Parts),.fn 41 []] [] (.bool r_4)) (ac zV an)))))))))))))))))))))))))))))) ?_
     cases h
     exact ⟨rfl,(sw [] [] [.s 4] [] an)⟩
    ·replace h:=zU zV h
     refine rg [(4,{ av:=.bool r_1,l:=[.sl false 3 (Mp zG a_1.Head.Threads),.sl false 3 (Mp zG b_1.Head.Threads)] }),(10,{ av:=.bool r_2,l:=[.sl false 2 (Mp zD a_1.Head.Domains),.sl false 2 (Mp zD b_1.Head.Domains)] }),(11,Ht),(17,{ av:=.bool r_3,l:=[.sl false 5 (Mp zF a_1.Head.Snaps),.sl false 5 (Mp zF b_1.Head.Snaps)] }),(18,Ht),(20,Hg),(21,Hg),(22,Hg),(23,Hg),(24,Hg),(25,Hf)] [4] [] 4 [.bool false] [] zH (ar ([.sl false 3 (Mp zG a_1.Head.Threads),.sl false 3 (Mp zG b_1.Head.Threads)]:List AV) (ac (rfl:([]:List zO)=[]) (ac (wA F a_1.Head.Threads b_1.Head.Threads r_1 h_1:zW prog 37 [] [] [.sl false 3 (Mp zG a_1.Head.Threads),.sl false 3 (Mp zG b_1.Head.Threads)] [] (.bool r_1)) (ac zL (ac zL (ac zL (ac zL (ac zL (ar ([.sl false 2 (Mp zD a_1.Head.Domains),.sl false 2 (Mp zD b_1.Head.Domains)]:List AV) (ac (rfl:([]:List zO)=[]) (ac (w3 F a_1.Head.Domains b_1.Head.Domains r_2 h_2:zW prog 38 [] [] [.sl false 2 (Mp zD a_1.Head.Domains),.sl false 2 (Mp zD b_1.Head.Domains)] [] (.bool r_2)) (ac zL (ac zJ (ac zJ (ac zJ (ac zJ (ac zJ (ar ([.sl false 5 (Mp zF a_1.Head.Snaps),.sl false 5 (Mp zF b_1.Head.Snaps)]:List AV) (ac (rfl:([]:List zO)=[]) (ac (uA F a_1.Head.Snaps b_1.Head.Snaps r_3 h_3:zW prog 39 [] [] [.sl false 5 (Mp zF a_1.Head.Snaps),.sl false 5 (Mp zF b_1.Head.Snaps)] [] (.bool r_3)) (ac zJ (ac zV (ac zV (ac zV (ac zV (ac zV (ac zV an))))))))))))))))))))))))))) ?_
     cases h
     exact ⟨rfl,(sw [] [] [.s 4] [] an)⟩
   ·replace h:=zU zJ h
    refine rg [(4,{ av:=.bool r_1,l:=[.sl false 3 (Mp zG a_1.Head.Threads),.sl false 3 (Mp zG b_1.Head.Threads)] }),(10,{ av:=.bool r_2,l:=[.sl false 2 (Mp zD a_1.Head.Domains),.sl false 2 (Mp zD b_1.Head.Domains)] }),(11,Ht),(13,Hg),(14,Hg),(15,Hg),(16,Hg),(17,Hg),(18,Hf),(20,Hg),(21,Hg),(22,Hg),(23,Hg),(24,Hg),(25,Hf)] [4] [] 4 [.bool false] [] zH (ar ([.sl false 3 (Mp zG a_1.Head.Threads),.sl false 3 (Mp zG b_1.Head.Threads)]:List AV) (ac (rfl:([]:List zO)=[]) (ac (wA F a_1.Head.Threads b_1.Head.Threads r_1 h_1:zW prog 37 [] [] [.sl false 3 (Mp zG a_1.Head.Threads),.sl false 3 (Mp zG b_1.Head.Threads)] [] (.bool r_1)) (ac zL (ac zL (ac zL (ac zL (ac zL (ar ([.sl false 2 (Mp zD a_1.Head.Domains),.sl false 2 (Mp zD b_1.Head.Domains)]:List AV) (ac (rfl:([]:List zO)=[]) (ac (w3 F a_1.Head.Domains b_1.Head.Domains r_2 h_2:zW prog 38 [] [] [.sl false 2 (Mp zD a_1.Head.Domains),.sl false 2 (Mp zD b_1.Head.Domains)] [] (.bool r_2)) (ac zL (ac zJ (ac zJ (ac zJ (ac zJ (ac zJ (ac zJ (ac (rfl:false=!true) (ac (rfl:false=!true) (ac (rfl:false=!true) (ac (rfl:false=!true) (ac (rfl:false=!true) (ar false an)))))))))))))))))))))))) ?_
    cases h
    exact ⟨rfl,(sw [] [] [.s 4] [] an)⟩
  ·replace h:=zU zL h
   refine rg [(4,{ av:=.bool r_1,l:=[.sl false 3 (Mp zG a_1.Head.Threads),.sl false 3 (Mp zG b_1.Head.Threads)] }),(6,Hg),(7,Hg),(8,Hg),(9,Hg),(10,Hg),(11,Hf),(13,Hg),(14,Hg),(15,Hg),(16,Hg),(17,Hg),(18,Hf),(20,Hg),(21,Hg),(22,Hg),(23,Hg),(24,Hg),(25,Hf)] [4] [] 4 [.bool false] [] zH (ar ([.sl false 3 (Mp zG a_1.Head.Threads),.sl false 3 (Mp zG b_1.Head.Threads)]:List AV) (ac (rfl:([]:List zO)=[]) (ac (wA F a_1.Head.Threads b_1.Head.Threads r_1 h_1:zW prog 37 [] [] [.sl false 3 (Mp zG a_1.Head.Threads),.sl false 3 (Mp zG b_1.Head.Threads)] [] (.bool r_1)) (ac zL (ac zL (ac zL (ac zL (ac zL (ac zL (ac (rfl:false=!true) (ac (rfl:false=!true) (ac (rfl:false=!true) (ac (rfl:false=!true) (ac (rfl:false=!true) (ar false (ac (rfl:false=!true) (ac (rfl:false=!true) (ac (rfl:false=!true) (ac (rfl:false=!true) (ac (rfl:false=!true) (ar false an))))))))))))))))))))) ?_
   cases h
   exact ⟨rfl,(sw [] [] [.s 4] [] an)⟩
 refine rt ?_
 cases h
 exact ⟨.inr rfl,Nat.le_of_ble_eq_true rfl,by kernel_rfl⟩

theorem zBD (F:Nat) (l_1:z9) (r:Int) (h:zA3 F l_1=some r):zW prog 14 [] [] [yB l_1] [] (Ii r):=by
 refine yK (fn:=Go.Proofs.Try.f14) (code:=xY Go.Proofs.Try.f14) (by kernel_rfl) (by kernel_rfl) (Nat.le_of_ble_eq_true (by kernel_rfl)) ?_
 unfold zA3 at h
 refine sr [(0,{ id:=0 })] [1] [0] 1 [Pp 0] [Vb 31 (y9 l_1)] zH an ?_
 refine sq ?_
 obtain ⟨r_1,h_1,h⟩:=bind_some h
 refine rg [(4,{ av:=.tuple [yB r_1.1,Ii r_1.2],l:=[y6 l_1.Head,.sl false 4 (Mp zA l_1.Parts)] }),(8,{ id:=1 })] [1,3,4] [0,1] 2 [Pp 0,Pp 1,Ii r_1.2] [Vb 31 (y9 l_1),Vb 31 (y9 r_1.1)] zH (ar ([y6 l_1.Head,.sl false 4 (Mp zA l_1.Parts)]:List AV) (ac (rfl:([]:List zO)=[]) (ac (kX F l_1.Head l_1.Parts r_1 h_1:zW prog 10 [] [] [y6 l_1.Head,.sl false 4 (Mp zA l_1.Parts)] [] (.tuple [yB r_1.1,Ii r_1.2])) an))) ?_
 refine sq ?_
 refine sq ?_
 obtain ⟨p_1,h_3,h⟩:=bind_some h
 refine wO (mk [(4,Ii r_1.2),(20,.bool p_1)] [] 0) ?_ ?_
 ·replace h:=h_3
  rcases bft (r_1.2==(0:Int)) with zL | zL
  ·replace h:=zT zL h
   obtain ⟨r_2,h_2,h⟩:=bind_some h
   refine rg [(5,{ av:=.bool r_2,l:=[yB r_1.1,yB l_1] }),(7,Ht)] [4,20] [] 2 [Ii r_1.2,.bool (!r_2)] [] zH (ac zL (ac zL (ac zL (ar ([yB r_1.1,yB l_1]:List AV) (ac (rfl:([]:List zO)=[]) (ac (zCk F r_1.1 l_1 r_2 h_2:zW prog 13 [] [] [yB r_1.1,yB l_1] [] (.bool r_2)) (ac zL (ac zL an)))))))) ?_
   cases h
   exact ⟨rfl,(sw [] [] [.s 4,.s 20] [] an)⟩
  ·replace h:=zU zL h
   refine rg [(3,Hg),(4,Hg),(5,Hg),(6,Hg),(7,Hf)] [4,20] [] 2 [Ii r_1.2,.bool false] [] zH (ac zL (ac zL (ac zL (ac zL (ac zL an))))) ?_
   cases h
   exact ⟨rfl,(sw [] [] [.s 4,.s 20] [] an)⟩
 refine cd 20 p_1 ?_ ?_
 ·intro g_1;replace h:=zT g_1 h
  refine sr [] [2] [] 0 [Ii 10] [] zH an ?_
  refine rt ?_
  cases h
  exact ⟨.inr rfl,Nat.le_of_ble_eq_true rfl,by kernel_rfl⟩
 intro g_1;replace h:=zU g_1 h
 refine sk ?_
 refine sr [] [2] [] 0 [Ii r_1.2] [] zH an ?_
 refine rt ?_
 cases h
 exact ⟨.inr rfl,Nat.le_of_ble_eq_true rfl,by kernel_rfl⟩

theorem zIU (F:Nat) (l_1:z9) (r:(List (yO))) (h:zEF F l_1=some r):zW prog 18 [] [] [yB l_1] [.row 50 3 (Mp yR r)] (.own 0 ((r).length)):=by
 refine yK (fn:=Go.Proofs.Try.f18) (code:=xY Go.Proofs.Try.f18) (by kernel_rfl) (by kernel_rfl) (Nat.le_of_ble_eq_true (by kernel_rfl)) ?_
 unfold zEF at h
 refine sr [(0,{ id:=0 }),(1,{ id:=1,m:=1 })] [1] [0] 2 [Pp 0] [Vb 31 (y9 l_1)] zH an ?_
 refine sq ?_
 refine sq ?_
 obtain ⟨r_1,h_1,h⟩:=bind_some h
 refine rg [(1,{ av:=Ii r_1,l:=[yB l_1] })] [1,8] [0] 2 [Pp 0,.bool (r_1 != (0:Int))] [Vb 31 (y9 l_1)] zH (ar ([yB l_1]:List AV) (ac (rfl:([]:List zO)=[]) (ac (zBD F l_1 r_1 h_1:zW prog 14 [] [] [yB l_1] [] (Ii r_1)) an))) ?_
 refine cd 8 (r_1 != (0:Int)) ?_ ?_
 ·intro g_1;replace h:=zT g_1 h
  refine sr [(0,{ id:=2,m:=1 })] [2] [2] 3 [.own 2 0] [Rb 50 3 []] zH an ?_
  refine wk [2] [] [.a 2 (.own 0 ((([]:List yO)).length))] [.s 0] [(2,.own 0 ((([]:List yO)).length))] [(0,Rb 50 3 [])] (ac (congrArg (AV.own _) (by first | (simp;done) | (simp;omega)):(.own 2 0:AV)=.own 2 ((([]:List yO)).length)) an) ?_
  refine rt ?_
  cases h
  exact ⟨.inr rfl,Nat.le_of_ble_eq_true rfl,by kernel_rfl⟩
 intro g_1;replace h:=zU g_1 h
 refine sk ?_
 refine sr [(0,{ id:=2,m:=1 })] [1,3] [0,2] 3 [Pp 0,.own 2 0] [Vb 31 (y9 l_1),Rb 50 3 []] zH an ?_
 refine sq ?_
 refine sr [(2,{ n:=(l_1.Parts).length })] [3,10,11,12] [2] 3 [.own 2 0,.sl false 4 (Mp zA l_1.Parts),Ii (lN (l_1.Parts)),Ii 0] [Rb 50 3 []] zH (ac (yH _:((Mp zA l_1.Parts)).length=(l_1.Parts).length) an) ?_
 obtain ⟨o_1,h_2,h⟩:=bind_some h
 refine wO (mk [(3,.own 0 ((o_1).length))] [(0,Rb 50 3 (Mp yR o_1))] 1) ?_ ?_
 ·replace h:=h_2
  refine yU (id:=0) (by kernel_rfl) ?_
  refine wk [2] [] [.s 3,.s 10,.s 11,.s 12] [.s 0] [(3,.own 0 0),(10,.sl false 4 (Mp zA l_1.Parts)),(11,Ii (lN (l_1.Parts))),(12,Ii 0)] [(0,Rb 50 3 [])] an ?_
  refine wT (fun n st=>∃ (v_1:Int),∃ (zC:List yO),st=mk [(3,.own 0 ((zC).length)),(10,.sl false 4 (Mp zA l_1.Parts)),(11,Ii (lN (l_1.Parts))),(12,Ii v_1)] [(0,Rb 50 3 (Mp yR zC))] 1∧zAW F l_1 n v_1 zC=some o_1) F (by kernel_rfl) ⟨_,_,rfl,h⟩ ?_ ?_
  ·rintro _ ⟨_,_,_,h⟩;exact wV (h:(none:Option (List yO))=some o_1)
  rintro n_1 _ ⟨v_1,zC,rfl,h⟩
  replace h:nK F l_1 (zAW F l_1 n_1) v_1 zC=some o_1:=h
  unfold nK at h
  refine sr [] [3,10,11,12,13] [0] 1 [.own 0 ((zC).length),.sl false 4 (Mp zA l_1.Parts),Ii (lN (l_1.Parts)),Ii v_1,.bool (decide (v_1<(lN (l_1.Parts))))] [Rb 50 3 (Mp yR zC)] zH an ?_
  refine sq ?_
  refine cd 13 (decide (v_1<(lN (l_1.Parts)))) ?_ ?_
  rotate_left
  ·intro g_2;replace h:=zU g_2 h
   refine w5 (id:=0) (by kernel_rfl) ?_
   cases h
   exact ⟨rfl,(sw [0] [] [.s 3] [.s 0] an)⟩
  intro g_2;replace h:=zT g_2 h
  refine sk ?_
  refine sq ?_
  refine yU (id:=1) (by kernel_rfl) ?_
  refine sq ?_
  obtain ⟨x_1,h_3,h⟩:=bind_some h
  refine rg [(0,{ av:=zA x_1 }),(2,{ id:=1 })] [3,5,10,11,12] [0,1] 2 [.own 0 ((zC).length),Pp 1,.sl false 4 (Mp zA l_1.Parts),Ii (lN (l_1.Parts)),Ii v_1] [Rb 50 3 (Mp yR zC),Vb 59 (z6 x_1)] zH (ac (wI h_3:vA (Mp zA l_1.Parts) v_1=some (zA x_1)) an) ?_
  refine sr [] [3,5,10,11,12,18] [0,1] 2 [.own 0 ((zC).length),Pp 1,.sl false 4 (Mp zA l_1.Parts),Ii (lN (l_1.Parts)),Ii v_1,.bool (decide (x_1.Lost>(0:Int)))] [Rb 50 3 (Mp yR zC),Vb 59 (z6 x_1)] zH an ?_
  refine cd 18 (decide (x_1.Lost>(0:Int))) ?_ ?_
  rotate_left
  ·intro g_3;replace h:=zU g_3 h
   refine sk ?_
   refine rg [] [3,10,11,12] [0] 2 [.own 0 ((zC).length),.sl false 4 (Mp zA l_1.Parts),Ii (lN (l_1.Parts)),Ii (zK (v_1+(1:Int)))] [Rb 50 3 (Mp yR zC)] zH an ?_
   exact ⟨_,(sw [0] [] [.s 3,.s 10,.s 11,.s 12] [.s 0] an),_,_,rfl,h⟩
  intro g_3;replace h:=zT g_3 h
  obtain ⟨_,h_4,h⟩:=bind_some h;replace h_4:=wS h_4
  refine rg [(11,{ id:=2 }),(12,{ id:=3,l:=(Mp yR (zC++([(⟨x_1.Thread,zK (x_1.Serial - x_1.Lost),x_1.Lost⟩:yO)]:List yO))),n:=((zC++([(⟨x_1.Thread,zK (x_1.Serial - x_1.Lost),x_1.Lost⟩:yO)]:List yO))).length })] [3,10,11,12] [3] 4 [.own 3 (((zC++([(⟨x_1.Thread,zK (x_1.Serial - x_1.Lost),x_1.Lost⟩:yO)]:List yO))).length),.sl false 4 (Mp zA l_1.Parts),Ii (lN (l_1.Parts)),Ii v_1] [Rb 50 3 (Mp yR (zC++([(⟨x_1.Thread,zK (x_1.Serial - x_1.Lost),x_1.Lost⟩:yO)]:List yO)))] zH (ac (by first | (simp;done) | (simp;omega):(zC).length=((List.map yR zC)).length) (ac (by first | (simp;done) | (simp;omega):1=((List.map yR ([(⟨x_1.Thread,zK (x_1.Serial - x_1.Lost),x_1.Lost⟩:yO)]:List yO))).length) (ac (zBE _ _:(Mp yR (zC++([(⟨x_1.Thread,zK (x_1.Serial - x_1.Lost),x_1.Lost⟩:yO)]:List yO)))=(Mp yR zC)++(Mp yR ([(⟨x_1.Thread,zK (x_1.Serial - x_1.Lost),x_1.Lost⟩:yO)]:List yO))) (ac (by simp:((zC++([(⟨x_1.Thread,zK (x_1.Serial - x_1.Lost),x_1.Lost⟩:yO)]:List yO))).length=((List.map yR (zC++([(⟨x_1.Thread,zK (x_1.Serial - x_1.Lost),x_1.Lost⟩:yO)]:List yO)))).length) (ac (by first | (simp;done) | simpa using h_4:(((List.map yR zC):List AV).length+((List.map yR ([(⟨x_1.Thread,zK (x_1.Serial - x_1.Lost),x_1.Lost⟩:yO)]:List yO)):List AV).length) * 24≤140737488355328) an))))) ?_
  refine rg [] [3,10,11,12] [3] 4 [.own 3 (((zC++([(⟨x_1.Thread,zK (x_1.Serial - x_1.Lost),x_1.Lost⟩:yO)]:List yO))).length),.sl false 4 (Mp zA l_1.Parts),Ii (lN (l_1.Parts)),Ii (zK (v_1+(1:Int)))] [Rb 50 3 (Mp yR (zC++([(⟨x_1.Thread,zK (x_1.Serial - x_1.Lost),x_1.Lost⟩:yO)]:List yO)))] zH an ?_
  exact ⟨_,(sw [3] [] [.s 3,.s 10,.s 11,.s 12] [.s 0] an),_,_,rfl,h⟩
 refine sr [] [2] [0] 1 [.own 0 ((o_1).length)] [Rb 50 3 (Mp yR o_1)] zH an ?_
 refine wk [0] [] [.s 2] [.s 0] [(2,.own 0 ((o_1).length))] [(0,Rb 50 3 (Mp yR o_1))] an ?_
 refine rt ?_
 cases h
 exact ⟨.inr rfl,Nat.le_of_ble_eq_true rfl,by kernel_rfl⟩

theorem zJS (F:Nat) (l_1:z9) (x4:tE) (r:zI×Bool) (h:zFQ F l_1 x4=some r):zW prog 16 [] [] [yB l_1,zFN x4] [] (.tuple [zE r.1,.bool r.2]):=by
 refine yK (fn:=Go.Proofs.Try.f16) (code:=xY Go.Proofs.Try.f16) (by kernel_rfl) (by kernel_rfl) (Nat.le_of_ble_eq_true (by kernel_rfl)) ?_
 unfold zFQ at h
 refine sr [(0,{ id:=0 }),(1,{ id:=1 }),(2,{ id:=2 })] [2,3,4] [0,1,2] 3 [Pp 0,Pp 1,Pp 2] [Vb 31 (y9 l_1),Vb 37 (uQ x4),Vb 42 [Ii 0,Ii 0,.str ([]:List Int),Ii 0,Ii 0,.nilsl]] zH an ?_
 refine sq ?_
 refine sq ?_
 obtain ⟨r_1,h_1,h⟩:=bind_some h
 refine rg [(1,{ av:=Ii r_1,l:=[yB l_1] })] [2,3,4,10] [0,1,2] 3 [Pp 0,Pp 1,Pp 2,.bool (r_1 != (0:Int))] [Vb 31 (y9 l_1),Vb 37 (uQ x4),Vb 42 [Ii 0,Ii 0,.str ([]:List Int),Ii 0,Ii 0,.nilsl]] zH (ar ([yB l_1]:List AV) (ac (rfl:([]:List zO)=[]) (ac (zBD F l_1 r_1 h_1:zW prog 14 [] [] [yB l_1] [] (Ii r_1)) an))) ?_
 refine cd 10 (r_1 != (0:Int)) ?_ ?_
 ·intro g_1;replace h:=zT g_1 h
  refine sr [] [4,5] [2] 3 [Pp 2,.bool false] [Vb 42 [Ii 0,Ii 0,.str ([]:List Int),Ii 0,Ii 0,.nilsl]] zH an ?_
  refine wk [2] [] [.s 4,.s 5] [.a 0 (Vb 42 (z8 (⟨(0:Int),(0:Int),([]:List Int),(0:Int),(0:Int),[]⟩:zI)))] [(4,Pp 0),(5,.bool false)] [(0,Vb 42 (z8 (⟨(0:Int),(0:Int),([]:List Int),(0:Int),(0:Int),[]⟩:zI)))] (ar 42 (ac (rfl:uJ [Ii ((⟨(0:Int),(0:Int),([]:List Int),(0:Int),(0:Int),[]⟩:zI).At),Ii ((⟨(0:Int),(0:Int),([]:List Int),(0:Int),(0:Int),[]⟩:zI).Kind),.str ((⟨(0:Int),(0:Int),([]:List Int),(0:Int),(0:Int),[]⟩:zI).Name),Ii ((⟨(0:Int),(0:Int),([]:List Int),(0:Int),(0:Int),[]⟩:zI).N),Ii ((⟨(0:Int),(0:Int),([]:List Int),(0:Int),(0:Int),[]⟩:zI).M),.sl false 1 (Ms ((⟨(0:Int),(0:Int),([]:List Int),(0:Int),(0:Int),[]⟩:zI).Stack))]=true) (ac (rfl:(Ii 0:AV)=Ii ((⟨(0:Int),(0:Int),([]:List Int),(0:Int),(0:Int),[]⟩:zI).At)) (ac (rfl:(Ii 0:AV)=Ii ((⟨(0:Int),(0:Int),([]:List Int),(0:Int),(0:Int),[]⟩:zI).Kind)) (ac (rfl:(.str ([]:List Int):AV)=.str ((⟨(0:Int),(0:Int),([]:List Int),(0:Int),(0:Int),[]⟩:zI).Name)) (ac (rfl:(Ii 0:AV)=Ii ((⟨(0:Int),(0:Int),([]:List Int),(0:Int),(0:Int),[]⟩:zI).N)) (ac (rfl:(Ii 0:AV)=Ii ((⟨(0:Int),(0:Int),([]:List Int),(0:Int),(0:Int),[]⟩:zI).M)) (ac (rfl:((Ms ((⟨(0:Int),(0:Int),([]:List Int),(0:Int),(0:Int),[]⟩:zI).Stack)):List AV)=[]) an)))))))) ?_
  refine rt ?_
  cases h
  exact ⟨.inr rfl,Nat.le_of_ble_eq_true rfl,by kernel_rfl⟩
 intro g_1;replace h:=zU g_1 h
 refine sk ?_
 refine sq ?_
 refine sr [(2,{ n:=(l_1.Parts).length })] [3,4,13,14,15] [1,2] 3 [Pp 1,Pp 2,.sl false 4 (Mp zA l_1.Parts),Ii (lN (l_1.Parts)),Ii 0] [Vb 37 (uQ x4),Vb 42 [Ii 0,Ii 0,.str ([]:List Int),Ii 0,Ii 0,.nilsl]] zH (ac (yH _:((Mp zA l_1.Parts)).length=(l_1.Parts).length) an) ?_
 obtain ⟨o_1,h_2,h⟩:=bind_some h
 refine uR (K1:=(fun e st'=>match o_1 with | (.inl q0)=>e=.normal∧Sub 0 st' (mk [(4,Pp 0)] [(0,Vb 42 [Ii 0,Ii 0,.str ([]:List Int),Ii 0,Ii 0,.nilsl])] 1) | (.inr q1)=>e=.ret∧kO prog Go.Proofs.Try.f16 0 [] (.tuple [zE q1.1,.bool q1.2]) st')) ?_ ?_
 ·replace h:=h_2
  refine yU (id:=0) (by kernel_rfl) ?_
  refine wk [1,2] [] [.s 3,.s 4,.s 13,.s 14,.s 15] [.s 0,.s 1] [(3,Pp 0),(4,Pp 1),(13,.sl false 4 (Mp zA l_1.Parts)),(14,Ii (lN (l_1.Parts))),(15,Ii 0)] [(0,Vb 37 (uQ x4)),(1,Vb 42 [Ii 0,Ii 0,.str ([]:List Int),Ii 0,Ii 0,.nilsl])] an ?_
  refine wT (fun n st=>∃ (v_1:Int),st=mk [(3,Pp 0),(4,Pp 1),(13,.sl false 4 (Mp zA l_1.Parts)),(14,Ii (lN (l_1.Parts))),(15,Ii v_1)] [(0,Vb 37 (uQ x4)),(1,Vb 42 [Ii 0,Ii 0,.str ([]:List Int),Ii 0,Ii 0,.nilsl])] 2∧zBg F l_1 x4 n v_1=some o_1) F (by kernel_rfl) ⟨_,rfl,h⟩ ?_ ?_
  ·rintro _ ⟨_,_,h⟩;exact wV (h:(none:Option (Unit⊕(zI×Bool)))=some o_1)
  rintro n_1 _ ⟨v_1,rfl,h⟩
  replace h:zAh F l_1 x4 (zBg F l_1 x4 n_1) v_1=some o_1:=h
  unfold zAh at h
  refine sr [] [3,4,13,14,15,16] [0,1] 2 [Pp 0,Pp 1,.sl false 4 (Mp zA l_1.Parts),Ii (lN (l_1.Parts)),Ii v_1,.bool (decide (v_1<(lN (l_1.Parts))))] [Vb 37 (uQ x4),Vb 42 [Ii 0,Ii 0,.str ([]:List Int),Ii 0,Ii 0,.nilsl]] zH an ?_
  refine sq ?_
  refine cd 16 (decide (v_1<(lN (l_1.Parts)))) ?_ ?_
  rotate_left
  ·intro g_2;replace h:=zU g_2 h
   refine w5 (id:=0) (by kernel_rfl) ?_
   cases h
   exact ⟨rfl,(sw [1] [] [.s 4] [.s 0] an)⟩
  intro g_2;replace h:=zT g_2 h
  refine sk ?_
  refine sq ?_
  refine yU (id:=1) (by kernel_rfl) ?_
  refine sq ?_
  obtain ⟨x_1,h_3,h⟩:=bind_some h
  refine rg [(0,{ av:=zA x_1 }),(2,{ id:=2 })] [3,4,7,13,14,15] [0,1,2] 3 [Pp 0,Pp 1,Pp 2,.sl false 4 (Mp zA l_1.Parts),Ii (lN (l_1.Parts)),Ii v_1] [Vb 37 (uQ x4),Vb 42 [Ii 0,Ii 0,.str ([]:List Int),Ii 0,Ii 0,.nilsl],Vb 59 (z6 x_1)] zH (ac (wI h_3:vA (Mp zA l_1.Parts) v_1=some (zA x_1)) an) ?_
  refine sq ?_
  refine wO (mk [(3,Pp 0),(4,Pp 1),(7,Pp 2),(13,.sl false 4 (Mp zA l_1.Parts)),(14,Ii (lN (l_1.Parts))),(15,Ii v_1),(41,.bool ((x_1.Thread==x4.Thread)&&(decide (x4.Serial≥x_1.Serial)&&decide (x4.Serial<(zK (x_1.Serial+(lN (x_1.Events))))))))] [(0,Vb 37 (uQ x4)),(1,Vb 42 [Ii 0,Ii 0,.str ([]:List Int),Ii 0,Ii 0,.nilsl]),(2,Vb 59 (z6 x_1))] 3) ?_ ?_
  ·rcases bft (x_1.Thread==x4.Thread) with x9 | x9
   ·rcases bft (decide (x4.Serial≥x_1.Serial)) with x8 | x8
    ·refine rg [(11,Ht),(19,{ n:=(x_1.Events).length }),(22,Ht)] [3,4,7,13,14,15,25,26,27,28,29,32,33,34,35,36,37,38,39,40,41] [0,1,2] 3 [Pp 0,Pp 1,Pp 2,.sl false 4 (Mp zA l_1.Parts),Ii (lN (l_1.Parts)),Ii v_1,.ptr 0 0 0 1,Ii x4.Serial,.ptr 2 0 0 1,Ii x_1.Serial,.bool (decide (x4.Serial≥x_1.Serial)),.ptr 0 0 0 1,Ii x4.Serial,.ptr 2 0 0 1,Ii x_1.Serial,.ptr 2 0 0 3,.sl false 6 (Mp zE x_1.Events),Ii (lN (x_1.Events)),Ii (zK (x_1.Serial+(lN (x_1.Events)))),.bool (decide (x4.Serial<(zK (x_1.Serial+(lN (x_1.Events)))))),.bool (decide (x4.Serial<(zK (x_1.Serial+(lN (x_1.Events))))))] [Vb 37 (uQ x4),Vb 42 [Ii 0,Ii 0,.str ([]:List Int),Ii 0,Ii 0,.nilsl],Vb 59 (z6 x_1)] zH (ac x9 (ac x9 (ac x9 (ac x9 (ac x9 (ac x9 (ac x8 (ac x8 (ac x8 (ac x8 (ac x8 (ac x8 (ac x8 (ac (yH _:((Mp zE x_1.Events)).length=(x_1.Events).length) (ac x8 (ac x8 (ac x8 an))))))))))))))))) ?_
     exact ⟨rfl,(sw [0,1,2] [] [.s 3,.s 4,.s 7,.s 13,.s 14,.s 15,.a 41 (.bool ((x_1.Thread==x4.Thread)&&(decide (x4.Serial≥x_1.Serial)&&decide (x4.Serial<(zK (x_1.Serial+(lN (x_1.Events))))))))] [.s 0,.s 1,.s 2] (ac (congrArg AV.bool (t3 x9 (t3 x8 rfl)):(.bool (decide (x4.Serial<(zK (x_1.Serial+(lN (x_1.Events)))))):AV)=.bool ((x_1.Thread==x4.Thread)&&(decide (x4.Serial≥x_1.Serial)&&decide (x4.Serial<(zK (x_1.Serial+(lN (x_1.Events)))))))) an))⟩
    ·refine rg [(11,Ht),(13,Hg),(14,Hg),(15,Hg),(16,Hg),(17,Hg),(18,Hg),(19,Hg),(20,Hg),(21,Hg),(22,Hf)] [3,4,7,13,14,15,25,26,27,28,29,32,33,34,35,36,37,38,39,40,41] [0,1,2] 3 [Pp 0,Pp 1,Pp 2,.sl false 4 (Mp zA l_1.Parts),Ii (lN (l_1.Parts)),Ii v_1,.ptr 0 0 0 1,Ii x4.Serial,.ptr 2 0 0 1,Ii x_1.Serial,.bool (decide (x4.Serial≥x_1.Serial)),.tuple [],.tuple [],.tuple [],.tuple [],.tuple [],.tuple [],.tuple [],.tuple [],.tuple [],.bool false] [Vb 37 (uQ x4),Vb 42 [Ii 0,Ii 0,.str ([]:List Int),Ii 0,Ii 0,.nilsl],Vb 59 (z6 x_1)] zH (ac x9 (ac x9 (ac x9 (ac x9 (ac x9 (ac x9 (ac x8 (ac x8 (ac x8 (ac x8 (ac x8 (ac x8 (ac x8 (ac x8 (ac x8 (ac x8 an)))))))))))))))) ?_
     exact ⟨rfl,(sw [0,1,2] [] [.s 3,.s 4,.s 7,.s 13,.s 14,.s 15,.a 41 (.bool ((x_1.Thread==x4.Thread)&&(decide (x4.Serial≥x_1.Serial)&&decide (x4.Serial<(zK (x_1.Serial+(lN (x_1.Events))))))))] [.s 0,.s 1,.s 2] (ac (congrArg AV.bool (t3 x9 (zBe x8)):(.bool false:AV)=.bool ((x_1.Thread==x4.Thread)&&(decide (x4.Serial≥x_1.Serial)&&decide (x4.Serial<(zK (x_1.Serial+(lN (x_1.Events)))))))) an))⟩
   ·refine rg [(6,Hg),(7,Hg),(8,Hg),(9,Hg),(10,Hg),(11,Hf),(13,Hg),(14,Hg),(15,Hg),(16,Hg),(17,Hg),(18,Hg),(19,Hg),(20,Hg),(21,Hg),(22,Hf)] [3,4,7,13,14,15,25,26,27,28,29,32,33,34,35,36,37,38,39,40,41] [0,1,2] 3 [Pp 0,Pp 1,Pp 2,.sl false 4 (Mp zA l_1.Parts),Ii (lN (l_1.Parts)),Ii v_1,.tuple [],.tuple [],.tuple [],.tuple [],.tuple [],.tuple [],.tuple [],.tuple [],.tuple [],.tuple [],.tuple [],.tuple [],.tuple [],.tuple [],.bool false] [Vb 37 (uQ x4),Vb 42 [Ii 0,Ii 0,.str ([]:List Int),Ii 0,Ii 0,.nilsl],Vb 59 (z6 x_1)] zH (ac x9 (ac x9 (ac x9 (ac x9 (ac x9 (ac x9 (ac (rfl:false=!true) (ac (rfl:false=!true) (ac (rfl:false=!true) (ac (rfl:false=!true) (ac (rfl:false=!true) (ac (rfl:false=!true) (ac (rfl:false=!true) (ac (rfl:false=!true) (ac (rfl:false=!true) (ar false an)))))))))))))))) ?_
    exact ⟨rfl,(sw [0,1,2] [] [.s 3,.s 4,.s 7,.s 13,.s 14,.s 15,.a 41 (.bool ((x_1.Thread==x4.Thread)&&(decide (x4.Serial≥x_1.Serial)&&decide (x4.Serial<(zK (x_1.Serial+(lN (x_1.Events))))))))] [.s 0,.s 1,.s 2] (ac (congrArg AV.bool (zBe x9):(.bool false:AV)=.bool ((x_1.Thread==x4.Thread)&&(decide (x4.Serial≥x_1.Serial)&&decide (x4.Serial<(zK (x_1.Serial+(lN (x_1.Events)))))))) an))⟩
  refine cd 41 ((x_1.Thread==x4.Thread)&&(decide (x4.Serial≥x_1.Serial)&&decide (x4.Serial<(zK (x_1.Serial+(lN (x_1.Events))))))) ?_ ?_
  rotate_left
  ·intro g_3;replace h:=zU g_3 h
   refine sk ?_
   refine rg [] [3,4,13,14,15] [0,1] 3 [Pp 0,Pp 1,.sl false 4 (Mp zA l_1.Parts),Ii (lN (l_1.Parts)),Ii (zK (v_1+(1:Int)))] [Vb 37 (uQ x4),Vb 42 [Ii 0,Ii 0,.str ([]:List Int),Ii 0,Ii 0,.nilsl]] zH an ?_
   exact ⟨_,(sw [0,1] [] [.s 3,.s 4,.s 13,.s 14,.s 15] [.s 0,.s 1] an),_,rfl,h⟩
  intro g_3;replace h:=zT g_3 h
  refine sq ?_
  obtain ⟨x_2,h_4,h⟩:=bind_some h
  refine rg [(7,{ av:=zE x_2 })] [4,5] [1] 3 [Pp 1,.bool true] [Vb 42 (z8 x_2)] zH (ac (wI h_4:vA (Mp zE x_1.Events) (zK (x4.Serial - x_1.Serial))=some (zE x_2)) an) ?_
  refine wk [1] [] [.s 4,.s 5] [.s 0] [(4,Pp 0),(5,.bool true)] [(0,Vb 42 (z8 x_2))] an ?_
  refine rt ?_
  cases h
  exact ⟨rfl,Nat.le_of_ble_eq_true rfl,by kernel_rfl⟩
 intro e st1 hk
 rcases o_1 with q_1 | q_2
 rotate_left
 ·obtain ⟨rfl,hf⟩:=hk
  cases h
  exact ⟨st1,Sub.refl _ _,.inr rfl,hf⟩
 obtain ⟨rfl,hs⟩:=hk
 refine ⟨_,hs,?_⟩
 refine sr [] [4,5] [0] 1 [Pp 0,.bool false] [Vb 42 [Ii 0,Ii 0,.str ([]:List Int),Ii 0,Ii 0,.nilsl]] zH an ?_
 refine wk [0] [] [.s 4,.s 5] [.a 0 (Vb 42 (z8 (⟨(0:Int),(0:Int),([]:List Int),(0:Int),(0:Int),[]⟩:zI)))] [(4,Pp 0),(5,.bool false)] [(0,Vb 42 (z8 (⟨(0:Int),(0:Int),([]:List Int),(0:Int),(0:Int),[]⟩:zI)))] (ar 42 (ac (rfl:uJ [Ii ((⟨(0:Int),(0:Int),([]:List Int),(0:Int),(0:Int),[]⟩:zI).At),Ii ((⟨(0:Int),(0:Int),([]:List Int),(0:Int),(0:Int),[]⟩:zI).Kind),.str ((⟨(0:Int),(0:Int),([]:List Int),(0:Int),(0:Int),[]⟩:zI).Name),Ii ((⟨(0:Int),(0:Int),([]:List Int),(0:Int),(0:Int),[]⟩:zI).N),Ii ((⟨(0:Int),(0:Int),([]:List Int),(0:Int),(0:Int),[]⟩:zI).M),.sl false 1 (Ms ((⟨(0:Int),(0:Int),([]:List Int),(0:Int),(0:Int),[]⟩:zI).Stack))]=true) (ac (rfl:(Ii 0:AV)=Ii ((⟨(0:Int),(0:Int),([]:List Int),(0:Int),(0:Int),[]⟩:zI).At)) (ac (rfl:(Ii 0:AV)=Ii ((⟨(0:Int),(0:Int),([]:List Int),(0:Int),(0:Int),[]⟩:zI).Kind)) (ac (rfl:(.str ([]:List Int):AV)=.str ((⟨(0:Int),(0:Int),([]:List Int),(0:Int),(0:Int),[]⟩:zI).Name)) (ac (rfl:(Ii 0:AV)=Ii ((⟨(0:Int),(0:Int),([]:List Int),(0:Int),(0:Int),[]⟩:zI).N)) (ac (rfl:(Ii 0:AV)=Ii ((⟨(0:Int),(0:Int),([]:List Int),(0:Int),(0:Int),[]⟩:zI).M)) (ac (rfl:((Ms ((⟨(0:Int),(0:Int),([]:List Int),(0:Int),(0:Int),[]⟩:zI).Stack)):List AV)=[]) an)))))))) ?_
 refine rt ?_
 cases h
 exact ⟨.inr rfl,Nat.le_of_ble_eq_true rfl,by kernel_rfl⟩

theorem zBH (F:Nat) (r:Bool) (h:nY F=some r):zW prog 9 [] [] [] [] (.bool r):=by
 refine yK (fn:=Go.Proofs.Try.f9) (code:=xY Go.Proofs.Try.f9) (by kernel_rfl) (by kernel_rfl) (Nat.le_of_ble_eq_true (by kernel_rfl)) ?_
 unfold nY at h
 refine sr [] [] [] 0 [] [] zH an ?_
 refine sr [(1,{ id:=0 }),(3,{ id:=1 }),(5,{ id:=2 })] [1] [0,1,2] 3 [Pp 2] [Rb 66 3 (Mp zG ([(⟨(1:Int),([116,49]:List Int),(0:Int)⟩:zQ)]:List zQ)),Rb 68 2 (Mp zD ([(⟨(0:Int),(0:Int)⟩:zM)]:List zM)),Vb 26 [.own 0 1,.own 1 1,.nilsl]] zH an ?_
 refine sq ?_
 refine wk [2,1] [0] [.s 1] [.a 0 (Vb 26 [.sl false 3 (Mp zG ([(⟨(1:Int),([116,49]:List Int),(0:Int)⟩:zQ)]:List zQ)),.own 1 1,.nilsl]),.s 1] [(1,Pp 0)] [(0,Vb 26 [.sl false 3 (Mp zG ([(⟨(1:Int),([116,49]:List Int),(0:Int)⟩:zQ)]:List zQ)),.own 1 1,.nilsl]),(1,Rb 68 2 (Mp zD ([(⟨(0:Int),(0:Int)⟩:zM)]:List zM)))] (ar 26 (ac (rfl:uJ [.sl false 3 (Mp zG ([(⟨(1:Int),([116,49]:List Int),(0:Int)⟩:zQ)]:List zQ)),.own 1 1,.nilsl]=true) (ac (by first | (simp;done) | (simp;omega):1=((List.map zG ([(⟨(1:Int),([116,49]:List Int),(0:Int)⟩:zQ)]:List zQ))).length) (ar 3 (ar ((Mp zG ([(⟨(1:Int),([116,49]:List Int),(0:Int)⟩:zQ)]:List zQ)):List AV) (ac (rfl:(!false||false)=true) (ac (rfl:(.own 1 1:AV)=.own 1 1) (ac (rfl:(.nilsl:AV)=.nilsl) an)))))))) ?_
 refine wk [0] [1] [.s 1] [.a 0 (Vb 26 [.sl false 3 (Mp zG ([(⟨(1:Int),([116,49]:List Int),(0:Int)⟩:zQ)]:List zQ)),.sl false 2 (Mp zD ([(⟨(0:Int),(0:Int)⟩:zM)]:List zM)),.nilsl])] [(1,Pp 0)] [(0,Vb 26 [.sl false 3 (Mp zG ([(⟨(1:Int),([116,49]:List Int),(0:Int)⟩:zQ)]:List zQ)),.sl false 2 (Mp zD ([(⟨(0:Int),(0:Int)⟩:zM)]:List zM)),.nilsl])] (ar 26 (ac (rfl:uJ [.sl false 3 (Mp zG ([(⟨(1:Int),([116,49]:List Int),(0:Int)⟩:zQ)]:List zQ)),.sl false 2 (Mp zD ([(⟨(0:Int),(0:Int)⟩:zM)]:List zM)),.nilsl]=true) (ac (by first | (simp;done) | (simp;omega):1=((List.map zD ([(⟨(0:Int),(0:Int)⟩:zM)]:List zM))).length) (ar 3 (ar ((Mp zG ([(⟨(1:Int),([116,49]:List Int),(0:Int)⟩:zQ)]:List zQ)):List AV) (ac (rfl:(!false||false)=true) (ar 2 (ar ((Mp zD ([(⟨(0:Int),(0:Int)⟩:zM)]:List zM)):List AV) (ac (rfl:(!false||false)=true) (ac (rfl:(.nilsl:AV)=.nilsl) an)))))))))) ?_
 obtain ⟨r_1,h_1,h⟩:=bind_some h
 obtain ⟨r_2,h_2,h⟩:=bind_some h
 obtain ⟨r_3,h_3,h⟩:=bind_some h
 refine rg [(1,{ id:=1 }),(2,{ av:=zA r_1,frz:=[1],l:=[Ii 0,Ii 0,.sl false 1 (Mi ([(1:Int),(2:Int)]:List Int))] }),(3,{ id:=2 }),(4,{ av:=zA r_2,frz:=[2],l:=[Ii 2,Ii 0,.sl false 1 (Mi ([(2:Int),(3:Int)]:List Int))] }),(5,{ id:=3 }),(6,{ av:=.tuple [yB r_3.1,Ii r_3.2],frz:=[3],l:=[.agg [.sl false 3 (Mp zG ([(⟨(1:Int),([116,49]:List Int),(0:Int)⟩:zQ)]:List zQ)),.sl false 2 (Mp zD ([(⟨(0:Int),(0:Int)⟩:zM)]:List zM)),.nilsl],.sl false 4 (Mp zA ([r_1,r_2]:List zB))] }),(10,{ id:=4 })] [1,2,3] [0,4] 5 [Pp 0,Pp 4,Ii r_3.2] [Vb 26 [.sl false 3 (Mp zG ([(⟨(1:Int),([116,49]:List Int),(0:Int)⟩:zQ)]:List zQ)),.sl false 2 (Mp zD ([(⟨(0:Int),(0:Int)⟩:zM)]:List zM)),.nilsl],Vb 31 (y9 r_3.1)] zH (ac (by first | (simp;done) | (simp;omega):2=((List.map (AV.int .i64) ([(1:Int),(2:Int)]:List Int))).length) (ar ([Ii 0,Ii 0,.sl false 1 (Mi ([(1:Int),(2:Int)]:List Int))]:List AV) (ac (rfl:([]:List zO)=[]) (ac (zAm F (0:Int) (0:Int) ([(1:Int),(2:Int)]:List Int) r_1 h_1:zW prog 26 [] [] [Ii 0,Ii 0,.sl false 1 (Mi ([(1:Int),(2:Int)]:List Int))] [] (zA r_1)) (ac (by first | (simp;done) | (simp;omega):2=((List.map (AV.int .i64) ([(2:Int),(3:Int)]:List Int))).length) (ar ([Ii 2,Ii 0,.sl false 1 (Mi ([(2:Int),(3:Int)]:List Int))]:List AV) (ac (rfl:([]:List zO)=[]) (ac (zAm F (2:Int) (0:Int) ([(2:Int),(3:Int)]:List Int) r_2 h_2:zW prog 26 [] [] [Ii 2,Ii 0,.sl false 1 (Mi ([(2:Int),(3:Int)]:List Int))] [] (zA r_2)) (ac (by first | (simp;done) | (simp;omega):2=((List.map zA ([r_1,r_2]:List zB))).length) (ar ([.agg [.sl false 3 (Mp zG ([(⟨(1:Int),([116,49]:List Int),(0:Int)⟩:zQ)]:List zQ)),.sl false 2 (Mp zD ([(⟨(0:Int),(0:Int)⟩:zM)]:List zM)),.nilsl],.sl false 4 (Mp zA ([r_1,r_2]:List zB))]:List AV) (ac (rfl:([]:List zO)=[]) (ac (nW (args':=[y6 (⟨([(⟨(1:Int),([116,49]:List Int),(0:Int)⟩:zQ)]:List zQ),([(⟨(0:Int),(0:Int)⟩:zM)]:List zM),[]⟩:zS),.sl false 4 (Mp zA ([r_1,r_2]:List zB))]) (kX F (⟨([(⟨(1:Int),([116,49]:List Int),(0:Int)⟩:zQ)]:List zQ),([(⟨(0:Int),(0:Int)⟩:zM)]:List zM),[]⟩:zS) ([r_1,r_2]:List zB) r_3 h_3) rfl ⟨rfl,rfl,rfl,rfl,rfl,rfl,rfl,rfl,rfl,rfl,trivial⟩:zW prog 10 [] [] [.agg [.sl false 3 (Mp zG ([(⟨(1:Int),([116,49]:List Int),(0:Int)⟩:zQ)]:List zQ)),.sl false 2 (Mp zD ([(⟨(0:Int),(0:Int)⟩:zM)]:List zM)),.nilsl],.sl false 4 (Mp zA ([r_1,r_2]:List zB))] [] (.tuple [yB r_3.1,Ii r_3.2])) an)))))))))))) ?_
 refine sq ?_
 obtain ⟨r_4,h_4,h⟩:=bind_some h
 obtain ⟨r_5,h_5,h⟩:=bind_some h
 refine rg [(1,{ id:=5 }),(2,{ av:=zA r_4,frz:=[5],l:=[Ii 3,Ii 3,.sl false 1 (Mi ([(5:Int)]:List Int))] }),(3,{ id:=6 }),(4,{ av:=.tuple [yB r_5.1,Ii r_5.2],frz:=[6],l:=[.agg [.sl false 3 (Mp zG ([(⟨(1:Int),([116,49]:List Int),(0:Int)⟩:zQ)]:List zQ)),.sl false 2 (Mp zD ([(⟨(0:Int),(0:Int)⟩:zM)]:List zM)),.nilsl],.sl false 4 (Mp zA ([r_4]:List zB))] }),(8,{ id:=7 })] [1,2,3,4,5] [0,4,7] 8 [Pp 0,Pp 4,Ii r_3.2,Pp 7,Ii r_5.2] [Vb 26 [.sl false 3 (Mp zG ([(⟨(1:Int),([116,49]:List Int),(0:Int)⟩:zQ)]:List zQ)),.sl false 2 (Mp zD ([(⟨(0:Int),(0:Int)⟩:zM)]:List zM)),.nilsl],Vb 31 (y9 r_3.1),Vb 31 (y9 r_5.1)] zH (ac (by first | (simp;done) | (simp;omega):1=((List.map (AV.int .i64) ([(5:Int)]:List Int))).length) (ar ([Ii 3,Ii 3,.sl false 1 (Mi ([(5:Int)]:List Int))]:List AV) (ac (rfl:([]:List zO)=[]) (ac (zAm F (3:Int) (3:Int) ([(5:Int)]:List Int) r_4 h_4:zW prog 26 [] [] [Ii 3,Ii 3,.sl false 1 (Mi ([(5:Int)]:List Int))] [] (zA r_4)) (ac (by first | (simp;done) | (simp;omega):1=((List.map zA ([r_4]:List zB))).length) (ar ([.agg [.sl false 3 (Mp zG ([(⟨(1:Int),([116,49]:List Int),(0:Int)⟩:zQ)]:List zQ)),.sl false 2 (Mp zD ([(⟨(0:Int),(0:Int)⟩:zM)]:List zM)),.nilsl],.sl false 4 (Mp zA ([r_4]:List zB))]:List AV) (ac (rfl:([]:List zO)=[]) (ac (nW (args':=[y6 (⟨([(⟨(1:Int),([116,49]:List Int),(0:Int)⟩:zQ)]:List zQ),([(⟨(0:Int),(0:Int)⟩:zM)]:List zM),[]⟩:zS),.sl false 4 (Mp zA ([r_4]:List zB))]) (kX F (⟨([(⟨(1:Int),([116,49]:List Int),(0:Int)⟩:zQ)]:List zQ),([(⟨(0:Int),(0:Int)⟩:zM)]:List zM),[]⟩:zS) ([r_4]:List zB) r_5 h_5) rfl ⟨rfl,rfl,rfl,rfl,rfl,rfl,rfl,rfl,rfl,rfl,trivial⟩:zW prog 10 [] [] [.agg [.sl false 3 (Mp zG ([(⟨(1:Int),([116,49]:List Int),(0:Int)⟩:zQ)]:List zQ)),.sl false 2 (Mp zD ([(⟨(0:Int),(0:Int)⟩:zM)]:List zM)),.nilsl],.sl false 4 (Mp zA ([r_4]:List zB))] [] (.tuple [yB r_5.1,Ii r_5.2])) an)))))))) ?_
 refine sq ?_
 obtain ⟨r_6,h_6,h⟩:=bind_some h
 obtain ⟨r_7,h_7,h⟩:=bind_some h
 refine rg [(1,{ id:=8 }),(2,{ av:=zA r_6,frz:=[8],l:=[Ii 3,Ii 2,.sl false 1 (Mi ([(5:Int)]:List Int))] }),(3,{ id:=9 }),(4,{ av:=.tuple [yB r_7.1,Ii r_7.2],frz:=[9],l:=[.agg [.sl false 3 (Mp zG ([(⟨(1:Int),([116,49]:List Int),(0:Int)⟩:zQ)]:List zQ)),.sl false 2 (Mp zD ([(⟨(0:Int),(0:Int)⟩:zM)]:List zM)),.nilsl],.sl false 4 (Mp zA ([r_6]:List zB))] }),(8,{ id:=10 })] [2,3,4,5,7] [4,7] 11 [Pp 4,Ii r_3.2,Pp 7,Ii r_5.2,Ii r_7.2] [Vb 31 (y9 r_3.1),Vb 31 (y9 r_5.1)] zH (ac (by first | (simp;done) | (simp;omega):1=((List.map (AV.int .i64) ([(5:Int)]:List Int))).length) (ar ([Ii 3,Ii 2,.sl false 1 (Mi ([(5:Int)]:List Int))]:List AV) (ac (rfl:([]:List zO)=[]) (ac (zAm F (3:Int) (2:Int) ([(5:Int)]:List Int) r_6 h_6:zW prog 26 [] [] [Ii 3,Ii 2,.sl false 1 (Mi ([(5:Int)]:List Int))] [] (zA r_6)) (ac (by first | (simp;done) | (simp;omega):1=((List.map zA ([r_6]:List zB))).length) (ar ([.agg [.sl false 3 (Mp zG ([(⟨(1:Int),([116,49]:List Int),(0:Int)⟩:zQ)]:List zQ)),.sl false 2 (Mp zD ([(⟨(0:Int),(0:Int)⟩:zM)]:List zM)),.nilsl],.sl false 4 (Mp zA ([r_6]:List zB))]:List AV) (ac (rfl:([]:List zO)=[]) (ac (nW (args':=[y6 (⟨([(⟨(1:Int),([116,49]:List Int),(0:Int)⟩:zQ)]:List zQ),([(⟨(0:Int),(0:Int)⟩:zM)]:List zM),[]⟩:zS),.sl false 4 (Mp zA ([r_6]:List zB))]) (kX F (⟨([(⟨(1:Int),([116,49]:List Int),(0:Int)⟩:zQ)]:List zQ),([(⟨(0:Int),(0:Int)⟩:zM)]:List zM),[]⟩:zS) ([r_6]:List zB) r_7 h_7) rfl ⟨rfl,rfl,rfl,rfl,rfl,rfl,rfl,rfl,rfl,rfl,trivial⟩:zW prog 10 [] [] [.agg [.sl false 3 (Mp zG ([(⟨(1:Int),([116,49]:List Int),(0:Int)⟩:zQ)]:List zQ)),.sl false 2 (Mp zD ([(⟨(0:Int),(0:Int)⟩:zM)]:List zM)),.nilsl],.sl false 4 (Mp zA ([r_6]:List zB))] [] (.tuple [yB r_7.1,Ii r_7.2])) an)))))))) ?_
 refine sq ?_
 obtain ⟨r_8,h_8,h⟩:=bind_some h
 refine rg [(1,{ av:=.own 0 ((r_8).length),ids:=[11],l:=[yB r_5.1],post:=[(.row 50 3 (Mp yR r_8))] })] [2,3,5,7,8] [4,11] 12 [Pp 4,Ii r_3.2,Ii r_5.2,Ii r_7.2,.own 11 ((r_8).length)] [Vb 31 (y9 r_3.1),Rb 50 3 (Mp yR r_8)] zH (ar ([yB r_5.1]:List AV) (ac (rfl:([]:List zO)=[]) (ac (zIU F r_5.1 r_8 h_8:zW prog 18 [] [] [yB r_5.1] [(.row 50 3 (Mp yR r_8))] (.own 0 ((r_8).length))) an))) ?_
 refine sq ?_
 obtain ⟨r_9,h_9,h⟩:=bind_some h
 refine rg [(2,{ av:=.tuple [zE r_9.1,.bool r_9.2],l:=[yB r_3.1,.agg [Ii 1,Ii 3]] }),(6,{ id:=12 })] [2,3,5,7,8,9,10] [4,11,12] 13 [Pp 4,Ii r_3.2,Ii r_5.2,Ii r_7.2,.own 11 ((r_8).length),Pp 12,.bool r_9.2] [Vb 31 (y9 r_3.1),Rb 50 3 (Mp yR r_8),Vb 42 (z8 r_9.1)] zH (ar ([yB r_3.1,.agg [Ii 1,Ii 3]]:List AV) (ac (rfl:([]:List zO)=[]) (ac (nW (args':=[yB r_3.1,zFN (⟨(1:Int),(3:Int)⟩:tE)]) (zJS F r_3.1 (⟨(1:Int),(3:Int)⟩:tE) r_9 h_9) rfl ⟨rfl,rfl,rfl,rfl,rfl,rfl,rfl,rfl,rfl,rfl,rfl,rfl,rfl,rfl,trivial⟩:zW prog 16 [] [] [yB r_3.1,.agg [Ii 1,Ii 3]] [] (.tuple [zE r_9.1,.bool r_9.2])) an))) ?_
 refine sq ?_
 obtain ⟨p_1,h_13,h⟩:=bind_some h
 refine wO (mk [(0,.bool p_1)] [] 0) ?_ ?_
 ·replace h:=h_13
  rcases bft (r_3.2==(0:Int)) with zL | zL
  ·replace h:=zT zL h
   rcases bft ((lN (r_3.1.Parts))==(1:Int)) with zJ | zJ
   ·replace h:=zT zJ h
    obtain ⟨x_1,qU,h⟩:=bind_some h
    rcases bft ((lN (x_1.Events))==(4:Int)) with zV | zV
    ·replace h:=zT zV h
     rcases bft (r_5.2==(0:Int)) with zZ | zZ
     ·replace h:=zT zZ h
      rcases bft ((lN (r_8))==(1:Int)) with yV | yV
      ·replace h:=zT yV h
       obtain ⟨x_2,t7,h⟩:=bind_some h
       rcases bft (decide (x_2=(⟨(1:Int),(0:Int),(3:Int)⟩:yO))) with wC | wC
       ·replace h:=zT wC h
        rcases bft (r_7.2==(11:Int)) with x9 | x9
        ·replace h:=zT x9 h
         rcases Bool.eq_false_or_eq_true r_9.2 with x8 | x8
         ·replace h:=zT x8 h
          rcases bft (r_9.1.At==(3:Int)) with vD | vD
          ·replace h:=zT vD h
           obtain ⟨r_10,zEY,h⟩:=bind_some h
           refine rg [(5,{ n:=(r_3.1.Parts).length }),(7,Ht),(11,{ av:=zA x_1 }),(14,{ n:=(x_1.Events).length }),(16,Ht),(20,Ht),(25,Ht),(29,{ av:=yR x_2 }),(31,{ b:=(decide (x_2=(⟨(1:Int),(0:Int),(3:Int)⟩:yO))),mks:=[.int .i64,.int .i64,.int .i64] }),(32,Ht),(36,Ht),(39,Ht),(44,Ht),(47,{ av:=Ii r_10,l:=[yB r_3.1] }),(49,Ht)] [0] [] 13 [.bool (r_10==(0:Int))] [] zH (ac zL (ac zL (ac zL (ac (yH _:((Mp zA r_3.1.Parts)).length=(r_3.1.Parts).length) (ac zL (ac zL (ac zJ (ac zJ (ac zJ (ac (wI qU:vA (Mp zA r_3.1.Parts) (0:Int)=some (zA x_1)) (ac zJ (ac zJ (ac zJ (ac (yH _:((Mp zE x_1.Events)).length=(x_1.Events).length) (ac zJ (ac zJ (ac zV (ac zV (ac zV (ac zZ (ac zZ (ac zZ (ac zZ (ac yV (ac yV (ac (zAw t7:(0:Int)≤(0:Int)) (ac (by first | (simp;done) | simpa using zAD t7:(0:Int)<(((r_8).length:Nat):Int)) (ac yV (ac (zBK t7:(Mp yR r_8)[0]?=some (yR x_2)) (ac yV (ac yV (ac (zCH:j9 prog 50 [.int .i64,.int .i64,.int .i64]) (ac (zAe (f:=yR) kJ x_2 (⟨(1:Int),(0:Int),(3:Int)⟩:yO):((decide (x_2=(⟨(1:Int),(0:Int),(3:Int)⟩:yO)))=true↔AV.agg [Ii x_2.Thread,Ii x_2.Serial,Ii x_2.Count]=AV.agg [Ii 1,Ii 0,Ii 3])) (ac yV (ac wC (ac wC (ac wC (ac x9 (ac x9 (ac x8 (ac x8 (ac x8 (ac x8 (ac vD (ac vD (ar ([yB r_3.1]:List AV) (ac (rfl:([]:List zO)=[]) (ac (zBD F r_3.1 r_10 zEY:zW prog 14 [] [] [yB r_3.1] [] (Ii r_10)) (ac vD (ac vD an)))))))))))))))))))))))))))))))))))))))))))))))))) ?_
           cases h
           exact ⟨rfl,(sw [] [] [.s 0] [] an)⟩
          ·replace h:=zU vD h
           refine rg [(5,{ n:=(r_3.1.Parts).length }),(7,Ht),(11,{ av:=zA x_1 }),(14,{ n:=(x_1.Events).length }),(16,Ht),(20,Ht),(25,Ht),(29,{ av:=yR x_2 }),(31,{ b:=(decide (x_2=(⟨(1:Int),(0:Int),(3:Int)⟩:yO))),mks:=[.int .i64,.int .i64,.int .i64] }),(32,Ht),(36,Ht),(39,Ht),(44,Ht),(46,Hg),(47,Hg),(48,Hg),(49,Hf)] [0] [] 13 [.bool false] [] zH (ac zL (ac zL (ac zL (ac (yH _:((Mp zA r_3.1.Parts)).length=(r_3.1.Parts).length) (ac zL (ac zL (ac zJ (ac zJ (ac zJ (ac (wI qU:vA (Mp zA r_3.1.Parts) (0:Int)=some (zA x_1)) (ac zJ (ac zJ (ac zJ (ac (yH _:((Mp zE x_1.Events)).length=(x_1.Events).length) (ac zJ (ac zJ (ac zV (ac zV (ac zV (ac zZ (ac zZ (ac zZ (ac zZ (ac yV (ac yV (ac (zAw t7:(0:Int)≤(0:Int)) (ac (by first | (simp;done) | simpa using zAD t7:(0:Int)<(((r_8).length:Nat):Int)) (ac yV (ac (zBK t7:(Mp yR r_8)[0]?=some (yR x_2)) (ac yV (ac yV (ac (zCH:j9 prog 50 [.int .i64,.int .i64,.int .i64]) (ac (zAe (f:=yR) kJ x_2 (⟨(1:Int),(0:Int),(3:Int)⟩:yO):((decide (x_2=(⟨(1:Int),(0:Int),(3:Int)⟩:yO)))=true↔AV.agg [Ii x_2.Thread,Ii x_2.Serial,Ii x_2.Count]=AV.agg [Ii 1,Ii 0,Ii 3])) (ac yV (ac wC (ac wC (ac wC (ac x9 (ac x9 (ac x8 (ac x8 (ac x8 (ac x8 (ac vD (ac vD (ac vD (ac vD an))))))))))))))))))))))))))))))))))))))))))))))) ?_
           cases h
           exact ⟨rfl,(sw [] [] [.s 0] [] an)⟩
         ·replace h:=zU x8 h
          refine rg [(5,{ n:=(r_3.1.Parts).length }),(7,Ht),(11,{ av:=zA x_1 }),(14,{ n:=(x_1.Events).length }),(16,Ht),(20,Ht),(25,Ht),(29,{ av:=yR x_2 }),(31,{ b:=(decide (x_2=(⟨(1:Int),(0:Int),(3:Int)⟩:yO))),mks:=[.int .i64,.int .i64,.int .i64] }),(32,Ht),(36,Ht),(39,Ht),(41,Hg),(42,Hg),(43,Hg),(44,Hf),(46,Hg),(47,Hg),(48,Hg),(49,Hf)] [0] [] 13 [.bool false] [] zH (ac zL (ac zL (ac zL (ac (yH _:((Mp zA r_3.1.Parts)).length=(r_3.1.Parts).length) (ac zL (ac zL (ac zJ (ac zJ (ac zJ (ac (wI qU:vA (Mp zA r_3.1.Parts) (0:Int)=some (zA x_1)) (ac zJ (ac zJ (ac zJ (ac (yH _:((Mp zE x_1.Events)).length=(x_1.Events).length) (ac zJ (ac zJ (ac zV (ac zV (ac zV (ac zZ (ac zZ (ac zZ (ac zZ (ac yV (ac yV (ac (zAw t7:(0:Int)≤(0:Int)) (ac (by first | (simp;done) | simpa using zAD t7:(0:Int)<(((r_8).length:Nat):Int)) (ac yV (ac (zBK t7:(Mp yR r_8)[0]?=some (yR x_2)) (ac yV (ac yV (ac (zCH:j9 prog 50 [.int .i64,.int .i64,.int .i64]) (ac (zAe (f:=yR) kJ x_2 (⟨(1:Int),(0:Int),(3:Int)⟩:yO):((decide (x_2=(⟨(1:Int),(0:Int),(3:Int)⟩:yO)))=true↔AV.agg [Ii x_2.Thread,Ii x_2.Serial,Ii x_2.Count]=AV.agg [Ii 1,Ii 0,Ii 3])) (ac yV (ac wC (ac wC (ac wC (ac x9 (ac x9 (ac x8 (ac x8 (ac x8 (ac x8 (ac (rfl:false=!true) (ac (rfl:false=!true) (ac (rfl:false=!true) (ar false an))))))))))))))))))))))))))))))))))))))))))))))) ?_
          cases h
          exact ⟨rfl,(sw [] [] [.s 0] [] an)⟩
        ·replace h:=zU x9 h
         refine rg [(5,{ n:=(r_3.1.Parts).length }),(7,Ht),(11,{ av:=zA x_1 }),(14,{ n:=(x_1.Events).length }),(16,Ht),(20,Ht),(25,Ht),(29,{ av:=yR x_2 }),(31,{ b:=(decide (x_2=(⟨(1:Int),(0:Int),(3:Int)⟩:yO))),mks:=[.int .i64,.int .i64,.int .i64] }),(32,Ht),(36,Ht),(38,Hg),(39,Hf),(41,Hg),(42,Hg),(43,Hg),(44,Hf),(46,Hg),(47,Hg),(48,Hg),(49,Hf)] [0] [] 13 [.bool false] [] zH (ac zL (ac zL (ac zL (ac (yH _:((Mp zA r_3.1.Parts)).length=(r_3.1.Parts).length) (ac zL (ac zL (ac zJ (ac zJ (ac zJ (ac (wI qU:vA (Mp zA r_3.1.Parts) (0:Int)=some (zA x_1)) (ac zJ (ac zJ (ac zJ (ac (yH _:((Mp zE x_1.Events)).length=(x_1.Events).length) (ac zJ (ac zJ (ac zV (ac zV (ac zV (ac zZ (ac zZ (ac zZ (ac zZ (ac yV (ac yV (ac (zAw t7:(0:Int)≤(0:Int)) (ac (by first | (simp;done) | simpa using zAD t7:(0:Int)<(((r_8).length:Nat):Int)) (ac yV (ac (zBK t7:(Mp yR r_8)[0]?=some (yR x_2)) (ac yV (ac yV (ac (zCH:j9 prog 50 [.int .i64,.int .i64,.int .i64]) (ac (zAe (f:=yR) kJ x_2 (⟨(1:Int),(0:Int),(3:Int)⟩:yO):((decide (x_2=(⟨(1:Int),(0:Int),(3:Int)⟩:yO)))=true↔AV.agg [Ii x_2.Thread,Ii x_2.Serial,Ii x_2.Count]=AV.agg [Ii 1,Ii 0,Ii 3])) (ac yV (ac wC (ac wC (ac wC (ac x9 (ac x9 (ac (rfl:false=!true) (ac (rfl:false=!true) (ac (rfl:false=!true) (ar false (ac (rfl:false=!true) (ac (rfl:false=!true) (ac (rfl:false=!true) (ar false an))))))))))))))))))))))))))))))))))))))))))))))) ?_
         cases h
         exact ⟨rfl,(sw [] [] [.s 0] [] an)⟩
       ·replace h:=zU wC h
        refine rg [(5,{ n:=(r_3.1.Parts).length }),(7,Ht),(11,{ av:=zA x_1 }),(14,{ n:=(x_1.Events).length }),(16,Ht),(20,Ht),(25,Ht),(29,{ av:=yR x_2 }),(31,{ b:=(decide (x_2=(⟨(1:Int),(0:Int),(3:Int)⟩:yO))),mks:=[.int .i64,.int .i64,.int .i64] }),(32,Ht),(34,Hg),(35,Hg),(36,Hf),(38,Hg),(39,Hf),(41,Hg),(42,Hg),(43,Hg),(44,Hf),(46,Hg),(47,Hg),(48,Hg),(49,Hf)] [0] [] 13 [.bool false] [] zH (ac zL (ac zL (ac zL (ac (yH _:((Mp zA r_3.1.Parts)).length=(r_3.1.Parts).length) (ac zL (ac zL (ac zJ (ac zJ (ac zJ (ac (wI qU:vA (Mp zA r_3.1.Parts) (0:Int)=some (zA x_1)) (ac zJ (ac zJ (ac zJ (ac (yH _:((Mp zE x_1.Events)).length=(x_1.Events).length) (ac zJ (ac zJ (ac zV (ac zV (ac zV (ac zZ (ac zZ (ac zZ (ac zZ (ac yV (ac yV (ac (zAw t7:(0:Int)≤(0:Int)) (ac (by first | (simp;done) | simpa using zAD t7:(0:Int)<(((r_8).length:Nat):Int)) (ac yV (ac (zBK t7:(Mp yR r_8)[0]?=some (yR x_2)) (ac yV (ac yV (ac (zCH:j9 prog 50 [.int .i64,.int .i64,.int .i64]) (ac (zAe (f:=yR) kJ x_2 (⟨(1:Int),(0:Int),(3:Int)⟩:yO):((decide (x_2=(⟨(1:Int),(0:Int),(3:Int)⟩:yO)))=true↔AV.agg [Ii x_2.Thread,Ii x_2.Serial,Ii x_2.Count]=AV.agg [Ii 1,Ii 0,Ii 3])) (ac yV (ac wC (ac wC (ac wC (ac (rfl:false=!true) (ar false (ac (rfl:false=!true) (ac (rfl:false=!true) (ac (rfl:false=!true) (ar false (ac (rfl:false=!true) (ac (rfl:false=!true) (ac (rfl:false=!true) (ar false an))))))))))))))))))))))))))))))))))))))))))))))) ?_
        cases h
        exact ⟨rfl,(sw [] [] [.s 0] [] an)⟩
      ·replace h:=zU yV h
       refine rg [(5,{ n:=(r_3.1.Parts).length }),(7,Ht),(11,{ av:=zA x_1 }),(14,{ n:=(x_1.Events).length }),(16,Ht),(20,Ht),(25,Ht),(27,Hg),(28,Hg),(29,Hg),(30,Hg),(31,Hg),(32,Hf),(34,Hg),(35,Hg),(36,Hf),(38,Hg),(39,Hf),(41,Hg),(42,Hg),(43,Hg),(44,Hf),(46,Hg),(47,Hg),(48,Hg),(49,Hf)] [0] [] 13 [.bool false] [] zH (ac zL (ac zL (ac zL (ac (yH _:((Mp zA r_3.1.Parts)).length=(r_3.1.Parts).length) (ac zL (ac zL (ac zJ (ac zJ (ac zJ (ac (wI qU:vA (Mp zA r_3.1.Parts) (0:Int)=some (zA x_1)) (ac zJ (ac zJ (ac zJ (ac (yH _:((Mp zE x_1.Events)).length=(x_1.Events).length) (ac zJ (ac zJ (ac zV (ac zV (ac zV (ac zZ (ac zZ (ac zZ (ac zZ (ac yV (ac yV (ac yV (ac yV (ac yV (ac yV (ac (rfl:false=!true) (ac (rfl:false=!true) (ar false (ac (rfl:false=!true) (ar false (ac (rfl:false=!true) (ac (rfl:false=!true) (ac (rfl:false=!true) (ar false (ac (rfl:false=!true) (ac (rfl:false=!true) (ac (rfl:false=!true) (ar false an)))))))))))))))))))))))))))))))))))))))))) ?_
       cases h
       exact ⟨rfl,(sw [] [] [.s 0] [] an)⟩
     ·replace h:=zU zZ h
      refine rg [(5,{ n:=(r_3.1.Parts).length }),(7,Ht),(11,{ av:=zA x_1 }),(14,{ n:=(x_1.Events).length }),(16,Ht),(20,Ht),(22,Hg),(23,Hg),(24,Hg),(25,Hf),(27,Hg),(28,Hg),(29,Hg),(30,Hg),(31,Hg),(32,Hf),(34,Hg),(35,Hg),(36,Hf),(38,Hg),(39,Hf),(41,Hg),(42,Hg),(43,Hg),(44,Hf),(46,Hg),(47,Hg),(48,Hg),(49,Hf)] [0] [] 13 [.bool false] [] zH (ac zL (ac zL (ac zL (ac (yH _:((Mp zA r_3.1.Parts)).length=(r_3.1.Parts).length) (ac zL (ac zL (ac zJ (ac zJ (ac zJ (ac (wI qU:vA (Mp zA r_3.1.Parts) (0:Int)=some (zA x_1)) (ac zJ (ac zJ (ac zJ (ac (yH _:((Mp zE x_1.Events)).length=(x_1.Events).length) (ac zJ (ac zJ (ac zV (ac zV (ac zV (ac zZ (ac zZ (ac zZ (ac zZ (ac (rfl:false=!true) (ac (rfl:false=!true) (ac (rfl:false=!true) (ac (rfl:false=!true) (ac (rfl:false=!true) (ar false (ac (rfl:false=!true) (ac (rfl:false=!true) (ar false (ac (rfl:false=!true) (ar false (ac (rfl:false=!true) (ac (rfl:false=!true) (ac (rfl:false=!true) (ar false (ac (rfl:false=!true) (ac (rfl:false=!true) (ac (rfl:false=!true) (ar false an)))))))))))))))))))))))))))))))))))))))))) ?_
      cases h
      exact ⟨rfl,(sw [] [] [.s 0] [] an)⟩
    ·replace h:=zU zV h
     refine rg [(5,{ n:=(r_3.1.Parts).length }),(7,Ht),(11,{ av:=zA x_1 }),(14,{ n:=(x_1.Events).length }),(16,Ht),(18,Hg),(19,Hg),(20,Hf),(22,Hg),(23,Hg),(24,Hg),(25,Hf),(27,Hg),(28,Hg),(29,Hg),(30,Hg),(31,Hg),(32,Hf),(34,Hg),(35,Hg),(36,Hf),(38,Hg),(39,Hf),(41,Hg),(42,Hg),(43,Hg),(44,Hf),(46,Hg),(47,Hg),(48,Hg),(49,Hf)] [0] [] 13 [.bool false] [] zH (ac zL (ac zL (ac zL (ac (yH _:((Mp zA r_3.1.Parts)).length=(r_3.1.Parts).length) (ac zL (ac zL (ac zJ (ac zJ (ac zJ (ac (wI qU:vA (Mp zA r_3.1.Parts) (0:Int)=some (zA x_1)) (ac zJ (ac zJ (ac zJ (ac (yH _:((Mp zE x_1.Events)).length=(x_1.Events).length) (ac zJ (ac zJ (ac zV (ac zV (ac zV (ac (rfl:false=!true) (ac (rfl:false=!true) (ac (rfl:false=!true) (ar false (ac (rfl:false=!true) (ac (rfl:false=!true) (ac (rfl:false=!true) (ac (rfl:false=!true) (ac (rfl:false=!true) (ar false (ac (rfl:false=!true) (ac (rfl:false=!true) (ar false (ac (rfl:false=!true) (ar false (ac (rfl:false=!true) (ac (rfl:false=!true) (ac (rfl:false=!true) (ar false (ac (rfl:false=!true) (ac (rfl:false=!true) (ac (rfl:false=!true) (ar false an)))))))))))))))))))))))))))))))))))))))))) ?_
     cases h
     exact ⟨rfl,(sw [] [] [.s 0] [] an)⟩
   ·replace h:=zU zJ h
    refine rg [(5,{ n:=(r_3.1.Parts).length }),(7,Ht),(9,Hg),(10,Hg),(11,Hg),(12,Hg),(13,Hg),(14,Hg),(15,Hg),(16,Hf),(18,Hg),(19,Hg),(20,Hf),(22,Hg),(23,Hg),(24,Hg),(25,Hf),(27,Hg),(28,Hg),(29,Hg),(30,Hg),(31,Hg),(32,Hf),(34,Hg),(35,Hg),(36,Hf),(38,Hg),(39,Hf),(41,Hg),(42,Hg),(43,Hg),(44,Hf),(46,Hg),(47,Hg),(48,Hg),(49,Hf)] [0] [] 13 [.bool false] [] zH (ac zL (ac zL (ac zL (ac (yH _:((Mp zA r_3.1.Parts)).length=(r_3.1.Parts).length) (ac zL (ac zL (ac zJ (ac zJ (ac zJ (ac zJ (ac zJ (ac zJ (ac zJ (ac zJ (ac (rfl:false=!true) (ac (rfl:false=!true) (ar false (ac (rfl:false=!true) (ac (rfl:false=!true) (ac (rfl:false=!true) (ar false (ac (rfl:false=!true) (ac (rfl:false=!true) (ac (rfl:false=!true) (ac (rfl:false=!true) (ac (rfl:false=!true) (ar false (ac (rfl:false=!true) (ac (rfl:false=!true) (ar false (ac (rfl:false=!true) (ar false (ac (rfl:false=!true) (ac (rfl:false=!true) (ac (rfl:false=!true) (ar false (ac (rfl:false=!true) (ac (rfl:false=!true) (ac (rfl:false=!true) (ar false an)))))))))))))))))))))))))))))))))))))))) ?_
    cases h
    exact ⟨rfl,(sw [] [] [.s 0] [] an)⟩
  ·replace h:=zU zL h
   refine rg [(3,Hg),(4,Hg),(5,Hg),(6,Hg),(7,Hf),(9,Hg),(10,Hg),(11,Hg),(12,Hg),(13,Hg),(14,Hg),(15,Hg),(16,Hf),(18,Hg),(19,Hg),(20,Hf),(22,Hg),(23,Hg),(24,Hg),(25,Hf),(27,Hg),(28,Hg),(29,Hg),(30,Hg),(31,Hg),(32,Hf),(34,Hg),(35,Hg),(36,Hf),(38,Hg),(39,Hf),(41,Hg),(42,Hg),(43,Hg),(44,Hf),(46,Hg),(47,Hg),(48,Hg),(49,Hf)] [0] [] 13 [.bool false] [] zH (ac zL (ac zL (ac zL (ac zL (ac zL (ac (rfl:false=!true) (ac (rfl:false=!true) (ac (rfl:false=!true) (ac (rfl:false=!true) (ac (rfl:false=!true) (ac (rfl:false=!true) (ac (rfl:false=!true) (ar false (ac (rfl:false=!true) (ac (rfl:false=!true) (ar false (ac (rfl:false=!true) (ac (rfl:false=!true) (ac (rfl:false=!true) (ar false (ac (rfl:false=!true) (ac (rfl:false=!true) (ac (rfl:false=!true) (ac (rfl:false=!true) (ac (rfl:false=!true) (ar false (ac (rfl:false=!true) (ac (rfl:false=!true) (ar false (ac (rfl:false=!true) (ar false (ac (rfl:false=!true) (ac (rfl:false=!true) (ac (rfl:false=!true) (ar false (ac (rfl:false=!true) (ac (rfl:false=!true) (ac (rfl:false=!true) (ar false an))))))))))))))))))))))))))))))))))))))) ?_
   cases h
   exact ⟨rfl,(sw [] [] [.s 0] [] an)⟩
 refine rt ?_
 cases h
 exact ⟨.inr rfl,Nat.le_of_ble_eq_true rfl,by kernel_rfl⟩

end Go.Ab
