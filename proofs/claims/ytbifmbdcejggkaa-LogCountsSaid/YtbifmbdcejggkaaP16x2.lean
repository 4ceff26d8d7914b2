/- Printed: the typed Lean functions of the Go functions, or the proofs that the Go functions meet them. No conditions but those that the theorems name. -/
import Derived.Test.YtbifmbdcejggkaaP16x1
namespace Go.Ab
open Go
set_option linter.unusedVariables false
theorem x6 (F:Nat) (s1_1:List (zP)) (s2_1:List (zP)) (r:Bool) (h:xP F s1_1 s2_1=some r):zV prog 37 [] [] [.sl false 3 (Mp zF s1_1),.sl false 3 (Mp zF s2_1)] [] (.bool r):=by
 refine yM (fn:=Go.Proofs.Try.f37) (code:=x4 Go.Proofs.Try.f37) (by kernel_rfl) (by kernel_rfl) (Nat.le_of_ble_eq_true (by kernel_rfl)) ?_
 unfold xP at h
 refine sr [] [0,1] [] 0 [.sl false 3 (Mp zF s1_1),.sl false 3 (Mp zF s2_1)] [] zG an ?_
 refine sq ?_
 refine sr [(1,{ n:=(s1_1).length }),(3,{ n:=(s2_1).length })] [0,1,10] [] 0 [.sl false 3 (Mp zF s1_1),.sl false 3 (Mp zF s2_1),.bool ((lN (s1_1)) != (lN (s2_1)))] [] zG (ac (yL _:((Mp zF s1_1)).length=(s1_1).length) (ac (yL _:((Mp zF s2_1)).length=(s2_1).length) an)) ?_
 refine cd 10 ((lN (s1_1)) != (lN (s2_1))) ?_ ?_
 ·intro g_1;replace h:=zS g_1 h
  refine sr [] [4] [] 0 [.bool false] [] zG an ?_
  refine rt ?_
  cases h
  exact ⟨.inr rfl,Nat.le_of_ble_eq_true rfl,by kernel_rfl⟩
 intro g_1;replace h:=zT g_1 h
 refine sk ?_
 refine sq ?_
 refine sr [(1,{ n:=(s1_1).length })] [0,1,12,13] [] 0 [.sl false 3 (Mp zF s1_1),.sl false 3 (Mp zF s2_1),Ii (lN (s1_1)),Ii 0] [] zG (ac (yL _:((Mp zF s1_1)).length=(s1_1).length) an) ?_
 obtain ⟨o_1,h_1,h⟩:=bind_some h
 refine vV (K1:=(fun e st'=>match o_1 with | (.inl q0)=>e=.normal∧Sub 0 st' (mk [] [] 0) | (.inr q1)=>e=.ret∧q9 prog Go.Proofs.Try.f37 0 [] (.bool q1) st')) ?_ ?_
 ·replace h:=h_1
  refine yN (id:=0) (by kernel_rfl) ?_
  refine wk [] [] [.s 0,.s 1,.s 12,.s 13] [] [(0,.sl false 3 (Mp zF s1_1)),(1,.sl false 3 (Mp zF s2_1)),(12,Ii (lN (s1_1))),(13,Ii 0)] [] an ?_
  refine wE (fun n st=>∃ (v_1:Int),st=mk [(0,.sl false 3 (Mp zF s1_1)),(1,.sl false 3 (Mp zF s2_1)),(12,Ii (lN (s1_1))),(13,Ii v_1)] [] 0∧xJ F s1_1 s2_1 n v_1=some o_1) F (by kernel_rfl) ⟨_,rfl,h⟩ ?_ ?_
  ·rintro _ ⟨_,_,h⟩;exact wO (h:(none:Option (Unit⊕Bool))=some o_1)
  rintro n_1 _ ⟨v_1,rfl,h⟩
  replace h:yW F s1_1 s2_1 (xJ F s1_1 s2_1 n_1) v_1=some o_1:=h
  unfold yW at h
  refine sr [] [0,1,12,13,14] [] 0 [.sl false 3 (Mp zF s1_1),.sl false 3 (Mp zF s2_1),Ii (lN (s1_1)),Ii v_1,.bool (decide (v_1<(lN (s1_1))))] [] zG an ?_
  refine sq ?_
  refine cd 14 (decide (v_1<(lN (s1_1)))) ?_ ?_
  rotate_left
  ·intro g_2;replace h:=zT g_2 h
   refine wJ (id:=0) (by kernel_rfl) ?_
   cases h
   exact ⟨rfl,(sw [] [] [] [] an)⟩
  intro g_2;replace h:=zS g_2 h
  refine sk ?_
  refine sq ?_
  refine yN (id:=1) (by kernel_rfl) ?_
  refine sr [] [0,1,5,12,13] [] 0 [.sl false 3 (Mp zF s1_1),.sl false 3 (Mp zF s2_1),Ii v_1,Ii (lN (s1_1)),Ii v_1] [] zG an ?_
  refine sq ?_
  obtain ⟨x_1,h_2,h⟩:=bind_some h
  obtain ⟨x_2,h_3,h⟩:=bind_some h
  refine rg [(2,{ av:=zF x_1 }),(6,{ av:=zF x_2 }),(8,{ b:=(decide (x_1=x_2)),mks:=[.int .i64,.str,.int .i64] })] [0,1,12,13,24] [] 0 [.sl false 3 (Mp zF s1_1),.sl false 3 (Mp zF s2_1),Ii (lN (s1_1)),Ii v_1,.bool (!(decide (x_1=x_2)))] [] zG (ac (xZ h_2:wV (Mp zF s1_1) v_1=some (zF x_1)) (ac (xZ h_3:wV (Mp zF s2_1) v_1=some (zF x_2)) (ac (zNI:kP prog 66 [.int .i64,.str,.int .i64]) (ac (zAH (f:=zF) zE7 x_1 x_2:((decide (x_1=x_2))=true↔AV.agg [Ii x_1.Id,.str x_1.Name,Ii x_1.Domain]=AV.agg [Ii x_2.Id,.str x_2.Name,Ii x_2.Domain])) an)))) ?_
  refine cd 24 (!(decide (x_1=x_2))) ?_ ?_
  rotate_left
  ·intro g_3;replace h:=zT g_3 h
   refine sk ?_
   refine rg [] [0,1,12,13] [] 0 [.sl false 3 (Mp zF s1_1),.sl false 3 (Mp zF s2_1),Ii (lN (s1_1)),Ii (zJ (v_1+(1:Int)))] [] zG an ?_
   exact ⟨_,(sw [] [] [.s 0,.s 1,.s 12,.s 13] [] an),_,rfl,h⟩
  intro g_3;replace h:=zS g_3 h
  refine sr [] [4] [] 0 [.bool false] [] zG an ?_
  refine rt ?_
  cases h
  exact ⟨rfl,Nat.le_of_ble_eq_true rfl,by kernel_rfl⟩
 intro e st1 hk
 rcases o_1 with q_1 | q_2
 rotate_left
 ·obtain ⟨rfl,hf⟩:=hk
  cases h
  exact ⟨st1,Sub.refl _ _,.inr rfl,hf⟩
 obtain ⟨rfl,hs⟩:=hk
 refine ⟨_,hs,?_⟩
 refine sr [] [4] [] 0 [.bool true] [] zG an ?_
 refine rt ?_
 cases h
 exact ⟨.inr rfl,Nat.le_of_ble_eq_true rfl,by kernel_rfl⟩

theorem wT (F:Nat) (s1_1:List (zL)) (s2_1:List (zL)) (r:Bool) (h:xN F s1_1 s2_1=some r):zV prog 38 [] [] [.sl false 2 (Mp zD s1_1),.sl false 2 (Mp zD s2_1)] [] (.bool r):=by
 refine yM (fn:=Go.Proofs.Try.f38) (code:=x4 Go.Proofs.Try.f38) (by kernel_rfl) (by kernel_rfl) (Nat.le_of_ble_eq_true (by kernel_rfl)) ?_
 unfold xN at h
 refine sr [] [0,1] [] 0 [.sl false 2 (Mp zD s1_1),.sl false 2 (Mp zD s2_1)] [] zG an ?_
 refine sq ?_
 refine sr [(1,{ n:=(s1_1).length }),(3,{ n:=(s2_1).length })] [0,1,10] [] 0 [.sl false 2 (Mp zD s1_1),.sl false 2 (Mp zD s2_1),.bool ((lN (s1_1)) != (lN (s2_1)))] [] zG (ac (yL _:((Mp zD s1_1)).length=(s1_1).length) (ac (yL _:((Mp zD s2_1)).length=(s2_1).length) an)) ?_
 refine cd 10 ((lN (s1_1)) != (lN (s2_1))) ?_ ?_
 ·intro g_1;replace h:=zS g_1 h
  refine sr [] [4] [] 0 [.bool false] [] zG an ?_
  refine rt ?_
  cases h
  exact ⟨.inr rfl,Nat.le_of_ble_eq_true rfl,by kernel_rfl⟩
 intro g_1;replace h:=zT g_1 h
 refine sk ?_
 refine sq ?_
 refine sr [(1,{ n:=(s1_1).length })] [0,1,12,13] [] 0 [.sl false 2 (Mp zD s1_1),.sl false 2 (Mp zD s2_1),Ii (lN (s1_1)),Ii 0] [] zG (ac (yL _:((Mp zD s1_1)).length=(s1_1).length) an) ?_
 obtain ⟨o_1,h_1,h⟩:=bind_some h
 refine vV (K1:=(fun e st'=>match o_1 with | (.inl q0)=>e=.normal∧Sub 0 st' (mk [] [] 0) | (.inr q1)=>e=.ret∧q9 prog Go.Proofs.Try.f38 0 [] (.bool q1) st')) ?_ ?_
 ·replace h:=h_1
  refine yN (id:=0) (by kernel_rfl) ?_
  refine wk [] [] [.s 0,.s 1,.s 12,.s 13] [] [(0,.sl false 2 (Mp zD s1_1)),(1,.sl false 2 (Mp zD s2_1)),(12,Ii (lN (s1_1))),(13,Ii 0)] [] an ?_
  refine wE (fun n st=>∃ (v_1:Int),st=mk [(0,.sl false 2 (Mp zD s1_1)),(1,.sl false 2 (Mp zD s2_1)),(12,Ii (lN (s1_1))),(13,Ii v_1)] [] 0∧xK F s1_1 s2_1 n v_1=some o_1) F (by kernel_rfl) ⟨_,rfl,h⟩ ?_ ?_
  ·rintro _ ⟨_,_,h⟩;exact wO (h:(none:Option (Unit⊕Bool))=some o_1)
  rintro n_1 _ ⟨v_1,rfl,h⟩
  replace h:yV F s1_1 s2_1 (xK F s1_1 s2_1 n_1) v_1=some o_1:=h
  unfold yV at h
  refine sr [] [0,1,12,13,14] [] 0 [.sl false 2 (Mp zD s1_1),.sl false 2 (Mp zD s2_1),Ii (lN (s1_1)),Ii v_1,.bool (decide (v_1<(lN (s1_1))))] [] zG an ?_
  refine sq ?_
  refine cd 14 (decide (v_1<(lN (s1_1)))) ?_ ?_
  rotate_left
  ·intro g_2;replace h:=zT g_2 h
   refine wJ (id:=0) (by kernel_rfl) ?_
   cases h
   exact ⟨rfl,(sw [] [] [] [] an)⟩
  intro g_2;replace h:=zS g_2 h
  refine sk ?_
  refine sq ?_
  refine yN (id:=1) (by kernel_rfl) ?_
  refine sr [] [0,1,5,12,13] [] 0 [.sl false 2 (Mp zD s1_1),.sl false 2 (Mp zD s2_1),Ii v_1,Ii (lN (s1_1)),Ii v_1] [] zG an ?_
  refine sq ?_
  obtain ⟨x_1,h_2,h⟩:=bind_some h
  obtain ⟨x_2,h_3,h⟩:=bind_some h
  refine rg [(2,{ av:=zD x_1 }),(6,{ av:=zD x_2 }),(8,{ b:=(decide (x_1=x_2)),mks:=[.int .i64,.int .i64] })] [0,1,12,13,24] [] 0 [.sl false 2 (Mp zD s1_1),.sl false 2 (Mp zD s2_1),Ii (lN (s1_1)),Ii v_1,.bool (!(decide (x_1=x_2)))] [] zG (ac (xZ h_2:wV (Mp zD s1_1) v_1=some (zD x_1)) (ac (xZ h_3:wV (Mp zD s2_1) v_1=some (zD x_2)) (ac (zJF:kP prog 68 [.int .i64,.int .i64]) (ac (zAH (f:=zD) zBX x_1 x_2:((decide (x_1=x_2))=true↔AV.agg [Ii x_1.Id,Ii x_1.Ppm]=AV.agg [Ii x_2.Id,Ii x_2.Ppm])) an)))) ?_
  refine cd 24 (!(decide (x_1=x_2))) ?_ ?_
  rotate_left
  ·intro g_3;replace h:=zT g_3 h
   refine sk ?_
   refine rg [] [0,1,12,13] [] 0 [.sl false 2 (Mp zD s1_1),.sl false 2 (Mp zD s2_1),Ii (lN (s1_1)),Ii (zJ (v_1+(1:Int)))] [] zG an ?_
   exact ⟨_,(sw [] [] [.s 0,.s 1,.s 12,.s 13] [] an),_,rfl,h⟩
  intro g_3;replace h:=zS g_3 h
  refine sr [] [4] [] 0 [.bool false] [] zG an ?_
  refine rt ?_
  cases h
  exact ⟨rfl,Nat.le_of_ble_eq_true rfl,by kernel_rfl⟩
 intro e st1 hk
 rcases o_1 with q_1 | q_2
 rotate_left
 ·obtain ⟨rfl,hf⟩:=hk
  cases h
  exact ⟨st1,Sub.refl _ _,.inr rfl,hf⟩
 obtain ⟨rfl,hs⟩:=hk
 refine ⟨_,hs,?_⟩
 refine sr [] [4] [] 0 [.bool true] [] zG an ?_
 refine rt ?_
 cases h
 exact ⟨.inr rfl,Nat.le_of_ble_eq_true rfl,by kernel_rfl⟩

theorem v7 (F:Nat) (s1_1:List (x9)) (s2_1:List (x9)) (r:Bool) (h:xY F s1_1 s2_1=some r):zV prog 39 [] [] [.sl false 5 (Mp zO s1_1),.sl false 5 (Mp zO s2_1)] [] (.bool r):=by
 refine yM (fn:=Go.Proofs.Try.f39) (code:=x4 Go.Proofs.Try.f39) (by kernel_rfl) (by kernel_rfl) (Nat.le_of_ble_eq_true (by kernel_rfl)) ?_
 unfold xY at h
 refine sr [] [0,1] [] 0 [.sl false 5 (Mp zO s1_1),.sl false 5 (Mp zO s2_1)] [] zG an ?_
 refine sq ?_
 refine sr [(1,{ n:=(s1_1).length }),(3,{ n:=(s2_1).length })] [0,1,10] [] 0 [.sl false 5 (Mp zO s1_1),.sl false 5 (Mp zO s2_1),.bool ((lN (s1_1)) != (lN (s2_1)))] [] zG (ac (yL _:((Mp zO s1_1)).length=(s1_1).length) (ac (yL _:((Mp zO s2_1)).length=(s2_1).length) an)) ?_
 refine cd 10 ((lN (s1_1)) != (lN (s2_1))) ?_ ?_
 ·intro g_1;replace h:=zS g_1 h
  refine sr [] [4] [] 0 [.bool false] [] zG an ?_
  refine rt ?_
  cases h
  exact ⟨.inr rfl,Nat.le_of_ble_eq_true rfl,by kernel_rfl⟩
 intro g_1;replace h:=zT g_1 h
 refine sk ?_
 refine sq ?_
 refine sr [(1,{ n:=(s1_1).length })] [0,1,12,13] [] 0 [.sl false 5 (Mp zO s1_1),.sl false 5 (Mp zO s2_1),Ii (lN (s1_1)),Ii 0] [] zG (ac (yL _:((Mp zO s1_1)).length=(s1_1).length) an) ?_
 obtain ⟨o_1,h_1,h⟩:=bind_some h
 refine vV (K1:=(fun e st'=>match o_1 with | (.inl q0)=>e=.normal∧Sub 0 st' (mk [] [] 0) | (.inr q1)=>e=.ret∧q9 prog Go.Proofs.Try.f39 0 [] (.bool q1) st')) ?_ ?_
 ·replace h:=h_1
  refine yN (id:=0) (by kernel_rfl) ?_
  refine wk [] [] [.s 0,.s 1,.s 12,.s 13] [] [(0,.sl false 5 (Mp zO s1_1)),(1,.sl false 5 (Mp zO s2_1)),(12,Ii (lN (s1_1))),(13,Ii 0)] [] an ?_
  refine wE (fun n st=>∃ (v_1:Int),st=mk [(0,.sl false 5 (Mp zO s1_1)),(1,.sl false 5 (Mp zO s2_1)),(12,Ii (lN (s1_1))),(13,Ii v_1)] [] 0∧xQ F s1_1 s2_1 n v_1=some o_1) F (by kernel_rfl) ⟨_,rfl,h⟩ ?_ ?_
  ·rintro _ ⟨_,_,h⟩;exact wO (h:(none:Option (Unit⊕Bool))=some o_1)
  rintro n_1 _ ⟨v_1,rfl,h⟩
  replace h:y4 F s1_1 s2_1 (xQ F s1_1 s2_1 n_1) v_1=some o_1:=h
  unfold y4 at h
  refine sr [] [0,1,12,13,14] [] 0 [.sl false 5 (Mp zO s1_1),.sl false 5 (Mp zO s2_1),Ii (lN (s1_1)),Ii v_1,.bool (decide (v_1<(lN (s1_1))))] [] zG an ?_
  refine sq ?_
  refine cd 14 (decide (v_1<(lN (s1_1)))) ?_ ?_
  rotate_left
  ·intro g_2;replace h:=zT g_2 h
   refine wJ (id:=0) (by kernel_rfl) ?_
   cases h
   exact ⟨rfl,(sw [] [] [] [] an)⟩
  intro g_2;replace h:=zS g_2 h
  refine sk ?_
  refine sq ?_
  refine yN (id:=1) (by kernel_rfl) ?_
  refine sr [] [0,1,5,12,13] [] 0 [.sl false 5 (Mp zO s1_1),.sl false 5 (Mp zO s2_1),Ii v_1,Ii (lN (s1_1)),Ii v_1] [] zG an ?_
  refine sq ?_
  obtain ⟨x_1,h_2,h⟩:=bind_some h
  obtain ⟨x_2,h_3,h⟩:=bind_some h
  refine rg [(2,{ av:=zO x_1 }),(6,{ av:=zO x_2 }),(8,{ b:=(decide (x_1=x_2)),mks:=[.int .i64,.int .i64,.int .i64,.int .i64,.int .i64] })] [0,1,12,13,24] [] 0 [.sl false 5 (Mp zO s1_1),.sl false 5 (Mp zO s2_1),Ii (lN (s1_1)),Ii v_1,.bool (!(decide (x_1=x_2)))] [] zG (ac (xZ h_2:wV (Mp zO s1_1) v_1=some (zO x_1)) (ac (xZ h_3:wV (Mp zO s2_1) v_1=some (zO x_2)) (ac (zND:kP prog 86 [.int .i64,.int .i64,.int .i64,.int .i64,.int .i64]) (ac (zAH (f:=zO) zGt x_1 x_2:((decide (x_1=x_2))=true↔AV.agg [Ii x_1.A,Ii x_1.AtA,Ii x_1.B,Ii x_1.AtB.Lo,Ii x_1.AtB.Hi]=AV.agg [Ii x_2.A,Ii x_2.AtA,Ii x_2.B,Ii x_2.AtB.Lo,Ii x_2.AtB.Hi])) an)))) ?_
  refine cd 24 (!(decide (x_1=x_2))) ?_ ?_
  rotate_left
  ·intro g_3;replace h:=zT g_3 h
   refine sk ?_
   refine rg [] [0,1,12,13] [] 0 [.sl false 5 (Mp zO s1_1),.sl false 5 (Mp zO s2_1),Ii (lN (s1_1)),Ii (zJ (v_1+(1:Int)))] [] zG an ?_
   exact ⟨_,(sw [] [] [.s 0,.s 1,.s 12,.s 13] [] an),_,rfl,h⟩
  intro g_3;replace h:=zS g_3 h
  refine sr [] [4] [] 0 [.bool false] [] zG an ?_
  refine rt ?_
  cases h
  exact ⟨rfl,Nat.le_of_ble_eq_true rfl,by kernel_rfl⟩
 intro e st1 hk
 rcases o_1 with q_1 | q_2
 rotate_left
 ·obtain ⟨rfl,hf⟩:=hk
  cases h
  exact ⟨st1,Sub.refl _ _,.inr rfl,hf⟩
 obtain ⟨rfl,hs⟩:=hk
 refine ⟨_,hs,?_⟩
 refine sr [] [4] [] 0 [.bool true] [] zG an ?_
 refine rt ?_
 cases h
 exact ⟨.inr rfl,Nat.le_of_ble_eq_true rfl,by kernel_rfl⟩

theorem zAN (F:Nat) (s1_1:List (List Int)) (s2_1:List (List Int)) (r:Bool) (h:v8 F s1_1 s2_1=some r):zV prog 73 [] [] [.sl false 1 (Ms s1_1),.sl false 1 (Ms s2_1)] [] (.bool r):=by
 refine yM (fn:=Go.Proofs.Try.f73) (code:=x4 Go.Proofs.Try.f73) (by kernel_rfl) (by kernel_rfl) (Nat.le_of_ble_eq_true (by kernel_rfl)) ?_
 unfold v8 at h
 refine sr [] [0,1] [] 0 [.sl false 1 (Ms s1_1),.sl false 1 (Ms s2_1)] [] zG an ?_
 refine sq ?_
 refine sr [(1,{ n:=(s1_1).length }),(3,{ n:=(s2_1).length })] [0,1,10] [] 0 [.sl false 1 (Ms s1_1),.sl false 1 (Ms s2_1),.bool ((lN (s1_1)) != (lN (s2_1)))] [] zG (ac (yL _:((Ms s1_1)).length=(s1_1).length) (ac (yL _:((Ms s2_1)).length=(s2_1).length) an)) ?_
 refine cd 10 ((lN (s1_1)) != (lN (s2_1))) ?_ ?_
 ·intro g_1;replace h:=zS g_1 h
  refine sr [] [4] [] 0 [.bool false] [] zG an ?_
  refine rt ?_
  cases h
  exact ⟨.inr rfl,Nat.le_of_ble_eq_true rfl,by kernel_rfl⟩
 intro g_1;replace h:=zT g_1 h
 refine sk ?_
 refine sq ?_
 refine sr [(1,{ n:=(s1_1).length })] [0,1,12,13] [] 0 [.sl false 1 (Ms s1_1),.sl false 1 (Ms s2_1),Ii (lN (s1_1)),Ii 0] [] zG (ac (yL _:((Ms s1_1)).length=(s1_1).length) an) ?_
 obtain ⟨o_1,h_1,h⟩:=bind_some h
 refine vV (K1:=(fun e st'=>match o_1 with | (.inl q0)=>e=.normal∧Sub 0 st' (mk [] [] 0) | (.inr q1)=>e=.ret∧q9 prog Go.Proofs.Try.f73 0 [] (.bool q1) st')) ?_ ?_
 ·replace h:=h_1
  refine yN (id:=0) (by kernel_rfl) ?_
  refine wk [] [] [.s 0,.s 1,.s 12,.s 13] [] [(0,.sl false 1 (Ms s1_1)),(1,.sl false 1 (Ms s2_1)),(12,Ii (lN (s1_1))),(13,Ii 0)] [] an ?_
  refine wE (fun n st=>∃ (v_1:Int),st=mk [(0,.sl false 1 (Ms s1_1)),(1,.sl false 1 (Ms s2_1)),(12,Ii (lN (s1_1))),(13,Ii v_1)] [] 0∧vQ F s1_1 s2_1 n v_1=some o_1) F (by kernel_rfl) ⟨_,rfl,h⟩ ?_ ?_
  ·rintro _ ⟨_,_,h⟩;exact wO (h:(none:Option (Unit⊕Bool))=some o_1)
  rintro n_1 _ ⟨v_1,rfl,h⟩
  replace h:wD F s1_1 s2_1 (vQ F s1_1 s2_1 n_1) v_1=some o_1:=h
  unfold wD at h
  refine sr [] [0,1,12,13,14] [] 0 [.sl false 1 (Ms s1_1),.sl false 1 (Ms s2_1),Ii (lN (s1_1)),Ii v_1,.bool (decide (v_1<(lN (s1_1))))] [] zG an ?_
  refine sq ?_
  refine cd 14 (decide (v_1<(lN (s1_1)))) ?_ ?_
  rotate_left
  ·intro g_2;replace h:=zT g_2 h
   refine wJ (id:=0) (by kernel_rfl) ?_
   cases h
   exact ⟨rfl,(sw [] [] [] [] an)⟩
  intro g_2;replace h:=zS g_2 h
  refine sk ?_
  refine sq ?_
  refine yN (id:=1) (by kernel_rfl) ?_
  refine sr [] [0,1,5,12,13] [] 0 [.sl false 1 (Ms s1_1),.sl false 1 (Ms s2_1),Ii v_1,Ii (lN (s1_1)),Ii v_1] [] zG an ?_
  refine sq ?_
  obtain ⟨x_1,h_2,h⟩:=bind_some h
  obtain ⟨x_2,h_3,h⟩:=bind_some h
  refine rg [(2,{ av:=.str x_1 }),(6,{ av:=.str x_2 })] [0,1,12,13,24] [] 0 [.sl false 1 (Ms s1_1),.sl false 1 (Ms s2_1),Ii (lN (s1_1)),Ii v_1,.bool (!(x_1==x_2))] [] zG (ac (xZ h_2:wV (Ms s1_1) v_1=some (.str x_1)) (ac (xZ h_3:wV (Ms s2_1) v_1=some (.str x_2)) an)) ?_
  refine cd 24 (!(x_1==x_2)) ?_ ?_
  rotate_left
  ·intro g_3;replace h:=zT g_3 h
   refine sk ?_
   refine rg [] [0,1,12,13] [] 0 [.sl false 1 (Ms s1_1),.sl false 1 (Ms s2_1),Ii (lN (s1_1)),Ii (zJ (v_1+(1:Int)))] [] zG an ?_
   exact ⟨_,(sw [] [] [.s 0,.s 1,.s 12,.s 13] [] an),_,rfl,h⟩
  intro g_3;replace h:=zS g_3 h
  refine sr [] [4] [] 0 [.bool false] [] zG an ?_
  refine rt ?_
  cases h
  exact ⟨rfl,Nat.le_of_ble_eq_true rfl,by kernel_rfl⟩
 intro e st1 hk
 rcases o_1 with q_1 | q_2
 rotate_left
 ·obtain ⟨rfl,hf⟩:=hk
  cases h
  exact ⟨st1,Sub.refl _ _,.inr rfl,hf⟩
 obtain ⟨rfl,hs⟩:=hk
 refine ⟨_,hs,?_⟩
 refine sr [] [4] [] 0 [.bool true] [] zG an ?_
 refine rt ?_
 cases h
 exact ⟨.inr rfl,Nat.le_of_ble_eq_true rfl,by kernel_rfl⟩

theorem zHr (F:Nat) (a_1:zH) (b_1:zH) (r:Bool) (h:zAB F a_1 b_1=some r):zV prog 60 [] [] [zE a_1,zE b_1] [] (.bool r):=by
 refine yM (fn:=Go.Proofs.Try.f60) (code:=x4 Go.Proofs.Try.f60) (by kernel_rfl) (by kernel_rfl) (Nat.le_of_ble_eq_true (by kernel_rfl)) ?_
 unfold zAB at h
 refine sr [(0,{ id:=0 }),(1,{ id:=1 })] [2,3] [0,1] 2 [Pp 0,Pp 1] [Vb 42 (yA a_1),Vb 42 (yA b_1)] zG an ?_
 refine sq ?_
 obtain ⟨p_1,h_2,h⟩:=bind_some h
 refine wI (mk [(4,.bool p_1)] [] 0) ?_ ?_
 ·replace h:=h_2
  rcases bft (a_1.At==b_1.At) with zK | zK
  ·replace h:=zS zK h
   rcases bft (a_1.Kind==b_1.Kind) with zI | zI
   ·replace h:=zS zI h
    rcases bft (a_1.Name==b_1.Name) with zW | zW
    ·replace h:=zS zW h
     rcases bft (a_1.N==b_1.N) with z6 | z6
     ·replace h:=zS z6 h
      rcases bft (a_1.M==b_1.M) with y2 | y2
      ·replace h:=zS y2 h
       obtain ⟨r_1,h_1,h⟩:=bind_some h
       refine rg [(11,Ht),(18,Ht),(25,Ht),(32,Ht),(38,{ av:=.bool r_1,l:=[.sl false 1 (Ms a_1.Stack),.sl false 1 (Ms b_1.Stack)] }),(39,Ht)] [4] [] 2 [.bool r_1] [] zG (ac zK (ac zK (ac zK (ac zK (ac zK (ac zK (ac zI (ac zI (ac zI (ac zI (ac zI (ac zI (ac zW (ac zW (ac zW (ac zW (ac zW (ac zW (ac z6 (ac z6 (ac z6 (ac z6 (ac z6 (ac z6 (ac y2 (ac y2 (ac y2 (ac y2 (ac y2 (ar ([.sl false 1 (Ms a_1.Stack),.sl false 1 (Ms b_1.Stack)]:List AV) (ac (rfl:([]:List zN)=[]) (ac (zAN F a_1.Stack b_1.Stack r_1 h_1:zV prog 73 [] [] [.sl false 1 (Ms a_1.Stack),.sl false 1 (Ms b_1.Stack)] [] (.bool r_1)) (ac y2 an))))))))))))))))))))))))))))))))) ?_
       cases h
       exact ⟨rfl,(sw [] [] [.s 4] [] an)⟩
      ·replace h:=zT y2 h
       refine rg [(11,Ht),(18,Ht),(25,Ht),(32,Ht),(34,Hg),(35,Hg),(36,Hg),(37,Hg),(38,Hg),(39,Hf)] [4] [] 2 [.bool false] [] zG (ac zK (ac zK (ac zK (ac zK (ac zK (ac zK (ac zI (ac zI (ac zI (ac zI (ac zI (ac zI (ac zW (ac zW (ac zW (ac zW (ac zW (ac zW (ac z6 (ac z6 (ac z6 (ac z6 (ac z6 (ac z6 (ac y2 (ac y2 (ac y2 (ac y2 (ac y2 (ac y2 an)))))))))))))))))))))))))))))) ?_
       cases h
       exact ⟨rfl,(sw [] [] [.s 4] [] an)⟩
     ·replace h:=zT z6 h
      refine rg [(11,Ht),(18,Ht),(25,Ht),(27,Hg),(28,Hg),(29,Hg),(30,Hg),(31,Hg),(32,Hf),(34,Hg),(35,Hg),(36,Hg),(37,Hg),(38,Hg),(39,Hf)] [4] [] 2 [.bool false] [] zG (ac zK (ac zK (ac zK (ac zK (ac zK (ac zK (ac zI (ac zI (ac zI (ac zI (ac zI (ac zI (ac zW (ac zW (ac zW (ac zW (ac zW (ac zW (ac z6 (ac z6 (ac z6 (ac z6 (ac z6 (ac z6 (ac (rfl:false=!true) (ac (rfl:false=!true) (ac (rfl:false=!true) (ac (rfl:false=!true) (ac (rfl:false=!true) (ar false an)))))))))))))))))))))))))))))) ?_
      cases h
      exact ⟨rfl,(sw [] [] [.s 4] [] an)⟩
    ·replace h:=zT zW h
     refine rg [(11,Ht),(18,Ht),(20,Hg),(21,Hg),(22,Hg),(23,Hg),(24,Hg),(25,Hf),(27,Hg),(28,Hg),(29,Hg),(30,Hg),(31,Hg),(32,Hf),(34,Hg),(35,Hg),(36,Hg),(37,Hg),(38,Hg),(39,Hf)] [4] [] 2 [.bool false] [] zG (ac zK (ac zK (ac zK (ac zK (ac zK (ac zK (ac zI (ac zI (ac zI (ac zI (ac zI (ac zI (ac zW (ac zW (ac zW (ac zW (ac zW (ac zW (ac (rfl:false=!true) (ac (rfl:false=!true) (ac (rfl:false=!true) (ac (rfl:false=!true) (ac (rfl:false=!true) (ar false (ac (rfl:false=!true) (ac (rfl:false=!true) (ac (rfl:false=!true) (ac (rfl:false=!true) (ac (rfl:false=!true) (ar false an)))))))))))))))))))))))))))))) ?_
     cases h
     exact ⟨rfl,(sw [] [] [.s 4] [] an)⟩
   ·replace h:=zT zI h
    refine rg [(11,Ht),(13,Hg),(14,Hg),(15,Hg),(16,Hg),(17,Hg),(18,Hf),(20,Hg),(21,Hg),(22,Hg),(23,Hg),(24,Hg),(25,Hf),(27,Hg),(28,Hg),(29,Hg),(30,Hg),(31,Hg),(32,Hf),(34,Hg),(35,Hg),(36,Hg),(37,Hg),(38,Hg),(39,Hf)] [4] [] 2 [.bool false] [] zG (ac zK (ac zK (ac zK (ac zK (ac zK (ac zK (ac zI (ac zI (ac zI (ac zI (ac zI (ac zI (ac (rfl:false=!true) (ac (rfl:false=!true) (ac (rfl:false=!true) (ac (rfl:false=!true) (ac (rfl:false=!true) (ar false (ac (rfl:false=!true) (ac (rfl:false=!true) (ac (rfl:false=!true) (ac (rfl:false=!true) (ac (rfl:false=!true) (ar false (ac (rfl:false=!true) (ac (rfl:false=!true) (ac (rfl:false=!true) (ac (rfl:false=!true) (ac (rfl:false=!true) (ar false an)))))))))))))))))))))))))))))) ?_
    cases h
    exact ⟨rfl,(sw [] [] [.s 4] [] an)⟩
  ·replace h:=zT zK h
   refine rg [(6,Hg),(7,Hg),(8,Hg),(9,Hg),(10,Hg),(11,Hf),(13,Hg),(14,Hg),(15,Hg),(16,Hg),(17,Hg),(18,Hf),(20,Hg),(21,Hg),(22,Hg),(23,Hg),(24,Hg),(25,Hf),(27,Hg),(28,Hg),(29,Hg),(30,Hg),(31,Hg),(32,Hf),(34,Hg),(35,Hg),(36,Hg),(37,Hg),(38,Hg),(39,Hf)] [4] [] 2 [.bool false] [] zG (ac zK (ac zK (ac zK (ac zK (ac zK (ac zK (ac (rfl:false=!true) (ac (rfl:false=!true) (ac (rfl:false=!true) (ac (rfl:false=!true) (ac (rfl:false=!true) (ar false (ac (rfl:false=!true) (ac (rfl:false=!true) (ac (rfl:false=!true) (ac (rfl:false=!true) (ac (rfl:false=!true) (ar false (ac (rfl:false=!true) (ac (rfl:false=!true) (ac (rfl:false=!true) (ac (rfl:false=!true) (ac (rfl:false=!true) (ar false (ac (rfl:false=!true) (ac (rfl:false=!true) (ac (rfl:false=!true) (ac (rfl:false=!true) (ac (rfl:false=!true) (ar false an)))))))))))))))))))))))))))))) ?_
   cases h
   exact ⟨rfl,(sw [] [] [.s 4] [] an)⟩
 refine rt ?_
 cases h
 exact ⟨.inr rfl,Nat.le_of_ble_eq_true rfl,by kernel_rfl⟩

theorem vB (F:Nat) (s1_1:List (zH)) (s2_1:List (zH)) (r:Bool) (h:yZ F s1_1 s2_1=some r):zV prog 59 [] [] [.sl false 6 (Mp zE s1_1),.sl false 6 (Mp zE s2_1),.fn 60 []] [] (.bool r):=by
 refine yM (fn:=Go.Proofs.Try.f59) (code:=x4 Go.Proofs.Try.f59) (by kernel_rfl) (by kernel_rfl) (Nat.le_of_ble_eq_true (by kernel_rfl)) ?_
 unfold yZ at h
 refine sr [] [0,1,2] [] 0 [.sl false 6 (Mp zE s1_1),.sl false 6 (Mp zE s2_1),.fn 60 []] [] zG an ?_
 refine sq ?_
 refine sr [(1,{ n:=(s1_1).length }),(3,{ n:=(s2_1).length })] [0,1,2,14] [] 0 [.sl false 6 (Mp zE s1_1),.sl false 6 (Mp zE s2_1),.fn 60 [],.bool ((lN (s1_1)) != (lN (s2_1)))] [] zG (ac (yL _:((Mp zE s1_1)).length=(s1_1).length) (ac (yL _:((Mp zE s2_1)).length=(s2_1).length) an)) ?_
 refine cd 14 ((lN (s1_1)) != (lN (s2_1))) ?_ ?_
 ·intro g_1;replace h:=zS g_1 h
  refine sr [] [6] [] 0 [.bool false] [] zG an ?_
  refine rt ?_
  cases h
  exact ⟨.inr rfl,Nat.le_of_ble_eq_true rfl,by kernel_rfl⟩
 intro g_1;replace h:=zT g_1 h
 refine sk ?_
 refine sq ?_
 refine sr [(1,{ n:=(s1_1).length })] [1,2,15,16,17] [] 0 [.sl false 6 (Mp zE s2_1),.fn 60 [],.sl false 6 (Mp zE s1_1),Ii (lN (s1_1)),Ii 0] [] zG (ac (yL _:((Mp zE s1_1)).length=(s1_1).length) an) ?_
 obtain ⟨o_1,h_1,h⟩:=bind_some h
 refine vV (K1:=(fun e st'=>match o_1 with | (.inl q0)=>e=.normal∧Sub 0 st' (mk [] [] 0) | (.inr q1)=>e=.ret∧q9 prog Go.Proofs.Try.f59 0 [] (.bool q1) st')) ?_ ?_
 ·replace h:=h_1
  refine yN (id:=0) (by kernel_rfl) ?_
  refine wk [] [] [.s 1,.s 2,.s 15,.s 16,.s 17] [] [(1,.sl false 6 (Mp zE s2_1)),(2,.fn 60 []),(15,.sl false 6 (Mp zE s1_1)),(16,Ii (lN (s1_1))),(17,Ii 0)] [] an ?_
  refine wE (fun n st=>∃ (v_1:Int),st=mk [(1,.sl false 6 (Mp zE s2_1)),(2,.fn 60 []),(15,.sl false 6 (Mp zE s1_1)),(16,Ii (lN (s1_1))),(17,Ii v_1)] [] 0∧yK F s1_1 s2_1 n v_1=some o_1) F (by kernel_rfl) ⟨_,rfl,h⟩ ?_ ?_
  ·rintro _ ⟨_,_,h⟩;exact wO (h:(none:Option (Unit⊕Bool))=some o_1)
  rintro n_1 _ ⟨v_1,rfl,h⟩
  replace h:z7 F s1_1 s2_1 (yK F s1_1 s2_1 n_1) v_1=some o_1:=h
  unfold z7 at h
  refine sr [] [1,2,15,16,17,18] [] 0 [.sl false 6 (Mp zE s2_1),.fn 60 [],.sl false 6 (Mp zE s1_1),Ii (lN (s1_1)),Ii v_1,.bool (decide (v_1<(lN (s1_1))))] [] zG an ?_
  refine sq ?_
  refine cd 18 (decide (v_1<(lN (s1_1)))) ?_ ?_
  rotate_left
  ·intro g_2;replace h:=zT g_2 h
   refine wJ (id:=0) (by kernel_rfl) ?_
   cases h
   exact ⟨rfl,(sw [] [] [] [] an)⟩
  intro g_2;replace h:=zS g_2 h
  refine sk ?_
  refine sq ?_
  refine yN (id:=1) (by kernel_rfl) ?_
  refine sq ?_
  obtain ⟨x_1,h_2,h⟩:=bind_some h
  refine rg [(1,{ av:=zE x_1 }),(3,{ id:=0 })] [1,2,7,8,15,16,17] [0] 1 [.sl false 6 (Mp zE s2_1),.fn 60 [],Ii v_1,Pp 0,.sl false 6 (Mp zE s1_1),Ii (lN (s1_1)),Ii v_1] [Vb 42 (yA x_1)] zG (ac (xZ h_2:wV (Mp zE s1_1) v_1=some (zE x_1)) an) ?_
  refine sq ?_
  obtain ⟨x_2,h_3,h⟩:=bind_some h
  refine rg [(2,{ av:=zE x_2 }),(4,{ id:=1 })] [1,2,8,9,15,16,17] [0,1] 2 [.sl false 6 (Mp zE s2_1),.fn 60 [],Pp 0,Pp 1,.sl false 6 (Mp zE s1_1),Ii (lN (s1_1)),Ii v_1] [Vb 42 (yA x_1),Vb 42 (yA x_2)] zG (ac (xZ h_3:wV (Mp zE s2_1) v_1=some (zE x_2)) an) ?_
  refine sq ?_
  obtain ⟨r_1,h_4,h⟩:=bind_some h
  refine rg [(3,{ av:=.bool r_1,l:=[zE x_1,zE x_2] })] [1,2,15,16,17,30] [] 2 [.sl false 6 (Mp zE s2_1),.fn 60 [],.sl false 6 (Mp zE s1_1),Ii (lN (s1_1)),Ii v_1,.bool (!r_1)] [] zG (ar ([zE x_1,zE x_2]:List AV) (ac (rfl:([]:List zN)=[]) (ac (zHr F x_1 x_2 r_1 h_4:zV prog 60 [] [] [zE x_1,zE x_2] [] (.bool r_1)) an))) ?_
  refine cd 30 (!r_1) ?_ ?_
  rotate_left
  ·intro g_3;replace h:=zT g_3 h
   refine sk ?_
   refine rg [] [1,2,15,16,17] [] 2 [.sl false 6 (Mp zE s2_1),.fn 60 [],.sl false 6 (Mp zE s1_1),Ii (lN (s1_1)),Ii (zJ (v_1+(1:Int)))] [] zG an ?_
   exact ⟨_,(sw [] [] [.s 1,.s 2,.s 15,.s 16,.s 17] [] an),_,rfl,h⟩
  intro g_3;replace h:=zS g_3 h
  refine sr [] [6] [] 2 [.bool false] [] zG an ?_
  refine rt ?_
  cases h
  exact ⟨rfl,Nat.le_of_ble_eq_true rfl,by kernel_rfl⟩
 intro e st1 hk
 rcases o_1 with q_1 | q_2
 rotate_left
 ·obtain ⟨rfl,hf⟩:=hk
  cases h
  exact ⟨st1,Sub.refl _ _,.inr rfl,hf⟩
 obtain ⟨rfl,hs⟩:=hk
 refine ⟨_,hs,?_⟩
 refine sr [] [6] [] 0 [.bool true] [] zG an ?_
 refine rt ?_
 cases h
 exact ⟨.inr rfl,Nat.le_of_ble_eq_true rfl,by kernel_rfl⟩

theorem zGy (F:Nat) (a_1:zB) (b_1:zB) (r:Bool) (h:nW F a_1 b_1=some r):zV prog 42 [] [] [zA a_1,zA b_1] [] (.bool r):=by
 refine yM (fn:=Go.Proofs.Try.f42) (code:=x4 Go.Proofs.Try.f42) (by kernel_rfl) (by kernel_rfl) (Nat.le_of_ble_eq_true (by kernel_rfl)) ?_
 unfold nW at h
 refine sr [(0,{ id:=0 }),(1,{ id:=1 })] [2,3] [0,1] 2 [Pp 0,Pp 1] [Vb 59 (zZ a_1),Vb 59 (zZ b_1)] zG an ?_
 refine sq ?_
 obtain ⟨p_1,h_2,h⟩:=bind_some h
 refine wI (mk [(4,.bool p_1)] [] 0) ?_ ?_
 ·replace h:=h_2
  rcases bft (a_1.Thread==b_1.Thread) with zK | zK
  ·replace h:=zS zK h
   rcases bft (a_1.Serial==b_1.Serial) with zI | zI
   ·replace h:=zS zI h
    rcases bft (a_1.Lost==b_1.Lost) with zW | zW
    ·replace h:=zS zW h
     obtain ⟨r_1,h_1,h⟩:=bind_some h
     refine rg [(11,Ht),(18,Ht),(24,{ av:=.bool r_1,l:=[.sl false 6 (Mp zE a_1.Events),.sl false 6 (Mp zE b_1.Events),.fn 60 []] }),(25,Ht)] [4] [] 2 [.bool r_1] [] zG (ac zK (ac zK (ac zK (ac zK (ac zK (ac zK (ac zI (ac zI (ac zI (ac zI (ac zI (ac zI (ac zW (ac zW (ac zW (ac zW (ac zW (ar ([.sl false 6 (Mp zE a_1.Events),.sl false 6 (Mp zE b_1.Events),.fn 60 []]:List AV) (ac (rfl:([]:List zN)=[]) (ac (vB F a_1.Events b_1.Events r_1 h_1:zV prog 59 [] [] [.sl false 6 (Mp zE a_1.Events),.sl false 6 (Mp zE b_1.Events),.fn 60 []] [] (.bool r_1)) (ac zW an))))))))))))))))))))) ?_
     cases h
     exact ⟨rfl,(sw [] [] [.s 4] [] an)⟩
    ·replace h:=zT zW h
     refine rg [(11,Ht),(18,Ht),(20,Hg),(21,Hg),(22,Hg),(23,Hg),(24,Hg),(25,Hf)] [4] [] 2 [.bool false] [] zG (ac zK (ac zK (ac zK (ac zK (ac zK (ac zK (ac zI (ac zI (ac zI (ac zI (ac zI (ac zI (ac zW (ac zW (ac zW (ac zW (ac zW (ac zW an)))))))))))))))))) ?_
     cases h
     exact ⟨rfl,(sw [] [] [.s 4] [] an)⟩
   ·replace h:=zT zI h
    refine rg [(11,Ht),(13,Hg),(14,Hg),(15,Hg),(16,Hg),(17,Hg),(18,Hf),(20,Hg),(21,Hg),(22,Hg),(23,Hg),(24,Hg),(25,Hf)] [4] [] 2 [.bool false] [] zG (ac zK (ac zK (ac zK (ac zK (ac zK (ac zK (ac zI (ac zI (ac zI (ac zI (ac zI (ac zI (ac (rfl:false=!true) (ac (rfl:false=!true) (ac (rfl:false=!true) (ac (rfl:false=!true) (ac (rfl:false=!true) (ar false an)))))))))))))))))) ?_
    cases h
    exact ⟨rfl,(sw [] [] [.s 4] [] an)⟩
  ·replace h:=zT zK h
   refine rg [(6,Hg),(7,Hg),(8,Hg),(9,Hg),(10,Hg),(11,Hf),(13,Hg),(14,Hg),(15,Hg),(16,Hg),(17,Hg),(18,Hf),(20,Hg),(21,Hg),(22,Hg),(23,Hg),(24,Hg),(25,Hf)] [4] [] 2 [.bool false] [] zG (ac zK (ac zK (ac zK (ac zK (ac zK (ac zK (ac (rfl:false=!true) (ac (rfl:false=!true) (ac (rfl:false=!true) (ac (rfl:false=!true) (ac (rfl:false=!true) (ar false (ac (rfl:false=!true) (ac (rfl:false=!true) (ac (rfl:false=!true) (ac (rfl:false=!true) (ac (rfl:false=!true) (ar false an)))))))))))))))))) ?_
   cases h
   exact ⟨rfl,(sw [] [] [.s 4] [] an)⟩
 refine rt ?_
 cases h
 exact ⟨.inr rfl,Nat.le_of_ble_eq_true rfl,by kernel_rfl⟩

theorem zHs (F:Nat) (p_1:zB) (q_1:zB) (r:Bool) (h:zBD F p_1 q_1=some r):zV prog 41 [] [] [zA p_1,zA q_1] [] (.bool r):=by
 refine yM (fn:=Go.Proofs.Try.f41) (code:=x4 Go.Proofs.Try.f41) (by kernel_rfl) (by kernel_rfl) (Nat.le_of_ble_eq_true (by kernel_rfl)) ?_
 unfold zBD at h
 refine sr [(0,{ id:=0 }),(1,{ id:=1 })] [2,3] [0,1] 2 [Pp 0,Pp 1] [Vb 59 (zZ p_1),Vb 59 (zZ q_1)] zG an ?_
 refine sq ?_
 obtain ⟨r_1,h_1,h⟩:=bind_some h
 refine rg [(2,{ av:=.bool r_1,l:=[zA p_1,zA q_1] })] [4] [] 2 [.bool r_1] [] zG (ar ([zA p_1,zA q_1]:List AV) (ac (rfl:([]:List zN)=[]) (ac (zGy F p_1 q_1 r_1 h_1:zV prog 42 [] [] [zA p_1,zA q_1] [] (.bool r_1)) an))) ?_
 refine rt ?_
 cases h
 exact ⟨.inr rfl,Nat.le_of_ble_eq_true rfl,by kernel_rfl⟩

theorem w4 (F:Nat) (s1_1:List (zB)) (s2_1:List (zB)) (r:Bool) (h:yJ F s1_1 s2_1=some r):zV prog 40 [] [] [.sl false 4 (Mp zA s1_1),.sl false 4 (Mp zA s2_1),.fn 41 []] [] (.bool r):=by
 refine yM (fn:=Go.Proofs.Try.f40) (code:=x4 Go.Proofs.Try.f40) (by kernel_rfl) (by kernel_rfl) (Nat.le_of_ble_eq_true (by kernel_rfl)) ?_
 unfold yJ at h
 refine sr [] [0,1,2] [] 0 [.sl false 4 (Mp zA s1_1),.sl false 4 (Mp zA s2_1),.fn 41 []] [] zG an ?_
 refine sq ?_
 refine sr [(1,{ n:=(s1_1).length }),(3,{ n:=(s2_1).length })] [0,1,2,14] [] 0 [.sl false 4 (Mp zA s1_1),.sl false 4 (Mp zA s2_1),.fn 41 [],.bool ((lN (s1_1)) != (lN (s2_1)))] [] zG (ac (yL _:((Mp zA s1_1)).length=(s1_1).length) (ac (yL _:((Mp zA s2_1)).length=(s2_1).length) an)) ?_
 refine cd 14 ((lN (s1_1)) != (lN (s2_1))) ?_ ?_
 ·intro g_1;replace h:=zS g_1 h
  refine sr [] [6] [] 0 [.bool false] [] zG an ?_
  refine rt ?_
  cases h
  exact ⟨.inr rfl,Nat.le_of_ble_eq_true rfl,by kernel_rfl⟩
 intro g_1;replace h:=zT g_1 h
 refine sk ?_
 refine sq ?_
 refine sr [(1,{ n:=(s1_1).length })] [1,2,15,16,17] [] 0 [.sl false 4 (Mp zA s2_1),.fn 41 [],.sl false 4 (Mp zA s1_1),Ii (lN (s1_1)),Ii 0] [] zG (ac (yL _:((Mp zA s1_1)).length=(s1_1).length) an) ?_
 obtain ⟨o_1,h_1,h⟩:=bind_some h
 refine vV (K1:=(fun e st'=>match o_1 with | (.inl q0)=>e=.normal∧Sub 0 st' (mk [] [] 0) | (.inr q1)=>e=.ret∧q9 prog Go.Proofs.Try.f40 0 [] (.bool q1) st')) ?_ ?_
 ·replace h:=h_1
  refine yN (id:=0) (by kernel_rfl) ?_
  refine wk [] [] [.s 1,.s 2,.s 15,.s 16,.s 17] [] [(1,.sl false 4 (Mp zA s2_1)),(2,.fn 41 []),(15,.sl false 4 (Mp zA s1_1)),(16,Ii (lN (s1_1))),(17,Ii 0)] [] an ?_
  refine wE (fun n st=>∃ (v_1:Int),st=mk [(1,.sl false 4 (Mp zA s2_1)),(2,.fn 41 []),(15,.sl false 4 (Mp zA s1_1)),(16,Ii (lN (s1_1))),(17,Ii v_1)] [] 0∧yF F s1_1 s2_1 n v_1=some o_1) F (by kernel_rfl) ⟨_,rfl,h⟩ ?_ ?_
  ·rintro _ ⟨_,_,h⟩;exact wO (h:(none:Option (Unit⊕Bool))=some o_1)
  rintro n_1 _ ⟨v_1,rfl,h⟩
  replace h:z4 F s1_1 s2_1 (yF F s1_1 s2_1 n_1) v_1=some o_1:=h
  unfold z4 at h
  refine sr [] [1,2,15,16,17,18] [] 0 [.sl false 4 (Mp zA s2_1),.fn 41 [],.sl false 4 (Mp zA s1_1),Ii (lN (s1_1)),Ii v_1,.bool (decide (v_1<(lN (s1_1))))] [] zG an ?_
  refine sq ?_
  refine cd 18 (decide (v_1<(lN (s1_1)))) ?_ ?_
  rotate_left
  ·intro g_2;replace h:=zT g_2 h
   refine wJ (id:=0) (by kernel_rfl) ?_
   cases h
   exact ⟨rfl,(sw [] [] [] [] an)⟩
  intro g_2;replace h:=zS g_2 h
  refine sk ?_
  refine sq ?_
  refine yN (id:=1) (by kernel_rfl) ?_
  refine sq ?_
  obtain ⟨x_1,h_2,h⟩:=bind_some h
  refine rg [(1,{ av:=zA x_1 }),(3,{ id:=0 })] [1,2,7,8,15,16,17] [0] 1 [.sl false 4 (Mp zA s2_1),.fn 41 [],Ii v_1,Pp 0,.sl false 4 (Mp zA s1_1),Ii (lN (s1_1)),Ii v_1] [Vb 59 (zZ x_1)] zG (ac (xZ h_2:wV (Mp zA s1_1) v_1=some (zA x_1)) an) ?_
  refine sq ?_
  obtain ⟨x_2,h_3,h⟩:=bind_some h
  refine rg [(2,{ av:=zA x_2 }),(4,{ id:=1 })] [1,2,8,9,15,16,17] [0,1] 2 [.sl false 4 (Mp zA s2_1),.fn 41 [],Pp 0,Pp 1,.sl false 4 (Mp zA s1_1),Ii (lN (s1_1)),Ii v_1] [Vb 59 (zZ x_1),Vb 59 (zZ x_2)] zG (ac (xZ h_3:wV (Mp zA s2_1) v_1=some (zA x_2)) an) ?_
  refine sq ?_
  obtain ⟨r_1,h_4,h⟩:=bind_some h
  refine rg [(3,{ av:=.bool r_1,l:=[zA x_1,zA x_2] })] [1,2,15,16,17,30] [] 2 [.sl false 4 (Mp zA s2_1),.fn 41 [],.sl false 4 (Mp zA s1_1),Ii (lN (s1_1)),Ii v_1,.bool (!r_1)] [] zG (ar ([zA x_1,zA x_2]:List AV) (ac (rfl:([]:List zN)=[]) (ac (zHs F x_1 x_2 r_1 h_4:zV prog 41 [] [] [zA x_1,zA x_2] [] (.bool r_1)) an))) ?_
  refine cd 30 (!r_1) ?_ ?_
  rotate_left
  ·intro g_3;replace h:=zT g_3 h
   refine sk ?_
   refine rg [] [1,2,15,16,17] [] 2 [.sl false 4 (Mp zA s2_1),.fn 41 [],.sl false 4 (Mp zA s1_1),Ii (lN (s1_1)),Ii (zJ (v_1+(1:Int)))] [] zG an ?_
   exact ⟨_,(sw [] [] [.s 1,.s 2,.s 15,.s 16,.s 17] [] an),_,rfl,h⟩
  intro g_3;replace h:=zS g_3 h
  refine sr [] [6] [] 2 [.bool false] [] zG an ?_
  refine rt ?_
  cases h
  exact ⟨rfl,Nat.le_of_ble_eq_true rfl,by kernel_rfl⟩
 intro e st1 hk
 rcases o_1 with q_1 | q_2
 rotate_left
 ·obtain ⟨rfl,hf⟩:=hk
  cases h
  exact ⟨st1,Sub.refl _ _,.inr rfl,hf⟩
 obtain ⟨rfl,hs⟩:=hk
 refine ⟨_,hs,?_⟩
 refine sr [] [6] [] 0 [.bool true] [] zG an ?_
 refine rt ?_
 cases h
 exact ⟨.inr rfl,Nat.le_of_ble_eq_true rfl,by kernel_rfl⟩

theorem zJd (F:Nat) (a_1:zX) (b_1:zX) (r:Bool) (h:zBM F a_1 b_1=some r):zV prog 13 [] [] [yH a_1,yH b_1] [] (.bool r):=by
 refine yM (fn:=Go.Proofs.Try.f13) (code:=x4 Go.Proofs.Try.f13) (by kernel_rfl) (by kernel_rfl) (Nat.le_of_ble_eq_true (by kernel_rfl)) ?_
 unfold zBM at h
 refine sr [(0,{ id:=0 }),(1,{ id:=1 })] [2,3] [0,1] 2 [Pp 0,Pp 1] [Vb 31 (yB a_1),Vb 31 (yB b_1)] zG an ?_
 refine sr [(4,{ id:=2 }),(5,{ id:=3 })] [2,3,5,6] [0,1,2,3] 4 [Pp 0,Pp 1,Pp 2,Pp 3] [Vb 31 (yB a_1),Vb 31 (yB b_1),Vb 26 (z0 a_1.Head),Vb 26 (z0 b_1.Head)] zG an ?_
 refine sq ?_
 obtain ⟨p_1,h_5,h⟩:=bind_some h
 refine wI (mk [(4,.bool p_1)] [] 0) ?_ ?_
 ·replace h:=h_5
  obtain ⟨r_1,h_1,h⟩:=bind_some h
  rcases Bool.eq_false_or_eq_true r_1 with zK | zK
  ·replace h:=zS zK h
   obtain ⟨r_2,h_2,h⟩:=bind_some h
   rcases Bool.eq_false_or_eq_true r_2 with zI | zI
   ·replace h:=zS zI h
    obtain ⟨r_3,h_3,h⟩:=bind_some h
    rcases Bool.eq_false_or_eq_true r_3 with zW | zW
    ·replace h:=zS zW h
     obtain ⟨r_4,h_4,h⟩:=bind_some h
     refine rg [(4,{ av:=.bool r_1,l:=[.sl false 3 (Mp zF a_1.Head.Threads),.sl false 3 (Mp zF b_1.Head.Threads)] }),(10,{ av:=.bool r_2,l:=[.sl false 2 (Mp zD a_1.Head.Domains),.sl false 2 (Mp zD b_1.Head.Domains)] }),(11,Ht),(17,{ av:=.bool r_3,l:=[.sl false 5 (Mp zO a_1.Head.Snaps),.sl false 5 (Mp zO b_1.Head.Snaps)] }),(18,Ht),(24,{ av:=.bool r_4,l:=[.sl false 4 (Mp zA a_1.Parts),.sl false 4 (Mp zA b_1.Parts),.fn 41 []] }),(25,Ht)] [4] [] 4 [.bool r_4] [] zG (ar ([.sl false 3 (Mp zF a_1.Head.Threads),.sl false 3 (Mp zF b_1.Head.Threads)]:List AV) (ac (rfl:([]:List zN)=[]) (ac (x6 F a_1.Head.Threads b_1.Head.Threads r_1 h_1:zV prog 37 [] [] [.sl false 3 (Mp zF a_1.Head.Threads),.sl false 3 (Mp zF b_1.Head.Threads)] [] (.bool r_1)) (ac zK (ac zK (ac zK (ac zK (ac zK (ar ([.sl false 2 (Mp zD a_1.Head.Domains),.sl false 2 (Mp zD b_1.Head.Domains)]:List AV) (ac (rfl:([]:List zN)=[]) (ac (wT F a_1.Head.Domains b_1.Head.Domains r_2 h_2:zV prog 38 [] [] [.sl false 2 (Mp zD a_1.Head.Domains),.sl false 2 (Mp zD b_1.Head.Domains)] [] (.bool r_2)) (ac zK (ac zI (ac zI (ac zI (ac zI (ac zI (ar ([.sl false 5 (Mp zO a_1.Head.Snaps),.sl false 5 (Mp zO b_1.Head.Snaps)]:List AV) (ac (rfl:([]:List zN)=[]) (ac (v7 F a_1.Head.Snaps b_1.Head.Snaps r_3 h_3:zV prog 39 [] [] [.sl false 5 (Mp zO a_1.Head.Snaps),.sl false 5 (Mp zO b_1.Head.Snaps)] [] (.bool r_3)) (ac zI (ac zW (ac zW (ac zW (ac zW (ac zW (ar ([.sl false 4 (Mp zA a_1.Parts),.sl false 4 (Mp zA b_1.Parts),.fn 41 []]:List AV) (ac (rfl:([]:List zN)=[]) (ac (w4 F a_1.Parts b_1.Parts r_4 h_4:zV prog 40 [] [] [.sl false 4 (Mp zA a_1.Parts),.sl false 4 (Mp zA b_1.Parts),.fn 41 []] [] (.bool r_4)) (ac zW an)))))))))))))))))))))))))))))) ?_
     cases h
     exact ⟨rfl,(sw [] [] [.s 4] [] an)⟩
    ·replace h:=zT zW h
     refine rg [(4,{ av:=.bool r_1,l:=[.sl false 3 (Mp zF a_1.Head.Threads),.sl false 3 (Mp zF b_1.Head.Threads)] }),(10,{ av:=.bool r_2,l:=[.sl false 2 (Mp zD a_1.Head.Domains),.sl false 2 (Mp zD b_1.Head.Domains)] }),(11,Ht),(17,{ av:=.bool r_3,l:=[.sl false 5 (Mp zO a_1.Head.Snaps),.sl false 5 (Mp zO b_1.Head.Snaps)] }),(18,Ht),(20,Hg),(21,Hg),(22,Hg),(23,Hg),(24,Hg),(25,Hf)] [4] [] 4 [.bool false] [] zG (ar ([.sl false 3 (Mp zF a_1.Head.Threads),.sl false 3 (Mp zF b_1.Head.Threads)]:List AV) (ac (rfl:([]:List zN)=[]) (ac (x6 F a_1.Head.Threads b_1.Head.Threads r_1 h_1:zV prog 37 [] [] [.sl false 3 (Mp zF a_1.Head.Threads),.sl false 3 (Mp zF b_1.Head.Threads)] [] (.bool r_1)) (ac zK (ac zK (ac zK (ac zK (ac zK (ar ([.sl false 2 (Mp zD a_1.Head.Domains),.sl false 2 (Mp zD b_1.Head.Domains)]:List AV) (ac (rfl:([]:List zN)=[]) (ac (wT F a_1.Head.Domains b_1.Head.Domains r_2 h_2:zV prog 38 [] [] [.sl false 2 (Mp zD a_1.Head.Domains),.sl false 2 (Mp zD b_1.Head.Domains)] [] (.bool r_2)) (ac zK (ac zI (ac zI (ac zI (ac zI (ac zI (ar ([.sl false 5 (Mp zO a_1.Head.Snaps),.sl false 5 (Mp zO b_1.Head.Snaps)]:List AV) (ac (rfl:([]:List zN)=[]) (ac (v7 F a_1.Head.Snaps b_1.Head.Snaps r_3 h_3:zV prog 39 [] [] [.sl false 5 (Mp zO a_1.Head.Snaps),.sl false 5 (Mp zO b_1.Head.Snaps)] [] (.bool r_3)) (ac zI (ac zW (ac zW (ac zW (ac zW (ac zW (ac zW an))))))))))))))))))))))))))) ?_
     cases h
     exact ⟨rfl,(sw [] [] [.s 4] [] an)⟩
   ·replace h:=zT zI h
    refine rg [(4,{ av:=.bool r_1,l:=[.sl false 3 (Mp zF a_1.Head.Threads),.sl false 3 (Mp zF b_1.Head.Threads)] }),(10,{ av:=.bool r_2,l:=[.sl false 2 (Mp zD a_1.Head.Domains),.sl false 2 (Mp zD b_1.Head.Domains)] }),(11,Ht),(13,Hg),(14,Hg),(15,Hg),(16,Hg),(17,Hg),(18,Hf),(20,Hg),(21,Hg),(22,Hg),(23,Hg),(24,Hg),(25,Hf)] [4] [] 4 [.bool false] [] zG (ar ([.sl false 3 (Mp zF a_1.Head.Threads),.sl false 3 (Mp zF b_1.Head.Threads)]:List AV) (ac (rfl:([]:List zN)=[]) (ac (x6 F a_1.Head.Threads b_1.Head.Threads r_1 h_1:zV prog 37 [] [] [.sl false 3 (Mp zF a_1.Head.Threads),.sl false 3 (Mp zF b_1.Head.Threads)] [] (.bool r_1)) (ac zK (ac zK (ac zK (ac zK (ac zK (ar ([.sl false 2 (Mp zD a_1.Head.Domains),.sl false 2 (Mp zD b_1.Head.Domains)]:List AV) (ac (rfl:([]:List zN)=[]) (ac (wT F a_1.Head.Domains b_1.Head.Domains r_2 h_2:zV prog 38 [] [] [.sl false 2 (Mp zD a_1.Head.Domains),.sl false 2 (Mp zD b_1.Head.Domains)] [] (.bool r_2)) (ac zK (ac zI (ac zI (ac zI (ac zI (ac zI (ac zI (ac (rfl:false=!true) (ac (rfl:false=!true) (ac (rfl:false=!true) (ac (rfl:false=!true) (ac (rfl:false=!true) (ar false an)))))))))))))))))))))))) ?_
    cases h
    exact ⟨rfl,(sw [] [] [.s 4] [] an)⟩
  ·replace h:=zT zK h
   refine rg [(4,{ av:=.bool r_1,l:=[.sl false 3 (Mp zF a_1.Head.Threads),.sl false 3 (Mp zF b_1.Head.Threads)] }),(6,Hg),(7,Hg),(8,Hg),(9,Hg),(10,Hg),(11,Hf),(13,Hg),(14,Hg),(15,Hg),(16,Hg),(17,Hg),(18,Hf),(20,Hg),(21,Hg),(22,Hg),(23,Hg),(24,Hg),(25,Hf)] [4] [] 4 [.bool false] [] zG (ar ([.sl false 3 (Mp zF a_1.Head.Threads),.sl false 3 (Mp zF b_1.Head.Threads)]:List AV) (ac (rfl:([]:List zN)=[]) (ac (x6 F a_1.Head.Threads b_1.Head.Threads r_1 h_1:zV prog 37 [] [] [.sl false 3 (Mp zF a_1.Head.Threads),.sl false 3 (Mp zF b_1.Head.Threads)] [] (.bool r_1)) (ac zK (ac zK (ac zK (ac zK (ac zK (ac zK (ac (rfl:false=!true) (ac (rfl:false=!true) (ac (rfl:false=!true) (ac (rfl:false=!true) (ac (rfl:false=!true) (ar false (ac (rfl:false=!true) (ac (rfl:false=!true) (ac (rfl:false=!true) (ac (rfl:false=!true) (ac (rfl:false=!true) (ar false an))))))))))))))))))))) ?_
   cases h
   exact ⟨rfl,(sw [] [] [.s 4] [] an)⟩
 refine rt ?_
 cases h
 exact ⟨.inr rfl,Nat.le_of_ble_eq_true rfl,by kernel_rfl⟩

theorem zAI (F:Nat) (l_1:zX) (r:Int) (h:kI F l_1=some r):zV prog 14 [] [] [yH l_1] [] (Ii r):=by
 refine yM (fn:=Go.Proofs.Try.f14) (code:=x4 Go.Proofs.Try.f14) (by kernel_rfl) (by kernel_rfl) (Nat.le_of_ble_eq_true (by kernel_rfl)) ?_
 unfold kI at h
 refine sr [(0,{ id:=0 })] [1] [0] 1 [Pp 0] [Vb 31 (yB l_1)] zG an ?_
 refine sq ?_
 obtain ⟨r_1,h_1,h⟩:=bind_some h
 refine rg [(4,{ av:=.tuple [yH r_1.1,Ii r_1.2],l:=[xO l_1.Head,.sl false 4 (Mp zA l_1.Parts)] }),(8,{ id:=1 })] [1,3,4] [0,1] 2 [Pp 0,Pp 1,Ii r_1.2] [Vb 31 (yB l_1),Vb 31 (yB r_1.1)] zG (ar ([xO l_1.Head,.sl false 4 (Mp zA l_1.Parts)]:List AV) (ac (rfl:([]:List zN)=[]) (ac (zBm F l_1.Head l_1.Parts r_1 h_1:zV prog 10 [] [] [xO l_1.Head,.sl false 4 (Mp zA l_1.Parts)] [] (.tuple [yH r_1.1,Ii r_1.2])) an))) ?_
 refine sq ?_
 refine sq ?_
 obtain ⟨p_1,h_3,h⟩:=bind_some h
 refine wI (mk [(4,Ii r_1.2),(20,.bool p_1)] [] 0) ?_ ?_
 ·replace h:=h_3
  rcases bft (r_1.2==(0:Int)) with zK | zK
  ·replace h:=zS zK h
   obtain ⟨r_2,h_2,h⟩:=bind_some h
   refine rg [(5,{ av:=.bool r_2,l:=[yH r_1.1,yH l_1] }),(7,Ht)] [4,20] [] 2 [Ii r_1.2,.bool (!r_2)] [] zG (ac zK (ac zK (ac zK (ar ([yH r_1.1,yH l_1]:List AV) (ac (rfl:([]:List zN)=[]) (ac (zJd F r_1.1 l_1 r_2 h_2:zV prog 13 [] [] [yH r_1.1,yH l_1] [] (.bool r_2)) (ac zK (ac zK an)))))))) ?_
   cases h
   exact ⟨rfl,(sw [] [] [.s 4,.s 20] [] an)⟩
  ·replace h:=zT zK h
   refine rg [(3,Hg),(4,Hg),(5,Hg),(6,Hg),(7,Hf)] [4,20] [] 2 [Ii r_1.2,.bool false] [] zG (ac zK (ac zK (ac zK (ac zK (ac zK an))))) ?_
   cases h
   exact ⟨rfl,(sw [] [] [.s 4,.s 20] [] an)⟩
 refine cd 20 p_1 ?_ ?_
 ·intro g_1;replace h:=zS g_1 h
  refine sr [] [2] [] 0 [Ii 10] [] zG an ?_
  refine rt ?_
  cases h
  exact ⟨.inr rfl,Nat.le_of_ble_eq_true rfl,by kernel_rfl⟩
 intro g_1;replace h:=zT g_1 h
 refine sk ?_
 refine sr [] [2] [] 0 [Ii r_1.2] [] zG an ?_
 refine rt ?_
 cases h
 exact ⟨.inr rfl,Nat.le_of_ble_eq_true rfl,by kernel_rfl⟩

theorem zEx (F:Nat) (l_1:zX) (r:(List (yE))) (h:zA0 F l_1=some r):zV prog 18 [] [] [yH l_1] [.row 50 3 (Mp z8 r)] (.own 0 ((r).length)):=by
 refine yM (fn:=Go.Proofs.Try.f18) (code:=x4 Go.Proofs.Try.f18) (by kernel_rfl) (by kernel_rfl) (Nat.le_of_ble_eq_true (by kernel_rfl)) ?_
 unfold zA0 at h
 refine sr [(0,{ id:=0 }),(1,{ id:=1,m:=1 })] [1] [0] 2 [Pp 0] [Vb 31 (yB l_1)] zG an ?_
 refine sq ?_
 refine sq ?_
 obtain ⟨r_1,h_1,h⟩:=bind_some h
 refine rg [(1,{ av:=Ii r_1,l:=[yH l_1] })] [1,8] [0] 2 [Pp 0,.bool (r_1 != (0:Int))] [Vb 31 (yB l_1)] zG (ar ([yH l_1]:List AV) (ac (rfl:([]:List zN)=[]) (ac (zAI F l_1 r_1 h_1:zV prog 14 [] [] [yH l_1] [] (Ii r_1)) an))) ?_
 refine cd 8 (r_1 != (0:Int)) ?_ ?_
 ·intro g_1;replace h:=zS g_1 h
  refine sr [(0,{ id:=2,m:=1 })] [2] [2] 3 [.own 2 0] [Rb 50 3 []] zG an ?_
  refine wk [2] [] [.a 2 (.own 0 ((([]:List yE)).length))] [.s 0] [(2,.own 0 ((([]:List yE)).length))] [(0,Rb 50 3 [])] (ac (congrArg (AV.own _) (by first | (simp;done) | (simp;omega)):(.own 2 0:AV)=.own 2 ((([]:List yE)).length)) an) ?_
  refine rt ?_
  cases h
  exact ⟨.inr rfl,Nat.le_of_ble_eq_true rfl,by kernel_rfl⟩
 intro g_1;replace h:=zT g_1 h
 refine sk ?_
 refine sr [(0,{ id:=2,m:=1 })] [1,3] [0,2] 3 [Pp 0,.own 2 0] [Vb 31 (yB l_1),Rb 50 3 []] zG an ?_
 refine sq ?_
 refine sr [(2,{ n:=(l_1.Parts).length })] [3,10,11,12] [2] 3 [.own 2 0,.sl false 4 (Mp zA l_1.Parts),Ii (lN (l_1.Parts)),Ii 0] [Rb 50 3 []] zG (ac (yL _:((Mp zA l_1.Parts)).length=(l_1.Parts).length) an) ?_
 obtain ⟨o_1,h_2,h⟩:=bind_some h
 refine wI (mk [(3,.own 0 ((o_1).length))] [(0,Rb 50 3 (Mp z8 o_1))] 1) ?_ ?_
 ·replace h:=h_2
  refine yN (id:=0) (by kernel_rfl) ?_
  refine wk [2] [] [.s 3,.s 10,.s 11,.s 12] [.s 0] [(3,.own 0 0),(10,.sl false 4 (Mp zA l_1.Parts)),(11,Ii (lN (l_1.Parts))),(12,Ii 0)] [(0,Rb 50 3 [])] an ?_
  refine wE (fun n st=>∃ (v_1:Int),∃ (zC:List yE),st=mk [(3,.own 0 ((zC).length)),(10,.sl false 4 (Mp zA l_1.Parts)),(11,Ii (lN (l_1.Parts))),(12,Ii v_1)] [(0,Rb 50 3 (Mp z8 zC))] 1∧k8 F l_1 n v_1 zC=some o_1) F (by kernel_rfl) ⟨_,_,rfl,h⟩ ?_ ?_
  ·rintro _ ⟨_,_,_,h⟩;exact wO (h:(none:Option (List yE))=some o_1)
  rintro n_1 _ ⟨v_1,zC,rfl,h⟩
  replace h:q6 F l_1 (k8 F l_1 n_1) v_1 zC=some o_1:=h
  unfold q6 at h
  refine sr [] [3,10,11,12,13] [0] 1 [.own 0 ((zC).length),.sl false 4 (Mp zA l_1.Parts),Ii (lN (l_1.Parts)),Ii v_1,.bool (decide (v_1<(lN (l_1.Parts))))] [Rb 50 3 (Mp z8 zC)] zG an ?_
  refine sq ?_
  refine cd 13 (decide (v_1<(lN (l_1.Parts)))) ?_ ?_
  rotate_left
  ·intro g_2;replace h:=zT g_2 h
   refine wJ (id:=0) (by kernel_rfl) ?_
   cases h
   exact ⟨rfl,(sw [0] [] [.s 3] [.s 0] an)⟩
  intro g_2;replace h:=zS g_2 h
  refine sk ?_
  refine sq ?_
  refine yN (id:=1) (by kernel_rfl) ?_
  refine sq ?_
  obtain ⟨x_1,h_3,h⟩:=bind_some h
  refine rg [(0,{ av:=zA x_1 }),(2,{ id:=1 })] [3,5,10,11,12] [0,1] 2 [.own 0 ((zC).length),Pp 1,.sl false 4 (Mp zA l_1.Parts),Ii (lN (l_1.Parts)),Ii v_1] [Rb 50 3 (Mp z8 zC),Vb 59 (zZ x_1)] zG (ac (xZ h_3:wV (Mp zA l_1.Parts) v_1=some (zA x_1)) an) ?_
  refine sr [] [3,5,10,11,12,18] [0,1] 2 [.own 0 ((zC).length),Pp 1,.sl false 4 (Mp zA l_1.Parts),Ii (lN (l_1.Parts)),Ii v_1,.bool (decide (x_1.Lost>(0:Int)))] [Rb 50 3 (Mp z8 zC),Vb 59 (zZ x_1)] zG an ?_
  refine cd 18 (decide (x_1.Lost>(0:Int))) ?_ ?_
  rotate_left
  ·intro g_3;replace h:=zT g_3 h
   refine sk ?_
   refine rg [] [3,10,11,12] [0] 2 [.own 0 ((zC).length),.sl false 4 (Mp zA l_1.Parts),Ii (lN (l_1.Parts)),Ii (zJ (v_1+(1:Int)))] [Rb 50 3 (Mp z8 zC)] zG an ?_
   exact ⟨_,(sw [0] [] [.s 3,.s 10,.s 11,.s 12] [.s 0] an),_,_,rfl,h⟩
  intro g_3;replace h:=zS g_3 h
  obtain ⟨_,h_4,h⟩:=bind_some h;replace h_4:=vF h_4
  refine rg [(11,{ id:=2 }),(12,{ id:=3,l:=(Mp z8 (zC++([(⟨x_1.Thread,zJ (x_1.Serial - x_1.Lost),x_1.Lost⟩:yE)]:List yE))),n:=((zC++([(⟨x_1.Thread,zJ (x_1.Serial - x_1.Lost),x_1.Lost⟩:yE)]:List yE))).length })] [3,10,11,12] [3] 4 [.own 3 (((zC++([(⟨x_1.Thread,zJ (x_1.Serial - x_1.Lost),x_1.Lost⟩:yE)]:List yE))).length),.sl false 4 (Mp zA l_1.Parts),Ii (lN (l_1.Parts)),Ii v_1] [Rb 50 3 (Mp z8 (zC++([(⟨x_1.Thread,zJ (x_1.Serial - x_1.Lost),x_1.Lost⟩:yE)]:List yE)))] zG (ac (by first | (simp;done) | (simp;omega):(zC).length=((List.map z8 zC)).length) (ac (by first | (simp;done) | (simp;omega):1=((List.map z8 ([(⟨x_1.Thread,zJ (x_1.Serial - x_1.Lost),x_1.Lost⟩:yE)]:List yE))).length) (ac (zD4 _ _:(Mp z8 (zC++([(⟨x_1.Thread,zJ (x_1.Serial - x_1.Lost),x_1.Lost⟩:yE)]:List yE)))=(Mp z8 zC)++(Mp z8 ([(⟨x_1.Thread,zJ (x_1.Serial - x_1.Lost),x_1.Lost⟩:yE)]:List yE))) (ac (by simp:((zC++([(⟨x_1.Thread,zJ (x_1.Serial - x_1.Lost),x_1.Lost⟩:yE)]:List yE))).length=((List.map z8 (zC++([(⟨x_1.Thread,zJ (x_1.Serial - x_1.Lost),x_1.Lost⟩:yE)]:List yE)))).length) (ac (by first | (simp;done) | simpa using h_4:(((List.map z8 zC):List AV).length+((List.map z8 ([(⟨x_1.Thread,zJ (x_1.Serial - x_1.Lost),x_1.Lost⟩:yE)]:List yE)):List AV).length) * 24≤140737488355328) an))))) ?_
  refine rg [] [3,10,11,12] [3] 4 [.own 3 (((zC++([(⟨x_1.Thread,zJ (x_1.Serial - x_1.Lost),x_1.Lost⟩:yE)]:List yE))).length),.sl false 4 (Mp zA l_1.Parts),Ii (lN (l_1.Parts)),Ii (zJ (v_1+(1:Int)))] [Rb 50 3 (Mp z8 (zC++([(⟨x_1.Thread,zJ (x_1.Serial - x_1.Lost),x_1.Lost⟩:yE)]:List yE)))] zG an ?_
  exact ⟨_,(sw [3] [] [.s 3,.s 10,.s 11,.s 12] [.s 0] an),_,_,rfl,h⟩
 refine sr [] [2] [0] 1 [.own 0 ((o_1).length)] [Rb 50 3 (Mp z8 o_1)] zG an ?_
 refine wk [0] [] [.s 2] [.s 0] [(2,.own 0 ((o_1).length))] [(0,Rb 50 3 (Mp z8 o_1))] an ?_
 refine rt ?_
 cases h
 exact ⟨.inr rfl,Nat.le_of_ble_eq_true rfl,by kernel_rfl⟩

theorem zC4 (F:Nat) (l_1:zX) (xX:yC) (r:zH×Bool) (h:zA3 F l_1 xX=some r):zV prog 16 [] [] [yH l_1,yS xX] [] (.tuple [zE r.1,.bool r.2]):=by
 refine yM (fn:=Go.Proofs.Try.f16) (code:=x4 Go.Proofs.Try.f16) (by kernel_rfl) (by kernel_rfl) (Nat.le_of_ble_eq_true (by kernel_rfl)) ?_
 unfold zA3 at h
 refine sr [(0,{ id:=0 }),(1,{ id:=1 }),(2,{ id:=2 })] [2,3,4] [0,1,2] 3 [Pp 0,Pp 1,Pp 2] [Vb 31 (yB l_1),Vb 37 (wY xX),Vb 42 [Ii 0,Ii 0,.str ([]:List Int),Ii 0,Ii 0,.nilsl]] zG an ?_
 refine sq ?_
 refine sq ?_
 obtain ⟨r_1,h_1,h⟩:=bind_some h
 refine rg [(1,{ av:=Ii r_1,l:=[yH l_1] })] [2,3,4,10] [0,1,2] 3 [Pp 0,Pp 1,Pp 2,.bool (r_1 != (0:Int))] [Vb 31 (yB l_1),Vb 37 (wY xX),Vb 42 [Ii 0,Ii 0,.str ([]:List Int),Ii 0,Ii 0,.nilsl]] zG (ar ([yH l_1]:List AV) (ac (rfl:([]:List zN)=[]) (ac (zAI F l_1 r_1 h_1:zV prog 14 [] [] [yH l_1] [] (Ii r_1)) an))) ?_
 refine cd 10 (r_1 != (0:Int)) ?_ ?_
 ·intro g_1;replace h:=zS g_1 h
  refine sr [] [4,5] [2] 3 [Pp 2,.bool false] [Vb 42 [Ii 0,Ii 0,.str ([]:List Int),Ii 0,Ii 0,.nilsl]] zG an ?_
  refine wk [2] [] [.s 4,.s 5] [.a 0 (Vb 42 (yA (⟨(0:Int),(0:Int),([]:List Int),(0:Int),(0:Int),[]⟩:zH)))] [(4,Pp 0),(5,.bool false)] [(0,Vb 42 (yA (⟨(0:Int),(0:Int),([]:List Int),(0:Int),(0:Int),[]⟩:zH)))] (ar 42 (ac (rfl:uO [Ii ((⟨(0:Int),(0:Int),([]:List Int),(0:Int),(0:Int),[]⟩:zH).At),Ii ((⟨(0:Int),(0:Int),([]:List Int),(0:Int),(0:Int),[]⟩:zH).Kind),.str ((⟨(0:Int),(0:Int),([]:List Int),(0:Int),(0:Int),[]⟩:zH).Name),Ii ((⟨(0:Int),(0:Int),([]:List Int),(0:Int),(0:Int),[]⟩:zH).N),Ii ((⟨(0:Int),(0:Int),([]:List Int),(0:Int),(0:Int),[]⟩:zH).M),.sl false 1 (Ms ((⟨(0:Int),(0:Int),([]:List Int),(0:Int),(0:Int),[]⟩:zH).Stack))]=true) (ac (rfl:(Ii 0:AV)=Ii ((⟨(0:Int),(0:Int),([]:List Int),(0:Int),(0:Int),[]⟩:zH).At)) (ac (rfl:(Ii 0:AV)=Ii ((⟨(0:Int),(0:Int),([]:List Int),(0:Int),(0:Int),[]⟩:zH).Kind)) (ac (rfl:(.str ([]:List Int):AV)=.str ((⟨(0:Int),(0:Int),([]:List Int),(0:Int),(0:Int),[]⟩:zH).Name)) (ac (rfl:(Ii 0:AV)=Ii ((⟨(0:Int),(0:Int),([]:List Int),(0:Int),(0:Int),[]⟩:zH).N)) (ac (rfl:(Ii 0:AV)=Ii ((⟨(0:Int),(0:Int),([]:List Int),(0:Int),(0:Int),[]⟩:zH).M)) (ac (rfl:((Ms ((⟨(0:Int),(0:Int),([]:List Int),(0:Int),(0:Int),[]⟩:zH).Stack)):List AV)=[]) an)))))))) ?_
  refine rt ?_
  cases h
  exact ⟨.inr rfl,Nat.le_of_ble_eq_true rfl,by kernel_rfl⟩
 intro g_1;replace h:=zT g_1 h
 refine sk ?_
 refine sq ?_
 refine sr [(2,{ n:=(l_1.Parts).length })] [3,4,13,14,15] [1,2] 3 [Pp 1,Pp 2,.sl false 4 (Mp zA l_1.Parts),Ii (lN (l_1.Parts)),Ii 0] [Vb 37 (wY xX),Vb 42 [Ii 0,Ii 0,.str ([]:List Int),Ii 0,Ii 0,.nilsl]] zG (ac (yL _:((Mp zA l_1.Parts)).length=(l_1.Parts).length) an) ?_
 obtain ⟨o_1,h_2,h⟩:=bind_some h
 refine vV (K1:=(fun e st'=>match o_1 with | (.inl q0)=>e=.normal∧Sub 0 st' (mk [(4,Pp 0)] [(0,Vb 42 [Ii 0,Ii 0,.str ([]:List Int),Ii 0,Ii 0,.nilsl])] 1) | (.inr q1)=>e=.ret∧q9 prog Go.Proofs.Try.f16 0 [] (.tuple [zE q1.1,.bool q1.2]) st')) ?_ ?_
 ·replace h:=h_2
  refine yN (id:=0) (by kernel_rfl) ?_
  refine wk [1,2] [] [.s 3,.s 4,.s 13,.s 14,.s 15] [.s 0,.s 1] [(3,Pp 0),(4,Pp 1),(13,.sl false 4 (Mp zA l_1.Parts)),(14,Ii (lN (l_1.Parts))),(15,Ii 0)] [(0,Vb 37 (wY xX)),(1,Vb 42 [Ii 0,Ii 0,.str ([]:List Int),Ii 0,Ii 0,.nilsl])] an ?_
  refine wE (fun n st=>∃ (v_1:Int),st=mk [(3,Pp 0),(4,Pp 1),(13,.sl false 4 (Mp zA l_1.Parts)),(14,Ii (lN (l_1.Parts))),(15,Ii v_1)] [(0,Vb 37 (wY xX)),(1,Vb 42 [Ii 0,Ii 0,.str ([]:List Int),Ii 0,Ii 0,.nilsl])] 2∧nH F l_1 xX n v_1=some o_1) F (by kernel_rfl) ⟨_,rfl,h⟩ ?_ ?_
  ·rintro _ ⟨_,_,h⟩;exact wO (h:(none:Option (Unit⊕(zH×Bool)))=some o_1)
  rintro n_1 _ ⟨v_1,rfl,h⟩
  replace h:tH F l_1 xX (nH F l_1 xX n_1) v_1=some o_1:=h
  unfold tH at h
  refine sr [] [3,4,13,14,15,16] [0,1] 2 [Pp 0,Pp 1,.sl false 4 (Mp zA l_1.Parts),Ii (lN (l_1.Parts)),Ii v_1,.bool (decide (v_1<(lN (l_1.Parts))))] [Vb 37 (wY xX),Vb 42 [Ii 0,Ii 0,.str ([]:List Int),Ii 0,Ii 0,.nilsl]] zG an ?_
  refine sq ?_
  refine cd 16 (decide (v_1<(lN (l_1.Parts)))) ?_ ?_
  rotate_left
  ·intro g_2;replace h:=zT g_2 h
   refine wJ (id:=0) (by kernel_rfl) ?_
   cases h
   exact ⟨rfl,(sw [1] [] [.s 4] [.s 0] an)⟩
  intro g_2;replace h:=zS g_2 h
  refine sk ?_
  refine sq ?_
  refine yN (id:=1) (by kernel_rfl) ?_
  refine sq ?_
  obtain ⟨x_1,h_3,h⟩:=bind_some h
  refine rg [(0,{ av:=zA x_1 }),(2,{ id:=2 })] [3,4,7,13,14,15] [0,1,2] 3 [Pp 0,Pp 1,Pp 2,.sl false 4 (Mp zA l_1.Parts),Ii (lN (l_1.Parts)),Ii v_1] [Vb 37 (wY xX),Vb 42 [Ii 0,Ii 0,.str ([]:List Int),Ii 0,Ii 0,.nilsl],Vb 59 (zZ x_1)] zG (ac (xZ h_3:wV (Mp zA l_1.Parts) v_1=some (zA x_1)) an) ?_
  refine sq ?_
  refine wI (mk [(3,Pp 0),(4,Pp 1),(7,Pp 2),(13,.sl false 4 (Mp zA l_1.Parts)),(14,Ii (lN (l_1.Parts))),(15,Ii v_1),(41,.bool ((x_1.Thread==xX.Thread)&&(decide (xX.Serial≥x_1.Serial)&&decide (xX.Serial<(zJ (x_1.Serial+(lN (x_1.Events))))))))] [(0,Vb 37 (wY xX)),(1,Vb 42 [Ii 0,Ii 0,.str ([]:List Int),Ii 0,Ii 0,.nilsl]),(2,Vb 59 (zZ x_1))] 3) ?_ ?_
  ·rcases bft (x_1.Thread==xX.Thread) with x5 | x5
   ·rcases bft (decide (xX.Serial≥x_1.Serial)) with x3 | x3
    ·refine rg [(11,Ht),(19,{ n:=(x_1.Events).length }),(22,Ht)] [3,4,7,13,14,15,25,26,27,28,29,32,33,34,35,36,37,38,39,40,41] [0,1,2] 3 [Pp 0,Pp 1,Pp 2,.sl false 4 (Mp zA l_1.Parts),Ii (lN (l_1.Parts)),Ii v_1,.ptr 0 0 0 1,Ii xX.Serial,.ptr 2 0 0 1,Ii x_1.Serial,.bool (decide (xX.Serial≥x_1.Serial)),.ptr 0 0 0 1,Ii xX.Serial,.ptr 2 0 0 1,Ii x_1.Serial,.ptr 2 0 0 3,.sl false 6 (Mp zE x_1.Events),Ii (lN (x_1.Events)),Ii (zJ (x_1.Serial+(lN (x_1.Events)))),.bool (decide (xX.Serial<(zJ (x_1.Serial+(lN (x_1.Events)))))),.bool (decide (xX.Serial<(zJ (x_1.Serial+(lN (x_1.Events))))))] [Vb 37 (wY xX),Vb 42 [Ii 0,Ii 0,.str ([]:List Int),Ii 0,Ii 0,.nilsl],Vb 59 (zZ x_1)] zG (ac x5 (ac x5 (ac x5 (ac x5 (ac x5 (ac x5 (ac x3 (ac x3 (ac x3 (ac x3 (ac x3 (ac x3 (ac x3 (ac (yL _:((Mp zE x_1.Events)).length=(x_1.Events).length) (ac x3 (ac x3 (ac x3 an))))))))))))))))) ?_
     exact ⟨rfl,(sw [0,1,2] [] [.s 3,.s 4,.s 7,.s 13,.s 14,.s 15,.a 41 (.bool ((x_1.Thread==xX.Thread)&&(decide (xX.Serial≥x_1.Serial)&&decide (xX.Serial<(zJ (x_1.Serial+(lN (x_1.Events))))))))] [.s 0,.s 1,.s 2] (ac (congrArg AV.bool (tT x5 (tT x3 rfl)):(.bool (decide (xX.Serial<(zJ (x_1.Serial+(lN (x_1.Events)))))):AV)=.bool ((x_1.Thread==xX.Thread)&&(decide (xX.Serial≥x_1.Serial)&&decide (xX.Serial<(zJ (x_1.Serial+(lN (x_1.Events)))))))) an))⟩
    ·refine rg [(11,Ht),(13,Hg),(14,Hg),(15,Hg),(16,Hg),(17,Hg),(18,Hg),(19,Hg),(20,Hg),(21,Hg),(22,Hf)] [3,4,7,13,14,15,25,26,27,28,29,32,33,34,35,36,37,38,39,40,41] [0,1,2] 3 [Pp 0,Pp 1,Pp 2,.sl false 4 (Mp zA l_1.Parts),Ii (lN (l_1.Parts)),Ii v_1,.ptr 0 0 0 1,Ii xX.Serial,.ptr 2 0 0 1,Ii x_1.Serial,.bool (decide (xX.Serial≥x_1.Serial)),.tuple [],.tuple [],.tuple [],.tuple [],.tuple [],.tuple [],.tuple [],.tuple [],.tuple [],.bool false] [Vb 37 (wY xX),Vb 42 [Ii 0,Ii 0,.str ([]:List Int),Ii 0,Ii 0,.nilsl],Vb 59 (zZ x_1)] zG (ac x5 (ac x5 (ac x5 (ac x5 (ac x5 (ac x5 (ac x3 (ac x3 (ac x3 (ac x3 (ac x3 (ac x3 (ac x3 (ac x3 (ac x3 (ac x3 an)))))))))))))))) ?_
     exact ⟨rfl,(sw [0,1,2] [] [.s 3,.s 4,.s 7,.s 13,.s 14,.s 15,.a 41 (.bool ((x_1.Thread==xX.Thread)&&(decide (xX.Serial≥x_1.Serial)&&decide (xX.Serial<(zJ (x_1.Serial+(lN (x_1.Events))))))))] [.s 0,.s 1,.s 2] (ac (congrArg AV.bool (tT x5 (zAO x3)):(.bool false:AV)=.bool ((x_1.Thread==xX.Thread)&&(decide (xX.Serial≥x_1.Serial)&&decide (xX.Serial<(zJ (x_1.Serial+(lN (x_1.Events)))))))) an))⟩
   ·refine rg [(6,Hg),(7,Hg),(8,Hg),(9,Hg),(10,Hg),(11,Hf),(13,Hg),(14,Hg),(15,Hg),(16,Hg),(17,Hg),(18,Hg),(19,Hg),(20,Hg),(21,Hg),(22,Hf)] [3,4,7,13,14,15,25,26,27,28,29,32,33,34,35,36,37,38,39,40,41] [0,1,2] 3 [Pp 0,Pp 1,Pp 2,.sl false 4 (Mp zA l_1.Parts),Ii (lN (l_1.Parts)),Ii v_1,.tuple [],.tuple [],.tuple [],.tuple [],.tuple [],.tuple [],.tuple [],.tuple [],.tuple [],.tuple [],.tuple [],.tuple [],.tuple [],.tuple [],.bool false] [Vb 37 (wY xX),Vb 42 [Ii 0,Ii 0,.str ([]:List Int),Ii 0,Ii 0,.nilsl],Vb 59 (zZ x_1)] zG (ac x5 (ac x5 (ac x5 (ac x5 (ac x5 (ac x5 (ac (rfl:false=!true) (ac (rfl:false=!true) (ac (rfl:false=!true) (ac (rfl:false=!true) (ac (rfl:false=!true) (ac (rfl:false=!true) (ac (rfl:false=!true) (ac (rfl:false=!true) (ac (rfl:false=!true) (ar false an)))))))))))))))) ?_
    exact ⟨rfl,(sw [0,1,2] [] [.s 3,.s 4,.s 7,.s 13,.s 14,.s 15,.a 41 (.bool ((x_1.Thread==xX.Thread)&&(decide (xX.Serial≥x_1.Serial)&&decide (xX.Serial<(zJ (x_1.Serial+(lN (x_1.Events))))))))] [.s 0,.s 1,.s 2] (ac (congrArg AV.bool (zAO x5):(.bool false:AV)=.bool ((x_1.Thread==xX.Thread)&&(decide (xX.Serial≥x_1.Serial)&&decide (xX.Serial<(zJ (x_1.Serial+(lN (x_1.Events)))))))) an))⟩
  refine cd 41 ((x_1.Thread==xX.Thread)&&(decide (xX.Serial≥x_1.Serial)&&decide (xX.Serial<(zJ (x_1.Serial+(lN (x_1.Events))))))) ?_ ?_
  rotate_left
  ·intro g_3;replace h:=zT g_3 h
   refine sk ?_
   refine rg [] [3,4,13,14,15] [0,1] 3 [Pp 0,Pp 1,.sl false 4 (Mp zA l_1.Parts),Ii (lN (l_1.Parts)),Ii (zJ (v_1+(1:Int)))] [Vb 37 (wY xX),Vb 42 [Ii 0,Ii 0,.str ([]:List Int),Ii 0,Ii 0,.nilsl]] zG an ?_
   exact ⟨_,(sw [0,1] [] [.s 3,.s 4,.s 13,.s 14,.s 15] [.s 0,.s 1] an),_,rfl,h⟩
  intro g_3;replace h:=zS g_3 h
  refine sq ?_
  obtain ⟨x_2,h_4,h⟩:=bind_some h
  refine rg [(7,{ av:=zE x_2 })] [4,5] [1] 3 [Pp 1,.bool true] [Vb 42 (yA x_2)] zG (ac (xZ h_4:wV (Mp zE x_1.Events) (zJ (xX.Serial - x_1.Serial))=some (zE x_2)) an) ?_
  refine wk [1] [] [.s 4,.s 5] [.s 0] [(4,Pp 0),(5,.bool true)] [(0,Vb 42 (yA x_2))] an ?_
  refine rt ?_
  cases h
  exact ⟨rfl,Nat.le_of_ble_eq_true rfl,by kernel_rfl⟩
 intro e st1 hk
 rcases o_1 with q_1 | q_2
 rotate_left
 ·obtain ⟨rfl,hf⟩:=hk
  cases h
  exact ⟨st1,Sub.refl _ _,.inr rfl,hf⟩
 obtain ⟨rfl,hs⟩:=hk
 refine ⟨_,hs,?_⟩
 refine sr [] [4,5] [0] 1 [Pp 0,.bool false] [Vb 42 [Ii 0,Ii 0,.str ([]:List Int),Ii 0,Ii 0,.nilsl]] zG an ?_
 refine wk [0] [] [.s 4,.s 5] [.a 0 (Vb 42 (yA (⟨(0:Int),(0:Int),([]:List Int),(0:Int),(0:Int),[]⟩:zH)))] [(4,Pp 0),(5,.bool false)] [(0,Vb 42 (yA (⟨(0:Int),(0:Int),([]:List Int),(0:Int),(0:Int),[]⟩:zH)))] (ar 42 (ac (rfl:uO [Ii ((⟨(0:Int),(0:Int),([]:List Int),(0:Int),(0:Int),[]⟩:zH).At),Ii ((⟨(0:Int),(0:Int),([]:List Int),(0:Int),(0:Int),[]⟩:zH).Kind),.str ((⟨(0:Int),(0:Int),([]:List Int),(0:Int),(0:Int),[]⟩:zH).Name),Ii ((⟨(0:Int),(0:Int),([]:List Int),(0:Int),(0:Int),[]⟩:zH).N),Ii ((⟨(0:Int),(0:Int),([]:List Int),(0:Int),(0:Int),[]⟩:zH).M),.sl false 1 (Ms ((⟨(0:Int),(0:Int),([]:List Int),(0:Int),(0:Int),[]⟩:zH).Stack))]=true) (ac (rfl:(Ii 0:AV)=Ii ((⟨(0:Int),(0:Int),([]:List Int),(0:Int),(0:Int),[]⟩:zH).At)) (ac (rfl:(Ii 0:AV)=Ii ((⟨(0:Int),(0:Int),([]:List Int),(0:Int),(0:Int),[]⟩:zH).Kind)) (ac (rfl:(.str ([]:List Int):AV)=.str ((⟨(0:Int),(0:Int),([]:List Int),(0:Int),(0:Int),[]⟩:zH).Name)) (ac (rfl:(Ii 0:AV)=Ii ((⟨(0:Int),(0:Int),([]:List Int),(0:Int),(0:Int),[]⟩:zH).N)) (ac (rfl:(Ii 0:AV)=Ii ((⟨(0:Int),(0:Int),([]:List Int),(0:Int),(0:Int),[]⟩:zH).M)) (ac (rfl:((Ms ((⟨(0:Int),(0:Int),([]:List Int),(0:Int),(0:Int),[]⟩:zH).Stack)):List AV)=[]) an)))))))) ?_
 refine rt ?_
 cases h
 exact ⟨.inr rfl,Nat.le_of_ble_eq_true rfl,by kernel_rfl⟩

theorem zAz (F:Nat) (r:Bool) (h:pE F=some r):zV prog 9 [] [] [] [] (.bool r):=by
 refine yM (fn:=Go.Proofs.Try.f9) (code:=x4 Go.Proofs.Try.f9) (by kernel_rfl) (by kernel_rfl) (Nat.le_of_ble_eq_true (by kernel_rfl)) ?_
 unfold pE at h
 refine sr [] [] [] 0 [] [] zG an ?_
 refine sr [(1,{ id:=0 }),(3,{ id:=1 }),(5,{ id:=2 })] [1] [0,1,2] 3 [Pp 2] [Rb 66 3 (Mp zF ([(⟨(1:Int),([116,49]:List Int),(0:Int)⟩:zP)]:List zP)),Rb 68 2 (Mp zD ([(⟨(0:Int),(0:Int)⟩:zL)]:List zL)),Vb 26 [.own 0 1,.own 1 1,.nilsl]] zG an ?_
 refine sq ?_
 refine wk [2,1] [0] [.s 1] [.a 0 (Vb 26 [.sl false 3 (Mp zF ([(⟨(1:Int),([116,49]:List Int),(0:Int)⟩:zP)]:List zP)),.own 1 1,.nilsl]),.s 1] [(1,Pp 0)] [(0,Vb 26 [.sl false 3 (Mp zF ([(⟨(1:Int),([116,49]:List Int),(0:Int)⟩:zP)]:List zP)),.own 1 1,.nilsl]),(1,Rb 68 2 (Mp zD ([(⟨(0:Int),(0:Int)⟩:zL)]:List zL)))] (ar 26 (ac (rfl:uO [.sl false 3 (Mp zF ([(⟨(1:Int),([116,49]:List Int),(0:Int)⟩:zP)]:List zP)),.own 1 1,.nilsl]=true) (ac (by first | (simp;done) | (simp;omega):1=((List.map zF ([(⟨(1:Int),([116,49]:List Int),(0:Int)⟩:zP)]:List zP))).length) (ar 3 (ar ((Mp zF ([(⟨(1:Int),([116,49]:List Int),(0:Int)⟩:zP)]:List zP)):List AV) (ac (rfl:(!false||false)=true) (ac (rfl:(.own 1 1:AV)=.own 1 1) (ac (rfl:(.nilsl:AV)=.nilsl) an)))))))) ?_
 refine wk [0] [1] [.s 1] [.a 0 (Vb 26 [.sl false 3 (Mp zF ([(⟨(1:Int),([116,49]:List Int),(0:Int)⟩:zP)]:List zP)),.sl false 2 (Mp zD ([(⟨(0:Int),(0:Int)⟩:zL)]:List zL)),.nilsl])] [(1,Pp 0)] [(0,Vb 26 [.sl false 3 (Mp zF ([(⟨(1:Int),([116,49]:List Int),(0:Int)⟩:zP)]:List zP)),.sl false 2 (Mp zD ([(⟨(0:Int),(0:Int)⟩:zL)]:List zL)),.nilsl])] (ar 26 (ac (rfl:uO [.sl false 3 (Mp zF ([(⟨(1:Int),([116,49]:List Int),(0:Int)⟩:zP)]:List zP)),.sl false 2 (Mp zD ([(⟨(0:Int),(0:Int)⟩:zL)]:List zL)),.nilsl]=true) (ac (by first | (simp;done) | (simp;omega):1=((List.map zD ([(⟨(0:Int),(0:Int)⟩:zL)]:List zL))).length) (ar 3 (ar ((Mp zF ([(⟨(1:Int),([116,49]:List Int),(0:Int)⟩:zP)]:List zP)):List AV) (ac (rfl:(!false||false)=true) (ar 2 (ar ((Mp zD ([(⟨(0:Int),(0:Int)⟩:zL)]:List zL)):List AV) (ac (rfl:(!false||false)=true) (ac (rfl:(.nilsl:AV)=.nilsl) an)))))))))) ?_
 obtain ⟨r_1,h_1,h⟩:=bind_some h
 obtain ⟨r_2,h_2,h⟩:=bind_some h
 obtain ⟨r_3,h_3,h⟩:=bind_some h
 refine rg [(1,{ id:=1 }),(2,{ av:=zA r_1,frz:=[1],l:=[Ii 0,Ii 0,.sl false 1 (Mi ([(1:Int),(2:Int)]:List Int))] }),(3,{ id:=2 }),(4,{ av:=zA r_2,frz:=[2],l:=[Ii 2,Ii 0,.sl false 1 (Mi ([(2:Int),(3:Int)]:List Int))] }),(5,{ id:=3 }),(6,{ av:=.tuple [yH r_3.1,Ii r_3.2],frz:=[3],l:=[.agg [.sl false 3 (Mp zF ([(⟨(1:Int),([116,49]:List Int),(0:Int)⟩:zP)]:List zP)),.sl false 2 (Mp zD ([(⟨(0:Int),(0:Int)⟩:zL)]:List zL)),.nilsl],.sl false 4 (Mp zA ([r_1,r_2]:List zB))] }),(10,{ id:=4 })] [1,2,3] [0,4] 5 [Pp 0,Pp 4,Ii r_3.2] [Vb 26 [.sl false 3 (Mp zF ([(⟨(1:Int),([116,49]:List Int),(0:Int)⟩:zP)]:List zP)),.sl false 2 (Mp zD ([(⟨(0:Int),(0:Int)⟩:zL)]:List zL)),.nilsl],Vb 31 (yB r_3.1)] zG (ac (by first | (simp;done) | (simp;omega):2=((List.map (AV.int .i64) ([(1:Int),(2:Int)]:List Int))).length) (ar ([Ii 0,Ii 0,.sl false 1 (Mi ([(1:Int),(2:Int)]:List Int))]:List AV) (ac (rfl:([]:List zN)=[]) (ac (zAC F (0:Int) (0:Int) ([(1:Int),(2:Int)]:List Int) r_1 h_1:zV prog 26 [] [] [Ii 0,Ii 0,.sl false 1 (Mi ([(1:Int),(2:Int)]:List Int))] [] (zA r_1)) (ac (by first | (simp;done) | (simp;omega):2=((List.map (AV.int .i64) ([(2:Int),(3:Int)]:List Int))).length) (ar ([Ii 2,Ii 0,.sl false 1 (Mi ([(2:Int),(3:Int)]:List Int))]:List AV) (ac (rfl:([]:List zN)=[]) (ac (zAC F (2:Int) (0:Int) ([(2:Int),(3:Int)]:List Int) r_2 h_2:zV prog 26 [] [] [Ii 2,Ii 0,.sl false 1 (Mi ([(2:Int),(3:Int)]:List Int))] [] (zA r_2)) (ac (by first | (simp;done) | (simp;omega):2=((List.map zA ([r_1,r_2]:List zB))).length) (ar ([.agg [.sl false 3 (Mp zF ([(⟨(1:Int),([116,49]:List Int),(0:Int)⟩:zP)]:List zP)),.sl false 2 (Mp zD ([(⟨(0:Int),(0:Int)⟩:zL)]:List zL)),.nilsl],.sl false 4 (Mp zA ([r_1,r_2]:List zB))]:List AV) (ac (rfl:([]:List zN)=[]) (ac (zBk (args':=[xO (⟨([(⟨(1:Int),([116,49]:List Int),(0:Int)⟩:zP)]:List zP),([(⟨(0:Int),(0:Int)⟩:zL)]:List zL),[]⟩:zR),.sl false 4 (Mp zA ([r_1,r_2]:List zB))]) (zBm F (⟨([(⟨(1:Int),([116,49]:List Int),(0:Int)⟩:zP)]:List zP),([(⟨(0:Int),(0:Int)⟩:zL)]:List zL),[]⟩:zR) ([r_1,r_2]:List zB) r_3 h_3) rfl ⟨rfl,rfl,rfl,rfl,rfl,rfl,rfl,rfl,rfl,rfl,trivial⟩:zV prog 10 [] [] [.agg [.sl false 3 (Mp zF ([(⟨(1:Int),([116,49]:List Int),(0:Int)⟩:zP)]:List zP)),.sl false 2 (Mp zD ([(⟨(0:Int),(0:Int)⟩:zL)]:List zL)),.nilsl],.sl false 4 (Mp zA ([r_1,r_2]:List zB))] [] (.tuple [yH r_3.1,Ii r_3.2])) an)))))))))))) ?_
 refine sq ?_
 obtain ⟨r_4,h_4,h⟩:=bind_some h
 obtain ⟨r_5,h_5,h⟩:=bind_some h
 refine rg [(1,{ id:=5 }),(2,{ av:=zA r_4,frz:=[5],l:=[Ii 3,Ii 3,.sl false 1 (Mi ([(5:Int)]:List Int))] }),(3,{ id:=6 }),(4,{ av:=.tuple [yH r_5.1,Ii r_5.2],frz:=[6],l:=[.agg [.sl false 3 (Mp zF ([(⟨(1:Int),([116,49]:List Int),(0:Int)⟩:zP)]:List zP)),.sl false 2 (Mp zD ([(⟨(0:Int),(0:Int)⟩:zL)]:List zL)),.nilsl],.sl false 4 (Mp zA ([r_4]:List zB))] }),(8,{ id:=7 })] [1,2,3,4,5] [0,4,7] 8 [Pp 0,Pp 4,Ii r_3.2,Pp 7,Ii r_5.2] [Vb 26 [.sl false 3 (Mp zF ([(⟨(1:Int),([116,49]:List Int),(0:Int)⟩:zP)]:List zP)),.sl false 2 (Mp zD ([(⟨(0:Int),(0:Int)⟩:zL)]:List zL)),.nilsl],Vb 31 (yB r_3.1),Vb 31 (yB r_5.1)] zG (ac (by first | (simp;done) | (simp;omega):1=((List.map (AV.int .i64) ([(5:Int)]:List Int))).length) (ar ([Ii 3,Ii 3,.sl false 1 (Mi ([(5:Int)]:List Int))]:List AV) (ac (rfl:([]:List zN)=[]) (ac (zAC F (3:Int) (3:Int) ([(5:Int)]:List Int) r_4 h_4:zV prog 26 [] [] [Ii 3,Ii 3,.sl false 1 (Mi ([(5:Int)]:List Int))] [] (zA r_4)) (ac (by first | (simp;done) | (simp;omega):1=((List.map zA ([r_4]:List zB))).length) (ar ([.agg [.sl false 3 (Mp zF ([(⟨(1:Int),([116,49]:List Int),(0:Int)⟩:zP)]:List zP)),.sl false 2 (Mp zD ([(⟨(0:Int),(0:Int)⟩:zL)]:List zL)),.nilsl],.sl false 4 (Mp zA ([r_4]:List zB))]:List AV) (ac (rfl:([]:List zN)=[]) (ac (zBk (args':=[xO (⟨([(⟨(1:Int),([116,49]:List Int),(0:Int)⟩:zP)]:List zP),([(⟨(0:Int),(0:Int)⟩:zL)]:List zL),[]⟩:zR),.sl false 4 (Mp zA ([r_4]:List zB))]) (zBm F (⟨([(⟨(1:Int),([116,49]:List Int),(0:Int)⟩:zP)]:List zP),([(⟨(0:Int),(0:Int)⟩:zL)]:List zL),[]⟩:zR) ([r_4]:List zB) r_5 h_5) rfl ⟨rfl,rfl,rfl,rfl,rfl,rfl,rfl,rfl,rfl,rfl,trivial⟩:zV prog 10 [] [] [.agg [.sl false 3 (Mp zF ([(⟨(1:Int),([116,49]:List Int),(0:Int)⟩:zP)]:List zP)),.sl false 2 (Mp zD ([(⟨(0:Int),(0:Int)⟩:zL)]:List zL)),.nilsl],.sl false 4 (Mp zA ([r_4]:List zB))] [] (.tuple [yH r_5.1,Ii r_5.2])) an)))))))) ?_
 refine sq ?_
 obtain ⟨r_6,h_6,h⟩:=bind_some h
 obtain ⟨r_7,h_7,h⟩:=bind_some h
 refine rg [(1,{ id:=8 }),(2,{ av:=zA r_6,frz:=[8],l:=[Ii 3,Ii 2,.sl false 1 (Mi ([(5:Int)]:List Int))] }),(3,{ id:=9 }),(4,{ av:=.tuple [yH r_7.1,Ii r_7.2],frz:=[9],l:=[.agg [.sl false 3 (Mp zF ([(⟨(1:Int),([116,49]:List Int),(0:Int)⟩:zP)]:List zP)),.sl false 2 (Mp zD ([(⟨(0:Int),(0:Int)⟩:zL)]:List zL)),.nilsl],.sl false 4 (Mp zA ([r_6]:List zB))] }),(8,{ id:=10 })] [2,3,4,5,7] [4,7] 11 [Pp 4,Ii r_3.2,Pp 7,Ii r_5.2,Ii r_7.2] [Vb 31 (yB r_3.1),Vb 31 (yB r_5.1)] zG (ac (by first | (simp;done) | (simp;omega):1=((List.map (AV.int .i64) ([(5:Int)]:List Int))).length) (ar ([Ii 3,Ii 2,.sl false 1 (Mi ([(5:Int)]:List Int))]:List AV) (ac (rfl:([]:List zN)=[]) (ac (zAC F (3:Int) (2:Int) ([(5:Int)]:List Int) r_6 h_6:zV prog 26 [] [] [Ii 3,Ii 2,.sl false 1 (Mi ([(5:Int)]:List Int))] [] (zA r_6)) (ac (by first | (simp;done) | (simp;omega):1=((List.map zA ([r_6]:List zB))).length) (ar ([.agg [.sl false 3 (Mp zF ([(⟨(1:Int),([116,49]:List Int),(0:Int)⟩:zP)]:List zP)),.sl false 2 (Mp zD ([(⟨(0:Int),(0:Int)⟩:zL)]:List zL)),.nilsl],.sl false 4 (Mp zA ([r_6]:List zB))]:List AV) (ac (rfl:([]:List zN)=[]) (ac (zBk (args':=[xO (⟨([(⟨(1:Int),([116,49]:List Int),(0:Int)⟩:zP)]:List zP),([(⟨(0:Int),(0:Int)⟩:zL)]:List zL),[]⟩:zR),.sl false 4 (Mp zA ([r_6]:List zB))]) (zBm F (⟨([(⟨(1:Int),([116,49]:List Int),(0:Int)⟩:zP)]:List zP),([(⟨(0:Int),(0:Int)⟩:zL)]:List zL),[]⟩:zR) ([r_6]:List zB) r_7 h_7) rfl ⟨rfl,rfl,rfl,rfl,rfl,rfl,rfl,rfl,rfl,rfl,trivial⟩:zV prog 10 [] [] [.agg [.sl false 3 (Mp zF ([(⟨(1:Int),([116,49]:List Int),(0:Int)⟩:zP)]:List zP)),.sl false 2 (Mp zD ([(⟨(0:Int),(0:Int)⟩:zL)]:List zL)),.nilsl],.sl false 4 (Mp zA ([r_6]:List zB))] [] (.tuple [yH r_7.1,Ii r_7.2])) an)))))))) ?_
 refine sq ?_
 obtain ⟨r_8,h_8,h⟩:=bind_some h
 refine rg [(1,{ av:=.own 0 ((r_8).length),ids:=[11],l:=[yH r_5.1],post:=[(.row 50 3 (Mp z8 r_8))] })] [2,3,5,7,8] [4,11] 12 [Pp 4,Ii r_3.2,Ii r_5.2,Ii r_7.2,.own 11 ((r_8).length)] [Vb 31 (yB r_3.1),Rb 50 3 (Mp z8 r_8)] zG (ar ([yH r_5.1]:List AV) (ac (rfl:([]:List zN)=[]) (ac (zEx F r_5.1 r_8 h_8:zV prog 18 [] [] [yH r_5.1] [(.row 50 3 (Mp z8 r_8))] (.own 0 ((r_8).length))) an))) ?_
 refine sq ?_
 obtain ⟨r_9,h_9,h⟩:=bind_some h
 refine rg [(2,{ av:=.tuple [zE r_9.1,.bool r_9.2],l:=[yH r_3.1,.agg [Ii 1,Ii 3]] }),(6,{ id:=12 })] [2,3,5,7,8,9,10] [4,11,12] 13 [Pp 4,Ii r_3.2,Ii r_5.2,Ii r_7.2,.own 11 ((r_8).length),Pp 12,.bool r_9.2] [Vb 31 (yB r_3.1),Rb 50 3 (Mp z8 r_8),Vb 42 (yA r_9.1)] zG (ar ([yH r_3.1,.agg [Ii 1,Ii 3]]:List AV) (ac (rfl:([]:List zN)=[]) (ac (zBk (args':=[yH r_3.1,yS (⟨(1:Int),(3:Int)⟩:yC)]) (zC4 F r_3.1 (⟨(1:Int),(3:Int)⟩:yC) r_9 h_9) rfl ⟨rfl,rfl,rfl,rfl,rfl,rfl,rfl,rfl,rfl,rfl,rfl,rfl,rfl,rfl,trivial⟩:zV prog 16 [] [] [yH r_3.1,.agg [Ii 1,Ii 3]] [] (.tuple [zE r_9.1,.bool r_9.2])) an))) ?_
 refine sq ?_
 obtain ⟨p_1,h_13,h⟩:=bind_some h
 refine wI (mk [(0,.bool p_1)] [] 0) ?_ ?_
 ·replace h:=h_13
  rcases bft (r_3.2==(0:Int)) with zK | zK
  ·replace h:=zS zK h
   rcases bft ((lN (r_3.1.Parts))==(1:Int)) with zI | zI
   ·replace h:=zS zI h
    obtain ⟨x_1,qJ,h⟩:=bind_some h
    rcases bft ((lN (x_1.Events))==(4:Int)) with zW | zW
    ·replace h:=zS zW h
     rcases bft (r_5.2==(0:Int)) with z6 | z6
     ·replace h:=zS z6 h
      rcases bft ((lN (r_8))==(1:Int)) with y2 | y2
      ·replace h:=zS y2 h
       obtain ⟨x_2,qR,h⟩:=bind_some h
       rcases bft (decide (x_2=(⟨(1:Int),(0:Int),(3:Int)⟩:yE))) with x7 | x7
       ·replace h:=zS x7 h
        rcases bft (r_7.2==(11:Int)) with x5 | x5
        ·replace h:=zS x5 h
         rcases Bool.eq_false_or_eq_true r_9.2 with x3 | x3
         ·replace h:=zS x3 h
          rcases bft (r_9.1.At==(3:Int)) with wF | wF
          ·replace h:=zS wF h
           obtain ⟨xE,zFl,h⟩:=bind_some h
           refine rg [(5,{ n:=(r_3.1.Parts).length }),(7,Ht),(11,{ av:=zA x_1 }),(14,{ n:=(x_1.Events).length }),(16,Ht),(20,Ht),(25,Ht),(29,{ av:=z8 x_2 }),(31,{ b:=(decide (x_2=(⟨(1:Int),(0:Int),(3:Int)⟩:yE))),mks:=[.int .i64,.int .i64,.int .i64] }),(32,Ht),(36,Ht),(39,Ht),(44,Ht),(47,{ av:=Ii xE,l:=[yH r_3.1] }),(49,Ht)] [0] [] 13 [.bool (xE==(0:Int))] [] zG (ac zK (ac zK (ac zK (ac (yL _:((Mp zA r_3.1.Parts)).length=(r_3.1.Parts).length) (ac zK (ac zK (ac zI (ac zI (ac zI (ac (xZ qJ:wV (Mp zA r_3.1.Parts) (0:Int)=some (zA x_1)) (ac zI (ac zI (ac zI (ac (yL _:((Mp zE x_1.Events)).length=(x_1.Events).length) (ac zI (ac zI (ac zW (ac zW (ac zW (ac z6 (ac z6 (ac z6 (ac z6 (ac y2 (ac y2 (ac (qB qR:(0:Int)≤(0:Int)) (ac (by first | (simp;done) | simpa using qC qR:(0:Int)<(((r_8).length:Nat):Int)) (ac y2 (ac (jI qR:(Mp z8 r_8)[0]?=some (z8 x_2)) (ac y2 (ac y2 (ac (zCJ:kP prog 50 [.int .i64,.int .i64,.int .i64]) (ac (zAH (f:=z8) kV x_2 (⟨(1:Int),(0:Int),(3:Int)⟩:yE):((decide (x_2=(⟨(1:Int),(0:Int),(3:Int)⟩:yE)))=true↔AV.agg [Ii x_2.Thread,Ii x_2.Serial,Ii x_2.Count]=AV.agg [Ii 1,Ii 0,Ii 3])) (ac y2 (ac x7 (ac x7 (ac x7 (ac x5 (ac x5 (ac x3 (ac x3 (ac x3 (ac x3 (ac wF (ac wF (ar ([yH r_3.1]:List AV) (ac (rfl:([]:List zN)=[]) (ac (zAI F r_3.1 xE zFl:zV prog 14 [] [] [yH r_3.1] [] (Ii xE)) (ac wF (ac wF an)))))))))))))))))))))))))))))))))))))))))))))))))) ?_
           cases h
           exact ⟨rfl,(sw [] [] [.s 0] [] an)⟩
          ·replace h:=zT wF h
           refine rg [(5,{ n:=(r_3.1.Parts).length }),(7,Ht),(11,{ av:=zA x_1 }),(14,{ n:=(x_1.Events).length }),(16,Ht),(20,Ht),(25,Ht),(29,{ av:=z8 x_2 }),(31,{ b:=(decide (x_2=(⟨(1:Int),(0:Int),(3:Int)⟩:yE))),mks:=[.int .i64,.int .i64,.int .i64] }),(32,Ht),(36,Ht),(39,Ht),(44,Ht),(46,Hg),(47,Hg),(48,Hg),(49,Hf)] [0] [] 13 [.bool false] [] zG (ac zK (ac zK (ac zK (ac (yL _:((Mp zA r_3.1.Parts)).length=(r_3.1.Parts).length) (ac zK (ac zK (ac zI (ac zI (ac zI (ac (xZ qJ:wV (Mp zA r_3.1.Parts) (0:Int)=some (zA x_1)) (ac zI (ac zI (ac zI (ac (yL _:((Mp zE x_1.Events)).length=(x_1.Events).length) (ac zI (ac zI (ac zW (ac zW (ac zW (ac z6 (ac z6 (ac z6 (ac z6 (ac y2 (ac y2 (ac (qB qR:(0:Int)≤(0:Int)) (ac (by first | (simp;done) | simpa using qC qR:(0:Int)<(((r_8).length:Nat):Int)) (ac y2 (ac (jI qR:(Mp z8 r_8)[0]?=some (z8 x_2)) (ac y2 (ac y2 (ac (zCJ:kP prog 50 [.int .i64,.int .i64,.int .i64]) (ac (zAH (f:=z8) kV x_2 (⟨(1:Int),(0:Int),(3:Int)⟩:yE):((decide (x_2=(⟨(1:Int),(0:Int),(3:Int)⟩:yE)))=true↔AV.agg [Ii x_2.Thread,Ii x_2.Serial,Ii x_2.Count]=AV.agg [Ii 1,Ii 0,Ii 3])) (ac y2 (ac x7 (ac x7 (ac x7 (ac x5 (ac x5 (ac x3 (ac x3 (ac x3 (ac x3 (ac wF (ac wF (ac wF (ac wF an))))))))))))))))))))))))))))))))))))))))))))))) ?_
           cases h
           exact ⟨rfl,(sw [] [] [.s 0] [] an)⟩
         ·replace h:=zT x3 h
          refine rg [(5,{ n:=(r_3.1.Parts).length }),(7,Ht),(11,{ av:=zA x_1 }),(14,{ n:=(x_1.Events).length }),(16,Ht),(20,Ht),(25,Ht),(29,{ av:=z8 x_2 }),(31,{ b:=(decide (x_2=(⟨(1:Int),(0:Int),(3:Int)⟩:yE))),mks:=[.int .i64,.int .i64,.int .i64] }),(32,Ht),(36,Ht),(39,Ht),(41,Hg),(42,Hg),(43,Hg),(44,Hf),(46,Hg),(47,Hg),(48,Hg),(49,Hf)] [0] [] 13 [.bool false] [] zG (ac zK (ac zK (ac zK (ac (yL _:((Mp zA r_3.1.Parts)).length=(r_3.1.Parts).length) (ac zK (ac zK (ac zI (ac zI (ac zI (ac (xZ qJ:wV (Mp zA r_3.1.Parts) (0:Int)=some (zA x_1)) (ac zI (ac zI (ac zI (ac (yL _:((Mp zE x_1.Events)).length=(x_1.Events).length) (ac zI (ac zI (ac zW (ac zW (ac zW (ac z6 (ac z6 (ac z6 (ac z6 (ac y2 (ac y2 (ac (qB qR:(0:Int)≤(0:Int)) (ac (by first | (simp;done) | simpa using qC qR:(0:Int)<(((r_8).length:Nat):Int)) (ac y2 (ac (jI qR:(Mp z8 r_8)[0]?=some (z8 x_2)) (ac y2 (ac y2 (ac (zCJ:kP prog 50 [.int .i64,.int .i64,.int .i64]) (ac (zAH (f:=z8) kV x_2 (⟨(1:Int),(0:Int),(3:Int)⟩:yE):((decide (x_2=(⟨(1:Int),(0:Int),(3:Int)⟩:yE)))=true↔AV.agg [Ii x_2.Thread,Ii x_2.Serial,Ii x_2.Count]=AV.agg [Ii 1,Ii 0,Ii 3])) (ac y2 (ac x7 (ac x7 (ac x7 (ac x5 (ac x5 (ac x3 (ac x3 (ac x3 (ac x3 (ac (rfl:false=!true) (ac (rfl:false=!true) (ac (rfl:false=!true) (ar false an))))))))))))))))))))))))))))))))))))))))))))))) ?_
          cases h
          exact ⟨rfl,(sw [] [] [.s 0] [] an)⟩
        ·replace h:=zT x5 h
         refine rg [(5,{ n:=(r_3.1.Parts).length }),(7,Ht),(11,{ av:=zA x_1 }),(14,{ n:=(x_1.Events).length }),(16,Ht),(20,Ht),(25,Ht),(29,{ av:=z8 x_2 }),(31,{ b:=(decide (x_2=(⟨(1:Int),(0:Int),(3:Int)⟩:yE))),mks:=[.int .i64,.int .i64,.int .i64] }),(32,Ht),(36,Ht),(38,Hg),(39,Hf),(41,Hg),(42,Hg),(43,Hg),(44,Hf),(46,Hg),(47,Hg),(48,Hg),(49,Hf)] [0] [] 13 [.bool false] [] zG (ac zK (ac zK (ac zK (ac (yL _:((Mp zA r_3.1.Parts)).length=(r_3.1.Parts).length) (ac zK (ac zK (ac zI (ac zI (ac zI (ac (xZ qJ:wV (Mp zA r_3.1.Parts) (0:Int)=some (zA x_1)) (ac zI (ac zI (ac zI (ac (yL _:((Mp zE x_1.Events)).length=(x_1.Events).length) (ac zI (ac zI (ac zW (ac zW (ac zW (ac z6 (ac z6 (ac z6 (ac z6 (ac y2 (ac y2 (ac (qB qR:(0:Int)≤(0:Int)) (ac (by first | (simp;done) | simpa using qC qR:(0:Int)<(((r_8).length:Nat):Int)) (ac y2 (ac (jI qR:(Mp z8 r_8)[0]?=some (z8 x_2)) (ac y2 (ac y2 (ac (zCJ:kP prog 50 [.int .i64,.int .i64,.int .i64]) (ac (zAH (f:=z8) kV x_2 (⟨(1:Int),(0:Int),(3:Int)⟩:yE):((decide (x_2=(⟨(1:Int),(0:Int),(3:Int)⟩:yE)))=true↔AV.agg [Ii x_2.Thread,Ii x_2.Serial,Ii x_2.Count]=AV.agg [Ii 1,Ii 0,Ii 3])) (ac y2 (ac x7 (ac x7 (ac x7 (ac x5 (ac x5 (ac (rfl:false=!true) (ac (rfl:false=!true) (ac (rfl:false=!true) (ar false (ac (rfl:false=!true) (ac (rfl:false=!true) (ac (rfl:false=!true) (ar false an))))))))))))))))))))))))))))))))))))))))))))))) ?_
         cases h
         exact ⟨rfl,(sw [] [] [.s 0] [] an)⟩
       ·replace h:=zT x7 h
        refine rg [(5,{ n:=(r_3.1.Parts).length }),(7,Ht),(11,{ av:=zA x_1 }),(14,{ n:=(x_1.Events).length }),(16,Ht),(20,Ht),(25,Ht),(29,{ av:=z8 x_2 }),(31,{ b:=(decide (x_2=(⟨(1:Int),(0:Int),(3:Int)⟩:yE))),mks:=[.int .i64,.int .i64,.int .i64] }),(32,Ht),(34,Hg),(35,Hg),(36,Hf),(38,Hg),(39,Hf),(41,Hg),(42,Hg),(43,Hg),(44,Hf),(46,Hg),(47,Hg),(48,Hg),(49,Hf)] [0] [] 13 [.bool false] [] zG (ac zK (ac zK (ac zK (ac (yL _:((Mp zA r_3.1.Parts)).length=(r_3.1.Parts).length) (ac zK (ac zK (ac zI (ac zI (ac zI (ac (xZ qJ:wV (Mp zA r_3.1.Parts) (0:Int)=some (zA x_1)) (ac zI (ac zI (ac zI (ac (yL _:((Mp zE x_1.Events)).length=(x_1.Events).length) (ac zI (ac zI (ac zW (ac zW (ac zW (ac z6 (ac z6 (ac z6 (ac z6 (ac y2 (ac y2 (ac (qB qR:(0:Int)≤(0:Int)) (ac (by first | (simp;done) | simpa using qC qR:(0:Int)<(((r_8).length:Nat):Int)) (ac y2 (ac (jI qR:(Mp z8 r_8)[0]?=some (z8 x_2)) (ac y2 (ac y2 (ac (zCJ:kP prog 50 [.int .i64,.int .i64,.int .i64]) (ac (zAH (f:=z8) kV x_2 (⟨(1:Int),(0:Int),(3:Int)⟩:yE):((decide (x_2=(⟨(1:Int),(0:Int),(3:Int)⟩:yE)))=true↔AV.agg [Ii x_2.Thread,Ii x_2.Serial,Ii x_2.Count]=AV.agg [Ii 1,Ii 0,Ii 3])) (ac y2 (ac x7 (ac x7 (ac x7 (ac (rfl:false=!true) (ar false (ac (rfl:false=!true) (ac (rfl:false=!true) (ac (rfl:false=!true) (ar false (ac (rfl:false=!true) (ac (rfl:false=!true) (ac (rfl:false=!true) (ar false an))))))))))))))))))))))))))))))))))))))))))))))) ?_
        cases h
        exact ⟨rfl,(sw [] [] [.s 0] [] an)⟩
      ·replace h:=zT y2 h
       refine rg [(5,{ n:=(r_3.1.Parts).length }),(7,Ht),(11,{ av:=zA x_1 }),(14,{ n:=(x_1.Events).length }),(16,Ht),(20,Ht),(25,Ht),(27,Hg),(28,Hg),(29,Hg),(30,Hg),(31,Hg),(32,Hf),(34,Hg),(35,Hg),(36,Hf),(38,Hg),(39,Hf),(41,Hg),(42,Hg),(43,Hg),(44,Hf),(46,Hg),(47,Hg),(48,Hg),(49,Hf)] [0] [] 13 [.bool false] [] zG (ac zK (ac zK (ac zK (ac (yL _:((Mp zA r_3.1.Parts)).length=(r_3.1.Parts).length) (ac zK (ac zK (ac zI (ac zI (ac zI (ac (xZ qJ:wV (Mp zA r_3.1.Parts) (0:Int)=some (zA x_1)) (ac zI (ac zI (ac zI (ac (yL _:((Mp zE x_1.Events)).length=(x_1.Events).length) (ac zI (ac zI (ac zW (ac zW (ac zW (ac z6 (ac z6 (ac z6 (ac z6 (ac y2 (ac y2 (ac y2 (ac y2 (ac y2 (ac y2 (ac (rfl:false=!true) (ac (rfl:false=!true) (ar false (ac (rfl:false=!true) (ar false (ac (rfl:false=!true) (ac (rfl:false=!true) (ac (rfl:false=!true) (ar false (ac (rfl:false=!true) (ac (rfl:false=!true) (ac (rfl:false=!true) (ar false an)))))))))))))))))))))))))))))))))))))))))) ?_
       cases h
       exact ⟨rfl,(sw [] [] [.s 0] [] an)⟩
     ·replace h:=zT z6 h
      refine rg [(5,{ n:=(r_3.1.Parts).length }),(7,Ht),(11,{ av:=zA x_1 }),(14,{ n:=(x_1.Events).length }),(16,Ht),(20,Ht),(22,Hg),(23,Hg),(24,Hg),(25,Hf),(27,Hg),(28,Hg),(29,Hg),(30,Hg),(31,Hg),(32,Hf),(34,Hg),(35,Hg),(36,Hf),(38,Hg),(39,Hf),(41,Hg),(42,Hg),(43,Hg),(44,Hf),(46,Hg),(47,Hg),(48,Hg),(49,Hf)] [0] [] 13 [.bool false] [] zG (ac zK (ac zK (ac zK (ac (yL _:((Mp zA r_3.1.Parts)).length=(r_3.1.Parts).length) (ac zK (ac zK (ac zI (ac zI (ac zI (ac (xZ qJ:wV (Mp zA r_3.1.Parts) (0:Int)=some (zA x_1)) (ac zI (ac zI (ac zI (ac (yL _:((Mp zE x_1.Events)).length=(x_1.Events).length) (ac zI (ac zI (ac zW (ac zW (ac zW (ac z6 (ac z6 (ac z6 (ac z6 (ac (rfl:false=!true) (ac (rfl:false=!true) (ac (rfl:false=!true) (ac (rfl:false=!true) (ac (rfl:false=!true) (ar false (ac (rfl:false=!true) (ac (rfl:false=!true) (ar false (ac (rfl:false=!true) (ar false (ac (rfl:false=!true) (ac (rfl:false=!true) (ac (rfl:false=!true) (ar false (ac (rfl:false=!true) (ac (rfl:false=!true) (ac (rfl:false=!true) (ar false an)))))))))))))))))))))))))))))))))))))))))) ?_
      cases h
      exact ⟨rfl,(sw [] [] [.s 0] [] an)⟩
    ·replace h:=zT zW h
     refine rg [(5,{ n:=(r_3.1.Parts).length }),(7,Ht),(11,{ av:=zA x_1 }),(14,{ n:=(x_1.Events).length }),(16,Ht),(18,Hg),(19,Hg),(20,Hf),(22,Hg),(23,Hg),(24,Hg),(25,Hf),(27,Hg),(28,Hg),(29,Hg),(30,Hg),(31,Hg),(32,Hf),(34,Hg),(35,Hg),(36,Hf),(38,Hg),(39,Hf),(41,Hg),(42,Hg),(43,Hg),(44,Hf),(46,Hg),(47,Hg),(48,Hg),(49,Hf)] [0] [] 13 [.bool false] [] zG (ac zK (ac zK (ac zK (ac (yL _:((Mp zA r_3.1.Parts)).length=(r_3.1.Parts).length) (ac zK (ac zK (ac zI (ac zI (ac zI (ac (xZ qJ:wV (Mp zA r_3.1.Parts) (0:Int)=some (zA x_1)) (ac zI (ac zI (ac zI (ac (yL _:((Mp zE x_1.Events)).length=(x_1.Events).length) (ac zI (ac zI (ac zW (ac zW (ac zW (ac (rfl:false=!true) (ac (rfl:false=!true) (ac (rfl:false=!true) (ar false (ac (rfl:false=!true) (ac (rfl:false=!true) (ac (rfl:false=!true) (ac (rfl:false=!true) (ac (rfl:false=!true) (ar false (ac (rfl:false=!true) (ac (rfl:false=!true) (ar false (ac (rfl:false=!true) (ar false (ac (rfl:false=!true) (ac (rfl:false=!true) (ac (rfl:false=!true) (ar false (ac (rfl:false=!true) (ac (rfl:false=!true) (ac (rfl:false=!true) (ar false an)))))))))))))))))))))))))))))))))))))))))) ?_
     cases h
     exact ⟨rfl,(sw [] [] [.s 0] [] an)⟩
   ·replace h:=zT zI h
    refine rg [(5,{ n:=(r_3.1.Parts).length }),(7,Ht),(9,Hg),(10,Hg),(11,Hg),(12,Hg),(13,Hg),(14,Hg),(15,Hg),(16,Hf),(18,Hg),(19,Hg),(20,Hf),(22,Hg),(23,Hg),(24,Hg),(25,Hf),(27,Hg),(28,Hg),(29,Hg),(30,Hg),(31,Hg),(32,Hf),(34,Hg),(35,Hg),(36,Hf),(38,Hg),(39,Hf),(41,Hg),(42,Hg),(43,Hg),(44,Hf),(46,Hg),(47,Hg),(48,Hg),(49,Hf)] [0] [] 13 [.bool false] [] zG (ac zK (ac zK (ac zK (ac (yL _:((Mp zA r_3.1.Parts)).length=(r_3.1.Parts).length) (ac zK (ac zK (ac zI (ac zI (ac zI (ac zI (ac zI (ac zI (ac zI (ac zI (ac (rfl:false=!true) (ac (rfl:false=!true) (ar false (ac (rfl:false=!true) (ac (rfl:false=!true) (ac (rfl:false=!true) (ar false (ac (rfl:false=!true) (ac (rfl:false=!true) (ac (rfl:false=!true) (ac (rfl:false=!true) (ac (rfl:false=!true) (ar false (ac (rfl:false=!true) (ac (rfl:false=!true) (ar false (ac (rfl:false=!true) (ar false (ac (rfl:false=!true) (ac (rfl:false=!true) (ac (rfl:false=!true) (ar false (ac (rfl:false=!true) (ac (rfl:false=!true) (ac (rfl:false=!true) (ar false an)))))))))))))))))))))))))))))))))))))))) ?_
    cases h
    exact ⟨rfl,(sw [] [] [.s 0] [] an)⟩
  ·replace h:=zT zK h
   refine rg [(3,Hg),(4,Hg),(5,Hg),(6,Hg),(7,Hf),(9,Hg),(10,Hg),(11,Hg),(12,Hg),(13,Hg),(14,Hg),(15,Hg),(16,Hf),(18,Hg),(19,Hg),(20,Hf),(22,Hg),(23,Hg),(24,Hg),(25,Hf),(27,Hg),(28,Hg),(29,Hg),(30,Hg),(31,Hg),(32,Hf),(34,Hg),(35,Hg),(36,Hf),(38,Hg),(39,Hf),(41,Hg),(42,Hg),(43,Hg),(44,Hf),(46,Hg),(47,Hg),(48,Hg),(49,Hf)] [0] [] 13 [.bool false] [] zG (ac zK (ac zK (ac zK (ac zK (ac zK (ac (rfl:false=!true) (ac (rfl:false=!true) (ac (rfl:false=!true) (ac (rfl:false=!true) (ac (rfl:false=!true) (ac (rfl:false=!true) (ac (rfl:false=!true) (ar false (ac (rfl:false=!true) (ac (rfl:false=!true) (ar false (ac (rfl:false=!true) (ac (rfl:false=!true) (ac (rfl:false=!true) (ar false (ac (rfl:false=!true) (ac (rfl:false=!true) (ac (rfl:false=!true) (ac (rfl:false=!true) (ac (rfl:false=!true) (ar false (ac (rfl:false=!true) (ac (rfl:false=!true) (ar false (ac (rfl:false=!true) (ar false (ac (rfl:false=!true) (ac (rfl:false=!true) (ac (rfl:false=!true) (ar false (ac (rfl:false=!true) (ac (rfl:false=!true) (ac (rfl:false=!true) (ar false an))))))))))))))))))))))))))))))))))))))) ?_
   cases h
   exact ⟨rfl,(sw [] [] [.s 0] [] an)⟩
 refine rt ?_
 cases h
 exact ⟨.inr rfl,Nat.le_of_ble_eq_true rfl,by kernel_rfl⟩

theorem zKO (F:Nat) (l_1:List (zB)) (zU:Int) (r:Int×Int) (h:zCC F l_1 zU=some r):zV prog 23 [] [] [.sl false 4 (Mp zA l_1),Ii zU] [] (.tuple [Ii r.1,Ii r.2]):=by
 refine yM (fn:=Go.Proofs.Try.f23) (code:=x4 Go.Proofs.Try.f23) (by kernel_rfl) (by kernel_rfl) (Nat.le_of_ble_eq_true (by kernel_rfl)) ?_
 unfold zCC at h
 refine sr [] [0,1] [] 0 [.sl false 4 (Mp zA l_1),Ii zU] [] zG an ?_
 refine sr [] [0,1,6] [] 0 [.sl false 4 (Mp zA l_1),Ii zU,Ii 0] [] zG an ?_
 refine sr [] [0,1,6,7] [] 0 [.sl false 4 (Mp zA l_1),Ii zU,Ii 0,Ii 0] [] zG an ?_
 refine sq ?_
 refine sr [] [0,1,6,7,8] [] 0 [.sl false 4 (Mp zA l_1),Ii zU,Ii 0,Ii 0,Ii 0] [] zG an ?_
 obtain ⟨o_1,h_1,h⟩:=bind_some h
 refine wI (mk [(6,Ii o_1.1),(7,Ii o_1.2)] [] 0) ?_ ?_
 ·replace h:=h_1
  refine yN (id:=0) (by kernel_rfl) ?_
  refine wk [] [] [.s 0,.s 1,.s 6,.s 7,.s 8] [] [(0,.sl false 4 (Mp zA l_1)),(1,Ii zU),(6,Ii 0),(7,Ii 0),(8,Ii 0)] [] an ?_
  refine wE (fun n st=>∃ (n_1:Int),∃ (pM:Int),∃ (i_1:Int),st=mk [(0,.sl false 4 (Mp zA l_1)),(1,Ii zU),(6,Ii n_1),(7,Ii pM),(8,Ii i_1)] [] 0∧nF F l_1 zU n n_1 pM i_1=some o_1) F (by kernel_rfl) ⟨_,_,_,rfl,h⟩ ?_ ?_
  ·rintro _ ⟨_,_,_,_,h⟩;exact wO (h:(none:Option (Int×Int))=some o_1)
  rintro n_2 _ ⟨n_1,pM,i_1,rfl,h⟩
  replace h:jP F l_1 zU (nF F l_1 zU n_2) n_1 pM i_1=some o_1:=h
  unfold jP at h
  refine sq ?_
  refine sr [(2,{ n:=(l_1).length })] [0,1,6,7,8,12] [] 0 [.sl false 4 (Mp zA l_1),Ii zU,Ii n_1,Ii pM,Ii i_1,.bool (decide (i_1<(lN (l_1))))] [] zG (ac (yL _:((Mp zA l_1)).length=(l_1).length) an) ?_
  refine cd 12 (decide (i_1<(lN (l_1)))) ?_ ?_
  rotate_left
  ·intro g_1;replace h:=zT g_1 h
   refine wJ (id:=0) (by kernel_rfl) ?_
   cases h
   exact ⟨rfl,(sw [] [] [.s 6,.s 7] [] an)⟩
  intro g_1;replace h:=zS g_1 h
  refine sk ?_
  refine sq ?_
  obtain ⟨o_2,h_2,h⟩:=bind_some h
  refine wI (mk [(0,.sl false 4 (Mp zA l_1)),(1,Ii zU),(6,Ii o_2.1),(7,Ii o_2.2),(8,Ii i_1)] [] 0) ?_ ?_
  ·replace h:=h_2
   refine yN (id:=1) (by kernel_rfl) ?_
   refine sq ?_
   obtain ⟨x_1,h_3,h⟩:=bind_some h
   refine rg [(2,{ av:=zA x_1 })] [0,1,6,7,8,21] [] 0 [.sl false 4 (Mp zA l_1),Ii zU,Ii n_1,Ii pM,Ii i_1,.bool (x_1.Thread==zU)] [] zG (ac (xZ h_3:wV (Mp zA l_1) i_1=some (zA x_1)) an) ?_
   refine cd 21 (x_1.Thread==zU) ?_ ?_
   rotate_left
   ·intro g_2;replace h:=zT g_2 h
    refine sk ?_
    cases h
    exact ⟨rfl,(sw [] [] [.s 0,.s 1,.s 6,.s 7,.s 8] [] an)⟩
   intro g_2;replace h:=zS g_2 h
   refine sq ?_
   obtain ⟨x_2,h_4,h⟩:=bind_some h
   obtain ⟨x_3,h_5,h⟩:=bind_some h
   refine rg [(2,{ av:=zA x_2 }),(7,{ av:=zA x_3 }),(10,{ n:=(x_3.Events).length })] [0,1,6,8] [] 0 [.sl false 4 (Mp zA l_1),Ii zU,Ii (zJ (x_2.Serial+(lN (x_3.Events)))),Ii i_1] [] zG (ac (xZ h_4:wV (Mp zA l_1) i_1=some (zA x_2)) (ac (xZ h_5:wV (Mp zA l_1) i_1=some (zA x_3)) (ac (yL _:((Mp zE x_3.Events)).length=(x_3.Events).length) an))) ?_
   obtain ⟨x_4,h_6,h⟩:=bind_some h
   obtain ⟨x_5,h_7,h⟩:=bind_some h
   obtain ⟨x_6,h_8,h⟩:=bind_some h
   refine rg [(2,{ av:=zA x_4 }),(7,{ av:=zA x_5 }),(10,{ n:=(x_5.Events).length }),(12,{ av:=zE x_6 })] [0,1,6,7,8] [] 0 [.sl false 4 (Mp zA l_1),Ii zU,Ii (zJ (x_2.Serial+(lN (x_3.Events)))),Ii x_6.At,Ii i_1] [] zG (ac (xZ h_6:wV (Mp zA l_1) i_1=some (zA x_4)) (ac (xZ h_7:wV (Mp zA l_1) i_1=some (zA x_5)) (ac (yL _:((Mp zE x_5.Events)).length=(x_5.Events).length) (ac (xZ h_8:wV (Mp zE x_4.Events) (zJ ((lN (x_5.Events)) - (1:Int)))=some (zE x_6)) an)))) ?_
   cases h
   exact ⟨rfl,(sw [] [] [.s 0,.s 1,.s 6,.s 7,.s 8] [] an)⟩
  refine rg [] [0,1,6,7,8] [] 0 [.sl false 4 (Mp zA l_1),Ii zU,Ii o_2.1,Ii o_2.2,Ii (zJ (i_1+(1:Int)))] [] zG an ?_
  exact ⟨_,(sw [] [] [.s 0,.s 1,.s 6,.s 7,.s 8] [] an),_,_,_,rfl,h⟩
 refine sr [] [4,5] [] 0 [Ii o_1.1,Ii o_1.2] [] zG an ?_
 refine rt ?_
 cases h
 exact ⟨.inr rfl,Nat.le_of_ble_eq_true rfl,by kernel_rfl⟩

theorem zHo (F:Nat) (l_1:List (zB)) (r:Int) (h:zAE F l_1=some r):zV prog 22 [] [] [.sl false 4 (Mp zA l_1)] [] (Ii r):=by
 refine yM (fn:=Go.Proofs.Try.f22) (code:=x4 Go.Proofs.Try.f22) (by kernel_rfl) (by kernel_rfl) (Nat.le_of_ble_eq_true (by kernel_rfl)) ?_
 unfold zAE at h
 refine sr [] [0] [] 0 [.sl false 4 (Mp zA l_1)] [] zG an ?_
 refine sr [] [0,3] [] 0 [.sl false 4 (Mp zA l_1),Ii 0] [] zG an ?_
 refine sq ?_
 refine sr [] [0,3,4] [] 0 [.sl false 4 (Mp zA l_1),Ii 0,Ii 0] [] zG an ?_
 obtain ⟨o_1,h_1,h⟩:=bind_some h
 refine wI (mk [(3,Ii o_1)] [] 0) ?_ ?_
 ·replace h:=h_1
  refine yN (id:=0) (by kernel_rfl) ?_
  refine wk [] [] [.s 0,.s 3,.s 4] [] [(0,.sl false 4 (Mp zA l_1)),(3,Ii 0),(4,Ii 0)] [] an ?_
  refine wE (fun n st=>∃ (n_1:Int),∃ (i_1:Int),st=mk [(0,.sl false 4 (Mp zA l_1)),(3,Ii n_1),(4,Ii i_1)] [] 0∧jB F l_1 n n_1 i_1=some o_1) F (by kernel_rfl) ⟨_,_,rfl,h⟩ ?_ ?_
  ·rintro _ ⟨_,_,_,h⟩;exact wO (h:(none:Option Int)=some o_1)
  rintro n_2 _ ⟨n_1,i_1,rfl,h⟩
  replace h:t0 F l_1 (jB F l_1 n_2) n_1 i_1=some o_1:=h
  unfold t0 at h
  refine sq ?_
  refine sr [(2,{ n:=(l_1).length })] [0,3,4,8] [] 0 [.sl false 4 (Mp zA l_1),Ii n_1,Ii i_1,.bool (decide (i_1<(lN (l_1))))] [] zG (ac (yL _:((Mp zA l_1)).length=(l_1).length) an) ?_
  refine cd 8 (decide (i_1<(lN (l_1)))) ?_ ?_
  rotate_left
  ·intro g_1;replace h:=zT g_1 h
   refine wJ (id:=0) (by kernel_rfl) ?_
   cases h
   exact ⟨rfl,(sw [] [] [.s 3] [] an)⟩
  intro g_1;replace h:=zS g_1 h
  refine sk ?_
  refine sq ?_
  refine yN (id:=1) (by kernel_rfl) ?_
  obtain ⟨x_1,h_2,h⟩:=bind_some h
  refine rg [(3,{ av:=zA x_1 }),(6,{ n:=(x_1.Events).length })] [0,3,4] [] 0 [.sl false 4 (Mp zA l_1),Ii (zJ (n_1+(lN (x_1.Events)))),Ii i_1] [] zG (ac (xZ h_2:wV (Mp zA l_1) i_1=some (zA x_1)) (ac (yL _:((Mp zE x_1.Events)).length=(x_1.Events).length) an)) ?_
  refine rg [] [0,3,4] [] 0 [.sl false 4 (Mp zA l_1),Ii (zJ (n_1+(lN (x_1.Events)))),Ii (zJ (i_1+(1:Int)))] [] zG an ?_
  exact ⟨_,(sw [] [] [.s 0,.s 3,.s 4] [] an),_,_,rfl,h⟩
 refine sr [] [2] [] 0 [Ii o_1] [] zG an ?_
 refine rt ?_
 cases h
 exact ⟨.inr rfl,Nat.le_of_ble_eq_true rfl,by kernel_rfl⟩

end Go.Ab
