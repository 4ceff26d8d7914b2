/- Printed: the typed Lean functions of the Go functions, or the proofs that the Go functions meet them. No conditions but those that the theorems name. -/
import Derived.Test.YtbifmbdcejggkaaP16x1
namespace Go.Ab
open Go
set_option linter.unusedVariables false
theorem wE (F:Nat) (s1_1:List (zY)) (s2_1:List (zY)) (r:Bool) (h:x7 F s1_1 s2_1=some r):zW prog 37 [] [] [.sl false 3 (Mp zF s1_1),.sl false 3 (Mp zF s2_1)] [] (.bool r):=by
 refine yA (fn:=Go.Proofs.Try.f37) (code:=xC Go.Proofs.Try.f37) (by kernel_rfl) (by kernel_rfl) (Nat.le_of_ble_eq_true (by kernel_rfl)) ?_
 unfold x7 at h
 refine sr [] [0,1] [] 0 [.sl false 3 (Mp zF s1_1),.sl false 3 (Mp zF s2_1)] [] zG an ?_
 refine sq ?_
 refine sr [(1,{ n:=(s1_1).length }),(3,{ n:=(s2_1).length })] [0,1,10] [] 0 [.sl false 3 (Mp zF s1_1),.sl false 3 (Mp zF s2_1),.bool ((lN (s1_1)) != (lN (s2_1)))] [] zG (ac (z9 _:((Mp zF s1_1)).length=(s1_1).length) (ac (z9 _:((Mp zF s2_1)).length=(s2_1).length) an)) ?_
 refine cd 10 ((lN (s1_1)) != (lN (s2_1))) ?_ ?_
 ·intro g_1;replace h:=zP g_1 h
  refine sr [] [4] [] 0 [.bool false] [] zG an ?_
  refine rt ?_
  cases h
  exact ⟨.inr rfl,Nat.le_of_ble_eq_true rfl,by kernel_rfl⟩
 intro g_1;replace h:=zO g_1 h
 refine sk ?_
 refine sq ?_
 refine sr [(1,{ n:=(s1_1).length })] [0,1,12,13] [] 0 [.sl false 3 (Mp zF s1_1),.sl false 3 (Mp zF s2_1),Ii (lN (s1_1)),Ii 0] [] zG (ac (z9 _:((Mp zF s1_1)).length=(s1_1).length) an) ?_
 obtain ⟨o_1,h_1,h⟩:=bind_some h
 refine wK (K1:=(fun e st'=>match o_1 with | (.inl q0)=>e=.normal∧Sub 0 st' (mk [] [] 0) | (.inr q1)=>e=.ret∧uF prog Go.Proofs.Try.f37 0 [] (.bool q1) st')) ?_ ?_
 ·replace h:=h_1
  refine yC (id:=0) (by kernel_rfl) ?_
  refine wk [] [] [.s 0,.s 1,.s 12,.s 13] [] [(0,.sl false 3 (Mp zF s1_1)),(1,.sl false 3 (Mp zF s2_1)),(12,Ii (lN (s1_1))),(13,Ii 0)] [] an ?_
  refine xH (fun n st=>∃ (v_1:Int),st=mk [(0,.sl false 3 (Mp zF s1_1)),(1,.sl false 3 (Mp zF s2_1)),(12,Ii (lN (s1_1))),(13,Ii v_1)] [] 0∧xY F s1_1 s2_1 n v_1=some o_1) F (by kernel_rfl) ⟨_,rfl,h⟩ ?_ ?_
  ·rintro _ ⟨_,_,h⟩;exact xX (h:(none:Option (Unit⊕Bool))=some o_1)
  rintro n_1 _ ⟨v_1,rfl,h⟩
  replace h:yY F s1_1 s2_1 (xY F s1_1 s2_1 n_1) v_1=some o_1:=h
  unfold yY at h
  refine sr [] [0,1,12,13,14] [] 0 [.sl false 3 (Mp zF s1_1),.sl false 3 (Mp zF s2_1),Ii (lN (s1_1)),Ii v_1,.bool (decide (v_1<(lN (s1_1))))] [] zG an ?_
  refine sq ?_
  refine cd 14 (decide (v_1<(lN (s1_1)))) ?_ ?_
  rotate_left
  ·intro g_2;replace h:=zO g_2 h
   refine xS (id:=0) (by kernel_rfl) ?_
   cases h
   exact ⟨rfl,(sw [] [] [] [] an)⟩
  intro g_2;replace h:=zP g_2 h
  refine sk ?_
  refine sq ?_
  refine yC (id:=1) (by kernel_rfl) ?_
  refine sr [] [0,1,5,12,13] [] 0 [.sl false 3 (Mp zF s1_1),.sl false 3 (Mp zF s2_1),Ii v_1,Ii (lN (s1_1)),Ii v_1] [] zG an ?_
  refine sq ?_
  obtain ⟨x_1,h_2,h⟩:=bind_some h
  obtain ⟨x_2,h_3,h⟩:=bind_some h
  refine rg [(2,{ av:=zF x_1 }),(6,{ av:=zF x_2 }),(8,{ b:=(decide (x_1=x_2)),mks:=[.int .i64,.str,.int .i64] })] [0,1,12,13,24] [] 0 [.sl false 3 (Mp zF s1_1),.sl false 3 (Mp zF s2_1),Ii (lN (s1_1)),Ii v_1,.bool (!(decide (x_1=x_2)))] [] zG (ac (yP h_2:xG (Mp zF s1_1) v_1=some (zF x_1)) (ac (yP h_3:xG (Mp zF s2_1) v_1=some (zF x_2)) (ac (zK8:jK prog 66 [.int .i64,.str,.int .i64]) (ac (pM (f:=zF) zCw x_1 x_2:((decide (x_1=x_2))=true↔AV.agg [Ii x_1.Id,.str x_1.Name,Ii x_1.Domain]=AV.agg [Ii x_2.Id,.str x_2.Name,Ii x_2.Domain])) an)))) ?_
  refine cd 24 (!(decide (x_1=x_2))) ?_ ?_
  rotate_left
  ·intro g_3;replace h:=zO g_3 h
   refine sk ?_
   refine rg [] [0,1,12,13] [] 0 [.sl false 3 (Mp zF s1_1),.sl false 3 (Mp zF s2_1),Ii (lN (s1_1)),Ii (zR (v_1+(1:Int)))] [] zG an ?_
   exact ⟨_,(sw [] [] [.s 0,.s 1,.s 12,.s 13] [] an),_,rfl,h⟩
  intro g_3;replace h:=zP g_3 h
  refine sr [] [4] [] 0 [.bool false] [] zG an ?_
  refine rt ?_
  cases h
  exact ⟨rfl,Nat.le_of_ble_eq_true rfl,by kernel_rfl⟩
 intro e st1 hk
 rcases o_1 with q_1 | q_2
 rotate_left
 ·obtain ⟨rfl,hf⟩:=hk
  cases h
  exact ⟨st1,Sub.refl _ _,.inr rfl,hf⟩
 obtain ⟨rfl,hs⟩:=hk
 refine ⟨_,hs,?_⟩
 refine sr [] [4] [] 0 [.bool true] [] zG an ?_
 refine rt ?_
 cases h
 exact ⟨.inr rfl,Nat.le_of_ble_eq_true rfl,by kernel_rfl⟩
theorem wX (F:Nat) (s1_1:List (zS)) (s2_1:List (zS)) (r:Bool) (h:x6 F s1_1 s2_1=some r):zW prog 38 [] [] [.sl false 2 (Mp zC s1_1),.sl false 2 (Mp zC s2_1)] [] (.bool r):=by
 refine yA (fn:=Go.Proofs.Try.f38) (code:=xC Go.Proofs.Try.f38) (by kernel_rfl) (by kernel_rfl) (Nat.le_of_ble_eq_true (by kernel_rfl)) ?_
 unfold x6 at h
 refine sr [] [0,1] [] 0 [.sl false 2 (Mp zC s1_1),.sl false 2 (Mp zC s2_1)] [] zG an ?_
 refine sq ?_
 refine sr [(1,{ n:=(s1_1).length }),(3,{ n:=(s2_1).length })] [0,1,10] [] 0 [.sl false 2 (Mp zC s1_1),.sl false 2 (Mp zC s2_1),.bool ((lN (s1_1)) != (lN (s2_1)))] [] zG (ac (z9 _:((Mp zC s1_1)).length=(s1_1).length) (ac (z9 _:((Mp zC s2_1)).length=(s2_1).length) an)) ?_
 refine cd 10 ((lN (s1_1)) != (lN (s2_1))) ?_ ?_
 ·intro g_1;replace h:=zP g_1 h
  refine sr [] [4] [] 0 [.bool false] [] zG an ?_
  refine rt ?_
  cases h
  exact ⟨.inr rfl,Nat.le_of_ble_eq_true rfl,by kernel_rfl⟩
 intro g_1;replace h:=zO g_1 h
 refine sk ?_
 refine sq ?_
 refine sr [(1,{ n:=(s1_1).length })] [0,1,12,13] [] 0 [.sl false 2 (Mp zC s1_1),.sl false 2 (Mp zC s2_1),Ii (lN (s1_1)),Ii 0] [] zG (ac (z9 _:((Mp zC s1_1)).length=(s1_1).length) an) ?_
 obtain ⟨o_1,h_1,h⟩:=bind_some h
 refine wK (K1:=(fun e st'=>match o_1 with | (.inl q0)=>e=.normal∧Sub 0 st' (mk [] [] 0) | (.inr q1)=>e=.ret∧uF prog Go.Proofs.Try.f38 0 [] (.bool q1) st')) ?_ ?_
 ·replace h:=h_1
  refine yC (id:=0) (by kernel_rfl) ?_
  refine wk [] [] [.s 0,.s 1,.s 12,.s 13] [] [(0,.sl false 2 (Mp zC s1_1)),(1,.sl false 2 (Mp zC s2_1)),(12,Ii (lN (s1_1))),(13,Ii 0)] [] an ?_
  refine xH (fun n st=>∃ (v_1:Int),st=mk [(0,.sl false 2 (Mp zC s1_1)),(1,.sl false 2 (Mp zC s2_1)),(12,Ii (lN (s1_1))),(13,Ii v_1)] [] 0∧xZ F s1_1 s2_1 n v_1=some o_1) F (by kernel_rfl) ⟨_,rfl,h⟩ ?_ ?_
  ·rintro _ ⟨_,_,h⟩;exact xX (h:(none:Option (Unit⊕Bool))=some o_1)
  rintro n_1 _ ⟨v_1,rfl,h⟩
  replace h:yZ F s1_1 s2_1 (xZ F s1_1 s2_1 n_1) v_1=some o_1:=h
  unfold yZ at h
  refine sr [] [0,1,12,13,14] [] 0 [.sl false 2 (Mp zC s1_1),.sl false 2 (Mp zC s2_1),Ii (lN (s1_1)),Ii v_1,.bool (decide (v_1<(lN (s1_1))))] [] zG an ?_
  refine sq ?_
  refine cd 14 (decide (v_1<(lN (s1_1)))) ?_ ?_
  rotate_left
  ·intro g_2;replace h:=zO g_2 h
   refine xS (id:=0) (by kernel_rfl) ?_
   cases h
   exact ⟨rfl,(sw [] [] [] [] an)⟩
  intro g_2;replace h:=zP g_2 h
  refine sk ?_
  refine sq ?_
  refine yC (id:=1) (by kernel_rfl) ?_
  refine sr [] [0,1,5,12,13] [] 0 [.sl false 2 (Mp zC s1_1),.sl false 2 (Mp zC s2_1),Ii v_1,Ii (lN (s1_1)),Ii v_1] [] zG an ?_
  refine sq ?_
  obtain ⟨x_1,h_2,h⟩:=bind_some h
  obtain ⟨x_2,h_3,h⟩:=bind_some h
  refine rg [(2,{ av:=zC x_1 }),(6,{ av:=zC x_2 }),(8,{ b:=(decide (x_1=x_2)),mks:=[.int .i64,.int .i64] })] [0,1,12,13,24] [] 0 [.sl false 2 (Mp zC s1_1),.sl false 2 (Mp zC s2_1),Ii (lN (s1_1)),Ii v_1,.bool (!(decide (x_1=x_2)))] [] zG (ac (yP h_2:xG (Mp zC s1_1) v_1=some (zC x_1)) (ac (yP h_3:xG (Mp zC s2_1) v_1=some (zC x_2)) (ac (zHL:jK prog 68 [.int .i64,.int .i64]) (ac (pM (f:=zC) zAF x_1 x_2:((decide (x_1=x_2))=true↔AV.agg [Ii x_1.Id,Ii x_1.Ppm]=AV.agg [Ii x_2.Id,Ii x_2.Ppm])) an)))) ?_
  refine cd 24 (!(decide (x_1=x_2))) ?_ ?_
  rotate_left
  ·intro g_3;replace h:=zO g_3 h
   refine sk ?_
   refine rg [] [0,1,12,13] [] 0 [.sl false 2 (Mp zC s1_1),.sl false 2 (Mp zC s2_1),Ii (lN (s1_1)),Ii (zR (v_1+(1:Int)))] [] zG an ?_
   exact ⟨_,(sw [] [] [.s 0,.s 1,.s 12,.s 13] [] an),_,rfl,h⟩
  intro g_3;replace h:=zP g_3 h
  refine sr [] [4] [] 0 [.bool false] [] zG an ?_
  refine rt ?_
  cases h
  exact ⟨rfl,Nat.le_of_ble_eq_true rfl,by kernel_rfl⟩
 intro e st1 hk
 rcases o_1 with q_1 | q_2
 rotate_left
 ·obtain ⟨rfl,hf⟩:=hk
  cases h
  exact ⟨st1,Sub.refl _ _,.inr rfl,hf⟩
 obtain ⟨rfl,hs⟩:=hk
 refine ⟨_,hs,?_⟩
 refine sr [] [4] [] 0 [.bool true] [] zG an ?_
 refine rt ?_
 cases h
 exact ⟨.inr rfl,Nat.le_of_ble_eq_true rfl,by kernel_rfl⟩
theorem v9 (F:Nat) (s1_1:List (xM)) (s2_1:List (xM)) (r:Bool) (h:wA F s1_1 s2_1=some r):zW prog 39 [] [] [.sl false 5 (Mp zJ s1_1),.sl false 5 (Mp zJ s2_1)] [] (.bool r):=by
 refine yA (fn:=Go.Proofs.Try.f39) (code:=xC Go.Proofs.Try.f39) (by kernel_rfl) (by kernel_rfl) (Nat.le_of_ble_eq_true (by kernel_rfl)) ?_
 unfold wA at h
 refine sr [] [0,1] [] 0 [.sl false 5 (Mp zJ s1_1),.sl false 5 (Mp zJ s2_1)] [] zG an ?_
 refine sq ?_
 refine sr [(1,{ n:=(s1_1).length }),(3,{ n:=(s2_1).length })] [0,1,10] [] 0 [.sl false 5 (Mp zJ s1_1),.sl false 5 (Mp zJ s2_1),.bool ((lN (s1_1)) != (lN (s2_1)))] [] zG (ac (z9 _:((Mp zJ s1_1)).length=(s1_1).length) (ac (z9 _:((Mp zJ s2_1)).length=(s2_1).length) an)) ?_
 refine cd 10 ((lN (s1_1)) != (lN (s2_1))) ?_ ?_
 ·intro g_1;replace h:=zP g_1 h
  refine sr [] [4] [] 0 [.bool false] [] zG an ?_
  refine rt ?_
  cases h
  exact ⟨.inr rfl,Nat.le_of_ble_eq_true rfl,by kernel_rfl⟩
 intro g_1;replace h:=zO g_1 h
 refine sk ?_
 refine sq ?_
 refine sr [(1,{ n:=(s1_1).length })] [0,1,12,13] [] 0 [.sl false 5 (Mp zJ s1_1),.sl false 5 (Mp zJ s2_1),Ii (lN (s1_1)),Ii 0] [] zG (ac (z9 _:((Mp zJ s1_1)).length=(s1_1).length) an) ?_
 obtain ⟨o_1,h_1,h⟩:=bind_some h
 refine wK (K1:=(fun e st'=>match o_1 with | (.inl q0)=>e=.normal∧Sub 0 st' (mk [] [] 0) | (.inr q1)=>e=.ret∧uF prog Go.Proofs.Try.f39 0 [] (.bool q1) st')) ?_ ?_
 ·replace h:=h_1
  refine yC (id:=0) (by kernel_rfl) ?_
  refine wk [] [] [.s 0,.s 1,.s 12,.s 13] [] [(0,.sl false 5 (Mp zJ s1_1)),(1,.sl false 5 (Mp zJ s2_1)),(12,Ii (lN (s1_1))),(13,Ii 0)] [] an ?_
  refine xH (fun n st=>∃ (v_1:Int),st=mk [(0,.sl false 5 (Mp zJ s1_1)),(1,.sl false 5 (Mp zJ s2_1)),(12,Ii (lN (s1_1))),(13,Ii v_1)] [] 0∧x8 F s1_1 s2_1 n v_1=some o_1) F (by kernel_rfl) ⟨_,rfl,h⟩ ?_ ?_
  ·rintro _ ⟨_,_,h⟩;exact xX (h:(none:Option (Unit⊕Bool))=some o_1)
  rintro n_1 _ ⟨v_1,rfl,h⟩
  replace h:y7 F s1_1 s2_1 (x8 F s1_1 s2_1 n_1) v_1=some o_1:=h
  unfold y7 at h
  refine sr [] [0,1,12,13,14] [] 0 [.sl false 5 (Mp zJ s1_1),.sl false 5 (Mp zJ s2_1),Ii (lN (s1_1)),Ii v_1,.bool (decide (v_1<(lN (s1_1))))] [] zG an ?_
  refine sq ?_
  refine cd 14 (decide (v_1<(lN (s1_1)))) ?_ ?_
  rotate_left
  ·intro g_2;replace h:=zO g_2 h
   refine xS (id:=0) (by kernel_rfl) ?_
   cases h
   exact ⟨rfl,(sw [] [] [] [] an)⟩
  intro g_2;replace h:=zP g_2 h
  refine sk ?_
  refine sq ?_
  refine yC (id:=1) (by kernel_rfl) ?_
  refine sr [] [0,1,5,12,13] [] 0 [.sl false 5 (Mp zJ s1_1),.sl false 5 (Mp zJ s2_1),Ii v_1,Ii (lN (s1_1)),Ii v_1] [] zG an ?_
  refine sq ?_
  obtain ⟨x_1,h_2,h⟩:=bind_some h
  obtain ⟨x_2,h_3,h⟩:=bind_some h
  refine rg [(2,{ av:=zJ x_1 }),(6,{ av:=zJ x_2 }),(8,{ b:=(decide (x_1=x_2)),mks:=[.int .i64,.int .i64,.int .i64,.int .i64,.int .i64] })] [0,1,12,13,24] [] 0 [.sl false 5 (Mp zJ s1_1),.sl false 5 (Mp zJ s2_1),Ii (lN (s1_1)),Ii v_1,.bool (!(decide (x_1=x_2)))] [] zG (ac (yP h_2:xG (Mp zJ s1_1) v_1=some (zJ x_1)) (ac (yP h_3:xG (Mp zJ s2_1) v_1=some (zJ x_2)) (ac (zKZ:jK prog 86 [.int .i64,.int .i64,.int .i64,.int .i64,.int .i64]) (ac (pM (f:=zJ) zDB x_1 x_2:((decide (x_1=x_2))=true↔AV.agg [Ii x_1.A,Ii x_1.AtA,Ii x_1.B,Ii x_1.AtB.Lo,Ii x_1.AtB.Hi]=AV.agg [Ii x_2.A,Ii x_2.AtA,Ii x_2.B,Ii x_2.AtB.Lo,Ii x_2.AtB.Hi])) an)))) ?_
  refine cd 24 (!(decide (x_1=x_2))) ?_ ?_
  rotate_left
  ·intro g_3;replace h:=zO g_3 h
   refine sk ?_
   refine rg [] [0,1,12,13] [] 0 [.sl false 5 (Mp zJ s1_1),.sl false 5 (Mp zJ s2_1),Ii (lN (s1_1)),Ii (zR (v_1+(1:Int)))] [] zG an ?_
   exact ⟨_,(sw [] [] [.s 0,.s 1,.s 12,.s 13] [] an),_,rfl,h⟩
  intro g_3;replace h:=zP g_3 h
  refine sr [] [4] [] 0 [.bool false] [] zG an ?_
  refine rt ?_
  cases h
  exact ⟨rfl,Nat.le_of_ble_eq_true rfl,by kernel_rfl⟩
 intro e st1 hk
 rcases o_1 with q_1 | q_2
 rotate_left
 ·obtain ⟨rfl,hf⟩:=hk
  cases h
  exact ⟨st1,Sub.refl _ _,.inr rfl,hf⟩
 obtain ⟨rfl,hs⟩:=hk
 refine ⟨_,hs,?_⟩
 refine sr [] [4] [] 0 [.bool true] [] zG an ?_
 refine rt ?_
 cases h
 exact ⟨.inr rfl,Nat.le_of_ble_eq_true rfl,by kernel_rfl⟩
theorem zBj (F:Nat) (s1_1:List (List Int)) (s2_1:List (List Int)) (r:Bool) (h:uA F s1_1 s2_1=some r):zW prog 73 [] [] [.sl false 1 (Ms s1_1),.sl false 1 (Ms s2_1)] [] (.bool r):=by
 refine yA (fn:=Go.Proofs.Try.f73) (code:=xC Go.Proofs.Try.f73) (by kernel_rfl) (by kernel_rfl) (Nat.le_of_ble_eq_true (by kernel_rfl)) ?_
 unfold uA at h
 refine sr [] [0,1] [] 0 [.sl false 1 (Ms s1_1),.sl false 1 (Ms s2_1)] [] zG an ?_
 refine sq ?_
 refine sr [(1,{ n:=(s1_1).length }),(3,{ n:=(s2_1).length })] [0,1,10] [] 0 [.sl false 1 (Ms s1_1),.sl false 1 (Ms s2_1),.bool ((lN (s1_1)) != (lN (s2_1)))] [] zG (ac (z9 _:((Ms s1_1)).length=(s1_1).length) (ac (z9 _:((Ms s2_1)).length=(s2_1).length) an)) ?_
 refine cd 10 ((lN (s1_1)) != (lN (s2_1))) ?_ ?_
 ·intro g_1;replace h:=zP g_1 h
  refine sr [] [4] [] 0 [.bool false] [] zG an ?_
  refine rt ?_
  cases h
  exact ⟨.inr rfl,Nat.le_of_ble_eq_true rfl,by kernel_rfl⟩
 intro g_1;replace h:=zO g_1 h
 refine sk ?_
 refine sq ?_
 refine sr [(1,{ n:=(s1_1).length })] [0,1,12,13] [] 0 [.sl false 1 (Ms s1_1),.sl false 1 (Ms s2_1),Ii (lN (s1_1)),Ii 0] [] zG (ac (z9 _:((Ms s1_1)).length=(s1_1).length) an) ?_
 obtain ⟨o_1,h_1,h⟩:=bind_some h
 refine wK (K1:=(fun e st'=>match o_1 with | (.inl q0)=>e=.normal∧Sub 0 st' (mk [] [] 0) | (.inr q1)=>e=.ret∧uF prog Go.Proofs.Try.f73 0 [] (.bool q1) st')) ?_ ?_
 ·replace h:=h_1
  refine yC (id:=0) (by kernel_rfl) ?_
  refine wk [] [] [.s 0,.s 1,.s 12,.s 13] [] [(0,.sl false 1 (Ms s1_1)),(1,.sl false 1 (Ms s2_1)),(12,Ii (lN (s1_1))),(13,Ii 0)] [] an ?_
  refine xH (fun n st=>∃ (v_1:Int),st=mk [(0,.sl false 1 (Ms s1_1)),(1,.sl false 1 (Ms s2_1)),(12,Ii (lN (s1_1))),(13,Ii v_1)] [] 0∧vQ F s1_1 s2_1 n v_1=some o_1) F (by kernel_rfl) ⟨_,rfl,h⟩ ?_ ?_
  ·rintro _ ⟨_,_,h⟩;exact xX (h:(none:Option (Unit⊕Bool))=some o_1)
  rintro n_1 _ ⟨v_1,rfl,h⟩
  replace h:wL F s1_1 s2_1 (vQ F s1_1 s2_1 n_1) v_1=some o_1:=h
  unfold wL at h
  refine sr [] [0,1,12,13,14] [] 0 [.sl false 1 (Ms s1_1),.sl false 1 (Ms s2_1),Ii (lN (s1_1)),Ii v_1,.bool (decide (v_1<(lN (s1_1))))] [] zG an ?_
  refine sq ?_
  refine cd 14 (decide (v_1<(lN (s1_1)))) ?_ ?_
  rotate_left
  ·intro g_2;replace h:=zO g_2 h
   refine xS (id:=0) (by kernel_rfl) ?_
   cases h
   exact ⟨rfl,(sw [] [] [] [] an)⟩
  intro g_2;replace h:=zP g_2 h
  refine sk ?_
  refine sq ?_
  refine yC (id:=1) (by kernel_rfl) ?_
  refine sr [] [0,1,5,12,13] [] 0 [.sl false 1 (Ms s1_1),.sl false 1 (Ms s2_1),Ii v_1,Ii (lN (s1_1)),Ii v_1] [] zG an ?_
  refine sq ?_
  obtain ⟨x_1,h_2,h⟩:=bind_some h
  obtain ⟨x_2,h_3,h⟩:=bind_some h
  refine rg [(2,{ av:=.str x_1 }),(6,{ av:=.str x_2 })] [0,1,12,13,24] [] 0 [.sl false 1 (Ms s1_1),.sl false 1 (Ms s2_1),Ii (lN (s1_1)),Ii v_1,.bool (!(x_1==x_2))] [] zG (ac (yP h_2:xG (Ms s1_1) v_1=some (.str x_1)) (ac (yP h_3:xG (Ms s2_1) v_1=some (.str x_2)) an)) ?_
  refine cd 24 (!(x_1==x_2)) ?_ ?_
  rotate_left
  ·intro g_3;replace h:=zO g_3 h
   refine sk ?_
   refine rg [] [0,1,12,13] [] 0 [.sl false 1 (Ms s1_1),.sl false 1 (Ms s2_1),Ii (lN (s1_1)),Ii (zR (v_1+(1:Int)))] [] zG an ?_
   exact ⟨_,(sw [] [] [.s 0,.s 1,.s 12,.s 13] [] an),_,rfl,h⟩
  intro g_3;replace h:=zP g_3 h
  refine sr [] [4] [] 0 [.bool false] [] zG an ?_
  refine rt ?_
  cases h
  exact ⟨rfl,Nat.le_of_ble_eq_true rfl,by kernel_rfl⟩
 intro e st1 hk
 rcases o_1 with q_1 | q_2
 rotate_left
 ·obtain ⟨rfl,hf⟩:=hk
  cases h
  exact ⟨st1,Sub.refl _ _,.inr rfl,hf⟩
 obtain ⟨rfl,hs⟩:=hk
 refine ⟨_,hs,?_⟩
 refine sr [] [4] [] 0 [.bool true] [] zG an ?_
 refine rt ?_
 cases h
 exact ⟨.inr rfl,Nat.le_of_ble_eq_true rfl,by kernel_rfl⟩
theorem zIn (F:Nat) (a_1:zK) (b_1:zK) (r:Bool) (h:zA3 F a_1 b_1=some r):zW prog 60 [] [] [zD a_1,zD b_1] [] (.bool r):=by
 refine yA (fn:=Go.Proofs.Try.f60) (code:=xC Go.Proofs.Try.f60) (by kernel_rfl) (by kernel_rfl) (Nat.le_of_ble_eq_true (by kernel_rfl)) ?_
 unfold zA3 at h
 refine sr [(0,{ id:=0 }),(1,{ id:=1 })] [2,3] [0,1] 2 [Pp 0,Pp 1] [Vb 42 (zU a_1),Vb 42 (zU b_1)] zG an ?_
 refine sq ?_
 obtain ⟨p_1,h_2,h⟩:=bind_some h
 refine y9 (mk [(4,.bool p_1)] [] 0) ?_ ?_
 ·replace h:=h_2
  rcases bft (a_1.At==b_1.At) with zH | zH
  ·replace h:=zP zH h
   rcases bft (a_1.Kind==b_1.Kind) with zI | zI
   ·replace h:=zP zI h
    rcases bft (a_1.Name==b_1.Name) with zN | zN
    ·replace h:=zP zN h
     rcases bft (a_1.N==b_1.N) with zV | zV
     ·replace h:=zP zV h
      rcases bft (a_1.M==b_1.M) with yF | yF
      ·replace h:=zP yF h
       obtain ⟨r_1,h_1,h⟩:=bind_some h
       refine rg [(11,Ht),(18,Ht),(25,Ht),(32,Ht),(38,{ av:=.bool r_1,l:=[.sl false 1 (Ms a_1.Stack),.sl false 1 (Ms b_1.Stack)] }),(39,Ht)] [4] [] 2 [.bool r_1] [] zG (ac zH (ac zH (ac zH (ac zH (ac zH (ac zH (ac zI (ac zI (ac zI (ac zI (ac zI (ac zI (ac zN (ac zN (ac zN (ac zN (ac zN (ac zN (ac zV (ac zV (ac zV (ac zV (ac zV (ac zV (ac yF (ac yF (ac yF (ac yF (ac yF (ar ([.sl false 1 (Ms a_1.Stack),.sl false 1 (Ms b_1.Stack)]:List AV) (ac (rfl:([]:List zT)=[]) (ac (zBj F a_1.Stack b_1.Stack r_1 h_1:zW prog 73 [] [] [.sl false 1 (Ms a_1.Stack),.sl false 1 (Ms b_1.Stack)] [] (.bool r_1)) (ac yF an))))))))))))))))))))))))))))))))) ?_
       cases h
       exact ⟨rfl,(sw [] [] [.s 4] [] an)⟩
      ·replace h:=zO yF h
       refine rg [(11,Ht),(18,Ht),(25,Ht),(32,Ht),(34,Hg),(35,Hg),(36,Hg),(37,Hg),(38,Hg),(39,Hf)] [4] [] 2 [.bool false] [] zG (ac zH (ac zH (ac zH (ac zH (ac zH (ac zH (ac zI (ac zI (ac zI (ac zI (ac zI (ac zI (ac zN (ac zN (ac zN (ac zN (ac zN (ac zN (ac zV (ac zV (ac zV (ac zV (ac zV (ac zV (ac yF (ac yF (ac yF (ac yF (ac yF (ac yF an)))))))))))))))))))))))))))))) ?_
       cases h
       exact ⟨rfl,(sw [] [] [.s 4] [] an)⟩
     ·replace h:=zO zV h
      refine rg [(11,Ht),(18,Ht),(25,Ht),(27,Hg),(28,Hg),(29,Hg),(30,Hg),(31,Hg),(32,Hf),(34,Hg),(35,Hg),(36,Hg),(37,Hg),(38,Hg),(39,Hf)] [4] [] 2 [.bool false] [] zG (ac zH (ac zH (ac zH (ac zH (ac zH (ac zH (ac zI (ac zI (ac zI (ac zI (ac zI (ac zI (ac zN (ac zN (ac zN (ac zN (ac zN (ac zN (ac zV (ac zV (ac zV (ac zV (ac zV (ac zV (ac (rfl:false=!true) (ac (rfl:false=!true) (ac (rfl:false=!true) (ac (rfl:false=!true) (ac (rfl:false=!true) (ar false an)))))))))))))))))))))))))))))) ?_
      cases h
      exact ⟨rfl,(sw [] [] [.s 4] [] an)⟩
    ·replace h:=zO zN h
     refine rg [(11,Ht),(18,Ht),(20,Hg),(21,Hg),(22,Hg),(23,Hg),(24,Hg),(25,Hf),(27,Hg),(28,Hg),(29,Hg),(30,Hg),(31,Hg),(32,Hf),(34,Hg),(35,Hg),(36,Hg),(37,Hg),(38,Hg),(39,Hf)] [4] [] 2 [.bool false] [] zG (ac zH (ac zH (ac zH (ac zH (ac zH (ac zH (ac zI (ac zI (ac zI (ac zI (ac zI (ac zI (ac zN (ac zN (ac zN (ac zN (ac zN (ac zN (ac (rfl:false=!true) (ac (rfl:false=!true) (ac (rfl:false=!true) (ac (rfl:false=!true) (ac (rfl:false=!true) (ar false (ac (rfl:false=!true) (ac (rfl:false=!true) (ac (rfl:false=!true) (ac (rfl:false=!true) (ac (rfl:false=!true) (ar false an)))))))))))))))))))))))))))))) ?_
     cases h
     exact ⟨rfl,(sw [] [] [.s 4] [] an)⟩
   ·replace h:=zO zI h
    refine rg [(11,Ht),(13,Hg),(14,Hg),(15,Hg),(16,Hg),(17,Hg),(18,Hf),(20,Hg),(21,Hg),(22,Hg),(23,Hg),(24,Hg),(25,Hf),(27,Hg),(28,Hg),(29,Hg),(30,Hg),(31,Hg),(32,Hf),(34,Hg),(35,Hg),(36,Hg),(37,Hg),(38,Hg),(39,Hf)] [4] [] 2 [.bool false] [] zG (ac zH (ac zH (ac zH (ac zH (ac zH (ac zH (ac zI (ac zI (ac zI (ac zI (ac zI (ac zI (ac (rfl:false=!true) (ac (rfl:false=!true) (ac (rfl:false=!true) (ac (rfl:false=!true) (ac (rfl:false=!true) (ar false (ac (rfl:false=!true) (ac (rfl:false=!true) (ac (rfl:false=!true) (ac (rfl:false=!true) (ac (rfl:false=!true) (ar false (ac (rfl:false=!true) (ac (rfl:false=!true) (ac (rfl:false=!true) (ac (rfl:false=!true) (ac (rfl:false=!true) (ar false an)))))))))))))))))))))))))))))) ?_
    cases h
    exact ⟨rfl,(sw [] [] [.s 4] [] an)⟩
  ·replace h:=zO zH h
   refine rg [(6,Hg),(7,Hg),(8,Hg),(9,Hg),(10,Hg),(11,Hf),(13,Hg),(14,Hg),(15,Hg),(16,Hg),(17,Hg),(18,Hf),(20,Hg),(21,Hg),(22,Hg),(23,Hg),(24,Hg),(25,Hf),(27,Hg),(28,Hg),(29,Hg),(30,Hg),(31,Hg),(32,Hf),(34,Hg),(35,Hg),(36,Hg),(37,Hg),(38,Hg),(39,Hf)] [4] [] 2 [.bool false] [] zG (ac zH (ac zH (ac zH (ac zH (ac zH (ac zH (ac (rfl:false=!true) (ac (rfl:false=!true) (ac (rfl:false=!true) (ac (rfl:false=!true) (ac (rfl:false=!true) (ar false (ac (rfl:false=!true) (ac (rfl:false=!true) (ac (rfl:false=!true) (ac (rfl:false=!true) (ac (rfl:false=!true) (ar false (ac (rfl:false=!true) (ac (rfl:false=!true) (ac (rfl:false=!true) (ac (rfl:false=!true) (ac (rfl:false=!true) (ar false (ac (rfl:false=!true) (ac (rfl:false=!true) (ac (rfl:false=!true) (ac (rfl:false=!true) (ac (rfl:false=!true) (ar false an)))))))))))))))))))))))))))))) ?_
   cases h
   exact ⟨rfl,(sw [] [] [.s 4] [] an)⟩
 refine rt ?_
 cases h
 exact ⟨.inr rfl,Nat.le_of_ble_eq_true rfl,by kernel_rfl⟩
theorem vD (F:Nat) (s1_1:List (zK)) (s2_1:List (zK)) (r:Bool) (h:y3 F s1_1 s2_1=some r):zW prog 59 [] [] [.sl false 6 (Mp zD s1_1),.sl false 6 (Mp zD s2_1),.fn 60 []] [] (.bool r):=by
 refine yA (fn:=Go.Proofs.Try.f59) (code:=xC Go.Proofs.Try.f59) (by kernel_rfl) (by kernel_rfl) (Nat.le_of_ble_eq_true (by kernel_rfl)) ?_
 unfold y3 at h
 refine sr [] [0,1,2] [] 0 [.sl false 6 (Mp zD s1_1),.sl false 6 (Mp zD s2_1),.fn 60 []] [] zG an ?_
 refine sq ?_
 refine sr [(1,{ n:=(s1_1).length }),(3,{ n:=(s2_1).length })] [0,1,2,14] [] 0 [.sl false 6 (Mp zD s1_1),.sl false 6 (Mp zD s2_1),.fn 60 [],.bool ((lN (s1_1)) != (lN (s2_1)))] [] zG (ac (z9 _:((Mp zD s1_1)).length=(s1_1).length) (ac (z9 _:((Mp zD s2_1)).length=(s2_1).length) an)) ?_
 refine cd 14 ((lN (s1_1)) != (lN (s2_1))) ?_ ?_
 ·intro g_1;replace h:=zP g_1 h
  refine sr [] [6] [] 0 [.bool false] [] zG an ?_
  refine rt ?_
  cases h
  exact ⟨.inr rfl,Nat.le_of_ble_eq_true rfl,by kernel_rfl⟩
 intro g_1;replace h:=zO g_1 h
 refine sk ?_
 refine sq ?_
 refine sr [(1,{ n:=(s1_1).length })] [1,2,15,16,17] [] 0 [.sl false 6 (Mp zD s2_1),.fn 60 [],.sl false 6 (Mp zD s1_1),Ii (lN (s1_1)),Ii 0] [] zG (ac (z9 _:((Mp zD s1_1)).length=(s1_1).length) an) ?_
 obtain ⟨o_1,h_1,h⟩:=bind_some h
 refine wK (K1:=(fun e st'=>match o_1 with | (.inl q0)=>e=.normal∧Sub 0 st' (mk [] [] 0) | (.inr q1)=>e=.ret∧uF prog Go.Proofs.Try.f59 0 [] (.bool q1) st')) ?_ ?_
 ·replace h:=h_1
  refine yC (id:=0) (by kernel_rfl) ?_
  refine wk [] [] [.s 1,.s 2,.s 15,.s 16,.s 17] [] [(1,.sl false 6 (Mp zD s2_1)),(2,.fn 60 []),(15,.sl false 6 (Mp zD s1_1)),(16,Ii (lN (s1_1))),(17,Ii 0)] [] an ?_
  refine xH (fun n st=>∃ (v_1:Int),st=mk [(1,.sl false 6 (Mp zD s2_1)),(2,.fn 60 []),(15,.sl false 6 (Mp zD s1_1)),(16,Ii (lN (s1_1))),(17,Ii v_1)] [] 0∧yO F s1_1 s2_1 n v_1=some o_1) F (by kernel_rfl) ⟨_,rfl,h⟩ ?_ ?_
  ·rintro _ ⟨_,_,h⟩;exact xX (h:(none:Option (Unit⊕Bool))=some o_1)
  rintro n_1 _ ⟨v_1,rfl,h⟩
  replace h:yD F s1_1 s2_1 (yO F s1_1 s2_1 n_1) v_1=some o_1:=h
  unfold yD at h
  refine sr [] [1,2,15,16,17,18] [] 0 [.sl false 6 (Mp zD s2_1),.fn 60 [],.sl false 6 (Mp zD s1_1),Ii (lN (s1_1)),Ii v_1,.bool (decide (v_1<(lN (s1_1))))] [] zG an ?_
  refine sq ?_
  refine cd 18 (decide (v_1<(lN (s1_1)))) ?_ ?_
  rotate_left
  ·intro g_2;replace h:=zO g_2 h
   refine xS (id:=0) (by kernel_rfl) ?_
   cases h
   exact ⟨rfl,(sw [] [] [] [] an)⟩
  intro g_2;replace h:=zP g_2 h
  refine sk ?_
  refine sq ?_
  refine yC (id:=1) (by kernel_rfl) ?_
  refine sq ?_
  obtain ⟨x_1,h_2,h⟩:=bind_some h
  refine rg [(1,{ av:=zD x_1 }),(3,{ id:=0 })] [1,2,7,8,15,16,17] [0] 1 [.sl false 6 (Mp zD s2_1),.fn 60 [],Ii v_1,Pp 0,.sl false 6 (Mp zD s1_1),Ii (lN (s1_1)),Ii v_1] [Vb 42 (zU x_1)] zG (ac (yP h_2:xG (Mp zD s1_1) v_1=some (zD x_1)) an) ?_
  refine sq ?_
  obtain ⟨x_2,h_3,h⟩:=bind_some h
  refine rg [(2,{ av:=zD x_2 }),(4,{ id:=1 })] [1,2,8,9,15,16,17] [0,1] 2 [.sl false 6 (Mp zD s2_1),.fn 60 [],Pp 0,Pp 1,.sl false 6 (Mp zD s1_1),Ii (lN (s1_1)),Ii v_1] [Vb 42 (zU x_1),Vb 42 (zU x_2)] zG (ac (yP h_3:xG (Mp zD s2_1) v_1=some (zD x_2)) an) ?_
  refine sq ?_
  obtain ⟨r_1,h_4,h⟩:=bind_some h
  refine rg [(3,{ av:=.bool r_1,l:=[zD x_1,zD x_2] })] [1,2,15,16,17,30] [] 2 [.sl false 6 (Mp zD s2_1),.fn 60 [],.sl false 6 (Mp zD s1_1),Ii (lN (s1_1)),Ii v_1,.bool (!r_1)] [] zG (ar ([zD x_1,zD x_2]:List AV) (ac (rfl:([]:List zT)=[]) (ac (zIn F x_1 x_2 r_1 h_4:zW prog 60 [] [] [zD x_1,zD x_2] [] (.bool r_1)) an))) ?_
  refine cd 30 (!r_1) ?_ ?_
  rotate_left
  ·intro g_3;replace h:=zO g_3 h
   refine sk ?_
   refine rg [] [1,2,15,16,17] [] 2 [.sl false 6 (Mp zD s2_1),.fn 60 [],.sl false 6 (Mp zD s1_1),Ii (lN (s1_1)),Ii (zR (v_1+(1:Int)))] [] zG an ?_
   exact ⟨_,(sw [] [] [.s 1,.s 2,.s 15,.s 16,.s 17] [] an),_,rfl,h⟩
  intro g_3;replace h:=zP g_3 h
  refine sr [] [6] [] 2 [.bool false] [] zG an ?_
  refine rt ?_
  cases h
  exact ⟨rfl,Nat.le_of_ble_eq_true rfl,by kernel_rfl⟩
 intro e st1 hk
 rcases o_1 with q_1 | q_2
 rotate_left
 ·obtain ⟨rfl,hf⟩:=hk
  cases h
  exact ⟨st1,Sub.refl _ _,.inr rfl,hf⟩
 obtain ⟨rfl,hs⟩:=hk
 refine ⟨_,hs,?_⟩
 refine sr [] [6] [] 0 [.bool true] [] zG an ?_
 refine rt ?_
 cases h
 exact ⟨.inr rfl,Nat.le_of_ble_eq_true rfl,by kernel_rfl⟩
theorem zHD (F:Nat) (a_1:zB) (b_1:zB) (r:Bool) (h:zAn F a_1 b_1=some r):zW prog 42 [] [] [zA a_1,zA b_1] [] (.bool r):=by
 refine yA (fn:=Go.Proofs.Try.f42) (code:=xC Go.Proofs.Try.f42) (by kernel_rfl) (by kernel_rfl) (Nat.le_of_ble_eq_true (by kernel_rfl)) ?_
 unfold zAn at h
 refine sr [(0,{ id:=0 }),(1,{ id:=1 })] [2,3] [0,1] 2 [Pp 0,Pp 1] [Vb 59 (zZ a_1),Vb 59 (zZ b_1)] zG an ?_
 refine sq ?_
 obtain ⟨p_1,h_2,h⟩:=bind_some h
 refine y9 (mk [(4,.bool p_1)] [] 0) ?_ ?_
 ·replace h:=h_2
  rcases bft (a_1.Thread==b_1.Thread) with zH | zH
  ·replace h:=zP zH h
   rcases bft (a_1.Serial==b_1.Serial) with zI | zI
   ·replace h:=zP zI h
    rcases bft (a_1.Lost==b_1.Lost) with zN | zN
    ·replace h:=zP zN h
     obtain ⟨r_1,h_1,h⟩:=bind_some h
     refine rg [(11,Ht),(18,Ht),(24,{ av:=.bool r_1,l:=[.sl false 6 (Mp zD a_1.Events),.sl false 6 (Mp zD b_1.Events),.fn 60 []] }),(25,Ht)] [4] [] 2 [.bool r_1] [] zG (ac zH (ac zH (ac zH (ac zH (ac zH (ac zH (ac zI (ac zI (ac zI (ac zI (ac zI (ac zI (ac zN (ac zN (ac zN (ac zN (ac zN (ar ([.sl false 6 (Mp zD a_1.Events),.sl false 6 (Mp zD b_1.Events),.fn 60 []]:List AV) (ac (rfl:([]:List zT)=[]) (ac (vD F a_1.Events b_1.Events r_1 h_1:zW prog 59 [] [] [.sl false 6 (Mp zD a_1.Events),.sl false 6 (Mp zD b_1.Events),.fn 60 []] [] (.bool r_1)) (ac zN an))))))))))))))))))))) ?_
     cases h
     exact ⟨rfl,(sw [] [] [.s 4] [] an)⟩
    ·replace h:=zO zN h
     refine rg [(11,Ht),(18,Ht),(20,Hg),(21,Hg),(22,Hg),(23,Hg),(24,Hg),(25,Hf)] [4] [] 2 [.bool false] [] zG (ac zH (ac zH (ac zH (ac zH (ac zH (ac zH (ac zI (ac zI (ac zI (ac zI (ac zI (ac zI (ac zN (ac zN (ac zN (ac zN (ac zN (ac zN an)))))))))))))))))) ?_
     cases h
     exact ⟨rfl,(sw [] [] [.s 4] [] an)⟩
   ·replace h:=zO zI h
    refine rg [(11,Ht),(13,Hg),(14,Hg),(15,Hg),(16,Hg),(17,Hg),(18,Hf),(20,Hg),(21,Hg),(22,Hg),(23,Hg),(24,Hg),(25,Hf)] [4] [] 2 [.bool false] [] zG (ac zH (ac zH (ac zH (ac zH (ac zH (ac zH (ac zI (ac zI (ac zI (ac zI (ac zI (ac zI (ac (rfl:false=!true) (ac (rfl:false=!true) (ac (rfl:false=!true) (ac (rfl:false=!true) (ac (rfl:false=!true) (ar false an)))))))))))))))))) ?_
    cases h
    exact ⟨rfl,(sw [] [] [.s 4] [] an)⟩
  ·replace h:=zO zH h
   refine rg [(6,Hg),(7,Hg),(8,Hg),(9,Hg),(10,Hg),(11,Hf),(13,Hg),(14,Hg),(15,Hg),(16,Hg),(17,Hg),(18,Hf),(20,Hg),(21,Hg),(22,Hg),(23,Hg),(24,Hg),(25,Hf)] [4] [] 2 [.bool false] [] zG (ac zH (ac zH (ac zH (ac zH (ac zH (ac zH (ac (rfl:false=!true) (ac (rfl:false=!true) (ac (rfl:false=!true) (ac (rfl:false=!true) (ac (rfl:false=!true) (ar false (ac (rfl:false=!true) (ac (rfl:false=!true) (ac (rfl:false=!true) (ac (rfl:false=!true) (ac (rfl:false=!true) (ar false an)))))))))))))))))) ?_
   cases h
   exact ⟨rfl,(sw [] [] [.s 4] [] an)⟩
 refine rt ?_
 cases h
 exact ⟨.inr rfl,Nat.le_of_ble_eq_true rfl,by kernel_rfl⟩
theorem zIo (F:Nat) (p_1:zB) (q_1:zB) (r:Bool) (h:zCf F p_1 q_1=some r):zW prog 41 [] [] [zA p_1,zA q_1] [] (.bool r):=by
 refine yA (fn:=Go.Proofs.Try.f41) (code:=xC Go.Proofs.Try.f41) (by kernel_rfl) (by kernel_rfl) (Nat.le_of_ble_eq_true (by kernel_rfl)) ?_
 unfold zCf at h
 refine sr [(0,{ id:=0 }),(1,{ id:=1 })] [2,3] [0,1] 2 [Pp 0,Pp 1] [Vb 59 (zZ p_1),Vb 59 (zZ q_1)] zG an ?_
 refine sq ?_
 obtain ⟨r_1,h_1,h⟩:=bind_some h
 refine rg [(2,{ av:=.bool r_1,l:=[zA p_1,zA q_1] })] [4] [] 2 [.bool r_1] [] zG (ar ([zA p_1,zA q_1]:List AV) (ac (rfl:([]:List zT)=[]) (ac (zHD F p_1 q_1 r_1 h_1:zW prog 42 [] [] [zA p_1,zA q_1] [] (.bool r_1)) an))) ?_
 refine rt ?_
 cases h
 exact ⟨.inr rfl,Nat.le_of_ble_eq_true rfl,by kernel_rfl⟩
theorem w5 (F:Nat) (s1_1:List (zB)) (s2_1:List (zB)) (r:Bool) (h:yM F s1_1 s2_1=some r):zW prog 40 [] [] [.sl false 4 (Mp zA s1_1),.sl false 4 (Mp zA s2_1),.fn 41 []] [] (.bool r):=by
 refine yA (fn:=Go.Proofs.Try.f40) (code:=xC Go.Proofs.Try.f40) (by kernel_rfl) (by kernel_rfl) (Nat.le_of_ble_eq_true (by kernel_rfl)) ?_
 unfold yM at h
 refine sr [] [0,1,2] [] 0 [.sl false 4 (Mp zA s1_1),.sl false 4 (Mp zA s2_1),.fn 41 []] [] zG an ?_
 refine sq ?_
 refine sr [(1,{ n:=(s1_1).length }),(3,{ n:=(s2_1).length })] [0,1,2,14] [] 0 [.sl false 4 (Mp zA s1_1),.sl false 4 (Mp zA s2_1),.fn 41 [],.bool ((lN (s1_1)) != (lN (s2_1)))] [] zG (ac (z9 _:((Mp zA s1_1)).length=(s1_1).length) (ac (z9 _:((Mp zA s2_1)).length=(s2_1).length) an)) ?_
 refine cd 14 ((lN (s1_1)) != (lN (s2_1))) ?_ ?_
 ·intro g_1;replace h:=zP g_1 h
  refine sr [] [6] [] 0 [.bool false] [] zG an ?_
  refine rt ?_
  cases h
  exact ⟨.inr rfl,Nat.le_of_ble_eq_true rfl,by kernel_rfl⟩
 intro g_1;replace h:=zO g_1 h
 refine sk ?_
 refine sq ?_
 refine sr [(1,{ n:=(s1_1).length })] [1,2,15,16,17] [] 0 [.sl false 4 (Mp zA s2_1),.fn 41 [],.sl false 4 (Mp zA s1_1),Ii (lN (s1_1)),Ii 0] [] zG (ac (z9 _:((Mp zA s1_1)).length=(s1_1).length) an) ?_
 obtain ⟨o_1,h_1,h⟩:=bind_some h
 refine wK (K1:=(fun e st'=>match o_1 with | (.inl q0)=>e=.normal∧Sub 0 st' (mk [] [] 0) | (.inr q1)=>e=.ret∧uF prog Go.Proofs.Try.f40 0 [] (.bool q1) st')) ?_ ?_
 ·replace h:=h_1
  refine yC (id:=0) (by kernel_rfl) ?_
  refine wk [] [] [.s 1,.s 2,.s 15,.s 16,.s 17] [] [(1,.sl false 4 (Mp zA s2_1)),(2,.fn 41 []),(15,.sl false 4 (Mp zA s1_1)),(16,Ii (lN (s1_1))),(17,Ii 0)] [] an ?_
  refine xH (fun n st=>∃ (v_1:Int),st=mk [(1,.sl false 4 (Mp zA s2_1)),(2,.fn 41 []),(15,.sl false 4 (Mp zA s1_1)),(16,Ii (lN (s1_1))),(17,Ii v_1)] [] 0∧yJ F s1_1 s2_1 n v_1=some o_1) F (by kernel_rfl) ⟨_,rfl,h⟩ ?_ ?_
  ·rintro _ ⟨_,_,h⟩;exact xX (h:(none:Option (Unit⊕Bool))=some o_1)
  rintro n_1 _ ⟨v_1,rfl,h⟩
  replace h:yB F s1_1 s2_1 (yJ F s1_1 s2_1 n_1) v_1=some o_1:=h
  unfold yB at h
  refine sr [] [1,2,15,16,17,18] [] 0 [.sl false 4 (Mp zA s2_1),.fn 41 [],.sl false 4 (Mp zA s1_1),Ii (lN (s1_1)),Ii v_1,.bool (decide (v_1<(lN (s1_1))))] [] zG an ?_
  refine sq ?_
  refine cd 18 (decide (v_1<(lN (s1_1)))) ?_ ?_
  rotate_left
  ·intro g_2;replace h:=zO g_2 h
   refine xS (id:=0) (by kernel_rfl) ?_
   cases h
   exact ⟨rfl,(sw [] [] [] [] an)⟩
  intro g_2;replace h:=zP g_2 h
  refine sk ?_
  refine sq ?_
  refine yC (id:=1) (by kernel_rfl) ?_
  refine sq ?_
  obtain ⟨x_1,h_2,h⟩:=bind_some h
  refine rg [(1,{ av:=zA x_1 }),(3,{ id:=0 })] [1,2,7,8,15,16,17] [0] 1 [.sl false 4 (Mp zA s2_1),.fn 41 [],Ii v_1,Pp 0,.sl false 4 (Mp zA s1_1),Ii (lN (s1_1)),Ii v_1] [Vb 59 (zZ x_1)] zG (ac (yP h_2:xG (Mp zA s1_1) v_1=some (zA x_1)) an) ?_
  refine sq ?_
  obtain ⟨x_2,h_3,h⟩:=bind_some h
  refine rg [(2,{ av:=zA x_2 }),(4,{ id:=1 })] [1,2,8,9,15,16,17] [0,1] 2 [.sl false 4 (Mp zA s2_1),.fn 41 [],Pp 0,Pp 1,.sl false 4 (Mp zA s1_1),Ii (lN (s1_1)),Ii v_1] [Vb 59 (zZ x_1),Vb 59 (zZ x_2)] zG (ac (yP h_3:xG (Mp zA s2_1) v_1=some (zA x_2)) an) ?_
  refine sq ?_
  obtain ⟨r_1,h_4,h⟩:=bind_some h
  refine rg [(3,{ av:=.bool r_1,l:=[zA x_1,zA x_2] })] [1,2,15,16,17,30] [] 2 [.sl false 4 (Mp zA s2_1),.fn 41 [],.sl false 4 (Mp zA s1_1),Ii (lN (s1_1)),Ii v_1,.bool (!r_1)] [] zG (ar ([zA x_1,zA x_2]:List AV) (ac (rfl:([]:List zT)=[]) (ac (zIo F x_1 x_2 r_1 h_4:zW prog 41 [] [] [zA x_1,zA x_2] [] (.bool r_1)) an))) ?_
  refine cd 30 (!r_1) ?_ ?_
  rotate_left
  ·intro g_3;replace h:=zO g_3 h
   refine sk ?_
   refine rg [] [1,2,15,16,17] [] 2 [.sl false 4 (Mp zA s2_1),.fn 41 [],.sl false 4 (Mp zA s1_1),Ii (lN (s1_1)),Ii (zR (v_1+(1:Int)))] [] zG an ?_
   exact ⟨_,(sw [] [] [.s 1,.s 2,.s 15,.s 16,.s 17] [] an),_,rfl,h⟩
  intro g_3;replace h:=zP g_3 h
  refine sr [] [6] [] 2 [.bool false] [] zG an ?_
  refine rt ?_
  cases h
  exact ⟨rfl,Nat.le_of_ble_eq_true rfl,by kernel_rfl⟩
 intro e st1 hk
 rcases o_1 with q_1 | q_2
 rotate_left
 ·obtain ⟨rfl,hf⟩:=hk
  cases h
  exact ⟨st1,Sub.refl _ _,.inr rfl,hf⟩
 obtain ⟨rfl,hs⟩:=hk
 refine ⟨_,hs,?_⟩
 refine sr [] [6] [] 0 [.bool true] [] zG an ?_
 refine rt ?_
 cases h
 exact ⟨.inr rfl,Nat.le_of_ble_eq_true rfl,by kernel_rfl⟩
theorem zDd (F:Nat) (a_1:zQ) (b_1:zQ) (r:Bool) (h:zBz F a_1 b_1=some r):zW prog 13 [] [] [yE a_1,yE b_1] [] (.bool r):=by
 refine yA (fn:=Go.Proofs.Try.f13) (code:=xC Go.Proofs.Try.f13) (by kernel_rfl) (by kernel_rfl) (Nat.le_of_ble_eq_true (by kernel_rfl)) ?_
 unfold zBz at h
 refine sr [(0,{ id:=0 }),(1,{ id:=1 })] [2,3] [0,1] 2 [Pp 0,Pp 1] [Vb 31 (wD a_1),Vb 31 (wD b_1)] zG an ?_
 refine sr [(4,{ id:=2 }),(5,{ id:=3 })] [2,3,5,6] [0,1,2,3] 4 [Pp 0,Pp 1,Pp 2,Pp 3] [Vb 31 (wD a_1),Vb 31 (wD b_1),Vb 26 (zM a_1.Head),Vb 26 (zM b_1.Head)] zG an ?_
 refine sq ?_
 obtain ⟨p_1,h_5,h⟩:=bind_some h
 refine y9 (mk [(4,.bool p_1)] [] 0) ?_ ?_
 ·replace h:=h_5
  obtain ⟨r_1,h_1,h⟩:=bind_some h
  rcases Bool.eq_false_or_eq_true r_1 with zH | zH
  ·replace h:=zP zH h
   obtain ⟨r_2,h_2,h⟩:=bind_some h
   rcases Bool.eq_false_or_eq_true r_2 with zI | zI
   ·replace h:=zP zI h
    obtain ⟨r_3,h_3,h⟩:=bind_some h
    rcases Bool.eq_false_or_eq_true r_3 with zN | zN
    ·replace h:=zP zN h
     obtain ⟨r_4,h_4,h⟩:=bind_some h
     refine rg [(4,{ av:=.bool r_1,l:=[.sl false 3 (Mp zF a_1.Head.Threads),.sl false 3 (Mp zF b_1.Head.Threads)] }),(10,{ av:=.bool r_2,l:=[.sl false 2 (Mp zC a_1.Head.Domains),.sl false 2 (Mp zC b_1.Head.Domains)] }),(11,Ht),(17,{ av:=.bool r_3,l:=[.sl false 5 (Mp zJ a_1.Head.Snaps),.sl false 5 (Mp zJ b_1.Head.Snaps)] }),(18,Ht),(24,{ av:=.bool r_4,l:=[.sl false 4 (Mp zA a_1.Parts),.sl false 4 (Mp zA b_1.Parts),.fn 41 []] }),(25,Ht)] [4] [] 4 [.bool r_4] [] zG (ar ([.sl false 3 (Mp zF a_1.Head.Threads),.sl false 3 (Mp zF b_1.Head.Threads)]:List AV) (ac (rfl:([]:List zT)=[]) (ac (wE F a_1.Head.Threads b_1.Head.Threads r_1 h_1:zW prog 37 [] [] [.sl false 3 (Mp zF a_1.Head.Threads),.sl false 3 (Mp zF b_1.Head.Threads)] [] (.bool r_1)) (ac zH (ac zH (ac zH (ac zH (ac zH (ar ([.sl false 2 (Mp zC a_1.Head.Domains),.sl false 2 (Mp zC b_1.Head.Domains)]:List AV) (ac (rfl:([]:List zT)=[]) (ac (wX F a_1.Head.Domains b_1.Head.Domains r_2 h_2:zW prog 38 [] [] [.sl false 2 (Mp zC a_1.Head.Domains),.sl false 2 (Mp zC b_1.Head.Domains)] [] (.bool r_2)) (ac zH (ac zI (ac zI (ac zI (ac zI (ac zI (ar ([.sl false 5 (Mp zJ a_1.Head.Snaps),.sl false 5 (Mp zJ b_1.Head.Snaps)]:List AV) (ac (rfl:([]:List zT)=[]) (ac (v9 F a_1.Head.Snaps b_1.Head.Snaps r_3 h_3:zW prog 39 [] [] [.sl false 5 (Mp zJ a_1.Head.Snaps),.sl false 5 (Mp zJ b_1.Head.Snaps)] [] (.bool r_3)) (ac zI (ac zN (ac zN (ac zN (ac zN (ac zN (ar ([.sl false 4 (Mp zA a_1.Parts),.sl false 4 (Mp zA b_1.Parts),.fn 41 []]:List AV) (ac (rfl:([]:List zT)=[]) (ac (w5 F a_1.Parts b_1.Parts r_4 h_4:zW prog 40 [] [] [.sl false 4 (Mp zA a_1.Parts),.sl false 4 (Mp zA b_1.Parts),.fn 41 []] [] (.bool r_4)) (ac zN an)))))))))))))))))))))))))))))) ?_
     cases h
     exact ⟨rfl,(sw [] [] [.s 4] [] an)⟩
    ·replace h:=zO zN h
     refine rg [(4,{ av:=.bool r_1,l:=[.sl false 3 (Mp zF a_1.Head.Threads),.sl false 3 (Mp zF b_1.Head.Threads)] }),(10,{ av:=.bool r_2,l:=[.sl false 2 (Mp zC a_1.Head.Domains),.sl false 2 (Mp zC b_1.Head.Domains)] }),(11,Ht),(17,{ av:=.bool r_3,l:=[.sl false 5 (Mp zJ a_1.Head.Snaps),.sl false 5 (Mp zJ b_1.Head.Snaps)] }),(18,Ht),(20,Hg),(21,Hg),(22,Hg),(23,Hg),(24,Hg),(25,Hf)] [4] [] 4 [.bool false] [] zG (ar ([.sl false 3 (Mp zF a_1.Head.Threads),.sl false 3 (Mp zF b_1.Head.Threads)]:List AV) (ac (rfl:([]:List zT)=[]) (ac (wE F a_1.Head.Threads b_1.Head.Threads r_1 h_1:zW prog 37 [] [] [.sl false 3 (Mp zF a_1.Head.Threads),.sl false 3 (Mp zF b_1.Head.Threads)] [] (.bool r_1)) (ac zH (ac zH (ac zH (ac zH (ac zH (ar ([.sl false 2 (Mp zC a_1.Head.Domains),.sl false 2 (Mp zC b_1.Head.Domains)]:List AV) (ac (rfl:([]:List zT)=[]) (ac (wX F a_1.Head.Domains b_1.Head.Domains r_2 h_2:zW prog 38 [] [] [.sl false 2 (Mp zC a_1.Head.Domains),.sl false 2 (Mp zC b_1.Head.Domains)] [] (.bool r_2)) (ac zH (ac zI (ac zI (ac zI (ac zI (ac zI (ar ([.sl false 5 (Mp zJ a_1.Head.Snaps),.sl false 5 (Mp zJ b_1.Head.Snaps)]:List AV) (ac (rfl:([]:List zT)=[]) (ac (v9 F a_1.Head.Snaps b_1.Head.Snaps r_3 h_3:zW prog 39 [] [] [.sl false 5 (Mp zJ a_1.Head.Snaps),.sl false 5 (Mp zJ b_1.Head.Snaps)] [] (.bool r_3)) (ac zI (ac zN (ac zN (ac zN (ac zN (ac zN (ac zN an))))))))))))))))))))))))))) ?_
     cases h
     exact ⟨rfl,(sw [] [] [.s 4] [] an)⟩
   ·replace h:=zO zI h
    refine rg [(4,{ av:=.bool r_1,l:=[.sl false 3 (Mp zF a_1.Head.Threads),.sl false 3 (Mp zF b_1.Head.Threads)] }),(10,{ av:=.bool r_2,l:=[.sl false 2 (Mp zC a_1.Head.Domains),.sl false 2 (Mp zC b_1.Head.Domains)] }),(11,Ht),(13,Hg),(14,Hg),(15,Hg),(16,Hg),(17,Hg),(18,Hf),(20,Hg),(21,Hg),(22,Hg),(23,Hg),(24,Hg),(25,Hf)] [4] [] 4 [.bool false] [] zG (ar ([.sl false 3 (Mp zF a_1.Head.Threads),.sl false 3 (Mp zF b_1.Head.Threads)]:List AV) (ac (rfl:([]:List zT)=[]) (ac (wE F a_1.Head.Threads b_1.Head.Threads r_1 h_1:zW prog 37 [] [] [.sl false 3 (Mp zF a_1.Head.Threads),.sl false 3 (Mp zF b_1.Head.Threads)] [] (.bool r_1)) (ac zH (ac zH (ac zH (ac zH (ac zH (ar ([.sl false 2 (Mp zC a_1.Head.Domains),.sl false 2 (Mp zC b_1.Head.Domains)]:List AV) (ac (rfl:([]:List zT)=[]) (ac (wX F a_1.Head.Domains b_1.Head.Domains r_2 h_2:zW prog 38 [] [] [.sl false 2 (Mp zC a_1.Head.Domains),.sl false 2 (Mp zC b_1.Head.Domains)] [] (.bool r_2)) (ac zH (ac zI (ac zI (ac zI (ac zI (ac zI (ac zI (ac (rfl:false=!true) (ac (rfl:false=!true) (ac (rfl:false=!true) (ac (rfl:false=!true) (ac (rfl:false=!true) (ar false an)))))))))))))))))))))))) ?_
    cases h
    exact ⟨rfl,(sw [] [] [.s 4] [] an)⟩
  ·replace h:=zO zH h
   refine rg [(4,{ av:=.bool r_1,l:=[.sl false 3 (Mp zF a_1.Head.Threads),.sl false 3 (Mp zF b_1.Head.Threads)] }),(6,Hg),(7,Hg),(8,Hg),(9,Hg),(10,Hg),(11,Hf),(13,Hg),(14,Hg),(15,Hg),(16,Hg),(17,Hg),(18,Hf),(20,Hg),(21,Hg),(22,Hg),(23,Hg),(24,Hg),(25,Hf)] [4] [] 4 [.bool false] [] zG (ar ([.sl false 3 (Mp zF a_1.Head.Threads),.sl false 3 (Mp zF b_1.Head.Threads)]:List AV) (ac (rfl:([]:List zT)=[]) (ac (wE F a_1.Head.Threads b_1.Head.Threads r_1 h_1:zW prog 37 [] [] [.sl false 3 (Mp zF a_1.Head.Threads),.sl false 3 (Mp zF b_1.Head.Threads)] [] (.bool r_1)) (ac zH (ac zH (ac zH (ac zH (ac zH (ac zH (ac (rfl:false=!true) (ac (rfl:false=!true) (ac (rfl:false=!true) (ac (rfl:false=!true) (ac (rfl:false=!true) (ar false (ac (rfl:false=!true) (ac (rfl:false=!true) (ac (rfl:false=!true) (ac (rfl:false=!true) (ac (rfl:false=!true) (ar false an))))))))))))))))))))) ?_
   cases h
   exact ⟨rfl,(sw [] [] [.s 4] [] an)⟩
 refine rt ?_
 cases h
 exact ⟨.inr rfl,Nat.le_of_ble_eq_true rfl,by kernel_rfl⟩
theorem zCB (F:Nat) (l_1:zQ) (r:Int) (h:zB3 F l_1=some r):zW prog 14 [] [] [yE l_1] [] (Ii r):=by
 refine yA (fn:=Go.Proofs.Try.f14) (code:=xC Go.Proofs.Try.f14) (by kernel_rfl) (by kernel_rfl) (Nat.le_of_ble_eq_true (by kernel_rfl)) ?_
 unfold zB3 at h
 refine sr [(0,{ id:=0 })] [1] [0] 1 [Pp 0] [Vb 31 (wD l_1)] zG an ?_
 refine sq ?_
 obtain ⟨r_1,h_1,h⟩:=bind_some h
 refine rg [(4,{ av:=.tuple [yE r_1.1,Ii r_1.2],l:=[yN l_1.Head,.sl false 4 (Mp zA l_1.Parts)] }),(8,{ id:=1 })] [1,3,4] [0,1] 2 [Pp 0,Pp 1,Ii r_1.2] [Vb 31 (wD l_1),Vb 31 (wD r_1.1)] zG (ar ([yN l_1.Head,.sl false 4 (Mp zA l_1.Parts)]:List AV) (ac (rfl:([]:List zT)=[]) (ac (zBR F l_1.Head l_1.Parts r_1 h_1:zW prog 10 [] [] [yN l_1.Head,.sl false 4 (Mp zA l_1.Parts)] [] (.tuple [yE r_1.1,Ii r_1.2])) an))) ?_
 refine sq ?_
 refine sq ?_
 obtain ⟨p_1,h_3,h⟩:=bind_some h
 refine y9 (mk [(4,Ii r_1.2),(20,.bool p_1)] [] 0) ?_ ?_
 ·replace h:=h_3
  rcases bft (r_1.2==(0:Int)) with zH | zH
  ·replace h:=zP zH h
   obtain ⟨r_2,h_2,h⟩:=bind_some h
   refine rg [(5,{ av:=.bool r_2,l:=[yE r_1.1,yE l_1] }),(7,Ht)] [4,20] [] 2 [Ii r_1.2,.bool (!r_2)] [] zG (ac zH (ac zH (ac zH (ar ([yE r_1.1,yE l_1]:List AV) (ac (rfl:([]:List zT)=[]) (ac (zDd F r_1.1 l_1 r_2 h_2:zW prog 13 [] [] [yE r_1.1,yE l_1] [] (.bool r_2)) (ac zH (ac zH an)))))))) ?_
   cases h
   exact ⟨rfl,(sw [] [] [.s 4,.s 20] [] an)⟩
  ·replace h:=zO zH h
   refine rg [(3,Hg),(4,Hg),(5,Hg),(6,Hg),(7,Hf)] [4,20] [] 2 [Ii r_1.2,.bool false] [] zG (ac zH (ac zH (ac zH (ac zH (ac zH an))))) ?_
   cases h
   exact ⟨rfl,(sw [] [] [.s 4,.s 20] [] an)⟩
 refine cd 20 p_1 ?_ ?_
 ·intro g_1;replace h:=zP g_1 h
  refine sr [] [2] [] 0 [Ii 10] [] zG an ?_
  refine rt ?_
  cases h
  exact ⟨.inr rfl,Nat.le_of_ble_eq_true rfl,by kernel_rfl⟩
 intro g_1;replace h:=zO g_1 h
 refine sk ?_
 refine sr [] [2] [] 0 [Ii r_1.2] [] zG an ?_
 refine rt ?_
 cases h
 exact ⟨.inr rfl,Nat.le_of_ble_eq_true rfl,by kernel_rfl⟩
theorem zKB (F:Nat) (l_1:zQ) (r:(List (yQ))) (h:zFX F l_1=some r):zW prog 18 [] [] [yE l_1] [.row 50 3 (Mp yU r)] (.own 0 ((r).length)):=by
 refine yA (fn:=Go.Proofs.Try.f18) (code:=xC Go.Proofs.Try.f18) (by kernel_rfl) (by kernel_rfl) (Nat.le_of_ble_eq_true (by kernel_rfl)) ?_
 unfold zFX at h
 refine sr [(0,{ id:=0 }),(1,{ id:=1,m:=1 })] [1] [0] 2 [Pp 0] [Vb 31 (wD l_1)] zG an ?_
 refine sq ?_
 refine sq ?_
 obtain ⟨r_1,h_1,h⟩:=bind_some h
 refine rg [(1,{ av:=Ii r_1,l:=[yE l_1] })] [1,8] [0] 2 [Pp 0,.bool (r_1 != (0:Int))] [Vb 31 (wD l_1)] zG (ar ([yE l_1]:List AV) (ac (rfl:([]:List zT)=[]) (ac (zCB F l_1 r_1 h_1:zW prog 14 [] [] [yE l_1] [] (Ii r_1)) an))) ?_
 refine cd 8 (r_1 != (0:Int)) ?_ ?_
 ·intro g_1;replace h:=zP g_1 h
  refine sr [(0,{ id:=2,m:=1 })] [2] [2] 3 [.own 2 0] [Rb 50 3 []] zG an ?_
  refine wk [2] [] [.a 2 (.own 0 ((([]:List yQ)).length))] [.s 0] [(2,.own 0 ((([]:List yQ)).length))] [(0,Rb 50 3 [])] (ac (congrArg (AV.own _) (by first | (simp;done) | (simp;omega)):(.own 2 0:AV)=.own 2 ((([]:List yQ)).length)) an) ?_
  refine rt ?_
  cases h
  exact ⟨.inr rfl,Nat.le_of_ble_eq_true rfl,by kernel_rfl⟩
 intro g_1;replace h:=zO g_1 h
 refine sk ?_
 refine sr [(0,{ id:=2,m:=1 })] [1,3] [0,2] 3 [Pp 0,.own 2 0] [Vb 31 (wD l_1),Rb 50 3 []] zG an ?_
 refine sq ?_
 refine sr [(2,{ n:=(l_1.Parts).length })] [3,10,11,12] [2] 3 [.own 2 0,.sl false 4 (Mp zA l_1.Parts),Ii (lN (l_1.Parts)),Ii 0] [Rb 50 3 []] zG (ac (z9 _:((Mp zA l_1.Parts)).length=(l_1.Parts).length) an) ?_
 obtain ⟨o_1,h_2,h⟩:=bind_some h
 refine y9 (mk [(3,.own 0 ((o_1).length))] [(0,Rb 50 3 (Mp yU o_1))] 1) ?_ ?_
 ·replace h:=h_2
  refine yC (id:=0) (by kernel_rfl) ?_
  refine wk [2] [] [.s 3,.s 10,.s 11,.s 12] [.s 0] [(3,.own 0 0),(10,.sl false 4 (Mp zA l_1.Parts)),(11,Ii (lN (l_1.Parts))),(12,Ii 0)] [(0,Rb 50 3 [])] an ?_
  refine xH (fun n st=>∃ (v_1:Int),∃ (zE:List yQ),st=mk [(3,.own 0 ((zE).length)),(10,.sl false 4 (Mp zA l_1.Parts)),(11,Ii (lN (l_1.Parts))),(12,Ii v_1)] [(0,Rb 50 3 (Mp yU zE))] 1∧zBE F l_1 n v_1 zE=some o_1) F (by kernel_rfl) ⟨_,_,rfl,h⟩ ?_ ?_
  ·rintro _ ⟨_,_,_,h⟩;exact xX (h:(none:Option (List yQ))=some o_1)
  rintro n_1 _ ⟨v_1,zE,rfl,h⟩
  replace h:zAA F l_1 (zBE F l_1 n_1) v_1 zE=some o_1:=h
  unfold zAA at h
  refine sr [] [3,10,11,12,13] [0] 1 [.own 0 ((zE).length),.sl false 4 (Mp zA l_1.Parts),Ii (lN (l_1.Parts)),Ii v_1,.bool (decide (v_1<(lN (l_1.Parts))))] [Rb 50 3 (Mp yU zE)] zG an ?_
  refine sq ?_
  refine cd 13 (decide (v_1<(lN (l_1.Parts)))) ?_ ?_
  rotate_left
  ·intro g_2;replace h:=zO g_2 h
   refine xS (id:=0) (by kernel_rfl) ?_
   cases h
   exact ⟨rfl,(sw [0] [] [.s 3] [.s 0] an)⟩
  intro g_2;replace h:=zP g_2 h
  refine sk ?_
  refine sq ?_
  refine yC (id:=1) (by kernel_rfl) ?_
  refine sq ?_
  obtain ⟨x_1,h_3,h⟩:=bind_some h
  refine rg [(0,{ av:=zA x_1 }),(2,{ id:=1 })] [3,5,10,11,12] [0,1] 2 [.own 0 ((zE).length),Pp 1,.sl false 4 (Mp zA l_1.Parts),Ii (lN (l_1.Parts)),Ii v_1] [Rb 50 3 (Mp yU zE),Vb 59 (zZ x_1)] zG (ac (yP h_3:xG (Mp zA l_1.Parts) v_1=some (zA x_1)) an) ?_
  refine sr [] [3,5,10,11,12,18] [0,1] 2 [.own 0 ((zE).length),Pp 1,.sl false 4 (Mp zA l_1.Parts),Ii (lN (l_1.Parts)),Ii v_1,.bool (decide (x_1.Lost>(0:Int)))] [Rb 50 3 (Mp yU zE),Vb 59 (zZ x_1)] zG an ?_
  refine cd 18 (decide (x_1.Lost>(0:Int))) ?_ ?_
  rotate_left
  ·intro g_3;replace h:=zO g_3 h
   refine sk ?_
   refine rg [] [3,10,11,12] [0] 2 [.own 0 ((zE).length),.sl false 4 (Mp zA l_1.Parts),Ii (lN (l_1.Parts)),Ii (zR (v_1+(1:Int)))] [Rb 50 3 (Mp yU zE)] zG an ?_
   exact ⟨_,(sw [0] [] [.s 3,.s 10,.s 11,.s 12] [.s 0] an),_,_,rfl,h⟩
  intro g_3;replace h:=zP g_3 h
  obtain ⟨_,h_4,h⟩:=bind_some h;replace h_4:=wN h_4
  refine rg [(11,{ id:=2 }),(12,{ id:=3,l:=(Mp yU (zE++([(⟨x_1.Thread,zR (x_1.Serial - x_1.Lost),x_1.Lost⟩:yQ)]:List yQ))),n:=((zE++([(⟨x_1.Thread,zR (x_1.Serial - x_1.Lost),x_1.Lost⟩:yQ)]:List yQ))).length })] [3,10,11,12] [3] 4 [.own 3 (((zE++([(⟨x_1.Thread,zR (x_1.Serial - x_1.Lost),x_1.Lost⟩:yQ)]:List yQ))).length),.sl false 4 (Mp zA l_1.Parts),Ii (lN (l_1.Parts)),Ii v_1] [Rb 50 3 (Mp yU (zE++([(⟨x_1.Thread,zR (x_1.Serial - x_1.Lost),x_1.Lost⟩:yQ)]:List yQ)))] zG (ac (by first | (simp;done) | (simp;omega):(zE).length=((List.map yU zE)).length) (ac (by first | (simp;done) | (simp;omega):1=((List.map yU ([(⟨x_1.Thread,zR (x_1.Serial - x_1.Lost),x_1.Lost⟩:yQ)]:List yQ))).length) (ac (zDy _ _:(Mp yU (zE++([(⟨x_1.Thread,zR (x_1.Serial - x_1.Lost),x_1.Lost⟩:yQ)]:List yQ)))=(Mp yU zE)++(Mp yU ([(⟨x_1.Thread,zR (x_1.Serial - x_1.Lost),x_1.Lost⟩:yQ)]:List yQ))) (ac (by simp:((zE++([(⟨x_1.Thread,zR (x_1.Serial - x_1.Lost),x_1.Lost⟩:yQ)]:List yQ))).length=((List.map yU (zE++([(⟨x_1.Thread,zR (x_1.Serial - x_1.Lost),x_1.Lost⟩:yQ)]:List yQ)))).length) (ac (by first | (simp;done) | simpa using h_4:(((List.map yU zE):List AV).length+((List.map yU ([(⟨x_1.Thread,zR (x_1.Serial - x_1.Lost),x_1.Lost⟩:yQ)]:List yQ)):List AV).length) * 24≤140737488355328) an))))) ?_
  refine rg [] [3,10,11,12] [3] 4 [.own 3 (((zE++([(⟨x_1.Thread,zR (x_1.Serial - x_1.Lost),x_1.Lost⟩:yQ)]:List yQ))).length),.sl false 4 (Mp zA l_1.Parts),Ii (lN (l_1.Parts)),Ii (zR (v_1+(1:Int)))] [Rb 50 3 (Mp yU (zE++([(⟨x_1.Thread,zR (x_1.Serial - x_1.Lost),x_1.Lost⟩:yQ)]:List yQ)))] zG an ?_
  exact ⟨_,(sw [3] [] [.s 3,.s 10,.s 11,.s 12] [.s 0] an),_,_,rfl,h⟩
 refine sr [] [2] [0] 1 [.own 0 ((o_1).length)] [Rb 50 3 (Mp yU o_1)] zG an ?_
 refine wk [0] [] [.s 2] [.s 0] [(2,.own 0 ((o_1).length))] [(0,Rb 50 3 (Mp yU o_1))] an ?_
 refine rt ?_
 cases h
 exact ⟨.inr rfl,Nat.le_of_ble_eq_true rfl,by kernel_rfl⟩
theorem zLZ (F:Nat) (l_1:zQ) (xE:qS) (r:zK×Bool) (h:zHQ F l_1 xE=some r):zW prog 16 [] [] [yE l_1,zGm xE] [] (.tuple [zD r.1,.bool r.2]):=by
 refine yA (fn:=Go.Proofs.Try.f16) (code:=xC Go.Proofs.Try.f16) (by kernel_rfl) (by kernel_rfl) (Nat.le_of_ble_eq_true (by kernel_rfl)) ?_
 unfold zHQ at h
 refine sr [(0,{ id:=0 }),(1,{ id:=1 }),(2,{ id:=2 })] [2,3,4] [0,1,2] 3 [Pp 0,Pp 1,Pp 2] [Vb 31 (wD l_1),Vb 37 (uW xE),Vb 42 [Ii 0,Ii 0,.str ([]:List Int),Ii 0,Ii 0,.nilsl]] zG an ?_
 refine sq ?_
 refine sq ?_
 obtain ⟨r_1,h_1,h⟩:=bind_some h
 refine rg [(1,{ av:=Ii r_1,l:=[yE l_1] })] [2,3,4,10] [0,1,2] 3 [Pp 0,Pp 1,Pp 2,.bool (r_1 != (0:Int))] [Vb 31 (wD l_1),Vb 37 (uW xE),Vb 42 [Ii 0,Ii 0,.str ([]:List Int),Ii 0,Ii 0,.nilsl]] zG (ar ([yE l_1]:List AV) (ac (rfl:([]:List zT)=[]) (ac (zCB F l_1 r_1 h_1:zW prog 14 [] [] [yE l_1] [] (Ii r_1)) an))) ?_
 refine cd 10 (r_1 != (0:Int)) ?_ ?_
 ·intro g_1;replace h:=zP g_1 h
  refine sr [] [4,5] [2] 3 [Pp 2,.bool false] [Vb 42 [Ii 0,Ii 0,.str ([]:List Int),Ii 0,Ii 0,.nilsl]] zG an ?_
  refine wk [2] [] [.s 4,.s 5] [.a 0 (Vb 42 (zU (⟨(0:Int),(0:Int),([]:List Int),(0:Int),(0:Int),[]⟩:zK)))] [(4,Pp 0),(5,.bool false)] [(0,Vb 42 (zU (⟨(0:Int),(0:Int),([]:List Int),(0:Int),(0:Int),[]⟩:zK)))] (ar 42 (ac (rfl:vZ [Ii ((⟨(0:Int),(0:Int),([]:List Int),(0:Int),(0:Int),[]⟩:zK).At),Ii ((⟨(0:Int),(0:Int),([]:List Int),(0:Int),(0:Int),[]⟩:zK).Kind),.str ((⟨(0:Int),(0:Int),([]:List Int),(0:Int),(0:Int),[]⟩:zK).Name),Ii ((⟨(0:Int),(0:Int),([]:List Int),(0:Int),(0:Int),[]⟩:zK).N),Ii ((⟨(0:Int),(0:Int),([]:List Int),(0:Int),(0:Int),[]⟩:zK).M),.sl false 1 (Ms ((⟨(0:Int),(0:Int),([]:List Int),(0:Int),(0:Int),[]⟩:zK).Stack))]=true) (ac (rfl:(Ii 0:AV)=Ii ((⟨(0:Int),(0:Int),([]:List Int),(0:Int),(0:Int),[]⟩:zK).At)) (ac (rfl:(Ii 0:AV)=Ii ((⟨(0:Int),(0:Int),([]:List Int),(0:Int),(0:Int),[]⟩:zK).Kind)) (ac (rfl:(.str ([]:List Int):AV)=.str ((⟨(0:Int),(0:Int),([]:List Int),(0:Int),(0:Int),[]⟩:zK).Name)) (ac (rfl:(Ii 0:AV)=Ii ((⟨(0:Int),(0:Int),([]:List Int),(0:Int),(0:Int),[]⟩:zK).N)) (ac (rfl:(Ii 0:AV)=Ii ((⟨(0:Int),(0:Int),([]:List Int),(0:Int),(0:Int),[]⟩:zK).M)) (ac (rfl:((Ms ((⟨(0:Int),(0:Int),([]:List Int),(0:Int),(0:Int),[]⟩:zK).Stack)):List AV)=[]) an)))))))) ?_
  refine rt ?_
  cases h
  exact ⟨.inr rfl,Nat.le_of_ble_eq_true rfl,by kernel_rfl⟩
 intro g_1;replace h:=zO g_1 h
 refine sk ?_
 refine sq ?_
 refine sr [(2,{ n:=(l_1.Parts).length })] [3,4,13,14,15] [1,2] 3 [Pp 1,Pp 2,.sl false 4 (Mp zA l_1.Parts),Ii (lN (l_1.Parts)),Ii 0] [Vb 37 (uW xE),Vb 42 [Ii 0,Ii 0,.str ([]:List Int),Ii 0,Ii 0,.nilsl]] zG (ac (z9 _:((Mp zA l_1.Parts)).length=(l_1.Parts).length) an) ?_
 obtain ⟨o_1,h_2,h⟩:=bind_some h
 refine wK (K1:=(fun e st'=>match o_1 with | (.inl q0)=>e=.normal∧Sub 0 st' (mk [(4,Pp 0)] [(0,Vb 42 [Ii 0,Ii 0,.str ([]:List Int),Ii 0,Ii 0,.nilsl])] 1) | (.inr q1)=>e=.ret∧uF prog Go.Proofs.Try.f16 0 [] (.tuple [zD q1.1,.bool q1.2]) st')) ?_ ?_
 ·replace h:=h_2
  refine yC (id:=0) (by kernel_rfl) ?_
  refine wk [1,2] [] [.s 3,.s 4,.s 13,.s 14,.s 15] [.s 0,.s 1] [(3,Pp 0),(4,Pp 1),(13,.sl false 4 (Mp zA l_1.Parts)),(14,Ii (lN (l_1.Parts))),(15,Ii 0)] [(0,Vb 37 (uW xE)),(1,Vb 42 [Ii 0,Ii 0,.str ([]:List Int),Ii 0,Ii 0,.nilsl])] an ?_
  refine xH (fun n st=>∃ (v_1:Int),st=mk [(3,Pp 0),(4,Pp 1),(13,.sl false 4 (Mp zA l_1.Parts)),(14,Ii (lN (l_1.Parts))),(15,Ii v_1)] [(0,Vb 37 (uW xE)),(1,Vb 42 [Ii 0,Ii 0,.str ([]:List Int),Ii 0,Ii 0,.nilsl])] 2∧zCb F l_1 xE n v_1=some o_1) F (by kernel_rfl) ⟨_,rfl,h⟩ ?_ ?_
  ·rintro _ ⟨_,_,h⟩;exact xX (h:(none:Option (Unit⊕(zK×Bool)))=some o_1)
  rintro n_1 _ ⟨v_1,rfl,h⟩
  replace h:zAZ F l_1 xE (zCb F l_1 xE n_1) v_1=some o_1:=h
  unfold zAZ at h
  refine sr [] [3,4,13,14,15,16] [0,1] 2 [Pp 0,Pp 1,.sl false 4 (Mp zA l_1.Parts),Ii (lN (l_1.Parts)),Ii v_1,.bool (decide (v_1<(lN (l_1.Parts))))] [Vb 37 (uW xE),Vb 42 [Ii 0,Ii 0,.str ([]:List Int),Ii 0,Ii 0,.nilsl]] zG an ?_
  refine sq ?_
  refine cd 16 (decide (v_1<(lN (l_1.Parts)))) ?_ ?_
  rotate_left
  ·intro g_2;replace h:=zO g_2 h
   refine xS (id:=0) (by kernel_rfl) ?_
   cases h
   exact ⟨rfl,(sw [1] [] [.s 4] [.s 0] an)⟩
  intro g_2;replace h:=zP g_2 h
  refine sk ?_
  refine sq ?_
  refine yC (id:=1) (by kernel_rfl) ?_
  refine sq ?_
  obtain ⟨x_1,h_3,h⟩:=bind_some h
  refine rg [(0,{ av:=zA x_1 }),(2,{ id:=2 })] [3,4,7,13,14,15] [0,1,2] 3 [Pp 0,Pp 1,Pp 2,.sl false 4 (Mp zA l_1.Parts),Ii (lN (l_1.Parts)),Ii v_1] [Vb 37 (uW xE),Vb 42 [Ii 0,Ii 0,.str ([]:List Int),Ii 0,Ii 0,.nilsl],Vb 59 (zZ x_1)] zG (ac (yP h_3:xG (Mp zA l_1.Parts) v_1=some (zA x_1)) an) ?_
  refine sq ?_
  refine y9 (mk [(3,Pp 0),(4,Pp 1),(7,Pp 2),(13,.sl false 4 (Mp zA l_1.Parts)),(14,Ii (lN (l_1.Parts))),(15,Ii v_1),(41,.bool ((x_1.Thread==xE.Thread)&&(decide (xE.Serial≥x_1.Serial)&&decide (xE.Serial<(zR (x_1.Serial+(lN (x_1.Events))))))))] [(0,Vb 37 (uW xE)),(1,Vb 42 [Ii 0,Ii 0,.str ([]:List Int),Ii 0,Ii 0,.nilsl]),(2,Vb 59 (zZ x_1))] 3) ?_ ?_
  ·rcases bft (x_1.Thread==xE.Thread) with y5 | y5
   ·rcases bft (decide (xE.Serial≥x_1.Serial)) with xB | xB
    ·refine rg [(11,Ht),(19,{ n:=(x_1.Events).length }),(22,Ht)] [3,4,7,13,14,15,25,26,27,28,29,32,33,34,35,36,37,38,39,40,41] [0,1,2] 3 [Pp 0,Pp 1,Pp 2,.sl false 4 (Mp zA l_1.Parts),Ii (lN (l_1.Parts)),Ii v_1,.ptr 0 0 0 1,Ii xE.Serial,.ptr 2 0 0 1,Ii x_1.Serial,.bool (decide (xE.Serial≥x_1.Serial)),.ptr 0 0 0 1,Ii xE.Serial,.ptr 2 0 0 1,Ii x_1.Serial,.ptr 2 0 0 3,.sl false 6 (Mp zD x_1.Events),Ii (lN (x_1.Events)),Ii (zR (x_1.Serial+(lN (x_1.Events)))),.bool (decide (xE.Serial<(zR (x_1.Serial+(lN (x_1.Events)))))),.bool (decide (xE.Serial<(zR (x_1.Serial+(lN (x_1.Events))))))] [Vb 37 (uW xE),Vb 42 [Ii 0,Ii 0,.str ([]:List Int),Ii 0,Ii 0,.nilsl],Vb 59 (zZ x_1)] zG (ac y5 (ac y5 (ac y5 (ac y5 (ac y5 (ac y5 (ac xB (ac xB (ac xB (ac xB (ac xB (ac xB (ac xB (ac (z9 _:((Mp zD x_1.Events)).length=(x_1.Events).length) (ac xB (ac xB (ac xB an))))))))))))))))) ?_
     exact ⟨rfl,(sw [0,1,2] [] [.s 3,.s 4,.s 7,.s 13,.s 14,.s 15,.a 41 (.bool ((x_1.Thread==xE.Thread)&&(decide (xE.Serial≥x_1.Serial)&&decide (xE.Serial<(zR (x_1.Serial+(lN (x_1.Events))))))))] [.s 0,.s 1,.s 2] (ac (congrArg AV.bool (uP y5 (uP xB rfl)):(.bool (decide (xE.Serial<(zR (x_1.Serial+(lN (x_1.Events)))))):AV)=.bool ((x_1.Thread==xE.Thread)&&(decide (xE.Serial≥x_1.Serial)&&decide (xE.Serial<(zR (x_1.Serial+(lN (x_1.Events)))))))) an))⟩
    ·refine rg [(11,Ht),(13,Hg),(14,Hg),(15,Hg),(16,Hg),(17,Hg),(18,Hg),(19,Hg),(20,Hg),(21,Hg),(22,Hf)] [3,4,7,13,14,15,25,26,27,28,29,32,33,34,35,36,37,38,39,40,41] [0,1,2] 3 [Pp 0,Pp 1,Pp 2,.sl false 4 (Mp zA l_1.Parts),Ii (lN (l_1.Parts)),Ii v_1,.ptr 0 0 0 1,Ii xE.Serial,.ptr 2 0 0 1,Ii x_1.Serial,.bool (decide (xE.Serial≥x_1.Serial)),.tuple [],.tuple [],.tuple [],.tuple [],.tuple [],.tuple [],.tuple [],.tuple [],.tuple [],.bool false] [Vb 37 (uW xE),Vb 42 [Ii 0,Ii 0,.str ([]:List Int),Ii 0,Ii 0,.nilsl],Vb 59 (zZ x_1)] zG (ac y5 (ac y5 (ac y5 (ac y5 (ac y5 (ac y5 (ac xB (ac xB (ac xB (ac xB (ac xB (ac xB (ac xB (ac xB (ac xB (ac xB an)))))))))))))))) ?_
     exact ⟨rfl,(sw [0,1,2] [] [.s 3,.s 4,.s 7,.s 13,.s 14,.s 15,.a 41 (.bool ((x_1.Thread==xE.Thread)&&(decide (xE.Serial≥x_1.Serial)&&decide (xE.Serial<(zR (x_1.Serial+(lN (x_1.Events))))))))] [.s 0,.s 1,.s 2] (ac (congrArg AV.bool (uP y5 (j7 xB)):(.bool false:AV)=.bool ((x_1.Thread==xE.Thread)&&(decide (xE.Serial≥x_1.Serial)&&decide (xE.Serial<(zR (x_1.Serial+(lN (x_1.Events)))))))) an))⟩
   ·refine rg [(6,Hg),(7,Hg),(8,Hg),(9,Hg),(10,Hg),(11,Hf),(13,Hg),(14,Hg),(15,Hg),(16,Hg),(17,Hg),(18,Hg),(19,Hg),(20,Hg),(21,Hg),(22,Hf)] [3,4,7,13,14,15,25,26,27,28,29,32,33,34,35,36,37,38,39,40,41] [0,1,2] 3 [Pp 0,Pp 1,Pp 2,.sl false 4 (Mp zA l_1.Parts),Ii (lN (l_1.Parts)),Ii v_1,.tuple [],.tuple [],.tuple [],.tuple [],.tuple [],.tuple [],.tuple [],.tuple [],.tuple [],.tuple [],.tuple [],.tuple [],.tuple [],.tuple [],.bool false] [Vb 37 (uW xE),Vb 42 [Ii 0,Ii 0,.str ([]:List Int),Ii 0,Ii 0,.nilsl],Vb 59 (zZ x_1)] zG (ac y5 (ac y5 (ac y5 (ac y5 (ac y5 (ac y5 (ac (rfl:false=!true) (ac (rfl:false=!true) (ac (rfl:false=!true) (ac (rfl:false=!true) (ac (rfl:false=!true) (ac (rfl:false=!true) (ac (rfl:false=!true) (ac (rfl:false=!true) (ac (rfl:false=!true) (ar false an)))))))))))))))) ?_
    exact ⟨rfl,(sw [0,1,2] [] [.s 3,.s 4,.s 7,.s 13,.s 14,.s 15,.a 41 (.bool ((x_1.Thread==xE.Thread)&&(decide (xE.Serial≥x_1.Serial)&&decide (xE.Serial<(zR (x_1.Serial+(lN (x_1.Events))))))))] [.s 0,.s 1,.s 2] (ac (congrArg AV.bool (j7 y5):(.bool false:AV)=.bool ((x_1.Thread==xE.Thread)&&(decide (xE.Serial≥x_1.Serial)&&decide (xE.Serial<(zR (x_1.Serial+(lN (x_1.Events)))))))) an))⟩
  refine cd 41 ((x_1.Thread==xE.Thread)&&(decide (xE.Serial≥x_1.Serial)&&decide (xE.Serial<(zR (x_1.Serial+(lN (x_1.Events))))))) ?_ ?_
  rotate_left
  ·intro g_3;replace h:=zO g_3 h
   refine sk ?_
   refine rg [] [3,4,13,14,15] [0,1] 3 [Pp 0,Pp 1,.sl false 4 (Mp zA l_1.Parts),Ii (lN (l_1.Parts)),Ii (zR (v_1+(1:Int)))] [Vb 37 (uW xE),Vb 42 [Ii 0,Ii 0,.str ([]:List Int),Ii 0,Ii 0,.nilsl]] zG an ?_
   exact ⟨_,(sw [0,1] [] [.s 3,.s 4,.s 13,.s 14,.s 15] [.s 0,.s 1] an),_,rfl,h⟩
  intro g_3;replace h:=zP g_3 h
  refine sq ?_
  obtain ⟨x_2,h_4,h⟩:=bind_some h
  refine rg [(7,{ av:=zD x_2 })] [4,5] [1] 3 [Pp 1,.bool true] [Vb 42 (zU x_2)] zG (ac (yP h_4:xG (Mp zD x_1.Events) (zR (xE.Serial - x_1.Serial))=some (zD x_2)) an) ?_
  refine wk [1] [] [.s 4,.s 5] [.s 0] [(4,Pp 0),(5,.bool true)] [(0,Vb 42 (zU x_2))] an ?_
  refine rt ?_
  cases h
  exact ⟨rfl,Nat.le_of_ble_eq_true rfl,by kernel_rfl⟩
 intro e st1 hk
 rcases o_1 with q_1 | q_2
 rotate_left
 ·obtain ⟨rfl,hf⟩:=hk
  cases h
  exact ⟨st1,Sub.refl _ _,.inr rfl,hf⟩
 obtain ⟨rfl,hs⟩:=hk
 refine ⟨_,hs,?_⟩
 refine sr [] [4,5] [0] 1 [Pp 0,.bool false] [Vb 42 [Ii 0,Ii 0,.str ([]:List Int),Ii 0,Ii 0,.nilsl]] zG an ?_
 refine wk [0] [] [.s 4,.s 5] [.a 0 (Vb 42 (zU (⟨(0:Int),(0:Int),([]:List Int),(0:Int),(0:Int),[]⟩:zK)))] [(4,Pp 0),(5,.bool false)] [(0,Vb 42 (zU (⟨(0:Int),(0:Int),([]:List Int),(0:Int),(0:Int),[]⟩:zK)))] (ar 42 (ac (rfl:vZ [Ii ((⟨(0:Int),(0:Int),([]:List Int),(0:Int),(0:Int),[]⟩:zK).At),Ii ((⟨(0:Int),(0:Int),([]:List Int),(0:Int),(0:Int),[]⟩:zK).Kind),.str ((⟨(0:Int),(0:Int),([]:List Int),(0:Int),(0:Int),[]⟩:zK).Name),Ii ((⟨(0:Int),(0:Int),([]:List Int),(0:Int),(0:Int),[]⟩:zK).N),Ii ((⟨(0:Int),(0:Int),([]:List Int),(0:Int),(0:Int),[]⟩:zK).M),.sl false 1 (Ms ((⟨(0:Int),(0:Int),([]:List Int),(0:Int),(0:Int),[]⟩:zK).Stack))]=true) (ac (rfl:(Ii 0:AV)=Ii ((⟨(0:Int),(0:Int),([]:List Int),(0:Int),(0:Int),[]⟩:zK).At)) (ac (rfl:(Ii 0:AV)=Ii ((⟨(0:Int),(0:Int),([]:List Int),(0:Int),(0:Int),[]⟩:zK).Kind)) (ac (rfl:(.str ([]:List Int):AV)=.str ((⟨(0:Int),(0:Int),([]:List Int),(0:Int),(0:Int),[]⟩:zK).Name)) (ac (rfl:(Ii 0:AV)=Ii ((⟨(0:Int),(0:Int),([]:List Int),(0:Int),(0:Int),[]⟩:zK).N)) (ac (rfl:(Ii 0:AV)=Ii ((⟨(0:Int),(0:Int),([]:List Int),(0:Int),(0:Int),[]⟩:zK).M)) (ac (rfl:((Ms ((⟨(0:Int),(0:Int),([]:List Int),(0:Int),(0:Int),[]⟩:zK).Stack)):List AV)=[]) an)))))))) ?_
 refine rt ?_
 cases h
 exact ⟨.inr rfl,Nat.le_of_ble_eq_true rfl,by kernel_rfl⟩
theorem zE1 (F:Nat) (r:Bool) (h:zAO F=some r):zW prog 9 [] [] [] [] (.bool r):=by
 refine yA (fn:=Go.Proofs.Try.f9) (code:=xC Go.Proofs.Try.f9) (by kernel_rfl) (by kernel_rfl) (Nat.le_of_ble_eq_true (by kernel_rfl)) ?_
 unfold zAO at h
 refine sr [] [] [] 0 [] [] zG an ?_
 refine sr [(1,{ id:=0 }),(3,{ id:=1 }),(5,{ id:=2 })] [1] [0,1,2] 3 [Pp 2] [Rb 66 3 (Mp zF ([(⟨(1:Int),([116,49]:List Int),(0:Int)⟩:zY)]:List zY)),Rb 68 2 (Mp zC ([(⟨(0:Int),(0:Int)⟩:zS)]:List zS)),Vb 26 [.own 0 1,.own 1 1,.nilsl]] zG an ?_
 refine sq ?_
 refine wk [2,1] [0] [.s 1] [.a 0 (Vb 26 [.sl false 3 (Mp zF ([(⟨(1:Int),([116,49]:List Int),(0:Int)⟩:zY)]:List zY)),.own 1 1,.nilsl]),.s 1] [(1,Pp 0)] [(0,Vb 26 [.sl false 3 (Mp zF ([(⟨(1:Int),([116,49]:List Int),(0:Int)⟩:zY)]:List zY)),.own 1 1,.nilsl]),(1,Rb 68 2 (Mp zC ([(⟨(0:Int),(0:Int)⟩:zS)]:List zS)))] (ar 26 (ac (rfl:vZ [.sl false 3 (Mp zF ([(⟨(1:Int),([116,49]:List Int),(0:Int)⟩:zY)]:List zY)),.own 1 1,.nilsl]=true) (ac (by first | (simp;done) | (simp;omega):1=((List.map zF ([(⟨(1:Int),([116,49]:List Int),(0:Int)⟩:zY)]:List zY))).length) (ar 3 (ar ((Mp zF ([(⟨(1:Int),([116,49]:List Int),(0:Int)⟩:zY)]:List zY)):List AV) (ac (rfl:(!false||false)=true) (ac (rfl:(.own 1 1:AV)=.own 1 1) (ac (rfl:(.nilsl:AV)=.nilsl) an)))))))) ?_
 refine wk [0] [1] [.s 1] [.a 0 (Vb 26 [.sl false 3 (Mp zF ([(⟨(1:Int),([116,49]:List Int),(0:Int)⟩:zY)]:List zY)),.sl false 2 (Mp zC ([(⟨(0:Int),(0:Int)⟩:zS)]:List zS)),.nilsl])] [(1,Pp 0)] [(0,Vb 26 [.sl false 3 (Mp zF ([(⟨(1:Int),([116,49]:List Int),(0:Int)⟩:zY)]:List zY)),.sl false 2 (Mp zC ([(⟨(0:Int),(0:Int)⟩:zS)]:List zS)),.nilsl])] (ar 26 (ac (rfl:vZ [.sl false 3 (Mp zF ([(⟨(1:Int),([116,49]:List Int),(0:Int)⟩:zY)]:List zY)),.sl false 2 (Mp zC ([(⟨(0:Int),(0:Int)⟩:zS)]:List zS)),.nilsl]=true) (ac (by first | (simp;done) | (simp;omega):1=((List.map zC ([(⟨(0:Int),(0:Int)⟩:zS)]:List zS))).length) (ar 3 (ar ((Mp zF ([(⟨(1:Int),([116,49]:List Int),(0:Int)⟩:zY)]:List zY)):List AV) (ac (rfl:(!false||false)=true) (ar 2 (ar ((Mp zC ([(⟨(0:Int),(0:Int)⟩:zS)]:List zS)):List AV) (ac (rfl:(!false||false)=true) (ac (rfl:(.nilsl:AV)=.nilsl) an)))))))))) ?_
 obtain ⟨r_1,h_1,h⟩:=bind_some h
 obtain ⟨r_2,h_2,h⟩:=bind_some h
 obtain ⟨r_3,h_3,h⟩:=bind_some h
 refine rg [(1,{ id:=1 }),(2,{ av:=zA r_1,frz:=[1],l:=[Ii 0,Ii 0,.sl false 1 (Mi ([(1:Int),(2:Int)]:List Int))] }),(3,{ id:=2 }),(4,{ av:=zA r_2,frz:=[2],l:=[Ii 2,Ii 0,.sl false 1 (Mi ([(2:Int),(3:Int)]:List Int))] }),(5,{ id:=3 }),(6,{ av:=.tuple [yE r_3.1,Ii r_3.2],frz:=[3],l:=[.agg [.sl false 3 (Mp zF ([(⟨(1:Int),([116,49]:List Int),(0:Int)⟩:zY)]:List zY)),.sl false 2 (Mp zC ([(⟨(0:Int),(0:Int)⟩:zS)]:List zS)),.nilsl],.sl false 4 (Mp zA ([r_1,r_2]:List zB))] }),(10,{ id:=4 })] [1,2,3] [0,4] 5 [Pp 0,Pp 4,Ii r_3.2] [Vb 26 [.sl false 3 (Mp zF ([(⟨(1:Int),([116,49]:List Int),(0:Int)⟩:zY)]:List zY)),.sl false 2 (Mp zC ([(⟨(0:Int),(0:Int)⟩:zS)]:List zS)),.nilsl],Vb 31 (wD r_3.1)] zG (ac (by first | (simp;done) | (simp;omega):2=((List.map (AV.int .i64) ([(1:Int),(2:Int)]:List Int))).length) (ar ([Ii 0,Ii 0,.sl false 1 (Mi ([(1:Int),(2:Int)]:List Int))]:List AV) (ac (rfl:([]:List zT)=[]) (ac (zBa F (0:Int) (0:Int) ([(1:Int),(2:Int)]:List Int) r_1 h_1:zW prog 26 [] [] [Ii 0,Ii 0,.sl false 1 (Mi ([(1:Int),(2:Int)]:List Int))] [] (zA r_1)) (ac (by first | (simp;done) | (simp;omega):2=((List.map (AV.int .i64) ([(2:Int),(3:Int)]:List Int))).length) (ar ([Ii 2,Ii 0,.sl false 1 (Mi ([(2:Int),(3:Int)]:List Int))]:List AV) (ac (rfl:([]:List zT)=[]) (ac (zBa F (2:Int) (0:Int) ([(2:Int),(3:Int)]:List Int) r_2 h_2:zW prog 26 [] [] [Ii 2,Ii 0,.sl false 1 (Mi ([(2:Int),(3:Int)]:List Int))] [] (zA r_2)) (ac (by first | (simp;done) | (simp;omega):2=((List.map zA ([r_1,r_2]:List zB))).length) (ar ([.agg [.sl false 3 (Mp zF ([(⟨(1:Int),([116,49]:List Int),(0:Int)⟩:zY)]:List zY)),.sl false 2 (Mp zC ([(⟨(0:Int),(0:Int)⟩:zS)]:List zS)),.nilsl],.sl false 4 (Mp zA ([r_1,r_2]:List zB))]:List AV) (ac (rfl:([]:List zT)=[]) (ac (zAM (args':=[yN (⟨([(⟨(1:Int),([116,49]:List Int),(0:Int)⟩:zY)]:List zY),([(⟨(0:Int),(0:Int)⟩:zS)]:List zS),[]⟩:zL),.sl false 4 (Mp zA ([r_1,r_2]:List zB))]) (zBR F (⟨([(⟨(1:Int),([116,49]:List Int),(0:Int)⟩:zY)]:List zY),([(⟨(0:Int),(0:Int)⟩:zS)]:List zS),[]⟩:zL) ([r_1,r_2]:List zB) r_3 h_3) rfl ⟨rfl,rfl,rfl,rfl,rfl,rfl,rfl,rfl,rfl,rfl,trivial⟩:zW prog 10 [] [] [.agg [.sl false 3 (Mp zF ([(⟨(1:Int),([116,49]:List Int),(0:Int)⟩:zY)]:List zY)),.sl false 2 (Mp zC ([(⟨(0:Int),(0:Int)⟩:zS)]:List zS)),.nilsl],.sl false 4 (Mp zA ([r_1,r_2]:List zB))] [] (.tuple [yE r_3.1,Ii r_3.2])) an)))))))))))) ?_
 refine sq ?_
 obtain ⟨r_4,h_4,h⟩:=bind_some h
 obtain ⟨r_5,h_5,h⟩:=bind_some h
 refine rg [(1,{ id:=5 }),(2,{ av:=zA r_4,frz:=[5],l:=[Ii 3,Ii 3,.sl false 1 (Mi ([(5:Int)]:List Int))] }),(3,{ id:=6 }),(4,{ av:=.tuple [yE r_5.1,Ii r_5.2],frz:=[6],l:=[.agg [.sl false 3 (Mp zF ([(⟨(1:Int),([116,49]:List Int),(0:Int)⟩:zY)]:List zY)),.sl false 2 (Mp zC ([(⟨(0:Int),(0:Int)⟩:zS)]:List zS)),.nilsl],.sl false 4 (Mp zA ([r_4]:List zB))] }),(8,{ id:=7 })] [1,2,3,4,5] [0,4,7] 8 [Pp 0,Pp 4,Ii r_3.2,Pp 7,Ii r_5.2] [Vb 26 [.sl false 3 (Mp zF ([(⟨(1:Int),([116,49]:List Int),(0:Int)⟩:zY)]:List zY)),.sl false 2 (Mp zC ([(⟨(0:Int),(0:Int)⟩:zS)]:List zS)),.nilsl],Vb 31 (wD r_3.1),Vb 31 (wD r_5.1)] zG (ac (by first | (simp;done) | (simp;omega):1=((List.map (AV.int .i64) ([(5:Int)]:List Int))).length) (ar ([Ii 3,Ii 3,.sl false 1 (Mi ([(5:Int)]:List Int))]:List AV) (ac (rfl:([]:List zT)=[]) (ac (zBa F (3:Int) (3:Int) ([(5:Int)]:List Int) r_4 h_4:zW prog 26 [] [] [Ii 3,Ii 3,.sl false 1 (Mi ([(5:Int)]:List Int))] [] (zA r_4)) (ac (by first | (simp;done) | (simp;omega):1=((List.map zA ([r_4]:List zB))).length) (ar ([.agg [.sl false 3 (Mp zF ([(⟨(1:Int),([116,49]:List Int),(0:Int)⟩:zY)]:List zY)),.sl false 2 (Mp zC ([(⟨(0:Int),(0:Int)⟩:zS)]:List zS)),.nilsl],.sl false 4 (Mp zA ([r_4]:List zB))]:List AV) (ac (rfl:([]:List zT)=[]) (ac (zAM (args':=[yN (⟨([(⟨(1:Int),([116,49]:List Int),(0:Int)⟩:zY)]:List zY),([(⟨(0:Int),(0:Int)⟩:zS)]:List zS),[]⟩:zL),.sl false 4 (Mp zA ([r_4]:List zB))]) (zBR F (⟨([(⟨(1:Int),([116,49]:List Int),(0:Int)⟩:zY)]:List zY),([(⟨(0:Int),(0:Int)⟩:zS)]:List zS),[]⟩:zL) ([r_4]:List zB) r_5 h_5) rfl ⟨rfl,rfl,rfl,rfl,rfl,rfl,rfl,rfl,rfl,rfl,trivial⟩:zW prog 10 [] [] [.agg [.sl false 3 (Mp zF ([(⟨(1:Int),([116,49]:List Int),(0:Int)⟩:zY)]:List zY)),.sl false 2 (Mp zC ([(⟨(0:Int),(0:Int)⟩:zS)]:List zS)),.nilsl],.sl false 4 (Mp zA ([r_4]:List zB))] [] (.tuple [yE r_5.1,Ii r_5.2])) an)))))))) ?_
 refine sq ?_
 obtain ⟨r_6,h_6,h⟩:=bind_some h
 obtain ⟨r_7,h_7,h⟩:=bind_some h
 refine rg [(1,{ id:=8 }),(2,{ av:=zA r_6,frz:=[8],l:=[Ii 3,Ii 2,.sl false 1 (Mi ([(5:Int)]:List Int))] }),(3,{ id:=9 }),(4,{ av:=.tuple [yE r_7.1,Ii r_7.2],frz:=[9],l:=[.agg [.sl false 3 (Mp zF ([(⟨(1:Int),([116,49]:List Int),(0:Int)⟩:zY)]:List zY)),.sl false 2 (Mp zC ([(⟨(0:Int),(0:Int)⟩:zS)]:List zS)),.nilsl],.sl false 4 (Mp zA ([r_6]:List zB))] }),(8,{ id:=10 })] [2,3,4,5,7] [4,7] 11 [Pp 4,Ii r_3.2,Pp 7,Ii r_5.2,Ii r_7.2] [Vb 31 (wD r_3.1),Vb 31 (wD r_5.1)] zG (ac (by first | (simp;done) | (simp;omega):1=((List.map (AV.int .i64) ([(5:Int)]:List Int))).length) (ar ([Ii 3,Ii 2,.sl false 1 (Mi ([(5:Int)]:List Int))]:List AV) (ac (rfl:([]:List zT)=[]) (ac (zBa F (3:Int) (2:Int) ([(5:Int)]:List Int) r_6 h_6:zW prog 26 [] [] [Ii 3,Ii 2,.sl false 1 (Mi ([(5:Int)]:List Int))] [] (zA r_6)) (ac (by first | (simp;done) | (simp;omega):1=((List.map zA ([r_6]:List zB))).length) (ar ([.agg [.sl false 3 (Mp zF ([(⟨(1:Int),([116,49]:List Int),(0:Int)⟩:zY)]:List zY)),.sl false 2 (Mp zC ([(⟨(0:Int),(0:Int)⟩:zS)]:List zS)),.nilsl],.sl false 4 (Mp zA ([r_6]:List zB))]:List AV) (ac (rfl:([]:List zT)=[]) (ac (zAM (args':=[yN (⟨([(⟨(1:Int),([116,49]:List Int),(0:Int)⟩:zY)]:List zY),([(⟨(0:Int),(0:Int)⟩:zS)]:List zS),[]⟩:zL),.sl false 4 (Mp zA ([r_6]:List zB))]) (zBR F (⟨([(⟨(1:Int),([116,49]:List Int),(0:Int)⟩:zY)]:List zY),([(⟨(0:Int),(0:Int)⟩:zS)]:List zS),[]⟩:zL) ([r_6]:List zB) r_7 h_7) rfl ⟨rfl,rfl,rfl,rfl,rfl,rfl,rfl,rfl,rfl,rfl,trivial⟩:zW prog 10 [] [] [.agg [.sl false 3 (Mp zF ([(⟨(1:Int),([116,49]:List Int),(0:Int)⟩:zY)]:List zY)),.sl false 2 (Mp zC ([(⟨(0:Int),(0:Int)⟩:zS)]:List zS)),.nilsl],.sl false 4 (Mp zA ([r_6]:List zB))] [] (.tuple [yE r_7.1,Ii r_7.2])) an)))))))) ?_
 refine sq ?_
 obtain ⟨r_8,h_8,h⟩:=bind_some h
 refine rg [(1,{ av:=.own 0 ((r_8).length),ids:=[11],l:=[yE r_5.1],post:=[(.row 50 3 (Mp yU r_8))] })] [2,3,5,7,8] [4,11] 12 [Pp 4,Ii r_3.2,Ii r_5.2,Ii r_7.2,.own 11 ((r_8).length)] [Vb 31 (wD r_3.1),Rb 50 3 (Mp yU r_8)] zG (ar ([yE r_5.1]:List AV) (ac (rfl:([]:List zT)=[]) (ac (zKB F r_5.1 r_8 h_8:zW prog 18 [] [] [yE r_5.1] [(.row 50 3 (Mp yU r_8))] (.own 0 ((r_8).length))) an))) ?_
 refine sq ?_
 obtain ⟨r_9,h_9,h⟩:=bind_some h
 refine rg [(2,{ av:=.tuple [zD r_9.1,.bool r_9.2],l:=[yE r_3.1,.agg [Ii 1,Ii 3]] }),(6,{ id:=12 })] [2,3,5,7,8,9,10] [4,11,12] 13 [Pp 4,Ii r_3.2,Ii r_5.2,Ii r_7.2,.own 11 ((r_8).length),Pp 12,.bool r_9.2] [Vb 31 (wD r_3.1),Rb 50 3 (Mp yU r_8),Vb 42 (zU r_9.1)] zG (ar ([yE r_3.1,.agg [Ii 1,Ii 3]]:List AV) (ac (rfl:([]:List zT)=[]) (ac (zAM (args':=[yE r_3.1,zGm (⟨(1:Int),(3:Int)⟩:qS)]) (zLZ F r_3.1 (⟨(1:Int),(3:Int)⟩:qS) r_9 h_9) rfl ⟨rfl,rfl,rfl,rfl,rfl,rfl,rfl,rfl,rfl,rfl,rfl,rfl,rfl,rfl,trivial⟩:zW prog 16 [] [] [yE r_3.1,.agg [Ii 1,Ii 3]] [] (.tuple [zD r_9.1,.bool r_9.2])) an))) ?_
 refine sq ?_
 obtain ⟨p_1,zGh,h⟩:=bind_some h
 refine y9 (mk [(0,.bool p_1)] [] 0) ?_ ?_
 ·replace h:=zGh
  rcases bft (r_3.2==(0:Int)) with zH | zH
  ·replace h:=zP zH h
   rcases bft ((lN (r_3.1.Parts))==(1:Int)) with zI | zI
   ·replace h:=zP zI h
    obtain ⟨x_1,tW,h⟩:=bind_some h
    rcases bft ((lN (x_1.Events))==(4:Int)) with zN | zN
    ·replace h:=zP zN h
     rcases bft (r_5.2==(0:Int)) with zV | zV
     ·replace h:=zP zV h
      rcases bft ((lN (r_8))==(1:Int)) with yF | yF
      ·replace h:=zP yF h
       obtain ⟨x_2,tX,h⟩:=bind_some h
       rcases bft (decide (x_2=(⟨(1:Int),(0:Int),(3:Int)⟩:yQ))) with xA | xA
       ·replace h:=zP xA h
        rcases bft (r_7.2==(11:Int)) with y5 | y5
        ·replace h:=zP y5 h
         rcases Bool.eq_false_or_eq_true r_9.2 with xB | xB
         ·replace h:=zP xB h
          rcases bft (r_9.1.At==(3:Int)) with wB | wB
          ·replace h:=zP wB h
           obtain ⟨r_10,zCQ,h⟩:=bind_some h
           refine rg [(5,{ n:=(r_3.1.Parts).length }),(7,Ht),(11,{ av:=zA x_1 }),(14,{ n:=(x_1.Events).length }),(16,Ht),(20,Ht),(25,Ht),(29,{ av:=yU x_2 }),(31,{ b:=(decide (x_2=(⟨(1:Int),(0:Int),(3:Int)⟩:yQ))),mks:=[.int .i64,.int .i64,.int .i64] }),(32,Ht),(36,Ht),(39,Ht),(44,Ht),(47,{ av:=Ii r_10,l:=[yE r_3.1] }),(49,Ht)] [0] [] 13 [.bool (r_10==(0:Int))] [] zG (ac zH (ac zH (ac zH (ac (z9 _:((Mp zA r_3.1.Parts)).length=(r_3.1.Parts).length) (ac zH (ac zH (ac zI (ac zI (ac zI (ac (yP tW:xG (Mp zA r_3.1.Parts) (0:Int)=some (zA x_1)) (ac zI (ac zI (ac zI (ac (z9 _:((Mp zD x_1.Events)).length=(x_1.Events).length) (ac zI (ac zI (ac zN (ac zN (ac zN (ac zV (ac zV (ac zV (ac zV (ac yF (ac yF (ac (zBr tX:(0:Int)≤(0:Int)) (ac (by first | (simp;done) | simpa using zBn tX:(0:Int)<(((r_8).length:Nat):Int)) (ac yF (ac (zCt tX:(Mp yU r_8)[0]?=some (yU x_2)) (ac yF (ac yF (ac (zDH:jK prog 50 [.int .i64,.int .i64,.int .i64]) (ac (pM (f:=yU) pQ x_2 (⟨(1:Int),(0:Int),(3:Int)⟩:yQ):((decide (x_2=(⟨(1:Int),(0:Int),(3:Int)⟩:yQ)))=true↔AV.agg [Ii x_2.Thread,Ii x_2.Serial,Ii x_2.Count]=AV.agg [Ii 1,Ii 0,Ii 3])) (ac yF (ac xA (ac xA (ac xA (ac y5 (ac y5 (ac xB (ac xB (ac xB (ac xB (ac wB (ac wB (ar ([yE r_3.1]:List AV) (ac (rfl:([]:List zT)=[]) (ac (zCB F r_3.1 r_10 zCQ:zW prog 14 [] [] [yE r_3.1] [] (Ii r_10)) (ac wB (ac wB an)))))))))))))))))))))))))))))))))))))))))))))))))) ?_
           cases h
           exact ⟨rfl,(sw [] [] [.s 0] [] an)⟩
          ·replace h:=zO wB h
           refine rg [(5,{ n:=(r_3.1.Parts).length }),(7,Ht),(11,{ av:=zA x_1 }),(14,{ n:=(x_1.Events).length }),(16,Ht),(20,Ht),(25,Ht),(29,{ av:=yU x_2 }),(31,{ b:=(decide (x_2=(⟨(1:Int),(0:Int),(3:Int)⟩:yQ))),mks:=[.int .i64,.int .i64,.int .i64] }),(32,Ht),(36,Ht),(39,Ht),(44,Ht),(46,Hg),(47,Hg),(48,Hg),(49,Hf)] [0] [] 13 [.bool false] [] zG (ac zH (ac zH (ac zH (ac (z9 _:((Mp zA r_3.1.Parts)).length=(r_3.1.Parts).length) (ac zH (ac zH (ac zI (ac zI (ac zI (ac (yP tW:xG (Mp zA r_3.1.Parts) (0:Int)=some (zA x_1)) (ac zI (ac zI (ac zI (ac (z9 _:((Mp zD x_1.Events)).length=(x_1.Events).length) (ac zI (ac zI (ac zN (ac zN (ac zN (ac zV (ac zV (ac zV (ac zV (ac yF (ac yF (ac (zBr tX:(0:Int)≤(0:Int)) (ac (by first | (simp;done) | simpa using zBn tX:(0:Int)<(((r_8).length:Nat):Int)) (ac yF (ac (zCt tX:(Mp yU r_8)[0]?=some (yU x_2)) (ac yF (ac yF (ac (zDH:jK prog 50 [.int .i64,.int .i64,.int .i64]) (ac (pM (f:=yU) pQ x_2 (⟨(1:Int),(0:Int),(3:Int)⟩:yQ):((decide (x_2=(⟨(1:Int),(0:Int),(3:Int)⟩:yQ)))=true↔AV.agg [Ii x_2.Thread,Ii x_2.Serial,Ii x_2.Count]=AV.agg [Ii 1,Ii 0,Ii 3])) (ac yF (ac xA (ac xA (ac xA (ac y5 (ac y5 (ac xB (ac xB (ac xB (ac xB (ac wB (ac wB (ac wB (ac wB an))))))))))))))))))))))))))))))))))))))))))))))) ?_
           cases h
           exact ⟨rfl,(sw [] [] [.s 0] [] an)⟩
         ·replace h:=zO xB h
          refine rg [(5,{ n:=(r_3.1.Parts).length }),(7,Ht),(11,{ av:=zA x_1 }),(14,{ n:=(x_1.Events).length }),(16,Ht),(20,Ht),(25,Ht),(29,{ av:=yU x_2 }),(31,{ b:=(decide (x_2=(⟨(1:Int),(0:Int),(3:Int)⟩:yQ))),mks:=[.int .i64,.int .i64,.int .i64] }),(32,Ht),(36,Ht),(39,Ht),(41,Hg),(42,Hg),(43,Hg),(44,Hf),(46,Hg),(47,Hg),(48,Hg),(49,Hf)] [0] [] 13 [.bool false] [] zG (ac zH (ac zH (ac zH (ac (z9 _:((Mp zA r_3.1.Parts)).length=(r_3.1.Parts).length) (ac zH (ac zH (ac zI (ac zI (ac zI (ac (yP tW:xG (Mp zA r_3.1.Parts) (0:Int)=some (zA x_1)) (ac zI (ac zI (ac zI (ac (z9 _:((Mp zD x_1.Events)).length=(x_1.Events).length) (ac zI (ac zI (ac zN (ac zN (ac zN (ac zV (ac zV (ac zV (ac zV (ac yF (ac yF (ac (zBr tX:(0:Int)≤(0:Int)) (ac (by first | (simp;done) | simpa using zBn tX:(0:Int)<(((r_8).length:Nat):Int)) (ac yF (ac (zCt tX:(Mp yU r_8)[0]?=some (yU x_2)) (ac yF (ac yF (ac (zDH:jK prog 50 [.int .i64,.int .i64,.int .i64]) (ac (pM (f:=yU) pQ x_2 (⟨(1:Int),(0:Int),(3:Int)⟩:yQ):((decide (x_2=(⟨(1:Int),(0:Int),(3:Int)⟩:yQ)))=true↔AV.agg [Ii x_2.Thread,Ii x_2.Serial,Ii x_2.Count]=AV.agg [Ii 1,Ii 0,Ii 3])) (ac yF (ac xA (ac xA (ac xA (ac y5 (ac y5 (ac xB (ac xB (ac xB (ac xB (ac (rfl:false=!true) (ac (rfl:false=!true) (ac (rfl:false=!true) (ar false an))))))))))))))))))))))))))))))))))))))))))))))) ?_
          cases h
          exact ⟨rfl,(sw [] [] [.s 0] [] an)⟩
        ·replace h:=zO y5 h
         refine rg [(5,{ n:=(r_3.1.Parts).length }),(7,Ht),(11,{ av:=zA x_1 }),(14,{ n:=(x_1.Events).length }),(16,Ht),(20,Ht),(25,Ht),(29,{ av:=yU x_2 }),(31,{ b:=(decide (x_2=(⟨(1:Int),(0:Int),(3:Int)⟩:yQ))),mks:=[.int .i64,.int .i64,.int .i64] }),(32,Ht),(36,Ht),(38,Hg),(39,Hf),(41,Hg),(42,Hg),(43,Hg),(44,Hf),(46,Hg),(47,Hg),(48,Hg),(49,Hf)] [0] [] 13 [.bool false] [] zG (ac zH (ac zH (ac zH (ac (z9 _:((Mp zA r_3.1.Parts)).length=(r_3.1.Parts).length) (ac zH (ac zH (ac zI (ac zI (ac zI (ac (yP tW:xG (Mp zA r_3.1.Parts) (0:Int)=some (zA x_1)) (ac zI (ac zI (ac zI (ac (z9 _:((Mp zD x_1.Events)).length=(x_1.Events).length) (ac zI (ac zI (ac zN (ac zN (ac zN (ac zV (ac zV (ac zV (ac zV (ac yF (ac yF (ac (zBr tX:(0:Int)≤(0:Int)) (ac (by first | (simp;done) | simpa using zBn tX:(0:Int)<(((r_8).length:Nat):Int)) (ac yF (ac (zCt tX:(Mp yU r_8)[0]?=some (yU x_2)) (ac yF (ac yF (ac (zDH:jK prog 50 [.int .i64,.int .i64,.int .i64]) (ac (pM (f:=yU) pQ x_2 (⟨(1:Int),(0:Int),(3:Int)⟩:yQ):((decide (x_2=(⟨(1:Int),(0:Int),(3:Int)⟩:yQ)))=true↔AV.agg [Ii x_2.Thread,Ii x_2.Serial,Ii x_2.Count]=AV.agg [Ii 1,Ii 0,Ii 3])) (ac yF (ac xA (ac xA (ac xA (ac y5 (ac y5 (ac (rfl:false=!true) (ac (rfl:false=!true) (ac (rfl:false=!true) (ar false (ac (rfl:false=!true) (ac (rfl:false=!true) (ac (rfl:false=!true) (ar false an))))))))))))))))))))))))))))))))))))))))))))))) ?_
         cases h
         exact ⟨rfl,(sw [] [] [.s 0] [] an)⟩
       ·replace h:=zO xA h
        refine rg [(5,{ n:=(r_3.1.Parts).length }),(7,Ht),(11,{ av:=zA x_1 }),(14,{ n:=(x_1.Events).length }),(16,Ht),(20,Ht),(25,Ht),(29,{ av:=yU x_2 }),(31,{ b:=(decide (x_2=(⟨(1:Int),(0:Int),(3:Int)⟩:yQ))),mks:=[.int .i64,.int .i64,.int .i64] }),(32,Ht),(34,Hg),(35,Hg),(36,Hf),(38,Hg),(39,Hf),(41,Hg),(42,Hg),(43,Hg),(44,Hf),(46,Hg),(47,Hg),(48,Hg),(49,Hf)] [0] [] 13 [.bool false] [] zG (ac zH (ac zH (ac zH (ac (z9 _:((Mp zA r_3.1.Parts)).length=(r_3.1.Parts).length) (ac zH (ac zH (ac zI (ac zI (ac zI (ac (yP tW:xG (Mp zA r_3.1.Parts) (0:Int)=some (zA x_1)) (ac zI (ac zI (ac zI (ac (z9 _:((Mp zD x_1.Events)).length=(x_1.Events).length) (ac zI (ac zI (ac zN (ac zN (ac zN (ac zV (ac zV (ac zV (ac zV (ac yF (ac yF (ac (zBr tX:(0:Int)≤(0:Int)) (ac (by first | (simp;done) | simpa using zBn tX:(0:Int)<(((r_8).length:Nat):Int)) (ac yF (ac (zCt tX:(Mp yU r_8)[0]?=some (yU x_2)) (ac yF (ac yF (ac (zDH:jK prog 50 [.int .i64,.int .i64,.int .i64]) (ac (pM (f:=yU) pQ x_2 (⟨(1:Int),(0:Int),(3:Int)⟩:yQ):((decide (x_2=(⟨(1:Int),(0:Int),(3:Int)⟩:yQ)))=true↔AV.agg [Ii x_2.Thread,Ii x_2.Serial,Ii x_2.Count]=AV.agg [Ii 1,Ii 0,Ii 3])) (ac yF (ac xA (ac xA (ac xA (ac (rfl:false=!true) (ar false (ac (rfl:false=!true) (ac (rfl:false=!true) (ac (rfl:false=!true) (ar false (ac (rfl:false=!true) (ac (rfl:false=!true) (ac (rfl:false=!true) (ar false an))))))))))))))))))))))))))))))))))))))))))))))) ?_
        cases h
        exact ⟨rfl,(sw [] [] [.s 0] [] an)⟩
      ·replace h:=zO yF h
       refine rg [(5,{ n:=(r_3.1.Parts).length }),(7,Ht),(11,{ av:=zA x_1 }),(14,{ n:=(x_1.Events).length }),(16,Ht),(20,Ht),(25,Ht),(27,Hg),(28,Hg),(29,Hg),(30,Hg),(31,Hg),(32,Hf),(34,Hg),(35,Hg),(36,Hf),(38,Hg),(39,Hf),(41,Hg),(42,Hg),(43,Hg),(44,Hf),(46,Hg),(47,Hg),(48,Hg),(49,Hf)] [0] [] 13 [.bool false] [] zG (ac zH (ac zH (ac zH (ac (z9 _:((Mp zA r_3.1.Parts)).length=(r_3.1.Parts).length) (ac zH (ac zH (ac zI (ac zI (ac zI (ac (yP tW:xG (Mp zA r_3.1.Parts) (0:Int)=some (zA x_1)) (ac zI (ac zI (ac zI (ac (z9 _:((Mp zD x_1.Events)).length=(x_1.Events).length) (ac zI (ac zI (ac zN (ac zN (ac zN (ac zV (ac zV (ac zV (ac zV (ac yF (ac yF (ac yF (ac yF (ac yF (ac yF (ac (rfl:false=!true) (ac (rfl:false=!true) (ar false (ac (rfl:false=!true) (ar false (ac (rfl:false=!true) (ac (rfl:false=!true) (ac (rfl:false=!true) (ar false (ac (rfl:false=!true) (ac (rfl:false=!true) (ac (rfl:false=!true) (ar false an)))))))))))))))))))))))))))))))))))))))))) ?_
       cases h
       exact ⟨rfl,(sw [] [] [.s 0] [] an)⟩
     ·replace h:=zO zV h
      refine rg [(5,{ n:=(r_3.1.Parts).length }),(7,Ht),(11,{ av:=zA x_1 }),(14,{ n:=(x_1.Events).length }),(16,Ht),(20,Ht),(22,Hg),(23,Hg),(24,Hg),(25,Hf),(27,Hg),(28,Hg),(29,Hg),(30,Hg),(31,Hg),(32,Hf),(34,Hg),(35,Hg),(36,Hf),(38,Hg),(39,Hf),(41,Hg),(42,Hg),(43,Hg),(44,Hf),(46,Hg),(47,Hg),(48,Hg),(49,Hf)] [0] [] 13 [.bool false] [] zG (ac zH (ac zH (ac zH (ac (z9 _:((Mp zA r_3.1.Parts)).length=(r_3.1.Parts).length) (ac zH (ac zH (ac zI (ac zI (ac zI (ac (yP tW:xG (Mp zA r_3.1.Parts) (0:Int)=some (zA x_1)) (ac zI (ac zI (ac zI (ac (z9 _:((Mp zD x_1.Events)).length=(x_1.Events).length) (ac zI (ac zI (ac zN (ac zN (ac zN (ac zV (ac zV (ac zV (ac zV (ac (rfl:false=!true) (ac (rfl:false=!true) (ac (rfl:false=!true) (ac (rfl:false=!true) (ac (rfl:false=!true) (ar false (ac (rfl:false=!true) (ac (rfl:false=!true) (ar false (ac (rfl:false=!true) (ar false (ac (rfl:false=!true) (ac (rfl:false=!true) (ac (rfl:false=!true) (ar false (ac (rfl:false=!true) (ac (rfl:false=!true) (ac (rfl:false=!true) (ar false an)))))))))))))))))))))))))))))))))))))))))) ?_
      cases h
      exact ⟨rfl,(sw [] [] [.s 0] [] an)⟩
    ·replace h:=zO zN h
     refine rg [(5,{ n:=(r_3.1.Parts).length }),(7,Ht),(11,{ av:=zA x_1 }),(14,{ n:=(x_1.Events).length }),(16,Ht),(18,Hg),(19,Hg),(20,Hf),(22,Hg),(23,Hg),(24,Hg),(25,Hf),(27,Hg),(28,Hg),(29,Hg),(30,Hg),(31,Hg),(32,Hf),(34,Hg),(35,Hg),(36,Hf),(38,Hg),(39,Hf),(41,Hg),(42,Hg),(43,Hg),(44,Hf),(46,Hg),(47,Hg),(48,Hg),(49,Hf)] [0] [] 13 [.bool false] [] zG (ac zH (ac zH (ac zH (ac (z9 _:((Mp zA r_3.1.Parts)).length=(r_3.1.Parts).length) (ac zH (ac zH (ac zI (ac zI (ac zI (ac (yP tW:xG (Mp zA r_3.1.Parts) (0:Int)=some (zA x_1)) (ac zI (ac zI (ac zI (ac (z9 _:((Mp zD x_1.Events)).length=(x_1.Events).length) (ac zI (ac zI (ac zN (ac zN (ac zN (ac (rfl:false=!true) (ac (rfl:false=!true) (ac (rfl:false=!true) (ar false (ac (rfl:false=!true) (ac (rfl:false=!true) (ac (rfl:false=!true) (ac (rfl:false=!true) (ac (rfl:false=!true) (ar false (ac (rfl:false=!true) (ac (rfl:false=!true) (ar false (ac (rfl:false=!true) (ar false (ac (rfl:false=!true) (ac (rfl:false=!true) (ac (rfl:false=!true) (ar false (ac (rfl:false=!true) (ac (rfl:false=!true) (ac (rfl:false=!true) (ar false an)))))))))))))))))))))))))))))))))))))))))) ?_
     cases h
     exact ⟨rfl,(sw [] [] [.s 0] [] an)⟩
   ·replace h:=zO zI h
    refine rg [(5,{ n:=(r_3.1.Parts).length }),(7,Ht),(9,Hg),(10,Hg),(11,Hg),(12,Hg),(13,Hg),(14,Hg),(15,Hg),(16,Hf),(18,Hg),(19,Hg),(20,Hf),(22,Hg),(23,Hg),(24,Hg),(25,Hf),(27,Hg),(28,Hg),(29,Hg),(30,Hg),(31,Hg),(32,Hf),(34,Hg),(35,Hg),(36,Hf),(38,Hg),(39,Hf),(41,Hg),(42,Hg),(43,Hg),(44,Hf),(46,Hg),(47,Hg),(48,Hg),(49,Hf)] [0] [] 13 [.bool false] [] zG (ac zH (ac zH (ac zH (ac (z9 _:((Mp zA r_3.1.Parts)).length=(r_3.1.Parts).length) (ac zH (ac zH (ac zI (ac zI (ac zI (ac zI (ac zI (ac zI (ac zI (ac zI (ac (rfl:false=!true) (ac (rfl:false=!true) (ar false (ac (rfl:false=!true) (ac (rfl:false=!true) (ac (rfl:false=!true) (ar false (ac (rfl:false=!true) (ac (rfl:false=!true) (ac (rfl:false=!true) (ac (rfl:false=!true) (ac (rfl:false=!true) (ar false (ac (rfl:false=!true) (ac (rfl:false=!true) (ar false (ac (rfl:false=!true) (ar false (ac (rfl:false=!true) (ac (rfl:false=!true) (ac (rfl:false=!true) (ar false (ac (rfl:false=!true) (ac (rfl:false=!true) (ac (rfl:false=!true) (ar false an)))))))))))))))))))))))))))))))))))))))) ?_
    cases h
    exact ⟨rfl,(sw [] [] [.s 0] [] an)⟩
  ·replace h:=zO zH h
   refine rg [(3,Hg),(4,Hg),(5,Hg),(6,Hg),(7,Hf),(9,Hg),(10,Hg),(11,Hg),(12,Hg),(13,Hg),(14,Hg),(15,Hg),(16,Hf),(18,Hg),(19,Hg),(20,Hf),(22,Hg),(23,Hg),(24,Hg),(25,Hf),(27,Hg),(28,Hg),(29,Hg),(30,Hg),(31,Hg),(32,Hf),(34,Hg),(35,Hg),(36,Hf),(38,Hg),(39,Hf),(41,Hg),(42,Hg),(43,Hg),(44,Hf),(46,Hg),(47,Hg),(48,Hg),(49,Hf)] [0] [] 13 [.bool false] [] zG (ac zH (ac zH (ac zH (ac zH (ac zH (ac (rfl:false=!true) (ac (rfl:false=!true) (ac (rfl:false=!true) (ac (rfl:false=!true) (ac (rfl:false=!true) (ac (rfl:false=!true) (ac (rfl:false=!true) (ar false (ac (rfl:false=!true) (ac (rfl:false=!true) (ar false (ac (rfl:false=!true) (ac (rfl:false=!true) (ac (rfl:false=!true) (ar false (ac (rfl:false=!true) (ac (rfl:false=!true) (ac (rfl:false=!true) (ac (rfl:false=!true) (ac (rfl:false=!true) (ar false (ac (rfl:false=!true) (ac (rfl:false=!true) (ar false (ac (rfl:false=!true) (ar false (ac (rfl:false=!true) (ac (rfl:false=!true) (ac (rfl:false=!true) (ar false (ac (rfl:false=!true) (ac (rfl:false=!true) (ac (rfl:false=!true) (ar false an))))))))))))))))))))))))))))))))))))))) ?_
   cases h
   exact ⟨rfl,(sw [] [] [.s 0] [] an)⟩
 refine rt ?_
 cases h
 exact ⟨.inr rfl,Nat.le_of_ble_eq_true rfl,by kernel_rfl⟩
theorem zIl (F:Nat) (c_1:Int) (r:Bool) (h:zBb F c_1=some r):zW prog 78 [] [] [Iu c_1] [] (.bool r):=by
 refine yA (fn:=Go.Proofs.Try.f78) (code:=xC Go.Proofs.Try.f78) (by kernel_rfl) (by kernel_rfl) (Nat.le_of_ble_eq_true (by kernel_rfl)) ?_
 unfold zBb at h
 refine sr [] [0] [] 0 [Iu c_1] [] zG an ?_
 refine sq ?_
 refine sq ?_
 refine y9 (mk [(0,Iu c_1),(26,.bool (bif decide (c_1≥(97:Int)) then (decide (c_1≤(122:Int))||(bif decide (c_1≥(65:Int)) then (decide (c_1≤(90:Int))||(decide (c_1≥(48:Int))&&decide (c_1≤(57:Int)))) else (decide (c_1≥(48:Int))&&decide (c_1≤(57:Int))))) else (bif decide (c_1≥(65:Int)) then (decide (c_1≤(90:Int))||(decide (c_1≥(48:Int))&&decide (c_1≤(57:Int)))) else (decide (c_1≥(48:Int))&&decide (c_1≤(57:Int))))))] [] 0) ?_ ?_
 ·rcases bft (decide (c_1≥(97:Int))) with zH | zH
  ·rcases bft (decide (c_1≤(122:Int))) with zI | zI
   ·refine rg [(5,Ht),(7,Hg),(8,Hg),(9,Hg),(12,Hg),(13,Ht),(15,Hg),(16,Hg),(17,Hg),(20,Hg),(21,Ht)] [0,26] [] 0 [Iu c_1,.bool true] [] zG (ac zH (ac zH (ac zH (ac zI (ac zI (ac zI (ac zI (ac zI (ax (ax (ax (ax (ar true an))))))))))))) ?_
    exact ⟨rfl,(sw [] [] [.s 0,.a 26 (.bool (bif decide (c_1≥(97:Int)) then (decide (c_1≤(122:Int))||(bif decide (c_1≥(65:Int)) then (decide (c_1≤(90:Int))||(decide (c_1≥(48:Int))&&decide (c_1≤(57:Int)))) else (decide (c_1≥(48:Int))&&decide (c_1≤(57:Int))))) else (bif decide (c_1≥(65:Int)) then (decide (c_1≤(90:Int))||(decide (c_1≥(48:Int))&&decide (c_1≤(57:Int)))) else (decide (c_1≥(48:Int))&&decide (c_1≤(57:Int))))))] [] (ac (congrArg AV.bool (ctr zH (ort zI)):(.bool true:AV)=.bool (bif decide (c_1≥(97:Int)) then (decide (c_1≤(122:Int))||(bif decide (c_1≥(65:Int)) then (decide (c_1≤(90:Int))||(decide (c_1≥(48:Int))&&decide (c_1≤(57:Int)))) else (decide (c_1≥(48:Int))&&decide (c_1≤(57:Int))))) else (bif decide (c_1≥(65:Int)) then (decide (c_1≤(90:Int))||(decide (c_1≥(48:Int))&&decide (c_1≤(57:Int)))) else (decide (c_1≥(48:Int))&&decide (c_1≤(57:Int)))))) an))⟩
   ·rcases bft (decide (c_1≥(65:Int))) with zN | zN
    ·rcases bft (decide (c_1≤(90:Int))) with zV | zV
     ·refine rg [(5,Ht),(12,Ht),(13,Hf),(15,Hg),(16,Hg),(17,Hg),(20,Hg),(21,Ht)] [0,26] [] 0 [Iu c_1,.bool true] [] zG (ac zH (ac zH (ac zH (ac zI (ac zI (ac zI (ac zN (ac zN (ac zI (ac zN (ac zI (ac zV (ac zV (ac zV (ac zV (ac zV an)))))))))))))))) ?_
      exact ⟨rfl,(sw [] [] [.s 0,.a 26 (.bool (bif decide (c_1≥(97:Int)) then (decide (c_1≤(122:Int))||(bif decide (c_1≥(65:Int)) then (decide (c_1≤(90:Int))||(decide (c_1≥(48:Int))&&decide (c_1≤(57:Int)))) else (decide (c_1≥(48:Int))&&decide (c_1≤(57:Int))))) else (bif decide (c_1≥(65:Int)) then (decide (c_1≤(90:Int))||(decide (c_1≥(48:Int))&&decide (c_1≤(57:Int)))) else (decide (c_1≥(48:Int))&&decide (c_1≤(57:Int))))))] [] (ac (congrArg AV.bool (ctr zH (orf zI (ctr zN (ort zV)))):(.bool true:AV)=.bool (bif decide (c_1≥(97:Int)) then (decide (c_1≤(122:Int))||(bif decide (c_1≥(65:Int)) then (decide (c_1≤(90:Int))||(decide (c_1≥(48:Int))&&decide (c_1≤(57:Int)))) else (decide (c_1≥(48:Int))&&decide (c_1≤(57:Int))))) else (bif decide (c_1≥(65:Int)) then (decide (c_1≤(90:Int))||(decide (c_1≥(48:Int))&&decide (c_1≤(57:Int)))) else (decide (c_1≥(48:Int))&&decide (c_1≤(57:Int)))))) an))⟩
     ·rcases bft (decide (c_1≥(48:Int))) with yF | yF
      ·refine rg [(5,Ht),(12,Ht),(13,Hf),(20,Ht),(21,Hf)] [0,26] [] 0 [Iu c_1,.bool (decide (c_1≤(57:Int)))] [] zG (ac zH (ac zH (ac zH (ac zI (ac zI (ac zI (ac zN (ac zN (ac zI (ac zN (ac zI (ac zV (ac zV (ac zV (ac yF (ac yF (ac zV (ac yF (ac zV an))))))))))))))))))) ?_
       exact ⟨rfl,(sw [] [] [.s 0,.a 26 (.bool (bif decide (c_1≥(97:Int)) then (decide (c_1≤(122:Int))||(bif decide (c_1≥(65:Int)) then (decide (c_1≤(90:Int))||(decide (c_1≥(48:Int))&&decide (c_1≤(57:Int)))) else (decide (c_1≥(48:Int))&&decide (c_1≤(57:Int))))) else (bif decide (c_1≥(65:Int)) then (decide (c_1≤(90:Int))||(decide (c_1≥(48:Int))&&decide (c_1≤(57:Int)))) else (decide (c_1≥(48:Int))&&decide (c_1≤(57:Int))))))] [] (ac (congrArg AV.bool (ctr zH (orf zI (ctr zN (orf zV (uP yF rfl))))):(.bool (decide (c_1≤(57:Int))):AV)=.bool (bif decide (c_1≥(97:Int)) then (decide (c_1≤(122:Int))||(bif decide (c_1≥(65:Int)) then (decide (c_1≤(90:Int))||(decide (c_1≥(48:Int))&&decide (c_1≤(57:Int)))) else (decide (c_1≥(48:Int))&&decide (c_1≤(57:Int))))) else (bif decide (c_1≥(65:Int)) then (decide (c_1≤(90:Int))||(decide (c_1≥(48:Int))&&decide (c_1≤(57:Int)))) else (decide (c_1≥(48:Int))&&decide (c_1≤(57:Int)))))) an))⟩
      ·refine rg [(5,Ht),(12,Ht),(13,Hf),(18,Hg),(19,Hg),(20,Hf),(21,Hf)] [0,26] [] 0 [Iu c_1,.bool false] [] zG (ac zH (ac zH (ac zH (ac zI (ac zI (ac zI (ac zN (ac zN (ac zI (ac zN (ac zI (ac zV (ac zV (ac zV (ac yF (ac yF (ac zV (ac yF (ac zV an))))))))))))))))))) ?_
       exact ⟨rfl,(sw [] [] [.s 0,.a 26 (.bool (bif decide (c_1≥(97:Int)) then (decide (c_1≤(122:Int))||(bif decide (c_1≥(65:Int)) then (decide (c_1≤(90:Int))||(decide (c_1≥(48:Int))&&decide (c_1≤(57:Int)))) else (decide (c_1≥(48:Int))&&decide (c_1≤(57:Int))))) else (bif decide (c_1≥(65:Int)) then (decide (c_1≤(90:Int))||(decide (c_1≥(48:Int))&&decide (c_1≤(57:Int)))) else (decide (c_1≥(48:Int))&&decide (c_1≤(57:Int))))))] [] (ac (congrArg AV.bool (ctr zH (orf zI (ctr zN (orf zV (j7 yF))))):(.bool false:AV)=.bool (bif decide (c_1≥(97:Int)) then (decide (c_1≤(122:Int))||(bif decide (c_1≥(65:Int)) then (decide (c_1≤(90:Int))||(decide (c_1≥(48:Int))&&decide (c_1≤(57:Int)))) else (decide (c_1≥(48:Int))&&decide (c_1≤(57:Int))))) else (bif decide (c_1≥(65:Int)) then (decide (c_1≤(90:Int))||(decide (c_1≥(48:Int))&&decide (c_1≤(57:Int)))) else (decide (c_1≥(48:Int))&&decide (c_1≤(57:Int)))))) an))⟩
    ·rcases bft (decide (c_1≥(48:Int))) with xA | xA
     ·refine rg [(5,Ht),(10,Hg),(11,Hg),(12,Hf),(13,Hf),(20,Ht),(21,Hf)] [0,26] [] 0 [Iu c_1,.bool (decide (c_1≤(57:Int)))] [] zG (ac zH (ac zH (ac zH (ac zI (ac zI (ac zI (ac zN (ac zN (ac zI (ac zN (ac zI (ar false (ar false (ar false (ac xA (ac xA (ar false (ac xA (ar false an))))))))))))))))))) ?_
      exact ⟨rfl,(sw [] [] [.s 0,.a 26 (.bool (bif decide (c_1≥(97:Int)) then (decide (c_1≤(122:Int))||(bif decide (c_1≥(65:Int)) then (decide (c_1≤(90:Int))||(decide (c_1≥(48:Int))&&decide (c_1≤(57:Int)))) else (decide (c_1≥(48:Int))&&decide (c_1≤(57:Int))))) else (bif decide (c_1≥(65:Int)) then (decide (c_1≤(90:Int))||(decide (c_1≥(48:Int))&&decide (c_1≤(57:Int)))) else (decide (c_1≥(48:Int))&&decide (c_1≤(57:Int))))))] [] (ac (congrArg AV.bool (ctr zH (orf zI (cfr zN (uP xA rfl)))):(.bool (decide (c_1≤(57:Int))):AV)=.bool (bif decide (c_1≥(97:Int)) then (decide (c_1≤(122:Int))||(bif decide (c_1≥(65:Int)) then (decide (c_1≤(90:Int))||(decide (c_1≥(48:Int))&&decide (c_1≤(57:Int)))) else (decide (c_1≥(48:Int))&&decide (c_1≤(57:Int))))) else (bif decide (c_1≥(65:Int)) then (decide (c_1≤(90:Int))||(decide (c_1≥(48:Int))&&decide (c_1≤(57:Int)))) else (decide (c_1≥(48:Int))&&decide (c_1≤(57:Int)))))) an))⟩
     ·refine rg [(5,Ht),(10,Hg),(11,Hg),(12,Hf),(13,Hf),(18,Hg),(19,Hg),(20,Hf),(21,Hf)] [0,26] [] 0 [Iu c_1,.bool false] [] zG (ac zH (ac zH (ac zH (ac zI (ac zI (ac zI (ac zN (ac zN (ac zI (ac zN (ac zI (ar false (ar false (ar false (ac xA (ac xA (ar false (ac xA (ar false an))))))))))))))))))) ?_
      exact ⟨rfl,(sw [] [] [.s 0,.a 26 (.bool (bif decide (c_1≥(97:Int)) then (decide (c_1≤(122:Int))||(bif decide (c_1≥(65:Int)) then (decide (c_1≤(90:Int))||(decide (c_1≥(48:Int))&&decide (c_1≤(57:Int)))) else (decide (c_1≥(48:Int))&&decide (c_1≤(57:Int))))) else (bif decide (c_1≥(65:Int)) then (decide (c_1≤(90:Int))||(decide (c_1≥(48:Int))&&decide (c_1≤(57:Int)))) else (decide (c_1≥(48:Int))&&decide (c_1≤(57:Int))))))] [] (ac (congrArg AV.bool (ctr zH (orf zI (cfr zN (j7 xA)))):(.bool false:AV)=.bool (bif decide (c_1≥(97:Int)) then (decide (c_1≤(122:Int))||(bif decide (c_1≥(65:Int)) then (decide (c_1≤(90:Int))||(decide (c_1≥(48:Int))&&decide (c_1≤(57:Int)))) else (decide (c_1≥(48:Int))&&decide (c_1≤(57:Int))))) else (bif decide (c_1≥(65:Int)) then (decide (c_1≤(90:Int))||(decide (c_1≥(48:Int))&&decide (c_1≤(57:Int)))) else (decide (c_1≥(48:Int))&&decide (c_1≤(57:Int)))))) an))⟩
  ·rcases bft (decide (c_1≥(65:Int))) with y5 | y5
   ·rcases bft (decide (c_1≤(90:Int))) with xB | xB
    ·refine rg [(3,Hg),(4,Hg),(5,Hf),(12,Ht),(13,Hf),(15,Hg),(16,Hg),(17,Hg),(20,Hg),(21,Ht)] [0,26] [] 0 [Iu c_1,.bool true] [] zG (ac zH (ac zH (ac zH (ar false (ar false (ar false (ac y5 (ac y5 (ar false (ac y5 (ar false (ac xB (ac xB (ac xB (ac xB (ac xB an)))))))))))))))) ?_
     exact ⟨rfl,(sw [] [] [.s 0,.a 26 (.bool (bif decide (c_1≥(97:Int)) then (decide (c_1≤(122:Int))||(bif decide (c_1≥(65:Int)) then (decide (c_1≤(90:Int))||(decide (c_1≥(48:Int))&&decide (c_1≤(57:Int)))) else (decide (c_1≥(48:Int))&&decide (c_1≤(57:Int))))) else (bif decide (c_1≥(65:Int)) then (decide (c_1≤(90:Int))||(decide (c_1≥(48:Int))&&decide (c_1≤(57:Int)))) else (decide (c_1≥(48:Int))&&decide (c_1≤(57:Int))))))] [] (ac (congrArg AV.bool (cfr zH (ctr y5 (ort xB))):(.bool true:AV)=.bool (bif decide (c_1≥(97:Int)) then (decide (c_1≤(122:Int))||(bif decide (c_1≥(65:Int)) then (decide (c_1≤(90:Int))||(decide (c_1≥(48:Int))&&decide (c_1≤(57:Int)))) else (decide (c_1≥(48:Int))&&decide (c_1≤(57:Int))))) else (bif decide (c_1≥(65:Int)) then (decide (c_1≤(90:Int))||(decide (c_1≥(48:Int))&&decide (c_1≤(57:Int)))) else (decide (c_1≥(48:Int))&&decide (c_1≤(57:Int)))))) an))⟩
    ·rcases bft (decide (c_1≥(48:Int))) with wB | wB
     ·refine rg [(3,Hg),(4,Hg),(5,Hf),(12,Ht),(13,Hf),(20,Ht),(21,Hf)] [0,26] [] 0 [Iu c_1,.bool (decide (c_1≤(57:Int)))] [] zG (ac zH (ac zH (ac zH (ar false (ar false (ar false (ac y5 (ac y5 (ar false (ac y5 (ar false (ac xB (ac xB (ac xB (ac wB (ac wB (ac xB (ac wB (ac xB an))))))))))))))))))) ?_
      exact ⟨rfl,(sw [] [] [.s 0,.a 26 (.bool (bif decide (c_1≥(97:Int)) then (decide (c_1≤(122:Int))||(bif decide (c_1≥(65:Int)) then (decide (c_1≤(90:Int))||(decide (c_1≥(48:Int))&&decide (c_1≤(57:Int)))) else (decide (c_1≥(48:Int))&&decide (c_1≤(57:Int))))) else (bif decide (c_1≥(65:Int)) then (decide (c_1≤(90:Int))||(decide (c_1≥(48:Int))&&decide (c_1≤(57:Int)))) else (decide (c_1≥(48:Int))&&decide (c_1≤(57:Int))))))] [] (ac (congrArg AV.bool (cfr zH (ctr y5 (orf xB (uP wB rfl)))):(.bool (decide (c_1≤(57:Int))):AV)=.bool (bif decide (c_1≥(97:Int)) then (decide (c_1≤(122:Int))||(bif decide (c_1≥(65:Int)) then (decide (c_1≤(90:Int))||(decide (c_1≥(48:Int))&&decide (c_1≤(57:Int)))) else (decide (c_1≥(48:Int))&&decide (c_1≤(57:Int))))) else (bif decide (c_1≥(65:Int)) then (decide (c_1≤(90:Int))||(decide (c_1≥(48:Int))&&decide (c_1≤(57:Int)))) else (decide (c_1≥(48:Int))&&decide (c_1≤(57:Int)))))) an))⟩
     ·refine rg [(3,Hg),(4,Hg),(5,Hf),(12,Ht),(13,Hf),(18,Hg),(19,Hg),(20,Hf),(21,Hf)] [0,26] [] 0 [Iu c_1,.bool false] [] zG (ac zH (ac zH (ac zH (ar false (ar false (ar false (ac y5 (ac y5 (ar false (ac y5 (ar false (ac xB (ac xB (ac xB (ac wB (ac wB (ac xB (ac wB (ac xB an))))))))))))))))))) ?_
      exact ⟨rfl,(sw [] [] [.s 0,.a 26 (.bool (bif decide (c_1≥(97:Int)) then (decide (c_1≤(122:Int))||(bif decide (c_1≥(65:Int)) then (decide (c_1≤(90:Int))||(decide (c_1≥(48:Int))&&decide (c_1≤(57:Int)))) else (decide (c_1≥(48:Int))&&decide (c_1≤(57:Int))))) else (bif decide (c_1≥(65:Int)) then (decide (c_1≤(90:Int))||(decide (c_1≥(48:Int))&&decide (c_1≤(57:Int)))) else (decide (c_1≥(48:Int))&&decide (c_1≤(57:Int))))))] [] (ac (congrArg AV.bool (cfr zH (ctr y5 (orf xB (j7 wB)))):(.bool false:AV)=.bool (bif decide (c_1≥(97:Int)) then (decide (c_1≤(122:Int))||(bif decide (c_1≥(65:Int)) then (decide (c_1≤(90:Int))||(decide (c_1≥(48:Int))&&decide (c_1≤(57:Int)))) else (decide (c_1≥(48:Int))&&decide (c_1≤(57:Int))))) else (bif decide (c_1≥(65:Int)) then (decide (c_1≤(90:Int))||(decide (c_1≥(48:Int))&&decide (c_1≤(57:Int)))) else (decide (c_1≥(48:Int))&&decide (c_1≤(57:Int)))))) an))⟩
   ·rcases bft (decide (c_1≥(48:Int))) with xF | xF
    ·refine rg [(3,Hg),(4,Hg),(5,Hf),(10,Hg),(11,Hg),(12,Hf),(13,Hf),(20,Ht),(21,Hf)] [0,26] [] 0 [Iu c_1,.bool (decide (c_1≤(57:Int)))] [] zG (ac zH (ac zH (ac zH (ar false (ar false (ar false (ac y5 (ac y5 (ar false (ac y5 (ar false (ar false (ar false (ar false (ac xF (ac xF (ar false (ac xF (ar false an))))))))))))))))))) ?_
     exact ⟨rfl,(sw [] [] [.s 0,.a 26 (.bool (bif decide (c_1≥(97:Int)) then (decide (c_1≤(122:Int))||(bif decide (c_1≥(65:Int)) then (decide (c_1≤(90:Int))||(decide (c_1≥(48:Int))&&decide (c_1≤(57:Int)))) else (decide (c_1≥(48:Int))&&decide (c_1≤(57:Int))))) else (bif decide (c_1≥(65:Int)) then (decide (c_1≤(90:Int))||(decide (c_1≥(48:Int))&&decide (c_1≤(57:Int)))) else (decide (c_1≥(48:Int))&&decide (c_1≤(57:Int))))))] [] (ac (congrArg AV.bool (cfr zH (cfr y5 (uP xF rfl))):(.bool (decide (c_1≤(57:Int))):AV)=.bool (bif decide (c_1≥(97:Int)) then (decide (c_1≤(122:Int))||(bif decide (c_1≥(65:Int)) then (decide (c_1≤(90:Int))||(decide (c_1≥(48:Int))&&decide (c_1≤(57:Int)))) else (decide (c_1≥(48:Int))&&decide (c_1≤(57:Int))))) else (bif decide (c_1≥(65:Int)) then (decide (c_1≤(90:Int))||(decide (c_1≥(48:Int))&&decide (c_1≤(57:Int)))) else (decide (c_1≥(48:Int))&&decide (c_1≤(57:Int)))))) an))⟩
    ·refine rg [(3,Hg),(4,Hg),(5,Hf),(10,Hg),(11,Hg),(12,Hf),(13,Hf),(18,Hg),(19,Hg),(20,Hf),(21,Hf)] [0,26] [] 0 [Iu c_1,.bool false] [] zG (ac zH (ac zH (ac zH (ar false (ar false (ar false (ac y5 (ac y5 (ar false (ac y5 (ar false (ar false (ar false (ar false (ac xF (ac xF (ar false (ac xF (ar false an))))))))))))))))))) ?_
     exact ⟨rfl,(sw [] [] [.s 0,.a 26 (.bool (bif decide (c_1≥(97:Int)) then (decide (c_1≤(122:Int))||(bif decide (c_1≥(65:Int)) then (decide (c_1≤(90:Int))||(decide (c_1≥(48:Int))&&decide (c_1≤(57:Int)))) else (decide (c_1≥(48:Int))&&decide (c_1≤(57:Int))))) else (bif decide (c_1≥(65:Int)) then (decide (c_1≤(90:Int))||(decide (c_1≥(48:Int))&&decide (c_1≤(57:Int)))) else (decide (c_1≥(48:Int))&&decide (c_1≤(57:Int))))))] [] (ac (congrArg AV.bool (cfr zH (cfr y5 (j7 xF))):(.bool false:AV)=.bool (bif decide (c_1≥(97:Int)) then (decide (c_1≤(122:Int))||(bif decide (c_1≥(65:Int)) then (decide (c_1≤(90:Int))||(decide (c_1≥(48:Int))&&decide (c_1≤(57:Int)))) else (decide (c_1≥(48:Int))&&decide (c_1≤(57:Int))))) else (bif decide (c_1≥(65:Int)) then (decide (c_1≤(90:Int))||(decide (c_1≥(48:Int))&&decide (c_1≤(57:Int)))) else (decide (c_1≥(48:Int))&&decide (c_1≤(57:Int)))))) an))⟩
 refine cd 26 (bif decide (c_1≥(97:Int)) then (decide (c_1≤(122:Int))||(bif decide (c_1≥(65:Int)) then (decide (c_1≤(90:Int))||(decide (c_1≥(48:Int))&&decide (c_1≤(57:Int)))) else (decide (c_1≥(48:Int))&&decide (c_1≤(57:Int))))) else (bif decide (c_1≥(65:Int)) then (decide (c_1≤(90:Int))||(decide (c_1≥(48:Int))&&decide (c_1≤(57:Int)))) else (decide (c_1≥(48:Int))&&decide (c_1≤(57:Int))))) ?_ ?_
 ·intro g_1;replace h:=zP g_1 h
  refine sr [] [2] [] 0 [.bool true] [] zG an ?_
  refine rt ?_
  cases h
  exact ⟨.inr rfl,Nat.le_of_ble_eq_true rfl,by kernel_rfl⟩
 intro g_1;replace h:=zO g_1 h
 refine sk ?_
 refine sr [] [0,3] [] 0 [Iu c_1,.str ([95,46,58,47,60,62,36,42,126,45]:List Int)] [] zG an ?_
 refine sq ?_
 refine sr [] [0,3,4] [] 0 [Iu c_1,.str ([95,46,58,47,60,62,36,42,126,45]:List Int),Ii 0] [] zG an ?_
 obtain ⟨o_1,h_1,h⟩:=bind_some h
 refine wK (K1:=(fun e st'=>match o_1 with | (.inl q0)=>e=.normal∧Sub 0 st' (mk [] [] 0) | (.inr q1)=>e=.ret∧uF prog Go.Proofs.Try.f78 0 [] (.bool q1) st')) ?_ ?_
 ·replace h:=h_1
  refine yC (id:=0) (by kernel_rfl) ?_
  refine wk [] [] [.s 0,.s 3,.s 4] [] [(0,Iu c_1),(3,.str ([95,46,58,47,60,62,36,42,126,45]:List Int)),(4,Ii 0)] [] an ?_
  refine xH (fun n st=>∃ (i_1:Int),st=mk [(0,Iu c_1),(3,.str ([95,46,58,47,60,62,36,42,126,45]:List Int)),(4,Ii i_1)] [] 0∧qA F c_1 n i_1=some o_1) F (by kernel_rfl) ⟨_,rfl,h⟩ ?_ ?_
  ·rintro _ ⟨_,_,h⟩;exact xX (h:(none:Option (Unit⊕Bool))=some o_1)
  rintro n_1 _ ⟨i_1,rfl,h⟩
  replace h:uN F c_1 (qA F c_1 n_1) i_1=some o_1:=h
  unfold uN at h
  refine sq ?_
  refine sr [] [0,3,4,30] [] 0 [Iu c_1,.str ([95,46,58,47,60,62,36,42,126,45]:List Int),Ii i_1,.bool (decide (i_1<(lN (([95,46,58,47,60,62,36,42,126,45]:List Int)))))] [] zG an ?_
  refine cd 30 (decide (i_1<(lN (([95,46,58,47,60,62,36,42,126,45]:List Int))))) ?_ ?_
  rotate_left
  ·intro g_2;replace h:=zO g_2 h
   refine xS (id:=0) (by kernel_rfl) ?_
   cases h
   exact ⟨rfl,(sw [] [] [] [] an)⟩
  intro g_2;replace h:=zP g_2 h
  refine sk ?_
  refine sq ?_
  refine yC (id:=1) (by kernel_rfl) ?_
  refine sq ?_
  obtain ⟨c_2,h_2,h⟩:=bind_some h
  refine rg [(2,{ z:=c_2 })] [0,3,4,37] [] 0 [Iu c_1,.str ([95,46,58,47,60,62,36,42,126,45]:List Int),Ii i_1,.bool (c_2==c_1)] [] zG (ac h_2 an) ?_
  refine cd 37 (c_2==c_1) ?_ ?_
  rotate_left
  ·intro g_3;replace h:=zO g_3 h
   refine sk ?_
   refine rg [] [0,3,4] [] 0 [Iu c_1,.str ([95,46,58,47,60,62,36,42,126,45]:List Int),Ii (zR (i_1+(1:Int)))] [] zG an ?_
   exact ⟨_,(sw [] [] [.s 0,.s 3,.s 4] [] an),_,rfl,h⟩
  intro g_3;replace h:=zP g_3 h
  refine sr [] [2] [] 0 [.bool true] [] zG an ?_
  refine rt ?_
  cases h
  exact ⟨rfl,Nat.le_of_ble_eq_true rfl,by kernel_rfl⟩
 intro e st1 hk
 rcases o_1 with q_1 | q_2
 rotate_left
 ·obtain ⟨rfl,hf⟩:=hk
  cases h
  exact ⟨st1,Sub.refl _ _,.inr rfl,hf⟩
 obtain ⟨rfl,hs⟩:=hk
 refine ⟨_,hs,?_⟩
 refine sr [] [2] [] 0 [.bool false] [] zG an ?_
 refine rt ?_
 cases h
 exact ⟨.inr rfl,Nat.le_of_ble_eq_true rfl,by kernel_rfl⟩
theorem zDg (F:Nat) (s_1:List Int) (r:Int) (h:zAC F s_1=some r):zW prog 68 [] [] [.str s_1] [] (Ii r):=by
 refine yA (fn:=Go.Proofs.Try.f68) (code:=xC Go.Proofs.Try.f68) (by kernel_rfl) (by kernel_rfl) (Nat.le_of_ble_eq_true (by kernel_rfl)) ?_
 unfold zAC at h
 refine sr [] [0] [] 0 [.str s_1] [] zG an ?_
 refine sq ?_
 refine sq ?_
 refine y9 (mk [(0,.str s_1),(11,.bool (decide ((lN (s_1))<(1:Int))||decide ((lN (s_1))>(40:Int))))] [] 0) ?_ ?_
 ·rcases bft (decide ((lN (s_1))<(1:Int))) with zH | zH
  ·refine rg [(4,Hg),(5,Hg),(6,Hg),(7,Ht)] [0,11] [] 0 [.str s_1,.bool true] [] zG (ac zH (ac zH (ac zH (ac zH an)))) ?_
   exact ⟨rfl,(sw [] [] [.s 0,.a 11 (.bool (decide ((lN (s_1))<(1:Int))||decide ((lN (s_1))>(40:Int))))] [] (ac (congrArg AV.bool (ort zH):(.bool true:AV)=.bool (decide ((lN (s_1))<(1:Int))||decide ((lN (s_1))>(40:Int)))) an))⟩
  ·refine rg [(7,Hf)] [0,11] [] 0 [.str s_1,.bool (decide ((lN (s_1))>(40:Int)))] [] zG (ac zH (ac zH (ac zH (ac zH an)))) ?_
   exact ⟨rfl,(sw [] [] [.s 0,.a 11 (.bool (decide ((lN (s_1))<(1:Int))||decide ((lN (s_1))>(40:Int))))] [] (ac (congrArg AV.bool (orf zH rfl):(.bool (decide ((lN (s_1))>(40:Int))):AV)=.bool (decide ((lN (s_1))<(1:Int))||decide ((lN (s_1))>(40:Int)))) an))⟩
 refine cd 11 (decide ((lN (s_1))<(1:Int))||decide ((lN (s_1))>(40:Int))) ?_ ?_
 ·intro g_1;replace h:=zP g_1 h
  refine sr [] [2] [] 0 [Ii 3] [] zG an ?_
  refine rt ?_
  cases h
  exact ⟨.inr rfl,Nat.le_of_ble_eq_true rfl,by kernel_rfl⟩
 intro g_1;replace h:=zO g_1 h
 refine sk ?_
 refine sq ?_
 refine sr [] [0,3] [] 0 [.str s_1,Ii 0] [] zG an ?_
 obtain ⟨o_1,h_1,h⟩:=bind_some h
 refine wK (K1:=(fun e st'=>match o_1 with | (.inl q0)=>e=.normal∧Sub 0 st' (mk [] [] 0) | (.inr q1)=>e=.ret∧uF prog Go.Proofs.Try.f68 0 [] (Ii q1) st')) ?_ ?_
 ·replace h:=h_1
  refine yC (id:=0) (by kernel_rfl) ?_
  refine wk [] [] [.s 0,.s 3] [] [(0,.str s_1),(3,Ii 0)] [] an ?_
  refine xH (fun n st=>∃ (i_1:Int),st=mk [(0,.str s_1),(3,Ii i_1)] [] 0∧zAk F s_1 n i_1=some o_1) F (by kernel_rfl) ⟨_,rfl,h⟩ ?_ ?_
  ·rintro _ ⟨_,_,h⟩;exact xX (h:(none:Option (Unit⊕Int))=some o_1)
  rintro n_1 _ ⟨i_1,rfl,h⟩
  replace h:jF F s_1 (zAk F s_1 n_1) i_1=some o_1:=h
  unfold jF at h
  refine sq ?_
  refine sr [] [0,3,15] [] 0 [.str s_1,Ii i_1,.bool (decide (i_1<(lN (s_1))))] [] zG an ?_
  refine cd 15 (decide (i_1<(lN (s_1)))) ?_ ?_
  rotate_left
  ·intro g_2;replace h:=zO g_2 h
   refine xS (id:=0) (by kernel_rfl) ?_
   cases h
   exact ⟨rfl,(sw [] [] [] [] an)⟩
  intro g_2;replace h:=zP g_2 h
  refine sk ?_
  refine sq ?_
  refine yC (id:=1) (by kernel_rfl) ?_
  refine sq ?_
  obtain ⟨c_1,h_2,h⟩:=bind_some h
  obtain ⟨r_1,h_3,h⟩:=bind_some h
  refine rg [(2,{ z:=c_1 }),(3,{ av:=.bool r_1,l:=[Iu c_1] })] [0,3,22] [] 0 [.str s_1,Ii i_1,.bool (!r_1)] [] zG (ac h_2 (ar ([Iu c_1]:List AV) (ac (rfl:([]:List zT)=[]) (ac (zIl F c_1 r_1 h_3:zW prog 78 [] [] [Iu c_1] [] (.bool r_1)) an)))) ?_
  refine cd 22 (!r_1) ?_ ?_
  rotate_left
  ·intro g_3;replace h:=zO g_3 h
   refine sk ?_
   refine rg [] [0,3] [] 0 [.str s_1,Ii (zR (i_1+(1:Int)))] [] zG an ?_
   exact ⟨_,(sw [] [] [.s 0,.s 3] [] an),_,rfl,h⟩
  intro g_3;replace h:=zP g_3 h
  refine sr [] [2] [] 0 [Ii 3] [] zG an ?_
  refine rt ?_
  cases h
  exact ⟨rfl,Nat.le_of_ble_eq_true rfl,by kernel_rfl⟩
 intro e st1 hk
 rcases o_1 with q_1 | q_2
 rotate_left
 ·obtain ⟨rfl,hf⟩:=hk
  cases h
  exact ⟨st1,Sub.refl _ _,.inr rfl,hf⟩
 obtain ⟨rfl,hs⟩:=hk
 refine ⟨_,hs,?_⟩
 refine sr [] [2] [] 0 [Ii 0] [] zG an ?_
 refine rt ?_
 cases h
 exact ⟨.inr rfl,Nat.le_of_ble_eq_true rfl,by kernel_rfl⟩
theorem zID (F:Nat) (t_1:zY) (r:Int) (h:zA9 F t_1=some r):zW prog 53 [] [] [zF t_1] [] (Ii r):=by
 refine yA (fn:=Go.Proofs.Try.f53) (code:=xC Go.Proofs.Try.f53) (by kernel_rfl) (by kernel_rfl) (Nat.le_of_ble_eq_true (by kernel_rfl)) ?_
 unfold zA9 at h
 refine sr [(0,{ id:=0 })] [1] [0] 1 [Pp 0] [Vb 66 (z8 t_1)] zG an ?_
 refine sq ?_
 refine sq ?_
 refine y9 (mk [(1,Pp 0),(20,.bool (decide (t_1.Id<(0:Int))||(decide (t_1.Id>(1000000000000000:Int))||(decide (t_1.Domain<(0:Int))||decide (t_1.Domain≥(8:Int))))))] [(0,Vb 66 (z8 t_1))] 1) ?_ ?_
 ·rcases bft (decide (t_1.Id<(0:Int))) with zH | zH
  ·refine rg [(4,Hg),(5,Hg),(6,Hg),(7,Ht),(9,Hg),(10,Hg),(11,Hg),(12,Ht),(14,Hg),(15,Hg),(16,Hg),(17,Ht)] [1,20] [0] 1 [Pp 0,.bool true] [Vb 66 (z8 t_1)] zG (ac zH (ac zH (ac zH (ac zH (ax (ax (ax (ar true (ax (ax (ax (ar true an)))))))))))) ?_
   exact ⟨rfl,(sw [0] [] [.s 1,.a 20 (.bool (decide (t_1.Id<(0:Int))||(decide (t_1.Id>(1000000000000000:Int))||(decide (t_1.Domain<(0:Int))||decide (t_1.Domain≥(8:Int))))))] [.s 0] (ac (congrArg AV.bool (ort zH):(.bool true:AV)=.bool (decide (t_1.Id<(0:Int))||(decide (t_1.Id>(1000000000000000:Int))||(decide (t_1.Domain<(0:Int))||decide (t_1.Domain≥(8:Int)))))) an))⟩
  ·rcases bft (decide (t_1.Id>(1000000000000000:Int))) with zI | zI
   ·refine rg [(7,Hf),(9,Hg),(10,Hg),(11,Hg),(12,Ht),(14,Hg),(15,Hg),(16,Hg),(17,Ht)] [1,20] [0] 1 [Pp 0,.bool true] [Vb 66 (z8 t_1)] zG (ac zH (ac zH (ac zH (ac zH (ac zI (ac zI (ac zI (ac zI (ax (ax (ax (ar true an)))))))))))) ?_
    exact ⟨rfl,(sw [0] [] [.s 1,.a 20 (.bool (decide (t_1.Id<(0:Int))||(decide (t_1.Id>(1000000000000000:Int))||(decide (t_1.Domain<(0:Int))||decide (t_1.Domain≥(8:Int))))))] [.s 0] (ac (congrArg AV.bool (orf zH (ort zI)):(.bool true:AV)=.bool (decide (t_1.Id<(0:Int))||(decide (t_1.Id>(1000000000000000:Int))||(decide (t_1.Domain<(0:Int))||decide (t_1.Domain≥(8:Int)))))) an))⟩
   ·rcases bft (decide (t_1.Domain<(0:Int))) with zN | zN
    ·refine rg [(7,Hf),(12,Hf),(14,Hg),(15,Hg),(16,Hg),(17,Ht)] [1,20] [0] 1 [Pp 0,.bool true] [Vb 66 (z8 t_1)] zG (ac zH (ac zH (ac zH (ac zH (ac zI (ac zI (ac zI (ac zI (ac zN (ac zN (ac zN (ac zN an)))))))))))) ?_
     exact ⟨rfl,(sw [0] [] [.s 1,.a 20 (.bool (decide (t_1.Id<(0:Int))||(decide (t_1.Id>(1000000000000000:Int))||(decide (t_1.Domain<(0:Int))||decide (t_1.Domain≥(8:Int))))))] [.s 0] (ac (congrArg AV.bool (orf zH (orf zI (ort zN))):(.bool true:AV)=.bool (decide (t_1.Id<(0:Int))||(decide (t_1.Id>(1000000000000000:Int))||(decide (t_1.Domain<(0:Int))||decide (t_1.Domain≥(8:Int)))))) an))⟩
    ·refine rg [(7,Hf),(12,Hf),(17,Hf)] [1,20] [0] 1 [Pp 0,.bool (decide (t_1.Domain≥(8:Int)))] [Vb 66 (z8 t_1)] zG (ac zH (ac zH (ac zH (ac zH (ac zI (ac zI (ac zI (ac zI (ac zN (ac zN (ac zN (ac zN an)))))))))))) ?_
     exact ⟨rfl,(sw [0] [] [.s 1,.a 20 (.bool (decide (t_1.Id<(0:Int))||(decide (t_1.Id>(1000000000000000:Int))||(decide (t_1.Domain<(0:Int))||decide (t_1.Domain≥(8:Int))))))] [.s 0] (ac (congrArg AV.bool (orf zH (orf zI (orf zN rfl))):(.bool (decide (t_1.Domain≥(8:Int))):AV)=.bool (decide (t_1.Id<(0:Int))||(decide (t_1.Id>(1000000000000000:Int))||(decide (t_1.Domain<(0:Int))||decide (t_1.Domain≥(8:Int)))))) an))⟩
 refine cd 20 (decide (t_1.Id<(0:Int))||(decide (t_1.Id>(1000000000000000:Int))||(decide (t_1.Domain<(0:Int))||decide (t_1.Domain≥(8:Int))))) ?_ ?_
 ·intro g_1;replace h:=zP g_1 h
  refine sr [] [2] [] 1 [Ii 2] [] zG an ?_
  refine rt ?_
  cases h
  exact ⟨.inr rfl,Nat.le_of_ble_eq_true rfl,by kernel_rfl⟩
 intro g_1;replace h:=zO g_1 h
 refine sk ?_
 refine sq ?_
 obtain ⟨r_1,h_1,h⟩:=bind_some h
 refine rg [(2,{ av:=Ii r_1,l:=[.str t_1.Name] })] [2] [] 1 [Ii r_1] [] zG (ar ([.str t_1.Name]:List AV) (ac (rfl:([]:List zT)=[]) (ac (zDg F t_1.Name r_1 h_1:zW prog 68 [] [] [.str t_1.Name] [] (Ii r_1)) an))) ?_
 refine rt ?_
 cases h
 exact ⟨.inr rfl,Nat.le_of_ble_eq_true rfl,by kernel_rfl⟩
theorem zAo (F:Nat) (d_1:List (zS)) (xE:Int) (r:Int) (h:nD F d_1 xE=some r):zW prog 69 [] [] [.sl false 2 (Mp zC d_1),Ii xE] [] (Ii r):=by
 refine yA (fn:=Go.Proofs.Try.f69) (code:=xC Go.Proofs.Try.f69) (by kernel_rfl) (by kernel_rfl) (Nat.le_of_ble_eq_true (by kernel_rfl)) ?_
 unfold nD at h
 refine sr [] [0,1] [] 0 [.sl false 2 (Mp zC d_1),Ii xE] [] zG an ?_
 refine sq ?_
 refine sr [] [0,1,5] [] 0 [.sl false 2 (Mp zC d_1),Ii xE,Ii 0] [] zG an ?_
 obtain ⟨o_1,h_1,h⟩:=bind_some h
 refine wK (K1:=(fun e st'=>match o_1 with | (.inl q0)=>e=.normal∧Sub 0 st' (mk [] [] 0) | (.inr q1)=>e=.ret∧uF prog Go.Proofs.Try.f69 0 [] (Ii q1) st')) ?_ ?_
 ·replace h:=h_1
  refine yC (id:=0) (by kernel_rfl) ?_
  refine wk [] [] [.s 0,.s 1,.s 5] [] [(0,.sl false 2 (Mp zC d_1)),(1,Ii xE),(5,Ii 0)] [] an ?_
  refine xH (fun n st=>∃ (i_1:Int),st=mk [(0,.sl false 2 (Mp zC d_1)),(1,Ii xE),(5,Ii i_1)] [] 0∧zAp F d_1 xE n i_1=some o_1) F (by kernel_rfl) ⟨_,rfl,h⟩ ?_ ?_
  ·rintro _ ⟨_,_,h⟩;exact xX (h:(none:Option (Unit⊕Int))=some o_1)
  rintro n_1 _ ⟨i_1,rfl,h⟩
  replace h:tN F d_1 xE (zAp F d_1 xE n_1) i_1=some o_1:=h
  unfold tN at h
  refine sq ?_
  refine sr [(2,{ n:=(d_1).length })] [0,1,5,9] [] 0 [.sl false 2 (Mp zC d_1),Ii xE,Ii i_1,.bool (decide (i_1<(lN (d_1))))] [] zG (ac (z9 _:((Mp zC d_1)).length=(d_1).length) an) ?_
  refine cd 9 (decide (i_1<(lN (d_1)))) ?_ ?_
  rotate_left
  ·intro g_1;replace h:=zO g_1 h
   refine xS (id:=0) (by kernel_rfl) ?_
   cases h
   exact ⟨rfl,(sw [] [] [] [] an)⟩
  intro g_1;replace h:=zP g_1 h
  refine sk ?_
  refine sq ?_
  refine yC (id:=1) (by kernel_rfl) ?_
  refine sq ?_
  obtain ⟨x_1,h_2,h⟩:=bind_some h
  refine rg [(2,{ av:=zC x_1 })] [0,1,5,18] [] 0 [.sl false 2 (Mp zC d_1),Ii xE,Ii i_1,.bool (x_1.Id==xE)] [] zG (ac (yP h_2:xG (Mp zC d_1) i_1=some (zC x_1)) an) ?_
  refine cd 18 (x_1.Id==xE) ?_ ?_
  rotate_left
  ·intro g_2;replace h:=zO g_2 h
   refine sk ?_
   refine rg [] [0,1,5] [] 0 [.sl false 2 (Mp zC d_1),Ii xE,Ii (zR (i_1+(1:Int)))] [] zG an ?_
   exact ⟨_,(sw [] [] [.s 0,.s 1,.s 5] [] an),_,rfl,h⟩
  intro g_2;replace h:=zP g_2 h
  refine sr [] [4] [] 0 [Ii i_1] [] zG an ?_
  refine rt ?_
  cases h
  exact ⟨rfl,Nat.le_of_ble_eq_true rfl,by kernel_rfl⟩
 intro e st1 hk
 rcases o_1 with q_1 | q_2
 rotate_left
 ·obtain ⟨rfl,hf⟩:=hk
  cases h
  exact ⟨st1,Sub.refl _ _,.inr rfl,hf⟩
 obtain ⟨rfl,hs⟩:=hk
 refine ⟨_,hs,?_⟩
 refine sr [] [4] [] 0 [Ii (-1)] [] zG an ?_
 refine rt ?_
 cases h
 exact ⟨.inr rfl,Nat.le_of_ble_eq_true rfl,by kernel_rfl⟩
theorem uU (n_1:Int) (r:Bool) (h:pU n_1=some r):zW prog 79 [] [] [Ii n_1] [] (.bool r):=by
 refine yA (fn:=Go.Proofs.Try.f79) (code:=xC Go.Proofs.Try.f79) (by kernel_rfl) (by kernel_rfl) (Nat.le_of_ble_eq_true (by kernel_rfl)) ?_
 unfold pU at h
 refine sr [] [0] [] 0 [Ii n_1] [] zG an ?_
 refine sq ?_
 refine y9 (mk [(2,.bool (decide (n_1≥(0:Int))&&decide (n_1≤(1000000000000:Int))))] [] 0) ?_ ?_
 ·rcases bft (decide (n_1≥(0:Int))) with zH | zH
  ·refine rg [(5,Ht)] [2] [] 0 [.bool (decide (n_1≤(1000000000000:Int)))] [] zG (ac zH (ac zH (ac zH an))) ?_
   exact ⟨rfl,(sw [] [] [.a 2 (.bool (decide (n_1≥(0:Int))&&decide (n_1≤(1000000000000:Int))))] [] (ac (congrArg AV.bool (uP zH rfl):(.bool (decide (n_1≤(1000000000000:Int))):AV)=.bool (decide (n_1≥(0:Int))&&decide (n_1≤(1000000000000:Int)))) an))⟩
  ·refine rg [(3,Hg),(4,Hg),(5,Hf)] [2] [] 0 [.bool false] [] zG (ac zH (ac zH (ac zH an))) ?_
   exact ⟨rfl,(sw [] [] [.a 2 (.bool (decide (n_1≥(0:Int))&&decide (n_1≤(1000000000000:Int))))] [] (ac (congrArg AV.bool (j7 zH):(.bool false:AV)=.bool (decide (n_1≥(0:Int))&&decide (n_1≤(1000000000000:Int)))) an))⟩
 refine rt ?_
 cases h
 exact ⟨.inr rfl,Nat.le_of_ble_eq_true rfl,by kernel_rfl⟩
theorem zKF (F:Nat) (d_1:List (zS)) (x_1:xM) (r:Int) (h:zCx F d_1 x_1=some r):zW prog 70 [] [] [.sl false 2 (Mp zC d_1),zJ x_1] [] (Ii r):=by
 refine yA (fn:=Go.Proofs.Try.f70) (code:=xC Go.Proofs.Try.f70) (by kernel_rfl) (by kernel_rfl) (Nat.le_of_ble_eq_true (by kernel_rfl)) ?_
 unfold zCx at h
 refine sr [(0,{ id:=0 })] [0,3] [0] 1 [.sl false 2 (Mp zC d_1),Pp 0] [Vb 86 (w9 x_1)] zG an ?_
 refine sq ?_
 refine yC (id:=0) (by kernel_rfl) ?_
 refine sq ?_
 obtain ⟨p_1,h_3,h⟩:=bind_some h
 refine y9 (mk [(3,Pp 0),(5,.bool p_1)] [(0,Vb 86 (w9 x_1))] 1) ?_ ?_
 ·replace h:=h_3
  obtain ⟨r_1,h_1,h⟩:=bind_some h
  rcases bft (decide (r_1<(0:Int))) with zH | zH
  ·replace h:=zP zH h
   refine rg [(3,{ av:=Ii r_1,l:=[.sl false 2 (Mp zC d_1),Ii x_1.A] }),(6,Hg),(7,Hg),(8,Hg),(9,Hg),(10,Hg),(11,Ht)] [3,5] [0] 1 [Pp 0,.bool true] [Vb 86 (w9 x_1)] zG (ar ([.sl false 2 (Mp zC d_1),Ii x_1.A]:List AV) (ac (rfl:([]:List zT)=[]) (ac (zAo F d_1 x_1.A r_1 h_1:zW prog 69 [] [] [.sl false 2 (Mp zC d_1),Ii x_1.A] [] (Ii r_1)) (ac zH (ac zH (ac zH (ac zH (ac zH (ac zH an))))))))) ?_
   cases h
   exact ⟨rfl,(sw [0] [] [.s 3,.s 5] [.s 0] an)⟩
  ·replace h:=zO zH h
   obtain ⟨r_2,h_2,h⟩:=bind_some h
   refine rg [(3,{ av:=Ii r_1,l:=[.sl false 2 (Mp zC d_1),Ii x_1.A] }),(9,{ av:=Ii r_2,l:=[.sl false 2 (Mp zC d_1),Ii x_1.B] }),(11,Hf)] [3,5] [0] 1 [Pp 0,.bool (decide (r_2<(0:Int)))] [Vb 86 (w9 x_1)] zG (ar ([.sl false 2 (Mp zC d_1),Ii x_1.A]:List AV) (ac (rfl:([]:List zT)=[]) (ac (zAo F d_1 x_1.A r_1 h_1:zW prog 69 [] [] [.sl false 2 (Mp zC d_1),Ii x_1.A] [] (Ii r_1)) (ac zH (ac zH (ac zH (ac zH (ar ([.sl false 2 (Mp zC d_1),Ii x_1.B]:List AV) (ac (rfl:([]:List zT)=[]) (ac (zAo F d_1 x_1.B r_2 h_2:zW prog 69 [] [] [.sl false 2 (Mp zC d_1),Ii x_1.B] [] (Ii r_2)) (ac zH (ac zH an)))))))))))) ?_
   cases h
   exact ⟨rfl,(sw [0] [] [.s 3,.s 5] [.s 0] an)⟩
 refine cd 5 p_1 ?_ ?_
 ·intro g_1;replace h:=zP g_1 h
  refine sr [] [4] [] 1 [Ii 5] [] zG an ?_
  refine rt ?_
  cases h
  exact ⟨.inr rfl,Nat.le_of_ble_eq_true rfl,by kernel_rfl⟩
 intro g_1;replace h:=zO g_1 h
 refine sr [] [3,18] [0] 1 [Pp 0,.bool (x_1.A==x_1.B)] [Vb 86 (w9 x_1)] zG an ?_
 refine cd 18 (x_1.A==x_1.B) ?_ ?_
 ·intro g_2;replace h:=zP g_2 h
  refine sr [] [4] [] 1 [Ii 1] [] zG an ?_
  refine rt ?_
  cases h
  exact ⟨.inr rfl,Nat.le_of_ble_eq_true rfl,by kernel_rfl⟩
 intro g_2;replace h:=zO g_2 h
 refine sq ?_
 obtain ⟨p_2,h_7,h⟩:=bind_some h
 refine y9 (mk [(24,.bool p_2)] [] 0) ?_ ?_
 ·replace h:=h_7
  obtain ⟨r_3,h_4,h⟩:=bind_some h
  rcases bft (!r_3) with zI | zI
  ·replace h:=zP zI h
   refine rg [(2,{ av:=.bool r_3,l:=[Ii x_1.AtA] }),(5,Hg),(6,Hg),(7,Hg),(8,Hg),(9,Hg),(10,Ht),(12,Hg),(13,Hg),(14,Hg),(15,Hg),(16,Hg),(17,Ht),(19,Hg),(20,Hg),(21,Hg),(22,Hg),(23,Hg),(24,Hg),(25,Hg),(26,Ht)] [24] [] 1 [.bool true] [] zG (ar ([Ii x_1.AtA]:List AV) (ac (rfl:([]:List zT)=[]) (ac (uU x_1.AtA r_3 h_4:zW prog 79 [] [] [Ii x_1.AtA] [] (.bool r_3)) (ac zI (ac zI (ac zI (ac zI (ac zI (ac zI (ax (ax (ax (ax (ax (ar true (ax (ax (ax (ax (ax (ax (ax (ar true an))))))))))))))))))))))) ?_
   cases h
   exact ⟨rfl,(sw [] [] [.s 24] [] an)⟩
  ·replace h:=zO zI h
   obtain ⟨r_4,h_5,h⟩:=bind_some h
   rcases bft (!r_4) with zN | zN
   ·replace h:=zP zN h
    refine rg [(2,{ av:=.bool r_3,l:=[Ii x_1.AtA] }),(8,{ av:=.bool r_4,l:=[Ii x_1.AtB.Lo] }),(10,Hf),(12,Hg),(13,Hg),(14,Hg),(15,Hg),(16,Hg),(17,Ht),(19,Hg),(20,Hg),(21,Hg),(22,Hg),(23,Hg),(24,Hg),(25,Hg),(26,Ht)] [24] [] 1 [.bool true] [] zG (ar ([Ii x_1.AtA]:List AV) (ac (rfl:([]:List zT)=[]) (ac (uU x_1.AtA r_3 h_4:zW prog 79 [] [] [Ii x_1.AtA] [] (.bool r_3)) (ac zI (ac zI (ac zI (ac zI (ar ([Ii x_1.AtB.Lo]:List AV) (ac (rfl:([]:List zT)=[]) (ac (uU x_1.AtB.Lo r_4 h_5:zW prog 79 [] [] [Ii x_1.AtB.Lo] [] (.bool r_4)) (ac zI (ac zI (ac zN (ac zN (ac zN (ac zN (ac zN (ac zN (ax (ax (ax (ax (ax (ax (ax (ar true an)))))))))))))))))))))))))) ?_
    cases h
    exact ⟨rfl,(sw [] [] [.s 24] [] an)⟩
   ·replace h:=zO zN h
    obtain ⟨r_5,h_6,h⟩:=bind_some h
    rcases bft (!r_5) with zV | zV
    ·replace h:=zP zV h
     refine rg [(2,{ av:=.bool r_3,l:=[Ii x_1.AtA] }),(8,{ av:=.bool r_4,l:=[Ii x_1.AtB.Lo] }),(10,Hf),(15,{ av:=.bool r_5,l:=[Ii x_1.AtB.Hi] }),(17,Hf),(19,Hg),(20,Hg),(21,Hg),(22,Hg),(23,Hg),(24,Hg),(25,Hg),(26,Ht)] [24] [] 1 [.bool true] [] zG (ar ([Ii x_1.AtA]:List AV) (ac (rfl:([]:List zT)=[]) (ac (uU x_1.AtA r_3 h_4:zW prog 79 [] [] [Ii x_1.AtA] [] (.bool r_3)) (ac zI (ac zI (ac zI (ac zI (ar ([Ii x_1.AtB.Lo]:List AV) (ac (rfl:([]:List zT)=[]) (ac (uU x_1.AtB.Lo r_4 h_5:zW prog 79 [] [] [Ii x_1.AtB.Lo] [] (.bool r_4)) (ac zI (ac zI (ac zN (ac zN (ac zN (ac zN (ar ([Ii x_1.AtB.Hi]:List AV) (ac (rfl:([]:List zT)=[]) (ac (uU x_1.AtB.Hi r_5 h_6:zW prog 79 [] [] [Ii x_1.AtB.Hi] [] (.bool r_5)) (ac zN (ac zN (ac zV (ac zV (ac zV (ac zV (ac zV (ac zV (ac zV (ac zV an))))))))))))))))))))))))))))) ?_
     cases h
     exact ⟨rfl,(sw [] [] [.s 24] [] an)⟩
    ·replace h:=zO zV h
     refine rg [(2,{ av:=.bool r_3,l:=[Ii x_1.AtA] }),(8,{ av:=.bool r_4,l:=[Ii x_1.AtB.Lo] }),(10,Hf),(15,{ av:=.bool r_5,l:=[Ii x_1.AtB.Hi] }),(17,Hf),(26,Hf)] [24] [] 1 [.bool (decide (x_1.AtB.Lo>x_1.AtB.Hi))] [] zG (ar ([Ii x_1.AtA]:List AV) (ac (rfl:([]:List zT)=[]) (ac (uU x_1.AtA r_3 h_4:zW prog 79 [] [] [Ii x_1.AtA] [] (.bool r_3)) (ac zI (ac zI (ac zI (ac zI (ar ([Ii x_1.AtB.Lo]:List AV) (ac (rfl:([]:List zT)=[]) (ac (uU x_1.AtB.Lo r_4 h_5:zW prog 79 [] [] [Ii x_1.AtB.Lo] [] (.bool r_4)) (ac zI (ac zI (ac zN (ac zN (ac zN (ac zN (ar ([Ii x_1.AtB.Hi]:List AV) (ac (rfl:([]:List zT)=[]) (ac (uU x_1.AtB.Hi r_5 h_6:zW prog 79 [] [] [Ii x_1.AtB.Hi] [] (.bool r_5)) (ac zN (ac zN (ac zV (ac zV (ac zV (ac zV (ac zV (ac zV (ac zV (ac zV an))))))))))))))))))))))))))))) ?_
     cases h
     exact ⟨rfl,(sw [] [] [.s 24] [] an)⟩
 refine cd 24 p_2 ?_ ?_
 ·intro g_3;replace h:=zP g_3 h
  refine sr [] [4] [] 0 [Ii 2] [] zG an ?_
  refine rt ?_
  cases h
  exact ⟨.inr rfl,Nat.le_of_ble_eq_true rfl,by kernel_rfl⟩
 intro g_3;replace h:=zO g_3 h
 refine sk ?_
 refine sr [] [4] [] 0 [Ii 0] [] zG an ?_
 refine rt ?_
 cases h
 exact ⟨.inr rfl,Nat.le_of_ble_eq_true rfl,by kernel_rfl⟩
theorem zCF (F:Nat) (d_1:List (zS)) (l_1:List (xM)) (r:Int) (h:zAT F d_1 l_1=some r):zW prog 54 [] [] [.sl false 2 (Mp zC d_1),.sl false 5 (Mp zJ l_1)] [] (Ii r):=by
 refine yA (fn:=Go.Proofs.Try.f54) (code:=xC Go.Proofs.Try.f54) (by kernel_rfl) (by kernel_rfl) (Nat.le_of_ble_eq_true (by kernel_rfl)) ?_
 unfold zAT at h
 refine sr [] [0,1] [] 0 [.sl false 2 (Mp zC d_1),.sl false 5 (Mp zJ l_1)] [] zG an ?_
 refine sq ?_
 refine yC (id:=0) (by kernel_rfl) ?_
 refine sr [(1,{ n:=(d_1).length })] [0,1,8] [] 0 [.sl false 2 (Mp zC d_1),.sl false 5 (Mp zJ l_1),.bool ((lN (d_1))==(0:Int))] [] zG (ac (z9 _:((Mp zC d_1)).length=(d_1).length) an) ?_
 refine cd 8 ((lN (d_1))==(0:Int)) ?_ ?_
 ·intro g_1;replace h:=zP g_1 h
  refine sr [] [4] [] 0 [Ii 8] [] zG an ?_
  refine rt ?_
  cases h
  exact ⟨.inr rfl,Nat.le_of_ble_eq_true rfl,by kernel_rfl⟩
 intro g_1;replace h:=zO g_1 h
 refine sq ?_
 refine y9 (mk [(0,.sl false 2 (Mp zC d_1)),(1,.sl false 5 (Mp zJ l_1)),(12,.bool (decide ((lN (d_1))>(8:Int))||decide ((lN (l_1))>(200:Int))))] [] 0) ?_ ?_
 ·rcases bft (decide ((lN (d_1))>(8:Int))) with zH | zH
  ·refine rg [(1,{ n:=(d_1).length }),(4,Hg),(5,Hg),(6,Hg),(7,Ht)] [0,1,12] [] 0 [.sl false 2 (Mp zC d_1),.sl false 5 (Mp zJ l_1),.bool true] [] zG (ac (z9 _:((Mp zC d_1)).length=(d_1).length) (ac zH (ac zH (ac zH (ac zH an))))) ?_
   exact ⟨rfl,(sw [] [] [.s 0,.s 1,.a 12 (.bool (decide ((lN (d_1))>(8:Int))||decide ((lN (l_1))>(200:Int))))] [] (ac (congrArg AV.bool (ort zH):(.bool true:AV)=.bool (decide ((lN (d_1))>(8:Int))||decide ((lN (l_1))>(200:Int)))) an))⟩
  ·refine rg [(1,{ n:=(d_1).length }),(5,{ n:=(l_1).length }),(7,Hf)] [0,1,12] [] 0 [.sl false 2 (Mp zC d_1),.sl false 5 (Mp zJ l_1),.bool (decide ((lN (l_1))>(200:Int)))] [] zG (ac (z9 _:((Mp zC d_1)).length=(d_1).length) (ac zH (ac zH (ac (z9 _:((Mp zJ l_1)).length=(l_1).length) (ac zH (ac zH an)))))) ?_
   exact ⟨rfl,(sw [] [] [.s 0,.s 1,.a 12 (.bool (decide ((lN (d_1))>(8:Int))||decide ((lN (l_1))>(200:Int))))] [] (ac (congrArg AV.bool (orf zH rfl):(.bool (decide ((lN (l_1))>(200:Int))):AV)=.bool (decide ((lN (d_1))>(8:Int))||decide ((lN (l_1))>(200:Int)))) an))⟩
 refine cd 12 (decide ((lN (d_1))>(8:Int))||decide ((lN (l_1))>(200:Int))) ?_ ?_
 ·intro g_2;replace h:=zP g_2 h
  refine sr [] [4] [] 0 [Ii 7] [] zG an ?_
  refine rt ?_
  cases h
  exact ⟨.inr rfl,Nat.le_of_ble_eq_true rfl,by kernel_rfl⟩
 intro g_2;replace h:=zO g_2 h
 refine sq ?_
 obtain ⟨p_1,h_3,h⟩:=bind_some h
 refine y9 (mk [(0,.sl false 2 (Mp zC d_1)),(1,.sl false 5 (Mp zJ l_1)),(21,.bool p_1)] [] 0) ?_ ?_
 ·replace h:=h_3
  obtain ⟨x_1,h_1,h⟩:=bind_some h
  rcases bft (x_1.Id != (0:Int)) with zI | zI
  ·replace h:=zP zI h
   refine rg [(1,{ av:=zC x_1 }),(6,Hg),(7,Hg),(8,Hg),(9,Hg),(10,Hg),(11,Ht)] [0,1,21] [] 0 [.sl false 2 (Mp zC d_1),.sl false 5 (Mp zJ l_1),.bool true] [] zG (ac (yP h_1:xG (Mp zC d_1) (0:Int)=some (zC x_1)) (ac zI (ac zI (ac zI (ac zI (ac zI (ac zI an))))))) ?_
   cases h
   exact ⟨rfl,(sw [] [] [.s 0,.s 1,.s 21] [] an)⟩
  ·replace h:=zO zI h
   obtain ⟨x_2,h_2,h⟩:=bind_some h
   refine rg [(1,{ av:=zC x_1 }),(7,{ av:=zC x_2 }),(11,Hf)] [0,1,21] [] 0 [.sl false 2 (Mp zC d_1),.sl false 5 (Mp zJ l_1),.bool (x_2.Ppm != (0:Int))] [] zG (ac (yP h_1:xG (Mp zC d_1) (0:Int)=some (zC x_1)) (ac zI (ac zI (ac (yP h_2:xG (Mp zC d_1) (0:Int)=some (zC x_2)) (ac zI (ac zI (ac zI (ac zI an)))))))) ?_
   cases h
   exact ⟨rfl,(sw [] [] [.s 0,.s 1,.s 21] [] an)⟩
 refine cd 21 p_1 ?_ ?_
 ·intro g_3;replace h:=zP g_3 h
  refine sr [] [4] [] 0 [Ii 10] [] zG an ?_
  refine rt ?_
  cases h
  exact ⟨.inr rfl,Nat.le_of_ble_eq_true rfl,by kernel_rfl⟩
 intro g_3;replace h:=zO g_3 h
 refine sk ?_
 refine sq ?_
 refine sr [] [0,1,5] [] 0 [.sl false 2 (Mp zC d_1),.sl false 5 (Mp zJ l_1),Ii 0] [] zG an ?_
 obtain ⟨o_1,h_4,h⟩:=bind_some h
 refine wK (K1:=(fun e st'=>match o_1 with | (.inl q0)=>e=.normal∧Sub 0 st' (mk [(0,.sl false 2 (Mp zC d_1)),(1,.sl false 5 (Mp zJ l_1))] [] 0) | (.inr q1)=>e=.ret∧uF prog Go.Proofs.Try.f54 0 [] (Ii q1) st')) ?_ ?_
 ·replace h:=h_4
  refine yC (id:=1) (by kernel_rfl) ?_
  refine wk [] [] [.s 0,.s 1,.s 5] [] [(0,.sl false 2 (Mp zC d_1)),(1,.sl false 5 (Mp zJ l_1)),(5,Ii 0)] [] an ?_
  refine xH (fun n st=>∃ (i_1:Int),st=mk [(0,.sl false 2 (Mp zC d_1)),(1,.sl false 5 (Mp zJ l_1)),(5,Ii i_1)] [] 0∧nB F d_1 n i_1=some o_1) F (by kernel_rfl) ⟨_,rfl,h⟩ ?_ ?_
  ·rintro _ ⟨_,_,h⟩;exact xX (h:(none:Option (Unit⊕Int))=some o_1)
  rintro n_1 _ ⟨i_1,rfl,h⟩
  replace h:u6 F d_1 (nB F d_1 n_1) i_1=some o_1:=h
  unfold u6 at h
  refine sq ?_
  refine sr [(2,{ n:=(d_1).length })] [0,1,5,37] [] 0 [.sl false 2 (Mp zC d_1),.sl false 5 (Mp zJ l_1),Ii i_1,.bool (decide (i_1<(lN (d_1))))] [] zG (ac (z9 _:((Mp zC d_1)).length=(d_1).length) an) ?_
  refine cd 37 (decide (i_1<(lN (d_1)))) ?_ ?_
  rotate_left
  ·intro g_4;replace h:=zO g_4 h
   refine xS (id:=1) (by kernel_rfl) ?_
   cases h
   exact ⟨rfl,(sw [] [] [.s 0,.s 1] [] an)⟩
  intro g_4;replace h:=zP g_4 h
  refine sk ?_
  refine sq ?_
  refine yC (id:=2) (by kernel_rfl) ?_
  refine sq ?_
  refine sq ?_
  obtain ⟨p_2,h_9,h⟩:=bind_some h
  refine y9 (mk [(0,.sl false 2 (Mp zC d_1)),(1,.sl false 5 (Mp zJ l_1)),(5,Ii i_1),(69,.bool p_2)] [] 0) ?_ ?_
  ·replace h:=h_9
   obtain ⟨x_3,h_5,h⟩:=bind_some h
   rcases bft (decide (x_3.Id<(0:Int))) with y2 | y2
   ·replace h:=zP y2 h
    refine rg [(2,{ av:=zC x_3 }),(7,Hg),(8,Hg),(9,Hg),(10,Hg),(11,Hg),(12,Hg),(13,Ht),(15,Hg),(16,Hg),(17,Hg),(18,Hg),(19,Hg),(20,Hg),(21,Ht),(23,Hg),(24,Hg),(25,Hg),(26,Hg),(27,Hg),(28,Hg),(29,Ht)] [0,1,5,47,48,49,50,51,52,55,56,57,58,59,60,63,64,65,66,67,68,69] [] 0 [.sl false 2 (Mp zC d_1),.sl false 5 (Mp zJ l_1),Ii i_1,.tuple [],.tuple [],.tuple [],.tuple [],.tuple [],.tuple [],.tuple [],.tuple [],.tuple [],.tuple [],.tuple [],.tuple [],.tuple [],.tuple [],.tuple [],.tuple [],.tuple [],.tuple [],.bool true] [] zG (ac (yP h_5:xG (Mp zC d_1) i_1=some (zC x_3)) (ac y2 (ac y2 (ac y2 (ac y2 (ac y2 (ac y2 (ac y2 (ax (ax (ax (ax (ax (ax (ar true (ax (ax (ax (ax (ax (ax (ar true an)))))))))))))))))))))) ?_
    cases h
    exact ⟨rfl,(sw [] [] [.s 0,.s 1,.s 5,.s 69] [] an)⟩
   ·replace h:=zO y2 h
    obtain ⟨x_4,h_6,h⟩:=bind_some h
    rcases bft (decide (x_4.Id≥(8:Int))) with x5 | x5
    ·replace h:=zP x5 h
     refine rg [(2,{ av:=zC x_3 }),(9,{ av:=zC x_4 }),(13,Hf),(15,Hg),(16,Hg),(17,Hg),(18,Hg),(19,Hg),(20,Hg),(21,Ht),(23,Hg),(24,Hg),(25,Hg),(26,Hg),(27,Hg),(28,Hg),(29,Ht)] [0,1,5,47,48,49,50,51,52,55,56,57,58,59,60,63,64,65,66,67,68,69] [] 0 [.sl false 2 (Mp zC d_1),.sl false 5 (Mp zJ l_1),Ii i_1,.sl false 2 (Mp zC d_1),Ii i_1,.ref (zC x_4),.ref (Ii x_4.Id),Ii x_4.Id,.bool (decide (x_4.Id≥(8:Int))),.tuple [],.tuple [],.tuple [],.tuple [],.tuple [],.tuple [],.tuple [],.tuple [],.tuple [],.tuple [],.tuple [],.tuple [],.bool true] [] zG (ac (yP h_5:xG (Mp zC d_1) i_1=some (zC x_3)) (ac y2 (ac y2 (ac y2 (ac (yP h_6:xG (Mp zC d_1) i_1=some (zC x_4)) (ac y2 (ac y2 (ac y2 (ac y2 (ac x5 (ac x5 (ac x5 (ac x5 (ac x5 (ac x5 (ac x5 (ax (ax (ax (ax (ax (ax (ar true an))))))))))))))))))))))) ?_
     cases h
     exact ⟨rfl,(sw [] [] [.s 0,.s 1,.s 5,.s 69] [] an)⟩
    ·replace h:=zO x5 h
     obtain ⟨x_5,h_7,h⟩:=bind_some h
     rcases bft (decide (x_5.Ppm<(0:Int))) with wC | wC
     ·replace h:=zP wC h
      refine rg [(2,{ av:=zC x_3 }),(9,{ av:=zC x_4 }),(13,Hf),(17,{ av:=zC x_5 }),(21,Hf),(23,Hg),(24,Hg),(25,Hg),(26,Hg),(27,Hg),(28,Hg),(29,Ht)] [0,1,5,47,48,49,50,51,52,55,56,57,58,59,60,63,64,65,66,67,68,69] [] 0 [.sl false 2 (Mp zC d_1),.sl false 5 (Mp zJ l_1),Ii i_1,.sl false 2 (Mp zC d_1),Ii i_1,.ref (zC x_4),.ref (Ii x_4.Id),Ii x_4.Id,.bool (decide (x_4.Id≥(8:Int))),.sl false 2 (Mp zC d_1),Ii i_1,.ref (zC x_5),.ref (Ii x_5.Ppm),Ii x_5.Ppm,.bool (decide (x_5.Ppm<(0:Int))),.tuple [],.tuple [],.tuple [],.tuple [],.tuple [],.tuple [],.bool true] [] zG (ac (yP h_5:xG (Mp zC d_1) i_1=some (zC x_3)) (ac y2 (ac y2 (ac y2 (ac (yP h_6:xG (Mp zC d_1) i_1=some (zC x_4)) (ac y2 (ac y2 (ac y2 (ac y2 (ac x5 (ac x5 (ac x5 (ac (yP h_7:xG (Mp zC d_1) i_1=some (zC x_5)) (ac x5 (ac x5 (ac x5 (ac x5 (ac wC (ac wC (ac wC (ac wC (ac wC (ac wC (ac wC an)))))))))))))))))))))))) ?_
      cases h
      exact ⟨rfl,(sw [] [] [.s 0,.s 1,.s 5,.s 69] [] an)⟩
     ·replace h:=zO wC h
      obtain ⟨x_6,h_8,h⟩:=bind_some h
      refine rg [(2,{ av:=zC x_3 }),(9,{ av:=zC x_4 }),(13,Hf),(17,{ av:=zC x_5 }),(21,Hf),(25,{ av:=zC x_6 }),(29,Hf)] [0,1,5,47,48,49,50,51,52,55,56,57,58,59,60,63,64,65,66,67,68,69] [] 0 [.sl false 2 (Mp zC d_1),.sl false 5 (Mp zJ l_1),Ii i_1,.sl false 2 (Mp zC d_1),Ii i_1,.ref (zC x_4),.ref (Ii x_4.Id),Ii x_4.Id,.bool (decide (x_4.Id≥(8:Int))),.sl false 2 (Mp zC d_1),Ii i_1,.ref (zC x_5),.ref (Ii x_5.Ppm),Ii x_5.Ppm,.bool (decide (x_5.Ppm<(0:Int))),.sl false 2 (Mp zC d_1),Ii i_1,.ref (zC x_6),.ref (Ii x_6.Ppm),Ii x_6.Ppm,.bool (decide (x_6.Ppm>(10000:Int))),.bool (decide (x_6.Ppm>(10000:Int)))] [] zG (ac (yP h_5:xG (Mp zC d_1) i_1=some (zC x_3)) (ac y2 (ac y2 (ac y2 (ac (yP h_6:xG (Mp zC d_1) i_1=some (zC x_4)) (ac y2 (ac y2 (ac y2 (ac y2 (ac x5 (ac x5 (ac x5 (ac (yP h_7:xG (Mp zC d_1) i_1=some (zC x_5)) (ac x5 (ac x5 (ac x5 (ac x5 (ac wC (ac wC (ac wC (ac (yP h_8:xG (Mp zC d_1) i_1=some (zC x_6)) (ac wC (ac wC (ac wC (ac wC an))))))))))))))))))))))))) ?_
      cases h
      exact ⟨rfl,(sw [] [] [.s 0,.s 1,.s 5,.s 69] [] an)⟩
  refine cd 69 p_2 ?_ ?_
  ·intro g_5;replace h:=zP g_5 h
   refine sr [] [4] [] 0 [Ii 2] [] zG an ?_
   refine rt ?_
   cases h
   exact ⟨rfl,Nat.le_of_ble_eq_true rfl,by kernel_rfl⟩
  intro g_5;replace h:=zO g_5 h
  refine sk ?_
  refine sq ?_
  obtain ⟨x_7,tW,h⟩:=bind_some h
  obtain ⟨r_1,tX,h⟩:=bind_some h
  refine rg [(3,{ av:=zC x_7 }),(6,{ av:=Ii r_1,l:=[.sl false 2 (Mp zC d_1),Ii x_7.Id] })] [0,1,5,78] [] 0 [.sl false 2 (Mp zC d_1),.sl false 5 (Mp zJ l_1),Ii i_1,.bool (decide (r_1<i_1))] [] zG (ac (yP tW:xG (Mp zC d_1) i_1=some (zC x_7)) (ar ([.sl false 2 (Mp zC d_1),Ii x_7.Id]:List AV) (ac (rfl:([]:List zT)=[]) (ac (zAo F d_1 x_7.Id r_1 tX:zW prog 69 [] [] [.sl false 2 (Mp zC d_1),Ii x_7.Id] [] (Ii r_1)) an)))) ?_
  refine cd 78 (decide (r_1<i_1)) ?_ ?_
  rotate_left
  ·intro g_6;replace h:=zO g_6 h
   refine sk ?_
   refine rg [] [0,1,5] [] 0 [.sl false 2 (Mp zC d_1),.sl false 5 (Mp zJ l_1),Ii (zR (i_1+(1:Int)))] [] zG an ?_
   exact ⟨_,(sw [] [] [.s 0,.s 1,.s 5] [] an),_,rfl,h⟩
  intro g_6;replace h:=zP g_6 h
  refine sr [] [4] [] 0 [Ii 4] [] zG an ?_
  refine rt ?_
  cases h
  exact ⟨rfl,Nat.le_of_ble_eq_true rfl,by kernel_rfl⟩
 intro e st1 hk
 rcases o_1 with q_1 | q_2
 rotate_left
 ·obtain ⟨rfl,hf⟩:=hk
  cases h
  exact ⟨st1,Sub.refl _ _,.inr rfl,hf⟩
 obtain ⟨rfl,hs⟩:=hk
 refine ⟨_,hs,?_⟩
 refine sq ?_
 refine sr [] [0,1,6] [] 0 [.sl false 2 (Mp zC d_1),.sl false 5 (Mp zJ l_1),Ii 0] [] zG an ?_
 obtain ⟨o_2,zCQ,h⟩:=bind_some h
 refine wK (K1:=(fun e st'=>match o_2 with | (.inl q0)=>e=.normal∧Sub 0 st' (mk [] [] 0) | (.inr q1)=>e=.ret∧uF prog Go.Proofs.Try.f54 0 [] (Ii q1) st')) ?_ ?_
 ·replace h:=zCQ
  refine yC (id:=3) (by kernel_rfl) ?_
  refine wk [] [] [.s 0,.s 1,.s 6] [] [(0,.sl false 2 (Mp zC d_1)),(1,.sl false 5 (Mp zJ l_1)),(6,Ii 0)] [] an ?_
  refine xH (fun n st=>∃ (i_2:Int),st=mk [(0,.sl false 2 (Mp zC d_1)),(1,.sl false 5 (Mp zJ l_1)),(6,Ii i_2)] [] 0∧nF F d_1 l_1 n i_2=some o_2) F (by kernel_rfl) ⟨_,rfl,h⟩ ?_ ?_
  ·rintro _ ⟨_,_,h⟩;exact xX (h:(none:Option (Unit⊕Int))=some o_2)
  rintro n_2 _ ⟨i_2,rfl,h⟩
  replace h:u4 F d_1 l_1 (nF F d_1 l_1 n_2) i_2=some o_2:=h
  unfold u4 at h
  refine sq ?_
  refine sr [(2,{ n:=(l_1).length })] [0,1,6,82] [] 0 [.sl false 2 (Mp zC d_1),.sl false 5 (Mp zJ l_1),Ii i_2,.bool (decide (i_2<(lN (l_1))))] [] zG (ac (z9 _:((Mp zJ l_1)).length=(l_1).length) an) ?_
  refine cd 82 (decide (i_2<(lN (l_1)))) ?_ ?_
  rotate_left
  ·intro g_7;replace h:=zO g_7 h
   refine xS (id:=3) (by kernel_rfl) ?_
   cases h
   exact ⟨rfl,(sw [] [] [] [] an)⟩
  intro g_7;replace h:=zP g_7 h
  refine sk ?_
  refine sq ?_
  refine yC (id:=4) (by kernel_rfl) ?_
  refine sq ?_
  obtain ⟨x_8,zGh,h⟩:=bind_some h
  obtain ⟨r_2,zGi,h⟩:=bind_some h
  refine rg [(3,{ av:=zJ x_8 }),(5,{ av:=Ii r_2,l:=[.sl false 2 (Mp zC d_1),zJ x_8] })] [0,1,6,7] [] 0 [.sl false 2 (Mp zC d_1),.sl false 5 (Mp zJ l_1),Ii i_2,Ii r_2] [] zG (ac (yP zGh:xG (Mp zJ l_1) i_2=some (zJ x_8)) (ar ([.sl false 2 (Mp zC d_1),zJ x_8]:List AV) (ac (rfl:([]:List zT)=[]) (ac (zKF F d_1 x_8 r_2 zGi:zW prog 70 [] [] [.sl false 2 (Mp zC d_1),zJ x_8] [] (Ii r_2)) an)))) ?_
  refine sr [] [0,1,6,7,92] [] 0 [.sl false 2 (Mp zC d_1),.sl false 5 (Mp zJ l_1),Ii i_2,Ii r_2,.bool (r_2 != (0:Int))] [] zG an ?_
  refine cd 92 (r_2 != (0:Int)) ?_ ?_
  rotate_left
  ·intro g_8;replace h:=zO g_8 h
   refine sk ?_
   refine rg [] [0,1,6] [] 0 [.sl false 2 (Mp zC d_1),.sl false 5 (Mp zJ l_1),Ii (zR (i_2+(1:Int)))] [] zG an ?_
   exact ⟨_,(sw [] [] [.s 0,.s 1,.s 6] [] an),_,rfl,h⟩
  intro g_8;replace h:=zP g_8 h
  refine sr [] [4] [] 0 [Ii r_2] [] zG an ?_
  refine rt ?_
  cases h
  exact ⟨rfl,Nat.le_of_ble_eq_true rfl,by kernel_rfl⟩
 intro e st1 hk
 rcases o_2 with q_3 | q_4
 rotate_left
 ·obtain ⟨rfl,hf⟩:=hk
  cases h
  exact ⟨st1,Sub.refl _ _,.inr rfl,hf⟩
 obtain ⟨rfl,hs⟩:=hk
 refine ⟨_,hs,?_⟩
 refine sr [] [4] [] 0 [Ii 0] [] zG an ?_
 refine rt ?_
 cases h
 exact ⟨.inr rfl,Nat.le_of_ble_eq_true rfl,by kernel_rfl⟩
theorem zLA (F:Nat) (d_1:List (zS)) (xE:Int) (r:Int×Bool) (h:zDr F d_1 xE=some r):zW prog 55 [] [] [.sl false 2 (Mp zC d_1),Ii xE] [] (.tuple [Ii r.1,.bool r.2]):=by
 refine yA (fn:=Go.Proofs.Try.f55) (code:=xC Go.Proofs.Try.f55) (by kernel_rfl) (by kernel_rfl) (Nat.le_of_ble_eq_true (by kernel_rfl)) ?_
 unfold zDr at h
 refine sr [] [0,1] [] 0 [.sl false 2 (Mp zC d_1),Ii xE] [] zG an ?_
 refine sq ?_
 obtain ⟨r_1,h_1,h⟩:=bind_some h
 refine rg [(2,{ av:=Ii r_1,l:=[.sl false 2 (Mp zC d_1),Ii xE] })] [0,6] [] 0 [.sl false 2 (Mp zC d_1),Ii r_1] [] zG (ar ([.sl false 2 (Mp zC d_1),Ii xE]:List AV) (ac (rfl:([]:List zT)=[]) (ac (zAo F d_1 xE r_1 h_1:zW prog 69 [] [] [.sl false 2 (Mp zC d_1),Ii xE] [] (Ii r_1)) an))) ?_
 refine sq ?_
 refine sq ?_
 obtain ⟨p_1,h_3,h⟩:=bind_some h
 refine y9 (mk [(0,.sl false 2 (Mp zC d_1)),(6,Ii r_1),(16,.bool p_1)] [] 0) ?_ ?_
 ·replace h:=h_3
  obtain ⟨r_2,h_2,h⟩:=bind_some h
  rcases bft (r_2 != (0:Int)) with zH | zH
  ·replace h:=zP zH h
   refine rg [(1,{ av:=Ii r_2,l:=[.sl false 2 (Mp zC d_1),.nilsl] }),(4,Hg),(5,Hg),(6,Ht)] [0,6,16] [] 0 [.sl false 2 (Mp zC d_1),Ii r_1,.bool true] [] zG (ar ([.sl false 2 (Mp zC d_1),.nilsl]:List AV) (ac (rfl:([]:List zT)=[]) (ac (zAM (args':=[.sl false 2 (Mp zC d_1),.sl false 5 []]) (zCF F d_1 [] r_2 h_2) rfl ⟨rfl,rfl,rfl,rfl,trivial⟩:zW prog 54 [] [] [.sl false 2 (Mp zC d_1),.nilsl] [] (Ii r_2)) (ac zH (ac zH (ac zH an)))))) ?_
   cases h
   exact ⟨rfl,(sw [] [] [.s 0,.s 6,.s 16] [] an)⟩
  ·replace h:=zO zH h
   refine rg [(1,{ av:=Ii r_2,l:=[.sl false 2 (Mp zC d_1),.nilsl] }),(6,Hf)] [0,6,16] [] 0 [.sl false 2 (Mp zC d_1),Ii r_1,.bool (decide (r_1<(0:Int)))] [] zG (ar ([.sl false 2 (Mp zC d_1),.nilsl]:List AV) (ac (rfl:([]:List zT)=[]) (ac (zAM (args':=[.sl false 2 (Mp zC d_1),.sl false 5 []]) (zCF F d_1 [] r_2 h_2) rfl ⟨rfl,rfl,rfl,rfl,trivial⟩:zW prog 54 [] [] [.sl false 2 (Mp zC d_1),.nilsl] [] (Ii r_2)) (ac zH (ac zH (ac zH an)))))) ?_
   cases h
   exact ⟨rfl,(sw [] [] [.s 0,.s 6,.s 16] [] an)⟩
 refine cd 16 p_1 ?_ ?_
 ·intro g_1;replace h:=zP g_1 h
  refine sr [] [4,5] [] 0 [Ii 0,.bool false] [] zG an ?_
  refine rt ?_
  cases h
  exact ⟨.inr rfl,Nat.le_of_ble_eq_true rfl,by kernel_rfl⟩
 intro g_1;replace h:=zO g_1 h
 refine sk ?_
 refine sq ?_
 obtain ⟨x_1,h_4,h⟩:=bind_some h
 refine rg [(2,{ av:=zC x_1 })] [4,5] [] 0 [Ii x_1.Ppm,.bool true] [] zG (ac (yP h_4:xG (Mp zC d_1) r_1=some (zC x_1)) an) ?_
 refine rt ?_
 cases h
 exact ⟨.inr rfl,Nat.le_of_ble_eq_true rfl,by kernel_rfl⟩
theorem zKn (F:Nat) (h_1:zL) (r:Int) (h:zCy F h_1=some r):zW prog 30 [] [] [yN h_1] [] (Ii r):=by
 refine yA (fn:=Go.Proofs.Try.f30) (code:=xC Go.Proofs.Try.f30) (by kernel_rfl) (by kernel_rfl) (Nat.le_of_ble_eq_true (by kernel_rfl)) ?_
 unfold zCy at h
 refine sr [(0,{ id:=0 })] [1] [0] 1 [Pp 0] [Vb 26 (zM h_1)] zG an ?_
 refine sq ?_
 refine sr [(2,{ n:=(h_1.Threads).length })] [1,13] [0] 1 [Pp 0,.bool ((lN (h_1.Threads))==(0:Int))] [Vb 26 (zM h_1)] zG (ac (z9 _:((Mp zF h_1.Threads)).length=(h_1.Threads).length) an) ?_
 refine cd 13 ((lN (h_1.Threads))==(0:Int)) ?_ ?_
 ·intro g_1;replace h:=zP g_1 h
  refine sr [] [2] [] 1 [Ii 8] [] zG an ?_
  refine rt ?_
  cases h
  exact ⟨.inr rfl,Nat.le_of_ble_eq_true rfl,by kernel_rfl⟩
 intro g_1;replace h:=zO g_1 h
 refine sk ?_
 refine sq ?_
 refine sr [(2,{ n:=(h_1.Threads).length })] [1,17] [0] 1 [Pp 0,.bool (decide ((lN (h_1.Threads))>(64:Int)))] [Vb 26 (zM h_1)] zG (ac (z9 _:((Mp zF h_1.Threads)).length=(h_1.Threads).length) an) ?_
 refine cd 17 (decide ((lN (h_1.Threads))>(64:Int))) ?_ ?_
 ·intro g_2;replace h:=zP g_2 h
  refine sr [] [2] [] 1 [Ii 7] [] zG an ?_
  refine rt ?_
  cases h
  exact ⟨.inr rfl,Nat.le_of_ble_eq_true rfl,by kernel_rfl⟩
 intro g_2;replace h:=zO g_2 h
 refine sk ?_
 refine sq ?_
 refine sr [] [1,3] [0] 1 [Pp 0,Ii 0] [Vb 26 (zM h_1)] zG an ?_
 obtain ⟨o_1,h_2,h⟩:=bind_some h
 refine wK (K1:=(fun e st'=>match o_1 with | (.inl q0)=>e=.normal∧Sub 0 st' (mk [(1,Pp 0)] [(0,Vb 26 (zM h_1))] 1) | (.inr q1)=>e=.ret∧uF prog Go.Proofs.Try.f30 0 [] (Ii q1) st')) ?_ ?_
 ·replace h:=h_2
  refine yC (id:=0) (by kernel_rfl) ?_
  refine wk [0] [] [.s 1,.s 3] [.s 0] [(1,Pp 0),(3,Ii 0)] [(0,Vb 26 (zM h_1))] an ?_
  refine xH (fun n st=>∃ (i_1:Int),st=mk [(1,Pp 0),(3,Ii i_1)] [(0,Vb 26 (zM h_1))] 1∧zAe F h_1 n i_1=some o_1) F (by kernel_rfl) ⟨_,rfl,h⟩ ?_ ?_
  ·rintro _ ⟨_,_,h⟩;exact xX (h:(none:Option (Unit⊕Int))=some o_1)
  rintro n_1 _ ⟨i_1,rfl,h⟩
  replace h:tT F h_1 (zAe F h_1 n_1) i_1=some o_1:=h
  unfold tT at h
  refine sq ?_
  refine sr [(3,{ n:=(h_1.Threads).length })] [1,3,22] [0] 1 [Pp 0,Ii i_1,.bool (decide (i_1<(lN (h_1.Threads))))] [Vb 26 (zM h_1)] zG (ac (z9 _:((Mp zF h_1.Threads)).length=(h_1.Threads).length) an) ?_
  refine cd 22 (decide (i_1<(lN (h_1.Threads)))) ?_ ?_
  rotate_left
  ·intro g_3;replace h:=zO g_3 h
   refine xS (id:=0) (by kernel_rfl) ?_
   cases h
   exact ⟨rfl,(sw [0] [] [.s 1] [.s 0] an)⟩
  intro g_3;replace h:=zP g_3 h
  refine sk ?_
  refine sq ?_
  refine yC (id:=1) (by kernel_rfl) ?_
  refine sq ?_
  obtain ⟨x_1,h_3,h⟩:=bind_some h
  obtain ⟨r_1,h_4,h⟩:=bind_some h
  refine rg [(3,{ av:=zF x_1 }),(5,{ av:=Ii r_1,l:=[zF x_1] })] [1,3,4] [0] 1 [Pp 0,Ii i_1,Ii r_1] [Vb 26 (zM h_1)] zG (ac (yP h_3:xG (Mp zF h_1.Threads) i_1=some (zF x_1)) (ar ([zF x_1]:List AV) (ac (rfl:([]:List zT)=[]) (ac (zID F x_1 r_1 h_4:zW prog 53 [] [] [zF x_1] [] (Ii r_1)) an)))) ?_
  refine sq ?_
  refine sr [] [1,3,4,32] [0] 1 [Pp 0,Ii i_1,Ii r_1,.bool (r_1 != (0:Int))] [Vb 26 (zM h_1)] zG an ?_
  refine cd 32 (r_1 != (0:Int)) ?_ ?_
  ·intro g_4;replace h:=zP g_4 h
   refine sr [] [2] [] 1 [Ii r_1] [] zG an ?_
   refine rt ?_
   cases h
   exact ⟨rfl,Nat.le_of_ble_eq_true rfl,by kernel_rfl⟩
  intro g_4;replace h:=zO g_4 h
  refine sk ?_
  refine sr [] [1,3,5] [0] 1 [Pp 0,Ii i_1,Ii 0] [Vb 26 (zM h_1)] zG an ?_
  obtain ⟨o_2,h_5,h⟩:=bind_some h
  refine wK (K1:=(fun e st'=>match o_2 with | (.inl q0)=>e=.normal∧Sub 0 st' (mk [(1,Pp 0),(3,Ii i_1)] [(0,Vb 26 (zM h_1))] 1) | (.inr q1)=>e=.ret∧uF prog Go.Proofs.Try.f30 0 [] (Ii q1) st')) ?_ ?_
  ·replace h:=h_5
   refine yC (id:=2) (by kernel_rfl) ?_
   refine wk [0] [] [.s 1,.s 3,.s 5] [.s 0] [(1,Pp 0),(3,Ii i_1),(5,Ii 0)] [(0,Vb 26 (zM h_1))] an ?_
   refine xH (fun n st=>∃ (k_1:Int),st=mk [(1,Pp 0),(3,Ii i_1),(5,Ii k_1)] [(0,Vb 26 (zM h_1))] 1∧pV F h_1 i_1 n k_1=some o_2) F (by kernel_rfl) ⟨_,rfl,h⟩ ?_ ?_
   ·rintro _ ⟨_,_,h⟩;exact xX (h:(none:Option (Unit⊕Int))=some o_2)
   rintro n_2 _ ⟨k_1,rfl,h⟩
   replace h:tS F h_1 i_1 (pV F h_1 i_1 n_2) k_1=some o_2:=h
   unfold tS at h
   refine sq ?_
   refine sr [] [1,3,5,36] [0] 1 [Pp 0,Ii i_1,Ii k_1,.bool (decide (k_1<i_1))] [Vb 26 (zM h_1)] zG an ?_
   refine cd 36 (decide (k_1<i_1)) ?_ ?_
   rotate_left
   ·intro g_5;replace h:=zO g_5 h
    refine xS (id:=2) (by kernel_rfl) ?_
    cases h
    exact ⟨rfl,(sw [0] [] [.s 1,.s 3] [.s 0] an)⟩
   intro g_5;replace h:=zP g_5 h
   refine sk ?_
   refine sq ?_
   refine yC (id:=3) (by kernel_rfl) ?_
   refine sq ?_
   obtain ⟨x_2,h_6,h⟩:=bind_some h
   obtain ⟨x_3,h_7,h⟩:=bind_some h
   refine rg [(3,{ av:=zF x_2 }),(9,{ av:=zF x_3 })] [1,3,5,51] [0] 1 [Pp 0,Ii i_1,Ii k_1,.bool (x_2.Id==x_3.Id)] [Vb 26 (zM h_1)] zG (ac (yP h_6:xG (Mp zF h_1.Threads) k_1=some (zF x_2)) (ac (yP h_7:xG (Mp zF h_1.Threads) i_1=some (zF x_3)) an)) ?_
   refine cd 51 (x_2.Id==x_3.Id) ?_ ?_
   rotate_left
   ·intro g_6;replace h:=zO g_6 h
    refine sk ?_
    refine rg [] [1,3,5] [0] 1 [Pp 0,Ii i_1,Ii (zR (k_1+(1:Int)))] [Vb 26 (zM h_1)] zG an ?_
    exact ⟨_,(sw [0] [] [.s 1,.s 3,.s 5] [.s 0] an),_,rfl,h⟩
   intro g_6;replace h:=zP g_6 h
   refine sr [] [2] [] 1 [Ii 4] [] zG an ?_
   refine rt ?_
   cases h
   exact ⟨rfl,Nat.le_of_ble_eq_true rfl,by kernel_rfl⟩
  intro e st1 hk
  rcases o_2 with q_1 | q_2
  rotate_left
  ·obtain ⟨rfl,hf⟩:=hk
   cases h
   exact ⟨_,Sub.refl _ _,rfl,hf⟩
  obtain ⟨rfl,hs⟩:=hk
  refine ⟨_,hs,?_⟩
  refine rg [] [1,3] [0] 1 [Pp 0,Ii (zR (i_1+(1:Int)))] [Vb 26 (zM h_1)] zG an ?_
  exact ⟨_,(sw [0] [] [.s 1,.s 3] [.s 0] an),_,rfl,h⟩
 intro e st1 hk
 rcases o_1 with q_3 | q_4
 rotate_left
 ·obtain ⟨rfl,hf⟩:=hk
  cases h
  exact ⟨st1,Sub.refl _ _,.inr rfl,hf⟩
 obtain ⟨rfl,hs⟩:=hk
 refine ⟨_,hs,?_⟩
 refine sq ?_
 obtain ⟨r_2,h_8,h⟩:=bind_some h
 refine rg [(4,{ av:=Ii r_2,l:=[.sl false 2 (Mp zC h_1.Domains),.sl false 5 (Mp zJ h_1.Snaps)] })] [1,6] [0] 1 [Pp 0,Ii r_2] [Vb 26 (zM h_1)] zG (ar ([.sl false 2 (Mp zC h_1.Domains),.sl false 5 (Mp zJ h_1.Snaps)]:List AV) (ac (rfl:([]:List zT)=[]) (ac (zCF F h_1.Domains h_1.Snaps r_2 h_8:zW prog 54 [] [] [.sl false 2 (Mp zC h_1.Domains),.sl false 5 (Mp zJ h_1.Snaps)] [] (Ii r_2)) an))) ?_
 refine sq ?_
 refine sr [] [1,6,58] [0] 1 [Pp 0,Ii r_2,.bool (r_2 != (0:Int))] [Vb 26 (zM h_1)] zG an ?_
 refine cd 58 (r_2 != (0:Int)) ?_ ?_
 ·intro g_7;replace h:=zP g_7 h
  refine sr [] [2] [] 1 [Ii r_2] [] zG an ?_
  refine rt ?_
  cases h
  exact ⟨.inr rfl,Nat.le_of_ble_eq_true rfl,by kernel_rfl⟩
 intro g_7;replace h:=zO g_7 h
 refine sk ?_
 refine sq ?_
 refine sr [] [1,7] [0] 1 [Pp 0,Ii 0] [Vb 26 (zM h_1)] zG an ?_
 obtain ⟨o_3,h_9,h⟩:=bind_some h
 refine wK (K1:=(fun e st'=>match o_3 with | (.inl q0)=>e=.normal∧Sub 0 st' (mk [] [] 0) | (.inr q1)=>e=.ret∧uF prog Go.Proofs.Try.f30 0 [] (Ii q1) st')) ?_ ?_
 ·replace h:=h_9
  refine yC (id:=4) (by kernel_rfl) ?_
  refine wk [0] [] [.s 1,.s 7] [.s 0] [(1,Pp 0),(7,Ii 0)] [(0,Vb 26 (zM h_1))] an ?_
  refine xH (fun n st=>∃ (i_2:Int),st=mk [(1,Pp 0),(7,Ii i_2)] [(0,Vb 26 (zM h_1))] 1∧p0 F h_1 n i_2=some o_3) F (by kernel_rfl) ⟨_,rfl,h⟩ ?_ ?_
  ·rintro _ ⟨_,_,h⟩;exact xX (h:(none:Option (Unit⊕Int))=some o_3)
  rintro n_3 _ ⟨i_2,rfl,h⟩
  replace h:tO F h_1 (p0 F h_1 n_3) i_2=some o_3:=h
  unfold tO at h
  refine sq ?_
  refine sr [(3,{ n:=(h_1.Threads).length })] [1,7,64] [0] 1 [Pp 0,Ii i_2,.bool (decide (i_2<(lN (h_1.Threads))))] [Vb 26 (zM h_1)] zG (ac (z9 _:((Mp zF h_1.Threads)).length=(h_1.Threads).length) an) ?_
  refine cd 64 (decide (i_2<(lN (h_1.Threads)))) ?_ ?_
  rotate_left
  ·intro g_8;replace h:=zO g_8 h
   refine xS (id:=4) (by kernel_rfl) ?_
   cases h
   exact ⟨rfl,(sw [] [] [] [] an)⟩
  intro g_8;replace h:=zP g_8 h
  refine sk ?_
  refine sq ?_
  refine yC (id:=5) (by kernel_rfl) ?_
  refine sq ?_
  obtain ⟨x_4,tW,h⟩:=bind_some h
  obtain ⟨r_3,tX,h⟩:=bind_some h
  refine rg [(5,{ av:=zF x_4 }),(8,{ av:=.tuple [Ii r_3.1,.bool r_3.2],l:=[.sl false 2 (Mp zC h_1.Domains),Ii x_4.Domain] })] [1,7,9] [0] 1 [Pp 0,Ii i_2,.bool r_3.2] [Vb 26 (zM h_1)] zG (ac (yP tW:xG (Mp zF h_1.Threads) i_2=some (zF x_4)) (ar ([.sl false 2 (Mp zC h_1.Domains),Ii x_4.Domain]:List AV) (ac (rfl:([]:List zT)=[]) (ac (zLA F h_1.Domains x_4.Domain r_3 tX:zW prog 55 [] [] [.sl false 2 (Mp zC h_1.Domains),Ii x_4.Domain] [] (.tuple [Ii r_3.1,.bool r_3.2])) an)))) ?_
  refine sr [] [1,7,80] [0] 1 [Pp 0,Ii i_2,.bool (!r_3.2)] [Vb 26 (zM h_1)] zG an ?_
  refine cd 80 (!r_3.2) ?_ ?_
  rotate_left
  ·intro g_9;replace h:=zO g_9 h
   refine sk ?_
   refine rg [] [1,7] [0] 1 [Pp 0,Ii (zR (i_2+(1:Int)))] [Vb 26 (zM h_1)] zG an ?_
   exact ⟨_,(sw [0] [] [.s 1,.s 7] [.s 0] an),_,rfl,h⟩
  intro g_9;replace h:=zP g_9 h
  refine sr [] [2] [] 1 [Ii 5] [] zG an ?_
  refine rt ?_
  cases h
  exact ⟨rfl,Nat.le_of_ble_eq_true rfl,by kernel_rfl⟩
 intro e st1 hk
 rcases o_3 with q_5 | q_6
 rotate_left
 ·obtain ⟨rfl,hf⟩:=hk
  cases h
  exact ⟨st1,Sub.refl _ _,.inr rfl,hf⟩
 obtain ⟨rfl,hs⟩:=hk
 refine ⟨_,hs,?_⟩
 refine sr [] [2] [] 0 [Ii 0] [] zG an ?_
 refine rt ?_
 cases h
 exact ⟨.inr rfl,Nat.le_of_ble_eq_true rfl,by kernel_rfl⟩
theorem tJ (n_1:Int) (r:Bool) (h:pC n_1=some r):zW prog 56 [] [] [Ii n_1] [] (.bool r):=by
 refine yA (fn:=Go.Proofs.Try.f56) (code:=xC Go.Proofs.Try.f56) (by kernel_rfl) (by kernel_rfl) (Nat.le_of_ble_eq_true (by kernel_rfl)) ?_
 unfold pC at h
 refine sr [] [0] [] 0 [Ii n_1] [] zG an ?_
 refine sq ?_
 refine y9 (mk [(2,.bool (decide (n_1≥(0:Int))&&decide (n_1≤(1000000000000000:Int))))] [] 0) ?_ ?_
 ·rcases bft (decide (n_1≥(0:Int))) with zH | zH
  ·refine rg [(5,Ht)] [2] [] 0 [.bool (decide (n_1≤(1000000000000000:Int)))] [] zG (ac zH (ac zH (ac zH an))) ?_
   exact ⟨rfl,(sw [] [] [.a 2 (.bool (decide (n_1≥(0:Int))&&decide (n_1≤(1000000000000000:Int))))] [] (ac (congrArg AV.bool (uP zH rfl):(.bool (decide (n_1≤(1000000000000000:Int))):AV)=.bool (decide (n_1≥(0:Int))&&decide (n_1≤(1000000000000000:Int)))) an))⟩
  ·refine rg [(3,Hg),(4,Hg),(5,Hf)] [2] [] 0 [.bool false] [] zG (ac zH (ac zH (ac zH an))) ?_
   exact ⟨rfl,(sw [] [] [.a 2 (.bool (decide (n_1≥(0:Int))&&decide (n_1≤(1000000000000000:Int))))] [] (ac (congrArg AV.bool (j7 zH):(.bool false:AV)=.bool (decide (n_1≥(0:Int))&&decide (n_1≤(1000000000000000:Int)))) an))⟩
 refine rt ?_
 cases h
 exact ⟨.inr rfl,Nat.le_of_ble_eq_true rfl,by kernel_rfl⟩
theorem zKu (k_1:Int) (r:Bool×Bool×Bool×Bool) (h:zDP k_1=some r):zW prog 80 [] [] [Ii k_1] [] (.tuple [.bool r.1,.bool r.2.1,.bool r.2.2.1,.bool r.2.2.2]):=by
 refine yA (fn:=Go.Proofs.Try.f80) (code:=xC Go.Proofs.Try.f80) (by kernel_rfl) (by kernel_rfl) (Nat.le_of_ble_eq_true (by kernel_rfl)) ?_
 unfold zDP at h
 refine sr [] [0] [] 0 [Ii k_1] [] zG an ?_
 refine sq ?_
 refine y9 (mk [(0,Ii k_1),(6,.bool ((k_1==(1:Int))||((k_1==(3:Int))||(k_1==(4:Int)))))] [] 0) ?_ ?_
 ·rcases bft (k_1==(1:Int)) with zH | zH
  ·refine rg [(3,Hg),(4,Hg),(5,Ht),(7,Hg),(8,Hg),(9,Ht)] [0,6] [] 0 [Ii k_1,.bool true] [] zG (ac zH (ac zH (ac zH (ax (ax (ar true an)))))) ?_
   exact ⟨rfl,(sw [] [] [.s 0,.a 6 (.bool ((k_1==(1:Int))||((k_1==(3:Int))||(k_1==(4:Int)))))] [] (ac (congrArg AV.bool (ort zH):(.bool true:AV)=.bool ((k_1==(1:Int))||((k_1==(3:Int))||(k_1==(4:Int))))) an))⟩
  ·rcases bft (k_1==(3:Int)) with zI | zI
   ·refine rg [(5,Hf),(7,Hg),(8,Hg),(9,Ht)] [0,6] [] 0 [Ii k_1,.bool true] [] zG (ac zH (ac zH (ac zH (ac zI (ac zI (ac zI an)))))) ?_
    exact ⟨rfl,(sw [] [] [.s 0,.a 6 (.bool ((k_1==(1:Int))||((k_1==(3:Int))||(k_1==(4:Int)))))] [] (ac (congrArg AV.bool (orf zH (ort zI)):(.bool true:AV)=.bool ((k_1==(1:Int))||((k_1==(3:Int))||(k_1==(4:Int))))) an))⟩
   ·refine rg [(5,Hf),(9,Hf)] [0,6] [] 0 [Ii k_1,.bool (k_1==(4:Int))] [] zG (ac zH (ac zH (ac zH (ac zI (ac zI (ac zI an)))))) ?_
    exact ⟨rfl,(sw [] [] [.s 0,.a 6 (.bool ((k_1==(1:Int))||((k_1==(3:Int))||(k_1==(4:Int)))))] [] (ac (congrArg AV.bool (orf zH (orf zI rfl)):(.bool (k_1==(4:Int)):AV)=.bool ((k_1==(1:Int))||((k_1==(3:Int))||(k_1==(4:Int))))) an))⟩
 refine sr [] [0,6,7] [] 0 [Ii k_1,.bool ((k_1==(1:Int))||((k_1==(3:Int))||(k_1==(4:Int)))),.bool (decide (k_1≥(4:Int)))] [] zG an ?_
 refine sq ?_
 refine y9 (mk [(0,Ii k_1),(6,.bool ((k_1==(1:Int))||((k_1==(3:Int))||(k_1==(4:Int))))),(7,.bool (decide (k_1≥(4:Int)))),(8,.bool ((k_1==(9:Int))||(k_1==(11:Int))))] [] 0) ?_ ?_
 ·rcases bft (k_1==(9:Int)) with zN | zN
  ·refine rg [(3,Hg),(4,Hg),(5,Ht)] [0,6,7,8] [] 0 [Ii k_1,.bool ((k_1==(1:Int))||((k_1==(3:Int))||(k_1==(4:Int)))),.bool (decide (k_1≥(4:Int))),.bool true] [] zG (ac zN (ac zN (ac zN an))) ?_
   exact ⟨rfl,(sw [] [] [.s 0,.s 6,.s 7,.a 8 (.bool ((k_1==(9:Int))||(k_1==(11:Int))))] [] (ac (congrArg AV.bool (ort zN):(.bool true:AV)=.bool ((k_1==(9:Int))||(k_1==(11:Int)))) an))⟩
  ·refine rg [(5,Hf)] [0,6,7,8] [] 0 [Ii k_1,.bool ((k_1==(1:Int))||((k_1==(3:Int))||(k_1==(4:Int)))),.bool (decide (k_1≥(4:Int))),.bool (k_1==(11:Int))] [] zG (ac zN (ac zN (ac zN an))) ?_
   exact ⟨rfl,(sw [] [] [.s 0,.s 6,.s 7,.a 8 (.bool ((k_1==(9:Int))||(k_1==(11:Int))))] [] (ac (congrArg AV.bool (orf zN rfl):(.bool (k_1==(11:Int)):AV)=.bool ((k_1==(9:Int))||(k_1==(11:Int)))) an))⟩
 refine sq ?_
 refine y9 (mk [(6,.bool ((k_1==(1:Int))||((k_1==(3:Int))||(k_1==(4:Int))))),(7,.bool (decide (k_1≥(4:Int)))),(8,.bool ((k_1==(9:Int))||(k_1==(11:Int)))),(9,.bool ((k_1==(5:Int))||(k_1==(11:Int))))] [] 0) ?_ ?_
 ·rcases bft (k_1==(5:Int)) with zV | zV
  ·refine rg [(3,Hg),(4,Hg),(5,Ht)] [6,7,8,9] [] 0 [.bool ((k_1==(1:Int))||((k_1==(3:Int))||(k_1==(4:Int)))),.bool (decide (k_1≥(4:Int))),.bool ((k_1==(9:Int))||(k_1==(11:Int))),.bool true] [] zG (ac zV (ac zV (ac zV an))) ?_
   exact ⟨rfl,(sw [] [] [.s 6,.s 7,.s 8,.a 9 (.bool ((k_1==(5:Int))||(k_1==(11:Int))))] [] (ac (congrArg AV.bool (ort zV):(.bool true:AV)=.bool ((k_1==(5:Int))||(k_1==(11:Int)))) an))⟩
  ·refine rg [(5,Hf)] [6,7,8,9] [] 0 [.bool ((k_1==(1:Int))||((k_1==(3:Int))||(k_1==(4:Int)))),.bool (decide (k_1≥(4:Int))),.bool ((k_1==(9:Int))||(k_1==(11:Int))),.bool (k_1==(11:Int))] [] zG (ac zV (ac zV (ac zV an))) ?_
   exact ⟨rfl,(sw [] [] [.s 6,.s 7,.s 8,.a 9 (.bool ((k_1==(5:Int))||(k_1==(11:Int))))] [] (ac (congrArg AV.bool (orf zV rfl):(.bool (k_1==(11:Int)):AV)=.bool ((k_1==(5:Int))||(k_1==(11:Int)))) an))⟩
 refine sr [] [2,3,4,5] [] 0 [.bool ((k_1==(1:Int))||((k_1==(3:Int))||(k_1==(4:Int)))),.bool (decide (k_1≥(4:Int))),.bool ((k_1==(9:Int))||(k_1==(11:Int))),.bool ((k_1==(5:Int))||(k_1==(11:Int)))] [] zG an ?_
 refine rt ?_
 cases h
 exact ⟨.inr rfl,Nat.le_of_ble_eq_true rfl,by kernel_rfl⟩
theorem zIv (F:Nat) (l_1:List (List Int)) (r:Int) (h:zBc F l_1=some r):zW prog 81 [] [] [.sl false 1 (Ms l_1)] [] (Ii r):=by
 refine yA (fn:=Go.Proofs.Try.f81) (code:=xC Go.Proofs.Try.f81) (by kernel_rfl) (by kernel_rfl) (Nat.le_of_ble_eq_true (by kernel_rfl)) ?_
 unfold zBc at h
 refine sr [] [0] [] 0 [.sl false 1 (Ms l_1)] [] zG an ?_
 refine sq ?_
 refine sr [(1,{ n:=(l_1).length })] [0,6] [] 0 [.sl false 1 (Ms l_1),.bool (decide ((lN (l_1))>(32:Int)))] [] zG (ac (z9 _:((Ms l_1)).length=(l_1).length) an) ?_
 refine cd 6 (decide ((lN (l_1))>(32:Int))) ?_ ?_
 ·intro g_1;replace h:=zP g_1 h
  refine sr [] [2] [] 0 [Ii 7] [] zG an ?_
  refine rt ?_
  cases h
  exact ⟨.inr rfl,Nat.le_of_ble_eq_true rfl,by kernel_rfl⟩
 intro g_1;replace h:=zO g_1 h
 refine sk ?_
 refine sq ?_
 refine sr [] [0,3] [] 0 [.sl false 1 (Ms l_1),Ii 0] [] zG an ?_
 obtain ⟨o_1,h_1,h⟩:=bind_some h
 refine wK (K1:=(fun e st'=>match o_1 with | (.inl q0)=>e=.normal∧Sub 0 st' (mk [] [] 0) | (.inr q1)=>e=.ret∧uF prog Go.Proofs.Try.f81 0 [] (Ii q1) st')) ?_ ?_
 ·replace h:=h_1
  refine yC (id:=0) (by kernel_rfl) ?_
  refine wk [] [] [.s 0,.s 3] [] [(0,.sl false 1 (Ms l_1)),(3,Ii 0)] [] an ?_
  refine xH (fun n st=>∃ (i_1:Int),st=mk [(0,.sl false 1 (Ms l_1)),(3,Ii i_1)] [] 0∧pO F l_1 n i_1=some o_1) F (by kernel_rfl) ⟨_,rfl,h⟩ ?_ ?_
  ·rintro _ ⟨_,_,h⟩;exact xX (h:(none:Option (Unit⊕Int))=some o_1)
  rintro n_1 _ ⟨i_1,rfl,h⟩
  replace h:qM F l_1 (pO F l_1 n_1) i_1=some o_1:=h
  unfold qM at h
  refine sq ?_
  refine sr [(2,{ n:=(l_1).length })] [0,3,10] [] 0 [.sl false 1 (Ms l_1),Ii i_1,.bool (decide (i_1<(lN (l_1))))] [] zG (ac (z9 _:((Ms l_1)).length=(l_1).length) an) ?_
  refine cd 10 (decide (i_1<(lN (l_1)))) ?_ ?_
  rotate_left
  ·intro g_2;replace h:=zO g_2 h
   refine xS (id:=0) (by kernel_rfl) ?_
   cases h
   exact ⟨rfl,(sw [] [] [] [] an)⟩
  intro g_2;replace h:=zP g_2 h
  refine sk ?_
  refine sq ?_
  refine yC (id:=1) (by kernel_rfl) ?_
  refine sq ?_
  obtain ⟨x_1,h_2,h⟩:=bind_some h
  obtain ⟨r_1,h_3,h⟩:=bind_some h
  refine rg [(2,{ av:=.str x_1 }),(4,{ av:=Ii r_1,l:=[.str x_1] })] [0,3,18] [] 0 [.sl false 1 (Ms l_1),Ii i_1,.bool (r_1 != (0:Int))] [] zG (ac (yP h_2:xG (Ms l_1) i_1=some (.str x_1)) (ar ([.str x_1]:List AV) (ac (rfl:([]:List zT)=[]) (ac (zDg F x_1 r_1 h_3:zW prog 68 [] [] [.str x_1] [] (Ii r_1)) an)))) ?_
  refine cd 18 (r_1 != (0:Int)) ?_ ?_
  rotate_left
  ·intro g_3;replace h:=zO g_3 h
   refine sk ?_
   refine rg [] [0,3] [] 0 [.sl false 1 (Ms l_1),Ii (zR (i_1+(1:Int)))] [] zG an ?_
   exact ⟨_,(sw [] [] [.s 0,.s 3] [] an),_,rfl,h⟩
  intro g_3;replace h:=zP g_3 h
  refine sr [] [2] [] 0 [Ii 3] [] zG an ?_
  refine rt ?_
  cases h
  exact ⟨rfl,Nat.le_of_ble_eq_true rfl,by kernel_rfl⟩
 intro e st1 hk
 rcases o_1 with q_1 | q_2
 rotate_left
 ·obtain ⟨rfl,hf⟩:=hk
  cases h
  exact ⟨st1,Sub.refl _ _,.inr rfl,hf⟩
 obtain ⟨rfl,hs⟩:=hk
 refine ⟨_,hs,?_⟩
 refine sr [] [2] [] 0 [Ii 0] [] zG an ?_
 refine rt ?_
 cases h
 exact ⟨.inr rfl,Nat.le_of_ble_eq_true rfl,by kernel_rfl⟩
theorem qT (n_1:Int) (zAw:Int) (kX:Int) (r:Int) (h:t5 n_1 zAw kX=some r):zW prog 88 [] [] [Ii n_1,Ii zAw,Ii kX] [] (Ii r):=by
 refine yA (fn:=Go.Proofs.Try.f88) (code:=xC Go.Proofs.Try.f88) (by kernel_rfl) (by kernel_rfl) (Nat.le_of_ble_eq_true (by kernel_rfl)) ?_
 unfold t5 at h
 refine sr [] [0,1,2] [] 0 [Ii n_1,Ii zAw,Ii kX] [] zG an ?_
 refine sq ?_
 refine sq ?_
 refine y9 (mk [(14,.bool (decide (n_1<zAw)||decide (n_1>kX)))] [] 0) ?_ ?_
 ·rcases bft (decide (n_1<zAw)) with zH | zH
  ·refine rg [(4,Hg),(5,Hg),(6,Hg),(7,Ht)] [14] [] 0 [.bool true] [] zG (ac zH (ac zH (ac zH (ac zH an)))) ?_
   exact ⟨rfl,(sw [] [] [.a 14 (.bool (decide (n_1<zAw)||decide (n_1>kX)))] [] (ac (congrArg AV.bool (ort zH):(.bool true:AV)=.bool (decide (n_1<zAw)||decide (n_1>kX))) an))⟩
  ·refine rg [(7,Hf)] [14] [] 0 [.bool (decide (n_1>kX))] [] zG (ac zH (ac zH (ac zH (ac zH an)))) ?_
   exact ⟨rfl,(sw [] [] [.a 14 (.bool (decide (n_1<zAw)||decide (n_1>kX)))] [] (ac (congrArg AV.bool (orf zH rfl):(.bool (decide (n_1>kX)):AV)=.bool (decide (n_1<zAw)||decide (n_1>kX))) an))⟩
 refine cd 14 (decide (n_1<zAw)||decide (n_1>kX)) ?_ ?_
 ·intro g_1;replace h:=zP g_1 h
  refine sr [] [6] [] 0 [Ii 2] [] zG an ?_
  refine rt ?_
  cases h
  exact ⟨.inr rfl,Nat.le_of_ble_eq_true rfl,by kernel_rfl⟩
 intro g_1;replace h:=zO g_1 h
 refine sk ?_
 refine sr [] [6] [] 0 [Ii 0] [] zG an ?_
 refine rt ?_
 cases h
 exact ⟨.inr rfl,Nat.le_of_ble_eq_true rfl,by kernel_rfl⟩
theorem zHs (e_1:zK) (r:Int) (h:zAi e_1=some r):zW prog 82 [] [] [zD e_1] [] (Ii r):=by
 refine yA (fn:=Go.Proofs.Try.f82) (code:=xC Go.Proofs.Try.f82) (by kernel_rfl) (by kernel_rfl) (Nat.le_of_ble_eq_true (by kernel_rfl)) ?_
 unfold zAi at h
 refine sr [(0,{ id:=0 })] [1] [0] 1 [Pp 0] [Vb 42 (zU e_1)] zG an ?_
 refine sq ?_
 refine sr [] [1,6] [0] 1 [Pp 0,Ii e_1.Kind] [Vb 42 (zU e_1)] zG an ?_
 obtain ⟨o_1,h_1,h⟩:=bind_some h
 refine wK (K1:=(fun e st'=>match o_1 with | (.inl q0)=>e=.normal∧Sub 0 st' (mk [(1,Pp 0)] [(0,Vb 42 (zU e_1))] 1) | (.inr q1)=>e=.ret∧uF prog Go.Proofs.Try.f82 0 [] (Ii q1) st')) ?_ ?_
 ·replace h:=h_1
  refine yC (id:=0) (by kernel_rfl) ?_
  refine sq ?_
  refine sr [] [1,6,7] [0] 1 [Pp 0,Ii e_1.Kind,.bool (e_1.Kind==(1:Int))] [Vb 42 (zU e_1)] zG an ?_
  obtain ⟨o_2,h_2,h⟩:=bind_some h
  refine y9 (mk [(1,Pp 0),(6,Ii e_1.Kind),(7,.bool o_2)] [(0,Vb 42 (zU e_1))] 1) ?_ ?_
  ·replace h:=h_2
   refine cd 7 (e_1.Kind==(1:Int)) ?_ ?_
   ·intro g_1;replace h:=zP g_1 h
    refine sk ?_
    cases h
    exact ⟨rfl,(sw [0] [] [.s 1,.s 6,.s 7] [.s 0] an)⟩
   intro g_1;replace h:=zO g_1 h
   refine sr [] [1,6,7] [0] 1 [Pp 0,Ii e_1.Kind,.bool (e_1.Kind==(2:Int))] [Vb 42 (zU e_1)] zG an ?_
   refine cd 7 (e_1.Kind==(2:Int)) ?_ ?_
   ·intro g_2;replace h:=zP g_2 h
    refine sk ?_
    cases h
    exact ⟨rfl,(sw [0] [] [.s 1,.s 6,.s 7] [.s 0] an)⟩
   intro g_2;replace h:=zO g_2 h
   refine rg [] [1,6,7] [0] 1 [Pp 0,Ii e_1.Kind,.bool (e_1.Kind==(3:Int))] [Vb 42 (zU e_1)] zG an ?_
   cases h
   exact ⟨rfl,(sw [0] [] [.s 1,.s 6,.s 7] [.s 0] an)⟩
  refine cd 7 o_2 ?_ ?_
  ·intro g_3;replace h:=zP g_3 h
   refine sr [] [2] [] 1 [Ii 0] [] zG an ?_
   refine rt ?_
   cases h
   exact ⟨rfl,Nat.le_of_ble_eq_true rfl,by kernel_rfl⟩
  intro g_3;replace h:=zO g_3 h
  refine sr [] [1,6,11] [0] 1 [Pp 0,Ii e_1.Kind,.bool (e_1.Kind==(4:Int))] [Vb 42 (zU e_1)] zG an ?_
  refine cd 11 (e_1.Kind==(4:Int)) ?_ ?_
  ·intro g_4;replace h:=zP g_4 h
   refine sq ?_
   obtain ⟨r_1,h_3,h⟩:=bind_some h
   refine rg [(2,{ av:=Ii r_1,l:=[Ii e_1.N,Ii (-1000000000000000),Ii 1000000000000000] })] [2] [] 1 [Ii r_1] [] zG (ar ([Ii e_1.N,Ii (-1000000000000000),Ii 1000000000000000]:List AV) (ac (rfl:([]:List zT)=[]) (ac (qT e_1.N (-1000000000000000:Int) (1000000000000000:Int) r_1 h_3:zW prog 88 [] [] [Ii e_1.N,Ii (-1000000000000000),Ii 1000000000000000] [] (Ii r_1)) an))) ?_
   refine rt ?_
   cases h
   exact ⟨rfl,Nat.le_of_ble_eq_true rfl,by kernel_rfl⟩
  intro g_4;replace h:=zO g_4 h
  refine sr [] [1,6,16] [0] 1 [Pp 0,Ii e_1.Kind,.bool (e_1.Kind==(5:Int))] [Vb 42 (zU e_1)] zG an ?_
  refine cd 16 (e_1.Kind==(5:Int)) ?_ ?_
  ·intro g_5;replace h:=zP g_5 h
   refine sq ?_
   obtain ⟨r_2,h_4,h⟩:=bind_some h
   refine rg [(2,{ av:=Ii r_2,l:=[Ii e_1.N,Ii 1,Ii 1000000000000] })] [2] [] 1 [Ii r_2] [] zG (ar ([Ii e_1.N,Ii 1,Ii 1000000000000]:List AV) (ac (rfl:([]:List zT)=[]) (ac (qT e_1.N (1:Int) (1000000000000:Int) r_2 h_4:zW prog 88 [] [] [Ii e_1.N,Ii 1,Ii 1000000000000] [] (Ii r_2)) an))) ?_
   refine rt ?_
   cases h
   exact ⟨rfl,Nat.le_of_ble_eq_true rfl,by kernel_rfl⟩
  intro g_5;replace h:=zO g_5 h
  refine sr [] [1,6,21] [0] 1 [Pp 0,Ii e_1.Kind,.bool (e_1.Kind==(8:Int))] [Vb 42 (zU e_1)] zG an ?_
  refine cd 21 (e_1.Kind==(8:Int)) ?_ ?_
  ·intro g_6;replace h:=zP g_6 h
   refine sq ?_
   obtain ⟨r_3,h_5,h⟩:=bind_some h
   refine rg [(2,{ av:=Ii r_3,l:=[Ii e_1.N,Ii 0,Ii 63] })] [2] [] 1 [Ii r_3] [] zG (ar ([Ii e_1.N,Ii 0,Ii 63]:List AV) (ac (rfl:([]:List zT)=[]) (ac (qT e_1.N (0:Int) (63:Int) r_3 h_5:zW prog 88 [] [] [Ii e_1.N,Ii 0,Ii 63] [] (Ii r_3)) an))) ?_
   refine rt ?_
   cases h
   exact ⟨rfl,Nat.le_of_ble_eq_true rfl,by kernel_rfl⟩
  intro g_6;replace h:=zO g_6 h
  refine sr [] [1,26] [0] 1 [Pp 0,.bool (e_1.Kind==(9:Int))] [Vb 42 (zU e_1)] zG an ?_
  refine cd 26 (e_1.Kind==(9:Int)) ?_ ?_
  rotate_left
  ·intro g_7;replace h:=zO g_7 h
   refine sk ?_
   cases h
   exact ⟨rfl,(sw [0] [] [.s 1] [.s 0] an)⟩
  intro g_7;replace h:=zP g_7 h
  refine sq ?_
  obtain ⟨r_4,h_6,h⟩:=bind_some h
  refine rg [(2,{ av:=Ii r_4,l:=[Ii e_1.N,Ii 0,Ii 3] })] [1,3] [0] 1 [Pp 0,Ii r_4] [Vb 42 (zU e_1)] zG (ar ([Ii e_1.N,Ii 0,Ii 3]:List AV) (ac (rfl:([]:List zT)=[]) (ac (qT e_1.N (0:Int) (3:Int) r_4 h_6:zW prog 88 [] [] [Ii e_1.N,Ii 0,Ii 3] [] (Ii r_4)) an))) ?_
  refine sq ?_
  refine sq ?_
  refine y9 (mk [(1,Pp 0),(3,Ii r_4),(37,.bool ((r_4==(0:Int))&&(e_1.N==(2:Int))))] [(0,Vb 42 (zU e_1))] 1) ?_ ?_
  ·rcases bft (r_4==(0:Int)) with zN | zN
   ·refine rg [(6,Ht)] [1,3,37] [0] 1 [Pp 0,Ii r_4,.bool (e_1.N==(2:Int))] [Vb 42 (zU e_1)] zG (ac zN (ac zN (ac zN (ac zN an)))) ?_
    exact ⟨rfl,(sw [0] [] [.s 1,.s 3,.a 37 (.bool ((r_4==(0:Int))&&(e_1.N==(2:Int))))] [.s 0] (ac (congrArg AV.bool (uP zN rfl):(.bool (e_1.N==(2:Int)):AV)=.bool ((r_4==(0:Int))&&(e_1.N==(2:Int)))) an))⟩
   ·refine rg [(3,Hg),(4,Hg),(5,Hg),(6,Hf)] [1,3,37] [0] 1 [Pp 0,Ii r_4,.bool false] [Vb 42 (zU e_1)] zG (ac zN (ac zN (ac zN (ac zN an)))) ?_
    exact ⟨rfl,(sw [0] [] [.s 1,.s 3,.a 37 (.bool ((r_4==(0:Int))&&(e_1.N==(2:Int))))] [.s 0] (ac (congrArg AV.bool (j7 zN):(.bool false:AV)=.bool ((r_4==(0:Int))&&(e_1.N==(2:Int)))) an))⟩
  refine cd 37 ((r_4==(0:Int))&&(e_1.N==(2:Int))) ?_ ?_
  ·intro g_8;replace h:=zP g_8 h
   refine sq ?_
   obtain ⟨r_5,h_7,h⟩:=bind_some h
   refine rg [(2,{ av:=Ii r_5,l:=[Ii e_1.M,Ii 0,Ii 1000000000000000] })] [2] [] 1 [Ii r_5] [] zG (ar ([Ii e_1.M,Ii 0,Ii 1000000000000000]:List AV) (ac (rfl:([]:List zT)=[]) (ac (qT e_1.M (0:Int) (1000000000000000:Int) r_5 h_7:zW prog 88 [] [] [Ii e_1.M,Ii 0,Ii 1000000000000000] [] (Ii r_5)) an))) ?_
   refine rt ?_
   cases h
   exact ⟨rfl,Nat.le_of_ble_eq_true rfl,by kernel_rfl⟩
  intro g_8;replace h:=zO g_8 h
  refine sk ?_
  refine sq ?_
  refine sq ?_
  refine y9 (mk [(3,Ii r_4),(47,.bool ((r_4==(0:Int))&&(e_1.M != (0:Int))))] [] 0) ?_ ?_
  ·rcases bft (r_4==(0:Int)) with zV | zV
   ·refine rg [(6,Ht)] [3,47] [] 1 [Ii r_4,.bool (e_1.M != (0:Int))] [] zG (ac zV (ac zV (ac zV (ac zV an)))) ?_
    exact ⟨rfl,(sw [] [] [.s 3,.a 47 (.bool ((r_4==(0:Int))&&(e_1.M != (0:Int))))] [] (ac (congrArg AV.bool (uP zV rfl):(.bool (e_1.M != (0:Int)):AV)=.bool ((r_4==(0:Int))&&(e_1.M != (0:Int)))) an))⟩
   ·refine rg [(3,Hg),(4,Hg),(5,Hg),(6,Hf)] [3,47] [] 1 [Ii r_4,.bool false] [] zG (ac zV (ac zV (ac zV (ac zV an)))) ?_
    exact ⟨rfl,(sw [] [] [.s 3,.a 47 (.bool ((r_4==(0:Int))&&(e_1.M != (0:Int))))] [] (ac (congrArg AV.bool (j7 zV):(.bool false:AV)=.bool ((r_4==(0:Int))&&(e_1.M != (0:Int)))) an))⟩
  refine cd 47 ((r_4==(0:Int))&&(e_1.M != (0:Int))) ?_ ?_
  ·intro g_9;replace h:=zP g_9 h
   refine sr [] [2] [] 0 [Ii 1] [] zG an ?_
   refine rt ?_
   cases h
   exact ⟨rfl,Nat.le_of_ble_eq_true rfl,by kernel_rfl⟩
  intro g_9;replace h:=zO g_9 h
  refine sk ?_
  refine sr [] [2] [] 0 [Ii r_4] [] zG an ?_
  refine rt ?_
  cases h
  exact ⟨rfl,Nat.le_of_ble_eq_true rfl,by kernel_rfl⟩
 intro e st1 hk
 rcases o_1 with q_1 | q_2
 rotate_left
 ·obtain ⟨rfl,hf⟩:=hk
  cases h
  exact ⟨st1,Sub.refl _ _,.inr rfl,hf⟩
 obtain ⟨rfl,hs⟩:=hk
 refine ⟨_,hs,?_⟩
 refine sq ?_
 obtain ⟨r_6,h_8,h⟩:=bind_some h
 refine rg [(2,{ av:=Ii r_6,l:=[Ii e_1.N,Ii 0,Ii 1000000000000000] })] [1,4] [0] 1 [Pp 0,Ii r_6] [Vb 42 (zU e_1)] zG (ar ([Ii e_1.N,Ii 0,Ii 1000000000000000]:List AV) (ac (rfl:([]:List zT)=[]) (ac (qT e_1.N (0:Int) (1000000000000000:Int) r_6 h_8:zW prog 88 [] [] [Ii e_1.N,Ii 0,Ii 1000000000000000] [] (Ii r_6)) an))) ?_
 refine sq ?_
 refine sq ?_
 refine y9 (mk [(1,Pp 0),(4,Ii r_6),(58,.bool ((r_6==(0:Int))&&(e_1.Kind==(11:Int))))] [(0,Vb 42 (zU e_1))] 1) ?_ ?_
 ·rcases bft (r_6==(0:Int)) with yF | yF
  ·refine rg [(6,Ht)] [1,4,58] [0] 1 [Pp 0,Ii r_6,.bool (e_1.Kind==(11:Int))] [Vb 42 (zU e_1)] zG (ac yF (ac yF (ac yF (ac yF an)))) ?_
   exact ⟨rfl,(sw [0] [] [.s 1,.s 4,.a 58 (.bool ((r_6==(0:Int))&&(e_1.Kind==(11:Int))))] [.s 0] (ac (congrArg AV.bool (uP yF rfl):(.bool (e_1.Kind==(11:Int)):AV)=.bool ((r_6==(0:Int))&&(e_1.Kind==(11:Int)))) an))⟩
  ·refine rg [(3,Hg),(4,Hg),(5,Hg),(6,Hf)] [1,4,58] [0] 1 [Pp 0,Ii r_6,.bool false] [Vb 42 (zU e_1)] zG (ac yF (ac yF (ac yF (ac yF an)))) ?_
   exact ⟨rfl,(sw [0] [] [.s 1,.s 4,.a 58 (.bool ((r_6==(0:Int))&&(e_1.Kind==(11:Int))))] [.s 0] (ac (congrArg AV.bool (j7 yF):(.bool false:AV)=.bool ((r_6==(0:Int))&&(e_1.Kind==(11:Int)))) an))⟩
 refine cd 58 ((r_6==(0:Int))&&(e_1.Kind==(11:Int))) ?_ ?_
 ·intro g_10;replace h:=zP g_10 h
  refine sq ?_
  obtain ⟨r_7,h_9,h⟩:=bind_some h
  refine rg [(2,{ av:=Ii r_7,l:=[Ii e_1.M,Ii 1,Ii 1000000000000] })] [2] [] 1 [Ii r_7] [] zG (ar ([Ii e_1.M,Ii 1,Ii 1000000000000]:List AV) (ac (rfl:([]:List zT)=[]) (ac (qT e_1.M (1:Int) (1000000000000:Int) r_7 h_9:zW prog 88 [] [] [Ii e_1.M,Ii 1,Ii 1000000000000] [] (Ii r_7)) an))) ?_
  refine rt ?_
  cases h
  exact ⟨.inr rfl,Nat.le_of_ble_eq_true rfl,by kernel_rfl⟩
 intro g_10;replace h:=zO g_10 h
 refine sk ?_
 refine sr [] [2] [] 1 [Ii r_6] [] zG an ?_
 refine rt ?_
 cases h
 exact ⟨.inr rfl,Nat.le_of_ble_eq_true rfl,by kernel_rfl⟩
theorem zKc (F:Nat) (e_1:zK) (r:Int) (h:zBZ F e_1=some r):zW prog 71 [] [] [zD e_1] [] (Ii r):=by
 refine yA (fn:=Go.Proofs.Try.f71) (code:=xC Go.Proofs.Try.f71) (by kernel_rfl) (by kernel_rfl) (Nat.le_of_ble_eq_true (by kernel_rfl)) ?_
 unfold zBZ at h
 refine sr [(0,{ id:=0 })] [1] [0] 1 [Pp 0] [Vb 42 (zU e_1)] zG an ?_
 refine sq ?_
 refine sq ?_
 refine y9 (mk [(1,Pp 0),(15,.bool (decide (e_1.At<(0:Int))||decide (e_1.At>(1000000000000:Int))))] [(0,Vb 42 (zU e_1))] 1) ?_ ?_
 ·rcases bft (decide (e_1.At<(0:Int))) with zH | zH
  ·refine rg [(4,Hg),(5,Hg),(6,Hg),(7,Ht)] [1,15] [0] 1 [Pp 0,.bool true] [Vb 42 (zU e_1)] zG (ac zH (ac zH (ac zH (ac zH an)))) ?_
   exact ⟨rfl,(sw [0] [] [.s 1,.a 15 (.bool (decide (e_1.At<(0:Int))||decide (e_1.At>(1000000000000:Int))))] [.s 0] (ac (congrArg AV.bool (ort zH):(.bool true:AV)=.bool (decide (e_1.At<(0:Int))||decide (e_1.At>(1000000000000:Int)))) an))⟩
  ·refine rg [(7,Hf)] [1,15] [0] 1 [Pp 0,.bool (decide (e_1.At>(1000000000000:Int)))] [Vb 42 (zU e_1)] zG (ac zH (ac zH (ac zH (ac zH an)))) ?_
   exact ⟨rfl,(sw [0] [] [.s 1,.a 15 (.bool (decide (e_1.At<(0:Int))||decide (e_1.At>(1000000000000:Int))))] [.s 0] (ac (congrArg AV.bool (orf zH rfl):(.bool (decide (e_1.At>(1000000000000:Int))):AV)=.bool (decide (e_1.At<(0:Int))||decide (e_1.At>(1000000000000:Int)))) an))⟩
 refine cd 15 (decide (e_1.At<(0:Int))||decide (e_1.At>(1000000000000:Int))) ?_ ?_
 ·intro g_1;replace h:=zP g_1 h
  refine sr [] [2] [] 1 [Ii 2] [] zG an ?_
  refine rt ?_
  cases h
  exact ⟨.inr rfl,Nat.le_of_ble_eq_true rfl,by kernel_rfl⟩
 intro g_1;replace h:=zO g_1 h
 refine sk ?_
 refine sq ?_
 refine sq ?_
 refine y9 (mk [(1,Pp 0),(23,.bool (decide (e_1.Kind<(1:Int))||decide (e_1.Kind>(12:Int))))] [(0,Vb 42 (zU e_1))] 1) ?_ ?_
 ·rcases bft (decide (e_1.Kind<(1:Int))) with zI | zI
  ·refine rg [(4,Hg),(5,Hg),(6,Hg),(7,Ht)] [1,23] [0] 1 [Pp 0,.bool true] [Vb 42 (zU e_1)] zG (ac zI (ac zI (ac zI (ac zI an)))) ?_
   exact ⟨rfl,(sw [0] [] [.s 1,.a 23 (.bool (decide (e_1.Kind<(1:Int))||decide (e_1.Kind>(12:Int))))] [.s 0] (ac (congrArg AV.bool (ort zI):(.bool true:AV)=.bool (decide (e_1.Kind<(1:Int))||decide (e_1.Kind>(12:Int)))) an))⟩
  ·refine rg [(7,Hf)] [1,23] [0] 1 [Pp 0,.bool (decide (e_1.Kind>(12:Int)))] [Vb 42 (zU e_1)] zG (ac zI (ac zI (ac zI (ac zI an)))) ?_
   exact ⟨rfl,(sw [0] [] [.s 1,.a 23 (.bool (decide (e_1.Kind<(1:Int))||decide (e_1.Kind>(12:Int))))] [.s 0] (ac (congrArg AV.bool (orf zI rfl):(.bool (decide (e_1.Kind>(12:Int))):AV)=.bool (decide (e_1.Kind<(1:Int))||decide (e_1.Kind>(12:Int)))) an))⟩
 refine cd 23 (decide (e_1.Kind<(1:Int))||decide (e_1.Kind>(12:Int))) ?_ ?_
 ·intro g_2;replace h:=zP g_2 h
  refine sr [] [2] [] 1 [Ii 1] [] zG an ?_
  refine rt ?_
  cases h
  exact ⟨.inr rfl,Nat.le_of_ble_eq_true rfl,by kernel_rfl⟩
 intro g_2;replace h:=zO g_2 h
 refine sk ?_
 refine sq ?_
 obtain ⟨r_1,h_1,h⟩:=bind_some h
 refine rg [(2,{ av:=.tuple [.bool r_1.1,.bool r_1.2.1,.bool r_1.2.2.1,.bool r_1.2.2.2],l:=[Ii e_1.Kind] })] [1,3,4,5,6] [0] 1 [Pp 0,.bool r_1.1,.bool r_1.2.1,.bool r_1.2.2.1,.bool r_1.2.2.2] [Vb 42 (zU e_1)] zG (ar ([Ii e_1.Kind]:List AV) (ac (rfl:([]:List zT)=[]) (ac (zKu e_1.Kind r_1 h_1:zW prog 80 [] [] [Ii e_1.Kind] [] (.tuple [.bool r_1.1,.bool r_1.2.1,.bool r_1.2.2.1,.bool r_1.2.2.2])) an))) ?_
 refine sq ?_
 refine sq ?_
 obtain ⟨p_1,h_2,h⟩:=bind_some h
 refine y9 (mk [(1,Pp 0),(3,.bool r_1.1),(6,.bool r_1.2.2.2),(66,.bool p_1)] [(0,Vb 42 (zU e_1))] 1) ?_ ?_
 ·replace h:=h_2
  rcases bft (!r_1.1) with zN | zN
  ·replace h:=zP zN h
   rcases bft (!(e_1.Name==([]:List Int))) with zV | zV
   ·replace h:=zP zV h
    refine rg [(6,Ht),(8,Hg),(9,Hg),(10,Hg),(14,Hg),(15,Ht),(17,Hg),(18,Hg),(19,Hg),(23,Hg),(24,Ht),(26,Hg),(27,Hg),(28,Hg),(33,Hg),(34,Ht)] [1,3,6,66] [0] 1 [Pp 0,.bool r_1.1,.bool r_1.2.2.2,.bool true] [Vb 42 (zU e_1)] zG (ac zN (ac zN (ac zN (ac zN (ac zV (ac zV (ac zV (ac zV (ac zV (ax (ax (ax (ax (ar true (ax (ax (ax (ax (ar true an))))))))))))))))))) ?_
    cases h
    exact ⟨rfl,(sw [0] [] [.s 1,.s 3,.s 6,.s 66] [.s 0] an)⟩
   ·replace h:=zO zV h
    rcases bft (!r_1.2.1) with yF | yF
    ·replace h:=zP yF h
     rcases bft (e_1.N != (0:Int)) with xA | xA
     ·replace h:=zP xA h
      refine rg [(6,Ht),(14,Ht),(15,Hf),(17,Hg),(18,Hg),(19,Hg),(23,Hg),(24,Ht),(26,Hg),(27,Hg),(28,Hg),(33,Hg),(34,Ht)] [1,3,6,66] [0] 1 [Pp 0,.bool r_1.1,.bool r_1.2.2.2,.bool true] [Vb 42 (zU e_1)] zG (ac zN (ac zN (ac zN (ac zN (ac zV (ac zV (ac zV (ac yF (ac yF (ac yF (ac zV (ac yF (ac zV (ac xA (ac xA (ac xA (ac xA (ac xA (ax (ax (ax (ax (ar true an))))))))))))))))))))))) ?_
      cases h
      exact ⟨rfl,(sw [0] [] [.s 1,.s 3,.s 6,.s 66] [.s 0] an)⟩
     ·replace h:=zO xA h
      rcases bft (!r_1.2.2.1) with y5 | y5
      ·replace h:=zP y5 h
       rcases bft (e_1.M != (0:Int)) with xB | xB
       ·replace h:=zP xB h
        refine rg [(6,Ht),(14,Ht),(15,Hf),(23,Ht),(24,Hf),(26,Hg),(27,Hg),(28,Hg),(33,Hg),(34,Ht)] [1,3,6,66] [0] 1 [Pp 0,.bool r_1.1,.bool r_1.2.2.2,.bool true] [Vb 42 (zU e_1)] zG (ac zN (ac zN (ac zN (ac zN (ac zV (ac zV (ac zV (ac yF (ac yF (ac yF (ac zV (ac yF (ac zV (ac xA (ac xA (ac xA (ac y5 (ac y5 (ac y5 (ac xA (ac y5 (ac xA (ac xB (ac xB (ac xB (ac xB (ac xB an))))))))))))))))))))))))))) ?_
        cases h
        exact ⟨rfl,(sw [0] [] [.s 1,.s 3,.s 6,.s 66] [.s 0] an)⟩
       ·replace h:=zO xB h
        rcases bft (!r_1.2.2.2) with wB | wB
        ·replace h:=zP wB h
         refine rg [(6,Ht),(14,Ht),(15,Hf),(23,Ht),(24,Hf),(31,{ n:=(e_1.Stack).length }),(33,Ht),(34,Hf)] [1,3,6,66] [0] 1 [Pp 0,.bool r_1.1,.bool r_1.2.2.2,.bool (decide ((lN (e_1.Stack))>(0:Int)))] [Vb 42 (zU e_1)] zG (ac zN (ac zN (ac zN (ac zN (ac zV (ac zV (ac zV (ac yF (ac yF (ac yF (ac zV (ac yF (ac zV (ac xA (ac xA (ac xA (ac y5 (ac y5 (ac y5 (ac xA (ac y5 (ac xA (ac xB (ac xB (ac xB (ac wB (ac wB (ac wB (ac (z9 _:((Ms e_1.Stack)).length=(e_1.Stack).length) (ac wB (ac xB (ac wB (ac xB an))))))))))))))))))))))))))))))))) ?_
         cases h
         exact ⟨rfl,(sw [0] [] [.s 1,.s 3,.s 6,.s 66] [.s 0] an)⟩
        ·replace h:=zO wB h
         refine rg [(6,Ht),(14,Ht),(15,Hf),(23,Ht),(24,Hf),(29,Hg),(30,Hg),(31,Hg),(32,Hg),(33,Hf),(34,Hf)] [1,3,6,66] [0] 1 [Pp 0,.bool r_1.1,.bool r_1.2.2.2,.bool false] [Vb 42 (zU e_1)] zG (ac zN (ac zN (ac zN (ac zN (ac zV (ac zV (ac zV (ac yF (ac yF (ac yF (ac zV (ac yF (ac zV (ac xA (ac xA (ac xA (ac y5 (ac y5 (ac y5 (ac xA (ac y5 (ac xA (ac xB (ac xB (ac xB (ac wB (ac wB (ac wB (ac wB (ac xB (ac wB (ac xB an)))))))))))))))))))))))))))))))) ?_
         cases h
         exact ⟨rfl,(sw [0] [] [.s 1,.s 3,.s 6,.s 66] [.s 0] an)⟩
      ·replace h:=zO y5 h
       rcases bft (!r_1.2.2.2) with xF | xF
       ·replace h:=zP xF h
        refine rg [(6,Ht),(14,Ht),(15,Hf),(20,Hg),(21,Hg),(22,Hg),(23,Hf),(24,Hf),(31,{ n:=(e_1.Stack).length }),(33,Ht),(34,Hf)] [1,3,6,66] [0] 1 [Pp 0,.bool r_1.1,.bool r_1.2.2.2,.bool (decide ((lN (e_1.Stack))>(0:Int)))] [Vb 42 (zU e_1)] zG (ac zN (ac zN (ac zN (ac zN (ac zV (ac zV (ac zV (ac yF (ac yF (ac yF (ac zV (ac yF (ac zV (ac xA (ac xA (ac xA (ac y5 (ac y5 (ac y5 (ac xA (ac y5 (ac xA (ar false (ar false (ar false (ac xF (ac xF (ac xF (ac (z9 _:((Ms e_1.Stack)).length=(e_1.Stack).length) (ac xF (ar false (ac xF (ar false an))))))))))))))))))))))))))))))))) ?_
        cases h
        exact ⟨rfl,(sw [0] [] [.s 1,.s 3,.s 6,.s 66] [.s 0] an)⟩
       ·replace h:=zO xF h
        refine rg [(6,Ht),(14,Ht),(15,Hf),(20,Hg),(21,Hg),(22,Hg),(23,Hf),(24,Hf),(29,Hg),(30,Hg),(31,Hg),(32,Hg),(33,Hf),(34,Hf)] [1,3,6,66] [0] 1 [Pp 0,.bool r_1.1,.bool r_1.2.2.2,.bool false] [Vb 42 (zU e_1)] zG (ac zN (ac zN (ac zN (ac zN (ac zV (ac zV (ac zV (ac yF (ac yF (ac yF (ac zV (ac yF (ac zV (ac xA (ac xA (ac xA (ac y5 (ac y5 (ac y5 (ac xA (ac y5 (ac xA (ar false (ar false (ar false (ac xF (ac xF (ac xF (ac xF (ar false (ac xF (ar false an)))))))))))))))))))))))))))))))) ?_
        cases h
        exact ⟨rfl,(sw [0] [] [.s 1,.s 3,.s 6,.s 66] [.s 0] an)⟩
    ·replace h:=zO yF h
     rcases bft (!r_1.2.2.1) with xJ | xJ
     ·replace h:=zP xJ h
      rcases bft (e_1.M != (0:Int)) with y2 | y2
      ·replace h:=zP y2 h
       refine rg [(6,Ht),(11,Hg),(12,Hg),(13,Hg),(14,Hf),(15,Hf),(23,Ht),(24,Hf),(26,Hg),(27,Hg),(28,Hg),(33,Hg),(34,Ht)] [1,3,6,66] [0] 1 [Pp 0,.bool r_1.1,.bool r_1.2.2.2,.bool true] [Vb 42 (zU e_1)] zG (ac zN (ac zN (ac zN (ac zN (ac zV (ac zV (ac zV (ac yF (ac yF (ac yF (ac zV (ac yF (ac zV (ar false (ar false (ar false (ac xJ (ac xJ (ac xJ (ar false (ac xJ (ar false (ac y2 (ac y2 (ac y2 (ac y2 (ac y2 an))))))))))))))))))))))))))) ?_
       cases h
       exact ⟨rfl,(sw [0] [] [.s 1,.s 3,.s 6,.s 66] [.s 0] an)⟩
      ·replace h:=zO y2 h
       rcases bft (!r_1.2.2.2) with x5 | x5
       ·replace h:=zP x5 h
        refine rg [(6,Ht),(11,Hg),(12,Hg),(13,Hg),(14,Hf),(15,Hf),(23,Ht),(24,Hf),(31,{ n:=(e_1.Stack).length }),(33,Ht),(34,Hf)] [1,3,6,66] [0] 1 [Pp 0,.bool r_1.1,.bool r_1.2.2.2,.bool (decide ((lN (e_1.Stack))>(0:Int)))] [Vb 42 (zU e_1)] zG (ac zN (ac zN (ac zN (ac zN (ac zV (ac zV (ac zV (ac yF (ac yF (ac yF (ac zV (ac yF (ac zV (ar false (ar false (ar false (ac xJ (ac xJ (ac xJ (ar false (ac xJ (ar false (ac y2 (ac y2 (ac y2 (ac x5 (ac x5 (ac x5 (ac (z9 _:((Ms e_1.Stack)).length=(e_1.Stack).length) (ac x5 (ac y2 (ac x5 (ac y2 an))))))))))))))))))))))))))))))))) ?_
        cases h
        exact ⟨rfl,(sw [0] [] [.s 1,.s 3,.s 6,.s 66] [.s 0] an)⟩
       ·replace h:=zO x5 h
        refine rg [(6,Ht),(11,Hg),(12,Hg),(13,Hg),(14,Hf),(15,Hf),(23,Ht),(24,Hf),(29,Hg),(30,Hg),(31,Hg),(32,Hg),(33,Hf),(34,Hf)] [1,3,6,66] [0] 1 [Pp 0,.bool r_1.1,.bool r_1.2.2.2,.bool false] [Vb 42 (zU e_1)] zG (ac zN (ac zN (ac zN (ac zN (ac zV (ac zV (ac zV (ac yF (ac yF (ac yF (ac zV (ac yF (ac zV (ar false (ar false (ar false (ac xJ (ac xJ (ac xJ (ar false (ac xJ (ar false (ac y2 (ac y2 (ac y2 (ac x5 (ac x5 (ac x5 (ac x5 (ac y2 (ac x5 (ac y2 an)))))))))))))))))))))))))))))))) ?_
        cases h
        exact ⟨rfl,(sw [0] [] [.s 1,.s 3,.s 6,.s 66] [.s 0] an)⟩
     ·replace h:=zO xJ h
      rcases bft (!r_1.2.2.2) with wC | wC
      ·replace h:=zP wC h
       refine rg [(6,Ht),(11,Hg),(12,Hg),(13,Hg),(14,Hf),(15,Hf),(20,Hg),(21,Hg),(22,Hg),(23,Hf),(24,Hf),(31,{ n:=(e_1.Stack).length }),(33,Ht),(34,Hf)] [1,3,6,66] [0] 1 [Pp 0,.bool r_1.1,.bool r_1.2.2.2,.bool (decide ((lN (e_1.Stack))>(0:Int)))] [Vb 42 (zU e_1)] zG (ac zN (ac zN (ac zN (ac zN (ac zV (ac zV (ac zV (ac yF (ac yF (ac yF (ac zV (ac yF (ac zV (ar false (ar false (ar false (ac xJ (ac xJ (ac xJ (ar false (ac xJ (ar false (ar false (ar false (ar false (ac wC (ac wC (ac wC (ac (z9 _:((Ms e_1.Stack)).length=(e_1.Stack).length) (ac wC (ar false (ac wC (ar false an))))))))))))))))))))))))))))))))) ?_
       cases h
       exact ⟨rfl,(sw [0] [] [.s 1,.s 3,.s 6,.s 66] [.s 0] an)⟩
      ·replace h:=zO wC h
       refine rg [(6,Ht),(11,Hg),(12,Hg),(13,Hg),(14,Hf),(15,Hf),(20,Hg),(21,Hg),(22,Hg),(23,Hf),(24,Hf),(29,Hg),(30,Hg),(31,Hg),(32,Hg),(33,Hf),(34,Hf)] [1,3,6,66] [0] 1 [Pp 0,.bool r_1.1,.bool r_1.2.2.2,.bool false] [Vb 42 (zU e_1)] zG (ac zN (ac zN (ac zN (ac zN (ac zV (ac zV (ac zV (ac yF (ac yF (ac yF (ac zV (ac yF (ac zV (ar false (ar false (ar false (ac xJ (ac xJ (ac xJ (ar false (ac xJ (ar false (ar false (ar false (ar false (ac wC (ac wC (ac wC (ac wC (ar false (ac wC (ar false an)))))))))))))))))))))))))))))))) ?_
       cases h
       exact ⟨rfl,(sw [0] [] [.s 1,.s 3,.s 6,.s 66] [.s 0] an)⟩
  ·replace h:=zO zN h
   rcases bft (!r_1.2.1) with y4 | y4
   ·replace h:=zP y4 h
    rcases bft (e_1.N != (0:Int)) with xN | xN
    ·replace h:=zP xN h
     refine rg [(3,Hg),(4,Hg),(5,Hg),(6,Hf),(14,Ht),(15,Hf),(17,Hg),(18,Hg),(19,Hg),(23,Hg),(24,Ht),(26,Hg),(27,Hg),(28,Hg),(33,Hg),(34,Ht)] [1,3,6,66] [0] 1 [Pp 0,.bool r_1.1,.bool r_1.2.2.2,.bool true] [Vb 42 (zU e_1)] zG (ac zN (ac zN (ac zN (ac zN (ar false (ar false (ar false (ac y4 (ac y4 (ac y4 (ar false (ac y4 (ar false (ac xN (ac xN (ac xN (ac xN (ac xN (ax (ax (ax (ax (ar true an))))))))))))))))))))))) ?_
     cases h
     exact ⟨rfl,(sw [0] [] [.s 1,.s 3,.s 6,.s 66] [.s 0] an)⟩
    ·replace h:=zO xN h
     rcases bft (!r_1.2.2.1) with wS | wS
     ·replace h:=zP wS h
      rcases bft (e_1.M != (0:Int)) with w6 | w6
      ·replace h:=zP w6 h
       refine rg [(3,Hg),(4,Hg),(5,Hg),(6,Hf),(14,Ht),(15,Hf),(23,Ht),(24,Hf),(26,Hg),(27,Hg),(28,Hg),(33,Hg),(34,Ht)] [1,3,6,66] [0] 1 [Pp 0,.bool r_1.1,.bool r_1.2.2.2,.bool true] [Vb 42 (zU e_1)] zG (ac zN (ac zN (ac zN (ac zN (ar false (ar false (ar false (ac y4 (ac y4 (ac y4 (ar false (ac y4 (ar false (ac xN (ac xN (ac xN (ac wS (ac wS (ac wS (ac xN (ac wS (ac xN (ac w6 (ac w6 (ac w6 (ac w6 (ac w6 an))))))))))))))))))))))))))) ?_
       cases h
       exact ⟨rfl,(sw [0] [] [.s 1,.s 3,.s 6,.s 66] [.s 0] an)⟩
      ·replace h:=zO w6 h
       rcases bft (!r_1.2.2.2) with uX | uX
       ·replace h:=zP uX h
        refine rg [(3,Hg),(4,Hg),(5,Hg),(6,Hf),(14,Ht),(15,Hf),(23,Ht),(24,Hf),(31,{ n:=(e_1.Stack).length }),(33,Ht),(34,Hf)] [1,3,6,66] [0] 1 [Pp 0,.bool r_1.1,.bool r_1.2.2.2,.bool (decide ((lN (e_1.Stack))>(0:Int)))] [Vb 42 (zU e_1)] zG (ac zN (ac zN (ac zN (ac zN (ar false (ar false (ar false (ac y4 (ac y4 (ac y4 (ar false (ac y4 (ar false (ac xN (ac xN (ac xN (ac wS (ac wS (ac wS (ac xN (ac wS (ac xN (ac w6 (ac w6 (ac w6 (ac uX (ac uX (ac uX (ac (z9 _:((Ms e_1.Stack)).length=(e_1.Stack).length) (ac uX (ac w6 (ac uX (ac w6 an))))))))))))))))))))))))))))))))) ?_
        cases h
        exact ⟨rfl,(sw [0] [] [.s 1,.s 3,.s 6,.s 66] [.s 0] an)⟩
       ·replace h:=zO uX h
        refine rg [(3,Hg),(4,Hg),(5,Hg),(6,Hf),(14,Ht),(15,Hf),(23,Ht),(24,Hf),(29,Hg),(30,Hg),(31,Hg),(32,Hg),(33,Hf),(34,Hf)] [1,3,6,66] [0] 1 [Pp 0,.bool r_1.1,.bool r_1.2.2.2,.bool false] [Vb 42 (zU e_1)] zG (ac zN (ac zN (ac zN (ac zN (ar false (ar false (ar false (ac y4 (ac y4 (ac y4 (ar false (ac y4 (ar false (ac xN (ac xN (ac xN (ac wS (ac wS (ac wS (ac xN (ac wS (ac xN (ac w6 (ac w6 (ac w6 (ac uX (ac uX (ac uX (ac uX (ac w6 (ac uX (ac w6 an)))))))))))))))))))))))))))))))) ?_
        cases h
        exact ⟨rfl,(sw [0] [] [.s 1,.s 3,.s 6,.s 66] [.s 0] an)⟩
     ·replace h:=zO wS h
      rcases bft (!r_1.2.2.2) with uY | uY
      ·replace h:=zP uY h
       refine rg [(3,Hg),(4,Hg),(5,Hg),(6,Hf),(14,Ht),(15,Hf),(20,Hg),(21,Hg),(22,Hg),(23,Hf),(24,Hf),(31,{ n:=(e_1.Stack).length }),(33,Ht),(34,Hf)] [1,3,6,66] [0] 1 [Pp 0,.bool r_1.1,.bool r_1.2.2.2,.bool (decide ((lN (e_1.Stack))>(0:Int)))] [Vb 42 (zU e_1)] zG (ac zN (ac zN (ac zN (ac zN (ar false (ar false (ar false (ac y4 (ac y4 (ac y4 (ar false (ac y4 (ar false (ac xN (ac xN (ac xN (ac wS (ac wS (ac wS (ac xN (ac wS (ac xN (ar false (ar false (ar false (ac uY (ac uY (ac uY (ac (z9 _:((Ms e_1.Stack)).length=(e_1.Stack).length) (ac uY (ar false (ac uY (ar false an))))))))))))))))))))))))))))))))) ?_
       cases h
       exact ⟨rfl,(sw [0] [] [.s 1,.s 3,.s 6,.s 66] [.s 0] an)⟩
      ·replace h:=zO uY h
       refine rg [(3,Hg),(4,Hg),(5,Hg),(6,Hf),(14,Ht),(15,Hf),(20,Hg),(21,Hg),(22,Hg),(23,Hf),(24,Hf),(29,Hg),(30,Hg),(31,Hg),(32,Hg),(33,Hf),(34,Hf)] [1,3,6,66] [0] 1 [Pp 0,.bool r_1.1,.bool r_1.2.2.2,.bool false] [Vb 42 (zU e_1)] zG (ac zN (ac zN (ac zN (ac zN (ar false (ar false (ar false (ac y4 (ac y4 (ac y4 (ar false (ac y4 (ar false (ac xN (ac xN (ac xN (ac wS (ac wS (ac wS (ac xN (ac wS (ac xN (ar false (ar false (ar false (ac uY (ac uY (ac uY (ac uY (ar false (ac uY (ar false an)))))))))))))))))))))))))))))))) ?_
       cases h
       exact ⟨rfl,(sw [0] [] [.s 1,.s 3,.s 6,.s 66] [.s 0] an)⟩
   ·replace h:=zO y4 h
    rcases bft (!r_1.2.2.1) with wT | wT
    ·replace h:=zP wT h
     rcases bft (e_1.M != (0:Int)) with w7 | w7
     ·replace h:=zP w7 h
      refine rg [(3,Hg),(4,Hg),(5,Hg),(6,Hf),(11,Hg),(12,Hg),(13,Hg),(14,Hf),(15,Hf),(23,Ht),(24,Hf),(26,Hg),(27,Hg),(28,Hg),(33,Hg),(34,Ht)] [1,3,6,66] [0] 1 [Pp 0,.bool r_1.1,.bool r_1.2.2.2,.bool true] [Vb 42 (zU e_1)] zG (ac zN (ac zN (ac zN (ac zN (ar false (ar false (ar false (ac y4 (ac y4 (ac y4 (ar false (ac y4 (ar false (ar false (ar false (ar false (ac wT (ac wT (ac wT (ar false (ac wT (ar false (ac w7 (ac w7 (ac w7 (ac w7 (ac w7 an))))))))))))))))))))))))))) ?_
      cases h
      exact ⟨rfl,(sw [0] [] [.s 1,.s 3,.s 6,.s 66] [.s 0] an)⟩
     ·replace h:=zO w7 h
      rcases bft (!r_1.2.2.2) with uZ | uZ
      ·replace h:=zP uZ h
       refine rg [(3,Hg),(4,Hg),(5,Hg),(6,Hf),(11,Hg),(12,Hg),(13,Hg),(14,Hf),(15,Hf),(23,Ht),(24,Hf),(31,{ n:=(e_1.Stack).length }),(33,Ht),(34,Hf)] [1,3,6,66] [0] 1 [Pp 0,.bool r_1.1,.bool r_1.2.2.2,.bool (decide ((lN (e_1.Stack))>(0:Int)))] [Vb 42 (zU e_1)] zG (ac zN (ac zN (ac zN (ac zN (ar false (ar false (ar false (ac y4 (ac y4 (ac y4 (ar false (ac y4 (ar false (ar false (ar false (ar false (ac wT (ac wT (ac wT (ar false (ac wT (ar false (ac w7 (ac w7 (ac w7 (ac uZ (ac uZ (ac uZ (ac (z9 _:((Ms e_1.Stack)).length=(e_1.Stack).length) (ac uZ (ac w7 (ac uZ (ac w7 an))))))))))))))))))))))))))))))))) ?_
       cases h
       exact ⟨rfl,(sw [0] [] [.s 1,.s 3,.s 6,.s 66] [.s 0] an)⟩
      ·replace h:=zO uZ h
       refine rg [(3,Hg),(4,Hg),(5,Hg),(6,Hf),(11,Hg),(12,Hg),(13,Hg),(14,Hf),(15,Hf),(23,Ht),(24,Hf),(29,Hg),(30,Hg),(31,Hg),(32,Hg),(33,Hf),(34,Hf)] [1,3,6,66] [0] 1 [Pp 0,.bool r_1.1,.bool r_1.2.2.2,.bool false] [Vb 42 (zU e_1)] zG (ac zN (ac zN (ac zN (ac zN (ar false (ar false (ar false (ac y4 (ac y4 (ac y4 (ar false (ac y4 (ar false (ar false (ar false (ar false (ac wT (ac wT (ac wT (ar false (ac wT (ar false (ac w7 (ac w7 (ac w7 (ac uZ (ac uZ (ac uZ (ac uZ (ac w7 (ac uZ (ac w7 an)))))))))))))))))))))))))))))))) ?_
       cases h
       exact ⟨rfl,(sw [0] [] [.s 1,.s 3,.s 6,.s 66] [.s 0] an)⟩
    ·replace h:=zO wT h
     rcases bft (!r_1.2.2.2) with u0 | u0
     ·replace h:=zP u0 h
      refine rg [(3,Hg),(4,Hg),(5,Hg),(6,Hf),(11,Hg),(12,Hg),(13,Hg),(14,Hf),(15,Hf),(20,Hg),(21,Hg),(22,Hg),(23,Hf),(24,Hf),(31,{ n:=(e_1.Stack).length }),(33,Ht),(34,Hf)] [1,3,6,66] [0] 1 [Pp 0,.bool r_1.1,.bool r_1.2.2.2,.bool (decide ((lN (e_1.Stack))>(0:Int)))] [Vb 42 (zU e_1)] zG (ac zN (ac zN (ac zN (ac zN (ar false (ar false (ar false (ac y4 (ac y4 (ac y4 (ar false (ac y4 (ar false (ar false (ar false (ar false (ac wT (ac wT (ac wT (ar false (ac wT (ar false (ar false (ar false (ar false (ac u0 (ac u0 (ac u0 (ac (z9 _:((Ms e_1.Stack)).length=(e_1.Stack).length) (ac u0 (ar false (ac u0 (ar false an))))))))))))))))))))))))))))))))) ?_
      cases h
      exact ⟨rfl,(sw [0] [] [.s 1,.s 3,.s 6,.s 66] [.s 0] an)⟩
     ·replace h:=zO u0 h
      refine rg [(3,Hg),(4,Hg),(5,Hg),(6,Hf),(11,Hg),(12,Hg),(13,Hg),(14,Hf),(15,Hf),(20,Hg),(21,Hg),(22,Hg),(23,Hf),(24,Hf),(29,Hg),(30,Hg),(31,Hg),(32,Hg),(33,Hf),(34,Hf)] [1,3,6,66] [0] 1 [Pp 0,.bool r_1.1,.bool r_1.2.2.2,.bool false] [Vb 42 (zU e_1)] zG (ac zN (ac zN (ac zN (ac zN (ar false (ar false (ar false (ac y4 (ac y4 (ac y4 (ar false (ac y4 (ar false (ar false (ar false (ar false (ac wT (ac wT (ac wT (ar false (ac wT (ar false (ar false (ar false (ar false (ac u0 (ac u0 (ac u0 (ac u0 (ar false (ac u0 (ar false an)))))))))))))))))))))))))))))))) ?_
      cases h
      exact ⟨rfl,(sw [0] [] [.s 1,.s 3,.s 6,.s 66] [.s 0] an)⟩
 refine cd 66 p_1 ?_ ?_
 ·intro g_3;replace h:=zP g_3 h
  refine sr [] [2] [] 1 [Ii 1] [] zG an ?_
  refine rt ?_
  cases h
  exact ⟨.inr rfl,Nat.le_of_ble_eq_true rfl,by kernel_rfl⟩
 intro g_3;replace h:=zO g_3 h
 refine sk ?_
 refine sr [] [1,3,6,7] [0] 1 [Pp 0,.bool r_1.1,.bool r_1.2.2.2,Ii 0] [Vb 42 (zU e_1)] zG an ?_
 refine sq ?_
 refine sr [] [1,6,7,67] [0] 1 [Pp 0,.bool r_1.2.2.2,Ii 0,.bool r_1.1] [Vb 42 (zU e_1)] zG an ?_
 obtain ⟨o_1,h_3,h⟩:=bind_some h
 refine y9 (mk [(1,Pp 0),(6,.bool r_1.2.2.2),(7,Ii o_1)] [(0,Vb 42 (zU e_1))] 1) ?_ ?_
 ·replace h:=h_3
  refine cd 67 r_1.1 ?_ ?_
  rotate_left
  ·intro g_4;replace h:=zO g_4 h
   refine sk ?_
   cases h
   exact ⟨rfl,(sw [0] [] [.s 1,.s 6,.s 7] [.s 0] an)⟩
  intro g_4;replace h:=zP g_4 h
  obtain ⟨r_2,h_4,h⟩:=bind_some h
  refine rg [(2,{ av:=Ii r_2,l:=[.str e_1.Name] })] [1,6,7] [0] 1 [Pp 0,.bool r_1.2.2.2,Ii r_2] [Vb 42 (zU e_1)] zG (ar ([.str e_1.Name]:List AV) (ac (rfl:([]:List zT)=[]) (ac (zDg F e_1.Name r_2 h_4:zW prog 68 [] [] [.str e_1.Name] [] (Ii r_2)) an))) ?_
  cases h
  exact ⟨rfl,(sw [0] [] [.s 1,.s 6,.s 7] [.s 0] an)⟩
 refine sq ?_
 refine sr [] [1,7,71] [0] 1 [Pp 0,Ii o_1,.bool r_1.2.2.2] [Vb 42 (zU e_1)] zG an ?_
 obtain ⟨o_2,h_5,h⟩:=bind_some h
 refine y9 (mk [(1,Pp 0),(7,Ii o_2)] [(0,Vb 42 (zU e_1))] 1) ?_ ?_
 ·replace h:=h_5
  refine cd 71 r_1.2.2.2 ?_ ?_
  rotate_left
  ·intro g_5;replace h:=zO g_5 h
   refine sk ?_
   cases h
   exact ⟨rfl,(sw [0] [] [.s 1,.s 7] [.s 0] an)⟩
  intro g_5;replace h:=zP g_5 h
  obtain ⟨r_3,h_6,h⟩:=bind_some h
  refine rg [(2,{ av:=Ii r_3,l:=[.sl false 1 (Ms e_1.Stack)] })] [1,7] [0] 1 [Pp 0,Ii r_3] [Vb 42 (zU e_1)] zG (ar ([.sl false 1 (Ms e_1.Stack)]:List AV) (ac (rfl:([]:List zT)=[]) (ac (zIv F e_1.Stack r_3 h_6:zW prog 81 [] [] [.sl false 1 (Ms e_1.Stack)] [] (Ii r_3)) an))) ?_
  cases h
  exact ⟨rfl,(sw [0] [] [.s 1,.s 7] [.s 0] an)⟩
 refine sq ?_
 refine sr [] [1,7,76] [0] 1 [Pp 0,Ii o_2,.bool (o_2 != (0:Int))] [Vb 42 (zU e_1)] zG an ?_
 refine cd 76 (o_2 != (0:Int)) ?_ ?_
 ·intro g_6;replace h:=zP g_6 h
  refine sr [] [2] [] 1 [Ii o_2] [] zG an ?_
  refine rt ?_
  cases h
  exact ⟨.inr rfl,Nat.le_of_ble_eq_true rfl,by kernel_rfl⟩
 intro g_6;replace h:=zO g_6 h
 refine sk ?_
 refine sq ?_
 obtain ⟨r_4,h_7,h⟩:=bind_some h
 refine rg [(1,{ av:=Ii r_4,l:=[zD e_1] })] [2] [] 1 [Ii r_4] [] zG (ar ([zD e_1]:List AV) (ac (rfl:([]:List zT)=[]) (ac (zHs e_1 r_4 h_7:zW prog 82 [] [] [zD e_1] [] (Ii r_4)) an))) ?_
 refine rt ?_
 cases h
 exact ⟨.inr rfl,Nat.le_of_ble_eq_true rfl,by kernel_rfl⟩
theorem zGq (F:Nat) (l_1:List (zK)) (r:Int) (h:nA F l_1=some r):zW prog 57 [] [] [.sl false 6 (Mp zD l_1)] [] (Ii r):=by
 refine yA (fn:=Go.Proofs.Try.f57) (code:=xC Go.Proofs.Try.f57) (by kernel_rfl) (by kernel_rfl) (Nat.le_of_ble_eq_true (by kernel_rfl)) ?_
 unfold nA at h
 refine sr [] [0] [] 0 [.sl false 6 (Mp zD l_1)] [] zG an ?_
 refine sq ?_
 refine sr [] [0,3] [] 0 [.sl false 6 (Mp zD l_1),Ii 0] [] zG an ?_
 obtain ⟨o_1,h_1,h⟩:=bind_some h
 refine wK (K1:=(fun e st'=>match o_1 with | (.inl q0)=>e=.normal∧Sub 0 st' (mk [] [] 0) | (.inr q1)=>e=.ret∧uF prog Go.Proofs.Try.f57 0 [] (Ii q1) st')) ?_ ?_
 ·replace h:=h_1
  refine yC (id:=0) (by kernel_rfl) ?_
  refine wk [] [] [.s 0,.s 3] [] [(0,.sl false 6 (Mp zD l_1)),(3,Ii 0)] [] an ?_
  refine xH (fun n st=>∃ (i_1:Int),st=mk [(0,.sl false 6 (Mp zD l_1)),(3,Ii i_1)] [] 0∧qP F l_1 n i_1=some o_1) F (by kernel_rfl) ⟨_,rfl,h⟩ ?_ ?_
  ·rintro _ ⟨_,_,h⟩;exact xX (h:(none:Option (Unit⊕Int))=some o_1)
  rintro n_1 _ ⟨i_1,rfl,h⟩
  replace h:t0 F l_1 (qP F l_1 n_1) i_1=some o_1:=h
  unfold t0 at h
  refine sq ?_
  refine sr [(2,{ n:=(l_1).length })] [0,3,8] [] 0 [.sl false 6 (Mp zD l_1),Ii i_1,.bool (decide (i_1<(lN (l_1))))] [] zG (ac (z9 _:((Mp zD l_1)).length=(l_1).length) an) ?_
  refine cd 8 (decide (i_1<(lN (l_1)))) ?_ ?_
  rotate_left
  ·intro g_1;replace h:=zO g_1 h
   refine xS (id:=0) (by kernel_rfl) ?_
   cases h
   exact ⟨rfl,(sw [] [] [] [] an)⟩
  intro g_1;replace h:=zP g_1 h
  refine sk ?_
  refine sq ?_
  refine yC (id:=1) (by kernel_rfl) ?_
  refine sq ?_
  obtain ⟨x_1,h_2,h⟩:=bind_some h
  obtain ⟨r_1,h_3,h⟩:=bind_some h
  refine rg [(2,{ av:=zD x_1 }),(4,{ av:=Ii r_1,l:=[zD x_1] })] [0,3,4] [] 0 [.sl false 6 (Mp zD l_1),Ii i_1,Ii r_1] [] zG (ac (yP h_2:xG (Mp zD l_1) i_1=some (zD x_1)) (ar ([zD x_1]:List AV) (ac (rfl:([]:List zT)=[]) (ac (zKc F x_1 r_1 h_3:zW prog 71 [] [] [zD x_1] [] (Ii r_1)) an)))) ?_
  refine sq ?_
  refine sr [] [0,3,4,17] [] 0 [.sl false 6 (Mp zD l_1),Ii i_1,Ii r_1,.bool (r_1 != (0:Int))] [] zG an ?_
  refine cd 17 (r_1 != (0:Int)) ?_ ?_
  ·intro g_2;replace h:=zP g_2 h
   refine sr [] [2] [] 0 [Ii r_1] [] zG an ?_
   refine rt ?_
   cases h
   exact ⟨rfl,Nat.le_of_ble_eq_true rfl,by kernel_rfl⟩
  intro g_2;replace h:=zO g_2 h
  refine sk ?_
  refine sq ?_
  obtain ⟨p_1,h_6,h⟩:=bind_some h
  refine y9 (mk [(0,.sl false 6 (Mp zD l_1)),(3,Ii i_1),(34,.bool p_1)] [] 0) ?_ ?_
  ·replace h:=h_6
   rcases bft (decide (i_1>(0:Int))) with zV | zV
   ·replace h:=zP zV h
    obtain ⟨x_2,h_4,h⟩:=bind_some h
    obtain ⟨x_3,h_5,h⟩:=bind_some h
    refine rg [(5,{ av:=zD x_2 }),(11,{ av:=zD x_3 }),(15,Ht)] [0,3,22,23,24,25,26,27,28,29,30,31,32,33,34] [] 0 [.sl false 6 (Mp zD l_1),Ii i_1,.sl false 6 (Mp zD l_1),Ii i_1,.ref (zD x_2),.ref (Ii x_2.At),Ii x_2.At,.sl false 6 (Mp zD l_1),Ii i_1,Ii (zR (i_1 - (1:Int))),.ref (zD x_3),.ref (Ii x_3.At),Ii x_3.At,.bool (decide (x_2.At<x_3.At)),.bool (decide (x_2.At<x_3.At))] [] zG (ac zV (ac zV (ac zV (ac (yP h_4:xG (Mp zD l_1) i_1=some (zD x_2)) (ac zV (ac zV (ac zV (ac zV (ac zV (ac zV (ac (yP h_5:xG (Mp zD l_1) (zR (i_1 - (1:Int)))=some (zD x_3)) (ac zV (ac zV (ac zV (ac zV an))))))))))))))) ?_
    cases h
    exact ⟨rfl,(sw [] [] [.s 0,.s 3,.s 34] [] an)⟩
   ·replace h:=zO zV h
    refine rg [(3,Hg),(4,Hg),(5,Hg),(6,Hg),(7,Hg),(8,Hg),(9,Hg),(10,Hg),(11,Hg),(12,Hg),(13,Hg),(14,Hg),(15,Hf)] [0,3,22,23,24,25,26,27,28,29,30,31,32,33,34] [] 0 [.sl false 6 (Mp zD l_1),Ii i_1,.tuple [],.tuple [],.tuple [],.tuple [],.tuple [],.tuple [],.tuple [],.tuple [],.tuple [],.tuple [],.tuple [],.tuple [],.bool false] [] zG (ac zV (ac zV (ac zV (ac zV (ac zV (ac zV (ac zV (ac zV (ac zV (ac zV (ac zV (ac zV (ac zV an))))))))))))) ?_
    cases h
    exact ⟨rfl,(sw [] [] [.s 0,.s 3,.s 34] [] an)⟩
  refine cd 34 p_1 ?_ ?_
  rotate_left
  ·intro g_3;replace h:=zO g_3 h
   refine sk ?_
   refine rg [] [0,3] [] 0 [.sl false 6 (Mp zD l_1),Ii (zR (i_1+(1:Int)))] [] zG an ?_
   exact ⟨_,(sw [] [] [.s 0,.s 3] [] an),_,rfl,h⟩
  intro g_3;replace h:=zP g_3 h
  refine sr [] [2] [] 0 [Ii 11] [] zG an ?_
  refine rt ?_
  cases h
  exact ⟨rfl,Nat.le_of_ble_eq_true rfl,by kernel_rfl⟩
 intro e st1 hk
 rcases o_1 with q_1 | q_2
 rotate_left
 ·obtain ⟨rfl,hf⟩:=hk
  cases h
  exact ⟨st1,Sub.refl _ _,.inr rfl,hf⟩
 obtain ⟨rfl,hs⟩:=hk
 refine ⟨_,hs,?_⟩
 refine sr [] [2] [] 0 [Ii 0] [] zG an ?_
 refine rt ?_
 cases h
 exact ⟨.inr rfl,Nat.le_of_ble_eq_true rfl,by kernel_rfl⟩
theorem zI3 (F:Nat) (p_1:zB) (r:Int) (h:zBV F p_1=some r):zW prog 31 [] [] [zA p_1] [] (Ii r):=by
 refine yA (fn:=Go.Proofs.Try.f31) (code:=xC Go.Proofs.Try.f31) (by kernel_rfl) (by kernel_rfl) (Nat.le_of_ble_eq_true (by kernel_rfl)) ?_
 unfold zBV at h
 refine sr [(0,{ id:=0 })] [1] [0] 1 [Pp 0] [Vb 59 (zZ p_1)] zG an ?_
 refine sq ?_
 refine yC (id:=0) (by kernel_rfl) ?_
 refine sq ?_
 obtain ⟨p_2,h_4,h⟩:=bind_some h
 refine y9 (mk [(1,Pp 0),(3,.bool p_2)] [(0,Vb 59 (zZ p_1))] 1) ?_ ?_
 ·replace h:=h_4
  obtain ⟨r_1,h_1,h⟩:=bind_some h
  rcases bft (!r_1) with zH | zH
  ·replace h:=zP zH h
   refine rg [(2,{ av:=.bool r_1,l:=[Ii p_1.Thread] }),(5,Hg),(6,Hg),(7,Hg),(8,Hg),(9,Ht),(11,Hg),(12,Hg),(13,Hg),(14,Hg),(15,Ht),(17,Hg),(18,Hg),(19,Hg),(20,Hg),(21,Hg),(22,Ht)] [1,3] [0] 1 [Pp 0,.bool true] [Vb 59 (zZ p_1)] zG (ar ([Ii p_1.Thread]:List AV) (ac (rfl:([]:List zT)=[]) (ac (tJ p_1.Thread r_1 h_1:zW prog 56 [] [] [Ii p_1.Thread] [] (.bool r_1)) (ac zH (ac zH (ac zH (ac zH (ac zH (ax (ax (ax (ax (ar true (ax (ax (ax (ax (ax (ar true an))))))))))))))))))) ?_
   cases h
   exact ⟨rfl,(sw [0] [] [.s 1,.s 3] [.s 0] an)⟩
  ·replace h:=zO zH h
   obtain ⟨r_2,h_2,h⟩:=bind_some h
   rcases bft (!r_2) with zI | zI
   ·replace h:=zP zI h
    refine rg [(2,{ av:=.bool r_1,l:=[Ii p_1.Thread] }),(7,{ av:=.bool r_2,l:=[Ii p_1.Serial] }),(9,Hf),(11,Hg),(12,Hg),(13,Hg),(14,Hg),(15,Ht),(17,Hg),(18,Hg),(19,Hg),(20,Hg),(21,Hg),(22,Ht)] [1,3] [0] 1 [Pp 0,.bool true] [Vb 59 (zZ p_1)] zG (ar ([Ii p_1.Thread]:List AV) (ac (rfl:([]:List zT)=[]) (ac (tJ p_1.Thread r_1 h_1:zW prog 56 [] [] [Ii p_1.Thread] [] (.bool r_1)) (ac zH (ac zH (ac zH (ar ([Ii p_1.Serial]:List AV) (ac (rfl:([]:List zT)=[]) (ac (tJ p_1.Serial r_2 h_2:zW prog 56 [] [] [Ii p_1.Serial] [] (.bool r_2)) (ac zH (ac zH (ac zI (ac zI (ac zI (ac zI (ac zI (ax (ax (ax (ax (ax (ar true an)))))))))))))))))))))) ?_
    cases h
    exact ⟨rfl,(sw [0] [] [.s 1,.s 3] [.s 0] an)⟩
   ·replace h:=zO zI h
    obtain ⟨r_3,h_3,h⟩:=bind_some h
    rcases bft (!r_3) with zN | zN
    ·replace h:=zP zN h
     refine rg [(2,{ av:=.bool r_1,l:=[Ii p_1.Thread] }),(7,{ av:=.bool r_2,l:=[Ii p_1.Serial] }),(9,Hf),(13,{ av:=.bool r_3,l:=[Ii p_1.Lost] }),(15,Hf),(17,Hg),(18,Hg),(19,Hg),(20,Hg),(21,Hg),(22,Ht)] [1,3] [0] 1 [Pp 0,.bool true] [Vb 59 (zZ p_1)] zG (ar ([Ii p_1.Thread]:List AV) (ac (rfl:([]:List zT)=[]) (ac (tJ p_1.Thread r_1 h_1:zW prog 56 [] [] [Ii p_1.Thread] [] (.bool r_1)) (ac zH (ac zH (ac zH (ar ([Ii p_1.Serial]:List AV) (ac (rfl:([]:List zT)=[]) (ac (tJ p_1.Serial r_2 h_2:zW prog 56 [] [] [Ii p_1.Serial] [] (.bool r_2)) (ac zH (ac zH (ac zI (ac zI (ac zI (ar ([Ii p_1.Lost]:List AV) (ac (rfl:([]:List zT)=[]) (ac (tJ p_1.Lost r_3 h_3:zW prog 56 [] [] [Ii p_1.Lost] [] (.bool r_3)) (ac zI (ac zI (ac zN (ac zN (ac zN (ac zN (ac zN (ac zN an))))))))))))))))))))))))) ?_
     cases h
     exact ⟨rfl,(sw [0] [] [.s 1,.s 3] [.s 0] an)⟩
    ·replace h:=zO zN h
     refine rg [(2,{ av:=.bool r_1,l:=[Ii p_1.Thread] }),(7,{ av:=.bool r_2,l:=[Ii p_1.Serial] }),(9,Hf),(13,{ av:=.bool r_3,l:=[Ii p_1.Lost] }),(15,Hf),(22,Hf)] [1,3] [0] 1 [Pp 0,.bool (decide (p_1.Lost>p_1.Serial))] [Vb 59 (zZ p_1)] zG (ar ([Ii p_1.Thread]:List AV) (ac (rfl:([]:List zT)=[]) (ac (tJ p_1.Thread r_1 h_1:zW prog 56 [] [] [Ii p_1.Thread] [] (.bool r_1)) (ac zH (ac zH (ac zH (ar ([Ii p_1.Serial]:List AV) (ac (rfl:([]:List zT)=[]) (ac (tJ p_1.Serial r_2 h_2:zW prog 56 [] [] [Ii p_1.Serial] [] (.bool r_2)) (ac zH (ac zH (ac zI (ac zI (ac zI (ar ([Ii p_1.Lost]:List AV) (ac (rfl:([]:List zT)=[]) (ac (tJ p_1.Lost r_3 h_3:zW prog 56 [] [] [Ii p_1.Lost] [] (.bool r_3)) (ac zI (ac zI (ac zN (ac zN (ac zN (ac zN (ac zN (ac zN an))))))))))))))))))))))))) ?_
     cases h
     exact ⟨rfl,(sw [0] [] [.s 1,.s 3] [.s 0] an)⟩
 refine cd 3 p_2 ?_ ?_
 ·intro g_1;replace h:=zP g_1 h
  refine sr [] [2] [] 1 [Ii 2] [] zG an ?_
  refine rt ?_
  cases h
  exact ⟨.inr rfl,Nat.le_of_ble_eq_true rfl,by kernel_rfl⟩
 intro g_1;replace h:=zO g_1 h
 refine sr [(4,{ n:=(p_1.Events).length })] [1,27] [0] 1 [Pp 0,.bool (decide (p_1.Serial>(zR ((1000000000000000:Int) - (lN (p_1.Events))))))] [Vb 59 (zZ p_1)] zG (ac (z9 _:((Mp zD p_1.Events)).length=(p_1.Events).length) an) ?_
 refine cd 27 (decide (p_1.Serial>(zR ((1000000000000000:Int) - (lN (p_1.Events)))))) ?_ ?_
 ·intro g_2;replace h:=zP g_2 h
  refine sr [] [2] [] 1 [Ii 2] [] zG an ?_
  refine rt ?_
  cases h
  exact ⟨.inr rfl,Nat.le_of_ble_eq_true rfl,by kernel_rfl⟩
 intro g_2;replace h:=zO g_2 h
 refine sr [(2,{ n:=(p_1.Events).length })] [1,35] [0] 1 [Pp 0,.bool ((lN (p_1.Events))==(0:Int))] [Vb 59 (zZ p_1)] zG (ac (z9 _:((Mp zD p_1.Events)).length=(p_1.Events).length) an) ?_
 refine cd 35 ((lN (p_1.Events))==(0:Int)) ?_ ?_
 ·intro g_3;replace h:=zP g_3 h
  refine sr [] [2] [] 1 [Ii 8] [] zG an ?_
  refine rt ?_
  cases h
  exact ⟨.inr rfl,Nat.le_of_ble_eq_true rfl,by kernel_rfl⟩
 intro g_3;replace h:=zO g_3 h
 refine sr [(2,{ n:=(p_1.Events).length })] [1,40] [0] 1 [Pp 0,.bool (decide ((lN (p_1.Events))>(1000:Int)))] [Vb 59 (zZ p_1)] zG (ac (z9 _:((Mp zD p_1.Events)).length=(p_1.Events).length) an) ?_
 refine cd 40 (decide ((lN (p_1.Events))>(1000:Int))) ?_ ?_
 ·intro g_4;replace h:=zP g_4 h
  refine sr [] [2] [] 1 [Ii 7] [] zG an ?_
  refine rt ?_
  cases h
  exact ⟨.inr rfl,Nat.le_of_ble_eq_true rfl,by kernel_rfl⟩
 intro g_4;replace h:=zO g_4 h
 refine sk ?_
 refine sq ?_
 obtain ⟨r_4,h_5,h⟩:=bind_some h
 refine rg [(2,{ av:=Ii r_4,l:=[.sl false 6 (Mp zD p_1.Events)] })] [2] [] 1 [Ii r_4] [] zG (ar ([.sl false 6 (Mp zD p_1.Events)]:List AV) (ac (rfl:([]:List zT)=[]) (ac (zGq F p_1.Events r_4 h_5:zW prog 57 [] [] [.sl false 6 (Mp zD p_1.Events)] [] (Ii r_4)) an))) ?_
 refine rt ?_
 cases h
 exact ⟨.inr rfl,Nat.le_of_ble_eq_true rfl,by kernel_rfl⟩
theorem zJ0 (F:Nat) (h_1:zL) (z4:Int) (r:Bool) (h:zBX F h_1 z4=some r):zW prog 32 [] [] [yN h_1,Ii z4] [] (.bool r):=by
 refine yA (fn:=Go.Proofs.Try.f32) (code:=xC Go.Proofs.Try.f32) (by kernel_rfl) (by kernel_rfl) (Nat.le_of_ble_eq_true (by kernel_rfl)) ?_
 unfold zBX at h
 refine sr [(0,{ id:=0 })] [1,2] [0] 1 [Ii z4,Pp 0] [Vb 26 (zM h_1)] zG an ?_
 refine sq ?_
 refine sr [] [1,2,5] [0] 1 [Ii z4,Pp 0,Ii 0] [Vb 26 (zM h_1)] zG an ?_
 obtain ⟨o_1,h_2,h⟩:=bind_some h
 refine wK (K1:=(fun e st'=>match o_1 with | (.inl q0)=>e=.normal∧Sub 0 st' (mk [] [] 0) | (.inr q1)=>e=.ret∧uF prog Go.Proofs.Try.f32 0 [] (.bool q1) st')) ?_ ?_
 ·replace h:=h_2
  refine yC (id:=0) (by kernel_rfl) ?_
  refine wk [0] [] [.s 1,.s 2,.s 5] [.s 0] [(1,Ii z4),(2,Pp 0),(5,Ii 0)] [(0,Vb 26 (zM h_1))] an ?_
  refine xH (fun n st=>∃ (i_1:Int),st=mk [(1,Ii z4),(2,Pp 0),(5,Ii i_1)] [(0,Vb 26 (zM h_1))] 1∧nK F h_1 z4 n i_1=some o_1) F (by kernel_rfl) ⟨_,rfl,h⟩ ?_ ?_
  ·rintro _ ⟨_,_,h⟩;exact xX (h:(none:Option (Unit⊕Bool))=some o_1)
  rintro n_1 _ ⟨i_1,rfl,h⟩
  replace h:u2 F h_1 z4 (nK F h_1 z4 n_1) i_1=some o_1:=h
  unfold u2 at h
  refine sq ?_
  refine sr [(3,{ n:=(h_1.Threads).length })] [1,2,5,10] [0] 1 [Ii z4,Pp 0,Ii i_1,.bool (decide (i_1<(lN (h_1.Threads))))] [Vb 26 (zM h_1)] zG (ac (z9 _:((Mp zF h_1.Threads)).length=(h_1.Threads).length) an) ?_
  refine cd 10 (decide (i_1<(lN (h_1.Threads)))) ?_ ?_
  rotate_left
  ·intro g_1;replace h:=zO g_1 h
   refine xS (id:=0) (by kernel_rfl) ?_
   cases h
   exact ⟨rfl,(sw [] [] [] [] an)⟩
  intro g_1;replace h:=zP g_1 h
  refine sk ?_
  refine sq ?_
  refine yC (id:=1) (by kernel_rfl) ?_
  refine sq ?_
  obtain ⟨x_1,h_3,h⟩:=bind_some h
  refine rg [(3,{ av:=zF x_1 })] [1,2,5,20] [0] 1 [Ii z4,Pp 0,Ii i_1,.bool (x_1.Id==z4)] [Vb 26 (zM h_1)] zG (ac (yP h_3:xG (Mp zF h_1.Threads) i_1=some (zF x_1)) an) ?_
  refine cd 20 (x_1.Id==z4) ?_ ?_
  rotate_left
  ·intro g_2;replace h:=zO g_2 h
   refine sk ?_
   refine rg [] [1,2,5] [0] 1 [Ii z4,Pp 0,Ii (zR (i_1+(1:Int)))] [Vb 26 (zM h_1)] zG an ?_
   exact ⟨_,(sw [0] [] [.s 1,.s 2,.s 5] [.s 0] an),_,rfl,h⟩
  intro g_2;replace h:=zP g_2 h
  refine sr [] [4] [] 1 [.bool true] [] zG an ?_
  refine rt ?_
  cases h
  exact ⟨rfl,Nat.le_of_ble_eq_true rfl,by kernel_rfl⟩
 intro e st1 hk
 rcases o_1 with q_1 | q_2
 rotate_left
 ·obtain ⟨rfl,hf⟩:=hk
  cases h
  exact ⟨st1,Sub.refl _ _,.inr rfl,hf⟩
 obtain ⟨rfl,hs⟩:=hk
 refine ⟨_,hs,?_⟩
 refine sr [] [4] [] 0 [.bool false] [] zG an ?_
 refine rt ?_
 cases h
 exact ⟨.inr rfl,Nat.le_of_ble_eq_true rfl,by kernel_rfl⟩
theorem zLG (F:Nat) (l_1:List (zB)) (z4:Int) (r:Int×Int) (h:zDC F l_1 z4=some r):zW prog 23 [] [] [.sl false 4 (Mp zA l_1),Ii z4] [] (.tuple [Ii r.1,Ii r.2]):=by
 refine yA (fn:=Go.Proofs.Try.f23) (code:=xC Go.Proofs.Try.f23) (by kernel_rfl) (by kernel_rfl) (Nat.le_of_ble_eq_true (by kernel_rfl)) ?_
 unfold zDC at h
 refine sr [] [0,1] [] 0 [.sl false 4 (Mp zA l_1),Ii z4] [] zG an ?_
 refine sr [] [0,1,6] [] 0 [.sl false 4 (Mp zA l_1),Ii z4,Ii 0] [] zG an ?_
 refine sr [] [0,1,6,7] [] 0 [.sl false 4 (Mp zA l_1),Ii z4,Ii 0,Ii 0] [] zG an ?_
 refine sq ?_
 refine sr [] [0,1,6,7,8] [] 0 [.sl false 4 (Mp zA l_1),Ii z4,Ii 0,Ii 0,Ii 0] [] zG an ?_
 obtain ⟨o_1,h_1,h⟩:=bind_some h
 refine y9 (mk [(6,Ii o_1.1),(7,Ii o_1.2)] [] 0) ?_ ?_
 ·replace h:=h_1
  refine yC (id:=0) (by kernel_rfl) ?_
  refine wk [] [] [.s 0,.s 1,.s 6,.s 7,.s 8] [] [(0,.sl false 4 (Mp zA l_1)),(1,Ii z4),(6,Ii 0),(7,Ii 0),(8,Ii 0)] [] an ?_
  refine xH (fun n st=>∃ (n_1:Int),∃ (nN:Int),∃ (i_1:Int),st=mk [(0,.sl false 4 (Mp zA l_1)),(1,Ii z4),(6,Ii n_1),(7,Ii nN),(8,Ii i_1)] [] 0∧nU F l_1 z4 n n_1 nN i_1=some o_1) F (by kernel_rfl) ⟨_,_,_,rfl,h⟩ ?_ ?_
  ·rintro _ ⟨_,_,_,_,h⟩;exact xX (h:(none:Option (Int×Int))=some o_1)
  rintro n_2 _ ⟨n_1,nN,i_1,rfl,h⟩
  replace h:j4 F l_1 z4 (nU F l_1 z4 n_2) n_1 nN i_1=some o_1:=h
  unfold j4 at h
  refine sq ?_
  refine sr [(2,{ n:=(l_1).length })] [0,1,6,7,8,12] [] 0 [.sl false 4 (Mp zA l_1),Ii z4,Ii n_1,Ii nN,Ii i_1,.bool (decide (i_1<(lN (l_1))))] [] zG (ac (z9 _:((Mp zA l_1)).length=(l_1).length) an) ?_
  refine cd 12 (decide (i_1<(lN (l_1)))) ?_ ?_
  rotate_left
  ·intro g_1;replace h:=zO g_1 h
   refine xS (id:=0) (by kernel_rfl) ?_
   cases h
   exact ⟨rfl,(sw [] [] [.s 6,.s 7] [] an)⟩
  intro g_1;replace h:=zP g_1 h
  refine sk ?_
  refine sq ?_
  obtain ⟨o_2,h_2,h⟩:=bind_some h
  refine y9 (mk [(0,.sl false 4 (Mp zA l_1)),(1,Ii z4),(6,Ii o_2.1),(7,Ii o_2.2),(8,Ii i_1)] [] 0) ?_ ?_
  ·replace h:=h_2
   refine yC (id:=1) (by kernel_rfl) ?_
   refine sq ?_
   obtain ⟨x_1,h_3,h⟩:=bind_some h
   refine rg [(2,{ av:=zA x_1 })] [0,1,6,7,8,21] [] 0 [.sl false 4 (Mp zA l_1),Ii z4,Ii n_1,Ii nN,Ii i_1,.bool (x_1.Thread==z4)] [] zG (ac (yP h_3:xG (Mp zA l_1) i_1=some (zA x_1)) an) ?_
   refine cd 21 (x_1.Thread==z4) ?_ ?_
   rotate_left
   ·intro g_2;replace h:=zO g_2 h
    refine sk ?_
    cases h
    exact ⟨rfl,(sw [] [] [.s 0,.s 1,.s 6,.s 7,.s 8] [] an)⟩
   intro g_2;replace h:=zP g_2 h
   refine sq ?_
   obtain ⟨x_2,h_4,h⟩:=bind_some h
   obtain ⟨x_3,h_5,h⟩:=bind_some h
   refine rg [(2,{ av:=zA x_2 }),(7,{ av:=zA x_3 }),(10,{ n:=(x_3.Events).length })] [0,1,6,8] [] 0 [.sl false 4 (Mp zA l_1),Ii z4,Ii (zR (x_2.Serial+(lN (x_3.Events)))),Ii i_1] [] zG (ac (yP h_4:xG (Mp zA l_1) i_1=some (zA x_2)) (ac (yP h_5:xG (Mp zA l_1) i_1=some (zA x_3)) (ac (z9 _:((Mp zD x_3.Events)).length=(x_3.Events).length) an))) ?_
   obtain ⟨x_4,h_6,h⟩:=bind_some h
   obtain ⟨x_5,h_7,h⟩:=bind_some h
   obtain ⟨x_6,h_8,h⟩:=bind_some h
   refine rg [(2,{ av:=zA x_4 }),(7,{ av:=zA x_5 }),(10,{ n:=(x_5.Events).length }),(12,{ av:=zD x_6 })] [0,1,6,7,8] [] 0 [.sl false 4 (Mp zA l_1),Ii z4,Ii (zR (x_2.Serial+(lN (x_3.Events)))),Ii x_6.At,Ii i_1] [] zG (ac (yP h_6:xG (Mp zA l_1) i_1=some (zA x_4)) (ac (yP h_7:xG (Mp zA l_1) i_1=some (zA x_5)) (ac (z9 _:((Mp zD x_5.Events)).length=(x_5.Events).length) (ac (yP h_8:xG (Mp zD x_4.Events) (zR ((lN (x_5.Events)) - (1:Int)))=some (zD x_6)) an)))) ?_
   cases h
   exact ⟨rfl,(sw [] [] [.s 0,.s 1,.s 6,.s 7,.s 8] [] an)⟩
  refine rg [] [0,1,6,7,8] [] 0 [.sl false 4 (Mp zA l_1),Ii z4,Ii o_2.1,Ii o_2.2,Ii (zR (i_1+(1:Int)))] [] zG an ?_
  exact ⟨_,(sw [] [] [.s 0,.s 1,.s 6,.s 7,.s 8] [] an),_,_,_,rfl,h⟩
 refine sr [] [4,5] [] 0 [Ii o_1.1,Ii o_1.2] [] zG an ?_
 refine rt ?_
 cases h
 exact ⟨.inr rfl,Nat.le_of_ble_eq_true rfl,by kernel_rfl⟩
theorem zHz (F:Nat) (l_1:List (zB)) (p_1:zB) (r:Bool) (h:zAr F l_1 p_1=some r):zW prog 33 [] [] [.sl false 4 (Mp zA l_1),zA p_1] [] (.bool r):=by
 refine yA (fn:=Go.Proofs.Try.f33) (code:=xC Go.Proofs.Try.f33) (by kernel_rfl) (by kernel_rfl) (Nat.le_of_ble_eq_true (by kernel_rfl)) ?_
 unfold zAr at h
 refine sr [(0,{ id:=0 })] [0,3] [0] 1 [.sl false 4 (Mp zA l_1),Pp 0] [Vb 59 (zZ p_1)] zG an ?_
 refine sq ?_
 obtain ⟨r_1,h_1,h⟩:=bind_some h
 refine rg [(3,{ av:=.tuple [Ii r_1.1,Ii r_1.2],l:=[.sl false 4 (Mp zA l_1),Ii p_1.Thread] })] [3,5,6] [0] 1 [Pp 0,Ii r_1.1,Ii r_1.2] [Vb 59 (zZ p_1)] zG (ar ([.sl false 4 (Mp zA l_1),Ii p_1.Thread]:List AV) (ac (rfl:([]:List zT)=[]) (ac (zLG F l_1 p_1.Thread r_1 h_1:zW prog 23 [] [] [.sl false 4 (Mp zA l_1),Ii p_1.Thread] [] (.tuple [Ii r_1.1,Ii r_1.2])) an))) ?_
 refine sq ?_
 obtain ⟨p_2,h_3,h⟩:=bind_some h
 refine y9 (mk [(4,.bool p_2)] [] 0) ?_ ?_
 ·replace h:=h_3
  rcases bft (p_1.Serial==(zR (r_1.1+p_1.Lost))) with zH | zH
  ·replace h:=zP zH h
   obtain ⟨x_1,h_2,h⟩:=bind_some h
   refine rg [(10,{ av:=zD x_1 }),(15,Ht)] [4] [] 1 [.bool (decide (x_1.At≥r_1.2))] [] zG (ac zH (ac zH (ac zH (ac (yP h_2:xG (Mp zD p_1.Events) (0:Int)=some (zD x_1)) (ac zH (ac zH (ac zH (ac zH (ac zH an))))))))) ?_
   cases h
   exact ⟨rfl,(sw [] [] [.s 4] [] an)⟩
  ·replace h:=zO zH h
   refine rg [(8,Hg),(9,Hg),(10,Hg),(11,Hg),(12,Hg),(13,Hg),(14,Hg),(15,Hf)] [4] [] 1 [.bool false] [] zG (ac zH (ac zH (ac zH (ac zH (ac zH (ac zH (ac zH (ac zH an)))))))) ?_
   cases h
   exact ⟨rfl,(sw [] [] [.s 4] [] an)⟩
 refine rt ?_
 cases h
 exact ⟨.inr rfl,Nat.le_of_ble_eq_true rfl,by kernel_rfl⟩
theorem zIp (F:Nat) (l_1:List (zB)) (r:Int) (h:zA1 F l_1=some r):zW prog 22 [] [] [.sl false 4 (Mp zA l_1)] [] (Ii r):=by
 refine yA (fn:=Go.Proofs.Try.f22) (code:=xC Go.Proofs.Try.f22) (by kernel_rfl) (by kernel_rfl) (Nat.le_of_ble_eq_true (by kernel_rfl)) ?_
 unfold zA1 at h
 refine sr [] [0] [] 0 [.sl false 4 (Mp zA l_1)] [] zG an ?_
 refine sr [] [0,3] [] 0 [.sl false 4 (Mp zA l_1),Ii 0] [] zG an ?_
 refine sq ?_
 refine sr [] [0,3,4] [] 0 [.sl false 4 (Mp zA l_1),Ii 0,Ii 0] [] zG an ?_
 obtain ⟨o_1,h_1,h⟩:=bind_some h
 refine y9 (mk [(3,Ii o_1)] [] 0) ?_ ?_
 ·replace h:=h_1
  refine yC (id:=0) (by kernel_rfl) ?_
  refine wk [] [] [.s 0,.s 3,.s 4] [] [(0,.sl false 4 (Mp zA l_1)),(3,Ii 0),(4,Ii 0)] [] an ?_
  refine xH (fun n st=>∃ (n_1:Int),∃ (i_1:Int),st=mk [(0,.sl false 4 (Mp zA l_1)),(3,Ii n_1),(4,Ii i_1)] [] 0∧jL F l_1 n n_1 i_1=some o_1) F (by kernel_rfl) ⟨_,_,rfl,h⟩ ?_ ?_
  ·rintro _ ⟨_,_,_,h⟩;exact xX (h:(none:Option Int)=some o_1)
  rintro n_2 _ ⟨n_1,i_1,rfl,h⟩
  replace h:qK F l_1 (jL F l_1 n_2) n_1 i_1=some o_1:=h
  unfold qK at h
  refine sq ?_
  refine sr [(2,{ n:=(l_1).length })] [0,3,4,8] [] 0 [.sl false 4 (Mp zA l_1),Ii n_1,Ii i_1,.bool (decide (i_1<(lN (l_1))))] [] zG (ac (z9 _:((Mp zA l_1)).length=(l_1).length) an) ?_
  refine cd 8 (decide (i_1<(lN (l_1)))) ?_ ?_
  rotate_left
  ·intro g_1;replace h:=zO g_1 h
   refine xS (id:=0) (by kernel_rfl) ?_
   cases h
   exact ⟨rfl,(sw [] [] [.s 3] [] an)⟩
  intro g_1;replace h:=zP g_1 h
  refine sk ?_
  refine sq ?_
  refine yC (id:=1) (by kernel_rfl) ?_
  obtain ⟨x_1,h_2,h⟩:=bind_some h
  refine rg [(3,{ av:=zA x_1 }),(6,{ n:=(x_1.Events).length })] [0,3,4] [] 0 [.sl false 4 (Mp zA l_1),Ii (zR (n_1+(lN (x_1.Events)))),Ii i_1] [] zG (ac (yP h_2:xG (Mp zA l_1) i_1=some (zA x_1)) (ac (z9 _:((Mp zD x_1.Events)).length=(x_1.Events).length) an)) ?_
  refine rg [] [0,3,4] [] 0 [.sl false 4 (Mp zA l_1),Ii (zR (n_1+(lN (x_1.Events)))),Ii (zR (i_1+(1:Int)))] [] zG an ?_
  exact ⟨_,(sw [] [] [.s 0,.s 3,.s 4] [] an),_,_,rfl,h⟩
 refine sr [] [2] [] 0 [Ii o_1] [] zG an ?_
 refine rt ?_
 cases h
 exact ⟨.inr rfl,Nat.le_of_ble_eq_true rfl,by kernel_rfl⟩
end Go.Ab
