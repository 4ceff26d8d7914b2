/- Printed: the typed Lean functions of the Go functions, or the proofs that the Go functions meet them. No conditions but those that the theorems name. -/
import Derived.Test.YtbifmbdcejggkaaP16xD
import Derived.Test.YtbifmbdcejggkaaProg
namespace Go.Ab
open Go
set_option linter.unusedVariables false
noncomputable abbrev prog:=Go.Proofs.Try.prog
theorem zG:prog.follows .mixedOrders=true:=by kernel_rfl
theorem zO1:zGX prog 92:=⟨_,Go.Proofs.Try.func92,by kernel_rfl,by kernel_rfl,by kernel_rfl,by kernel_rfl⟩
theorem zAS:vT prog 3 false [.int .i64]:=zMM (by kernel_rfl)
theorem zNQ:vT prog 68 true [.int .i64,.int .i64]:=zCZ (by kernel_rfl) (by kernel_rfl) (by kernel_rfl) (by kernel_rfl)
theorem zAF:∀ a b:zS,zC a=zC b→a=b:=by
  intro a b h
  cases a;cases b;simpa [zC,uD] using h
theorem zHL:jK prog 68 [.int .i64,.int .i64]:=zD7 zNQ (by kernel_rfl) (by kernel_rfl)
theorem zNt:vT prog 66 true [.int .i64,.str,.int .i64]:=zCZ (by kernel_rfl) (by kernel_rfl) (by kernel_rfl) (by kernel_rfl)
theorem zCw:∀ a b:zY,zF a=zF b→a=b:=by
  intro a b h
  cases a;cases b;simpa [zF,z8] using h
theorem zK8:jK prog 66 [.int .i64,.str,.int .i64]:=zD7 zNt (by kernel_rfl) (by kernel_rfl)
theorem zNC:vT prog 86 true [.int .i64,.int .i64,.int .i64,.int .i64,.int .i64]:=zCZ (by kernel_rfl) (by kernel_rfl) (by kernel_rfl) (by kernel_rfl)
theorem zDB:∀ a b:xM,zJ a=zJ b→a=b:=by
  rintro ⟨_,_,_,⟨_,_⟩⟩ ⟨_,_,_,⟨_,_⟩⟩ h
  simpa [zJ,w9] using h
theorem zKZ:jK prog 86 [.int .i64,.int .i64,.int .i64,.int .i64,.int .i64]:=zD7 zNC (by kernel_rfl) (by kernel_rfl)
theorem zNO:vT prog 50 true [.int .i64,.int .i64,.int .i64]:=zCZ (by kernel_rfl) (by kernel_rfl) (by kernel_rfl) (by kernel_rfl)
theorem pQ:∀ a b:yQ,yU a=yU b→a=b:=by
  intro a b h
  cases a;cases b;simpa [yU,zFv] using h
theorem zDH:jK prog 50 [.int .i64,.int .i64,.int .i64]:=zD7 zNO (by kernel_rfl) (by kernel_rfl)
theorem zKi (F:Nat) (h_1:zL) (l_1:List (zB)) (r:Bool) (h:zBQ F h_1 l_1=some r):zW prog 8 [] [] [yN h_1,.sl false 4 (Mp zA l_1)] [] (.bool r):=by
 refine yA (fn:=Go.Proofs.Try.f8) (code:=xC Go.Proofs.Try.f8) (by kernel_rfl) (by kernel_rfl) (Nat.le_of_ble_eq_true (by kernel_rfl)) ?_
 unfold zBQ at h
 refine sr [(0,{ id:=0 })] [1,2] [0] 1 [.sl false 4 (Mp zA l_1),Pp 0] [Vb 26 (zM h_1)] zG an ?_
 refine sr [] [1,2,5] [0] 1 [.sl false 4 (Mp zA l_1),Pp 0,Ii 0] [Vb 26 (zM h_1)] zG an ?_
 refine sq ?_
 refine sr [(1,{ n:=(l_1).length })] [1,2,5,8,9,10] [0] 1 [.sl false 4 (Mp zA l_1),Pp 0,Ii 0,.sl false 4 (Mp zA l_1),Ii (lN (l_1)),Ii 0] [Vb 26 (zM h_1)] zG (ac (z9 _:((Mp zA l_1)).length=(l_1).length) an) ?_
 obtain ⟨o_1,h_2,h⟩:=bind_some h
 refine y9 (mk [(1,.sl false 4 (Mp zA l_1)),(2,Pp 0),(5,Ii o_1)] [(0,Vb 26 (zM h_1))] 1) ?_ ?_
 ·replace h:=h_2
  refine yC (id:=0) (by kernel_rfl) ?_
  refine wk [0] [] [.s 1,.s 2,.s 5,.s 8,.s 9,.s 10] [.s 0] [(1,.sl false 4 (Mp zA l_1)),(2,Pp 0),(5,Ii 0),(8,.sl false 4 (Mp zA l_1)),(9,Ii (lN (l_1))),(10,Ii 0)] [(0,Vb 26 (zM h_1))] an ?_
  refine xH (fun n st=>∃ (n_1:Int),∃ (v_1:Int),st=mk [(1,.sl false 4 (Mp zA l_1)),(2,Pp 0),(5,Ii n_1),(8,.sl false 4 (Mp zA l_1)),(9,Ii (lN (l_1))),(10,Ii v_1)] [(0,Vb 26 (zM h_1))] 1∧tD F l_1 n n_1 v_1=some o_1) F (by kernel_rfl) ⟨_,_,rfl,h⟩ ?_ ?_
  ·rintro _ ⟨_,_,_,h⟩;exact xX (h:(none:Option Int)=some o_1)
  rintro n_2 _ ⟨n_1,v_1,rfl,h⟩
  replace h:u3 F l_1 (tD F l_1 n_2) n_1 v_1=some o_1:=h
  unfold u3 at h
  refine sr [] [1,2,5,8,9,10,11] [0] 1 [.sl false 4 (Mp zA l_1),Pp 0,Ii n_1,.sl false 4 (Mp zA l_1),Ii (lN (l_1)),Ii v_1,.bool (decide (v_1<(lN (l_1))))] [Vb 26 (zM h_1)] zG an ?_
  refine sq ?_
  refine cd 11 (decide (v_1<(lN (l_1)))) ?_ ?_
  rotate_left
  ·intro g_1;replace h:=zO g_1 h
   refine xS (id:=0) (by kernel_rfl) ?_
   cases h
   exact ⟨rfl,(sw [0] [] [.s 1,.s 2,.s 5] [.s 0] an)⟩
  intro g_1;replace h:=zP g_1 h
  refine sk ?_
  refine sq ?_
  refine yC (id:=1) (by kernel_rfl) ?_
  refine sq ?_
  obtain ⟨x_1,h_3,h⟩:=bind_some h
  refine rg [(0,{ av:=zA x_1 }),(2,{ id:=1 })] [1,2,5,7,8,9,10] [0,1] 2 [.sl false 4 (Mp zA l_1),Pp 0,Ii n_1,Pp 1,.sl false 4 (Mp zA l_1),Ii (lN (l_1)),Ii v_1] [Vb 26 (zM h_1),Vb 59 (zZ x_1)] zG (ac (yP h_3:xG (Mp zA l_1) v_1=some (zA x_1)) an) ?_
  refine rg [(3,{ n:=(x_1.Events).length })] [1,2,5,8,9,10] [0] 2 [.sl false 4 (Mp zA l_1),Pp 0,Ii (zR (n_1+(lN (x_1.Events)))),.sl false 4 (Mp zA l_1),Ii (lN (l_1)),Ii v_1] [Vb 26 (zM h_1)] zG (ac (z9 _:((Mp zD x_1.Events)).length=(x_1.Events).length) an) ?_
  refine rg [] [1,2,5,8,9,10] [0] 2 [.sl false 4 (Mp zA l_1),Pp 0,Ii (zR (n_1+(lN (x_1.Events)))),.sl false 4 (Mp zA l_1),Ii (lN (l_1)),Ii (zR (v_1+(1:Int)))] [Vb 26 (zM h_1)] zG an ?_
  exact ⟨_,(sw [0] [] [.s 1,.s 2,.s 5,.s 8,.s 9,.s 10] [.s 0] an),_,_,rfl,h⟩
 refine sq ?_
 refine y9 (mk [(4,.bool (decide ((lN (h_1.Threads))≤(70:Int))&&(decide ((lN (h_1.Domains))≤(10:Int))&&(decide ((lN (h_1.Snaps))≤(20:Int))&&(decide ((lN (l_1))≤(30:Int))&&decide (o_1≤(3000:Int)))))))] [] 0) ?_ ?_
 ·rcases bft (decide ((lN (h_1.Threads))≤(70:Int))) with zH | zH
  ·rcases bft (decide ((lN (h_1.Domains))≤(10:Int))) with zI | zI
   ·rcases bft (decide ((lN (h_1.Snaps))≤(20:Int))) with zN | zN
    ·rcases bft (decide ((lN (l_1))≤(30:Int))) with zV | zV
     ·refine rg [(2,{ n:=(h_1.Threads).length }),(7,{ n:=(h_1.Domains).length }),(9,Ht),(13,{ n:=(h_1.Snaps).length }),(15,Ht),(18,{ n:=(l_1).length }),(20,Ht),(24,Ht)] [4] [] 1 [.bool (decide (o_1≤(3000:Int)))] [] zG (ac (z9 _:((Mp zF h_1.Threads)).length=(h_1.Threads).length) (ac zH (ac zH (ac zH (ac (z9 _:((Mp zC h_1.Domains)).length=(h_1.Domains).length) (ac zH (ac zH (ac zI (ac zI (ac zI (ac (z9 _:((Mp zJ h_1.Snaps)).length=(h_1.Snaps).length) (ac zI (ac zI (ac zN (ac zN (ac (z9 _:((Mp zA l_1)).length=(l_1).length) (ac zN (ac zN (ac zV (ac zV (ac zV an))))))))))))))))))))) ?_
      exact ⟨rfl,(sw [] [] [.a 4 (.bool (decide ((lN (h_1.Threads))≤(70:Int))&&(decide ((lN (h_1.Domains))≤(10:Int))&&(decide ((lN (h_1.Snaps))≤(20:Int))&&(decide ((lN (l_1))≤(30:Int))&&decide (o_1≤(3000:Int)))))))] [] (ac (congrArg AV.bool (uP zH (uP zI (uP zN (uP zV rfl)))):(.bool (decide (o_1≤(3000:Int))):AV)=.bool (decide ((lN (h_1.Threads))≤(70:Int))&&(decide ((lN (h_1.Domains))≤(10:Int))&&(decide ((lN (h_1.Snaps))≤(20:Int))&&(decide ((lN (l_1))≤(30:Int))&&decide (o_1≤(3000:Int))))))) an))⟩
     ·refine rg [(2,{ n:=(h_1.Threads).length }),(7,{ n:=(h_1.Domains).length }),(9,Ht),(13,{ n:=(h_1.Snaps).length }),(15,Ht),(18,{ n:=(l_1).length }),(20,Ht),(22,Hg),(23,Hg),(24,Hf)] [4] [] 1 [.bool false] [] zG (ac (z9 _:((Mp zF h_1.Threads)).length=(h_1.Threads).length) (ac zH (ac zH (ac zH (ac (z9 _:((Mp zC h_1.Domains)).length=(h_1.Domains).length) (ac zH (ac zH (ac zI (ac zI (ac zI (ac (z9 _:((Mp zJ h_1.Snaps)).length=(h_1.Snaps).length) (ac zI (ac zI (ac zN (ac zN (ac (z9 _:((Mp zA l_1)).length=(l_1).length) (ac zN (ac zN (ac zV (ac zV (ac zV an))))))))))))))))))))) ?_
      exact ⟨rfl,(sw [] [] [.a 4 (.bool (decide ((lN (h_1.Threads))≤(70:Int))&&(decide ((lN (h_1.Domains))≤(10:Int))&&(decide ((lN (h_1.Snaps))≤(20:Int))&&(decide ((lN (l_1))≤(30:Int))&&decide (o_1≤(3000:Int)))))))] [] (ac (congrArg AV.bool (uP zH (uP zI (uP zN (j7 zV)))):(.bool false:AV)=.bool (decide ((lN (h_1.Threads))≤(70:Int))&&(decide ((lN (h_1.Domains))≤(10:Int))&&(decide ((lN (h_1.Snaps))≤(20:Int))&&(decide ((lN (l_1))≤(30:Int))&&decide (o_1≤(3000:Int))))))) an))⟩
    ·refine rg [(2,{ n:=(h_1.Threads).length }),(7,{ n:=(h_1.Domains).length }),(9,Ht),(13,{ n:=(h_1.Snaps).length }),(15,Ht),(17,Hg),(18,Hg),(19,Hg),(20,Hf),(22,Hg),(23,Hg),(24,Hf)] [4] [] 1 [.bool false] [] zG (ac (z9 _:((Mp zF h_1.Threads)).length=(h_1.Threads).length) (ac zH (ac zH (ac zH (ac (z9 _:((Mp zC h_1.Domains)).length=(h_1.Domains).length) (ac zH (ac zH (ac zI (ac zI (ac zI (ac (z9 _:((Mp zJ h_1.Snaps)).length=(h_1.Snaps).length) (ac zI (ac zI (ac zN (ac zN (ac zN (ac zN (ac (rfl:false=!true) (ac (rfl:false=!true) (ar false an)))))))))))))))))))) ?_
     exact ⟨rfl,(sw [] [] [.a 4 (.bool (decide ((lN (h_1.Threads))≤(70:Int))&&(decide ((lN (h_1.Domains))≤(10:Int))&&(decide ((lN (h_1.Snaps))≤(20:Int))&&(decide ((lN (l_1))≤(30:Int))&&decide (o_1≤(3000:Int)))))))] [] (ac (congrArg AV.bool (uP zH (uP zI (j7 zN))):(.bool false:AV)=.bool (decide ((lN (h_1.Threads))≤(70:Int))&&(decide ((lN (h_1.Domains))≤(10:Int))&&(decide ((lN (h_1.Snaps))≤(20:Int))&&(decide ((lN (l_1))≤(30:Int))&&decide (o_1≤(3000:Int))))))) an))⟩
   ·refine rg [(2,{ n:=(h_1.Threads).length }),(7,{ n:=(h_1.Domains).length }),(9,Ht),(11,Hg),(12,Hg),(13,Hg),(14,Hg),(15,Hf),(17,Hg),(18,Hg),(19,Hg),(20,Hf),(22,Hg),(23,Hg),(24,Hf)] [4] [] 1 [.bool false] [] zG (ac (z9 _:((Mp zF h_1.Threads)).length=(h_1.Threads).length) (ac zH (ac zH (ac zH (ac (z9 _:((Mp zC h_1.Domains)).length=(h_1.Domains).length) (ac zH (ac zH (ac zI (ac zI (ac zI (ac zI (ac zI (ac (rfl:false=!true) (ac (rfl:false=!true) (ac (rfl:false=!true) (ar false (ac (rfl:false=!true) (ac (rfl:false=!true) (ar false an))))))))))))))))))) ?_
    exact ⟨rfl,(sw [] [] [.a 4 (.bool (decide ((lN (h_1.Threads))≤(70:Int))&&(decide ((lN (h_1.Domains))≤(10:Int))&&(decide ((lN (h_1.Snaps))≤(20:Int))&&(decide ((lN (l_1))≤(30:Int))&&decide (o_1≤(3000:Int)))))))] [] (ac (congrArg AV.bool (uP zH (j7 zI)):(.bool false:AV)=.bool (decide ((lN (h_1.Threads))≤(70:Int))&&(decide ((lN (h_1.Domains))≤(10:Int))&&(decide ((lN (h_1.Snaps))≤(20:Int))&&(decide ((lN (l_1))≤(30:Int))&&decide (o_1≤(3000:Int))))))) an))⟩
  ·refine rg [(2,{ n:=(h_1.Threads).length }),(5,Hg),(6,Hg),(7,Hg),(8,Hg),(9,Hf),(11,Hg),(12,Hg),(13,Hg),(14,Hg),(15,Hf),(17,Hg),(18,Hg),(19,Hg),(20,Hf),(22,Hg),(23,Hg),(24,Hf)] [4] [] 1 [.bool false] [] zG (ac (z9 _:((Mp zF h_1.Threads)).length=(h_1.Threads).length) (ac zH (ac zH (ac zH (ac zH (ac zH (ac (rfl:false=!true) (ac (rfl:false=!true) (ac (rfl:false=!true) (ac (rfl:false=!true) (ar false (ac (rfl:false=!true) (ac (rfl:false=!true) (ac (rfl:false=!true) (ar false (ac (rfl:false=!true) (ac (rfl:false=!true) (ar false an)))))))))))))))))) ?_
   exact ⟨rfl,(sw [] [] [.a 4 (.bool (decide ((lN (h_1.Threads))≤(70:Int))&&(decide ((lN (h_1.Domains))≤(10:Int))&&(decide ((lN (h_1.Snaps))≤(20:Int))&&(decide ((lN (l_1))≤(30:Int))&&decide (o_1≤(3000:Int)))))))] [] (ac (congrArg AV.bool (j7 zH):(.bool false:AV)=.bool (decide ((lN (h_1.Threads))≤(70:Int))&&(decide ((lN (h_1.Domains))≤(10:Int))&&(decide ((lN (h_1.Snaps))≤(20:Int))&&(decide ((lN (l_1))≤(30:Int))&&decide (o_1≤(3000:Int))))))) an))⟩
 refine rt ?_
 cases h
 exact ⟨.inr rfl,Nat.le_of_ble_eq_true rfl,by kernel_rfl⟩
theorem zBa (F:Nat) (wW:Int) (vR:Int) (vH:List (Int)) (r:zB) (h:zAH F wW vR vH=some r):zW prog 26 [] [] [Ii wW,Ii vR,.sl false 1 (Mi vH)] [] (zA r):=by
 refine yA (fn:=Go.Proofs.Try.f26) (code:=xC Go.Proofs.Try.f26) (by kernel_rfl) (by kernel_rfl) (Nat.le_of_ble_eq_true (by kernel_rfl)) ?_
 unfold zAH at h
 refine sr [(0,{ id:=0 })] [0,1,2,6] [0] 1 [Ii wW,Ii vR,.sl false 1 (Mi vH),Pp 0] [Vb 59 [Ii 0,Ii 0,Ii 0,.nilsl]] zG an ?_
 refine uI (uV 0 3 1 42 6 (by kernel_rfl)) ?_
 refine wk [0,1] [] [.s 0,.s 1,.s 2,.s 6] [.s 0,.s 1] [(0,Ii wW),(1,Ii vR),(2,.sl false 1 (Mi vH)),(6,Pp 0)] [(0,Vb 59 [Ii 0,Ii 0,Ii 0,.own 1 0]),(1,Rb 42 6 [])] an ?_
 refine sr [(3,{ id:=2 })] [2,6,7] [0,1,2] 3 [.sl false 1 (Mi vH),Pp 0,Pp 2] [Vb 59 [Ii 0,Ii 0,Ii 0,.own 1 0],Rb 42 6 [],Vb 59 [Ii 1,Ii wW,Ii vR,.nilsl]] zG an ?_
 refine uI (uV 2 3 3 42 6 (by kernel_rfl)) ?_
 refine wk [0,1,2,3] [] [.s 2,.s 6,.s 7] [.s 0,.s 1,.s 2,.s 3] [(2,.sl false 1 (Mi vH)),(6,Pp 0),(7,Pp 2)] [(0,Vb 59 [Ii 0,Ii 0,Ii 0,.own 1 0]),(1,Rb 42 6 []),(2,Vb 59 [Ii 1,Ii wW,Ii vR,.own 3 0]),(3,Rb 42 6 [])] an ?_
 refine sq ?_
 refine sr [(1,{ n:=(vH).length })] [6,7,13,14,15] [0,1,2,3] 4 [Pp 0,Pp 2,.sl false 1 (Mi vH),Ii (lN (vH)),Ii 0] [Vb 59 [Ii 0,Ii 0,Ii 0,.own 1 0],Rb 42 6 [],Vb 59 [Ii 1,Ii wW,Ii vR,.own 3 0],Rb 42 6 []] zG (ac (z9 _:((Mi vH)).length=(vH).length) an) ?_
 obtain ⟨o_1,h_1,h⟩:=bind_some h
 refine y9 (mk [(6,Pp 0),(7,Pp 2)] [(0,Vb 59 [Ii 0,Ii 0,Ii 0,.own 1 0]),(1,Rb 42 6 []),(2,Vb 59 [Ii 1,Ii wW,Ii vR,.own 3 ((o_1).length)]),(3,Rb 42 6 (Mp zD o_1))] 4) ?_ ?_
 ·replace h:=h_1
  refine yC (id:=0) (by kernel_rfl) ?_
  refine wk [0,1,2,3] [] [.s 6,.s 7,.s 13,.s 14,.s 15] [.s 0,.s 1,.s 2,.s 3] [(6,Pp 0),(7,Pp 2),(13,.sl false 1 (Mi vH)),(14,Ii (lN (vH))),(15,Ii 0)] [(0,Vb 59 [Ii 0,Ii 0,Ii 0,.own 1 0]),(1,Rb 42 6 []),(2,Vb 59 [Ii 1,Ii wW,Ii vR,.own 3 0]),(3,Rb 42 6 [])] an ?_
  refine xH (fun n st=>∃ (v_1:Int),∃ (zE:List zK),st=mk [(6,Pp 0),(7,Pp 2),(13,.sl false 1 (Mi vH)),(14,Ii (lN (vH))),(15,Ii v_1)] [(0,Vb 59 [Ii 0,Ii 0,Ii 0,.own 1 0]),(1,Rb 42 6 []),(2,Vb 59 [Ii 1,Ii wW,Ii vR,.own 3 ((zE).length)]),(3,Rb 42 6 (Mp zD zE))] 4∧zA0 F vH n v_1 zE=some o_1) F (by kernel_rfl) ⟨_,_,rfl,h⟩ ?_ ?_
  ·rintro _ ⟨_,_,_,h⟩;exact xX (h:(none:Option (List zK))=some o_1)
  rintro n_1 _ ⟨v_1,zE,rfl,h⟩
  replace h:zAb F vH (zA0 F vH n_1) v_1 zE=some o_1:=h
  unfold zAb at h
  refine sr [] [6,7,13,14,15,16] [0,1,2,3] 4 [Pp 0,Pp 2,.sl false 1 (Mi vH),Ii (lN (vH)),Ii v_1,.bool (decide (v_1<(lN (vH))))] [Vb 59 [Ii 0,Ii 0,Ii 0,.own 1 0],Rb 42 6 [],Vb 59 [Ii 1,Ii wW,Ii vR,.own 3 ((zE).length)],Rb 42 6 (Mp zD zE)] zG an ?_
  refine sq ?_
  refine cd 16 (decide (v_1<(lN (vH)))) ?_ ?_
  rotate_left
  ·intro g_1;replace h:=zO g_1 h
   refine xS (id:=0) (by kernel_rfl) ?_
   cases h
   exact ⟨rfl,(sw [0,1,2,3] [] [.s 6,.s 7] [.s 0,.s 1,.s 2,.s 3] an)⟩
  intro g_1;replace h:=zP g_1 h
  refine sk ?_
  refine sq ?_
  refine yC (id:=1) (by kernel_rfl) ?_
  refine sq ?_
  obtain ⟨x_1,h_2,h⟩:=bind_some h
  refine rg [(0,{ av:=Ii x_1 })] [6,7,9,13,14,15] [0,1,2,3] 4 [Pp 0,Pp 2,Ii x_1,.sl false 1 (Mi vH),Ii (lN (vH)),Ii v_1] [Vb 59 [Ii 0,Ii 0,Ii 0,.own 1 0],Rb 42 6 [],Vb 59 [Ii 1,Ii wW,Ii vR,.own 3 ((zE).length)],Rb 42 6 (Mp zD zE)] zG (ac (yP h_2:xG (Mi vH) v_1=some (Ii x_1)) an) ?_
  obtain ⟨_,h_3,h⟩:=bind_some h;replace h_3:=wN h_3
  refine rg [(4,{ id:=4,lo:=[(22,[0,0,0,0,0,1])] }),(5,{ id:=5,l:=(Mp zD (zE++([(⟨x_1,(3:Int),([97]:List Int),(0:Int),(0:Int),[]⟩:zK)]:List zK))),n:=((zE++([(⟨x_1,(3:Int),([97]:List Int),(0:Int),(0:Int),[]⟩:zK)]:List zK))).length })] [6,7,13,14,15] [0,1,2,5] 6 [Pp 0,Pp 2,.sl false 1 (Mi vH),Ii (lN (vH)),Ii v_1] [Vb 59 [Ii 0,Ii 0,Ii 0,.own 1 0],Rb 42 6 [],Vb 59 [Ii 1,Ii wW,Ii vR,.own 5 (((zE++([(⟨x_1,(3:Int),([97]:List Int),(0:Int),(0:Int),[]⟩:zK)]:List zK))).length)],Rb 42 6 (Mp zD (zE++([(⟨x_1,(3:Int),([97]:List Int),(0:Int),(0:Int),[]⟩:zK)]:List zK)))] zG (ac (by first | (simp;done) | (simp;omega):(zE).length=((List.map zD zE)).length) (ac (by first | (simp;done) | (simp;omega):1=((List.map zD ([(⟨x_1,(3:Int),([97]:List Int),(0:Int),(0:Int),[]⟩:zK)]:List zK))).length) (ac (zDy _ _:(Mp zD (zE++([(⟨x_1,(3:Int),([97]:List Int),(0:Int),(0:Int),[]⟩:zK)]:List zK)))=(Mp zD zE)++(Mp zD ([(⟨x_1,(3:Int),([97]:List Int),(0:Int),(0:Int),[]⟩:zK)]:List zK))) (ac (by simp:((zE++([(⟨x_1,(3:Int),([97]:List Int),(0:Int),(0:Int),[]⟩:zK)]:List zK))).length=((List.map zD (zE++([(⟨x_1,(3:Int),([97]:List Int),(0:Int),(0:Int),[]⟩:zK)]:List zK)))).length) (ac (by first | (simp;done) | simpa using h_3:(((List.map zD zE):List AV).length+((List.map zD ([(⟨x_1,(3:Int),([97]:List Int),(0:Int),(0:Int),[]⟩:zK)]:List zK)):List AV).length) * 72≤140737488355328) an))))) ?_
  refine rg [] [6,7,13,14,15] [0,1,2,5] 6 [Pp 0,Pp 2,.sl false 1 (Mi vH),Ii (lN (vH)),Ii (zR (v_1+(1:Int)))] [Vb 59 [Ii 0,Ii 0,Ii 0,.own 1 0],Rb 42 6 [],Vb 59 [Ii 1,Ii wW,Ii vR,.own 5 (((zE++([(⟨x_1,(3:Int),([97]:List Int),(0:Int),(0:Int),[]⟩:zK)]:List zK))).length)],Rb 42 6 (Mp zD (zE++([(⟨x_1,(3:Int),([97]:List Int),(0:Int),(0:Int),[]⟩:zK)]:List zK)))] zG an ?_
  exact ⟨_,(sw [0,1,2,5] [] [.s 6,.s 7,.s 13,.s 14,.s 15] [.s 0,.s 1,.s 2,.s 3] an),_,_,rfl,h⟩
 refine sr [] [6] [0,3] 4 [Pp 0] [Vb 59 [Ii 1,Ii wW,Ii vR,.own 3 ((o_1).length)],Rb 42 6 (Mp zD o_1)] zG an ?_
 refine wk [0] [3] [.s 6] [.a 0 (Vb 59 (zZ (⟨(1:Int),wW,vR,o_1⟩:zB)))] [(6,Pp 0)] [(0,Vb 59 (zZ (⟨(1:Int),wW,vR,o_1⟩:zB)))] (ar 59 (ac (rfl:vZ [Ii ((⟨(1:Int),wW,vR,o_1⟩:zB).Thread),Ii ((⟨(1:Int),wW,vR,o_1⟩:zB).Serial),Ii ((⟨(1:Int),wW,vR,o_1⟩:zB).Lost),.sl false 6 (Mp zD ((⟨(1:Int),wW,vR,o_1⟩:zB).Events))]=true) (ac (by first | (simp;done) | (simp;omega):(o_1).length=((List.map zD o_1)).length) (ac (rfl:(Ii 1:AV)=Ii ((⟨(1:Int),wW,vR,o_1⟩:zB).Thread)) (ac (rfl:(Ii wW:AV)=Ii ((⟨(1:Int),wW,vR,o_1⟩:zB).Serial)) (ac (rfl:(Ii vR:AV)=Ii ((⟨(1:Int),wW,vR,o_1⟩:zB).Lost)) (ar 6 (ac (rfl:((Mp zD o_1):List AV)=(Mp zD ((⟨(1:Int),wW,vR,o_1⟩:zB).Events))) (ac (rfl:(!false||false)=true) an))))))))) ?_
 refine rt ?_
 cases h
 exact ⟨.inr rfl,Nat.le_of_ble_eq_true rfl,by kernel_rfl⟩
theorem zCP (s_1:List Int) (c_1:Int) (r:Int) (h:qQ s_1 c_1=some r):zW prog 91 [] [] [.str s_1,Iu c_1] [] (Ii r):=by
 refine yA (fn:=Go.Proofs.Try.f91) (code:=xC Go.Proofs.Try.f91) (by kernel_rfl) (by kernel_rfl) (Nat.le_of_ble_eq_true (by kernel_rfl)) ?_
 unfold qQ at h
 refine sr [] [0,1] [] 0 [.str s_1,Iu c_1] [] zG an ?_
 refine sr [] [4] [] 0 [Ii (uT s_1 c_1)] [] zG (ac (zO1:zGX prog 92) an) ?_
 refine rt ?_
 cases h
 exact ⟨.inr rfl,Nat.le_of_ble_eq_true rfl,by kernel_rfl⟩
theorem vM (s_1:List Int) (c_1:Int) (r:Int) (h:w8 s_1 c_1=some r):zW prog 86 [] [] [.str s_1,Iu c_1] [] (Ii r):=by
 refine yA (fn:=Go.Proofs.Try.f86) (code:=xC Go.Proofs.Try.f86) (by kernel_rfl) (by kernel_rfl) (Nat.le_of_ble_eq_true (by kernel_rfl)) ?_
 unfold w8 at h
 refine sr [] [0,1] [] 0 [.str s_1,Iu c_1] [] zG an ?_
 refine sq ?_
 obtain ⟨r_1,h_1,h⟩:=bind_some h
 refine rg [(2,{ av:=Ii r_1,l:=[.str s_1,Iu c_1] })] [4] [] 0 [Ii r_1] [] zG (ar ([.str s_1,Iu c_1]:List AV) (ac (rfl:([]:List zT)=[]) (ac (zCP s_1 c_1 r_1 h_1:zW prog 91 [] [] [.str s_1,Iu c_1] [] (Ii r_1)) an))) ?_
 refine rt ?_
 cases h
 exact ⟨.inr rfl,Nat.le_of_ble_eq_true rfl,by kernel_rfl⟩
theorem zFM (c_1:Int) (r:Bool) (h:pP c_1=some r):zW prog 75 [] [] [Iu c_1] [] (.bool r):=by
 refine yA (fn:=Go.Proofs.Try.f75) (code:=xC Go.Proofs.Try.f75) (by kernel_rfl) (by kernel_rfl) (Nat.le_of_ble_eq_true (by kernel_rfl)) ?_
 unfold pP at h
 refine sr [] [0] [] 0 [Iu c_1] [] zG an ?_
 refine sq ?_
 obtain ⟨p_1,h_2,h⟩:=bind_some h
 refine y9 (mk [(2,.bool p_1)] [] 0) ?_ ?_
 ·replace h:=h_2
  rcases bft (decide (c_1≥(97:Int))) with zH | zH
  ·replace h:=zP zH h
   rcases bft (decide (c_1≤(122:Int))) with zI | zI
   ·replace h:=zP zI h
    refine rg [(5,Ht),(7,Hg),(8,Hg),(9,Hg),(12,Hg),(13,Ht),(15,Hg),(16,Hg),(17,Hg),(20,Hg),(21,Ht),(23,Hg),(24,Hg),(25,Hg),(26,Ht)] [2] [] 0 [.bool true] [] zG (ac zH (ac zH (ac zH (ac zI (ac zI (ac zI (ac zI (ac zI (ax (ax (ax (ax (ar true (ax (ax (ax (ar true an))))))))))))))))) ?_
    cases h
    exact ⟨rfl,(sw [] [] [.s 2] [] an)⟩
   ·replace h:=zO zI h
    rcases bft (decide (c_1≥(65:Int))) with zN | zN
    ·replace h:=zP zN h
     rcases bft (decide (c_1≤(90:Int))) with zV | zV
     ·replace h:=zP zV h
      refine rg [(5,Ht),(12,Ht),(13,Hf),(15,Hg),(16,Hg),(17,Hg),(20,Hg),(21,Ht),(23,Hg),(24,Hg),(25,Hg),(26,Ht)] [2] [] 0 [.bool true] [] zG (ac zH (ac zH (ac zH (ac zI (ac zI (ac zI (ac zN (ac zN (ac zI (ac zN (ac zI (ac zV (ac zV (ac zV (ac zV (ac zV (ax (ax (ax (ar true an)))))))))))))))))))) ?_
      cases h
      exact ⟨rfl,(sw [] [] [.s 2] [] an)⟩
     ·replace h:=zO zV h
      rcases bft (decide (c_1≥(48:Int))) with yF | yF
      ·replace h:=zP yF h
       rcases bft (decide (c_1≤(57:Int))) with xA | xA
       ·replace h:=zP xA h
        refine rg [(5,Ht),(12,Ht),(13,Hf),(20,Ht),(21,Hf),(23,Hg),(24,Hg),(25,Hg),(26,Ht)] [2] [] 0 [.bool true] [] zG (ac zH (ac zH (ac zH (ac zI (ac zI (ac zI (ac zN (ac zN (ac zI (ac zN (ac zI (ac zV (ac zV (ac zV (ac yF (ac yF (ac zV (ac yF (ac zV (ac xA (ac xA (ac xA (ac xA an))))))))))))))))))))))) ?_
        cases h
        exact ⟨rfl,(sw [] [] [.s 2] [] an)⟩
       ·replace h:=zO xA h
        obtain ⟨r_1,h_1,h⟩:=bind_some h
        refine rg [(5,Ht),(12,Ht),(13,Hf),(20,Ht),(21,Hf),(24,{ av:=Ii r_1,l:=[.str ([95,46,58,47,60,62,36,42,126,45]:List Int),Iu c_1] }),(26,Hf)] [2] [] 0 [.bool (decide (r_1≥(0:Int)))] [] zG (ac zH (ac zH (ac zH (ac zI (ac zI (ac zI (ac zN (ac zN (ac zI (ac zN (ac zI (ac zV (ac zV (ac zV (ac yF (ac yF (ac zV (ac yF (ac zV (ac xA (ac xA (ar ([.str ([95,46,58,47,60,62,36,42,126,45]:List Int),Iu c_1]:List AV) (ac (rfl:([]:List zT)=[]) (ac (vM ([95,46,58,47,60,62,36,42,126,45]:List Int) c_1 r_1 h_1:zW prog 86 [] [] [.str ([95,46,58,47,60,62,36,42,126,45]:List Int),Iu c_1] [] (Ii r_1)) (ac xA (ac xA an)))))))))))))))))))))))))) ?_
        cases h
        exact ⟨rfl,(sw [] [] [.s 2] [] an)⟩
      ·replace h:=zO yF h
       obtain ⟨r_1,h_1,h⟩:=bind_some h
       refine rg [(5,Ht),(12,Ht),(13,Hf),(18,Hg),(19,Hg),(20,Hf),(21,Hf),(24,{ av:=Ii r_1,l:=[.str ([95,46,58,47,60,62,36,42,126,45]:List Int),Iu c_1] }),(26,Hf)] [2] [] 0 [.bool (decide (r_1≥(0:Int)))] [] zG (ac zH (ac zH (ac zH (ac zI (ac zI (ac zI (ac zN (ac zN (ac zI (ac zN (ac zI (ac zV (ac zV (ac zV (ac yF (ac yF (ac zV (ac yF (ac zV (ar false (ar false (ar ([.str ([95,46,58,47,60,62,36,42,126,45]:List Int),Iu c_1]:List AV) (ac (rfl:([]:List zT)=[]) (ac (vM ([95,46,58,47,60,62,36,42,126,45]:List Int) c_1 r_1 h_1:zW prog 86 [] [] [.str ([95,46,58,47,60,62,36,42,126,45]:List Int),Iu c_1] [] (Ii r_1)) (ar false (ar false an)))))))))))))))))))))))))) ?_
       cases h
       exact ⟨rfl,(sw [] [] [.s 2] [] an)⟩
    ·replace h:=zO zN h
     rcases bft (decide (c_1≥(48:Int))) with y5 | y5
     ·replace h:=zP y5 h
      rcases bft (decide (c_1≤(57:Int))) with xB | xB
      ·replace h:=zP xB h
       refine rg [(5,Ht),(10,Hg),(11,Hg),(12,Hf),(13,Hf),(20,Ht),(21,Hf),(23,Hg),(24,Hg),(25,Hg),(26,Ht)] [2] [] 0 [.bool true] [] zG (ac zH (ac zH (ac zH (ac zI (ac zI (ac zI (ac zN (ac zN (ac zI (ac zN (ac zI (ar false (ar false (ar false (ac y5 (ac y5 (ar false (ac y5 (ar false (ac xB (ac xB (ac xB (ac xB an))))))))))))))))))))))) ?_
       cases h
       exact ⟨rfl,(sw [] [] [.s 2] [] an)⟩
      ·replace h:=zO xB h
       obtain ⟨r_1,h_1,h⟩:=bind_some h
       refine rg [(5,Ht),(10,Hg),(11,Hg),(12,Hf),(13,Hf),(20,Ht),(21,Hf),(24,{ av:=Ii r_1,l:=[.str ([95,46,58,47,60,62,36,42,126,45]:List Int),Iu c_1] }),(26,Hf)] [2] [] 0 [.bool (decide (r_1≥(0:Int)))] [] zG (ac zH (ac zH (ac zH (ac zI (ac zI (ac zI (ac zN (ac zN (ac zI (ac zN (ac zI (ar false (ar false (ar false (ac y5 (ac y5 (ar false (ac y5 (ar false (ac xB (ac xB (ar ([.str ([95,46,58,47,60,62,36,42,126,45]:List Int),Iu c_1]:List AV) (ac (rfl:([]:List zT)=[]) (ac (vM ([95,46,58,47,60,62,36,42,126,45]:List Int) c_1 r_1 h_1:zW prog 86 [] [] [.str ([95,46,58,47,60,62,36,42,126,45]:List Int),Iu c_1] [] (Ii r_1)) (ac xB (ac xB an)))))))))))))))))))))))))) ?_
       cases h
       exact ⟨rfl,(sw [] [] [.s 2] [] an)⟩
     ·replace h:=zO y5 h
      obtain ⟨r_1,h_1,h⟩:=bind_some h
      refine rg [(5,Ht),(10,Hg),(11,Hg),(12,Hf),(13,Hf),(18,Hg),(19,Hg),(20,Hf),(21,Hf),(24,{ av:=Ii r_1,l:=[.str ([95,46,58,47,60,62,36,42,126,45]:List Int),Iu c_1] }),(26,Hf)] [2] [] 0 [.bool (decide (r_1≥(0:Int)))] [] zG (ac zH (ac zH (ac zH (ac zI (ac zI (ac zI (ac zN (ac zN (ac zI (ac zN (ac zI (ar false (ar false (ar false (ac y5 (ac y5 (ar false (ac y5 (ar false (ar false (ar false (ar ([.str ([95,46,58,47,60,62,36,42,126,45]:List Int),Iu c_1]:List AV) (ac (rfl:([]:List zT)=[]) (ac (vM ([95,46,58,47,60,62,36,42,126,45]:List Int) c_1 r_1 h_1:zW prog 86 [] [] [.str ([95,46,58,47,60,62,36,42,126,45]:List Int),Iu c_1] [] (Ii r_1)) (ar false (ar false an)))))))))))))))))))))))))) ?_
      cases h
      exact ⟨rfl,(sw [] [] [.s 2] [] an)⟩
  ·replace h:=zO zH h
   rcases bft (decide (c_1≥(65:Int))) with wB | wB
   ·replace h:=zP wB h
    rcases bft (decide (c_1≤(90:Int))) with xF | xF
    ·replace h:=zP xF h
     refine rg [(3,Hg),(4,Hg),(5,Hf),(12,Ht),(13,Hf),(15,Hg),(16,Hg),(17,Hg),(20,Hg),(21,Ht),(23,Hg),(24,Hg),(25,Hg),(26,Ht)] [2] [] 0 [.bool true] [] zG (ac zH (ac zH (ac zH (ar false (ar false (ar false (ac wB (ac wB (ar false (ac wB (ar false (ac xF (ac xF (ac xF (ac xF (ac xF (ax (ax (ax (ar true an)))))))))))))))))))) ?_
     cases h
     exact ⟨rfl,(sw [] [] [.s 2] [] an)⟩
    ·replace h:=zO xF h
     rcases bft (decide (c_1≥(48:Int))) with xJ | xJ
     ·replace h:=zP xJ h
      rcases bft (decide (c_1≤(57:Int))) with y2 | y2
      ·replace h:=zP y2 h
       refine rg [(3,Hg),(4,Hg),(5,Hf),(12,Ht),(13,Hf),(20,Ht),(21,Hf),(23,Hg),(24,Hg),(25,Hg),(26,Ht)] [2] [] 0 [.bool true] [] zG (ac zH (ac zH (ac zH (ar false (ar false (ar false (ac wB (ac wB (ar false (ac wB (ar false (ac xF (ac xF (ac xF (ac xJ (ac xJ (ac xF (ac xJ (ac xF (ac y2 (ac y2 (ac y2 (ac y2 an))))))))))))))))))))))) ?_
       cases h
       exact ⟨rfl,(sw [] [] [.s 2] [] an)⟩
      ·replace h:=zO y2 h
       obtain ⟨r_1,h_1,h⟩:=bind_some h
       refine rg [(3,Hg),(4,Hg),(5,Hf),(12,Ht),(13,Hf),(20,Ht),(21,Hf),(24,{ av:=Ii r_1,l:=[.str ([95,46,58,47,60,62,36,42,126,45]:List Int),Iu c_1] }),(26,Hf)] [2] [] 0 [.bool (decide (r_1≥(0:Int)))] [] zG (ac zH (ac zH (ac zH (ar false (ar false (ar false (ac wB (ac wB (ar false (ac wB (ar false (ac xF (ac xF (ac xF (ac xJ (ac xJ (ac xF (ac xJ (ac xF (ac y2 (ac y2 (ar ([.str ([95,46,58,47,60,62,36,42,126,45]:List Int),Iu c_1]:List AV) (ac (rfl:([]:List zT)=[]) (ac (vM ([95,46,58,47,60,62,36,42,126,45]:List Int) c_1 r_1 h_1:zW prog 86 [] [] [.str ([95,46,58,47,60,62,36,42,126,45]:List Int),Iu c_1] [] (Ii r_1)) (ac y2 (ac y2 an)))))))))))))))))))))))))) ?_
       cases h
       exact ⟨rfl,(sw [] [] [.s 2] [] an)⟩
     ·replace h:=zO xJ h
      obtain ⟨r_1,h_1,h⟩:=bind_some h
      refine rg [(3,Hg),(4,Hg),(5,Hf),(12,Ht),(13,Hf),(18,Hg),(19,Hg),(20,Hf),(21,Hf),(24,{ av:=Ii r_1,l:=[.str ([95,46,58,47,60,62,36,42,126,45]:List Int),Iu c_1] }),(26,Hf)] [2] [] 0 [.bool (decide (r_1≥(0:Int)))] [] zG (ac zH (ac zH (ac zH (ar false (ar false (ar false (ac wB (ac wB (ar false (ac wB (ar false (ac xF (ac xF (ac xF (ac xJ (ac xJ (ac xF (ac xJ (ac xF (ar false (ar false (ar ([.str ([95,46,58,47,60,62,36,42,126,45]:List Int),Iu c_1]:List AV) (ac (rfl:([]:List zT)=[]) (ac (vM ([95,46,58,47,60,62,36,42,126,45]:List Int) c_1 r_1 h_1:zW prog 86 [] [] [.str ([95,46,58,47,60,62,36,42,126,45]:List Int),Iu c_1] [] (Ii r_1)) (ar false (ar false an)))))))))))))))))))))))))) ?_
      cases h
      exact ⟨rfl,(sw [] [] [.s 2] [] an)⟩
   ·replace h:=zO wB h
    rcases bft (decide (c_1≥(48:Int))) with x5 | x5
    ·replace h:=zP x5 h
     rcases bft (decide (c_1≤(57:Int))) with wC | wC
     ·replace h:=zP wC h
      refine rg [(3,Hg),(4,Hg),(5,Hf),(10,Hg),(11,Hg),(12,Hf),(13,Hf),(20,Ht),(21,Hf),(23,Hg),(24,Hg),(25,Hg),(26,Ht)] [2] [] 0 [.bool true] [] zG (ac zH (ac zH (ac zH (ar false (ar false (ar false (ac wB (ac wB (ar false (ac wB (ar false (ar false (ar false (ar false (ac x5 (ac x5 (ar false (ac x5 (ar false (ac wC (ac wC (ac wC (ac wC an))))))))))))))))))))))) ?_
      cases h
      exact ⟨rfl,(sw [] [] [.s 2] [] an)⟩
     ·replace h:=zO wC h
      obtain ⟨r_1,h_1,h⟩:=bind_some h
      refine rg [(3,Hg),(4,Hg),(5,Hf),(10,Hg),(11,Hg),(12,Hf),(13,Hf),(20,Ht),(21,Hf),(24,{ av:=Ii r_1,l:=[.str ([95,46,58,47,60,62,36,42,126,45]:List Int),Iu c_1] }),(26,Hf)] [2] [] 0 [.bool (decide (r_1≥(0:Int)))] [] zG (ac zH (ac zH (ac zH (ar false (ar false (ar false (ac wB (ac wB (ar false (ac wB (ar false (ar false (ar false (ar false (ac x5 (ac x5 (ar false (ac x5 (ar false (ac wC (ac wC (ar ([.str ([95,46,58,47,60,62,36,42,126,45]:List Int),Iu c_1]:List AV) (ac (rfl:([]:List zT)=[]) (ac (vM ([95,46,58,47,60,62,36,42,126,45]:List Int) c_1 r_1 h_1:zW prog 86 [] [] [.str ([95,46,58,47,60,62,36,42,126,45]:List Int),Iu c_1] [] (Ii r_1)) (ac wC (ac wC an)))))))))))))))))))))))))) ?_
      cases h
      exact ⟨rfl,(sw [] [] [.s 2] [] an)⟩
    ·replace h:=zO x5 h
     obtain ⟨r_1,h_1,h⟩:=bind_some h
     refine rg [(3,Hg),(4,Hg),(5,Hf),(10,Hg),(11,Hg),(12,Hf),(13,Hf),(18,Hg),(19,Hg),(20,Hf),(21,Hf),(24,{ av:=Ii r_1,l:=[.str ([95,46,58,47,60,62,36,42,126,45]:List Int),Iu c_1] }),(26,Hf)] [2] [] 0 [.bool (decide (r_1≥(0:Int)))] [] zG (ac zH (ac zH (ac zH (ar false (ar false (ar false (ac wB (ac wB (ar false (ac wB (ar false (ar false (ar false (ar false (ac x5 (ac x5 (ar false (ac x5 (ar false (ar false (ar false (ar ([.str ([95,46,58,47,60,62,36,42,126,45]:List Int),Iu c_1]:List AV) (ac (rfl:([]:List zT)=[]) (ac (vM ([95,46,58,47,60,62,36,42,126,45]:List Int) c_1 r_1 h_1:zW prog 86 [] [] [.str ([95,46,58,47,60,62,36,42,126,45]:List Int),Iu c_1] [] (Ii r_1)) (ar false (ar false an)))))))))))))))))))))))))) ?_
     cases h
     exact ⟨rfl,(sw [] [] [.s 2] [] an)⟩
 refine rt ?_
 cases h
 exact ⟨.inr rfl,Nat.le_of_ble_eq_true rfl,by kernel_rfl⟩
theorem zBo (F:Nat) (s_1:List Int) (r:Int) (h:j6 F s_1=some r):zW prog 64 [] [] [.str s_1] [] (Ii r):=by
 refine yA (fn:=Go.Proofs.Try.f64) (code:=xC Go.Proofs.Try.f64) (by kernel_rfl) (by kernel_rfl) (Nat.le_of_ble_eq_true (by kernel_rfl)) ?_
 unfold j6 at h
 refine sr [] [0] [] 0 [.str s_1] [] zG an ?_
 refine sq ?_
 refine sq ?_
 refine y9 (mk [(0,.str s_1),(10,.bool ((s_1==([]:List Int))||decide ((lN (s_1))>(40:Int))))] [] 0) ?_ ?_
 ·rcases bft (s_1==([]:List Int)) with zH | zH
  ·refine rg [(3,Hg),(4,Hg),(5,Hg),(6,Ht)] [0,10] [] 0 [.str s_1,.bool true] [] zG (ac zH (ac zH (ac zH (ac zH an)))) ?_
   exact ⟨rfl,(sw [] [] [.s 0,.a 10 (.bool ((s_1==([]:List Int))||decide ((lN (s_1))>(40:Int))))] [] (ac (congrArg AV.bool (ort zH):(.bool true:AV)=.bool ((s_1==([]:List Int))||decide ((lN (s_1))>(40:Int)))) an))⟩
  ·refine rg [(6,Hf)] [0,10] [] 0 [.str s_1,.bool (decide ((lN (s_1))>(40:Int)))] [] zG (ac zH (ac zH (ac zH (ac zH an)))) ?_
   exact ⟨rfl,(sw [] [] [.s 0,.a 10 (.bool ((s_1==([]:List Int))||decide ((lN (s_1))>(40:Int))))] [] (ac (congrArg AV.bool (orf zH rfl):(.bool (decide ((lN (s_1))>(40:Int))):AV)=.bool ((s_1==([]:List Int))||decide ((lN (s_1))>(40:Int)))) an))⟩
 refine cd 10 ((s_1==([]:List Int))||decide ((lN (s_1))>(40:Int))) ?_ ?_
 ·intro g_1;replace h:=zP g_1 h
  refine sr [] [2] [] 0 [Ii 3] [] zG an ?_
  refine rt ?_
  cases h
  exact ⟨.inr rfl,Nat.le_of_ble_eq_true rfl,by kernel_rfl⟩
 intro g_1;replace h:=zO g_1 h
 refine sk ?_
 refine sq ?_
 refine sr [] [0,12,13] [] 0 [.str s_1,Ii (lN (s_1)),Ii 0] [] zG an ?_
 obtain ⟨o_1,h_1,h⟩:=bind_some h
 refine wK (K1:=(fun e st'=>match o_1 with | (.inl q0)=>e=.normal∧Sub 0 st' (mk [] [] 0) | (.inr q1)=>e=.ret∧uF prog Go.Proofs.Try.f64 0 [] (Ii q1) st')) ?_ ?_
 ·replace h:=h_1
  refine yC (id:=0) (by kernel_rfl) ?_
  refine wk [] [] [.s 0,.s 12,.s 13] [] [(0,.str s_1),(12,Ii (lN (s_1))),(13,Ii 0)] [] an ?_
  refine xH (fun n st=>∃ (v_1:Int),st=mk [(0,.str s_1),(12,Ii (lN (s_1))),(13,Ii v_1)] [] 0∧kO F s_1 n v_1=some o_1) F (by kernel_rfl) ⟨_,rfl,h⟩ ?_ ?_
  ·rintro _ ⟨_,_,h⟩;exact xX (h:(none:Option (Unit⊕Int))=some o_1)
  rintro n_1 _ ⟨v_1,rfl,h⟩
  replace h:qE F s_1 (kO F s_1 n_1) v_1=some o_1:=h
  unfold qE at h
  refine sr [] [0,12,13,14] [] 0 [.str s_1,Ii (lN (s_1)),Ii v_1,.bool (decide (v_1<(lN (s_1))))] [] zG an ?_
  refine sq ?_
  refine cd 14 (decide (v_1<(lN (s_1)))) ?_ ?_
  rotate_left
  ·intro g_2;replace h:=zO g_2 h
   refine xS (id:=0) (by kernel_rfl) ?_
   cases h
   exact ⟨rfl,(sw [] [] [] [] an)⟩
  intro g_2;replace h:=zP g_2 h
  refine sk ?_
  refine sq ?_
  refine yC (id:=1) (by kernel_rfl) ?_
  refine sr [] [0,3,12,13] [] 0 [.str s_1,Ii v_1,Ii (lN (s_1)),Ii v_1] [] zG an ?_
  refine sq ?_
  obtain ⟨c_1,h_2,h⟩:=bind_some h
  obtain ⟨r_1,h_3,h⟩:=bind_some h
  refine rg [(2,{ z:=c_1 }),(3,{ av:=.bool r_1,l:=[Iu c_1] })] [0,12,13,20] [] 0 [.str s_1,Ii (lN (s_1)),Ii v_1,.bool (!r_1)] [] zG (ac h_2 (ar ([Iu c_1]:List AV) (ac (rfl:([]:List zT)=[]) (ac (zFM c_1 r_1 h_3:zW prog 75 [] [] [Iu c_1] [] (.bool r_1)) an)))) ?_
  refine cd 20 (!r_1) ?_ ?_
  rotate_left
  ·intro g_3;replace h:=zO g_3 h
   refine sk ?_
   refine rg [] [0,12,13] [] 0 [.str s_1,Ii (lN (s_1)),Ii (zR (v_1+(1:Int)))] [] zG an ?_
   exact ⟨_,(sw [] [] [.s 0,.s 12,.s 13] [] an),_,rfl,h⟩
  intro g_3;replace h:=zP g_3 h
  refine sr [] [2] [] 0 [Ii 3] [] zG an ?_
  refine rt ?_
  cases h
  exact ⟨rfl,Nat.le_of_ble_eq_true rfl,by kernel_rfl⟩
 intro e st1 hk
 rcases o_1 with q_1 | q_2
 rotate_left
 ·obtain ⟨rfl,hf⟩:=hk
  cases h
  exact ⟨st1,Sub.refl _ _,.inr rfl,hf⟩
 obtain ⟨rfl,hs⟩:=hk
 refine ⟨_,hs,?_⟩
 refine sr [] [2] [] 0 [Ii 0] [] zG an ?_
 refine rt ?_
 cases h
 exact ⟨.inr rfl,Nat.le_of_ble_eq_true rfl,by kernel_rfl⟩
theorem zEN (F:Nat) (t_1:zY) (r:Int) (h:jT F t_1=some r):zW prog 47 [] [] [zF t_1] [] (Ii r):=by
 refine yA (fn:=Go.Proofs.Try.f47) (code:=xC Go.Proofs.Try.f47) (by kernel_rfl) (by kernel_rfl) (Nat.le_of_ble_eq_true (by kernel_rfl)) ?_
 unfold jT at h
 refine sr [(0,{ id:=0 })] [1] [0] 1 [Pp 0] [Vb 66 (z8 t_1)] zG an ?_
 refine sq ?_
 refine sq ?_
 refine y9 (mk [(1,Pp 0),(20,.bool (decide (t_1.Id<(0:Int))||(decide (t_1.Id>(1000000000000000:Int))||(decide (t_1.Domain<(0:Int))||decide (t_1.Domain≥(8:Int))))))] [(0,Vb 66 (z8 t_1))] 1) ?_ ?_
 ·rcases bft (decide (t_1.Id<(0:Int))) with zH | zH
  ·refine rg [(4,Hg),(5,Hg),(6,Hg),(7,Ht),(9,Hg),(10,Hg),(11,Hg),(12,Ht),(14,Hg),(15,Hg),(16,Hg),(17,Ht)] [1,20] [0] 1 [Pp 0,.bool true] [Vb 66 (z8 t_1)] zG (ac zH (ac zH (ac zH (ac zH (ax (ax (ax (ar true (ax (ax (ax (ar true an)))))))))))) ?_
   exact ⟨rfl,(sw [0] [] [.s 1,.a 20 (.bool (decide (t_1.Id<(0:Int))||(decide (t_1.Id>(1000000000000000:Int))||(decide (t_1.Domain<(0:Int))||decide (t_1.Domain≥(8:Int))))))] [.s 0] (ac (congrArg AV.bool (ort zH):(.bool true:AV)=.bool (decide (t_1.Id<(0:Int))||(decide (t_1.Id>(1000000000000000:Int))||(decide (t_1.Domain<(0:Int))||decide (t_1.Domain≥(8:Int)))))) an))⟩
  ·rcases bft (decide (t_1.Id>(1000000000000000:Int))) with zI | zI
   ·refine rg [(7,Hf),(9,Hg),(10,Hg),(11,Hg),(12,Ht),(14,Hg),(15,Hg),(16,Hg),(17,Ht)] [1,20] [0] 1 [Pp 0,.bool true] [Vb 66 (z8 t_1)] zG (ac zH (ac zH (ac zH (ac zH (ac zI (ac zI (ac zI (ac zI (ax (ax (ax (ar true an)))))))))))) ?_
    exact ⟨rfl,(sw [0] [] [.s 1,.a 20 (.bool (decide (t_1.Id<(0:Int))||(decide (t_1.Id>(1000000000000000:Int))||(decide (t_1.Domain<(0:Int))||decide (t_1.Domain≥(8:Int))))))] [.s 0] (ac (congrArg AV.bool (orf zH (ort zI)):(.bool true:AV)=.bool (decide (t_1.Id<(0:Int))||(decide (t_1.Id>(1000000000000000:Int))||(decide (t_1.Domain<(0:Int))||decide (t_1.Domain≥(8:Int)))))) an))⟩
   ·rcases bft (decide (t_1.Domain<(0:Int))) with zN | zN
    ·refine rg [(7,Hf),(12,Hf),(14,Hg),(15,Hg),(16,Hg),(17,Ht)] [1,20] [0] 1 [Pp 0,.bool true] [Vb 66 (z8 t_1)] zG (ac zH (ac zH (ac zH (ac zH (ac zI (ac zI (ac zI (ac zI (ac zN (ac zN (ac zN (ac zN an)))))))))))) ?_
     exact ⟨rfl,(sw [0] [] [.s 1,.a 20 (.bool (decide (t_1.Id<(0:Int))||(decide (t_1.Id>(1000000000000000:Int))||(decide (t_1.Domain<(0:Int))||decide (t_1.Domain≥(8:Int))))))] [.s 0] (ac (congrArg AV.bool (orf zH (orf zI (ort zN))):(.bool true:AV)=.bool (decide (t_1.Id<(0:Int))||(decide (t_1.Id>(1000000000000000:Int))||(decide (t_1.Domain<(0:Int))||decide (t_1.Domain≥(8:Int)))))) an))⟩
    ·refine rg [(7,Hf),(12,Hf),(17,Hf)] [1,20] [0] 1 [Pp 0,.bool (decide (t_1.Domain≥(8:Int)))] [Vb 66 (z8 t_1)] zG (ac zH (ac zH (ac zH (ac zH (ac zI (ac zI (ac zI (ac zI (ac zN (ac zN (ac zN (ac zN an)))))))))))) ?_
     exact ⟨rfl,(sw [0] [] [.s 1,.a 20 (.bool (decide (t_1.Id<(0:Int))||(decide (t_1.Id>(1000000000000000:Int))||(decide (t_1.Domain<(0:Int))||decide (t_1.Domain≥(8:Int))))))] [.s 0] (ac (congrArg AV.bool (orf zH (orf zI (orf zN rfl))):(.bool (decide (t_1.Domain≥(8:Int))):AV)=.bool (decide (t_1.Id<(0:Int))||(decide (t_1.Id>(1000000000000000:Int))||(decide (t_1.Domain<(0:Int))||decide (t_1.Domain≥(8:Int)))))) an))⟩
 refine cd 20 (decide (t_1.Id<(0:Int))||(decide (t_1.Id>(1000000000000000:Int))||(decide (t_1.Domain<(0:Int))||decide (t_1.Domain≥(8:Int))))) ?_ ?_
 ·intro g_1;replace h:=zP g_1 h
  refine sr [] [2] [] 1 [Ii 2] [] zG an ?_
  refine rt ?_
  cases h
  exact ⟨.inr rfl,Nat.le_of_ble_eq_true rfl,by kernel_rfl⟩
 intro g_1;replace h:=zO g_1 h
 refine sk ?_
 refine sq ?_
 obtain ⟨r_1,h_1,h⟩:=bind_some h
 refine rg [(2,{ av:=Ii r_1,l:=[.str t_1.Name] })] [2] [] 1 [Ii r_1] [] zG (ar ([.str t_1.Name]:List AV) (ac (rfl:([]:List zT)=[]) (ac (zBo F t_1.Name r_1 h_1:zW prog 64 [] [] [.str t_1.Name] [] (Ii r_1)) an))) ?_
 refine rt ?_
 cases h
 exact ⟨.inr rfl,Nat.le_of_ble_eq_true rfl,by kernel_rfl⟩
theorem zGe (x_1:zS) (a_1:Int) (r:Bool) (h:zAt x_1 a_1=some r):zW prog 87 [(.var 3 [Ii a_1])] [] [zC x_1,Pp 0] [(.var 3 [Ii a_1])] (.bool r):=by
 refine yA (fn:=Go.Proofs.Try.f87) (code:=xC Go.Proofs.Try.f87) (by kernel_rfl) (by kernel_rfl) (Nat.le_of_ble_eq_true (by kernel_rfl)) ?_
 unfold zAt at h
 refine sr [(0,{ id:=1 })] [1,2] [0,1] 2 [Pp 0,Pp 1] [Vb 3 [Ii a_1],Vb 68 (uD x_1)] zG an ?_
 refine sr [] [3] [0] 2 [.bool (x_1.Id==a_1)] [Vb 3 [Ii a_1]] zG an ?_
 refine wk [0] [] [.s 3] [.s 0] [(3,.bool (x_1.Id==a_1))] [(0,Vb 3 [Ii a_1])] an ?_
 refine rt ?_
 cases h
 exact ⟨.inr rfl,Nat.le_of_ble_eq_true rfl,by kernel_rfl⟩
theorem tY (F:Nat) (s_1:List (zS)) (c_1:Int) (r:Int) (h:xU F s_1 c_1=some r):zW prog 67 [(.var 3 [Ii c_1])] [] [.sl false 2 (Mp zC s_1),.fn 87 [Pp 0]] [(.var 3 [Ii c_1])] (Ii r):=by
 refine yA (fn:=Go.Proofs.Try.f67) (code:=xC Go.Proofs.Try.f67) (by kernel_rfl) (by kernel_rfl) (Nat.le_of_ble_eq_true (by kernel_rfl)) ?_
 unfold xU at h
 refine sr [] [0,1] [0] 1 [.sl false 2 (Mp zC s_1),.fn 87 [Pp 0]] [Vb 3 [Ii c_1]] zG an ?_
 refine sq ?_
 refine sr [(1,{ n:=(s_1).length })] [0,1,7,8] [0] 1 [.sl false 2 (Mp zC s_1),.fn 87 [Pp 0],Ii (lN (s_1)),Ii 0] [Vb 3 [Ii c_1]] zG (ac (z9 _:((Mp zC s_1)).length=(s_1).length) an) ?_
 obtain ⟨o_1,h_1,h⟩:=bind_some h
 refine wK (K1:=(fun e st'=>match o_1 with | (.inl q0)=>e=.normal∧Sub 1 st' (mk [] [(0,Vb 3 [Ii c_1])] 1) | (.inr q1)=>e=.ret∧uF prog Go.Proofs.Try.f67 1 [(.var 3 [Ii c_1])] (Ii q1) st')) ?_ ?_
 ·replace h:=h_1
  refine yC (id:=0) (by kernel_rfl) ?_
  refine wk [0] [] [.s 0,.s 1,.s 7,.s 8] [.s 0] [(0,.sl false 2 (Mp zC s_1)),(1,.fn 87 [Pp 0]),(7,Ii (lN (s_1))),(8,Ii 0)] [(0,Vb 3 [Ii c_1])] an ?_
  refine xH (fun n st=>∃ (v_1:Int),st=mk [(0,.sl false 2 (Mp zC s_1)),(1,.fn 87 [Pp 0]),(7,Ii (lN (s_1))),(8,Ii v_1)] [(0,Vb 3 [Ii c_1])] 1∧xO F s_1 c_1 n v_1=some o_1) F (by kernel_rfl) ⟨_,rfl,h⟩ ?_ ?_
  ·rintro _ ⟨_,_,h⟩;exact xX (h:(none:Option (Unit⊕Int))=some o_1)
  rintro n_1 _ ⟨v_1,rfl,h⟩
  replace h:yS F s_1 c_1 (xO F s_1 c_1 n_1) v_1=some o_1:=h
  unfold yS at h
  refine sr [] [0,1,7,8,9] [0] 1 [.sl false 2 (Mp zC s_1),.fn 87 [Pp 0],Ii (lN (s_1)),Ii v_1,.bool (decide (v_1<(lN (s_1))))] [Vb 3 [Ii c_1]] zG an ?_
  refine sq ?_
  refine cd 9 (decide (v_1<(lN (s_1)))) ?_ ?_
  rotate_left
  ·intro g_1;replace h:=zO g_1 h
   refine xS (id:=0) (by kernel_rfl) ?_
   cases h
   exact ⟨rfl,(sw [0] [] [] [.s 0] an)⟩
  intro g_1;replace h:=zP g_1 h
  refine sk ?_
  refine sq ?_
  refine yC (id:=1) (by kernel_rfl) ?_
  refine sr [] [0,1,5,7,8] [0] 1 [.sl false 2 (Mp zC s_1),.fn 87 [Pp 0],Ii v_1,Ii (lN (s_1)),Ii v_1] [Vb 3 [Ii c_1]] zG an ?_
  refine sq ?_
  obtain ⟨x_1,h_2,h⟩:=bind_some h
  obtain ⟨r_1,h_3,h⟩:=bind_some h
  refine rg [(3,{ av:=zC x_1 }),(5,{ av:=.bool r_1,ids:=[0],l:=[zC x_1,Pp 0],post:=[(.var 3 [Ii c_1])],pre:=[(.var 3 [Ii c_1])] })] [0,1,5,7,8,16] [0] 1 [.sl false 2 (Mp zC s_1),.fn 87 [Pp 0],Ii v_1,Ii (lN (s_1)),Ii v_1,.bool r_1] [Vb 3 [Ii c_1]] zG (ac (yP h_2:xG (Mp zC s_1) v_1=some (zC x_1)) (ar ([zC x_1,Pp 0]:List AV) (ac (rfl:([Vb 3 [Ii c_1]]:List zT)=[Vb 3 [Ii c_1]]) (ac (zGe x_1 c_1 r_1 h_3:zW prog 87 [(.var 3 [Ii c_1])] [] [zC x_1,Pp 0] [(.var 3 [Ii c_1])] (.bool r_1)) an)))) ?_
  refine cd 16 r_1 ?_ ?_
  rotate_left
  ·intro g_2;replace h:=zO g_2 h
   refine sk ?_
   refine rg [] [0,1,7,8] [0] 1 [.sl false 2 (Mp zC s_1),.fn 87 [Pp 0],Ii (lN (s_1)),Ii (zR (v_1+(1:Int)))] [Vb 3 [Ii c_1]] zG an ?_
   exact ⟨_,(sw [0] [] [.s 0,.s 1,.s 7,.s 8] [.s 0] an),_,rfl,h⟩
  intro g_2;replace h:=zP g_2 h
  refine sr [] [4] [0] 1 [Ii v_1] [Vb 3 [Ii c_1]] zG an ?_
  refine wk [0] [] [.s 4] [.s 0] [(4,Ii v_1)] [(0,Vb 3 [Ii c_1])] an ?_
  refine rt ?_
  cases h
  exact ⟨rfl,Nat.le_of_ble_eq_true rfl,by kernel_rfl⟩
 intro e st1 hk
 rcases o_1 with q_1 | q_2
 rotate_left
 ·obtain ⟨rfl,hf⟩:=hk
  cases h
  exact ⟨st1,Sub.refl _ _,.inr rfl,hf⟩
 obtain ⟨rfl,hs⟩:=hk
 refine ⟨_,hs,?_⟩
 refine sr [] [4] [0] 1 [Ii (-1)] [Vb 3 [Ii c_1]] zG an ?_
 refine wk [0] [] [.s 4] [.s 0] [(4,Ii (-1))] [(0,Vb 3 [Ii c_1])] an ?_
 refine rt ?_
 cases h
 exact ⟨.inr rfl,Nat.le_of_ble_eq_true rfl,by kernel_rfl⟩
theorem zBC (F:Nat) (d_1:List (zS)) (xE:Int) (r:Int) (h:j9 F d_1 xE=some r):zW prog 76 [] [] [.sl false 2 (Mp zC d_1),Ii xE] [] (Ii r):=by
 refine yA (fn:=Go.Proofs.Try.f76) (code:=xC Go.Proofs.Try.f76) (by kernel_rfl) (by kernel_rfl) (Nat.le_of_ble_eq_true (by kernel_rfl)) ?_
 unfold j9 at h
 refine sr [(0,{ id:=0 })] [0,3] [0] 1 [.sl false 2 (Mp zC d_1),Pp 0] [Vb 3 [Ii xE]] zG an ?_
 refine sq ?_
 obtain ⟨r_1,h_1,h⟩:=bind_some h
 refine rg [(2,{ av:=Ii r_1,ids:=[0],l:=[.sl false 2 (Mp zC d_1),.fn 87 [Pp 0]],post:=[(.var 3 [Ii xE])],pre:=[(.var 3 [Ii xE])] })] [4] [] 1 [Ii r_1] [] zG (ar ([.sl false 2 (Mp zC d_1),.fn 87 [Pp 0]]:List AV) (ac (rfl:([Vb 3 [Ii xE]]:List zT)=[Vb 3 [Ii xE]]) (ac (tY F d_1 xE r_1 h_1:zW prog 67 [(.var 3 [Ii xE])] [] [.sl false 2 (Mp zC d_1),.fn 87 [Pp 0]] [(.var 3 [Ii xE])] (Ii r_1)) an))) ?_
 refine rt ?_
 cases h
 exact ⟨.inr rfl,Nat.le_of_ble_eq_true rfl,by kernel_rfl⟩
theorem zF5 (F:Nat) (d_1:List (zS)) (r:Int) (h:pN F d_1=some r):zW prog 65 [] [] [.sl false 2 (Mp zC d_1)] [] (Ii r):=by
 refine yA (fn:=Go.Proofs.Try.f65) (code:=xC Go.Proofs.Try.f65) (by kernel_rfl) (by kernel_rfl) (Nat.le_of_ble_eq_true (by kernel_rfl)) ?_
 unfold pN at h
 refine sr [] [0] [] 0 [.sl false 2 (Mp zC d_1)] [] zG an ?_
 refine sq ?_
 refine sr [(1,{ n:=(d_1).length })] [0,5,6,7] [] 0 [.sl false 2 (Mp zC d_1),.sl false 2 (Mp zC d_1),Ii (lN (d_1)),Ii 0] [] zG (ac (z9 _:((Mp zC d_1)).length=(d_1).length) an) ?_
 obtain ⟨o_1,h_1,h⟩:=bind_some h
 refine wK (K1:=(fun e st'=>match o_1 with | (.inl q0)=>e=.normal∧Sub 0 st' (mk [] [] 0) | (.inr q1)=>e=.ret∧uF prog Go.Proofs.Try.f65 0 [] (Ii q1) st')) ?_ ?_
 ·replace h:=h_1
  refine yC (id:=0) (by kernel_rfl) ?_
  refine wk [] [] [.s 0,.s 5,.s 6,.s 7] [] [(0,.sl false 2 (Mp zC d_1)),(5,.sl false 2 (Mp zC d_1)),(6,Ii (lN (d_1))),(7,Ii 0)] [] an ?_
  refine xH (fun n st=>∃ (v_1:Int),st=mk [(0,.sl false 2 (Mp zC d_1)),(5,.sl false 2 (Mp zC d_1)),(6,Ii (lN (d_1))),(7,Ii v_1)] [] 0∧jG F d_1 n v_1=some o_1) F (by kernel_rfl) ⟨_,rfl,h⟩ ?_ ?_
  ·rintro _ ⟨_,_,h⟩;exact xX (h:(none:Option (Unit⊕Int))=some o_1)
  rintro n_1 _ ⟨v_1,rfl,h⟩
  replace h:vW F d_1 (jG F d_1 n_1) v_1=some o_1:=h
  unfold vW at h
  refine sr [] [0,5,6,7,8] [] 0 [.sl false 2 (Mp zC d_1),.sl false 2 (Mp zC d_1),Ii (lN (d_1)),Ii v_1,.bool (decide (v_1<(lN (d_1))))] [] zG an ?_
  refine sq ?_
  refine cd 8 (decide (v_1<(lN (d_1)))) ?_ ?_
  rotate_left
  ·intro g_1;replace h:=zO g_1 h
   refine xS (id:=0) (by kernel_rfl) ?_
   cases h
   exact ⟨rfl,(sw [] [] [] [] an)⟩
  intro g_1;replace h:=zP g_1 h
  refine sk ?_
  refine sq ?_
  refine yC (id:=1) (by kernel_rfl) ?_
  refine sq ?_
  obtain ⟨x_1,h_2,h⟩:=bind_some h
  refine rg [(1,{ av:=zC x_1 }),(3,{ id:=0 })] [0,3,4,5,6,7] [0] 1 [.sl false 2 (Mp zC d_1),Ii v_1,Pp 0,.sl false 2 (Mp zC d_1),Ii (lN (d_1)),Ii v_1] [Vb 68 (uD x_1)] zG (ac (yP h_2:xG (Mp zC d_1) v_1=some (zC x_1)) an) ?_
  refine sq ?_
  refine sq ?_
  refine y9 (mk [(0,.sl false 2 (Mp zC d_1)),(3,Ii v_1),(4,Pp 0),(5,.sl false 2 (Mp zC d_1)),(6,Ii (lN (d_1))),(7,Ii v_1),(29,.bool (decide (x_1.Id<(0:Int))||(decide (x_1.Id≥(8:Int))||(decide (x_1.Ppm<(0:Int))||decide (x_1.Ppm>(10000:Int))))))] [(0,Vb 68 (uD x_1))] 1) ?_ ?_
  ·rcases bft (decide (x_1.Id<(0:Int))) with xF | xF
   ·refine rg [(4,Hg),(5,Hg),(6,Hg),(7,Ht),(9,Hg),(10,Hg),(11,Hg),(12,Ht),(14,Hg),(15,Hg),(16,Hg),(17,Ht)] [0,3,4,5,6,7,16,17,18,21,22,23,26,27,28,29] [0] 1 [.sl false 2 (Mp zC d_1),Ii v_1,Pp 0,.sl false 2 (Mp zC d_1),Ii (lN (d_1)),Ii v_1,.tuple [],.tuple [],.tuple [],.tuple [],.tuple [],.tuple [],.tuple [],.tuple [],.tuple [],.bool true] [Vb 68 (uD x_1)] zG (ac xF (ac xF (ac xF (ac xF (ax (ax (ax (ar true (ax (ax (ax (ar true an)))))))))))) ?_
    exact ⟨rfl,(sw [0] [] [.s 0,.s 3,.s 4,.s 5,.s 6,.s 7,.a 29 (.bool (decide (x_1.Id<(0:Int))||(decide (x_1.Id≥(8:Int))||(decide (x_1.Ppm<(0:Int))||decide (x_1.Ppm>(10000:Int))))))] [.s 0] (ac (congrArg AV.bool (ort xF):(.bool true:AV)=.bool (decide (x_1.Id<(0:Int))||(decide (x_1.Id≥(8:Int))||(decide (x_1.Ppm<(0:Int))||decide (x_1.Ppm>(10000:Int)))))) an))⟩
   ·rcases bft (decide (x_1.Id≥(8:Int))) with xJ | xJ
    ·refine rg [(7,Hf),(9,Hg),(10,Hg),(11,Hg),(12,Ht),(14,Hg),(15,Hg),(16,Hg),(17,Ht)] [0,3,4,5,6,7,16,17,18,21,22,23,26,27,28,29] [0] 1 [.sl false 2 (Mp zC d_1),Ii v_1,Pp 0,.sl false 2 (Mp zC d_1),Ii (lN (d_1)),Ii v_1,Pp 0,Ii x_1.Id,.bool (decide (x_1.Id≥(8:Int))),.tuple [],.tuple [],.tuple [],.tuple [],.tuple [],.tuple [],.bool true] [Vb 68 (uD x_1)] zG (ac xF (ac xF (ac xF (ac xF (ac xJ (ac xJ (ac xJ (ac xJ (ax (ax (ax (ar true an)))))))))))) ?_
     exact ⟨rfl,(sw [0] [] [.s 0,.s 3,.s 4,.s 5,.s 6,.s 7,.a 29 (.bool (decide (x_1.Id<(0:Int))||(decide (x_1.Id≥(8:Int))||(decide (x_1.Ppm<(0:Int))||decide (x_1.Ppm>(10000:Int))))))] [.s 0] (ac (congrArg AV.bool (orf xF (ort xJ)):(.bool true:AV)=.bool (decide (x_1.Id<(0:Int))||(decide (x_1.Id≥(8:Int))||(decide (x_1.Ppm<(0:Int))||decide (x_1.Ppm>(10000:Int)))))) an))⟩
    ·rcases bft (decide (x_1.Ppm<(0:Int))) with y2 | y2
     ·refine rg [(7,Hf),(12,Hf),(14,Hg),(15,Hg),(16,Hg),(17,Ht)] [0,3,4,5,6,7,16,17,18,21,22,23,26,27,28,29] [0] 1 [.sl false 2 (Mp zC d_1),Ii v_1,Pp 0,.sl false 2 (Mp zC d_1),Ii (lN (d_1)),Ii v_1,Pp 0,Ii x_1.Id,.bool (decide (x_1.Id≥(8:Int))),.ptr 0 0 0 1,Ii x_1.Ppm,.bool (decide (x_1.Ppm<(0:Int))),.tuple [],.tuple [],.tuple [],.bool true] [Vb 68 (uD x_1)] zG (ac xF (ac xF (ac xF (ac xF (ac xJ (ac xJ (ac xJ (ac xJ (ac y2 (ac y2 (ac y2 (ac y2 an)))))))))))) ?_
      exact ⟨rfl,(sw [0] [] [.s 0,.s 3,.s 4,.s 5,.s 6,.s 7,.a 29 (.bool (decide (x_1.Id<(0:Int))||(decide (x_1.Id≥(8:Int))||(decide (x_1.Ppm<(0:Int))||decide (x_1.Ppm>(10000:Int))))))] [.s 0] (ac (congrArg AV.bool (orf xF (orf xJ (ort y2))):(.bool true:AV)=.bool (decide (x_1.Id<(0:Int))||(decide (x_1.Id≥(8:Int))||(decide (x_1.Ppm<(0:Int))||decide (x_1.Ppm>(10000:Int)))))) an))⟩
     ·refine rg [(7,Hf),(12,Hf),(17,Hf)] [0,3,4,5,6,7,16,17,18,21,22,23,26,27,28,29] [0] 1 [.sl false 2 (Mp zC d_1),Ii v_1,Pp 0,.sl false 2 (Mp zC d_1),Ii (lN (d_1)),Ii v_1,Pp 0,Ii x_1.Id,.bool (decide (x_1.Id≥(8:Int))),.ptr 0 0 0 1,Ii x_1.Ppm,.bool (decide (x_1.Ppm<(0:Int))),.ptr 0 0 0 1,Ii x_1.Ppm,.bool (decide (x_1.Ppm>(10000:Int))),.bool (decide (x_1.Ppm>(10000:Int)))] [Vb 68 (uD x_1)] zG (ac xF (ac xF (ac xF (ac xF (ac xJ (ac xJ (ac xJ (ac xJ (ac y2 (ac y2 (ac y2 (ac y2 an)))))))))))) ?_
      exact ⟨rfl,(sw [0] [] [.s 0,.s 3,.s 4,.s 5,.s 6,.s 7,.a 29 (.bool (decide (x_1.Id<(0:Int))||(decide (x_1.Id≥(8:Int))||(decide (x_1.Ppm<(0:Int))||decide (x_1.Ppm>(10000:Int))))))] [.s 0] (ac (congrArg AV.bool (orf xF (orf xJ (orf y2 rfl))):(.bool (decide (x_1.Ppm>(10000:Int))):AV)=.bool (decide (x_1.Id<(0:Int))||(decide (x_1.Id≥(8:Int))||(decide (x_1.Ppm<(0:Int))||decide (x_1.Ppm>(10000:Int)))))) an))⟩
  refine cd 29 (decide (x_1.Id<(0:Int))||(decide (x_1.Id≥(8:Int))||(decide (x_1.Ppm<(0:Int))||decide (x_1.Ppm>(10000:Int))))) ?_ ?_
  ·intro g_2;replace h:=zP g_2 h
   refine sr [] [2] [] 1 [Ii 2] [] zG an ?_
   refine rt ?_
   cases h
   exact ⟨rfl,Nat.le_of_ble_eq_true rfl,by kernel_rfl⟩
  intro g_2;replace h:=zO g_2 h
  refine sk ?_
  refine sq ?_
  obtain ⟨_,h_3,h⟩:=bind_some h;replace h_3:=wN h_3
  obtain ⟨r_1,h_4,h⟩:=bind_some h
  refine rg [(2,{ l:=(Mp zC (sub d_1 (0:Int) v_1)) }),(5,{ av:=Ii r_1,l:=[.sl false 2 (Mp zC (sub d_1 (0:Int) v_1)),Ii x_1.Id] })] [0,5,6,7,36] [] 1 [.sl false 2 (Mp zC d_1),.sl false 2 (Mp zC d_1),Ii (lN (d_1)),Ii v_1,.bool (decide (r_1≥(0:Int)))] [] zG (ac (by decide:(0:Int)≤(0:Int)) (ac h_3.1 (ac (zDM h_3.2:v_1≤(lN ((Mp zC d_1)))) (ac (zI1 _ _ _:(Mp zC (sub d_1 (0:Int) v_1))=(((Mp zC d_1)).take (v_1).toNat).drop ((0:Int)).toNat) (ar ([.sl false 2 (Mp zC (sub d_1 (0:Int) v_1)),Ii x_1.Id]:List AV) (ac (rfl:([]:List zT)=[]) (ac (zBC F (sub d_1 (0:Int) v_1) x_1.Id r_1 h_4:zW prog 76 [] [] [.sl false 2 (Mp zC (sub d_1 (0:Int) v_1)),Ii x_1.Id] [] (Ii r_1)) an))))))) ?_
  refine cd 36 (decide (r_1≥(0:Int))) ?_ ?_
  rotate_left
  ·intro g_3;replace h:=zO g_3 h
   refine sk ?_
   refine rg [] [0,5,6,7] [] 1 [.sl false 2 (Mp zC d_1),.sl false 2 (Mp zC d_1),Ii (lN (d_1)),Ii (zR (v_1+(1:Int)))] [] zG an ?_
   exact ⟨_,(sw [] [] [.s 0,.s 5,.s 6,.s 7] [] an),_,rfl,h⟩
  intro g_3;replace h:=zP g_3 h
  refine sr [] [2] [] 1 [Ii 4] [] zG an ?_
  refine rt ?_
  cases h
  exact ⟨rfl,Nat.le_of_ble_eq_true rfl,by kernel_rfl⟩
 intro e st1 hk
 rcases o_1 with q_1 | q_2
 rotate_left
 ·obtain ⟨rfl,hf⟩:=hk
  cases h
  exact ⟨st1,Sub.refl _ _,.inr rfl,hf⟩
 obtain ⟨rfl,hs⟩:=hk
 refine ⟨_,hs,?_⟩
 refine sr [] [2] [] 0 [Ii 0] [] zG an ?_
 refine rt ?_
 cases h
 exact ⟨.inr rfl,Nat.le_of_ble_eq_true rfl,by kernel_rfl⟩
theorem zAy (n_1:Int) (r:Bool) (h:jM n_1=some r):zW prog 77 [] [] [Ii n_1] [] (.bool r):=by
 refine yA (fn:=Go.Proofs.Try.f77) (code:=xC Go.Proofs.Try.f77) (by kernel_rfl) (by kernel_rfl) (Nat.le_of_ble_eq_true (by kernel_rfl)) ?_
 unfold jM at h
 refine sr [] [0] [] 0 [Ii n_1] [] zG an ?_
 refine sq ?_
 refine y9 (mk [(2,.bool (decide (n_1≥(0:Int))&&decide (n_1≤(1000000000000:Int))))] [] 0) ?_ ?_
 ·rcases bft (decide (n_1≥(0:Int))) with zH | zH
  ·refine rg [(5,Ht)] [2] [] 0 [.bool (decide (n_1≤(1000000000000:Int)))] [] zG (ac zH (ac zH (ac zH an))) ?_
   exact ⟨rfl,(sw [] [] [.a 2 (.bool (decide (n_1≥(0:Int))&&decide (n_1≤(1000000000000:Int))))] [] (ac (congrArg AV.bool (uP zH rfl):(.bool (decide (n_1≤(1000000000000:Int))):AV)=.bool (decide (n_1≥(0:Int))&&decide (n_1≤(1000000000000:Int)))) an))⟩
  ·refine rg [(3,Hg),(4,Hg),(5,Hf)] [2] [] 0 [.bool false] [] zG (ac zH (ac zH (ac zH an))) ?_
   exact ⟨rfl,(sw [] [] [.a 2 (.bool (decide (n_1≥(0:Int))&&decide (n_1≤(1000000000000:Int))))] [] (ac (congrArg AV.bool (j7 zH):(.bool false:AV)=.bool (decide (n_1≥(0:Int))&&decide (n_1≤(1000000000000:Int)))) an))⟩
 refine rt ?_
 cases h
 exact ⟨.inr rfl,Nat.le_of_ble_eq_true rfl,by kernel_rfl⟩
theorem zIb (F:Nat) (d_1:List (zS)) (x_1:xM) (r:Int) (h:zA7 F d_1 x_1=some r):zW prog 66 [] [] [.sl false 2 (Mp zC d_1),zJ x_1] [] (Ii r):=by
 refine yA (fn:=Go.Proofs.Try.f66) (code:=xC Go.Proofs.Try.f66) (by kernel_rfl) (by kernel_rfl) (Nat.le_of_ble_eq_true (by kernel_rfl)) ?_
 unfold zA7 at h
 refine sr [(0,{ id:=0 })] [0,3] [0] 1 [.sl false 2 (Mp zC d_1),Pp 0] [Vb 86 (w9 x_1)] zG an ?_
 refine sq ?_
 refine yC (id:=0) (by kernel_rfl) ?_
 refine sq ?_
 refine sq ?_
 obtain ⟨r_1,h_1,h⟩:=bind_some h
 refine rg [(3,{ av:=Ii r_1,l:=[.sl false 2 (Mp zC d_1),Ii x_1.A] })] [0,3,5] [0] 1 [.sl false 2 (Mp zC d_1),Pp 0,.bool (decide (r_1<(0:Int)))] [Vb 86 (w9 x_1)] zG (ar ([.sl false 2 (Mp zC d_1),Ii x_1.A]:List AV) (ac (rfl:([]:List zT)=[]) (ac (zBC F d_1 x_1.A r_1 h_1:zW prog 76 [] [] [.sl false 2 (Mp zC d_1),Ii x_1.A] [] (Ii r_1)) an))) ?_
 obtain ⟨o_1,h_2,h⟩:=bind_some h
 refine y9 (mk [(3,Pp 0),(5,.bool o_1)] [(0,Vb 86 (w9 x_1))] 1) ?_ ?_
 ·replace h:=h_2
  refine cd 5 (decide (r_1<(0:Int))) ?_ ?_
  ·intro g_1;replace h:=zP g_1 h
   refine sk ?_
   cases h
   exact ⟨rfl,(sw [0] [] [.s 3,.s 5] [.s 0] an)⟩
  intro g_1;replace h:=zO g_1 h
  obtain ⟨r_2,h_3,h⟩:=bind_some h
  refine rg [(3,{ av:=Ii r_2,l:=[.sl false 2 (Mp zC d_1),Ii x_1.B] })] [3,5] [0] 1 [Pp 0,.bool (decide (r_2<(0:Int)))] [Vb 86 (w9 x_1)] zG (ar ([.sl false 2 (Mp zC d_1),Ii x_1.B]:List AV) (ac (rfl:([]:List zT)=[]) (ac (zBC F d_1 x_1.B r_2 h_3:zW prog 76 [] [] [.sl false 2 (Mp zC d_1),Ii x_1.B] [] (Ii r_2)) an))) ?_
  cases h
  exact ⟨rfl,(sw [0] [] [.s 3,.s 5] [.s 0] an)⟩
 refine cd 5 o_1 ?_ ?_
 ·intro g_2;replace h:=zP g_2 h
  refine sr [] [4] [] 1 [Ii 5] [] zG an ?_
  refine rt ?_
  cases h
  exact ⟨.inr rfl,Nat.le_of_ble_eq_true rfl,by kernel_rfl⟩
 intro g_2;replace h:=zO g_2 h
 refine sr [] [3,16] [0] 1 [Pp 0,.bool (x_1.A==x_1.B)] [Vb 86 (w9 x_1)] zG an ?_
 refine cd 16 (x_1.A==x_1.B) ?_ ?_
 ·intro g_3;replace h:=zP g_3 h
  refine sr [] [4] [] 1 [Ii 1] [] zG an ?_
  refine rt ?_
  cases h
  exact ⟨.inr rfl,Nat.le_of_ble_eq_true rfl,by kernel_rfl⟩
 intro g_3;replace h:=zO g_3 h
 refine sq ?_
 refine sq ?_
 obtain ⟨r_3,h_4,h⟩:=bind_some h
 refine rg [(2,{ av:=.bool r_3,l:=[Ii x_1.AtA] })] [3,22] [0] 1 [Pp 0,.bool (!r_3)] [Vb 86 (w9 x_1)] zG (ar ([Ii x_1.AtA]:List AV) (ac (rfl:([]:List zT)=[]) (ac (zAy x_1.AtA r_3 h_4:zW prog 77 [] [] [Ii x_1.AtA] [] (.bool r_3)) an))) ?_
 refine cd 22 (!r_3) ?_ ?_
 ·intro g_4;replace h:=zP g_4 h
  refine sk ?_
  refine cd 22 (!r_3) ?_ ?_
  rotate_left
  ·intro hg;exact Bool.noConfusion ((g_4).symm.trans hg)
  intro _
  refine sr [] [4] [] 1 [Ii 2] [] zG an ?_
  refine rt ?_
  cases h
  exact ⟨.inr rfl,Nat.le_of_ble_eq_true rfl,by kernel_rfl⟩
 intro g_4;replace h:=zO g_4 h
 refine sq ?_
 obtain ⟨r_4,h_5,h⟩:=bind_some h
 refine rg [(3,{ av:=.bool r_4,l:=[Ii x_1.AtB.Lo] })] [3,22] [0] 1 [Pp 0,.bool (!r_4)] [Vb 86 (w9 x_1)] zG (ar ([Ii x_1.AtB.Lo]:List AV) (ac (rfl:([]:List zT)=[]) (ac (zAy x_1.AtB.Lo r_4 h_5:zW prog 77 [] [] [Ii x_1.AtB.Lo] [] (.bool r_4)) an))) ?_
 refine cd 22 (!r_4) ?_ ?_
 ·intro g_5;replace h:=zP g_5 h
  refine sk ?_
  refine cd 22 (!r_4) ?_ ?_
  rotate_left
  ·intro hg;exact Bool.noConfusion ((g_5).symm.trans hg)
  intro _
  refine sr [] [4] [] 1 [Ii 2] [] zG an ?_
  refine rt ?_
  cases h
  exact ⟨.inr rfl,Nat.le_of_ble_eq_true rfl,by kernel_rfl⟩
 intro g_5;replace h:=zO g_5 h
 refine sq ?_
 obtain ⟨r_5,h_6,h⟩:=bind_some h
 refine rg [(3,{ av:=.bool r_5,l:=[Ii x_1.AtB.Hi] })] [3,22] [0] 1 [Pp 0,.bool (!r_5)] [Vb 86 (w9 x_1)] zG (ar ([Ii x_1.AtB.Hi]:List AV) (ac (rfl:([]:List zT)=[]) (ac (zAy x_1.AtB.Hi r_5 h_6:zW prog 77 [] [] [Ii x_1.AtB.Hi] [] (.bool r_5)) an))) ?_
 refine cd 22 (!r_5) ?_ ?_
 ·intro g_6;replace h:=zP g_6 h
  refine sk ?_
  refine cd 22 (!r_5) ?_ ?_
  rotate_left
  ·intro hg;exact Bool.noConfusion ((g_6).symm.trans hg)
  intro _
  refine sr [] [4] [] 1 [Ii 2] [] zG an ?_
  refine rt ?_
  cases h
  exact ⟨.inr rfl,Nat.le_of_ble_eq_true rfl,by kernel_rfl⟩
 intro g_6;replace h:=zO g_6 h
 refine rg [] [22] [] 1 [.bool (decide (x_1.AtB.Lo>x_1.AtB.Hi))] [] zG an ?_
 refine cd 22 (decide (x_1.AtB.Lo>x_1.AtB.Hi)) ?_ ?_
 ·intro g_7;replace h:=zP g_7 h
  refine sr [] [4] [] 1 [Ii 2] [] zG an ?_
  refine rt ?_
  cases h
  exact ⟨.inr rfl,Nat.le_of_ble_eq_true rfl,by kernel_rfl⟩
 intro g_7;replace h:=zO g_7 h
 refine sk ?_
 refine sr [] [4] [] 1 [Ii 0] [] zG an ?_
 refine rt ?_
 cases h
 exact ⟨.inr rfl,Nat.le_of_ble_eq_true rfl,by kernel_rfl⟩
theorem zHw (F:Nat) (d_1:List (zS)) (l_1:List (xM)) (r:Int) (h:zAl F d_1 l_1=some r):zW prog 48 [] [] [.sl false 2 (Mp zC d_1),.sl false 5 (Mp zJ l_1)] [] (Ii r):=by
 refine yA (fn:=Go.Proofs.Try.f48) (code:=xC Go.Proofs.Try.f48) (by kernel_rfl) (by kernel_rfl) (Nat.le_of_ble_eq_true (by kernel_rfl)) ?_
 unfold zAl at h
 refine sr [] [0,1] [] 0 [.sl false 2 (Mp zC d_1),.sl false 5 (Mp zJ l_1)] [] zG an ?_
 refine sq ?_
 refine sr [(1,{ n:=(d_1).length })] [0,1,11] [] 0 [.sl false 2 (Mp zC d_1),.sl false 5 (Mp zJ l_1),.bool ((lN (d_1))==(0:Int))] [] zG (ac (z9 _:((Mp zC d_1)).length=(d_1).length) an) ?_
 refine cd 11 ((lN (d_1))==(0:Int)) ?_ ?_
 ·intro g_1;replace h:=zP g_1 h
  refine sr [] [4] [] 0 [Ii 8] [] zG an ?_
  refine rt ?_
  cases h
  exact ⟨.inr rfl,Nat.le_of_ble_eq_true rfl,by kernel_rfl⟩
 intro g_1;replace h:=zO g_1 h
 refine sk ?_
 refine sq ?_
 refine sq ?_
 refine y9 (mk [(0,.sl false 2 (Mp zC d_1)),(1,.sl false 5 (Mp zJ l_1)),(19,.bool (decide ((lN (d_1))>(8:Int))||decide ((lN (l_1))>(200:Int))))] [] 0) ?_ ?_
 ·rcases bft (decide ((lN (d_1))>(8:Int))) with zH | zH
  ·refine rg [(1,{ n:=(d_1).length }),(4,Hg),(5,Hg),(6,Hg),(7,Ht)] [0,1,19] [] 0 [.sl false 2 (Mp zC d_1),.sl false 5 (Mp zJ l_1),.bool true] [] zG (ac (z9 _:((Mp zC d_1)).length=(d_1).length) (ac zH (ac zH (ac zH (ac zH an))))) ?_
   exact ⟨rfl,(sw [] [] [.s 0,.s 1,.a 19 (.bool (decide ((lN (d_1))>(8:Int))||decide ((lN (l_1))>(200:Int))))] [] (ac (congrArg AV.bool (ort zH):(.bool true:AV)=.bool (decide ((lN (d_1))>(8:Int))||decide ((lN (l_1))>(200:Int)))) an))⟩
  ·refine rg [(1,{ n:=(d_1).length }),(5,{ n:=(l_1).length }),(7,Hf)] [0,1,19] [] 0 [.sl false 2 (Mp zC d_1),.sl false 5 (Mp zJ l_1),.bool (decide ((lN (l_1))>(200:Int)))] [] zG (ac (z9 _:((Mp zC d_1)).length=(d_1).length) (ac zH (ac zH (ac (z9 _:((Mp zJ l_1)).length=(l_1).length) (ac zH (ac zH an)))))) ?_
   exact ⟨rfl,(sw [] [] [.s 0,.s 1,.a 19 (.bool (decide ((lN (d_1))>(8:Int))||decide ((lN (l_1))>(200:Int))))] [] (ac (congrArg AV.bool (orf zH rfl):(.bool (decide ((lN (l_1))>(200:Int))):AV)=.bool (decide ((lN (d_1))>(8:Int))||decide ((lN (l_1))>(200:Int)))) an))⟩
 refine cd 19 (decide ((lN (d_1))>(8:Int))||decide ((lN (l_1))>(200:Int))) ?_ ?_
 ·intro g_2;replace h:=zP g_2 h
  refine sr [] [4] [] 0 [Ii 7] [] zG an ?_
  refine rt ?_
  cases h
  exact ⟨.inr rfl,Nat.le_of_ble_eq_true rfl,by kernel_rfl⟩
 intro g_2;replace h:=zO g_2 h
 refine sk ?_
 refine sq ?_
 refine sq ?_
 obtain ⟨x_1,h_1,h⟩:=bind_some h
 refine rg [(1,{ av:=zC x_1 }),(4,{ b:=(decide (x_1=(⟨(0:Int),(0:Int)⟩:zS))),mks:=[.int .i64,.int .i64] })] [0,1,24] [] 0 [.sl false 2 (Mp zC d_1),.sl false 5 (Mp zJ l_1),.bool (!(decide (x_1=(⟨(0:Int),(0:Int)⟩:zS))))] [] zG (ac (yP h_1:xG (Mp zC d_1) (0:Int)=some (zC x_1)) (ac (zHL:jK prog 68 [.int .i64,.int .i64]) (ac (pM (f:=zC) zAF x_1 (⟨(0:Int),(0:Int)⟩:zS):((decide (x_1=(⟨(0:Int),(0:Int)⟩:zS)))=true↔AV.agg [Ii x_1.Id,Ii x_1.Ppm]=AV.agg [Ii 0,Ii 0])) an))) ?_
 refine cd 24 (!(decide (x_1=(⟨(0:Int),(0:Int)⟩:zS)))) ?_ ?_
 ·intro g_3;replace h:=zP g_3 h
  refine sr [] [4] [] 0 [Ii 10] [] zG an ?_
  refine rt ?_
  cases h
  exact ⟨.inr rfl,Nat.le_of_ble_eq_true rfl,by kernel_rfl⟩
 intro g_3;replace h:=zO g_3 h
 refine sk ?_
 refine sq ?_
 refine sq ?_
 obtain ⟨r_1,h_2,h⟩:=bind_some h
 refine rg [(1,{ av:=Ii r_1,l:=[.sl false 2 (Mp zC d_1)] })] [0,1,5] [] 0 [.sl false 2 (Mp zC d_1),.sl false 5 (Mp zJ l_1),Ii r_1] [] zG (ar ([.sl false 2 (Mp zC d_1)]:List AV) (ac (rfl:([]:List zT)=[]) (ac (zF5 F d_1 r_1 h_2:zW prog 65 [] [] [.sl false 2 (Mp zC d_1)] [] (Ii r_1)) an))) ?_
 refine sr [] [0,1,5,28] [] 0 [.sl false 2 (Mp zC d_1),.sl false 5 (Mp zJ l_1),Ii r_1,.bool (r_1 != (0:Int))] [] zG an ?_
 refine cd 28 (r_1 != (0:Int)) ?_ ?_
 ·intro g_4;replace h:=zP g_4 h
  refine sr [] [4] [] 0 [Ii r_1] [] zG an ?_
  refine rt ?_
  cases h
  exact ⟨.inr rfl,Nat.le_of_ble_eq_true rfl,by kernel_rfl⟩
 intro g_4;replace h:=zO g_4 h
 refine sk ?_
 refine sq ?_
 refine sr [(1,{ n:=(l_1).length })] [0,30,31,32] [] 0 [.sl false 2 (Mp zC d_1),.sl false 5 (Mp zJ l_1),Ii (lN (l_1)),Ii 0] [] zG (ac (z9 _:((Mp zJ l_1)).length=(l_1).length) an) ?_
 obtain ⟨o_1,h_3,h⟩:=bind_some h
 refine wK (K1:=(fun e st'=>match o_1 with | (.inl q0)=>e=.normal∧Sub 0 st' (mk [] [] 0) | (.inr q1)=>e=.ret∧uF prog Go.Proofs.Try.f48 0 [] (Ii q1) st')) ?_ ?_
 ·replace h:=h_3
  refine yC (id:=0) (by kernel_rfl) ?_
  refine wk [] [] [.s 0,.s 30,.s 31,.s 32] [] [(0,.sl false 2 (Mp zC d_1)),(30,.sl false 5 (Mp zJ l_1)),(31,Ii (lN (l_1))),(32,Ii 0)] [] an ?_
  refine xH (fun n st=>∃ (v_1:Int),st=mk [(0,.sl false 2 (Mp zC d_1)),(30,.sl false 5 (Mp zJ l_1)),(31,Ii (lN (l_1))),(32,Ii v_1)] [] 0∧kN F d_1 l_1 n v_1=some o_1) F (by kernel_rfl) ⟨_,rfl,h⟩ ?_ ?_
  ·rintro _ ⟨_,_,h⟩;exact xX (h:(none:Option (Unit⊕Int))=some o_1)
  rintro n_1 _ ⟨v_1,rfl,h⟩
  replace h:uG F d_1 l_1 (kN F d_1 l_1 n_1) v_1=some o_1:=h
  unfold uG at h
  refine sr [] [0,30,31,32,33] [] 0 [.sl false 2 (Mp zC d_1),.sl false 5 (Mp zJ l_1),Ii (lN (l_1)),Ii v_1,.bool (decide (v_1<(lN (l_1))))] [] zG an ?_
  refine sq ?_
  refine cd 33 (decide (v_1<(lN (l_1)))) ?_ ?_
  rotate_left
  ·intro g_5;replace h:=zO g_5 h
   refine xS (id:=0) (by kernel_rfl) ?_
   cases h
   exact ⟨rfl,(sw [] [] [] [] an)⟩
  intro g_5;replace h:=zP g_5 h
  refine sk ?_
  refine sq ?_
  refine yC (id:=1) (by kernel_rfl) ?_
  refine sq ?_
  obtain ⟨x_2,h_4,h⟩:=bind_some h
  refine rg [(0,{ av:=zJ x_2 }),(2,{ id:=0 })] [0,7,30,31,32] [0] 1 [.sl false 2 (Mp zC d_1),Pp 0,.sl false 5 (Mp zJ l_1),Ii (lN (l_1)),Ii v_1] [Vb 86 (w9 x_2)] zG (ac (yP h_4:xG (Mp zJ l_1) v_1=some (zJ x_2)) an) ?_
  refine sq ?_
  obtain ⟨r_2,h_5,h⟩:=bind_some h
  refine rg [(2,{ av:=Ii r_2,l:=[.sl false 2 (Mp zC d_1),zJ x_2] })] [0,8,30,31,32] [] 1 [.sl false 2 (Mp zC d_1),Ii r_2,.sl false 5 (Mp zJ l_1),Ii (lN (l_1)),Ii v_1] [] zG (ar ([.sl false 2 (Mp zC d_1),zJ x_2]:List AV) (ac (rfl:([]:List zT)=[]) (ac (zIb F d_1 x_2 r_2 h_5:zW prog 66 [] [] [.sl false 2 (Mp zC d_1),zJ x_2] [] (Ii r_2)) an))) ?_
  refine sr [] [0,8,30,31,32,40] [] 1 [.sl false 2 (Mp zC d_1),Ii r_2,.sl false 5 (Mp zJ l_1),Ii (lN (l_1)),Ii v_1,.bool (r_2 != (0:Int))] [] zG an ?_
  refine cd 40 (r_2 != (0:Int)) ?_ ?_
  rotate_left
  ·intro g_6;replace h:=zO g_6 h
   refine sk ?_
   refine rg [] [0,30,31,32] [] 1 [.sl false 2 (Mp zC d_1),.sl false 5 (Mp zJ l_1),Ii (lN (l_1)),Ii (zR (v_1+(1:Int)))] [] zG an ?_
   exact ⟨_,(sw [] [] [.s 0,.s 30,.s 31,.s 32] [] an),_,rfl,h⟩
  intro g_6;replace h:=zP g_6 h
  refine sr [] [4] [] 1 [Ii r_2] [] zG an ?_
  refine rt ?_
  cases h
  exact ⟨rfl,Nat.le_of_ble_eq_true rfl,by kernel_rfl⟩
 intro e st1 hk
 rcases o_1 with q_1 | q_2
 rotate_left
 ·obtain ⟨rfl,hf⟩:=hk
  cases h
  exact ⟨st1,Sub.refl _ _,.inr rfl,hf⟩
 obtain ⟨rfl,hs⟩:=hk
 refine ⟨_,hs,?_⟩
 refine sr [] [4] [] 0 [Ii 0] [] zG an ?_
 refine rt ?_
 cases h
 exact ⟨.inr rfl,Nat.le_of_ble_eq_true rfl,by kernel_rfl⟩
theorem zHu (d_1:zS) (a_1:zY) (r:Bool) (h:zBL d_1 a_1=some r):zW prog 50 [(.var 66 (z8 a_1))] [] [zC d_1,Pp 0] [(.var 66 (z8 a_1))] (.bool r):=by
 refine yA (fn:=Go.Proofs.Try.f50) (code:=xC Go.Proofs.Try.f50) (by kernel_rfl) (by kernel_rfl) (Nat.le_of_ble_eq_true (by kernel_rfl)) ?_
 unfold zBL at h
 refine sr [(0,{ id:=1 })] [1,2] [0,1] 2 [Pp 0,Pp 1] [Vb 66 (z8 a_1),Vb 68 (uD d_1)] zG an ?_
 refine sr [] [3] [0] 2 [.bool (d_1.Id==a_1.Domain)] [Vb 66 (z8 a_1)] zG an ?_
 refine wk [0] [] [.s 3] [.s 0] [(3,.bool (d_1.Id==a_1.Domain))] [(0,Vb 66 (z8 a_1))] an ?_
 refine rt ?_
 cases h
 exact ⟨.inr rfl,Nat.le_of_ble_eq_true rfl,by kernel_rfl⟩
theorem tP (F:Nat) (s_1:List (zS)) (c_1:zY) (r:Int) (h:xP F s_1 c_1=some r):zW prog 67 [(.var 66 (z8 c_1))] [] [.sl false 2 (Mp zC s_1),.fn 50 [Pp 0]] [(.var 66 (z8 c_1))] (Ii r):=by
 refine yA (fn:=Go.Proofs.Try.f67) (code:=xC Go.Proofs.Try.f67) (by kernel_rfl) (by kernel_rfl) (Nat.le_of_ble_eq_true (by kernel_rfl)) ?_
 unfold xP at h
 refine sr [] [0,1] [0] 1 [.sl false 2 (Mp zC s_1),.fn 50 [Pp 0]] [Vb 66 (z8 c_1)] zG an ?_
 refine sq ?_
 refine sr [(1,{ n:=(s_1).length })] [0,1,7,8] [0] 1 [.sl false 2 (Mp zC s_1),.fn 50 [Pp 0],Ii (lN (s_1)),Ii 0] [Vb 66 (z8 c_1)] zG (ac (z9 _:((Mp zC s_1)).length=(s_1).length) an) ?_
 obtain ⟨o_1,h_1,h⟩:=bind_some h
 refine wK (K1:=(fun e st'=>match o_1 with | (.inl q0)=>e=.normal∧Sub 1 st' (mk [] [(0,Vb 66 (z8 c_1))] 1) | (.inr q1)=>e=.ret∧uF prog Go.Proofs.Try.f67 1 [(.var 66 (z8 c_1))] (Ii q1) st')) ?_ ?_
 ·replace h:=h_1
  refine yC (id:=0) (by kernel_rfl) ?_
  refine wk [0] [] [.s 0,.s 1,.s 7,.s 8] [.s 0] [(0,.sl false 2 (Mp zC s_1)),(1,.fn 50 [Pp 0]),(7,Ii (lN (s_1))),(8,Ii 0)] [(0,Vb 66 (z8 c_1))] an ?_
  refine xH (fun n st=>∃ (v_1:Int),st=mk [(0,.sl false 2 (Mp zC s_1)),(1,.fn 50 [Pp 0]),(7,Ii (lN (s_1))),(8,Ii v_1)] [(0,Vb 66 (z8 c_1))] 1∧xK F s_1 c_1 n v_1=some o_1) F (by kernel_rfl) ⟨_,rfl,h⟩ ?_ ?_
  ·rintro _ ⟨_,_,h⟩;exact xX (h:(none:Option (Unit⊕Int))=some o_1)
  rintro n_1 _ ⟨v_1,rfl,h⟩
  replace h:yR F s_1 c_1 (xK F s_1 c_1 n_1) v_1=some o_1:=h
  unfold yR at h
  refine sr [] [0,1,7,8,9] [0] 1 [.sl false 2 (Mp zC s_1),.fn 50 [Pp 0],Ii (lN (s_1)),Ii v_1,.bool (decide (v_1<(lN (s_1))))] [Vb 66 (z8 c_1)] zG an ?_
  refine sq ?_
  refine cd 9 (decide (v_1<(lN (s_1)))) ?_ ?_
  rotate_left
  ·intro g_1;replace h:=zO g_1 h
   refine xS (id:=0) (by kernel_rfl) ?_
   cases h
   exact ⟨rfl,(sw [0] [] [] [.s 0] an)⟩
  intro g_1;replace h:=zP g_1 h
  refine sk ?_
  refine sq ?_
  refine yC (id:=1) (by kernel_rfl) ?_
  refine sr [] [0,1,5,7,8] [0] 1 [.sl false 2 (Mp zC s_1),.fn 50 [Pp 0],Ii v_1,Ii (lN (s_1)),Ii v_1] [Vb 66 (z8 c_1)] zG an ?_
  refine sq ?_
  obtain ⟨x_1,h_2,h⟩:=bind_some h
  obtain ⟨r_1,h_3,h⟩:=bind_some h
  refine rg [(3,{ av:=zC x_1 }),(5,{ av:=.bool r_1,ids:=[0],l:=[zC x_1,Pp 0],post:=[(.var 66 (z8 c_1))],pre:=[(.var 66 (z8 c_1))] })] [0,1,5,7,8,16] [0] 1 [.sl false 2 (Mp zC s_1),.fn 50 [Pp 0],Ii v_1,Ii (lN (s_1)),Ii v_1,.bool r_1] [Vb 66 (z8 c_1)] zG (ac (yP h_2:xG (Mp zC s_1) v_1=some (zC x_1)) (ar ([zC x_1,Pp 0]:List AV) (ac (rfl:([Vb 66 (z8 c_1)]:List zT)=[Vb 66 (z8 c_1)]) (ac (zHu x_1 c_1 r_1 h_3:zW prog 50 [(.var 66 (z8 c_1))] [] [zC x_1,Pp 0] [(.var 66 (z8 c_1))] (.bool r_1)) an)))) ?_
  refine cd 16 r_1 ?_ ?_
  rotate_left
  ·intro g_2;replace h:=zO g_2 h
   refine sk ?_
   refine rg [] [0,1,7,8] [0] 1 [.sl false 2 (Mp zC s_1),.fn 50 [Pp 0],Ii (lN (s_1)),Ii (zR (v_1+(1:Int)))] [Vb 66 (z8 c_1)] zG an ?_
   exact ⟨_,(sw [0] [] [.s 0,.s 1,.s 7,.s 8] [.s 0] an),_,rfl,h⟩
  intro g_2;replace h:=zP g_2 h
  refine sr [] [4] [0] 1 [Ii v_1] [Vb 66 (z8 c_1)] zG an ?_
  refine wk [0] [] [.s 4] [.s 0] [(4,Ii v_1)] [(0,Vb 66 (z8 c_1))] an ?_
  refine rt ?_
  cases h
  exact ⟨rfl,Nat.le_of_ble_eq_true rfl,by kernel_rfl⟩
 intro e st1 hk
 rcases o_1 with q_1 | q_2
 rotate_left
 ·obtain ⟨rfl,hf⟩:=hk
  cases h
  exact ⟨st1,Sub.refl _ _,.inr rfl,hf⟩
 obtain ⟨rfl,hs⟩:=hk
 refine ⟨_,hs,?_⟩
 refine sr [] [4] [0] 1 [Ii (-1)] [Vb 66 (z8 c_1)] zG an ?_
 refine wk [0] [] [.s 4] [.s 0] [(4,Ii (-1))] [(0,Vb 66 (z8 c_1))] an ?_
 refine rt ?_
 cases h
 exact ⟨.inr rfl,Nat.le_of_ble_eq_true rfl,by kernel_rfl⟩
theorem tL (F:Nat) (s_1:List (zS)) (c_1:zY) (r:Bool) (h:x9 F s_1 c_1=some r):zW prog 49 [(.var 66 (z8 c_1))] [] [.sl false 2 (Mp zC s_1),.fn 50 [Pp 0]] [(.var 66 (z8 c_1))] (.bool r):=by
 refine yA (fn:=Go.Proofs.Try.f49) (code:=xC Go.Proofs.Try.f49) (by kernel_rfl) (by kernel_rfl) (Nat.le_of_ble_eq_true (by kernel_rfl)) ?_
 unfold x9 at h
 refine sr [] [0,1] [0] 1 [.sl false 2 (Mp zC s_1),.fn 50 [Pp 0]] [Vb 66 (z8 c_1)] zG an ?_
 refine sq ?_
 obtain ⟨r_1,h_1,h⟩:=bind_some h
 refine rg [(2,{ av:=Ii r_1,ids:=[0],l:=[.sl false 2 (Mp zC s_1),.fn 50 [Pp 0]],post:=[(.var 66 (z8 c_1))],pre:=[(.var 66 (z8 c_1))] })] [4] [0] 1 [.bool (decide (r_1≥(0:Int)))] [Vb 66 (z8 c_1)] zG (ar ([.sl false 2 (Mp zC s_1),.fn 50 [Pp 0]]:List AV) (ac (rfl:([Vb 66 (z8 c_1)]:List zT)=[Vb 66 (z8 c_1)]) (ac (tP F s_1 c_1 r_1 h_1:zW prog 67 [(.var 66 (z8 c_1))] [] [.sl false 2 (Mp zC s_1),.fn 50 [Pp 0]] [(.var 66 (z8 c_1))] (Ii r_1)) an))) ?_
 refine wk [0] [] [.s 4] [.s 0] [(4,.bool (decide (r_1≥(0:Int))))] [(0,Vb 66 (z8 c_1))] an ?_
 refine rt ?_
 cases h
 exact ⟨.inr rfl,Nat.le_of_ble_eq_true rfl,by kernel_rfl⟩
theorem zIS (F:Nat) (h_1:zL) (r:Int) (h:zB0 F h_1=some r):zW prog 27 [] [] [yN h_1] [] (Ii r):=by
 refine yA (fn:=Go.Proofs.Try.f27) (code:=xC Go.Proofs.Try.f27) (by kernel_rfl) (by kernel_rfl) (Nat.le_of_ble_eq_true (by kernel_rfl)) ?_
 unfold zB0 at h
 refine sr [(0,{ id:=0 })] [1] [0] 1 [Pp 0] [Vb 26 (zM h_1)] zG an ?_
 refine sq ?_
 refine yC (id:=0) (by kernel_rfl) ?_
 refine sr [(2,{ n:=(h_1.Threads).length })] [1,10] [0] 1 [Pp 0,.bool ((lN (h_1.Threads))==(0:Int))] [Vb 26 (zM h_1)] zG (ac (z9 _:((Mp zF h_1.Threads)).length=(h_1.Threads).length) an) ?_
 refine cd 10 ((lN (h_1.Threads))==(0:Int)) ?_ ?_
 ·intro g_1;replace h:=zP g_1 h
  refine sr [] [2] [] 1 [Ii 8] [] zG an ?_
  refine rt ?_
  cases h
  exact ⟨.inr rfl,Nat.le_of_ble_eq_true rfl,by kernel_rfl⟩
 intro g_1;replace h:=zO g_1 h
 refine sr [(2,{ n:=(h_1.Threads).length })] [1,15] [0] 1 [Pp 0,.bool (decide ((lN (h_1.Threads))>(64:Int)))] [Vb 26 (zM h_1)] zG (ac (z9 _:((Mp zF h_1.Threads)).length=(h_1.Threads).length) an) ?_
 refine cd 15 (decide ((lN (h_1.Threads))>(64:Int))) ?_ ?_
 ·intro g_2;replace h:=zP g_2 h
  refine sr [] [2] [] 1 [Ii 7] [] zG an ?_
  refine rt ?_
  cases h
  exact ⟨.inr rfl,Nat.le_of_ble_eq_true rfl,by kernel_rfl⟩
 intro g_2;replace h:=zO g_2 h
 refine sk ?_
 refine sr [(0,{ id:=1,mag:=false,mks:=[.int .i64] })] [1,3] [0,1] 2 [Pp 0,.mp 1] [Vb 26 (zM h_1),.live (.map false [.int .i64] [])] zG an ?_
 refine sq ?_
 refine sr [(2,{ n:=(h_1.Threads).length })] [1,3,22,23,24] [0,1] 2 [Pp 0,.mp 1,.sl false 3 (Mp zF h_1.Threads),Ii (lN (h_1.Threads)),Ii 0] [Vb 26 (zM h_1),.live (.map false [.int .i64] [])] zG (ac (z9 _:((Mp zF h_1.Threads)).length=(h_1.Threads).length) an) ?_
 obtain ⟨o_1,h_2,h⟩:=bind_some h
 refine wK (K1:=(fun e st'=>match o_1 with | (.inl q0)=>e=.normal∧Sub 0 st' (mk [(1,Pp 0)] [(0,Vb 26 (zM h_1))] 1) | (.inr q1)=>e=.ret∧uF prog Go.Proofs.Try.f27 0 [] (Ii q1) st')) ?_ ?_
 ·replace h:=h_2
  refine yC (id:=1) (by kernel_rfl) ?_
  refine wk [0,1] [] [.s 1,.s 3,.s 22,.s 23,.s 24] [.s 0,.s 1] [(1,Pp 0),(3,.mp 1),(22,.sl false 3 (Mp zF h_1.Threads)),(23,Ii (lN (h_1.Threads))),(24,Ii 0)] [(0,Vb 26 (zM h_1)),(1,.live (.map false [.int .i64] []))] an ?_
  refine xH (fun n st=>∃ (v_1:Int),∃ (zE:List (Int×Bool)),st=mk [(1,Pp 0),(3,.mp 1),(22,.sl false 3 (Mp zF h_1.Threads)),(23,Ii (lN (h_1.Threads))),(24,Ii v_1)] [(0,Vb 26 (zM h_1)),(1,.live (.map false [.int .i64] (List.map (mpE (AV.int .i64) AV.bool) zE)))] 2∧kK F h_1 n v_1 zE=some o_1) F (by kernel_rfl) ⟨_,_,rfl,h⟩ ?_ ?_
  ·rintro _ ⟨_,_,_,h⟩;exact xX (h:(none:Option (Unit⊕Int))=some o_1)
  rintro n_1 _ ⟨v_1,zE,rfl,h⟩
  replace h:q7 F h_1 (kK F h_1 n_1) v_1 zE=some o_1:=h
  unfold q7 at h
  refine sr [] [1,3,22,23,24,25] [0,1] 2 [Pp 0,.mp 1,.sl false 3 (Mp zF h_1.Threads),Ii (lN (h_1.Threads)),Ii v_1,.bool (decide (v_1<(lN (h_1.Threads))))] [Vb 26 (zM h_1),.live (.map false [.int .i64] (List.map (mpE (AV.int .i64) AV.bool) zE))] zG an ?_
  refine sq ?_
  refine cd 25 (decide (v_1<(lN (h_1.Threads)))) ?_ ?_
  rotate_left
  ·intro g_3;replace h:=zO g_3 h
   refine xS (id:=1) (by kernel_rfl) ?_
   cases h
   exact ⟨rfl,(sw [0] [] [.s 1] [.s 0] an)⟩
  intro g_3;replace h:=zP g_3 h
  refine sk ?_
  refine sq ?_
  refine yC (id:=2) (by kernel_rfl) ?_
  refine sq ?_
  obtain ⟨x_1,h_3,h⟩:=bind_some h
  refine rg [(0,{ av:=zF x_1 }),(2,{ id:=2 })] [1,3,5,22,23,24] [0,1,2] 3 [Pp 0,.mp 1,Pp 2,.sl false 3 (Mp zF h_1.Threads),Ii (lN (h_1.Threads)),Ii v_1] [Vb 26 (zM h_1),.live (.map false [.int .i64] (List.map (mpE (AV.int .i64) AV.bool) zE)),Vb 66 (z8 x_1)] zG (ac (yP h_3:xG (Mp zF h_1.Threads) v_1=some (zF x_1)) an) ?_
  refine sq ?_
  refine sq ?_
  obtain ⟨r_1,h_4,h⟩:=bind_some h
  refine rg [(1,{ av:=Ii r_1,l:=[zF x_1] })] [1,3,5,6,22,23,24] [0,1,2] 3 [Pp 0,.mp 1,Pp 2,Ii r_1,.sl false 3 (Mp zF h_1.Threads),Ii (lN (h_1.Threads)),Ii v_1] [Vb 26 (zM h_1),.live (.map false [.int .i64] (List.map (mpE (AV.int .i64) AV.bool) zE)),Vb 66 (z8 x_1)] zG (ar ([zF x_1]:List AV) (ac (rfl:([]:List zT)=[]) (ac (zEN F x_1 r_1 h_4:zW prog 47 [] [] [zF x_1] [] (Ii r_1)) an))) ?_
  refine sr [] [1,3,5,6,22,23,24,31] [0,1,2] 3 [Pp 0,.mp 1,Pp 2,Ii r_1,.sl false 3 (Mp zF h_1.Threads),Ii (lN (h_1.Threads)),Ii v_1,.bool (r_1 != (0:Int))] [Vb 26 (zM h_1),.live (.map false [.int .i64] (List.map (mpE (AV.int .i64) AV.bool) zE)),Vb 66 (z8 x_1)] zG an ?_
  refine cd 31 (r_1 != (0:Int)) ?_ ?_
  ·intro g_4;replace h:=zP g_4 h
   refine sr [] [2] [] 3 [Ii r_1] [] zG an ?_
   refine rt ?_
   cases h
   exact ⟨rfl,Nat.le_of_ble_eq_true rfl,by kernel_rfl⟩
  intro g_4;replace h:=zO g_4 h
  refine sk ?_
  refine sq ?_
  refine sr [(3,{ av:=(.bool ((yI zE x_1.Id).getD false)),g:=(yI zE x_1.Id).isSome })] [1,3,5,22,23,24,36] [0,1,2] 3 [Pp 0,.mp 1,Pp 2,.sl false 3 (Mp zF h_1.Threads),Ii (lN (h_1.Threads)),Ii v_1,.bool ((yI zE x_1.Id).getD false)] [Vb 26 (zM h_1),.live (.map false [.int .i64] (List.map (mpE (AV.int .i64) AV.bool) zE)),Vb 66 (z8 x_1)] zG (ac (zAS:vT prog 3 false [.int .i64]) (ac (zEL (f:=(AV.int .i64)) (g:=AV.bool) zAN zE x_1.Id false:kC (List.map (mpE (AV.int .i64) AV.bool) zE) (Ii x_1.Id) (.bool false) (.bool ((yI zE x_1.Id).getD false)) (yI zE x_1.Id).isSome) an)) ?_
  refine cd 36 ((yI zE x_1.Id).getD false) ?_ ?_
  ·intro g_5;replace h:=zP g_5 h
   refine sr [] [2] [] 3 [Ii 4] [] zG an ?_
   refine rt ?_
   cases h
   exact ⟨rfl,Nat.le_of_ble_eq_true rfl,by kernel_rfl⟩
  intro g_5;replace h:=zO g_5 h
  refine sk ?_
  obtain ⟨_,h_5,h⟩:=bind_some h;replace h_5:=wN h_5
  refine rg [(3,{ es:=(List.map (mpE (AV.int .i64) AV.bool) (uK zE x_1.Id true)) })] [1,3,22,23,24] [0,1] 3 [Pp 0,.mp 1,.sl false 3 (Mp zF h_1.Threads),Ii (lN (h_1.Threads)),Ii v_1] [Vb 26 (zM h_1),.live (.map false [.int .i64] (List.map (mpE (AV.int .i64) AV.bool) (uK zE x_1.Id true)))] zG (ac (zAS:vT prog 3 false [.int .i64]) (ac (zDW (f:=(AV.int .i64)) (g:=AV.bool) zAN zE x_1.Id true:zCO (List.map (mpE (AV.int .i64) AV.bool) zE) (Ii x_1.Id) (.bool true) (List.map (mpE (AV.int .i64) AV.bool) (uK zE x_1.Id true))) (ac (zHb (l:=zE) h_5:((List.map (mpE (AV.int .i64) AV.bool) zE):List (AV×AV)).length<maxLen) an))) ?_
  refine rg [] [1,3,22,23,24] [0,1] 3 [Pp 0,.mp 1,.sl false 3 (Mp zF h_1.Threads),Ii (lN (h_1.Threads)),Ii (zR (v_1+(1:Int)))] [Vb 26 (zM h_1),.live (.map false [.int .i64] (List.map (mpE (AV.int .i64) AV.bool) (uK zE x_1.Id true)))] zG an ?_
  exact ⟨_,(sw [0,1] [] [.s 1,.s 3,.s 22,.s 23,.s 24] [.s 0,.s 1] an),_,_,rfl,h⟩
 intro e st1 hk
 rcases o_1 with q_1 | q_2
 rotate_left
 ·obtain ⟨rfl,hf⟩:=hk
  cases h
  exact ⟨st1,Sub.refl _ _,.inr rfl,hf⟩
 obtain ⟨rfl,hs⟩:=hk
 refine ⟨_,hs,?_⟩
 refine sq ?_
 refine sq ?_
 obtain ⟨r_2,h_6,h⟩:=bind_some h
 refine rg [(4,{ av:=Ii r_2,l:=[.sl false 2 (Mp zC h_1.Domains),.sl false 5 (Mp zJ h_1.Snaps)] })] [1,7] [0] 1 [Pp 0,Ii r_2] [Vb 26 (zM h_1)] zG (ar ([.sl false 2 (Mp zC h_1.Domains),.sl false 5 (Mp zJ h_1.Snaps)]:List AV) (ac (rfl:([]:List zT)=[]) (ac (zHw F h_1.Domains h_1.Snaps r_2 h_6:zW prog 48 [] [] [.sl false 2 (Mp zC h_1.Domains),.sl false 5 (Mp zJ h_1.Snaps)] [] (Ii r_2)) an))) ?_
 refine sr [] [1,7,47] [0] 1 [Pp 0,Ii r_2,.bool (r_2 != (0:Int))] [Vb 26 (zM h_1)] zG an ?_
 refine cd 47 (r_2 != (0:Int)) ?_ ?_
 ·intro g_6;replace h:=zP g_6 h
  refine sr [] [2] [] 1 [Ii r_2] [] zG an ?_
  refine rt ?_
  cases h
  exact ⟨.inr rfl,Nat.le_of_ble_eq_true rfl,by kernel_rfl⟩
 intro g_6;replace h:=zO g_6 h
 refine sk ?_
 refine sq ?_
 refine sr [(2,{ n:=(h_1.Threads).length })] [1,50,51,52] [0] 1 [Pp 0,.sl false 3 (Mp zF h_1.Threads),Ii (lN (h_1.Threads)),Ii 0] [Vb 26 (zM h_1)] zG (ac (z9 _:((Mp zF h_1.Threads)).length=(h_1.Threads).length) an) ?_
 obtain ⟨o_2,h_7,h⟩:=bind_some h
 refine wK (K1:=(fun e st'=>match o_2 with | (.inl q0)=>e=.normal∧Sub 0 st' (mk [] [] 0) | (.inr q1)=>e=.ret∧uF prog Go.Proofs.Try.f27 0 [] (Ii q1) st')) ?_ ?_
 ·replace h:=h_7
  refine yC (id:=3) (by kernel_rfl) ?_
  refine wk [0] [] [.s 1,.s 50,.s 51,.s 52] [.s 0] [(1,Pp 0),(50,.sl false 3 (Mp zF h_1.Threads)),(51,Ii (lN (h_1.Threads))),(52,Ii 0)] [(0,Vb 26 (zM h_1))] an ?_
  refine xH (fun n st=>∃ (v_2:Int),st=mk [(1,Pp 0),(50,.sl false 3 (Mp zF h_1.Threads)),(51,Ii (lN (h_1.Threads))),(52,Ii v_2)] [(0,Vb 26 (zM h_1))] 1∧kL F h_1 n v_2=some o_2) F (by kernel_rfl) ⟨_,rfl,h⟩ ?_ ?_
  ·rintro _ ⟨_,_,h⟩;exact xX (h:(none:Option (Unit⊕Int))=some o_2)
  rintro n_2 _ ⟨v_2,rfl,h⟩
  replace h:u5 F h_1 (kL F h_1 n_2) v_2=some o_2:=h
  unfold u5 at h
  refine sr [] [1,50,51,52,53] [0] 1 [Pp 0,.sl false 3 (Mp zF h_1.Threads),Ii (lN (h_1.Threads)),Ii v_2,.bool (decide (v_2<(lN (h_1.Threads))))] [Vb 26 (zM h_1)] zG an ?_
  refine sq ?_
  refine cd 53 (decide (v_2<(lN (h_1.Threads)))) ?_ ?_
  rotate_left
  ·intro g_7;replace h:=zO g_7 h
   refine xS (id:=3) (by kernel_rfl) ?_
   cases h
   exact ⟨rfl,(sw [] [] [] [] an)⟩
  intro g_7;replace h:=zP g_7 h
  refine sk ?_
  refine sq ?_
  refine yC (id:=4) (by kernel_rfl) ?_
  refine sq ?_
  obtain ⟨x_2,h_8,h⟩:=bind_some h
  refine rg [(0,{ av:=zF x_2 }),(2,{ id:=1 })] [1,9,50,51,52] [0,1] 2 [Pp 0,Pp 1,.sl false 3 (Mp zF h_1.Threads),Ii (lN (h_1.Threads)),Ii v_2] [Vb 26 (zM h_1),Vb 66 (z8 x_2)] zG (ac (yP h_8:xG (Mp zF h_1.Threads) v_2=some (zF x_2)) an) ?_
  refine sq ?_
  obtain ⟨r_3,h_9,h⟩:=bind_some h
  refine rg [(3,{ av:=.bool r_3,ids:=[1],l:=[.sl false 2 (Mp zC h_1.Domains),.fn 50 [Pp 0]],post:=[(.var 66 (z8 x_2))],pre:=[(.var 66 (z8 x_2))] })] [1,50,51,52,60] [0] 2 [Pp 0,.sl false 3 (Mp zF h_1.Threads),Ii (lN (h_1.Threads)),Ii v_2,.bool (!r_3)] [Vb 26 (zM h_1)] zG (ar ([.sl false 2 (Mp zC h_1.Domains),.fn 50 [Pp 1]]:List AV) (ac (rfl:([Vb 66 (z8 x_2)]:List zT)=[Vb 66 (z8 x_2)]) (ac (tL F h_1.Domains x_2 r_3 h_9:zW prog 49 [(.var 66 (z8 x_2))] [] [.sl false 2 (Mp zC h_1.Domains),.fn 50 [Pp 0]] [(.var 66 (z8 x_2))] (.bool r_3)) an))) ?_
  refine cd 60 (!r_3) ?_ ?_
  rotate_left
  ·intro g_8;replace h:=zO g_8 h
   refine sk ?_
   refine rg [] [1,50,51,52] [0] 2 [Pp 0,.sl false 3 (Mp zF h_1.Threads),Ii (lN (h_1.Threads)),Ii (zR (v_2+(1:Int)))] [Vb 26 (zM h_1)] zG an ?_
   exact ⟨_,(sw [0] [] [.s 1,.s 50,.s 51,.s 52] [.s 0] an),_,rfl,h⟩
  intro g_8;replace h:=zP g_8 h
  refine sr [] [2] [] 2 [Ii 5] [] zG an ?_
  refine rt ?_
  cases h
  exact ⟨rfl,Nat.le_of_ble_eq_true rfl,by kernel_rfl⟩
 intro e st1 hk
 rcases o_2 with q_3 | q_4
 rotate_left
 ·obtain ⟨rfl,hf⟩:=hk
  cases h
  exact ⟨st1,Sub.refl _ _,.inr rfl,hf⟩
 obtain ⟨rfl,hs⟩:=hk
 refine ⟨_,hs,?_⟩
 refine sr [] [2] [] 0 [Ii 0] [] zG an ?_
 refine rt ?_
 cases h
 exact ⟨.inr rfl,Nat.le_of_ble_eq_true rfl,by kernel_rfl⟩
theorem zHr (r:(List (zX))) (h:pZ=some r):zW prog 89 [] [] [] [.row 127 9 (Mp wG r)] (.own 0 ((r).length)):=by
 refine yA (fn:=Go.Proofs.Try.f89) (code:=xC Go.Proofs.Try.f89) (by kernel_rfl) (by kernel_rfl) (Nat.le_of_ble_eq_true (by kernel_rfl)) ?_
 unfold pZ at h
 refine sr [(0,{ id:=0,m:=1 })] [] [] 1 [] [] zG an ?_
 refine sr [(13,{ id:=1 })] [0] [1] 2 [.own 1 13] [Rb 127 9 (Mp wG ([(⟨([]:List Int),false,false,false,false,(0:Int),(0:Int),(0:Int),(0:Int)⟩:zX),(⟨([98,101,103,105,110]:List Int),true,false,false,false,(0:Int),(0:Int),(0:Int),(0:Int)⟩:zX),(⟨([101,110,100]:List Int),false,false,false,false,(0:Int),(0:Int),(0:Int),(0:Int)⟩:zX),(⟨([109,97,114,107]:List Int),true,false,false,false,(0:Int),(0:Int),(0:Int),(0:Int)⟩:zX),(⟨([99,111,117,110,116]:List Int),true,true,false,false,(-1000000000000000:Int),(1000000000000000:Int),(0:Int),(0:Int)⟩:zX),(⟨([115,97,109,112,108,101]:List Int),false,true,false,true,(1:Int),(1000000000000:Int),(0:Int),(0:Int)⟩:zX),(⟨([115,101,110,100]:List Int),false,true,false,false,(0:Int),(1000000000000000:Int),(0:Int),(0:Int)⟩:zX),(⟨([114,101,99,118]:List Int),false,true,false,false,(0:Int),(1000000000000000:Int),(0:Int),(0:Int)⟩:zX),(⟨([114,117,110]:List Int),false,true,false,false,(0:Int),(63:Int),(0:Int),(0:Int)⟩:zX),(⟨([115,116,111,112]:List Int),false,true,true,false,(0:Int),(3:Int),(0:Int),(1000000000000000:Int)⟩:zX),(⟨([119,97,107,101]:List Int),false,true,false,false,(0:Int),(1000000000000000:Int),(0:Int),(0:Int)⟩:zX),(⟨([97,108,108,111,99]:List Int),false,true,true,true,(0:Int),(1000000000000000:Int),(1:Int),(1000000000000:Int)⟩:zX),(⟨([102,114,101,101]:List Int),false,true,false,false,(0:Int),(1000000000000000:Int),(0:Int),(0:Int)⟩:zX)]:List zX))] zG an ?_
 refine wk [1] [] [.a 0 (.own 0 ((([(⟨([]:List Int),false,false,false,false,(0:Int),(0:Int),(0:Int),(0:Int)⟩:zX),(⟨([98,101,103,105,110]:List Int),true,false,false,false,(0:Int),(0:Int),(0:Int),(0:Int)⟩:zX),(⟨([101,110,100]:List Int),false,false,false,false,(0:Int),(0:Int),(0:Int),(0:Int)⟩:zX),(⟨([109,97,114,107]:List Int),true,false,false,false,(0:Int),(0:Int),(0:Int),(0:Int)⟩:zX),(⟨([99,111,117,110,116]:List Int),true,true,false,false,(-1000000000000000:Int),(1000000000000000:Int),(0:Int),(0:Int)⟩:zX),(⟨([115,97,109,112,108,101]:List Int),false,true,false,true,(1:Int),(1000000000000:Int),(0:Int),(0:Int)⟩:zX),(⟨([115,101,110,100]:List Int),false,true,false,false,(0:Int),(1000000000000000:Int),(0:Int),(0:Int)⟩:zX),(⟨([114,101,99,118]:List Int),false,true,false,false,(0:Int),(1000000000000000:Int),(0:Int),(0:Int)⟩:zX),(⟨([114,117,110]:List Int),false,true,false,false,(0:Int),(63:Int),(0:Int),(0:Int)⟩:zX),(⟨([115,116,111,112]:List Int),false,true,true,false,(0:Int),(3:Int),(0:Int),(1000000000000000:Int)⟩:zX),(⟨([119,97,107,101]:List Int),false,true,false,false,(0:Int),(1000000000000000:Int),(0:Int),(0:Int)⟩:zX),(⟨([97,108,108,111,99]:List Int),false,true,true,true,(0:Int),(1000000000000000:Int),(1:Int),(1000000000000:Int)⟩:zX),(⟨([102,114,101,101]:List Int),false,true,false,false,(0:Int),(1000000000000000:Int),(0:Int),(0:Int)⟩:zX)]:List zX)).length))] [.s 0] [(0,.own 0 ((([(⟨([]:List Int),false,false,false,false,(0:Int),(0:Int),(0:Int),(0:Int)⟩:zX),(⟨([98,101,103,105,110]:List Int),true,false,false,false,(0:Int),(0:Int),(0:Int),(0:Int)⟩:zX),(⟨([101,110,100]:List Int),false,false,false,false,(0:Int),(0:Int),(0:Int),(0:Int)⟩:zX),(⟨([109,97,114,107]:List Int),true,false,false,false,(0:Int),(0:Int),(0:Int),(0:Int)⟩:zX),(⟨([99,111,117,110,116]:List Int),true,true,false,false,(-1000000000000000:Int),(1000000000000000:Int),(0:Int),(0:Int)⟩:zX),(⟨([115,97,109,112,108,101]:List Int),false,true,false,true,(1:Int),(1000000000000:Int),(0:Int),(0:Int)⟩:zX),(⟨([115,101,110,100]:List Int),false,true,false,false,(0:Int),(1000000000000000:Int),(0:Int),(0:Int)⟩:zX),(⟨([114,101,99,118]:List Int),false,true,false,false,(0:Int),(1000000000000000:Int),(0:Int),(0:Int)⟩:zX),(⟨([114,117,110]:List Int),false,true,false,false,(0:Int),(63:Int),(0:Int),(0:Int)⟩:zX),(⟨([115,116,111,112]:List Int),false,true,true,false,(0:Int),(3:Int),(0:Int),(1000000000000000:Int)⟩:zX),(⟨([119,97,107,101]:List Int),false,true,false,false,(0:Int),(1000000000000000:Int),(0:Int),(0:Int)⟩:zX),(⟨([97,108,108,111,99]:List Int),false,true,true,true,(0:Int),(1000000000000000:Int),(1:Int),(1000000000000:Int)⟩:zX),(⟨([102,114,101,101]:List Int),false,true,false,false,(0:Int),(1000000000000000:Int),(0:Int),(0:Int)⟩:zX)]:List zX)).length))] [(0,Rb 127 9 (Mp wG ([(⟨([]:List Int),false,false,false,false,(0:Int),(0:Int),(0:Int),(0:Int)⟩:zX),(⟨([98,101,103,105,110]:List Int),true,false,false,false,(0:Int),(0:Int),(0:Int),(0:Int)⟩:zX),(⟨([101,110,100]:List Int),false,false,false,false,(0:Int),(0:Int),(0:Int),(0:Int)⟩:zX),(⟨([109,97,114,107]:List Int),true,false,false,false,(0:Int),(0:Int),(0:Int),(0:Int)⟩:zX),(⟨([99,111,117,110,116]:List Int),true,true,false,false,(-1000000000000000:Int),(1000000000000000:Int),(0:Int),(0:Int)⟩:zX),(⟨([115,97,109,112,108,101]:List Int),false,true,false,true,(1:Int),(1000000000000:Int),(0:Int),(0:Int)⟩:zX),(⟨([115,101,110,100]:List Int),false,true,false,false,(0:Int),(1000000000000000:Int),(0:Int),(0:Int)⟩:zX),(⟨([114,101,99,118]:List Int),false,true,false,false,(0:Int),(1000000000000000:Int),(0:Int),(0:Int)⟩:zX),(⟨([114,117,110]:List Int),false,true,false,false,(0:Int),(63:Int),(0:Int),(0:Int)⟩:zX),(⟨([115,116,111,112]:List Int),false,true,true,false,(0:Int),(3:Int),(0:Int),(1000000000000000:Int)⟩:zX),(⟨([119,97,107,101]:List Int),false,true,false,false,(0:Int),(1000000000000000:Int),(0:Int),(0:Int)⟩:zX),(⟨([97,108,108,111,99]:List Int),false,true,true,true,(0:Int),(1000000000000000:Int),(1:Int),(1000000000000:Int)⟩:zX),(⟨([102,114,101,101]:List Int),false,true,false,false,(0:Int),(1000000000000000:Int),(0:Int),(0:Int)⟩:zX)]:List zX)))] (ac (congrArg (AV.own _) (by first | (simp;done) | (simp;omega)):(.own 1 13:AV)=.own 1 ((([(⟨([]:List Int),false,false,false,false,(0:Int),(0:Int),(0:Int),(0:Int)⟩:zX),(⟨([98,101,103,105,110]:List Int),true,false,false,false,(0:Int),(0:Int),(0:Int),(0:Int)⟩:zX),(⟨([101,110,100]:List Int),false,false,false,false,(0:Int),(0:Int),(0:Int),(0:Int)⟩:zX),(⟨([109,97,114,107]:List Int),true,false,false,false,(0:Int),(0:Int),(0:Int),(0:Int)⟩:zX),(⟨([99,111,117,110,116]:List Int),true,true,false,false,(-1000000000000000:Int),(1000000000000000:Int),(0:Int),(0:Int)⟩:zX),(⟨([115,97,109,112,108,101]:List Int),false,true,false,true,(1:Int),(1000000000000:Int),(0:Int),(0:Int)⟩:zX),(⟨([115,101,110,100]:List Int),false,true,false,false,(0:Int),(1000000000000000:Int),(0:Int),(0:Int)⟩:zX),(⟨([114,101,99,118]:List Int),false,true,false,false,(0:Int),(1000000000000000:Int),(0:Int),(0:Int)⟩:zX),(⟨([114,117,110]:List Int),false,true,false,false,(0:Int),(63:Int),(0:Int),(0:Int)⟩:zX),(⟨([115,116,111,112]:List Int),false,true,true,false,(0:Int),(3:Int),(0:Int),(1000000000000000:Int)⟩:zX),(⟨([119,97,107,101]:List Int),false,true,false,false,(0:Int),(1000000000000000:Int),(0:Int),(0:Int)⟩:zX),(⟨([97,108,108,111,99]:List Int),false,true,true,true,(0:Int),(1000000000000000:Int),(1:Int),(1000000000000:Int)⟩:zX),(⟨([102,114,101,101]:List Int),false,true,false,false,(0:Int),(1000000000000000:Int),(0:Int),(0:Int)⟩:zX)]:List zX)).length)) an) ?_
 refine rt ?_
 cases h
 exact ⟨.inr rfl,Nat.le_of_ble_eq_true rfl,by kernel_rfl⟩
theorem zGG (k_1:Int) (r:zX×Bool) (h:nC k_1=some r):zW prog 84 [] [] [Ii k_1] [] (.tuple [wG r.1,.bool r.2]):=by
 refine yA (fn:=Go.Proofs.Try.f84) (code:=xC Go.Proofs.Try.f84) (by kernel_rfl) (by kernel_rfl) (Nat.le_of_ble_eq_true (by kernel_rfl)) ?_
 unfold nC at h
 refine sr [(0,{ id:=0 })] [0,2] [0] 1 [Ii k_1,Pp 0] [Vb 127 [.str ([]:List Int),.bool false,.bool false,.bool false,.bool false,Ii 0,Ii 0,Ii 0,Ii 0]] zG an ?_
 refine sq ?_
 obtain ⟨r_1,h_1,h⟩:=bind_some h
 refine rg [(0,{ av:=.own 0 ((r_1).length),ids:=[1],l:=[],post:=[(.row 127 9 (Mp wG r_1))] })] [0,2,4] [0,1] 2 [Ii k_1,Pp 0,.own 1 ((r_1).length)] [Vb 127 [.str ([]:List Int),.bool false,.bool false,.bool false,.bool false,Ii 0,Ii 0,Ii 0,Ii 0],Rb 127 9 (Mp wG r_1)] zG (ar ([]:List AV) (ac (rfl:([]:List zT)=[]) (ac (zHr r_1 h_1:zW prog 89 [] [] [] [(.row 127 9 (Mp wG r_1))] (.own 0 ((r_1).length))) an))) ?_
 refine sq ?_
 refine sq ?_
 refine y9 (mk [(0,Ii k_1),(2,Pp 0),(4,.own 1 ((r_1).length)),(13,.bool (decide (k_1<(1:Int))||decide (k_1≥(lN (r_1)))))] [(0,Vb 127 [.str ([]:List Int),.bool false,.bool false,.bool false,.bool false,Ii 0,Ii 0,Ii 0,Ii 0]),(1,Rb 127 9 (Mp wG r_1))] 2) ?_ ?_
 ·rcases bft (decide (k_1<(1:Int))) with zH | zH
  ·refine rg [(3,Hg),(4,Hg),(5,Hg),(6,Hg),(7,Ht)] [0,2,4,13] [0,1] 2 [Ii k_1,Pp 0,.own 1 ((r_1).length),.bool true] [Vb 127 [.str ([]:List Int),.bool false,.bool false,.bool false,.bool false,Ii 0,Ii 0,Ii 0,Ii 0],Rb 127 9 (Mp wG r_1)] zG (ac zH (ac zH (ac zH (ac zH (ac zH an))))) ?_
   exact ⟨rfl,(sw [0,1] [] [.s 0,.s 2,.s 4,.a 13 (.bool (decide (k_1<(1:Int))||decide (k_1≥(lN (r_1)))))] [.s 0,.s 1] (ac (congrArg AV.bool (ort zH):(.bool true:AV)=.bool (decide (k_1<(1:Int))||decide (k_1≥(lN (r_1))))) an))⟩
  ·refine rg [(7,Hf)] [0,2,4,13] [0,1] 2 [Ii k_1,Pp 0,.own 1 ((r_1).length),.bool (decide (k_1≥(lN (r_1))))] [Vb 127 [.str ([]:List Int),.bool false,.bool false,.bool false,.bool false,Ii 0,Ii 0,Ii 0,Ii 0],Rb 127 9 (Mp wG r_1)] zG (ac zH (ac zH (ac zH (ac zH (ac zH an))))) ?_
   exact ⟨rfl,(sw [0,1] [] [.s 0,.s 2,.s 4,.a 13 (.bool (decide (k_1<(1:Int))||decide (k_1≥(lN (r_1)))))] [.s 0,.s 1] (ac (congrArg AV.bool (orf zH rfl):(.bool (decide (k_1≥(lN (r_1)))):AV)=.bool (decide (k_1<(1:Int))||decide (k_1≥(lN (r_1))))) an))⟩
 refine cd 13 (decide (k_1<(1:Int))||decide (k_1≥(lN (r_1)))) ?_ ?_
 ·intro g_1;replace h:=zP g_1 h
  refine sr [] [2,3] [0] 2 [Pp 0,.bool false] [Vb 127 [.str ([]:List Int),.bool false,.bool false,.bool false,.bool false,Ii 0,Ii 0,Ii 0,Ii 0]] zG an ?_
  refine wk [0] [] [.s 2,.s 3] [.a 0 (Vb 127 (yL (⟨([]:List Int),false,false,false,false,(0:Int),(0:Int),(0:Int),(0:Int)⟩:zX)))] [(2,Pp 0),(3,.bool false)] [(0,Vb 127 (yL (⟨([]:List Int),false,false,false,false,(0:Int),(0:Int),(0:Int),(0:Int)⟩:zX)))] (ar 127 (ac (rfl:vZ [.str ((⟨([]:List Int),false,false,false,false,(0:Int),(0:Int),(0:Int),(0:Int)⟩:zX).word),.bool ((⟨([]:List Int),false,false,false,false,(0:Int),(0:Int),(0:Int),(0:Int)⟩:zX).name),.bool ((⟨([]:List Int),false,false,false,false,(0:Int),(0:Int),(0:Int),(0:Int)⟩:zX).n),.bool ((⟨([]:List Int),false,false,false,false,(0:Int),(0:Int),(0:Int),(0:Int)⟩:zX).m),.bool ((⟨([]:List Int),false,false,false,false,(0:Int),(0:Int),(0:Int),(0:Int)⟩:zX).stack),Ii ((⟨([]:List Int),false,false,false,false,(0:Int),(0:Int),(0:Int),(0:Int)⟩:zX).least),Ii ((⟨([]:List Int),false,false,false,false,(0:Int),(0:Int),(0:Int),(0:Int)⟩:zX).most),Ii ((⟨([]:List Int),false,false,false,false,(0:Int),(0:Int),(0:Int),(0:Int)⟩:zX).mLeast),Ii ((⟨([]:List Int),false,false,false,false,(0:Int),(0:Int),(0:Int),(0:Int)⟩:zX).mMost)]=true) (ac (rfl:(.str ([]:List Int):AV)=.str ((⟨([]:List Int),false,false,false,false,(0:Int),(0:Int),(0:Int),(0:Int)⟩:zX).word)) (ac (rfl:(.bool false:AV)=.bool ((⟨([]:List Int),false,false,false,false,(0:Int),(0:Int),(0:Int),(0:Int)⟩:zX).name)) (ac (rfl:(.bool false:AV)=.bool ((⟨([]:List Int),false,false,false,false,(0:Int),(0:Int),(0:Int),(0:Int)⟩:zX).n)) (ac (rfl:(.bool false:AV)=.bool ((⟨([]:List Int),false,false,false,false,(0:Int),(0:Int),(0:Int),(0:Int)⟩:zX).m)) (ac (rfl:(.bool false:AV)=.bool ((⟨([]:List Int),false,false,false,false,(0:Int),(0:Int),(0:Int),(0:Int)⟩:zX).stack)) (ac (rfl:(Ii 0:AV)=Ii ((⟨([]:List Int),false,false,false,false,(0:Int),(0:Int),(0:Int),(0:Int)⟩:zX).least)) (ac (rfl:(Ii 0:AV)=Ii ((⟨([]:List Int),false,false,false,false,(0:Int),(0:Int),(0:Int),(0:Int)⟩:zX).most)) (ac (rfl:(Ii 0:AV)=Ii ((⟨([]:List Int),false,false,false,false,(0:Int),(0:Int),(0:Int),(0:Int)⟩:zX).mLeast)) (ac (rfl:(Ii 0:AV)=Ii ((⟨([]:List Int),false,false,false,false,(0:Int),(0:Int),(0:Int),(0:Int)⟩:zX).mMost)) an))))))))))) ?_
  refine rt ?_
  cases h
  exact ⟨.inr rfl,Nat.le_of_ble_eq_true rfl,by kernel_rfl⟩
 intro g_1;replace h:=zO g_1 h
 refine sk ?_
 refine sq ?_
 obtain ⟨x_1,h_2,h⟩:=bind_some h
 refine rg [(3,{ av:=wG x_1 })] [2,3] [0] 2 [Pp 0,.bool true] [Vb 127 (yL x_1)] zG (ac (zBr h_2:(0:Int)≤k_1) (ac (by first | (simp;done) | simpa using zBn h_2:k_1<(((r_1).length:Nat):Int)) (ac (zCt h_2:(Mp wG r_1)[(k_1).toNat]?=some (wG x_1)) an))) ?_
 refine wk [0] [] [.s 2,.s 3] [.s 0] [(2,Pp 0),(3,.bool true)] [(0,Vb 127 (yL x_1))] an ?_
 refine rt ?_
 cases h
 exact ⟨.inr rfl,Nat.le_of_ble_eq_true rfl,by kernel_rfl⟩
theorem zGg (F:Nat) (l_1:List (List Int)) (r:Int) (h:pS F l_1=some r):zW prog 90 [] [] [.sl false 1 (Ms l_1)] [] (Ii r):=by
 refine yA (fn:=Go.Proofs.Try.f90) (code:=xC Go.Proofs.Try.f90) (by kernel_rfl) (by kernel_rfl) (Nat.le_of_ble_eq_true (by kernel_rfl)) ?_
 unfold pS at h
 refine sr [] [0] [] 0 [.sl false 1 (Ms l_1)] [] zG an ?_
 refine sq ?_
 refine sr [(1,{ n:=(l_1).length })] [0,8] [] 0 [.sl false 1 (Ms l_1),.bool (decide ((lN (l_1))>(32:Int)))] [] zG (ac (z9 _:((Ms l_1)).length=(l_1).length) an) ?_
 refine cd 8 (decide ((lN (l_1))>(32:Int))) ?_ ?_
 ·intro g_1;replace h:=zP g_1 h
  refine sr [] [2] [] 0 [Ii 7] [] zG an ?_
  refine rt ?_
  cases h
  exact ⟨.inr rfl,Nat.le_of_ble_eq_true rfl,by kernel_rfl⟩
 intro g_1;replace h:=zO g_1 h
 refine sk ?_
 refine sq ?_
 refine sr [(1,{ n:=(l_1).length })] [9,10,11] [] 0 [.sl false 1 (Ms l_1),Ii (lN (l_1)),Ii 0] [] zG (ac (z9 _:((Ms l_1)).length=(l_1).length) an) ?_
 obtain ⟨o_1,h_1,h⟩:=bind_some h
 refine wK (K1:=(fun e st'=>match o_1 with | (.inl q0)=>e=.normal∧Sub 0 st' (mk [] [] 0) | (.inr q1)=>e=.ret∧uF prog Go.Proofs.Try.f90 0 [] (Ii q1) st')) ?_ ?_
 ·replace h:=h_1
  refine yC (id:=0) (by kernel_rfl) ?_
  refine wk [] [] [.s 9,.s 10,.s 11] [] [(9,.sl false 1 (Ms l_1)),(10,Ii (lN (l_1))),(11,Ii 0)] [] an ?_
  refine xH (fun n st=>∃ (v_1:Int),st=mk [(9,.sl false 1 (Ms l_1)),(10,Ii (lN (l_1))),(11,Ii v_1)] [] 0∧jD F l_1 n v_1=some o_1) F (by kernel_rfl) ⟨_,rfl,h⟩ ?_ ?_
  ·rintro _ ⟨_,_,h⟩;exact xX (h:(none:Option (Unit⊕Int))=some o_1)
  rintro n_1 _ ⟨v_1,rfl,h⟩
  replace h:tV F l_1 (jD F l_1 n_1) v_1=some o_1:=h
  unfold tV at h
  refine sr [] [9,10,11,12] [] 0 [.sl false 1 (Ms l_1),Ii (lN (l_1)),Ii v_1,.bool (decide (v_1<(lN (l_1))))] [] zG an ?_
  refine sq ?_
  refine cd 12 (decide (v_1<(lN (l_1)))) ?_ ?_
  rotate_left
  ·intro g_2;replace h:=zO g_2 h
   refine xS (id:=0) (by kernel_rfl) ?_
   cases h
   exact ⟨rfl,(sw [] [] [] [] an)⟩
  intro g_2;replace h:=zP g_2 h
  refine sk ?_
  refine sq ?_
  refine yC (id:=1) (by kernel_rfl) ?_
  refine sq ?_
  obtain ⟨x_1,h_2,h⟩:=bind_some h
  refine rg [(0,{ av:=.str x_1 })] [4,9,10,11] [] 0 [.str x_1,.sl false 1 (Ms l_1),Ii (lN (l_1)),Ii v_1] [] zG (ac (yP h_2:xG (Ms l_1) v_1=some (.str x_1)) an) ?_
  refine sq ?_
  obtain ⟨r_1,h_3,h⟩:=bind_some h
  refine rg [(1,{ av:=Ii r_1,l:=[.str x_1] })] [5,9,10,11] [] 0 [Ii r_1,.sl false 1 (Ms l_1),Ii (lN (l_1)),Ii v_1] [] zG (ar ([.str x_1]:List AV) (ac (rfl:([]:List zT)=[]) (ac (zBo F x_1 r_1 h_3:zW prog 64 [] [] [.str x_1] [] (Ii r_1)) an))) ?_
  refine sr [] [5,9,10,11,18] [] 0 [Ii r_1,.sl false 1 (Ms l_1),Ii (lN (l_1)),Ii v_1,.bool (r_1 != (0:Int))] [] zG an ?_
  refine cd 18 (r_1 != (0:Int)) ?_ ?_
  rotate_left
  ·intro g_3;replace h:=zO g_3 h
   refine sk ?_
   refine rg [] [9,10,11] [] 0 [.sl false 1 (Ms l_1),Ii (lN (l_1)),Ii (zR (v_1+(1:Int)))] [] zG an ?_
   exact ⟨_,(sw [] [] [.s 9,.s 10,.s 11] [] an),_,rfl,h⟩
  intro g_3;replace h:=zP g_3 h
  refine sr [] [2] [] 0 [Ii r_1] [] zG an ?_
  refine rt ?_
  cases h
  exact ⟨rfl,Nat.le_of_ble_eq_true rfl,by kernel_rfl⟩
 intro e st1 hk
 rcases o_1 with q_1 | q_2
 rotate_left
 ·obtain ⟨rfl,hf⟩:=hk
  cases h
  exact ⟨st1,Sub.refl _ _,.inr rfl,hf⟩
 obtain ⟨rfl,hs⟩:=hk
 refine ⟨_,hs,?_⟩
 refine sr [] [2] [] 0 [Ii 0] [] zG an ?_
 refine rt ?_
 cases h
 exact ⟨.inr rfl,Nat.le_of_ble_eq_true rfl,by kernel_rfl⟩
theorem zHE (F:Nat) (f_1:zX) (e_1:zK) (r:Int) (h:zAm F f_1 e_1=some r):zW prog 85 [] [] [wG f_1,zD e_1] [] (Ii r):=by
 refine yA (fn:=Go.Proofs.Try.f85) (code:=xC Go.Proofs.Try.f85) (by kernel_rfl) (by kernel_rfl) (Nat.le_of_ble_eq_true (by kernel_rfl)) ?_
 unfold zAm at h
 refine sr [(0,{ id:=0 }),(1,{ id:=1 })] [2,3] [0,1] 2 [Pp 0,Pp 1] [Vb 127 (yL f_1),Vb 42 (zU e_1)] zG an ?_
 refine sq ?_
 refine sr [] [3,6] [1] 2 [Pp 1,.bool f_1.name] [Vb 42 (zU e_1)] zG an ?_
 refine cd 6 f_1.name ?_ ?_
 ·intro g_1;replace h:=zP g_1 h
  refine sq ?_
  obtain ⟨r_1,h_1,h⟩:=bind_some h
  refine rg [(2,{ av:=Ii r_1,l:=[.str e_1.Name] })] [4] [] 2 [Ii r_1] [] zG (ar ([.str e_1.Name]:List AV) (ac (rfl:([]:List zT)=[]) (ac (zBo F e_1.Name r_1 h_1:zW prog 64 [] [] [.str e_1.Name] [] (Ii r_1)) an))) ?_
  refine rt ?_
  cases h
  exact ⟨.inr rfl,Nat.le_of_ble_eq_true rfl,by kernel_rfl⟩
 intro g_1;replace h:=zO g_1 h
 refine sk ?_
 refine sq ?_
 obtain ⟨r_2,h_2,h⟩:=bind_some h
 refine rg [(2,{ av:=Ii r_2,l:=[.sl false 1 (Ms e_1.Stack)] })] [4] [] 2 [Ii r_2] [] zG (ar ([.sl false 1 (Ms e_1.Stack)]:List AV) (ac (rfl:([]:List zT)=[]) (ac (zGg F e_1.Stack r_2 h_2:zW prog 90 [] [] [.sl false 1 (Ms e_1.Stack)] [] (Ii r_2)) an))) ?_
 refine rt ?_
 cases h
 exact ⟨.inr rfl,Nat.le_of_ble_eq_true rfl,by kernel_rfl⟩
theorem zHi (F:Nat) (e_1:zK) (r:Int) (h:zAj F e_1=some r):zW prog 74 [] [] [zD e_1] [] (Ii r):=by
 refine yA (fn:=Go.Proofs.Try.f74) (code:=xC Go.Proofs.Try.f74) (by kernel_rfl) (by kernel_rfl) (Nat.le_of_ble_eq_true (by kernel_rfl)) ?_
 unfold zAj at h
 refine sr [(0,{ id:=0 })] [1] [0] 1 [Pp 0] [Vb 42 (zU e_1)] zG an ?_
 refine sq ?_
 refine sq ?_
 refine y9 (mk [(1,Pp 0),(13,.bool (decide (e_1.At<(0:Int))||decide (e_1.At>(1000000000000:Int))))] [(0,Vb 42 (zU e_1))] 1) ?_ ?_
 ·rcases bft (decide (e_1.At<(0:Int))) with zH | zH
  ·refine rg [(4,Hg),(5,Hg),(6,Hg),(7,Ht)] [1,13] [0] 1 [Pp 0,.bool true] [Vb 42 (zU e_1)] zG (ac zH (ac zH (ac zH (ac zH an)))) ?_
   exact ⟨rfl,(sw [0] [] [.s 1,.a 13 (.bool (decide (e_1.At<(0:Int))||decide (e_1.At>(1000000000000:Int))))] [.s 0] (ac (congrArg AV.bool (ort zH):(.bool true:AV)=.bool (decide (e_1.At<(0:Int))||decide (e_1.At>(1000000000000:Int)))) an))⟩
  ·refine rg [(7,Hf)] [1,13] [0] 1 [Pp 0,.bool (decide (e_1.At>(1000000000000:Int)))] [Vb 42 (zU e_1)] zG (ac zH (ac zH (ac zH (ac zH an)))) ?_
   exact ⟨rfl,(sw [0] [] [.s 1,.a 13 (.bool (decide (e_1.At<(0:Int))||decide (e_1.At>(1000000000000:Int))))] [.s 0] (ac (congrArg AV.bool (orf zH rfl):(.bool (decide (e_1.At>(1000000000000:Int))):AV)=.bool (decide (e_1.At<(0:Int))||decide (e_1.At>(1000000000000:Int)))) an))⟩
 refine cd 13 (decide (e_1.At<(0:Int))||decide (e_1.At>(1000000000000:Int))) ?_ ?_
 ·intro g_1;replace h:=zP g_1 h
  refine sr [] [2] [] 1 [Ii 2] [] zG an ?_
  refine rt ?_
  cases h
  exact ⟨.inr rfl,Nat.le_of_ble_eq_true rfl,by kernel_rfl⟩
 intro g_1;replace h:=zO g_1 h
 refine sk ?_
 refine sq ?_
 obtain ⟨r_1,h_1,h⟩:=bind_some h
 refine rg [(2,{ av:=.tuple [wG r_1.1,.bool r_1.2],l:=[Ii e_1.Kind] }),(6,{ id:=1 })] [1,3,4] [0,1] 2 [Pp 0,Pp 1,.bool r_1.2] [Vb 42 (zU e_1),Vb 127 (yL r_1.1)] zG (ar ([Ii e_1.Kind]:List AV) (ac (rfl:([]:List zT)=[]) (ac (zGG e_1.Kind r_1 h_1:zW prog 84 [] [] [Ii e_1.Kind] [] (.tuple [wG r_1.1,.bool r_1.2])) an))) ?_
 refine sq ?_
 refine sq ?_
 obtain ⟨p_1,h_2,h⟩:=bind_some h
 refine y9 (mk [(1,Pp 0),(3,Pp 1),(62,.bool p_1)] [(0,Vb 42 (zU e_1)),(1,Vb 127 (yL r_1.1))] 2) ?_ ?_
 ·replace h:=h_2
  rcases bft (!r_1.2) with zI | zI
  ·replace h:=zP zI h
   refine rg [(3,Hg),(4,Hg),(5,Hg),(6,Hg),(10,Hg),(11,Ht),(13,Hg),(14,Hg),(15,Hg),(16,Hg),(20,Hg),(21,Ht),(23,Hg),(24,Hg),(25,Hg),(26,Hg),(30,Hg),(31,Ht),(33,Hg),(34,Hg),(35,Hg),(36,Hg),(41,Hg),(42,Ht)] [1,3,62] [0,1] 2 [Pp 0,Pp 1,.bool true] [Vb 42 (zU e_1),Vb 127 (yL r_1.1)] zG (ac zI (ac zI (ac zI (ac zI (ac zI (ac zI (ax (ax (ax (ax (ax (ar true (ax (ax (ax (ax (ax (ar true (ax (ax (ax (ax (ax (ar true an)))))))))))))))))))))))) ?_
   cases h
   exact ⟨rfl,(sw [0,1] [] [.s 1,.s 3,.s 62] [.s 0,.s 1] an)⟩
  ·replace h:=zO zI h
   rcases bft (!r_1.1.name) with zN | zN
   ·replace h:=zP zN h
    rcases bft (!(e_1.Name==([]:List Int))) with zV | zV
    ·replace h:=zP zV h
     refine rg [(10,Ht),(11,Hf),(13,Hg),(14,Hg),(15,Hg),(16,Hg),(20,Hg),(21,Ht),(23,Hg),(24,Hg),(25,Hg),(26,Hg),(30,Hg),(31,Ht),(33,Hg),(34,Hg),(35,Hg),(36,Hg),(41,Hg),(42,Ht)] [1,3,62] [0,1] 2 [Pp 0,Pp 1,.bool true] [Vb 42 (zU e_1),Vb 127 (yL r_1.1)] zG (ac zI (ac zI (ac zI (ac zI (ac zN (ac zN (ac zN (ac zI (ac zN (ac zI (ac zV (ac zV (ac zV (ac zV (ac zV (ac zV (ax (ax (ax (ax (ax (ar true (ax (ax (ax (ax (ax (ar true an)))))))))))))))))))))))))))) ?_
     cases h
     exact ⟨rfl,(sw [0,1] [] [.s 1,.s 3,.s 62] [.s 0,.s 1] an)⟩
    ·replace h:=zO zV h
     rcases bft (!r_1.1.n) with yF | yF
     ·replace h:=zP yF h
      rcases bft (e_1.N != (0:Int)) with xA | xA
      ·replace h:=zP xA h
       refine rg [(10,Ht),(11,Hf),(20,Ht),(21,Hf),(23,Hg),(24,Hg),(25,Hg),(26,Hg),(30,Hg),(31,Ht),(33,Hg),(34,Hg),(35,Hg),(36,Hg),(41,Hg),(42,Ht)] [1,3,62] [0,1] 2 [Pp 0,Pp 1,.bool true] [Vb 42 (zU e_1),Vb 127 (yL r_1.1)] zG (ac zI (ac zI (ac zI (ac zI (ac zN (ac zN (ac zN (ac zI (ac zN (ac zI (ac zV (ac zV (ac zV (ac zV (ac yF (ac yF (ac yF (ac zV (ac yF (ac zV (ac xA (ac xA (ac xA (ac xA (ac xA (ac xA (ax (ax (ax (ax (ax (ar true an)))))))))))))))))))))))))))))))) ?_
       cases h
       exact ⟨rfl,(sw [0,1] [] [.s 1,.s 3,.s 62] [.s 0,.s 1] an)⟩
      ·replace h:=zO xA h
       rcases bft (!r_1.1.m) with y5 | y5
       ·replace h:=zP y5 h
        rcases bft (e_1.M != (0:Int)) with xB | xB
        ·replace h:=zP xB h
         refine rg [(10,Ht),(11,Hf),(20,Ht),(21,Hf),(30,Ht),(31,Hf),(33,Hg),(34,Hg),(35,Hg),(36,Hg),(41,Hg),(42,Ht)] [1,3,62] [0,1] 2 [Pp 0,Pp 1,.bool true] [Vb 42 (zU e_1),Vb 127 (yL r_1.1)] zG (ac zI (ac zI (ac zI (ac zI (ac zN (ac zN (ac zN (ac zI (ac zN (ac zI (ac zV (ac zV (ac zV (ac zV (ac yF (ac yF (ac yF (ac zV (ac yF (ac zV (ac xA (ac xA (ac xA (ac xA (ac y5 (ac y5 (ac y5 (ac xA (ac y5 (ac xA (ac xB (ac xB (ac xB (ac xB (ac xB (ac xB an)))))))))))))))))))))))))))))))))))) ?_
         cases h
         exact ⟨rfl,(sw [0,1] [] [.s 1,.s 3,.s 62] [.s 0,.s 1] an)⟩
        ·replace h:=zO xB h
         rcases bft (!r_1.1.stack) with wB | wB
         ·replace h:=zP wB h
          refine rg [(10,Ht),(11,Hf),(20,Ht),(21,Hf),(30,Ht),(31,Hf),(39,{ n:=(e_1.Stack).length }),(41,Ht),(42,Hf)] [1,3,62] [0,1] 2 [Pp 0,Pp 1,.bool (decide ((lN (e_1.Stack))>(0:Int)))] [Vb 42 (zU e_1),Vb 127 (yL r_1.1)] zG (ac zI (ac zI (ac zI (ac zI (ac zN (ac zN (ac zN (ac zI (ac zN (ac zI (ac zV (ac zV (ac zV (ac zV (ac yF (ac yF (ac yF (ac zV (ac yF (ac zV (ac xA (ac xA (ac xA (ac xA (ac y5 (ac y5 (ac y5 (ac xA (ac y5 (ac xA (ac xB (ac xB (ac xB (ac xB (ac wB (ac wB (ac wB (ac (z9 _:((Ms e_1.Stack)).length=(e_1.Stack).length) (ac wB (ac xB (ac wB (ac xB an)))))))))))))))))))))))))))))))))))))))))) ?_
          cases h
          exact ⟨rfl,(sw [0,1] [] [.s 1,.s 3,.s 62] [.s 0,.s 1] an)⟩
         ·replace h:=zO wB h
          refine rg [(10,Ht),(11,Hf),(20,Ht),(21,Hf),(30,Ht),(31,Hf),(37,Hg),(38,Hg),(39,Hg),(40,Hg),(41,Hf),(42,Hf)] [1,3,62] [0,1] 2 [Pp 0,Pp 1,.bool false] [Vb 42 (zU e_1),Vb 127 (yL r_1.1)] zG (ac zI (ac zI (ac zI (ac zI (ac zN (ac zN (ac zN (ac zI (ac zN (ac zI (ac zV (ac zV (ac zV (ac zV (ac yF (ac yF (ac yF (ac zV (ac yF (ac zV (ac xA (ac xA (ac xA (ac xA (ac y5 (ac y5 (ac y5 (ac xA (ac y5 (ac xA (ac xB (ac xB (ac xB (ac xB (ac wB (ac wB (ac wB (ac wB (ac xB (ac wB (ac xB an))))))))))))))))))))))))))))))))))))))))) ?_
          cases h
          exact ⟨rfl,(sw [0,1] [] [.s 1,.s 3,.s 62] [.s 0,.s 1] an)⟩
       ·replace h:=zO y5 h
        rcases bft (!r_1.1.stack) with xF | xF
        ·replace h:=zP xF h
         refine rg [(10,Ht),(11,Hf),(20,Ht),(21,Hf),(27,Hg),(28,Hg),(29,Hg),(30,Hf),(31,Hf),(39,{ n:=(e_1.Stack).length }),(41,Ht),(42,Hf)] [1,3,62] [0,1] 2 [Pp 0,Pp 1,.bool (decide ((lN (e_1.Stack))>(0:Int)))] [Vb 42 (zU e_1),Vb 127 (yL r_1.1)] zG (ac zI (ac zI (ac zI (ac zI (ac zN (ac zN (ac zN (ac zI (ac zN (ac zI (ac zV (ac zV (ac zV (ac zV (ac yF (ac yF (ac yF (ac zV (ac yF (ac zV (ac xA (ac xA (ac xA (ac xA (ac y5 (ac y5 (ac y5 (ac xA (ac y5 (ac xA (ar false (ar false (ar false (ar false (ac xF (ac xF (ac xF (ac (z9 _:((Ms e_1.Stack)).length=(e_1.Stack).length) (ac xF (ar false (ac xF (ar false an)))))))))))))))))))))))))))))))))))))))))) ?_
         cases h
         exact ⟨rfl,(sw [0,1] [] [.s 1,.s 3,.s 62] [.s 0,.s 1] an)⟩
        ·replace h:=zO xF h
         refine rg [(10,Ht),(11,Hf),(20,Ht),(21,Hf),(27,Hg),(28,Hg),(29,Hg),(30,Hf),(31,Hf),(37,Hg),(38,Hg),(39,Hg),(40,Hg),(41,Hf),(42,Hf)] [1,3,62] [0,1] 2 [Pp 0,Pp 1,.bool false] [Vb 42 (zU e_1),Vb 127 (yL r_1.1)] zG (ac zI (ac zI (ac zI (ac zI (ac zN (ac zN (ac zN (ac zI (ac zN (ac zI (ac zV (ac zV (ac zV (ac zV (ac yF (ac yF (ac yF (ac zV (ac yF (ac zV (ac xA (ac xA (ac xA (ac xA (ac y5 (ac y5 (ac y5 (ac xA (ac y5 (ac xA (ar false (ar false (ar false (ar false (ac xF (ac xF (ac xF (ac xF (ar false (ac xF (ar false an))))))))))))))))))))))))))))))))))))))))) ?_
         cases h
         exact ⟨rfl,(sw [0,1] [] [.s 1,.s 3,.s 62] [.s 0,.s 1] an)⟩
     ·replace h:=zO yF h
      rcases bft (!r_1.1.m) with xJ | xJ
      ·replace h:=zP xJ h
       rcases bft (e_1.M != (0:Int)) with y2 | y2
       ·replace h:=zP y2 h
        refine rg [(10,Ht),(11,Hf),(17,Hg),(18,Hg),(19,Hg),(20,Hf),(21,Hf),(30,Ht),(31,Hf),(33,Hg),(34,Hg),(35,Hg),(36,Hg),(41,Hg),(42,Ht)] [1,3,62] [0,1] 2 [Pp 0,Pp 1,.bool true] [Vb 42 (zU e_1),Vb 127 (yL r_1.1)] zG (ac zI (ac zI (ac zI (ac zI (ac zN (ac zN (ac zN (ac zI (ac zN (ac zI (ac zV (ac zV (ac zV (ac zV (ac yF (ac yF (ac yF (ac zV (ac yF (ac zV (ar false (ar false (ar false (ar false (ac xJ (ac xJ (ac xJ (ar false (ac xJ (ar false (ac y2 (ac y2 (ac y2 (ac y2 (ac y2 (ac y2 an)))))))))))))))))))))))))))))))))))) ?_
        cases h
        exact ⟨rfl,(sw [0,1] [] [.s 1,.s 3,.s 62] [.s 0,.s 1] an)⟩
       ·replace h:=zO y2 h
        rcases bft (!r_1.1.stack) with x5 | x5
        ·replace h:=zP x5 h
         refine rg [(10,Ht),(11,Hf),(17,Hg),(18,Hg),(19,Hg),(20,Hf),(21,Hf),(30,Ht),(31,Hf),(39,{ n:=(e_1.Stack).length }),(41,Ht),(42,Hf)] [1,3,62] [0,1] 2 [Pp 0,Pp 1,.bool (decide ((lN (e_1.Stack))>(0:Int)))] [Vb 42 (zU e_1),Vb 127 (yL r_1.1)] zG (ac zI (ac zI (ac zI (ac zI (ac zN (ac zN (ac zN (ac zI (ac zN (ac zI (ac zV (ac zV (ac zV (ac zV (ac yF (ac yF (ac yF (ac zV (ac yF (ac zV (ar false (ar false (ar false (ar false (ac xJ (ac xJ (ac xJ (ar false (ac xJ (ar false (ac y2 (ac y2 (ac y2 (ac y2 (ac x5 (ac x5 (ac x5 (ac (z9 _:((Ms e_1.Stack)).length=(e_1.Stack).length) (ac x5 (ac y2 (ac x5 (ac y2 an)))))))))))))))))))))))))))))))))))))))))) ?_
         cases h
         exact ⟨rfl,(sw [0,1] [] [.s 1,.s 3,.s 62] [.s 0,.s 1] an)⟩
        ·replace h:=zO x5 h
         refine rg [(10,Ht),(11,Hf),(17,Hg),(18,Hg),(19,Hg),(20,Hf),(21,Hf),(30,Ht),(31,Hf),(37,Hg),(38,Hg),(39,Hg),(40,Hg),(41,Hf),(42,Hf)] [1,3,62] [0,1] 2 [Pp 0,Pp 1,.bool false] [Vb 42 (zU e_1),Vb 127 (yL r_1.1)] zG (ac zI (ac zI (ac zI (ac zI (ac zN (ac zN (ac zN (ac zI (ac zN (ac zI (ac zV (ac zV (ac zV (ac zV (ac yF (ac yF (ac yF (ac zV (ac yF (ac zV (ar false (ar false (ar false (ar false (ac xJ (ac xJ (ac xJ (ar false (ac xJ (ar false (ac y2 (ac y2 (ac y2 (ac y2 (ac x5 (ac x5 (ac x5 (ac x5 (ac y2 (ac x5 (ac y2 an))))))))))))))))))))))))))))))))))))))))) ?_
         cases h
         exact ⟨rfl,(sw [0,1] [] [.s 1,.s 3,.s 62] [.s 0,.s 1] an)⟩
      ·replace h:=zO xJ h
       rcases bft (!r_1.1.stack) with wC | wC
       ·replace h:=zP wC h
        refine rg [(10,Ht),(11,Hf),(17,Hg),(18,Hg),(19,Hg),(20,Hf),(21,Hf),(27,Hg),(28,Hg),(29,Hg),(30,Hf),(31,Hf),(39,{ n:=(e_1.Stack).length }),(41,Ht),(42,Hf)] [1,3,62] [0,1] 2 [Pp 0,Pp 1,.bool (decide ((lN (e_1.Stack))>(0:Int)))] [Vb 42 (zU e_1),Vb 127 (yL r_1.1)] zG (ac zI (ac zI (ac zI (ac zI (ac zN (ac zN (ac zN (ac zI (ac zN (ac zI (ac zV (ac zV (ac zV (ac zV (ac yF (ac yF (ac yF (ac zV (ac yF (ac zV (ar false (ar false (ar false (ar false (ac xJ (ac xJ (ac xJ (ar false (ac xJ (ar false (ar false (ar false (ar false (ar false (ac wC (ac wC (ac wC (ac (z9 _:((Ms e_1.Stack)).length=(e_1.Stack).length) (ac wC (ar false (ac wC (ar false an)))))))))))))))))))))))))))))))))))))))))) ?_
        cases h
        exact ⟨rfl,(sw [0,1] [] [.s 1,.s 3,.s 62] [.s 0,.s 1] an)⟩
       ·replace h:=zO wC h
        refine rg [(10,Ht),(11,Hf),(17,Hg),(18,Hg),(19,Hg),(20,Hf),(21,Hf),(27,Hg),(28,Hg),(29,Hg),(30,Hf),(31,Hf),(37,Hg),(38,Hg),(39,Hg),(40,Hg),(41,Hf),(42,Hf)] [1,3,62] [0,1] 2 [Pp 0,Pp 1,.bool false] [Vb 42 (zU e_1),Vb 127 (yL r_1.1)] zG (ac zI (ac zI (ac zI (ac zI (ac zN (ac zN (ac zN (ac zI (ac zN (ac zI (ac zV (ac zV (ac zV (ac zV (ac yF (ac yF (ac yF (ac zV (ac yF (ac zV (ar false (ar false (ar false (ar false (ac xJ (ac xJ (ac xJ (ar false (ac xJ (ar false (ar false (ar false (ar false (ar false (ac wC (ac wC (ac wC (ac wC (ar false (ac wC (ar false an))))))))))))))))))))))))))))))))))))))))) ?_
        cases h
        exact ⟨rfl,(sw [0,1] [] [.s 1,.s 3,.s 62] [.s 0,.s 1] an)⟩
   ·replace h:=zO zN h
    rcases bft (!r_1.1.n) with y4 | y4
    ·replace h:=zP y4 h
     rcases bft (e_1.N != (0:Int)) with xN | xN
     ·replace h:=zP xN h
      refine rg [(7,Hg),(8,Hg),(9,Hg),(10,Hf),(11,Hf),(20,Ht),(21,Hf),(23,Hg),(24,Hg),(25,Hg),(26,Hg),(30,Hg),(31,Ht),(33,Hg),(34,Hg),(35,Hg),(36,Hg),(41,Hg),(42,Ht)] [1,3,62] [0,1] 2 [Pp 0,Pp 1,.bool true] [Vb 42 (zU e_1),Vb 127 (yL r_1.1)] zG (ac zI (ac zI (ac zI (ac zI (ac zN (ac zN (ac zN (ac zI (ac zN (ac zI (ar false (ar false (ar false (ar false (ac y4 (ac y4 (ac y4 (ar false (ac y4 (ar false (ac xN (ac xN (ac xN (ac xN (ac xN (ac xN (ax (ax (ax (ax (ax (ar true an)))))))))))))))))))))))))))))))) ?_
      cases h
      exact ⟨rfl,(sw [0,1] [] [.s 1,.s 3,.s 62] [.s 0,.s 1] an)⟩
     ·replace h:=zO xN h
      rcases bft (!r_1.1.m) with wS | wS
      ·replace h:=zP wS h
       rcases bft (e_1.M != (0:Int)) with w6 | w6
       ·replace h:=zP w6 h
        refine rg [(7,Hg),(8,Hg),(9,Hg),(10,Hf),(11,Hf),(20,Ht),(21,Hf),(30,Ht),(31,Hf),(33,Hg),(34,Hg),(35,Hg),(36,Hg),(41,Hg),(42,Ht)] [1,3,62] [0,1] 2 [Pp 0,Pp 1,.bool true] [Vb 42 (zU e_1),Vb 127 (yL r_1.1)] zG (ac zI (ac zI (ac zI (ac zI (ac zN (ac zN (ac zN (ac zI (ac zN (ac zI (ar false (ar false (ar false (ar false (ac y4 (ac y4 (ac y4 (ar false (ac y4 (ar false (ac xN (ac xN (ac xN (ac xN (ac wS (ac wS (ac wS (ac xN (ac wS (ac xN (ac w6 (ac w6 (ac w6 (ac w6 (ac w6 (ac w6 an)))))))))))))))))))))))))))))))))))) ?_
        cases h
        exact ⟨rfl,(sw [0,1] [] [.s 1,.s 3,.s 62] [.s 0,.s 1] an)⟩
       ·replace h:=zO w6 h
        rcases bft (!r_1.1.stack) with uX | uX
        ·replace h:=zP uX h
         refine rg [(7,Hg),(8,Hg),(9,Hg),(10,Hf),(11,Hf),(20,Ht),(21,Hf),(30,Ht),(31,Hf),(39,{ n:=(e_1.Stack).length }),(41,Ht),(42,Hf)] [1,3,62] [0,1] 2 [Pp 0,Pp 1,.bool (decide ((lN (e_1.Stack))>(0:Int)))] [Vb 42 (zU e_1),Vb 127 (yL r_1.1)] zG (ac zI (ac zI (ac zI (ac zI (ac zN (ac zN (ac zN (ac zI (ac zN (ac zI (ar false (ar false (ar false (ar false (ac y4 (ac y4 (ac y4 (ar false (ac y4 (ar false (ac xN (ac xN (ac xN (ac xN (ac wS (ac wS (ac wS (ac xN (ac wS (ac xN (ac w6 (ac w6 (ac w6 (ac w6 (ac uX (ac uX (ac uX (ac (z9 _:((Ms e_1.Stack)).length=(e_1.Stack).length) (ac uX (ac w6 (ac uX (ac w6 an)))))))))))))))))))))))))))))))))))))))))) ?_
         cases h
         exact ⟨rfl,(sw [0,1] [] [.s 1,.s 3,.s 62] [.s 0,.s 1] an)⟩
        ·replace h:=zO uX h
         refine rg [(7,Hg),(8,Hg),(9,Hg),(10,Hf),(11,Hf),(20,Ht),(21,Hf),(30,Ht),(31,Hf),(37,Hg),(38,Hg),(39,Hg),(40,Hg),(41,Hf),(42,Hf)] [1,3,62] [0,1] 2 [Pp 0,Pp 1,.bool false] [Vb 42 (zU e_1),Vb 127 (yL r_1.1)] zG (ac zI (ac zI (ac zI (ac zI (ac zN (ac zN (ac zN (ac zI (ac zN (ac zI (ar false (ar false (ar false (ar false (ac y4 (ac y4 (ac y4 (ar false (ac y4 (ar false (ac xN (ac xN (ac xN (ac xN (ac wS (ac wS (ac wS (ac xN (ac wS (ac xN (ac w6 (ac w6 (ac w6 (ac w6 (ac uX (ac uX (ac uX (ac uX (ac w6 (ac uX (ac w6 an))))))))))))))))))))))))))))))))))))))))) ?_
         cases h
         exact ⟨rfl,(sw [0,1] [] [.s 1,.s 3,.s 62] [.s 0,.s 1] an)⟩
      ·replace h:=zO wS h
       rcases bft (!r_1.1.stack) with uY | uY
       ·replace h:=zP uY h
        refine rg [(7,Hg),(8,Hg),(9,Hg),(10,Hf),(11,Hf),(20,Ht),(21,Hf),(27,Hg),(28,Hg),(29,Hg),(30,Hf),(31,Hf),(39,{ n:=(e_1.Stack).length }),(41,Ht),(42,Hf)] [1,3,62] [0,1] 2 [Pp 0,Pp 1,.bool (decide ((lN (e_1.Stack))>(0:Int)))] [Vb 42 (zU e_1),Vb 127 (yL r_1.1)] zG (ac zI (ac zI (ac zI (ac zI (ac zN (ac zN (ac zN (ac zI (ac zN (ac zI (ar false (ar false (ar false (ar false (ac y4 (ac y4 (ac y4 (ar false (ac y4 (ar false (ac xN (ac xN (ac xN (ac xN (ac wS (ac wS (ac wS (ac xN (ac wS (ac xN (ar false (ar false (ar false (ar false (ac uY (ac uY (ac uY (ac (z9 _:((Ms e_1.Stack)).length=(e_1.Stack).length) (ac uY (ar false (ac uY (ar false an)))))))))))))))))))))))))))))))))))))))))) ?_
        cases h
        exact ⟨rfl,(sw [0,1] [] [.s 1,.s 3,.s 62] [.s 0,.s 1] an)⟩
       ·replace h:=zO uY h
        refine rg [(7,Hg),(8,Hg),(9,Hg),(10,Hf),(11,Hf),(20,Ht),(21,Hf),(27,Hg),(28,Hg),(29,Hg),(30,Hf),(31,Hf),(37,Hg),(38,Hg),(39,Hg),(40,Hg),(41,Hf),(42,Hf)] [1,3,62] [0,1] 2 [Pp 0,Pp 1,.bool false] [Vb 42 (zU e_1),Vb 127 (yL r_1.1)] zG (ac zI (ac zI (ac zI (ac zI (ac zN (ac zN (ac zN (ac zI (ac zN (ac zI (ar false (ar false (ar false (ar false (ac y4 (ac y4 (ac y4 (ar false (ac y4 (ar false (ac xN (ac xN (ac xN (ac xN (ac wS (ac wS (ac wS (ac xN (ac wS (ac xN (ar false (ar false (ar false (ar false (ac uY (ac uY (ac uY (ac uY (ar false (ac uY (ar false an))))))))))))))))))))))))))))))))))))))))) ?_
        cases h
        exact ⟨rfl,(sw [0,1] [] [.s 1,.s 3,.s 62] [.s 0,.s 1] an)⟩
    ·replace h:=zO y4 h
     rcases bft (!r_1.1.m) with wT | wT
     ·replace h:=zP wT h
      rcases bft (e_1.M != (0:Int)) with w7 | w7
      ·replace h:=zP w7 h
       refine rg [(7,Hg),(8,Hg),(9,Hg),(10,Hf),(11,Hf),(17,Hg),(18,Hg),(19,Hg),(20,Hf),(21,Hf),(30,Ht),(31,Hf),(33,Hg),(34,Hg),(35,Hg),(36,Hg),(41,Hg),(42,Ht)] [1,3,62] [0,1] 2 [Pp 0,Pp 1,.bool true] [Vb 42 (zU e_1),Vb 127 (yL r_1.1)] zG (ac zI (ac zI (ac zI (ac zI (ac zN (ac zN (ac zN (ac zI (ac zN (ac zI (ar false (ar false (ar false (ar false (ac y4 (ac y4 (ac y4 (ar false (ac y4 (ar false (ar false (ar false (ar false (ar false (ac wT (ac wT (ac wT (ar false (ac wT (ar false (ac w7 (ac w7 (ac w7 (ac w7 (ac w7 (ac w7 an)))))))))))))))))))))))))))))))))))) ?_
       cases h
       exact ⟨rfl,(sw [0,1] [] [.s 1,.s 3,.s 62] [.s 0,.s 1] an)⟩
      ·replace h:=zO w7 h
       rcases bft (!r_1.1.stack) with uZ | uZ
       ·replace h:=zP uZ h
        refine rg [(7,Hg),(8,Hg),(9,Hg),(10,Hf),(11,Hf),(17,Hg),(18,Hg),(19,Hg),(20,Hf),(21,Hf),(30,Ht),(31,Hf),(39,{ n:=(e_1.Stack).length }),(41,Ht),(42,Hf)] [1,3,62] [0,1] 2 [Pp 0,Pp 1,.bool (decide ((lN (e_1.Stack))>(0:Int)))] [Vb 42 (zU e_1),Vb 127 (yL r_1.1)] zG (ac zI (ac zI (ac zI (ac zI (ac zN (ac zN (ac zN (ac zI (ac zN (ac zI (ar false (ar false (ar false (ar false (ac y4 (ac y4 (ac y4 (ar false (ac y4 (ar false (ar false (ar false (ar false (ar false (ac wT (ac wT (ac wT (ar false (ac wT (ar false (ac w7 (ac w7 (ac w7 (ac w7 (ac uZ (ac uZ (ac uZ (ac (z9 _:((Ms e_1.Stack)).length=(e_1.Stack).length) (ac uZ (ac w7 (ac uZ (ac w7 an)))))))))))))))))))))))))))))))))))))))))) ?_
        cases h
        exact ⟨rfl,(sw [0,1] [] [.s 1,.s 3,.s 62] [.s 0,.s 1] an)⟩
       ·replace h:=zO uZ h
        refine rg [(7,Hg),(8,Hg),(9,Hg),(10,Hf),(11,Hf),(17,Hg),(18,Hg),(19,Hg),(20,Hf),(21,Hf),(30,Ht),(31,Hf),(37,Hg),(38,Hg),(39,Hg),(40,Hg),(41,Hf),(42,Hf)] [1,3,62] [0,1] 2 [Pp 0,Pp 1,.bool false] [Vb 42 (zU e_1),Vb 127 (yL r_1.1)] zG (ac zI (ac zI (ac zI (ac zI (ac zN (ac zN (ac zN (ac zI (ac zN (ac zI (ar false (ar false (ar false (ar false (ac y4 (ac y4 (ac y4 (ar false (ac y4 (ar false (ar false (ar false (ar false (ar false (ac wT (ac wT (ac wT (ar false (ac wT (ar false (ac w7 (ac w7 (ac w7 (ac w7 (ac uZ (ac uZ (ac uZ (ac uZ (ac w7 (ac uZ (ac w7 an))))))))))))))))))))))))))))))))))))))))) ?_
        cases h
        exact ⟨rfl,(sw [0,1] [] [.s 1,.s 3,.s 62] [.s 0,.s 1] an)⟩
     ·replace h:=zO wT h
      rcases bft (!r_1.1.stack) with u0 | u0
      ·replace h:=zP u0 h
       refine rg [(7,Hg),(8,Hg),(9,Hg),(10,Hf),(11,Hf),(17,Hg),(18,Hg),(19,Hg),(20,Hf),(21,Hf),(27,Hg),(28,Hg),(29,Hg),(30,Hf),(31,Hf),(39,{ n:=(e_1.Stack).length }),(41,Ht),(42,Hf)] [1,3,62] [0,1] 2 [Pp 0,Pp 1,.bool (decide ((lN (e_1.Stack))>(0:Int)))] [Vb 42 (zU e_1),Vb 127 (yL r_1.1)] zG (ac zI (ac zI (ac zI (ac zI (ac zN (ac zN (ac zN (ac zI (ac zN (ac zI (ar false (ar false (ar false (ar false (ac y4 (ac y4 (ac y4 (ar false (ac y4 (ar false (ar false (ar false (ar false (ar false (ac wT (ac wT (ac wT (ar false (ac wT (ar false (ar false (ar false (ar false (ar false (ac u0 (ac u0 (ac u0 (ac (z9 _:((Ms e_1.Stack)).length=(e_1.Stack).length) (ac u0 (ar false (ac u0 (ar false an)))))))))))))))))))))))))))))))))))))))))) ?_
       cases h
       exact ⟨rfl,(sw [0,1] [] [.s 1,.s 3,.s 62] [.s 0,.s 1] an)⟩
      ·replace h:=zO u0 h
       refine rg [(7,Hg),(8,Hg),(9,Hg),(10,Hf),(11,Hf),(17,Hg),(18,Hg),(19,Hg),(20,Hf),(21,Hf),(27,Hg),(28,Hg),(29,Hg),(30,Hf),(31,Hf),(37,Hg),(38,Hg),(39,Hg),(40,Hg),(41,Hf),(42,Hf)] [1,3,62] [0,1] 2 [Pp 0,Pp 1,.bool false] [Vb 42 (zU e_1),Vb 127 (yL r_1.1)] zG (ac zI (ac zI (ac zI (ac zI (ac zN (ac zN (ac zN (ac zI (ac zN (ac zI (ar false (ar false (ar false (ar false (ac y4 (ac y4 (ac y4 (ar false (ac y4 (ar false (ar false (ar false (ar false (ar false (ac wT (ac wT (ac wT (ar false (ac wT (ar false (ar false (ar false (ar false (ar false (ac u0 (ac u0 (ac u0 (ac u0 (ar false (ac u0 (ar false an))))))))))))))))))))))))))))))))))))))))) ?_
       cases h
       exact ⟨rfl,(sw [0,1] [] [.s 1,.s 3,.s 62] [.s 0,.s 1] an)⟩
 refine cd 62 p_1 ?_ ?_
 ·intro g_2;replace h:=zP g_2 h
  refine sr [] [2] [] 2 [Ii 1] [] zG an ?_
  refine rt ?_
  cases h
  exact ⟨.inr rfl,Nat.le_of_ble_eq_true rfl,by kernel_rfl⟩
 intro g_2;replace h:=zO g_2 h
 refine sk ?_
 refine sq ?_
 refine sq ?_
 obtain ⟨r_2,h_3,h⟩:=bind_some h
 refine rg [(2,{ av:=Ii r_2,l:=[wG r_1.1,zD e_1] })] [1,3,5] [0,1] 2 [Pp 0,Pp 1,Ii r_2] [Vb 42 (zU e_1),Vb 127 (yL r_1.1)] zG (ar ([wG r_1.1,zD e_1]:List AV) (ac (rfl:([]:List zT)=[]) (ac (zHE F r_1.1 e_1 r_2 h_3:zW prog 85 [] [] [wG r_1.1,zD e_1] [] (Ii r_2)) an))) ?_
 refine sr [] [1,3,5,67] [0,1] 2 [Pp 0,Pp 1,Ii r_2,.bool (r_2 != (0:Int))] [Vb 42 (zU e_1),Vb 127 (yL r_1.1)] zG an ?_
 refine cd 67 (r_2 != (0:Int)) ?_ ?_
 ·intro g_3;replace h:=zP g_3 h
  refine sr [] [2] [] 2 [Ii r_2] [] zG an ?_
  refine rt ?_
  cases h
  exact ⟨.inr rfl,Nat.le_of_ble_eq_true rfl,by kernel_rfl⟩
 intro g_3;replace h:=zO g_3 h
 refine sk ?_
 refine sq ?_
 refine yC (id:=0) (by kernel_rfl) ?_
 refine sq ?_
 refine y9 (mk [(1,Pp 0),(3,Pp 1),(69,.bool (r_1.1.n&&(decide (e_1.N<r_1.1.least)||decide (e_1.N>r_1.1.most))))] [(0,Vb 42 (zU e_1)),(1,Vb 127 (yL r_1.1))] 2) ?_ ?_
 ·rcases Bool.eq_false_or_eq_true r_1.1.n with uL | uL
  ·rcases bft (decide (e_1.N<r_1.1.least)) with pK | pK
   ·refine rg [(9,Hg),(10,Hg),(11,Hg),(12,Hg),(13,Hg),(14,Ht),(15,Ht)] [1,3,69] [0,1] 2 [Pp 0,Pp 1,.bool true] [Vb 42 (zU e_1),Vb 127 (yL r_1.1)] zG (ac uL (ac uL (ac uL (ac uL (ac uL (ac uL (ac pK (ac pK (ac pK (ac pK (ac pK (ac uL (ac pK (ac uL an)))))))))))))) ?_
    exact ⟨rfl,(sw [0,1] [] [.s 1,.s 3,.a 69 (.bool (r_1.1.n&&(decide (e_1.N<r_1.1.least)||decide (e_1.N>r_1.1.most))))] [.s 0,.s 1] (ac (congrArg AV.bool (uP uL (ort pK)):(.bool true:AV)=.bool (r_1.1.n&&(decide (e_1.N<r_1.1.least)||decide (e_1.N>r_1.1.most)))) an))⟩
   ·refine rg [(14,Hf),(15,Ht)] [1,3,69] [0,1] 2 [Pp 0,Pp 1,.bool (decide (e_1.N>r_1.1.most))] [Vb 42 (zU e_1),Vb 127 (yL r_1.1)] zG (ac uL (ac uL (ac uL (ac uL (ac uL (ac uL (ac pK (ac pK (ac pK (ac pK (ac pK (ac uL (ac pK (ac uL an)))))))))))))) ?_
    exact ⟨rfl,(sw [0,1] [] [.s 1,.s 3,.a 69 (.bool (r_1.1.n&&(decide (e_1.N<r_1.1.least)||decide (e_1.N>r_1.1.most))))] [.s 0,.s 1] (ac (congrArg AV.bool (uP uL (orf pK rfl)):(.bool (decide (e_1.N>r_1.1.most)):AV)=.bool (r_1.1.n&&(decide (e_1.N<r_1.1.least)||decide (e_1.N>r_1.1.most)))) an))⟩
  ·refine rg [(3,Hg),(4,Hg),(5,Hg),(6,Hg),(7,Hg),(8,Hg),(14,Hg),(15,Hf)] [1,3,69] [0,1] 2 [Pp 0,Pp 1,.bool false] [Vb 42 (zU e_1),Vb 127 (yL r_1.1)] zG (ac uL (ac uL (ac uL (ac uL (ac uL (ac uL (ac uL (ac uL an)))))))) ?_
   exact ⟨rfl,(sw [0,1] [] [.s 1,.s 3,.a 69 (.bool (r_1.1.n&&(decide (e_1.N<r_1.1.least)||decide (e_1.N>r_1.1.most))))] [.s 0,.s 1] (ac (congrArg AV.bool (j7 uL):(.bool false:AV)=.bool (r_1.1.n&&(decide (e_1.N<r_1.1.least)||decide (e_1.N>r_1.1.most)))) an))⟩
 refine cd 69 (r_1.1.n&&(decide (e_1.N<r_1.1.least)||decide (e_1.N>r_1.1.most))) ?_ ?_
 ·intro g_4;replace h:=zP g_4 h
  refine sr [] [2] [] 2 [Ii 2] [] zG an ?_
  refine rt ?_
  cases h
  exact ⟨.inr rfl,Nat.le_of_ble_eq_true rfl,by kernel_rfl⟩
 intro g_4;replace h:=zO g_4 h
 refine sq ?_
 refine y9 (mk [(1,Pp 0),(3,Pp 1),(86,.bool ((e_1.Kind==(9:Int))&&((e_1.N != (2:Int))&&(e_1.M != (0:Int)))))] [(0,Vb 42 (zU e_1)),(1,Vb 127 (yL r_1.1))] 2) ?_ ?_
 ·rcases bft (e_1.Kind==(9:Int)) with kE | kE
  ·rcases bft (e_1.N != (2:Int)) with zBf | zBf
   ·refine rg [(7,Ht),(12,Ht)] [1,3,86] [0,1] 2 [Pp 0,Pp 1,.bool (e_1.M != (0:Int))] [Vb 42 (zU e_1),Vb 127 (yL r_1.1)] zG (ac kE (ac kE (ac kE (ac kE (ac zBf (ac zBf (ac zBf (ac zBf an)))))))) ?_
    exact ⟨rfl,(sw [0,1] [] [.s 1,.s 3,.a 86 (.bool ((e_1.Kind==(9:Int))&&((e_1.N != (2:Int))&&(e_1.M != (0:Int)))))] [.s 0,.s 1] (ac (congrArg AV.bool (uP kE (uP zBf rfl)):(.bool (e_1.M != (0:Int)):AV)=.bool ((e_1.Kind==(9:Int))&&((e_1.N != (2:Int))&&(e_1.M != (0:Int))))) an))⟩
   ·refine rg [(7,Ht),(9,Hg),(10,Hg),(11,Hg),(12,Hf)] [1,3,86] [0,1] 2 [Pp 0,Pp 1,.bool false] [Vb 42 (zU e_1),Vb 127 (yL r_1.1)] zG (ac kE (ac kE (ac kE (ac kE (ac zBf (ac zBf (ac zBf (ac zBf an)))))))) ?_
    exact ⟨rfl,(sw [0,1] [] [.s 1,.s 3,.a 86 (.bool ((e_1.Kind==(9:Int))&&((e_1.N != (2:Int))&&(e_1.M != (0:Int)))))] [.s 0,.s 1] (ac (congrArg AV.bool (uP kE (j7 zBf)):(.bool false:AV)=.bool ((e_1.Kind==(9:Int))&&((e_1.N != (2:Int))&&(e_1.M != (0:Int))))) an))⟩
  ·refine rg [(4,Hg),(5,Hg),(6,Hg),(7,Hf),(9,Hg),(10,Hg),(11,Hg),(12,Hf)] [1,3,86] [0,1] 2 [Pp 0,Pp 1,.bool false] [Vb 42 (zU e_1),Vb 127 (yL r_1.1)] zG (ac kE (ac kE (ac kE (ac kE (ac (rfl:false=!true) (ac (rfl:false=!true) (ac (rfl:false=!true) (ar false an)))))))) ?_
   exact ⟨rfl,(sw [0,1] [] [.s 1,.s 3,.a 86 (.bool ((e_1.Kind==(9:Int))&&((e_1.N != (2:Int))&&(e_1.M != (0:Int)))))] [.s 0,.s 1] (ac (congrArg AV.bool (j7 kE):(.bool false:AV)=.bool ((e_1.Kind==(9:Int))&&((e_1.N != (2:Int))&&(e_1.M != (0:Int))))) an))⟩
 refine cd 86 ((e_1.Kind==(9:Int))&&((e_1.N != (2:Int))&&(e_1.M != (0:Int)))) ?_ ?_
 ·intro g_5;replace h:=zP g_5 h
  refine sr [] [2] [] 2 [Ii 1] [] zG an ?_
  refine rt ?_
  cases h
  exact ⟨.inr rfl,Nat.le_of_ble_eq_true rfl,by kernel_rfl⟩
 intro g_5;replace h:=zO g_5 h
 refine sq ?_
 refine y9 (mk [(100,.bool (r_1.1.m&&(bif decide (e_1.M<r_1.1.mLeast) then ((e_1.Kind != (9:Int))||(e_1.N==(2:Int))) else (decide (e_1.M>r_1.1.mMost)&&((e_1.Kind != (9:Int))||(e_1.N==(2:Int)))))))] [] 0) ?_ ?_
 ·rcases Bool.eq_false_or_eq_true r_1.1.m with wH | wH
  ·rcases bft (decide (e_1.M<r_1.1.mLeast)) with vK | vK
   ·rcases bft (e_1.Kind != (9:Int)) with zBg | zBg
    ·refine rg [(9,Hg),(10,Hg),(11,Hg),(12,Hg),(13,Hg),(14,Ht),(15,Ht),(21,Hg),(22,Hg),(23,Hg),(24,Ht),(25,Ht)] [100] [] 2 [.bool true] [] zG (ac wH (ac wH (ac wH (ac wH (ac wH (ac wH (ac vK (ac vK (ac vK (ac vK (ac vK (ac wH (ac vK (ac wH (ar true (ar true (ar true (ar true (ac zBg (ac zBg (ac zBg (ar true (ac zBg (ar true an)))))))))))))))))))))))) ?_
     exact ⟨rfl,(sw [] [] [.a 100 (.bool (r_1.1.m&&(bif decide (e_1.M<r_1.1.mLeast) then ((e_1.Kind != (9:Int))||(e_1.N==(2:Int))) else (decide (e_1.M>r_1.1.mMost)&&((e_1.Kind != (9:Int))||(e_1.N==(2:Int)))))))] [] (ac (congrArg AV.bool (uP wH (ctr vK (ort zBg))):(.bool true:AV)=.bool (r_1.1.m&&(bif decide (e_1.M<r_1.1.mLeast) then ((e_1.Kind != (9:Int))||(e_1.N==(2:Int))) else (decide (e_1.M>r_1.1.mMost)&&((e_1.Kind != (9:Int))||(e_1.N==(2:Int))))))) an))⟩
    ·refine rg [(9,Hg),(10,Hg),(11,Hg),(12,Hg),(13,Hg),(14,Ht),(15,Ht),(24,Hf),(25,Ht)] [100] [] 2 [.bool (e_1.N==(2:Int))] [] zG (ac wH (ac wH (ac wH (ac wH (ac wH (ac wH (ac vK (ac vK (ac vK (ac vK (ac vK (ac wH (ac vK (ac wH (ar true (ar true (ar true (ar true (ac zBg (ac zBg (ac zBg (ar true (ac zBg (ar true an)))))))))))))))))))))))) ?_
     exact ⟨rfl,(sw [] [] [.a 100 (.bool (r_1.1.m&&(bif decide (e_1.M<r_1.1.mLeast) then ((e_1.Kind != (9:Int))||(e_1.N==(2:Int))) else (decide (e_1.M>r_1.1.mMost)&&((e_1.Kind != (9:Int))||(e_1.N==(2:Int)))))))] [] (ac (congrArg AV.bool (uP wH (ctr vK (orf zBg rfl))):(.bool (e_1.N==(2:Int)):AV)=.bool (r_1.1.m&&(bif decide (e_1.M<r_1.1.mLeast) then ((e_1.Kind != (9:Int))||(e_1.N==(2:Int))) else (decide (e_1.M>r_1.1.mMost)&&((e_1.Kind != (9:Int))||(e_1.N==(2:Int))))))) an))⟩
   ·rcases bft (decide (e_1.M>r_1.1.mMost)) with qC | qC
    ·rcases bft (e_1.Kind != (9:Int)) with zBh | zBh
     ·refine rg [(14,Hf),(15,Ht),(21,Hg),(22,Hg),(23,Hg),(24,Ht),(25,Ht)] [100] [] 2 [.bool true] [] zG (ac wH (ac wH (ac wH (ac wH (ac wH (ac wH (ac vK (ac vK (ac vK (ac vK (ac vK (ac wH (ac vK (ac wH (ac qC (ac qC (ac qC (ac qC (ac zBh (ac zBh (ac zBh (ac qC (ac zBh (ac qC an)))))))))))))))))))))))) ?_
      exact ⟨rfl,(sw [] [] [.a 100 (.bool (r_1.1.m&&(bif decide (e_1.M<r_1.1.mLeast) then ((e_1.Kind != (9:Int))||(e_1.N==(2:Int))) else (decide (e_1.M>r_1.1.mMost)&&((e_1.Kind != (9:Int))||(e_1.N==(2:Int)))))))] [] (ac (congrArg AV.bool (uP wH (cfr vK (uP qC (ort zBh)))):(.bool true:AV)=.bool (r_1.1.m&&(bif decide (e_1.M<r_1.1.mLeast) then ((e_1.Kind != (9:Int))||(e_1.N==(2:Int))) else (decide (e_1.M>r_1.1.mMost)&&((e_1.Kind != (9:Int))||(e_1.N==(2:Int))))))) an))⟩
     ·refine rg [(14,Hf),(15,Ht),(24,Hf),(25,Ht)] [100] [] 2 [.bool (e_1.N==(2:Int))] [] zG (ac wH (ac wH (ac wH (ac wH (ac wH (ac wH (ac vK (ac vK (ac vK (ac vK (ac vK (ac wH (ac vK (ac wH (ac qC (ac qC (ac qC (ac qC (ac zBh (ac zBh (ac zBh (ac qC (ac zBh (ac qC an)))))))))))))))))))))))) ?_
      exact ⟨rfl,(sw [] [] [.a 100 (.bool (r_1.1.m&&(bif decide (e_1.M<r_1.1.mLeast) then ((e_1.Kind != (9:Int))||(e_1.N==(2:Int))) else (decide (e_1.M>r_1.1.mMost)&&((e_1.Kind != (9:Int))||(e_1.N==(2:Int)))))))] [] (ac (congrArg AV.bool (uP wH (cfr vK (uP qC (orf zBh rfl)))):(.bool (e_1.N==(2:Int)):AV)=.bool (r_1.1.m&&(bif decide (e_1.M<r_1.1.mLeast) then ((e_1.Kind != (9:Int))||(e_1.N==(2:Int))) else (decide (e_1.M>r_1.1.mMost)&&((e_1.Kind != (9:Int))||(e_1.N==(2:Int))))))) an))⟩
    ·refine rg [(14,Hf),(15,Ht),(17,Hg),(18,Hg),(19,Hg),(20,Hg),(24,Hg),(25,Hf)] [100] [] 2 [.bool false] [] zG (ac wH (ac wH (ac wH (ac wH (ac wH (ac wH (ac vK (ac vK (ac vK (ac vK (ac vK (ac wH (ac vK (ac wH (ac qC (ac qC (ac qC (ac qC (ac qC (ac qC an)))))))))))))))))))) ?_
     exact ⟨rfl,(sw [] [] [.a 100 (.bool (r_1.1.m&&(bif decide (e_1.M<r_1.1.mLeast) then ((e_1.Kind != (9:Int))||(e_1.N==(2:Int))) else (decide (e_1.M>r_1.1.mMost)&&((e_1.Kind != (9:Int))||(e_1.N==(2:Int)))))))] [] (ac (congrArg AV.bool (uP wH (cfr vK (j7 qC))):(.bool false:AV)=.bool (r_1.1.m&&(bif decide (e_1.M<r_1.1.mLeast) then ((e_1.Kind != (9:Int))||(e_1.N==(2:Int))) else (decide (e_1.M>r_1.1.mMost)&&((e_1.Kind != (9:Int))||(e_1.N==(2:Int))))))) an))⟩
  ·refine rg [(3,Hg),(4,Hg),(5,Hg),(6,Hg),(7,Hg),(8,Hg),(14,Hg),(15,Hf),(17,Hg),(18,Hg),(19,Hg),(20,Hg),(24,Hg),(25,Hf)] [100] [] 2 [.bool false] [] zG (ac wH (ac wH (ac wH (ac wH (ac wH (ac wH (ac wH (ac wH (ac (rfl:false=!true) (ac (rfl:false=!true) (ac (rfl:false=!true) (ac (rfl:false=!true) (ac (rfl:false=!true) (ar false an)))))))))))))) ?_
   exact ⟨rfl,(sw [] [] [.a 100 (.bool (r_1.1.m&&(bif decide (e_1.M<r_1.1.mLeast) then ((e_1.Kind != (9:Int))||(e_1.N==(2:Int))) else (decide (e_1.M>r_1.1.mMost)&&((e_1.Kind != (9:Int))||(e_1.N==(2:Int)))))))] [] (ac (congrArg AV.bool (j7 wH):(.bool false:AV)=.bool (r_1.1.m&&(bif decide (e_1.M<r_1.1.mLeast) then ((e_1.Kind != (9:Int))||(e_1.N==(2:Int))) else (decide (e_1.M>r_1.1.mMost)&&((e_1.Kind != (9:Int))||(e_1.N==(2:Int))))))) an))⟩
 refine cd 100 (r_1.1.m&&(bif decide (e_1.M<r_1.1.mLeast) then ((e_1.Kind != (9:Int))||(e_1.N==(2:Int))) else (decide (e_1.M>r_1.1.mMost)&&((e_1.Kind != (9:Int))||(e_1.N==(2:Int)))))) ?_ ?_
 ·intro g_6;replace h:=zP g_6 h
  refine sr [] [2] [] 0 [Ii 2] [] zG an ?_
  refine rt ?_
  cases h
  exact ⟨.inr rfl,Nat.le_of_ble_eq_true rfl,by kernel_rfl⟩
 intro g_6;replace h:=zO g_6 h
 refine sk ?_
 refine sr [] [2] [] 0 [Ii 0] [] zG an ?_
 refine rt ?_
 cases h
 exact ⟨.inr rfl,Nat.le_of_ble_eq_true rfl,by kernel_rfl⟩
theorem zFr (F:Nat) (l_1:List (zK)) (r:Int) (h:kQ F l_1=some r):zW prog 61 [] [] [.sl false 6 (Mp zD l_1)] [] (Ii r):=by
 refine yA (fn:=Go.Proofs.Try.f61) (code:=xC Go.Proofs.Try.f61) (by kernel_rfl) (by kernel_rfl) (Nat.le_of_ble_eq_true (by kernel_rfl)) ?_
 unfold kQ at h
 refine sr [] [0] [] 0 [.sl false 6 (Mp zD l_1)] [] zG an ?_
 refine sq ?_
 refine sr [(1,{ n:=(l_1).length })] [0,6,7,8] [] 0 [.sl false 6 (Mp zD l_1),.sl false 6 (Mp zD l_1),Ii (lN (l_1)),Ii 0] [] zG (ac (z9 _:((Mp zD l_1)).length=(l_1).length) an) ?_
 obtain ⟨o_1,h_1,h⟩:=bind_some h
 refine wK (K1:=(fun e st'=>match o_1 with | (.inl q0)=>e=.normal∧Sub 0 st' (mk [] [] 0) | (.inr q1)=>e=.ret∧uF prog Go.Proofs.Try.f61 0 [] (Ii q1) st')) ?_ ?_
 ·replace h:=h_1
  refine yC (id:=0) (by kernel_rfl) ?_
  refine wk [] [] [.s 0,.s 6,.s 7,.s 8] [] [(0,.sl false 6 (Mp zD l_1)),(6,.sl false 6 (Mp zD l_1)),(7,Ii (lN (l_1))),(8,Ii 0)] [] an ?_
  refine xH (fun n st=>∃ (v_1:Int),st=mk [(0,.sl false 6 (Mp zD l_1)),(6,.sl false 6 (Mp zD l_1)),(7,Ii (lN (l_1))),(8,Ii v_1)] [] 0∧t7 F l_1 n v_1=some o_1) F (by kernel_rfl) ⟨_,rfl,h⟩ ?_ ?_
  ·rintro _ ⟨_,_,h⟩;exact xX (h:(none:Option (Unit⊕Int))=some o_1)
  rintro n_1 _ ⟨v_1,rfl,h⟩
  replace h:tF F l_1 (t7 F l_1 n_1) v_1=some o_1:=h
  unfold tF at h
  refine sr [] [0,6,7,8,9] [] 0 [.sl false 6 (Mp zD l_1),.sl false 6 (Mp zD l_1),Ii (lN (l_1)),Ii v_1,.bool (decide (v_1<(lN (l_1))))] [] zG an ?_
  refine sq ?_
  refine cd 9 (decide (v_1<(lN (l_1)))) ?_ ?_
  rotate_left
  ·intro g_1;replace h:=zO g_1 h
   refine xS (id:=0) (by kernel_rfl) ?_
   cases h
   exact ⟨rfl,(sw [] [] [] [] an)⟩
  intro g_1;replace h:=zP g_1 h
  refine sk ?_
  refine sq ?_
  refine yC (id:=1) (by kernel_rfl) ?_
  refine sq ?_
  obtain ⟨x_1,h_2,h⟩:=bind_some h
  refine rg [(1,{ av:=zD x_1 }),(3,{ id:=0 })] [0,3,4,6,7,8] [0] 1 [.sl false 6 (Mp zD l_1),Ii v_1,Pp 0,.sl false 6 (Mp zD l_1),Ii (lN (l_1)),Ii v_1] [Vb 42 (zU x_1)] zG (ac (yP h_2:xG (Mp zD l_1) v_1=some (zD x_1)) an) ?_
  refine sq ?_
  refine sq ?_
  obtain ⟨r_1,h_3,h⟩:=bind_some h
  refine rg [(1,{ av:=Ii r_1,l:=[zD x_1] })] [0,3,4,5,6,7,8] [0] 1 [.sl false 6 (Mp zD l_1),Ii v_1,Pp 0,Ii r_1,.sl false 6 (Mp zD l_1),Ii (lN (l_1)),Ii v_1] [Vb 42 (zU x_1)] zG (ar ([zD x_1]:List AV) (ac (rfl:([]:List zT)=[]) (ac (zHi F x_1 r_1 h_3:zW prog 74 [] [] [zD x_1] [] (Ii r_1)) an))) ?_
  refine sr [] [0,3,4,5,6,7,8,16] [0] 1 [.sl false 6 (Mp zD l_1),Ii v_1,Pp 0,Ii r_1,.sl false 6 (Mp zD l_1),Ii (lN (l_1)),Ii v_1,.bool (r_1 != (0:Int))] [Vb 42 (zU x_1)] zG an ?_
  refine cd 16 (r_1 != (0:Int)) ?_ ?_
  ·intro g_2;replace h:=zP g_2 h
   refine sr [] [2] [] 1 [Ii r_1] [] zG an ?_
   refine rt ?_
   cases h
   exact ⟨rfl,Nat.le_of_ble_eq_true rfl,by kernel_rfl⟩
  intro g_2;replace h:=zO g_2 h
  refine sk ?_
  refine sq ?_
  obtain ⟨p_1,h_5,h⟩:=bind_some h
  refine y9 (mk [(0,.sl false 6 (Mp zD l_1)),(6,.sl false 6 (Mp zD l_1)),(7,Ii (lN (l_1))),(8,Ii v_1),(30,.bool p_1)] [] 0) ?_ ?_
  ·replace h:=h_5
   rcases bft (decide (v_1>(0:Int))) with zV | zV
   ·replace h:=zP zV h
    obtain ⟨x_2,h_4,h⟩:=bind_some h
    refine rg [(8,{ av:=zD x_2 }),(12,Ht)] [0,6,7,8,21,22,23,24,25,26,27,28,29,30] [0] 1 [.sl false 6 (Mp zD l_1),.sl false 6 (Mp zD l_1),Ii (lN (l_1)),Ii v_1,Pp 0,Ii x_1.At,.sl false 6 (Mp zD l_1),Ii v_1,Ii (zR (v_1 - (1:Int))),.ref (zD x_2),.ref (Ii x_2.At),Ii x_2.At,.bool (decide (x_1.At<x_2.At)),.bool (decide (x_1.At<x_2.At))] [Vb 42 (zU x_1)] zG (ac zV (ac zV (ac zV (ac zV (ac zV (ac zV (ac (yP h_4:xG (Mp zD l_1) (zR (v_1 - (1:Int)))=some (zD x_2)) (ac zV (ac zV (ac zV (ac zV an))))))))))) ?_
    cases h
    exact ⟨rfl,(sw [] [] [.s 0,.s 6,.s 7,.s 8,.s 30] [] an)⟩
   ·replace h:=zO zV h
    refine rg [(3,Hg),(4,Hg),(5,Hg),(6,Hg),(7,Hg),(8,Hg),(9,Hg),(10,Hg),(11,Hg),(12,Hf)] [0,6,7,8,21,22,23,24,25,26,27,28,29,30] [] 1 [.sl false 6 (Mp zD l_1),.sl false 6 (Mp zD l_1),Ii (lN (l_1)),Ii v_1,.tuple [],.tuple [],.tuple [],.tuple [],.tuple [],.tuple [],.tuple [],.tuple [],.tuple [],.bool false] [] zG (ac zV (ac zV (ac zV (ac zV (ac zV (ac zV (ac zV (ac zV (ac zV (ac zV an)))))))))) ?_
    cases h
    exact ⟨rfl,(sw [] [] [.s 0,.s 6,.s 7,.s 8,.s 30] [] an)⟩
  refine cd 30 p_1 ?_ ?_
  rotate_left
  ·intro g_3;replace h:=zO g_3 h
   refine sk ?_
   refine rg [] [0,6,7,8] [] 0 [.sl false 6 (Mp zD l_1),.sl false 6 (Mp zD l_1),Ii (lN (l_1)),Ii (zR (v_1+(1:Int)))] [] zG an ?_
   exact ⟨_,(sw [] [] [.s 0,.s 6,.s 7,.s 8] [] an),_,rfl,h⟩
  intro g_3;replace h:=zP g_3 h
  refine sr [] [2] [] 0 [Ii 11] [] zG an ?_
  refine rt ?_
  cases h
  exact ⟨rfl,Nat.le_of_ble_eq_true rfl,by kernel_rfl⟩
 intro e st1 hk
 rcases o_1 with q_1 | q_2
 rotate_left
 ·obtain ⟨rfl,hf⟩:=hk
  cases h
  exact ⟨st1,Sub.refl _ _,.inr rfl,hf⟩
 obtain ⟨rfl,hs⟩:=hk
 refine ⟨_,hs,?_⟩
 refine sr [] [2] [] 0 [Ii 0] [] zG an ?_
 refine rt ?_
 cases h
 exact ⟨.inr rfl,Nat.le_of_ble_eq_true rfl,by kernel_rfl⟩
theorem zGE (F:Nat) (p_1:zB) (r:Int) (h:nJ F p_1=some r):zW prog 43 [] [] [zA p_1] [] (Ii r):=by
 refine yA (fn:=Go.Proofs.Try.f43) (code:=xC Go.Proofs.Try.f43) (by kernel_rfl) (by kernel_rfl) (Nat.le_of_ble_eq_true (by kernel_rfl)) ?_
 unfold nJ at h
 refine sr [(0,{ id:=0 })] [1] [0] 1 [Pp 0] [Vb 59 (zZ p_1)] zG an ?_
 refine sq ?_
 refine sr [(6,{ id:=1 })] [1,11,12,13] [0,1] 2 [Pp 0,.own 1 3,Ii ((3:Nat):Int),Ii 0] [Vb 59 (zZ p_1),Rb 3 1 (Mi ([p_1.Thread,p_1.Serial,p_1.Lost]:List Int))] zG an ?_
 obtain ⟨o_1,h_1,h⟩:=bind_some h
 refine wK (K1:=(fun e st'=>match o_1 with | (.inl q0)=>e=.normal∧Sub 0 st' (mk [(1,Pp 0)] [(0,Vb 59 (zZ p_1))] 1) | (.inr q1)=>e=.ret∧uF prog Go.Proofs.Try.f43 0 [] (Ii q1) st')) ?_ ?_
 ·replace h:=h_1
  refine yC (id:=0) (by kernel_rfl) ?_
  refine wk [0,1] [] [.s 1,.a 11 (.own 1 ((([p_1.Thread,p_1.Serial,p_1.Lost]:List Int)).length)),.s 12,.s 13] [.s 0,.s 1] [(1,Pp 0),(11,.own 1 ((([p_1.Thread,p_1.Serial,p_1.Lost]:List Int)).length)),(12,Ii ((3:Nat):Int)),(13,Ii 0)] [(0,Vb 59 (zZ p_1)),(1,Rb 3 1 (Mi ([p_1.Thread,p_1.Serial,p_1.Lost]:List Int)))] (ac (congrArg (AV.own _) (by first | (simp;done) | (simp;omega)):(.own 1 3:AV)=.own 1 ((([p_1.Thread,p_1.Serial,p_1.Lost]:List Int)).length)) an) ?_
  refine xH (fun n st=>∃ (v_1:Int),st=mk [(1,Pp 0),(11,.own 1 ((([p_1.Thread,p_1.Serial,p_1.Lost]:List Int)).length)),(12,Ii ((3:Nat):Int)),(13,Ii v_1)] [(0,Vb 59 (zZ p_1)),(1,Rb 3 1 (Mi ([p_1.Thread,p_1.Serial,p_1.Lost]:List Int)))] 2∧jS F p_1 n v_1=some o_1) F (by kernel_rfl) ⟨_,rfl,h⟩ ?_ ?_
  ·rintro _ ⟨_,_,h⟩;exact xX (h:(none:Option (Unit⊕Int))=some o_1)
  rintro n_1 _ ⟨v_1,rfl,h⟩
  replace h:vB F p_1 (jS F p_1 n_1) v_1=some o_1:=h
  unfold vB at h
  refine sr [] [1,11,12,13,14] [0,1] 2 [Pp 0,.own 1 ((([p_1.Thread,p_1.Serial,p_1.Lost]:List Int)).length),Ii ((3:Nat):Int),Ii v_1,.bool (decide (v_1<((3:Nat):Int)))] [Vb 59 (zZ p_1),Rb 3 1 (Mi ([p_1.Thread,p_1.Serial,p_1.Lost]:List Int))] zG an ?_
  refine sq ?_
  refine cd 14 (decide (v_1<((3:Nat):Int))) ?_ ?_
  rotate_left
  ·intro g_1;replace h:=zO g_1 h
   refine xS (id:=0) (by kernel_rfl) ?_
   cases h
   exact ⟨rfl,(sw [0] [] [.s 1] [.s 0] an)⟩
  intro g_1;replace h:=zP g_1 h
  refine sk ?_
  refine sq ?_
  refine yC (id:=1) (by kernel_rfl) ?_
  refine sq ?_
  obtain ⟨x_1,h_2,h⟩:=bind_some h
  refine rg [(1,{ av:=Ii x_1 })] [1,4,11,12,13] [0,1] 2 [Pp 0,Ii x_1,.own 1 ((([p_1.Thread,p_1.Serial,p_1.Lost]:List Int)).length),Ii ((3:Nat):Int),Ii v_1] [Vb 59 (zZ p_1),Rb 3 1 (Mi ([p_1.Thread,p_1.Serial,p_1.Lost]:List Int))] zG (ac (zBr h_2:(0:Int)≤v_1) (ac (by first | (simp;done) | simpa using zBn h_2:v_1<(((([p_1.Thread,p_1.Serial,p_1.Lost]:List Int)).length:Nat):Int)) (ac (zCt h_2:(Mi ([p_1.Thread,p_1.Serial,p_1.Lost]:List Int))[(v_1).toNat]?=some (Ii x_1)) an))) ?_
  refine sq ?_
  refine y9 (mk [(1,Pp 0),(11,.own 1 ((([p_1.Thread,p_1.Serial,p_1.Lost]:List Int)).length)),(12,Ii ((3:Nat):Int)),(13,Ii v_1),(22,.bool (decide (x_1<(0:Int))||decide (x_1>(1000000000000000:Int))))] [(0,Vb 59 (zZ p_1)),(1,Rb 3 1 (Mi ([p_1.Thread,p_1.Serial,p_1.Lost]:List Int)))] 2) ?_ ?_
  ·rcases bft (decide (x_1<(0:Int))) with zV | zV
   ·refine rg [(3,Hg),(4,Hg),(5,Ht)] [1,11,12,13,20,21,22] [0,1] 2 [Pp 0,.own 1 ((([p_1.Thread,p_1.Serial,p_1.Lost]:List Int)).length),Ii ((3:Nat):Int),Ii v_1,.tuple [],.tuple [],.bool true] [Vb 59 (zZ p_1),Rb 3 1 (Mi ([p_1.Thread,p_1.Serial,p_1.Lost]:List Int))] zG (ac zV (ac zV (ac zV an))) ?_
    exact ⟨rfl,(sw [0,1] [] [.s 1,.s 11,.s 12,.s 13,.a 22 (.bool (decide (x_1<(0:Int))||decide (x_1>(1000000000000000:Int))))] [.s 0,.s 1] (ac (congrArg AV.bool (ort zV):(.bool true:AV)=.bool (decide (x_1<(0:Int))||decide (x_1>(1000000000000000:Int)))) an))⟩
   ·refine rg [(5,Hf)] [1,11,12,13,20,21,22] [0,1] 2 [Pp 0,.own 1 ((([p_1.Thread,p_1.Serial,p_1.Lost]:List Int)).length),Ii ((3:Nat):Int),Ii v_1,Ii x_1,.bool (decide (x_1>(1000000000000000:Int))),.bool (decide (x_1>(1000000000000000:Int)))] [Vb 59 (zZ p_1),Rb 3 1 (Mi ([p_1.Thread,p_1.Serial,p_1.Lost]:List Int))] zG (ac zV (ac zV (ac zV an))) ?_
    exact ⟨rfl,(sw [0,1] [] [.s 1,.s 11,.s 12,.s 13,.a 22 (.bool (decide (x_1<(0:Int))||decide (x_1>(1000000000000000:Int))))] [.s 0,.s 1] (ac (congrArg AV.bool (orf zV rfl):(.bool (decide (x_1>(1000000000000000:Int))):AV)=.bool (decide (x_1<(0:Int))||decide (x_1>(1000000000000000:Int)))) an))⟩
  refine cd 22 (decide (x_1<(0:Int))||decide (x_1>(1000000000000000:Int))) ?_ ?_
  rotate_left
  ·intro g_2;replace h:=zO g_2 h
   refine sk ?_
   refine rg [] [1,11,12,13] [0,1] 2 [Pp 0,.own 1 ((([p_1.Thread,p_1.Serial,p_1.Lost]:List Int)).length),Ii ((3:Nat):Int),Ii (zR (v_1+(1:Int)))] [Vb 59 (zZ p_1),Rb 3 1 (Mi ([p_1.Thread,p_1.Serial,p_1.Lost]:List Int))] zG an ?_
   exact ⟨_,(sw [0,1] [] [.s 1,.s 11,.s 12,.s 13] [.s 0,.s 1] an),_,rfl,h⟩
  intro g_2;replace h:=zP g_2 h
  refine sr [] [2] [] 2 [Ii 2] [] zG an ?_
  refine rt ?_
  cases h
  exact ⟨rfl,Nat.le_of_ble_eq_true rfl,by kernel_rfl⟩
 intro e st1 hk
 rcases o_1 with q_1 | q_2
 rotate_left
 ·obtain ⟨rfl,hf⟩:=hk
  cases h
  exact ⟨st1,Sub.refl _ _,.inr rfl,hf⟩
 obtain ⟨rfl,hs⟩:=hk
 refine ⟨_,hs,?_⟩
 refine sq ?_
 refine yC (id:=2) (by kernel_rfl) ?_
 refine sq ?_
 refine sr [] [1,24] [0] 1 [Pp 0,.bool (decide (p_1.Lost>p_1.Serial))] [Vb 59 (zZ p_1)] zG an ?_
 obtain ⟨o_2,h_3,h⟩:=bind_some h
 refine y9 (mk [(1,Pp 0),(24,.bool o_2)] [(0,Vb 59 (zZ p_1))] 1) ?_ ?_
 ·replace h:=h_3
  refine cd 24 (decide (p_1.Lost>p_1.Serial)) ?_ ?_
  ·intro g_3;replace h:=zP g_3 h
   refine sk ?_
   cases h
   exact ⟨rfl,(sw [0] [] [.s 1,.s 24] [.s 0] an)⟩
  intro g_3;replace h:=zO g_3 h
  refine rg [(4,{ n:=(p_1.Events).length })] [1,24] [0] 1 [Pp 0,.bool (decide ((zR (p_1.Serial+(lN (p_1.Events))))>(1000000000000000:Int)))] [Vb 59 (zZ p_1)] zG (ac (z9 _:((Mp zD p_1.Events)).length=(p_1.Events).length) an) ?_
  cases h
  exact ⟨rfl,(sw [0] [] [.s 1,.s 24] [.s 0] an)⟩
 refine cd 24 o_2 ?_ ?_
 ·intro g_4;replace h:=zP g_4 h
  refine sr [] [2] [] 1 [Ii 2] [] zG an ?_
  refine rt ?_
  cases h
  exact ⟨.inr rfl,Nat.le_of_ble_eq_true rfl,by kernel_rfl⟩
 intro g_4;replace h:=zO g_4 h
 refine sr [(2,{ n:=(p_1.Events).length })] [1,37] [0] 1 [Pp 0,.bool ((lN (p_1.Events))==(0:Int))] [Vb 59 (zZ p_1)] zG (ac (z9 _:((Mp zD p_1.Events)).length=(p_1.Events).length) an) ?_
 refine cd 37 ((lN (p_1.Events))==(0:Int)) ?_ ?_
 ·intro g_5;replace h:=zP g_5 h
  refine sr [] [2] [] 1 [Ii 8] [] zG an ?_
  refine rt ?_
  cases h
  exact ⟨.inr rfl,Nat.le_of_ble_eq_true rfl,by kernel_rfl⟩
 intro g_5;replace h:=zO g_5 h
 refine sr [(2,{ n:=(p_1.Events).length })] [1,42] [0] 1 [Pp 0,.bool (decide ((lN (p_1.Events))>(1000:Int)))] [Vb 59 (zZ p_1)] zG (ac (z9 _:((Mp zD p_1.Events)).length=(p_1.Events).length) an) ?_
 refine cd 42 (decide ((lN (p_1.Events))>(1000:Int))) ?_ ?_
 ·intro g_6;replace h:=zP g_6 h
  refine sr [] [2] [] 1 [Ii 7] [] zG an ?_
  refine rt ?_
  cases h
  exact ⟨.inr rfl,Nat.le_of_ble_eq_true rfl,by kernel_rfl⟩
 intro g_6;replace h:=zO g_6 h
 refine sk ?_
 refine sq ?_
 obtain ⟨r_1,h_4,h⟩:=bind_some h
 refine rg [(2,{ av:=Ii r_1,l:=[.sl false 6 (Mp zD p_1.Events)] })] [2] [] 1 [Ii r_1] [] zG (ar ([.sl false 6 (Mp zD p_1.Events)]:List AV) (ac (rfl:([]:List zT)=[]) (ac (zFr F p_1.Events r_1 h_4:zW prog 61 [] [] [.sl false 6 (Mp zD p_1.Events)] [] (Ii r_1)) an))) ?_
 refine rt ?_
 cases h
 exact ⟨.inr rfl,Nat.le_of_ble_eq_true rfl,by kernel_rfl⟩
theorem zEs (t_1:xL) (p_1:zB) (r:Bool) (h:jB t_1 p_1=some r):zW prog 51 [(.var 100 (xQ t_1))] [] [Pp 0,zA p_1] [(.var 100 (xQ t_1))] (.bool r):=by
 refine yA (fn:=Go.Proofs.Try.f51) (code:=xC Go.Proofs.Try.f51) (by kernel_rfl) (by kernel_rfl) (Nat.le_of_ble_eq_true (by kernel_rfl)) ?_
 unfold jB at h
 refine sr [(0,{ id:=1 })] [0,3] [0,1] 2 [Pp 0,Pp 1] [Vb 100 (xQ t_1),Vb 59 (zZ p_1)] zG an ?_
 refine sq ?_
 obtain ⟨p_2,h_2,h⟩:=bind_some h
 refine y9 (mk [(4,.bool p_2)] [(0,Vb 100 (xQ t_1))] 1) ?_ ?_
 ·replace h:=h_2
  rcases bft ((zR (p_1.Serial - p_1.Lost))==t_1.next) with zH | zH
  ·replace h:=zP zH h
   obtain ⟨x_1,h_1,h⟩:=bind_some h
   refine rg [(13,{ av:=zD x_1 }),(21,Ht)] [4] [0] 2 [.bool (decide (x_1.At≥t_1.last))] [Vb 100 (xQ t_1)] zG (ac zH (ac zH (ac zH (ac (yP h_1:xG (Mp zD p_1.Events) (0:Int)=some (zD x_1)) (ac zH (ac zH (ac zH (ac zH (ac zH (ac zH (ac zH (ac zH an)))))))))))) ?_
   cases h
   exact ⟨rfl,(sw [0] [] [.s 4] [.s 0] an)⟩
  ·replace h:=zO zH h
   refine rg [(11,Hg),(12,Hg),(13,Hg),(14,Hg),(15,Hg),(16,Hg),(17,Hg),(18,Hg),(19,Hg),(20,Hg),(21,Hf)] [4] [0] 2 [.bool false] [Vb 100 (xQ t_1)] zG (ac zH (ac zH (ac zH (ac zH (ac zH (ac zH (ac zH (ac zH (ac zH (ac zH (ac zH an))))))))))) ?_
   cases h
   exact ⟨rfl,(sw [0] [] [.s 4] [.s 0] an)⟩
 refine wk [0] [] [.s 4] [.s 0] [(4,.bool p_2)] [(0,Vb 100 (xQ t_1))] an ?_
 refine rt ?_
 cases h
 exact ⟨.inr rfl,Nat.le_of_ble_eq_true rfl,by kernel_rfl⟩
theorem zEu (t_1:xL) (p_1:zB) (r:xL) (h:jI t_1 p_1=some r):zW prog 52 [(.var 100 (xQ t_1))] [] [Pp 0,zA p_1] [(.var 100 (xQ r))] (.tuple []):=by
 refine yA (fn:=Go.Proofs.Try.f52) (code:=xC Go.Proofs.Try.f52) (by kernel_rfl) (by kernel_rfl) (Nat.le_of_ble_eq_true (by kernel_rfl)) ?_
 unfold jI at h
 refine sr [(0,{ id:=1 })] [0,3] [0,1] 2 [Pp 0,Pp 1] [Vb 100 (xQ t_1),Vb 59 (zZ p_1)] zG an ?_
 refine sr [(5,{ n:=(p_1.Events).length })] [0,3] [0,1] 2 [Pp 0,Pp 1] [Vb 100 [Ii (zR (p_1.Serial+(lN (p_1.Events)))),Ii t_1.last],Vb 59 (zZ p_1)] zG (ac (z9 _:((Mp zD p_1.Events)).length=(p_1.Events).length) an) ?_
 obtain ⟨x_1,h_1,h⟩:=bind_some h
 refine rg [(5,{ n:=(p_1.Events).length }),(7,{ av:=zD x_1 })] [] [0] 2 [] [Vb 100 [Ii (zR (p_1.Serial+(lN (p_1.Events)))),Ii x_1.At]] zG (ac (z9 _:((Mp zD p_1.Events)).length=(p_1.Events).length) (ac (yP h_1:xG (Mp zD p_1.Events) (zR ((lN (p_1.Events)) - (1:Int)))=some (zD x_1)) an)) ?_
 cases h
 exact ⟨.inl rfl,Nat.le_of_ble_eq_true rfl,by kernel_rfl⟩
theorem zI4 (F:Nat) (h_1:zL) (l_1:List (zB)) (r:Int) (h:zB2 F h_1 l_1=some r):zW prog 28 [] [] [yN h_1,.sl false 4 (Mp zA l_1)] [] (Ii r):=by
 refine yA (fn:=Go.Proofs.Try.f28) (code:=xC Go.Proofs.Try.f28) (by kernel_rfl) (by kernel_rfl) (Nat.le_of_ble_eq_true (by kernel_rfl)) ?_
 unfold zB2 at h
 refine sr [(0,{ id:=0 })] [1,2] [0] 1 [.sl false 4 (Mp zA l_1),Pp 0] [Vb 26 (zM h_1)] zG an ?_
 refine sr [(0,{ id:=1,mag:=false,mks:=[.int .i64] })] [1,2,5] [0,1] 2 [.sl false 4 (Mp zA l_1),Pp 0,.mp 1] [Vb 26 (zM h_1),.live (.map false [.int .i64] [])] zG an ?_
 refine zKf 1 2 (ag:=false) (ks:=[.int .i64]) (.pm 100) (by kernel_rfl) (by kernel_rfl) (zN2 (by kernel_rfl)) ?_
 intro b_1
 refine wk [0,2] [] [.s 1,.s 2,.s 5] [.s 0,.s 1] [(1,.sl false 4 (Mp zA l_1)),(2,Pp 0),(5,.rawm b_1)] [(0,Vb 26 (zM h_1)),(1,.live (.fam (.cl b_1 false [.int .i64] (.pm 100) (List.map (mpE (AV.int .i64) y1) ([]:List (Int×xL))))))] an ?_
 refine sq ?_
 refine sr [(2,{ n:=(h_1.Threads).length })] [1,5,16,17,18] [1] 2 [.sl false 4 (Mp zA l_1),.rawm b_1,.sl false 3 (Mp zF h_1.Threads),Ii (lN (h_1.Threads)),Ii 0] [.live (.fam (.cl b_1 false [.int .i64] (.pm 100) (List.map (mpE (AV.int .i64) y1) ([]:List (Int×xL)))))] zG (ac (z9 _:((Mp zF h_1.Threads)).length=(h_1.Threads).length) an) ?_
 obtain ⟨o_1,h_2,h⟩:=bind_some h
 refine y9 (mk [(1,.sl false 4 (Mp zA l_1)),(5,.rawm b_1)] [(0,.live (.fam (.cl b_1 false [.int .i64] (.pm 100) (List.map (mpE (AV.int .i64) y1) o_1))))] 1) ?_ ?_
 ·replace h:=h_2
  refine yC (id:=0) (by kernel_rfl) ?_
  refine wk [1] [] [.s 1,.s 5,.s 16,.s 17,.s 18] [.s 0] [(1,.sl false 4 (Mp zA l_1)),(5,.rawm b_1),(16,.sl false 3 (Mp zF h_1.Threads)),(17,Ii (lN (h_1.Threads))),(18,Ii 0)] [(0,.live (.fam (.cl b_1 false [.int .i64] (.pm 100) (List.map (mpE (AV.int .i64) y1) ([]:List (Int×xL))))))] an ?_
  refine xH (fun n st=>∃ (v_1:Int),∃ (zE:List (Int×xL)),st=mk [(1,.sl false 4 (Mp zA l_1)),(5,.rawm b_1),(16,.sl false 3 (Mp zF h_1.Threads)),(17,Ii (lN (h_1.Threads))),(18,Ii v_1)] [(0,.live (.fam (.cl b_1 false [.int .i64] (.pm 100) (List.map (mpE (AV.int .i64) y1) zE))))] 1∧qI F h_1 n v_1 zE=some o_1) F (by kernel_rfl) ⟨_,_,rfl,h⟩ ?_ ?_
  ·rintro _ ⟨_,_,_,h⟩;exact xX (h:(none:Option (List (Int×xL)))=some o_1)
  rintro n_1 _ ⟨v_1,zE,rfl,h⟩
  replace h:qX F h_1 (qI F h_1 n_1) v_1 zE=some o_1:=h
  unfold qX at h
  refine sr [] [1,5,16,17,18,19] [0] 1 [.sl false 4 (Mp zA l_1),.rawm b_1,.sl false 3 (Mp zF h_1.Threads),Ii (lN (h_1.Threads)),Ii v_1,.bool (decide (v_1<(lN (h_1.Threads))))] [.live (.fam (.cl b_1 false [.int .i64] (.pm 100) (List.map (mpE (AV.int .i64) y1) zE)))] zG an ?_
  refine sq ?_
  refine cd 19 (decide (v_1<(lN (h_1.Threads)))) ?_ ?_
  rotate_left
  ·intro g_1;replace h:=zO g_1 h
   refine xS (id:=0) (by kernel_rfl) ?_
   cases h
   exact ⟨rfl,(sw [0] [] [.s 1,.s 5] [.s 0] an)⟩
  intro g_1;replace h:=zP g_1 h
  refine sk ?_
  refine sq ?_
  refine yC (id:=1) (by kernel_rfl) ?_
  refine sq ?_
  obtain ⟨x_1,h_3,h⟩:=bind_some h
  refine rg [(0,{ av:=zF x_1 }),(2,{ id:=1 })] [1,5,7,16,17,18] [0,1] 2 [.sl false 4 (Mp zA l_1),.rawm b_1,Pp 1,.sl false 3 (Mp zF h_1.Threads),Ii (lN (h_1.Threads)),Ii v_1] [.live (.fam (.cl b_1 false [.int .i64] (.pm 100) (List.map (mpE (AV.int .i64) y1) zE))),Vb 66 (z8 x_1)] zG (ac (yP h_3:xG (Mp zF h_1.Threads) v_1=some (zF x_1)) an) ?_
  obtain ⟨_,h_4,h⟩:=bind_some h;replace h_4:=wN h_4
  refine rg [(4,{ id:=2 }),(5,{ av:=(.agg [Ii 0,Ii 0]),dep:=true,es:=(List.map (mpE (AV.int .i64) y1) (uK zE x_1.Id (⟨(0:Int),(0:Int)⟩:xL))),ids:=[2],n:=0,x:=true })] [1,5,16,17,18] [0] 3 [.sl false 4 (Mp zA l_1),.rawm b_1,.sl false 3 (Mp zF h_1.Threads),Ii (lN (h_1.Threads)),Ii v_1] [.live (.fam (.cl b_1 false [.int .i64] (.pm 100) (List.map (mpE (AV.int .i64) y1) (uK zE x_1.Id (⟨(0:Int),(0:Int)⟩:xL)))))] zG (ar b_1 (ac (trivial:True) (ac (zAS:vT prog 3 false [.int .i64]) (ac (zDW (f:=(AV.int .i64)) (g:=y1) zAN zE x_1.Id (⟨(0:Int),(0:Int)⟩:xL):zCO (List.map (mpE (AV.int .i64) y1) zE) (Ii x_1.Id) (.agg [Ii 0,Ii 0]) (List.map (mpE (AV.int .i64) y1) (uK zE x_1.Id (⟨(0:Int),(0:Int)⟩:xL)))) (ac (zHb (l:=zE) h_4:(List.map (mpE (AV.int .i64) y1) zE:List (AV×AV)).length<maxLen) (ac (rfl:(Pp 2:AV)=Pp 2) (ac (rfl:([Vb 100 [Ii 0,Ii 0]]:List zT)=[Vb 100 [Ii 0,Ii 0]]) an))))))) ?_
  refine rg [] [1,5,16,17,18] [0] 3 [.sl false 4 (Mp zA l_1),.rawm b_1,.sl false 3 (Mp zF h_1.Threads),Ii (lN (h_1.Threads)),Ii (zR (v_1+(1:Int)))] [.live (.fam (.cl b_1 false [.int .i64] (.pm 100) (List.map (mpE (AV.int .i64) y1) (uK zE x_1.Id (⟨(0:Int),(0:Int)⟩:xL)))))] zG an ?_
  exact ⟨_,(sw [0] [] [.s 1,.s 5,.s 16,.s 17,.s 18] [.s 0] an),_,_,rfl,h⟩
 refine sr [] [1,5,8] [0] 1 [.sl false 4 (Mp zA l_1),.rawm b_1,Ii 0] [.live (.fam (.cl b_1 false [.int .i64] (.pm 100) (List.map (mpE (AV.int .i64) y1) o_1)))] zG an ?_
 refine sq ?_
 refine sr [(1,{ n:=(l_1).length })] [5,8,28,29,30] [0] 1 [.rawm b_1,Ii 0,.sl false 4 (Mp zA l_1),Ii (lN (l_1)),Ii 0] [.live (.fam (.cl b_1 false [.int .i64] (.pm 100) (List.map (mpE (AV.int .i64) y1) o_1)))] zG (ac (z9 _:((Mp zA l_1)).length=(l_1).length) an) ?_
 obtain ⟨o_2,h_5,h⟩:=bind_some h
 refine wK (K1:=(fun e st'=>match o_2 with | (.inl q0)=>e=.normal∧Sub 0 st' (mk [(8,Ii q0)] [] 0) | (.inr q1)=>e=.ret∧uF prog Go.Proofs.Try.f28 0 [] (Ii q1) st')) ?_ ?_
 ·replace h:=h_5
  refine yC (id:=2) (by kernel_rfl) ?_
  refine wk [0] [] [.s 5,.s 8,.s 28,.s 29,.s 30] [.s 0] [(5,.rawm b_1),(8,Ii 0),(28,.sl false 4 (Mp zA l_1)),(29,Ii (lN (l_1))),(30,Ii 0)] [(0,.live (.fam (.cl b_1 false [.int .i64] (.pm 100) (List.map (mpE (AV.int .i64) y1) o_1))))] an ?_
  refine xH (fun n st=>∃ (v3:Int),∃ (v_2:Int),∃ (z6:List (Int×xL)),st=mk [(5,.rawm b_1),(8,Ii v3),(28,.sl false 4 (Mp zA l_1)),(29,Ii (lN (l_1))),(30,Ii v_2)] [(0,.live (.fam (.cl b_1 false [.int .i64] (.pm 100) (List.map (mpE (AV.int .i64) y1) z6))))] 1∧qN F l_1 n v3 v_2 z6=some o_2) F (by kernel_rfl) ⟨_,_,_,rfl,h⟩ ?_ ?_
  ·rintro _ ⟨_,_,_,_,h⟩;exact xX (h:(none:Option (Int⊕Int))=some o_2)
  rintro n_2 _ ⟨v3,v_2,z6,rfl,h⟩
  replace h:qW F l_1 (qN F l_1 n_2) v3 v_2 z6=some o_2:=h
  unfold qW at h
  refine sr [] [5,8,28,29,30,31] [0] 1 [.rawm b_1,Ii v3,.sl false 4 (Mp zA l_1),Ii (lN (l_1)),Ii v_2,.bool (decide (v_2<(lN (l_1))))] [.live (.fam (.cl b_1 false [.int .i64] (.pm 100) (List.map (mpE (AV.int .i64) y1) z6)))] zG an ?_
  refine sq ?_
  refine cd 31 (decide (v_2<(lN (l_1)))) ?_ ?_
  rotate_left
  ·intro g_2;replace h:=zO g_2 h
   refine xS (id:=2) (by kernel_rfl) ?_
   cases h
   exact ⟨rfl,(sw [] [] [.s 8] [] an)⟩
  intro g_2;replace h:=zP g_2 h
  refine sk ?_
  refine sq ?_
  refine yC (id:=3) (by kernel_rfl) ?_
  refine sq ?_
  obtain ⟨x_2,h_6,h⟩:=bind_some h
  refine rg [(0,{ av:=zA x_2 }),(2,{ id:=1 })] [5,8,10,28,29,30] [0,1] 2 [.rawm b_1,Ii v3,Pp 1,.sl false 4 (Mp zA l_1),Ii (lN (l_1)),Ii v_2] [.live (.fam (.cl b_1 false [.int .i64] (.pm 100) (List.map (mpE (AV.int .i64) y1) z6))),Vb 59 (zZ x_2)] zG (ac (yP h_6:xG (Mp zA l_1) v_2=some (zA x_2)) an) ?_
  refine sq ?_
  refine sq ?_
  obtain ⟨r_1,h_7,h⟩:=bind_some h
  refine rg [(1,{ av:=Ii r_1,l:=[zA x_2] })] [5,8,10,11,28,29,30] [0,1] 2 [.rawm b_1,Ii v3,Pp 1,Ii r_1,.sl false 4 (Mp zA l_1),Ii (lN (l_1)),Ii v_2] [.live (.fam (.cl b_1 false [.int .i64] (.pm 100) (List.map (mpE (AV.int .i64) y1) z6))),Vb 59 (zZ x_2)] zG (ar ([zA x_2]:List AV) (ac (rfl:([]:List zT)=[]) (ac (zGE F x_2 r_1 h_7:zW prog 43 [] [] [zA x_2] [] (Ii r_1)) an))) ?_
  refine sr [] [5,8,10,11,28,29,30,37] [0,1] 2 [.rawm b_1,Ii v3,Pp 1,Ii r_1,.sl false 4 (Mp zA l_1),Ii (lN (l_1)),Ii v_2,.bool (r_1 != (0:Int))] [.live (.fam (.cl b_1 false [.int .i64] (.pm 100) (List.map (mpE (AV.int .i64) y1) z6))),Vb 59 (zZ x_2)] zG an ?_
  refine cd 37 (r_1 != (0:Int)) ?_ ?_
  ·intro g_3;replace h:=zP g_3 h
   refine sr [] [4] [] 2 [Ii r_1] [] zG an ?_
   refine rt ?_
   cases h
   exact ⟨rfl,Nat.le_of_ble_eq_true rfl,by kernel_rfl⟩
  intro g_3;replace h:=zO g_3 h
  refine sk ?_
  refine sq ?_
  rcases zMR (yI z6 x_2.Thread) with h_8 | ⟨x_3,h_8⟩
  ·replace h:=zMt h_8 h
   refine rg [(3,{ dep:=true,g:=false,n:=0,x:=true })] [5,8,10,12,13,28,29,30] [0,1] 2 [.rawm b_1,Ii v3,Pp 1,.nilp,.bool false,.sl false 4 (Mp zA l_1),Ii (lN (l_1)),Ii v_2] [.live (.fam (.cl b_1 false [.int .i64] (.pm 100) (List.map (mpE (AV.int .i64) y1) z6))),Vb 59 (zZ x_2)] zG (ar b_1 (ac (zAS:vT prog 3 false [.int .i64]) (ac (zMD (f:=(AV.int .i64)) (g:=y1) zAN h_8 .junk:kC (List.map (mpE (AV.int .i64) y1) z6) (Ii x_2.Thread) .junk .junk false) an))) ?_
   refine sq ?_
   refine sr [] [5,8,10,12,28,29,30,47] [0,1] 2 [.rawm b_1,Ii v3,Pp 1,.nilp,.sl false 4 (Mp zA l_1),Ii (lN (l_1)),Ii v_2,.bool true] [.live (.fam (.cl b_1 false [.int .i64] (.pm 100) (List.map (mpE (AV.int .i64) y1) z6))),Vb 59 (zZ x_2)] zG an ?_
   refine cd 47 true ?_ ?_
   rotate_left
   ·intro hg;exact Bool.noConfusion (hg)
   intro _
   refine sr [] [4] [] 2 [Ii 5] [] zG an ?_
   refine rt ?_
   cases h
   exact ⟨rfl,Nat.le_of_ble_eq_true rfl,by kernel_rfl⟩
  replace h:=zMy h_8 h
  refine rg [(3,{ av:=(.agg [Ii x_3.next,Ii x_3.last]),dep:=true,id:=2,n:=0,x:=true })] [5,8,10,12,13,28,29,30] [0,1,2] 3 [.rawm b_1,Ii v3,Pp 1,Pp 2,.bool true,.sl false 4 (Mp zA l_1),Ii (lN (l_1)),Ii v_2] [.live (.fam (.opp b_1 false [.int .i64] (.pm 100) (List.map (mpE (AV.int .i64) y1) z6) (Ii x_2.Thread) 2)),Vb 59 (zZ x_2),Vb 100 (xQ x_3)] zG (ar b_1 (ac (zAS:vT prog 3 false [.int .i64]) (ac (zL9 (f:=(AV.int .i64)) (g:=y1) h_8 .junk:kC (List.map (mpE (AV.int .i64) y1) z6) (Ii x_2.Thread) .junk (.agg [Ii x_3.next,Ii x_3.last]) true) an))) ?_
  refine sq ?_
  refine sr [] [5,8,10,12,28,29,30,47] [0,1,2] 3 [.rawm b_1,Ii v3,Pp 1,Pp 2,.sl false 4 (Mp zA l_1),Ii (lN (l_1)),Ii v_2,.bool false] [.live (.fam (.opp b_1 false [.int .i64] (.pm 100) (List.map (mpE (AV.int .i64) y1) z6) (Ii x_2.Thread) 2)),Vb 59 (zZ x_2),Vb 100 (xQ x_3)] zG an ?_
  refine cd 47 false ?_ ?_
  ·intro hg;exact Bool.noConfusion (hg)
  intro _
  refine sk ?_
  refine sq ?_
  refine sq ?_
  obtain ⟨r_2,h_9,h⟩:=bind_some h
  refine rg [(2,{ av:=.bool r_2,ids:=[2],l:=[Pp 0,zA x_2],post:=[(.var 100 (xQ x_3))],pre:=[(.var 100 (xQ x_3))] })] [5,8,10,12,28,29,30,51] [0,1,2] 3 [.rawm b_1,Ii v3,Pp 1,Pp 2,.sl false 4 (Mp zA l_1),Ii (lN (l_1)),Ii v_2,.bool (!r_2)] [.live (.fam (.opp b_1 false [.int .i64] (.pm 100) (List.map (mpE (AV.int .i64) y1) z6) (Ii x_2.Thread) 2)),Vb 59 (zZ x_2),Vb 100 (xQ x_3)] zG (ar ([Pp 2,zA x_2]:List AV) (ac (rfl:([Vb 100 (xQ x_3)]:List zT)=[Vb 100 (xQ x_3)]) (ac (zEs x_3 x_2 r_2 h_9:zW prog 51 [(.var 100 (xQ x_3))] [] [Pp 0,zA x_2] [(.var 100 (xQ x_3))] (.bool r_2)) an))) ?_
  refine cd 51 (!r_2) ?_ ?_
  ·intro g_4;replace h:=zP g_4 h
   refine sr [] [4] [] 3 [Ii 11] [] zG an ?_
   refine rt ?_
   cases h
   exact ⟨rfl,Nat.le_of_ble_eq_true rfl,by kernel_rfl⟩
  intro g_4;replace h:=zO g_4 h
  refine sk ?_
  refine sq ?_
  obtain ⟨r_3,tW,h⟩:=bind_some h
  refine rg [(2,{ av:=.tuple [],ids:=[2],l:=[Pp 0,zA x_2],post:=[(.var 100 (xQ r_3))],pre:=[(.var 100 (xQ x_3))] })] [5,8,10,28,29,30] [0,1,2] 3 [.rawm b_1,Ii v3,Pp 1,.sl false 4 (Mp zA l_1),Ii (lN (l_1)),Ii v_2] [.live (.fam (.opp b_1 false [.int .i64] (.pm 100) (List.map (mpE (AV.int .i64) y1) z6) (Ii x_2.Thread) 2)),Vb 59 (zZ x_2),Vb 100 (xQ r_3)] zG (ar ([Pp 2,zA x_2]:List AV) (ac (rfl:([Vb 100 (xQ x_3)]:List zT)=[Vb 100 (xQ x_3)]) (ac (zEu x_3 x_2 r_3 tW:zW prog 52 [(.var 100 (xQ x_3))] [] [Pp 0,zA x_2] [(.var 100 (xQ r_3))] (.tuple [])) an))) ?_
  refine uI (zMT (f:=.cl b_1 false [.int .i64] (.pm 100) (List.map (mpE (AV.int .i64) y1) (uK z6 x_2.Thread r_3))) 0 2 [Ii r_3.next,Ii r_3.last] (List.map (mpE (AV.int .i64) y1) (uK z6 x_2.Thread r_3)) (by kernel_rfl) (ac (rfl:(Vb 100 (xQ r_3):zT)=Vb 100 (xQ r_3)) (ac (zDW (f:=(AV.int .i64)) (g:=y1) zAN z6 x_2.Thread r_3:zCO (List.map (mpE (AV.int .i64) y1) z6) (Ii x_2.Thread) (.agg [Ii r_3.next,Ii r_3.last]) (List.map (mpE (AV.int .i64) y1) (uK z6 x_2.Thread r_3))) an))) ?_
  refine wk [0,1] [] [.s 5,.s 8,.s 10,.s 28,.s 29,.s 30] [.s 0,.s 1] [(5,.rawm b_1),(8,Ii v3),(10,Pp 1),(28,.sl false 4 (Mp zA l_1)),(29,Ii (lN (l_1))),(30,Ii v_2)] [(0,.live (.fam (.cl b_1 false [.int .i64] (.pm 100) (List.map (mpE (AV.int .i64) y1) (uK z6 x_2.Thread r_3))))),(1,Vb 59 (zZ x_2))] an ?_
  refine rg [(3,{ n:=(x_2.Events).length })] [5,8,28,29,30] [0] 2 [.rawm b_1,Ii (zR (v3+(lN (x_2.Events)))),.sl false 4 (Mp zA l_1),Ii (lN (l_1)),Ii v_2] [.live (.fam (.cl b_1 false [.int .i64] (.pm 100) (List.map (mpE (AV.int .i64) y1) (uK z6 x_2.Thread r_3))))] zG (ac (z9 _:((Mp zD x_2.Events)).length=(x_2.Events).length) an) ?_
  refine rg [] [5,8,28,29,30] [0] 2 [.rawm b_1,Ii (zR (v3+(lN (x_2.Events)))),.sl false 4 (Mp zA l_1),Ii (lN (l_1)),Ii (zR (v_2+(1:Int)))] [.live (.fam (.cl b_1 false [.int .i64] (.pm 100) (List.map (mpE (AV.int .i64) y1) (uK z6 x_2.Thread r_3))))] zG an ?_
  exact ⟨_,(sw [0] [] [.s 5,.s 8,.s 28,.s 29,.s 30] [.s 0] an),_,_,_,rfl,h⟩
 intro e st1 hk
 rcases o_2 with q_1 | q_2
 rotate_left
 ·obtain ⟨rfl,hf⟩:=hk
  cases h
  exact ⟨st1,Sub.refl _ _,.inr rfl,hf⟩
 obtain ⟨rfl,hs⟩:=hk
 refine ⟨_,hs,?_⟩
 refine sq ?_
 refine sr [] [62] [] 0 [.bool (decide (q_1>(20000:Int)))] [] zG an ?_
 refine cd 62 (decide (q_1>(20000:Int))) ?_ ?_
 ·intro g_5;replace h:=zP g_5 h
  refine sr [] [4] [] 0 [Ii 7] [] zG an ?_
  refine rt ?_
  cases h
  exact ⟨.inr rfl,Nat.le_of_ble_eq_true rfl,by kernel_rfl⟩
 intro g_5;replace h:=zO g_5 h
 refine sk ?_
 refine sr [] [4] [] 0 [Ii 0] [] zG an ?_
 refine rt ?_
 cases h
 exact ⟨.inr rfl,Nat.le_of_ble_eq_true rfl,by kernel_rfl⟩
theorem zFP (l:List zB):fzV (yW l)=.sl false 4 (Mp zA l):=(congrArg (AV.sl false 4) (zEV zA l _ rfl)).symm
theorem zGc (l:List zB):zFZ (yW l)∧zEP 4 6 (yW l)=true:=⟨rfl,rfl⟩
theorem zKq (F:Nat) (uE:List (zB)) (events_1:List (zK)) (r:(List (zB))) (h:zCA F uE events_1=some r):zW prog 29 [] [(.rowQ 59 4 (Mp zA (ini uE)) (!(uE).isEmpty) (z5 (lst uE)++[.own 1 ((lst uE).Events).length])),(.row 42 6 (Mp zD (lst uE).Events))] [.own 0 ((uE).length),.sl false 6 (Mp zD events_1)] [(.rowQ 59 4 (Mp zA (ini r)) (!(r).isEmpty) (z5 (lst r)++[.own 1 ((lst r).Events).length])),(.row 42 6 (Mp zD (lst r).Events))] (.own 0 (r).length):=by
 refine zEl (fn:=Go.Proofs.Try.f29) (code:=xC Go.Proofs.Try.f29) (by kernel_rfl) (by kernel_rfl) (Nat.le_of_ble_eq_true (by kernel_rfl)) ?_
 unfold zCA at h
 refine sr [(0,{ id:=2,m:=1 })] [0,1] [0,1] 3 [.own 0 ((uE).length),.sl false 6 (Mp zD events_1)] [.live (.rowQ 59 4 (Mp zA (ini uE)) (!(uE).isEmpty) (z5 (lst uE)++[.own 1 ((lst uE).Events).length])),Rb 42 6 (Mp zD (lst uE).Events)] zG an ?_
 refine sq ?_
 obtain ⟨o_1,h_1,h⟩:=bind_some h
 refine y9 (mk [(0,.own 0 ((o_1).length))] [(0,.live (.rowQ 59 4 (Mp zA (ini o_1)) (!(o_1).isEmpty) (z5 (lst o_1)++[.own 1 ((lst o_1).Events).length]))),(1,Rb 42 6 (Mp zD (lst o_1).Events))] 2) ?_ ?_
 ·replace h:=h_1
  refine yC (id:=0) (by kernel_rfl) ?_
  refine wk [0,1] [] [.s 0,.s 1] [.s 0,.s 1] [(0,.own 0 ((uE).length)),(1,.sl false 6 (Mp zD events_1))] [(0,.live (.rowQ 59 4 (Mp zA (ini uE)) (!(uE).isEmpty) (z5 (lst uE)++[.own 1 ((lst uE).Events).length]))),(1,Rb 42 6 (Mp zD (lst uE).Events))] an ?_
  refine xH (fun n st=>∃ (z0:List zK),∃ (zE:List zB),st=mk [(0,.own 0 ((zE).length)),(1,.sl false 6 (Mp zD z0))] [(0,.live (.rowQ 59 4 (Mp zA (ini zE)) (!(zE).isEmpty) (z5 (lst zE)++[.own 1 ((lst zE).Events).length]))),(1,Rb 42 6 (Mp zD (lst zE).Events))] 2∧zAf F n z0 zE=some o_1) F (by kernel_rfl) ⟨_,_,rfl,h⟩ ?_ ?_
  ·rintro _ ⟨_,_,_,h⟩;exact xX (h:(none:Option (List zB))=some o_1)
  rintro n_1 _ ⟨z0,zE,rfl,h⟩
  replace h:jE F (zAf F n_1) z0 zE=some o_1:=h
  unfold jE at h
  refine sq ?_
  refine sr [(1,{ n:=(z0).length })] [0,1,9] [0,1] 2 [.own 0 ((zE).length),.sl false 6 (Mp zD z0),.bool (decide ((lN (z0))>(0:Int)))] [.live (.rowQ 59 4 (Mp zA (ini zE)) (!(zE).isEmpty) (z5 (lst zE)++[.own 1 ((lst zE).Events).length])),Rb 42 6 (Mp zD (lst zE).Events)] zG (ac (z9 _:((Mp zD z0)).length=(z0).length) an) ?_
  refine cd 9 (decide ((lN (z0))>(0:Int))) ?_ ?_
  rotate_left
  ·intro g_1;replace h:=zO g_1 h
   refine xS (id:=0) (by kernel_rfl) ?_
   cases h
   exact ⟨rfl,(sw [0,1] [] [.s 0] [.s 0,.s 1] an)⟩
  intro g_1;replace h:=zP g_1 h
  refine sk ?_
  refine yC (id:=1) (by kernel_rfl) ?_
  refine sq ?_
  obtain ⟨_,h_2,h⟩:=bind_some h;replace h_2:=wN h_2
  refine rg [] [0,1,5] [0,1] 2 [.own 0 ((zE).length),.sl false 6 (Mp zD z0),.ptr 0 4 ((zR ((lN (zE)) - (1:Int))).toNat) 0] [.live (.rowQ 59 4 (Mp zA (ini zE)) (!(zE).isEmpty) (z5 (lst zE)++[.own 1 ((lst zE).Events).length])),Rb 42 6 (Mp zD (lst zE).Events)] zG (ac h_2.1 (ac h_2.2 an)) ?_
  refine sq ?_
  obtain ⟨_,h_3,h⟩:=bind_some h;replace h_3:=wN h_3
  refine rg [(3,{ x:=true }),(7,{ n:=(z0).length })] [0,1,5,6] [0,1] 2 [.own 0 ((zE).length),.sl false 6 (Mp zD z0),.ptr 0 4 ((zR ((lN (zE)) - (1:Int))).toNat) 0,Ii (wJ (zR ((1000:Int) - (lN ((lst zE).Events)))) (lN (z0)))] [.live (.rowQ 59 4 (Mp zA (ini zE)) (!(zE).isEmpty) (z5 (lst zE)++[.own 1 ((lst zE).Events).length])),Rb 42 6 (Mp zD (lst zE).Events)] zG (ac (zDY _ h_3:(zR ((lN (zE)) - (1:Int))).toNat=(Mp zA (ini zE)).length) (ac (zA4 (Nat.lt_of_lt_of_eq (Nat.succ_pos _) h_3):(!(zE).isEmpty)=true) (ac (z9 _:((Mp zD z0)).length=(z0).length) an))) ?_
  refine sq ?_
  refine sr [] [0,1,5,6,25] [0,1] 2 [.own 0 ((zE).length),.sl false 6 (Mp zD z0),.ptr 0 4 ((zR ((lN (zE)) - (1:Int))).toNat) 0,Ii (wJ (zR ((1000:Int) - (lN ((lst zE).Events)))) (lN (z0))),.bool ((wJ (zR ((1000:Int) - (lN ((lst zE).Events)))) (lN (z0)))==(0:Int))] [.live (.rowQ 59 4 (Mp zA (ini zE)) (!(zE).isEmpty) (z5 (lst zE)++[.own 1 ((lst zE).Events).length])),Rb 42 6 (Mp zD (lst zE).Events)] zG an ?_
  refine cd 25 ((wJ (zR ((1000:Int) - (lN ((lst zE).Events)))) (lN (z0)))==(0:Int)) ?_ ?_
  ·intro g_2;replace h:=zP g_2 h
   refine sq ?_
   refine uI (zD0 (e:=59) (sz:=4) 0 1 (Mp zA zE) (by kernel_rfl) (ac ((List.length_map _).symm:((lst zE).Events).length=(Mp zD (lst zE).Events:List AV).length) (ac (zEV zA zE _ rfl:(Mp zA zE:List AV)=List.map zA (ini zE)++bif (!(zE).isEmpty) then [.agg (z5 (lst zE)++[.sl false 6 (Mp zD (lst zE).Events)])] else []) an))) ?_
   refine wk [0] [] [.s 0,.s 1,.s 5] [.s 0] [(0,.own 0 ((zE).length)),(1,.sl false 6 (Mp zD z0)),(5,.ptr 0 4 ((zR ((lN (zE)) - (1:Int))).toNat) 0)] [(0,Rb 59 4 (Mp zA zE))] an ?_
   obtain ⟨_,h_4,h⟩:=bind_some h;replace h_4:=wN h_4
   obtain ⟨_,h_5,h⟩:=bind_some h;replace h_5:=wN h_5
   obtain ⟨_,h_6,h⟩:=bind_some h;replace h_6:=wN h_6
   refine rg [(4,{ av:=zA (lst zE) }),(8,{ av:=zA (lst zE) }),(11,{ id:=1 }),(12,{ id:=2,l:=(Mp zA zE++[.agg [Ii ((lst zE).Thread),Ii (zR (((lst zE).Serial)+(1000:Int))),Ii 0,.nilsl]]),n:=((zE).length+1) })] [0,1] [2] 3 [.own 2 ((zE).length+1),.sl false 6 (Mp zD z0)] [Rb 59 4 (Mp zA zE++[.agg [Ii ((lst zE).Thread),Ii (zR (((lst zE).Serial)+(1000:Int))),Ii 0,.nilsl]])] zG (ac (zNY _ h_4:(Mp zA zE)[(zR ((lN (zE)) - (1:Int))).toNat]?=some (zA (lst zE))) (ac (zNY _ h_5:(Mp zA zE)[(zR ((lN (zE)) - (1:Int))).toNat]?=some (zA (lst zE))) (ac ((List.length_map _).symm:(zE).length=(Mp zA zE).length) (ac (rfl:1=([.agg [Ii ((lst zE).Thread),Ii (zR (((lst zE).Serial)+(1000:Int))),Ii 0,.nilsl]]:List AV).length) (ac (rfl:((Mp zA zE++[.agg [Ii ((lst zE).Thread),Ii (zR (((lst zE).Serial)+(1000:Int))),Ii 0,.nilsl]]):List AV)=List.map zA zE++[.agg [Ii ((lst zE).Thread),Ii (zR (((lst zE).Serial)+(1000:Int))),Ii 0,.nilsl]]) (ac (by simp:((zE).length+1)=((List.map zA zE++[.agg [Ii ((lst zE).Thread),Ii (zR (((lst zE).Serial)+(1000:Int))),Ii 0,.nilsl]]):List AV).length) (ac (by rw [List.length_map];exact h_6:((List.map zA zE:List AV).length+([.agg [Ii ((lst zE).Thread),Ii (zR (((lst zE).Serial)+(1000:Int))),Ii 0,.nilsl]]:List AV).length) * 48≤140737488355328) an))))))) ?_
   refine uI (zEh (e:=59) (sz:=4) 2 3 42 6 (Mp zA zE) [Ii ((lst zE).Thread),Ii (zR (((lst zE).Serial)+(1000:Int))),Ii 0] (by kernel_rfl) (ac (rfl:(Mp zA zE++[.agg [Ii ((lst zE).Thread),Ii (zR (((lst zE).Serial)+(1000:Int))),Ii 0,.nilsl]]:List AV)=List.map zA zE++[.agg ([Ii ((lst zE).Thread),Ii (zR (((lst zE).Serial)+(1000:Int))),Ii 0]++[.nilsl])]) an)) ?_
   refine wk [2,3] [] [.a 0 (.own 0 (((zE++[(⟨(lst zE).Thread,zR (((lst zE).Serial)+(1000:Int)),(0:Int),[]⟩:zB)])).length)),.s 1] [.a 0 (.live (.rowQ 59 4 (Mp zA (ini (zE++[(⟨(lst zE).Thread,zR (((lst zE).Serial)+(1000:Int)),(0:Int),[]⟩:zB)]))) (!((zE++[(⟨(lst zE).Thread,zR (((lst zE).Serial)+(1000:Int)),(0:Int),[]⟩:zB)])).isEmpty) (z5 (lst (zE++[(⟨(lst zE).Thread,zR (((lst zE).Serial)+(1000:Int)),(0:Int),[]⟩:zB)]))++[.own 1 ((lst (zE++[(⟨(lst zE).Thread,zR (((lst zE).Serial)+(1000:Int)),(0:Int),[]⟩:zB)])).Events).length]))),.a 1 (Rb 42 6 (Mp zD (lst (zE++[(⟨(lst zE).Thread,zR (((lst zE).Serial)+(1000:Int)),(0:Int),[]⟩:zB)])).Events))] [(0,.own 0 (((zE++[(⟨(lst zE).Thread,zR (((lst zE).Serial)+(1000:Int)),(0:Int),[]⟩:zB)])).length)),(1,.sl false 6 (Mp zD z0))] [(0,.live (.rowQ 59 4 (Mp zA (ini (zE++[(⟨(lst zE).Thread,zR (((lst zE).Serial)+(1000:Int)),(0:Int),[]⟩:zB)]))) (!((zE++[(⟨(lst zE).Thread,zR (((lst zE).Serial)+(1000:Int)),(0:Int),[]⟩:zB)])).isEmpty) (z5 (lst (zE++[(⟨(lst zE).Thread,zR (((lst zE).Serial)+(1000:Int)),(0:Int),[]⟩:zB)]))++[.own 1 ((lst (zE++[(⟨(lst zE).Thread,zR (((lst zE).Serial)+(1000:Int)),(0:Int),[]⟩:zB)])).Events).length]))),(1,Rb 42 6 (Mp zD (lst (zE++[(⟨(lst zE).Thread,zR (((lst zE).Serial)+(1000:Int)),(0:Int),[]⟩:zB)])).Events))] (ac (congrArg (AV.own _) (by first | (simp;done) | (simp;omega)):(.own 2 ((zE).length+1):AV)=.own 2 (((zE++[(⟨(lst zE).Thread,zR (((lst zE).Serial)+(1000:Int)),(0:Int),[]⟩:zB)])).length)) (ar 59 (ar 4 (ac ((congrArg (List.map _) (pY _ _)).symm:((Mp zA zE):List AV)=List.map zA (ini (zE++[(⟨(lst zE).Thread,zR (((lst zE).Serial)+(1000:Int)),(0:Int),[]⟩:zB)]))) (ac ((zEE _ _).symm:true=(!((zE++[(⟨(lst zE).Thread,zR (((lst zE).Serial)+(1000:Int)),(0:Int),[]⟩:zB)])).isEmpty)) (ac (rfl:vZ (z5 (lst (zE++[(⟨(lst zE).Thread,zR (((lst zE).Serial)+(1000:Int)),(0:Int),[]⟩:zB)]))++[.own 3 ((lst (zE++[(⟨(lst zE).Thread,zR (((lst zE).Serial)+(1000:Int)),(0:Int),[]⟩:zB)])).Events).length])=true) (ac (by first | (simp only [yV];done) | simp [yV]:(Ii ((lst zE).Thread):AV)=Ii ((lst (zE++[(⟨(lst zE).Thread,zR (((lst zE).Serial)+(1000:Int)),(0:Int),[]⟩:zB)])).Thread)) (ac (by first | (simp only [yV];done) | simp [yV]:(Ii (zR (((lst zE).Serial)+(1000:Int))):AV)=Ii ((lst (zE++[(⟨(lst zE).Thread,zR (((lst zE).Serial)+(1000:Int)),(0:Int),[]⟩:zB)])).Serial)) (ac (by first | (simp only [yV];done) | simp [yV]:(Ii 0:AV)=Ii ((lst (zE++[(⟨(lst zE).Thread,zR (((lst zE).Serial)+(1000:Int)),(0:Int),[]⟩:zB)])).Lost)) (ac (congrArg (AV.own _) (by first | (simp only [yV];done) | simp [yV]):(.own 3 0:AV)=.own 3 (((lst (zE++[(⟨(lst zE).Thread,zR (((lst zE).Serial)+(1000:Int)),(0:Int),[]⟩:zB)])).Events).length)) (ar 42 (ar 6 (ac (by first | (simp only [yV];done) | simp [yV]:([]:List AV)=List.map zD (lst (zE++[(⟨(lst zE).Thread,zR (((lst zE).Serial)+(1000:Int)),(0:Int),[]⟩:zB)])).Events) an))))))))))))) ?_
   refine xS (id:=1) (by kernel_rfl) ?_
   exact ⟨_,(sw [0,1] [] [.s 0,.s 1] [.s 0,.s 1] an),_,_,rfl,h⟩
  intro g_2;replace h:=zO g_2 h
  refine sk ?_
  refine sq ?_
  obtain ⟨_,h_7,h⟩:=bind_some h;replace h_7:=wN h_7
  obtain ⟨_,h_8,h⟩:=bind_some h;replace h_8:=wN h_8
  obtain ⟨_,h_9,h⟩:=bind_some h;replace h_9:=wN h_9
  obtain ⟨_,tW,h⟩:=bind_some h;replace tW:=wN tW
  refine rg [(4,{ x:=true }),(7,{ l:=(Mp zD (sub z0 (0:Int) (wJ (zR ((1000:Int) - (lN ((lst zE).Events)))) (lN (z0))))) }),(8,{ id:=2,l:=(Mp zD (((lst zE).Events)++(sub z0 (0:Int) (wJ (zR ((1000:Int) - (lN ((lst zE).Events)))) (lN (z0)))))),n:=((((lst zE).Events)++(sub z0 (0:Int) (wJ (zR ((1000:Int) - (lN ((lst zE).Events)))) (lN (z0)))))).length }),(11,{ x:=true })] [0,1,6] [0,2] 3 [.own 0 ((zE).length),.sl false 6 (Mp zD z0),Ii (wJ (zR ((1000:Int) - (lN ((lst zE).Events)))) (lN (z0)))] [.live (.rowQ 59 4 (Mp zA (ini zE)) (!(zE).isEmpty) [Ii ((lst zE).Thread),Ii ((lst zE).Serial),Ii ((lst zE).Lost),.own 2 (((((lst zE).Events)++(sub z0 (0:Int) (wJ (zR ((1000:Int) - (lN ((lst zE).Events)))) (lN (z0)))))).length)]),Rb 42 6 (Mp zD (((lst zE).Events)++(sub z0 (0:Int) (wJ (zR ((1000:Int) - (lN ((lst zE).Events)))) (lN (z0))))))] zG (ac (zDY _ h_7:(zR ((lN (zE)) - (1:Int))).toNat=(Mp zA (ini zE)).length) (ac (zA4 (Nat.lt_of_lt_of_eq (Nat.succ_pos _) h_7):(!(zE).isEmpty)=true) (ac (by decide:(0:Int)≤(0:Int)) (ac h_8.1 (ac (zDM h_8.2:(wJ (zR ((1000:Int) - (lN ((lst zE).Events)))) (lN (z0)))≤(lN ((Mp zD z0)))) (ac (zI1 _ _ _:(Mp zD (sub z0 (0:Int) (wJ (zR ((1000:Int) - (lN ((lst zE).Events)))) (lN (z0)))))=(((Mp zD z0)).take (wJ (zR ((1000:Int) - (lN ((lst zE).Events)))) (lN (z0))).toNat).drop ((0:Int)).toNat) (ac (by first | (simp;done) | (simp;omega):((lst zE).Events).length=((List.map zD ((lst zE).Events))).length) (ac (trivial:True) (ac (zDy _ _:(Mp zD (((lst zE).Events)++(sub z0 (0:Int) (wJ (zR ((1000:Int) - (lN ((lst zE).Events)))) (lN (z0))))))=(Mp zD ((lst zE).Events))++(Mp zD (sub z0 (0:Int) (wJ (zR ((1000:Int) - (lN ((lst zE).Events)))) (lN (z0)))))) (ac (by simp:((((lst zE).Events)++(sub z0 (0:Int) (wJ (zR ((1000:Int) - ((((lst zE).Events).length:Nat):Int))) (((z0).length:Nat):Int))))).length=((List.map zD (((lst zE).Events)++(sub z0 (0:Int) (wJ (zR ((1000:Int) - ((((lst zE).Events).length:Nat):Int))) (((z0).length:Nat):Int)))))).length) (ac (by first | (simp;done) | simpa using h_9:(((List.map zD ((lst zE).Events)):List AV).length+((List.map zD (sub z0 (0:Int) (wJ (zR ((1000:Int) - ((((lst zE).Events).length:Nat):Int))) (((z0).length:Nat):Int)))):List AV).length) * 72≤140737488355328) (ac (zDY _ tW:(zR ((lN (zE)) - (1:Int))).toNat=(Mp zA (ini zE)).length) (ac (zA4 (Nat.lt_of_lt_of_eq (Nat.succ_pos _) tW):(!(zE).isEmpty)=true) an))))))))))))) ?_
  refine wk [0,2] [] [.a 0 (.own 0 ((((ini zE)++[(⟨(lst zE).Thread,(lst zE).Serial,(lst zE).Lost,(((lst zE).Events)++(sub z0 (0:Int) (wJ (zR ((1000:Int) - (lN ((lst zE).Events)))) (lN (z0)))))⟩:zB)])).length)),.s 1,.s 6] [.a 0 (.live (.rowQ 59 4 (Mp zA (ini ((ini zE)++[(⟨(lst zE).Thread,(lst zE).Serial,(lst zE).Lost,(((lst zE).Events)++(sub z0 (0:Int) (wJ (zR ((1000:Int) - (lN ((lst zE).Events)))) (lN (z0)))))⟩:zB)]))) (!(((ini zE)++[(⟨(lst zE).Thread,(lst zE).Serial,(lst zE).Lost,(((lst zE).Events)++(sub z0 (0:Int) (wJ (zR ((1000:Int) - (lN ((lst zE).Events)))) (lN (z0)))))⟩:zB)])).isEmpty) (z5 (lst ((ini zE)++[(⟨(lst zE).Thread,(lst zE).Serial,(lst zE).Lost,(((lst zE).Events)++(sub z0 (0:Int) (wJ (zR ((1000:Int) - (lN ((lst zE).Events)))) (lN (z0)))))⟩:zB)]))++[.own 1 ((lst ((ini zE)++[(⟨(lst zE).Thread,(lst zE).Serial,(lst zE).Lost,(((lst zE).Events)++(sub z0 (0:Int) (wJ (zR ((1000:Int) - (lN ((lst zE).Events)))) (lN (z0)))))⟩:zB)])).Events).length]))),.a 1 (Rb 42 6 (Mp zD (lst ((ini zE)++[(⟨(lst zE).Thread,(lst zE).Serial,(lst zE).Lost,(((lst zE).Events)++(sub z0 (0:Int) (wJ (zR ((1000:Int) - (lN ((lst zE).Events)))) (lN (z0)))))⟩:zB)])).Events))] [(0,.own 0 ((((ini zE)++[(⟨(lst zE).Thread,(lst zE).Serial,(lst zE).Lost,(((lst zE).Events)++(sub z0 (0:Int) (wJ (zR ((1000:Int) - (lN ((lst zE).Events)))) (lN (z0)))))⟩:zB)])).length)),(1,.sl false 6 (Mp zD z0)),(6,Ii (wJ (zR ((1000:Int) - (lN ((lst zE).Events)))) (lN (z0))))] [(0,.live (.rowQ 59 4 (Mp zA (ini ((ini zE)++[(⟨(lst zE).Thread,(lst zE).Serial,(lst zE).Lost,(((lst zE).Events)++(sub z0 (0:Int) (wJ (zR ((1000:Int) - (lN ((lst zE).Events)))) (lN (z0)))))⟩:zB)]))) (!(((ini zE)++[(⟨(lst zE).Thread,(lst zE).Serial,(lst zE).Lost,(((lst zE).Events)++(sub z0 (0:Int) (wJ (zR ((1000:Int) - (lN ((lst zE).Events)))) (lN (z0)))))⟩:zB)])).isEmpty) (z5 (lst ((ini zE)++[(⟨(lst zE).Thread,(lst zE).Serial,(lst zE).Lost,(((lst zE).Events)++(sub z0 (0:Int) (wJ (zR ((1000:Int) - (lN ((lst zE).Events)))) (lN (z0)))))⟩:zB)]))++[.own 1 ((lst ((ini zE)++[(⟨(lst zE).Thread,(lst zE).Serial,(lst zE).Lost,(((lst zE).Events)++(sub z0 (0:Int) (wJ (zR ((1000:Int) - (lN ((lst zE).Events)))) (lN (z0)))))⟩:zB)])).Events).length]))),(1,Rb 42 6 (Mp zD (lst ((ini zE)++[(⟨(lst zE).Thread,(lst zE).Serial,(lst zE).Lost,(((lst zE).Events)++(sub z0 (0:Int) (wJ (zR ((1000:Int) - (lN ((lst zE).Events)))) (lN (z0)))))⟩:zB)])).Events))] (ac (congrArg (AV.own _) (zNZ _ tW).symm:(.own 0 ((zE).length):AV)=.own 0 ((((ini zE)++[(⟨(lst zE).Thread,(lst zE).Serial,(lst zE).Lost,(((lst zE).Events)++(sub z0 (0:Int) (wJ (zR ((1000:Int) - (lN ((lst zE).Events)))) (lN (z0)))))⟩:zB)])).length)) (ar 59 (ar 4 (ac ((congrArg (List.map _) (pY _ _)).symm:((Mp zA (ini zE)):List AV)=List.map zA (ini ((ini zE)++[(⟨(lst zE).Thread,(lst zE).Serial,(lst zE).Lost,(((lst zE).Events)++(sub z0 (0:Int) (wJ (zR ((1000:Int) - (lN ((lst zE).Events)))) (lN (z0)))))⟩:zB)]))) (ac ((zA4 (Nat.lt_of_lt_of_eq (Nat.succ_pos _) tW)).trans (zEE _ _).symm:(!(zE).isEmpty)=(!(((ini zE)++[(⟨(lst zE).Thread,(lst zE).Serial,(lst zE).Lost,(((lst zE).Events)++(sub z0 (0:Int) (wJ (zR ((1000:Int) - (lN ((lst zE).Events)))) (lN (z0)))))⟩:zB)])).isEmpty)) (ac (rfl:vZ (z5 (lst ((ini zE)++[(⟨(lst zE).Thread,(lst zE).Serial,(lst zE).Lost,(((lst zE).Events)++(sub z0 (0:Int) (wJ (zR ((1000:Int) - (lN ((lst zE).Events)))) (lN (z0)))))⟩:zB)]))++[.own 2 ((lst ((ini zE)++[(⟨(lst zE).Thread,(lst zE).Serial,(lst zE).Lost,(((lst zE).Events)++(sub z0 (0:Int) (wJ (zR ((1000:Int) - (lN ((lst zE).Events)))) (lN (z0)))))⟩:zB)])).Events).length])=true) (ac (by first | (simp only [yV];done) | simp [yV]:(Ii ((lst zE).Thread):AV)=Ii ((lst ((ini zE)++[(⟨(lst zE).Thread,(lst zE).Serial,(lst zE).Lost,(((lst zE).Events)++(sub z0 (0:Int) (wJ (zR ((1000:Int) - ((((lst zE).Events).length:Nat):Int))) (((z0).length:Nat):Int))))⟩:zB)])).Thread)) (ac (by first | (simp only [yV];done) | simp [yV]:(Ii ((lst zE).Serial):AV)=Ii ((lst ((ini zE)++[(⟨(lst zE).Thread,(lst zE).Serial,(lst zE).Lost,(((lst zE).Events)++(sub z0 (0:Int) (wJ (zR ((1000:Int) - ((((lst zE).Events).length:Nat):Int))) (((z0).length:Nat):Int))))⟩:zB)])).Serial)) (ac (by first | (simp only [yV];done) | simp [yV]:(Ii ((lst zE).Lost):AV)=Ii ((lst ((ini zE)++[(⟨(lst zE).Thread,(lst zE).Serial,(lst zE).Lost,(((lst zE).Events)++(sub z0 (0:Int) (wJ (zR ((1000:Int) - ((((lst zE).Events).length:Nat):Int))) (((z0).length:Nat):Int))))⟩:zB)])).Lost)) (ac (congrArg (AV.own _) (by first | (simp only [yV];done) | simp [yV]):(.own 2 (((((lst zE).Events)++(sub z0 (0:Int) (wJ (zR ((1000:Int) - (lN ((lst zE).Events)))) (lN (z0)))))).length):AV)=.own 2 (((lst ((ini zE)++[(⟨(lst zE).Thread,(lst zE).Serial,(lst zE).Lost,(((lst zE).Events)++(sub z0 (0:Int) (wJ (zR ((1000:Int) - (lN ((lst zE).Events)))) (lN (z0)))))⟩:zB)])).Events).length)) (ar 42 (ar 6 (ac (by first | (simp only [yV];done) | simp [yV]:((List.map zD (((lst zE).Events)++(sub z0 (0:Int) (wJ (zR ((1000:Int) - ((((lst zE).Events).length:Nat):Int))) (((z0).length:Nat):Int))))):List AV)=List.map zD (lst ((ini zE)++[(⟨(lst zE).Thread,(lst zE).Serial,(lst zE).Lost,(((lst zE).Events)++(sub z0 (0:Int) (wJ (zR ((1000:Int) - ((((lst zE).Events).length:Nat):Int))) (((z0).length:Nat):Int))))⟩:zB)])).Events) an))))))))))))) ?_
  obtain ⟨_,tX,h⟩:=bind_some h;replace tX:=wN tX
  refine rg [(2,{ l:=(Mp zD (sub z0 (wJ (zR ((1000:Int) - (lN ((lst zE).Events)))) (lN (z0))) (lN (z0)))) })] [0,1] [0,1] 2 [.own 0 ((((ini zE)++[(⟨(lst zE).Thread,(lst zE).Serial,(lst zE).Lost,(((lst zE).Events)++(sub z0 (0:Int) (wJ (zR ((1000:Int) - (lN ((lst zE).Events)))) (lN (z0)))))⟩:zB)])).length),.sl false 6 (Mp zD (sub z0 (wJ (zR ((1000:Int) - (lN ((lst zE).Events)))) (lN (z0))) (lN (z0))))] [.live (.rowQ 59 4 (Mp zA (ini ((ini zE)++[(⟨(lst zE).Thread,(lst zE).Serial,(lst zE).Lost,(((lst zE).Events)++(sub z0 (0:Int) (wJ (zR ((1000:Int) - (lN ((lst zE).Events)))) (lN (z0)))))⟩:zB)]))) (!(((ini zE)++[(⟨(lst zE).Thread,(lst zE).Serial,(lst zE).Lost,(((lst zE).Events)++(sub z0 (0:Int) (wJ (zR ((1000:Int) - (lN ((lst zE).Events)))) (lN (z0)))))⟩:zB)])).isEmpty) (z5 (lst ((ini zE)++[(⟨(lst zE).Thread,(lst zE).Serial,(lst zE).Lost,(((lst zE).Events)++(sub z0 (0:Int) (wJ (zR ((1000:Int) - (lN ((lst zE).Events)))) (lN (z0)))))⟩:zB)]))++[.own 1 ((lst ((ini zE)++[(⟨(lst zE).Thread,(lst zE).Serial,(lst zE).Lost,(((lst zE).Events)++(sub z0 (0:Int) (wJ (zR ((1000:Int) - (lN ((lst zE).Events)))) (lN (z0)))))⟩:zB)])).Events).length])),Rb 42 6 (Mp zD (lst ((ini zE)++[(⟨(lst zE).Thread,(lst zE).Serial,(lst zE).Lost,(((lst zE).Events)++(sub z0 (0:Int) (wJ (zR ((1000:Int) - (lN ((lst zE).Events)))) (lN (z0)))))⟩:zB)])).Events)] zG (ac tX.1 (ac (zDM tX.2:(wJ (zR ((1000:Int) - (lN ((lst zE).Events)))) (lN (z0)))≤(lN ((Mp zD z0)))) (ac (Int.le_refl _:(lN ((Mp zD z0)))≤(lN ((Mp zD z0)))) (ac (zN9 _ _:(Mp zD (sub z0 (wJ (zR ((1000:Int) - (lN ((lst zE).Events)))) (lN (z0))) (lN (z0))))=(((Mp zD z0)).take ((lN ((Mp zD z0)))).toNat).drop (wJ (zR ((1000:Int) - (lN ((lst zE).Events)))) (lN (z0))).toNat) an)))) ?_
  exact ⟨_,(sw [0,1] [] [.s 0,.s 1] [.s 0,.s 1] an),_,_,rfl,h⟩
 refine sr [] [4] [0,1] 2 [.own 0 ((o_1).length)] [.live (.rowQ 59 4 (Mp zA (ini o_1)) (!(o_1).isEmpty) (z5 (lst o_1)++[.own 1 ((lst o_1).Events).length])),Rb 42 6 (Mp zD (lst o_1).Events)] zG an ?_
 refine wk [0,1] [] [.s 4] [.s 0,.s 1] [(4,.own 0 ((o_1).length))] [(0,.live (.rowQ 59 4 (Mp zA (ini o_1)) (!(o_1).isEmpty) (z5 (lst o_1)++[.own 1 ((lst o_1).Events).length]))),(1,Rb 42 6 (Mp zD (lst o_1).Events))] an ?_
 refine rt ?_
 cases h
 exact ⟨.inr rfl,Nat.le_of_ble_eq_true rfl,by kernel_rfl⟩
theorem zBR (F:Nat) (h_1:zL) (l_1:List (zB)) (r:zQ×Int) (h:zBe F h_1 l_1=some r):zW prog 10 [] [] [yN h_1,.sl false 4 (Mp zA l_1)] [] (.tuple [yE r.1,Ii r.2]):=by
 refine yA (fn:=Go.Proofs.Try.f10) (code:=xC Go.Proofs.Try.f10) (by kernel_rfl) (by kernel_rfl) (Nat.le_of_ble_eq_true (by kernel_rfl)) ?_
 unfold zBe at h
 refine sr [(0,{ id:=0 }),(1,{ id:=1 })] [1,2,4] [0,1] 2 [.sl false 4 (Mp zA l_1),Pp 0,Pp 1] [Vb 26 (zM h_1),Vb 31 [.nilsl,.nilsl,.nilsl,.nilsl]] zG an ?_
 refine uI (uV 1 3 2 59 4 (by kernel_rfl)) ?_
 refine wk [0,1,2] [] [.s 1,.s 2,.s 4] [.s 0,.s 1,.s 2] [(1,.sl false 4 (Mp zA l_1)),(2,Pp 0),(4,Pp 1)] [(0,Vb 26 (zM h_1)),(1,Vb 31 [.nilsl,.nilsl,.nilsl,.own 2 0]),(2,Rb 59 4 [])] an ?_
 refine sq ?_
 refine sq ?_
 obtain ⟨r_1,h_2,h⟩:=bind_some h
 refine rg [(1,{ av:=Ii r_1,l:=[yN h_1] })] [1,2,4,6] [0,1,2] 3 [.sl false 4 (Mp zA l_1),Pp 0,Pp 1,Ii r_1] [Vb 26 (zM h_1),Vb 31 [.nilsl,.nilsl,.nilsl,.own 2 0],Rb 59 4 []] zG (ar ([yN h_1]:List AV) (ac (rfl:([]:List zT)=[]) (ac (zIS F h_1 r_1 h_2:zW prog 27 [] [] [yN h_1] [] (Ii r_1)) an))) ?_
 refine sr [] [1,2,4,6,18] [0,1,2] 3 [.sl false 4 (Mp zA l_1),Pp 0,Pp 1,Ii r_1,.bool (r_1 != (0:Int))] [Vb 26 (zM h_1),Vb 31 [.nilsl,.nilsl,.nilsl,.own 2 0],Rb 59 4 []] zG an ?_
 refine cd 18 (r_1 != (0:Int)) ?_ ?_
 ·intro g_1;replace h:=zP g_1 h
  refine sr [] [4,5] [1] 3 [Pp 1,Ii r_1] [Vb 31 [.nilsl,.nilsl,.nilsl,.nilsl]] zG an ?_
  refine uI (uV 1 3 3 59 4 (by kernel_rfl)) ?_
  refine wk [1,3] [] [.s 4,.s 5] [.s 0,.s 1] [(4,Pp 0),(5,Ii r_1)] [(0,Vb 31 [.nilsl,.nilsl,.nilsl,.own 1 0]),(1,Rb 59 4 [])] an ?_
  refine wk [0] [1] [.s 4,.s 5] [.a 0 (Vb 31 [.sl false 3 (Mp zF (((⟨(⟨[],[],[]⟩:zL),[]⟩:zQ).Head).Threads)),.sl false 2 (Mp zC (((⟨(⟨[],[],[]⟩:zL),[]⟩:zQ).Head).Domains)),.sl false 5 (Mp zJ (((⟨(⟨[],[],[]⟩:zL),[]⟩:zQ).Head).Snaps)),.sl false 4 (Mp zA ((⟨(⟨[],[],[]⟩:zL),[]⟩:zQ).Parts))])] [(4,Pp 0),(5,Ii r_1)] [(0,Vb 31 [.sl false 3 (Mp zF (((⟨(⟨[],[],[]⟩:zL),[]⟩:zQ).Head).Threads)),.sl false 2 (Mp zC (((⟨(⟨[],[],[]⟩:zL),[]⟩:zQ).Head).Domains)),.sl false 5 (Mp zJ (((⟨(⟨[],[],[]⟩:zL),[]⟩:zQ).Head).Snaps)),.sl false 4 (Mp zA ((⟨(⟨[],[],[]⟩:zL),[]⟩:zQ).Parts))])] (ar 31 (ac (rfl:vZ [.sl false 3 (Mp zF (((⟨(⟨[],[],[]⟩:zL),[]⟩:zQ).Head).Threads)),.sl false 2 (Mp zC (((⟨(⟨[],[],[]⟩:zL),[]⟩:zQ).Head).Domains)),.sl false 5 (Mp zJ (((⟨(⟨[],[],[]⟩:zL),[]⟩:zQ).Head).Snaps)),.sl false 4 (Mp zA ((⟨(⟨[],[],[]⟩:zL),[]⟩:zQ).Parts))]=true) (ac (by first | (simp;done) | (simp;omega):0=(([]:List AV)).length) (ac (rfl:((Mp zF (((⟨(⟨[],[],[]⟩:zL),[]⟩:zQ).Head).Threads)):List AV)=[]) (ac (rfl:((Mp zC (((⟨(⟨[],[],[]⟩:zL),[]⟩:zQ).Head).Domains)):List AV)=[]) (ac (rfl:((Mp zJ (((⟨(⟨[],[],[]⟩:zL),[]⟩:zQ).Head).Snaps)):List AV)=[]) (ar 4 (ac (rfl:([]:List AV)=(Mp zA ((⟨(⟨[],[],[]⟩:zL),[]⟩:zQ).Parts))) (ac (rfl:(!false||false)=true) an))))))))) ?_
  refine rt ?_
  cases h
  exact ⟨.inr rfl,Nat.le_of_ble_eq_true rfl,by kernel_rfl⟩
 intro g_1;replace h:=zO g_1 h
 refine sk ?_
 refine sq ?_
 refine sq ?_
 obtain ⟨r_2,h_3,h⟩:=bind_some h
 refine rg [(2,{ av:=Ii r_2,l:=[yN h_1,.sl false 4 (Mp zA l_1)] })] [1,2,4,7] [0,1,2] 3 [.sl false 4 (Mp zA l_1),Pp 0,Pp 1,Ii r_2] [Vb 26 (zM h_1),Vb 31 [.nilsl,.nilsl,.nilsl,.own 2 0],Rb 59 4 []] zG (ar ([yN h_1,.sl false 4 (Mp zA l_1)]:List AV) (ac (rfl:([]:List zT)=[]) (ac (zI4 F h_1 l_1 r_2 h_3:zW prog 28 [] [] [yN h_1,.sl false 4 (Mp zA l_1)] [] (Ii r_2)) an))) ?_
 refine sr [] [1,2,4,7,25] [0,1,2] 3 [.sl false 4 (Mp zA l_1),Pp 0,Pp 1,Ii r_2,.bool (r_2 != (0:Int))] [Vb 26 (zM h_1),Vb 31 [.nilsl,.nilsl,.nilsl,.own 2 0],Rb 59 4 []] zG an ?_
 refine cd 25 (r_2 != (0:Int)) ?_ ?_
 ·intro g_2;replace h:=zP g_2 h
  refine sr [] [4,5] [1] 3 [Pp 1,Ii r_2] [Vb 31 [.nilsl,.nilsl,.nilsl,.nilsl]] zG an ?_
  refine uI (uV 1 3 3 59 4 (by kernel_rfl)) ?_
  refine wk [1,3] [] [.s 4,.s 5] [.s 0,.s 1] [(4,Pp 0),(5,Ii r_2)] [(0,Vb 31 [.nilsl,.nilsl,.nilsl,.own 1 0]),(1,Rb 59 4 [])] an ?_
  refine wk [0] [1] [.s 4,.s 5] [.a 0 (Vb 31 [.sl false 3 (Mp zF (((⟨(⟨[],[],[]⟩:zL),[]⟩:zQ).Head).Threads)),.sl false 2 (Mp zC (((⟨(⟨[],[],[]⟩:zL),[]⟩:zQ).Head).Domains)),.sl false 5 (Mp zJ (((⟨(⟨[],[],[]⟩:zL),[]⟩:zQ).Head).Snaps)),.sl false 4 (Mp zA ((⟨(⟨[],[],[]⟩:zL),[]⟩:zQ).Parts))])] [(4,Pp 0),(5,Ii r_2)] [(0,Vb 31 [.sl false 3 (Mp zF (((⟨(⟨[],[],[]⟩:zL),[]⟩:zQ).Head).Threads)),.sl false 2 (Mp zC (((⟨(⟨[],[],[]⟩:zL),[]⟩:zQ).Head).Domains)),.sl false 5 (Mp zJ (((⟨(⟨[],[],[]⟩:zL),[]⟩:zQ).Head).Snaps)),.sl false 4 (Mp zA ((⟨(⟨[],[],[]⟩:zL),[]⟩:zQ).Parts))])] (ar 31 (ac (rfl:vZ [.sl false 3 (Mp zF (((⟨(⟨[],[],[]⟩:zL),[]⟩:zQ).Head).Threads)),.sl false 2 (Mp zC (((⟨(⟨[],[],[]⟩:zL),[]⟩:zQ).Head).Domains)),.sl false 5 (Mp zJ (((⟨(⟨[],[],[]⟩:zL),[]⟩:zQ).Head).Snaps)),.sl false 4 (Mp zA ((⟨(⟨[],[],[]⟩:zL),[]⟩:zQ).Parts))]=true) (ac (by first | (simp;done) | (simp;omega):0=(([]:List AV)).length) (ac (rfl:((Mp zF (((⟨(⟨[],[],[]⟩:zL),[]⟩:zQ).Head).Threads)):List AV)=[]) (ac (rfl:((Mp zC (((⟨(⟨[],[],[]⟩:zL),[]⟩:zQ).Head).Domains)):List AV)=[]) (ac (rfl:((Mp zJ (((⟨(⟨[],[],[]⟩:zL),[]⟩:zQ).Head).Snaps)):List AV)=[]) (ar 4 (ac (rfl:([]:List AV)=(Mp zA ((⟨(⟨[],[],[]⟩:zL),[]⟩:zQ).Parts))) (ac (rfl:(!false||false)=true) an))))))))) ?_
  refine rt ?_
  cases h
  exact ⟨.inr rfl,Nat.le_of_ble_eq_true rfl,by kernel_rfl⟩
 intro g_2;replace h:=zO g_2 h
 refine sk ?_
 refine sr [(0,{ id:=3,mag:=false,mks:=[.int .i64] })] [1,2,4,8] [0,1,2,3] 4 [.sl false 4 (Mp zA l_1),Pp 0,Pp 1,.mp 3] [Vb 26 (zM h_1),Vb 31 [.nilsl,.nilsl,.nilsl,.own 2 0],Rb 59 4 [],.live (.map false [.int .i64] [])] zG an ?_
 refine zKf 3 4 (ag:=false) (ks:=[.int .i64]) (.nm 59 4 42 6) (by kernel_rfl) (by kernel_rfl) (zN2 (by kernel_rfl)) ?_
 intro b_1
 refine wk [0,1,2,4] [] [.s 1,.s 2,.s 4,.s 8] [.s 0,.s 1,.s 2,.s 3] [(1,.sl false 4 (Mp zA l_1)),(2,Pp 0),(4,Pp 1),(8,.rawm b_1)] [(0,Vb 26 (zM h_1)),(1,Vb 31 [.nilsl,.nilsl,.nilsl,.own 2 0]),(2,Rb 59 4 []),(3,.live (.fam (.cl b_1 false [.int .i64] (.nm 59 4 42 6) (List.map (mpE (AV.int .i64) yW) ([]:List (Int×(List (zB))))))))] an ?_
 refine sq ?_
 refine sr [(1,{ n:=(l_1).length })] [2,4,8,29,30,31] [0,1,2,3] 4 [Pp 0,Pp 1,.rawm b_1,.sl false 4 (Mp zA l_1),Ii (lN (l_1)),Ii 0] [Vb 26 (zM h_1),Vb 31 [.nilsl,.nilsl,.nilsl,.own 2 0],Rb 59 4 [],.live (.fam (.cl b_1 false [.int .i64] (.nm 59 4 42 6) (List.map (mpE (AV.int .i64) yW) ([]:List (Int×(List (zB)))))))] zG (ac (z9 _:((Mp zA l_1)).length=(l_1).length) an) ?_
 obtain ⟨o_1,h_4,h⟩:=bind_some h
 refine y9 (mk [(2,Pp 0),(4,Pp 1),(8,.rawm b_1)] [(0,Vb 26 (zM h_1)),(1,Vb 31 [.nilsl,.nilsl,.nilsl,.own 2 0]),(2,Rb 59 4 []),(3,.live (.fam (.cl b_1 false [.int .i64] (.nm 59 4 42 6) (List.map (mpE (AV.int .i64) yW) o_1))))] 4) ?_ ?_
 ·replace h:=h_4
  refine yC (id:=0) (by kernel_rfl) ?_
  refine wk [0,1,2,3] [] [.s 2,.s 4,.s 8,.s 29,.s 30,.s 31] [.s 0,.s 1,.s 2,.s 3] [(2,Pp 0),(4,Pp 1),(8,.rawm b_1),(29,.sl false 4 (Mp zA l_1)),(30,Ii (lN (l_1))),(31,Ii 0)] [(0,Vb 26 (zM h_1)),(1,Vb 31 [.nilsl,.nilsl,.nilsl,.own 2 0]),(2,Rb 59 4 []),(3,.live (.fam (.cl b_1 false [.int .i64] (.nm 59 4 42 6) (List.map (mpE (AV.int .i64) yW) ([]:List (Int×(List (zB))))))))] an ?_
  refine xH (fun n st=>∃ (v_1:Int),∃ (zE:List (Int×(List (zB)))),st=mk [(2,Pp 0),(4,Pp 1),(8,.rawm b_1),(29,.sl false 4 (Mp zA l_1)),(30,Ii (lN (l_1))),(31,Ii v_1)] [(0,Vb 26 (zM h_1)),(1,Vb 31 [.nilsl,.nilsl,.nilsl,.own 2 0]),(2,Rb 59 4 []),(3,.live (.fam (.cl b_1 false [.int .i64] (.nm 59 4 42 6) (List.map (mpE (AV.int .i64) yW) zE))))] 4∧k8 F l_1 n v_1 zE=some o_1) F (by kernel_rfl) ⟨_,_,rfl,h⟩ ?_ ?_
  ·rintro _ ⟨_,_,_,h⟩;exact xX (h:(none:Option (List (Int×(List (zB)))))=some o_1)
  rintro n_1 _ ⟨v_1,zE,rfl,h⟩
  replace h:kT F l_1 (k8 F l_1 n_1) v_1 zE=some o_1:=h
  unfold kT at h
  refine sr [] [2,4,8,29,30,31,32] [0,1,2,3] 4 [Pp 0,Pp 1,.rawm b_1,.sl false 4 (Mp zA l_1),Ii (lN (l_1)),Ii v_1,.bool (decide (v_1<(lN (l_1))))] [Vb 26 (zM h_1),Vb 31 [.nilsl,.nilsl,.nilsl,.own 2 0],Rb 59 4 [],.live (.fam (.cl b_1 false [.int .i64] (.nm 59 4 42 6) (List.map (mpE (AV.int .i64) yW) zE)))] zG an ?_
  refine sq ?_
  refine cd 32 (decide (v_1<(lN (l_1)))) ?_ ?_
  rotate_left
  ·intro g_3;replace h:=zO g_3 h
   refine xS (id:=0) (by kernel_rfl) ?_
   cases h
   exact ⟨rfl,(sw [0,1,2,3] [] [.s 2,.s 4,.s 8] [.s 0,.s 1,.s 2,.s 3] an)⟩
  intro g_3;replace h:=zP g_3 h
  refine sk ?_
  refine sq ?_
  refine yC (id:=1) (by kernel_rfl) ?_
  refine sq ?_
  obtain ⟨x_1,h_5,h⟩:=bind_some h
  refine rg [(0,{ av:=zA x_1 }),(2,{ id:=4 })] [2,4,8,10,29,30,31] [0,1,2,3,4] 5 [Pp 0,Pp 1,.rawm b_1,Pp 4,.sl false 4 (Mp zA l_1),Ii (lN (l_1)),Ii v_1] [Vb 26 (zM h_1),Vb 31 [.nilsl,.nilsl,.nilsl,.own 2 0],Rb 59 4 [],.live (.fam (.cl b_1 false [.int .i64] (.nm 59 4 42 6) (List.map (mpE (AV.int .i64) yW) zE))),Vb 59 (zZ x_1)] zG (ac (yP h_5:xG (Mp zA l_1) v_1=some (zA x_1)) an) ?_
  refine sr [(3,{ av:=(yW ((yI zE x_1.Thread).getD [])),dep:=true,g:=(yI zE x_1.Thread).isSome,ids:=[5,6],l:=(z5 (lst ([]:List zB))),n:=3,x:=true })] [2,4,8,10,11,29,30,31] [0,1,2,3,4,5,6] 7 [Pp 0,Pp 1,.rawm b_1,Pp 4,.own 5 ((Mp zA (ini ((yI zE x_1.Thread).getD []))).length+bif (!(((yI zE x_1.Thread).getD [])).isEmpty) then 1 else 0),.sl false 4 (Mp zA l_1),Ii (lN (l_1)),Ii v_1] [Vb 26 (zM h_1),Vb 31 [.nilsl,.nilsl,.nilsl,.own 2 0],Rb 59 4 [],.live (.fam (.op b_1 false [.int .i64] (.nm 59 4 42 6) (List.map (mpE (AV.int .i64) yW) zE) (Ii x_1.Thread))),Vb 59 (zZ x_1),.live (.rowQ 59 4 (Mp zA (ini ((yI zE x_1.Thread).getD []))) (!(((yI zE x_1.Thread).getD [])).isEmpty) (z5 (lst ((yI zE x_1.Thread).getD []))++[.own 6 (Mp zD (lst ((yI zE x_1.Thread).getD [])).Events).length])),Rb 42 6 (Mp zD (lst ((yI zE x_1.Thread).getD [])).Events)] zG (ar b_1 (ac (zAS:vT prog 3 false [.int .i64]) (ac (zEL (f:=(AV.int .i64)) (g:=yW) zAN zE x_1.Thread []:kC (List.map (mpE (AV.int .i64) yW) zE) (Ii x_1.Thread) (zLo (.nm 59 4 42 6) (z5 (lst ([]:List zB)))) (yW ((yI zE x_1.Thread).getD [])) (yI zE x_1.Thread).isSome) an))) ?_
  refine wk [0,1,2,3,4,5,6] [] [.s 2,.s 4,.s 8,.s 10,.a 11 (.own 5 ((((yI zE x_1.Thread).getD [])).length)),.s 29,.s 30,.s 31] [.s 0,.s 1,.s 2,.s 3,.s 4,.a 5 (.live (.rowQ 59 4 (Mp zA (ini ((yI zE x_1.Thread).getD []))) (!(((yI zE x_1.Thread).getD [])).isEmpty) (z5 (lst ((yI zE x_1.Thread).getD []))++[.own 6 ((lst ((yI zE x_1.Thread).getD [])).Events).length]))),.s 6] [(2,Pp 0),(4,Pp 1),(8,.rawm b_1),(10,Pp 4),(11,.own 5 ((((yI zE x_1.Thread).getD [])).length)),(29,.sl false 4 (Mp zA l_1)),(30,Ii (lN (l_1))),(31,Ii v_1)] [(0,Vb 26 (zM h_1)),(1,Vb 31 [.nilsl,.nilsl,.nilsl,.own 2 0]),(2,Rb 59 4 []),(3,.live (.fam (.op b_1 false [.int .i64] (.nm 59 4 42 6) (List.map (mpE (AV.int .i64) yW) zE) (Ii x_1.Thread)))),(4,Vb 59 (zZ x_1)),(5,.live (.rowQ 59 4 (Mp zA (ini ((yI zE x_1.Thread).getD []))) (!(((yI zE x_1.Thread).getD [])).isEmpty) (z5 (lst ((yI zE x_1.Thread).getD []))++[.own 6 ((lst ((yI zE x_1.Thread).getD [])).Events).length]))),(6,Rb 42 6 (Mp zD (lst ((yI zE x_1.Thread).getD [])).Events))] (ac (congrArg (AV.own _) (zN4 _ _):(.own 5 ((Mp zA (ini ((yI zE x_1.Thread).getD []))).length+bif (!(((yI zE x_1.Thread).getD [])).isEmpty) then 1 else 0):AV)=.own 5 ((((yI zE x_1.Thread).getD [])).length)) (ar 59 (ar 4 (ar (Mp zA (ini ((yI zE x_1.Thread).getD [])):List AV) (ar (!(((yI zE x_1.Thread).getD [])).isEmpty) (ac (rfl:vZ (z5 (lst ((yI zE x_1.Thread).getD []))++[.own 6 ((lst ((yI zE x_1.Thread).getD [])).Events).length])=true) (ac (rfl:(Ii ((lst ((yI zE x_1.Thread).getD [])).Thread):AV)=Ii ((lst ((yI zE x_1.Thread).getD [])).Thread)) (ac (rfl:(Ii ((lst ((yI zE x_1.Thread).getD [])).Serial):AV)=Ii ((lst ((yI zE x_1.Thread).getD [])).Serial)) (ac (rfl:(Ii ((lst ((yI zE x_1.Thread).getD [])).Lost):AV)=Ii ((lst ((yI zE x_1.Thread).getD [])).Lost)) (ac (congrArg (AV.own _) (List.length_map _):(.own 6 (Mp zD (lst ((yI zE x_1.Thread).getD [])).Events).length:AV)=.own 6 ((lst ((yI zE x_1.Thread).getD [])).Events).length) an)))))))))) ?_
  refine sq ?_
  refine sq ?_
  refine y9 (mk [(2,Pp 0),(4,Pp 1),(8,.rawm b_1),(10,Pp 4),(11,.own 5 ((((yI zE x_1.Thread).getD [])).length)),(29,.sl false 4 (Mp zA l_1)),(30,Ii (lN (l_1))),(31,Ii v_1),(46,.bool (decide (x_1.Lost>(0:Int))||((lN (((yI zE x_1.Thread).getD [])))==(0:Int))))] [(0,Vb 26 (zM h_1)),(1,Vb 31 [.nilsl,.nilsl,.nilsl,.own 2 0]),(2,Rb 59 4 []),(3,.live (.fam (.op b_1 false [.int .i64] (.nm 59 4 42 6) (List.map (mpE (AV.int .i64) yW) zE) (Ii x_1.Thread)))),(4,Vb 59 (zZ x_1)),(5,.live (.rowQ 59 4 (Mp zA (ini ((yI zE x_1.Thread).getD []))) (!(((yI zE x_1.Thread).getD [])).isEmpty) (z5 (lst ((yI zE x_1.Thread).getD []))++[.own 6 ((lst ((yI zE x_1.Thread).getD [])).Events).length]))),(6,Rb 42 6 (Mp zD (lst ((yI zE x_1.Thread).getD [])).Events))] 7) ?_ ?_
  ·rcases bft (decide (x_1.Lost>(0:Int))) with zV | zV
   ·refine rg [(4,Hg),(5,Hg),(6,Hg),(7,Ht)] [2,4,8,10,11,29,30,31,43,44,45,46] [0,1,2,3,4,5,6] 7 [Pp 0,Pp 1,.rawm b_1,Pp 4,.own 5 ((((yI zE x_1.Thread).getD [])).length),.sl false 4 (Mp zA l_1),Ii (lN (l_1)),Ii v_1,.tuple [],.tuple [],.tuple [],.bool true] [Vb 26 (zM h_1),Vb 31 [.nilsl,.nilsl,.nilsl,.own 2 0],Rb 59 4 [],.live (.fam (.op b_1 false [.int .i64] (.nm 59 4 42 6) (List.map (mpE (AV.int .i64) yW) zE) (Ii x_1.Thread))),Vb 59 (zZ x_1),.live (.rowQ 59 4 (Mp zA (ini ((yI zE x_1.Thread).getD []))) (!(((yI zE x_1.Thread).getD [])).isEmpty) (z5 (lst ((yI zE x_1.Thread).getD []))++[.own 6 ((lst ((yI zE x_1.Thread).getD [])).Events).length])),Rb 42 6 (Mp zD (lst ((yI zE x_1.Thread).getD [])).Events)] zG (ac zV (ac zV (ac zV (ac zV an)))) ?_
    exact ⟨rfl,(sw [0,1,2,3,4,5,6] [] [.s 2,.s 4,.s 8,.s 10,.s 11,.s 29,.s 30,.s 31,.a 46 (.bool (decide (x_1.Lost>(0:Int))||((lN (((yI zE x_1.Thread).getD [])))==(0:Int))))] [.s 0,.s 1,.s 2,.s 3,.s 4,.s 5,.s 6] (ac (congrArg AV.bool (ort zV):(.bool true:AV)=.bool (decide (x_1.Lost>(0:Int))||((lN (((yI zE x_1.Thread).getD [])))==(0:Int)))) an))⟩
   ·refine rg [(7,Hf)] [2,4,8,10,11,29,30,31,43,44,45,46] [0,1,2,3,4,5,6] 7 [Pp 0,Pp 1,.rawm b_1,Pp 4,.own 5 ((((yI zE x_1.Thread).getD [])).length),.sl false 4 (Mp zA l_1),Ii (lN (l_1)),Ii v_1,.own 5 ((((yI zE x_1.Thread).getD [])).length),Ii (lN (((yI zE x_1.Thread).getD []))),.bool ((lN (((yI zE x_1.Thread).getD [])))==(0:Int)),.bool ((lN (((yI zE x_1.Thread).getD [])))==(0:Int))] [Vb 26 (zM h_1),Vb 31 [.nilsl,.nilsl,.nilsl,.own 2 0],Rb 59 4 [],.live (.fam (.op b_1 false [.int .i64] (.nm 59 4 42 6) (List.map (mpE (AV.int .i64) yW) zE) (Ii x_1.Thread))),Vb 59 (zZ x_1),.live (.rowQ 59 4 (Mp zA (ini ((yI zE x_1.Thread).getD []))) (!(((yI zE x_1.Thread).getD [])).isEmpty) (z5 (lst ((yI zE x_1.Thread).getD []))++[.own 6 ((lst ((yI zE x_1.Thread).getD [])).Events).length])),Rb 42 6 (Mp zD (lst ((yI zE x_1.Thread).getD [])).Events)] zG (ac zV (ac zV (ac zV (ac zV an)))) ?_
    exact ⟨rfl,(sw [0,1,2,3,4,5,6] [] [.s 2,.s 4,.s 8,.s 10,.s 11,.s 29,.s 30,.s 31,.a 46 (.bool (decide (x_1.Lost>(0:Int))||((lN (((yI zE x_1.Thread).getD [])))==(0:Int))))] [.s 0,.s 1,.s 2,.s 3,.s 4,.s 5,.s 6] (ac (congrArg AV.bool (orf zV rfl):(.bool ((lN (((yI zE x_1.Thread).getD [])))==(0:Int)):AV)=.bool (decide (x_1.Lost>(0:Int))||((lN (((yI zE x_1.Thread).getD [])))==(0:Int)))) an))⟩
  obtain ⟨o_2,h_6,h⟩:=bind_some h
  refine y9 (mk [(2,Pp 0),(4,Pp 1),(8,.rawm b_1),(10,Pp 4),(11,.own 5 ((o_2).length)),(29,.sl false 4 (Mp zA l_1)),(30,Ii (lN (l_1))),(31,Ii v_1)] [(0,Vb 26 (zM h_1)),(1,Vb 31 [.nilsl,.nilsl,.nilsl,.own 2 0]),(2,Rb 59 4 []),(3,.live (.fam (.op b_1 false [.int .i64] (.nm 59 4 42 6) (List.map (mpE (AV.int .i64) yW) zE) (Ii x_1.Thread)))),(4,Vb 59 (zZ x_1)),(5,.live (.rowQ 59 4 (Mp zA (ini o_2)) (!(o_2).isEmpty) (z5 (lst o_2)++[.own 6 ((lst o_2).Events).length]))),(6,Rb 42 6 (Mp zD (lst o_2).Events))] 7) ?_ ?_
  ·replace h:=h_6
   refine cd 46 (decide (x_1.Lost>(0:Int))||((lN (((yI zE x_1.Thread).getD [])))==(0:Int))) ?_ ?_
   rotate_left
   ·intro g_4;replace h:=zO g_4 h
    refine sk ?_
    cases h
    exact ⟨rfl,(sw [0,1,2,3,4,5,6] [] [.s 2,.s 4,.s 8,.s 10,.s 11,.s 29,.s 30,.s 31] [.s 0,.s 1,.s 2,.s 3,.s 4,.s 5,.s 6] an)⟩
   intro g_4;replace h:=zP g_4 h
   refine uI (zD0 (e:=59) (sz:=4) 5 6 (Mp zA ((yI zE x_1.Thread).getD [])) (by kernel_rfl) (ac ((List.length_map _).symm:((lst ((yI zE x_1.Thread).getD [])).Events).length=(Mp zD (lst ((yI zE x_1.Thread).getD [])).Events:List AV).length) (ac (zEV zA ((yI zE x_1.Thread).getD []) _ rfl:(Mp zA ((yI zE x_1.Thread).getD []):List AV)=List.map zA (ini ((yI zE x_1.Thread).getD []))++bif (!(((yI zE x_1.Thread).getD [])).isEmpty) then [.agg (z5 (lst ((yI zE x_1.Thread).getD []))++[.sl false 6 (Mp zD (lst ((yI zE x_1.Thread).getD [])).Events)])] else []) an))) ?_
   refine wk [0,1,2,3,4,5] [] [.s 2,.s 4,.s 8,.s 10,.s 11,.s 29,.s 30,.s 31] [.s 0,.s 1,.s 2,.s 3,.s 4,.s 5] [(2,Pp 0),(4,Pp 1),(8,.rawm b_1),(10,Pp 4),(11,.own 5 ((((yI zE x_1.Thread).getD [])).length)),(29,.sl false 4 (Mp zA l_1)),(30,Ii (lN (l_1))),(31,Ii v_1)] [(0,Vb 26 (zM h_1)),(1,Vb 31 [.nilsl,.nilsl,.nilsl,.own 2 0]),(2,Rb 59 4 []),(3,.live (.fam (.op b_1 false [.int .i64] (.nm 59 4 42 6) (List.map (mpE (AV.int .i64) yW) zE) (Ii x_1.Thread)))),(4,Vb 59 (zZ x_1)),(5,Rb 59 4 (Mp zA ((yI zE x_1.Thread).getD [])))] an ?_
   obtain ⟨_,h_7,h⟩:=bind_some h;replace h_7:=wN h_7
   refine rg [(8,{ id:=6 }),(9,{ id:=7,l:=(Mp zA ((yI zE x_1.Thread).getD [])++[.agg [Ii x_1.Thread,Ii x_1.Serial,Ii x_1.Lost,.nilsl]]),n:=((((yI zE x_1.Thread).getD [])).length+1) })] [2,4,8,10,11,29,30,31] [0,1,2,3,4,7] 8 [Pp 0,Pp 1,.rawm b_1,Pp 4,.own 7 ((((yI zE x_1.Thread).getD [])).length+1),.sl false 4 (Mp zA l_1),Ii (lN (l_1)),Ii v_1] [Vb 26 (zM h_1),Vb 31 [.nilsl,.nilsl,.nilsl,.own 2 0],Rb 59 4 [],.live (.fam (.op b_1 false [.int .i64] (.nm 59 4 42 6) (List.map (mpE (AV.int .i64) yW) zE) (Ii x_1.Thread))),Vb 59 (zZ x_1),Rb 59 4 (Mp zA ((yI zE x_1.Thread).getD [])++[.agg [Ii x_1.Thread,Ii x_1.Serial,Ii x_1.Lost,.nilsl]])] zG (ac ((List.length_map _).symm:(((yI zE x_1.Thread).getD [])).length=(Mp zA ((yI zE x_1.Thread).getD [])).length) (ac (rfl:1=([.agg [Ii x_1.Thread,Ii x_1.Serial,Ii x_1.Lost,.nilsl]]:List AV).length) (ac (rfl:((Mp zA ((yI zE x_1.Thread).getD [])++[.agg [Ii x_1.Thread,Ii x_1.Serial,Ii x_1.Lost,.nilsl]]):List AV)=List.map zA ((yI zE x_1.Thread).getD [])++[.agg [Ii x_1.Thread,Ii x_1.Serial,Ii x_1.Lost,.nilsl]]) (ac (by simp:((((yI zE x_1.Thread).getD [])).length+1)=((List.map zA ((yI zE x_1.Thread).getD [])++[.agg [Ii x_1.Thread,Ii x_1.Serial,Ii x_1.Lost,.nilsl]]):List AV).length) (ac (by rw [List.length_map];exact h_7:((List.map zA ((yI zE x_1.Thread).getD []):List AV).length+([.agg [Ii x_1.Thread,Ii x_1.Serial,Ii x_1.Lost,.nilsl]]:List AV).length) * 48≤140737488355328) an))))) ?_
   cases h
   exact ⟨rfl,(Sub.trans (zEh (e:=59) (sz:=4) 7 8 42 6 (Mp zA ((yI zE x_1.Thread).getD [])) [Ii x_1.Thread,Ii x_1.Serial,Ii x_1.Lost] (by kernel_rfl) (ac (rfl:(Mp zA ((yI zE x_1.Thread).getD [])++[.agg [Ii x_1.Thread,Ii x_1.Serial,Ii x_1.Lost,.nilsl]]:List AV)=List.map zA ((yI zE x_1.Thread).getD [])++[.agg ([Ii x_1.Thread,Ii x_1.Serial,Ii x_1.Lost]++[.nilsl])]) an)) (Sub.trans (zFh [0,1,2,3,4,7,8] [] [.s 2,.s 4,.s 8,.s 10,.a 11 (.own 5 (((((yI zE x_1.Thread).getD [])++[(⟨x_1.Thread,x_1.Serial,x_1.Lost,[]⟩:zB)])).length)),.s 29,.s 30,.s 31] [.s 0,.s 1,.s 2,.s 3,.s 4,.a 5 (.live (.rowQ 59 4 (Mp zA (ini (((yI zE x_1.Thread).getD [])++[(⟨x_1.Thread,x_1.Serial,x_1.Lost,[]⟩:zB)]))) (!((((yI zE x_1.Thread).getD [])++[(⟨x_1.Thread,x_1.Serial,x_1.Lost,[]⟩:zB)])).isEmpty) (z5 (lst (((yI zE x_1.Thread).getD [])++[(⟨x_1.Thread,x_1.Serial,x_1.Lost,[]⟩:zB)]))++[.own 6 ((lst (((yI zE x_1.Thread).getD [])++[(⟨x_1.Thread,x_1.Serial,x_1.Lost,[]⟩:zB)])).Events).length]))),.a 6 (Rb 42 6 (Mp zD (lst (((yI zE x_1.Thread).getD [])++[(⟨x_1.Thread,x_1.Serial,x_1.Lost,[]⟩:zB)])).Events))] (sl2:=[(2,Pp 0),(4,Pp 1),(8,.rawm b_1),(10,Pp 4),(11,.own 5 (((((yI zE x_1.Thread).getD [])++[(⟨x_1.Thread,x_1.Serial,x_1.Lost,[]⟩:zB)])).length)),(29,.sl false 4 (Mp zA l_1)),(30,Ii (lN (l_1))),(31,Ii v_1)]) (bx2:=[(0,Vb 26 (zM h_1)),(1,Vb 31 [.nilsl,.nilsl,.nilsl,.own 2 0]),(2,Rb 59 4 []),(3,.live (.fam (.op b_1 false [.int .i64] (.nm 59 4 42 6) (List.map (mpE (AV.int .i64) yW) zE) (Ii x_1.Thread)))),(4,Vb 59 (zZ x_1)),(5,.live (.rowQ 59 4 (Mp zA (ini (((yI zE x_1.Thread).getD [])++[(⟨x_1.Thread,x_1.Serial,x_1.Lost,[]⟩:zB)]))) (!((((yI zE x_1.Thread).getD [])++[(⟨x_1.Thread,x_1.Serial,x_1.Lost,[]⟩:zB)])).isEmpty) (z5 (lst (((yI zE x_1.Thread).getD [])++[(⟨x_1.Thread,x_1.Serial,x_1.Lost,[]⟩:zB)]))++[.own 6 ((lst (((yI zE x_1.Thread).getD [])++[(⟨x_1.Thread,x_1.Serial,x_1.Lost,[]⟩:zB)])).Events).length]))),(6,Rb 42 6 (Mp zD (lst (((yI zE x_1.Thread).getD [])++[(⟨x_1.Thread,x_1.Serial,x_1.Lost,[]⟩:zB)])).Events))]) (by kernel_rfl) (ac (congrArg (AV.own _) (by first | (simp;done) | (simp;omega)):(.own 7 ((((yI zE x_1.Thread).getD [])).length+1):AV)=.own 7 (((((yI zE x_1.Thread).getD [])++[(⟨x_1.Thread,x_1.Serial,x_1.Lost,[]⟩:zB)])).length)) (ar 59 (ar 4 (ac ((congrArg (List.map _) (pY _ _)).symm:((Mp zA ((yI zE x_1.Thread).getD [])):List AV)=List.map zA (ini (((yI zE x_1.Thread).getD [])++[(⟨x_1.Thread,x_1.Serial,x_1.Lost,[]⟩:zB)]))) (ac ((zEE _ _).symm:true=(!((((yI zE x_1.Thread).getD [])++[(⟨x_1.Thread,x_1.Serial,x_1.Lost,[]⟩:zB)])).isEmpty)) (ac (rfl:vZ (z5 (lst (((yI zE x_1.Thread).getD [])++[(⟨x_1.Thread,x_1.Serial,x_1.Lost,[]⟩:zB)]))++[.own 8 ((lst (((yI zE x_1.Thread).getD [])++[(⟨x_1.Thread,x_1.Serial,x_1.Lost,[]⟩:zB)])).Events).length])=true) (ac (by first | (simp only [yV];done) | simp [yV]:(Ii x_1.Thread:AV)=Ii ((lst (((yI zE x_1.Thread).getD [])++[(⟨x_1.Thread,x_1.Serial,x_1.Lost,[]⟩:zB)])).Thread)) (ac (by first | (simp only [yV];done) | simp [yV]:(Ii x_1.Serial:AV)=Ii ((lst (((yI zE x_1.Thread).getD [])++[(⟨x_1.Thread,x_1.Serial,x_1.Lost,[]⟩:zB)])).Serial)) (ac (by first | (simp only [yV];done) | simp [yV]:(Ii x_1.Lost:AV)=Ii ((lst (((yI zE x_1.Thread).getD [])++[(⟨x_1.Thread,x_1.Serial,x_1.Lost,[]⟩:zB)])).Lost)) (ac (congrArg (AV.own _) (by first | (simp only [yV];done) | simp [yV]):(.own 8 0:AV)=.own 8 (((lst (((yI zE x_1.Thread).getD [])++[(⟨x_1.Thread,x_1.Serial,x_1.Lost,[]⟩:zB)])).Events).length)) (ar 42 (ar 6 (ac (by first | (simp only [yV];done) | simp [yV]:([]:List AV)=List.map zD (lst (((yI zE x_1.Thread).getD [])++[(⟨x_1.Thread,x_1.Serial,x_1.Lost,[]⟩:zB)])).Events) an)))))))))))))) (sw [0,1,2,3,4,5,6] [] [.s 2,.s 4,.s 8,.s 10,.s 11,.s 29,.s 30,.s 31] [.s 0,.s 1,.s 2,.s 3,.s 4,.s 5,.s 6] an)))⟩
  obtain ⟨r_3,h_8,h⟩:=bind_some h
  obtain ⟨_,h_9,h⟩:=bind_some h;replace h_9:=wN h_9
  refine rg [(6,{ av:=(.own 0 (r_3).length),gids:=[5,6],giv:=[(.rowQ 59 4 (Mp zA (ini o_2)) (!(o_2).isEmpty) (z5 (lst o_2)++[.own 1 ((lst o_2).Events).length])),(.row 42 6 (Mp zD (lst o_2).Events))],ids:=[7,8],l:=[.own 0 (o_2).length,.sl false 6 (Mp zD x_1.Events)],post:=[(.rowQ 59 4 (Mp zA (ini r_3)) (!(r_3).isEmpty) (z5 (lst r_3)++[.own 1 ((lst r_3).Events).length])),(.row 42 6 (Mp zD (lst r_3).Events))] }),(7,{ av:=(yW r_3),dep:=true,es:=(List.map (mpE (AV.int .i64) yW) (uK zE x_1.Thread r_3)),ids:=[7,8],n:=3,x:=true })] [2,4,8,29,30,31] [0,1,2,3] 9 [Pp 0,Pp 1,.rawm b_1,.sl false 4 (Mp zA l_1),Ii (lN (l_1)),Ii v_1] [Vb 26 (zM h_1),Vb 31 [.nilsl,.nilsl,.nilsl,.own 2 0],Rb 59 4 [],.live (.fam (.cl b_1 false [.int .i64] (.nm 59 4 42 6) (List.map (mpE (AV.int .i64) yW) (uK zE x_1.Thread r_3))))] zG (ar ([.own 5 ((o_2).length),.sl false 6 (Mp zD x_1.Events)]:List AV) (ac (rfl:([.live (.rowQ 59 4 (Mp zA (ini o_2)) (!(o_2).isEmpty) (z5 (lst o_2)++[.own 6 ((lst o_2).Events).length])),Rb 42 6 (Mp zD (lst o_2).Events)]:List zT)=[.live (.rowQ 59 4 (Mp zA (ini o_2)) (!(o_2).isEmpty) (z5 (lst o_2)++[.own 6 ((lst o_2).Events).length])),Rb 42 6 (Mp zD (lst o_2).Events)]) (ac (zKq F o_2 x_1.Events r_3 h_8:zW prog 29 [] [(.rowQ 59 4 (Mp zA (ini o_2)) (!(o_2).isEmpty) (z5 (lst o_2)++[.own 1 ((lst o_2).Events).length])),(.row 42 6 (Mp zD (lst o_2).Events))] [.own 0 (o_2).length,.sl false 6 (Mp zD x_1.Events)] [(.rowQ 59 4 (Mp zA (ini r_3)) (!(r_3).isEmpty) (z5 (lst r_3)++[.own 1 ((lst r_3).Events).length])),(.row 42 6 (Mp zD (lst r_3).Events))] (.own 0 (r_3).length)) (ar b_1 (ac (rfl:(Ii x_1.Thread:AV)=Ii x_1.Thread) (ac (zAS:vT prog 3 false [.int .i64]) (ac (zDW (f:=(AV.int .i64)) (g:=yW) zAN zE x_1.Thread r_3:zCO (List.map (mpE (AV.int .i64) yW) zE) (Ii x_1.Thread) (yW r_3) (List.map (mpE (AV.int .i64) yW) (uK zE x_1.Thread r_3))) (ac (zHb (l:=zE) h_9:(List.map (mpE (AV.int .i64) yW) zE:List (AV×AV)).length<maxLen) (ac (congrArg (AV.own _) (zN4 _ _).symm:(.own 7 ((r_3).length):AV)=.own 7 ((Mp zA (ini r_3)).length+bif (!(r_3).isEmpty) then 1 else 0)) (ac (by rw [List.length_map]:([.live (.rowQ 59 4 (List.map zA (ini r_3)) (!(r_3).isEmpty) (z5 (lst r_3)++[.own 8 ((lst r_3).Events).length])),Rb 42 6 (List.map zD (lst r_3).Events)]:List zT)=[.live (.rowQ 59 4 (List.map zA (ini r_3)) (!(r_3).isEmpty) (z5 (lst r_3)++[.own 8 (List.map zD (lst r_3).Events).length])),Rb 42 6 (List.map zD (lst r_3).Events)]) an)))))))))) ?_
  refine rg [] [2,4,8,29,30,31] [0,1,2,3] 9 [Pp 0,Pp 1,.rawm b_1,.sl false 4 (Mp zA l_1),Ii (lN (l_1)),Ii (zR (v_1+(1:Int)))] [Vb 26 (zM h_1),Vb 31 [.nilsl,.nilsl,.nilsl,.own 2 0],Rb 59 4 [],.live (.fam (.cl b_1 false [.int .i64] (.nm 59 4 42 6) (List.map (mpE (AV.int .i64) yW) (uK zE x_1.Thread r_3))))] zG an ?_
  exact ⟨_,(sw [0,1,2,3] [] [.s 2,.s 4,.s 8,.s 29,.s 30,.s 31] [.s 0,.s 1,.s 2,.s 3] an),_,_,rfl,h⟩
 refine sq ?_
 refine uI (zOk (ag:=false) (ks:=[.int .i64]) 3 4 [8] (List.map (mpE (AV.int .i64) (fun l=>AV.sl false 4 (l.map zA))) o_1) (by kernel_rfl) (ar ([.rawm b_1]:List AV) (ac (zO2 (f:=(AV.int .i64)) (g:=yW) zGc o_1:∀ x∈List.map (mpE (AV.int .i64) yW) o_1,zFZ x.2∧zEP 4 6 x.2=true) (ac (zOV (f:=(AV.int .i64)) (g:=yW) (g2:=(fun l=>AV.sl false 4 (l.map zA))) zFP o_1:(List.map (mpE (AV.int .i64) (fun l=>AV.sl false 4 (l.map zA))) o_1)=(List.map (mpE (AV.int .i64) yW) o_1).map fun x=>(x.1,fzV x.2)) an)))) ?_
 refine wk [0,1,2,4] [] [.s 2,.s 4,.s 8] [.s 0,.s 1,.s 2,.s 3] [(2,Pp 0),(4,Pp 1),(8,.mp 3)] [(0,Vb 26 (zM h_1)),(1,Vb 31 [.nilsl,.nilsl,.nilsl,.own 2 0]),(2,Rb 59 4 []),(3,.live (.map false [.int .i64] (List.map (mpE (AV.int .i64) (fun l=>AV.sl false 4 (l.map zA))) o_1)))] an ?_
 refine rg [(2,{ id:=4 })] [2,4,8,12] [0,1,2,3,4] 5 [Pp 0,Pp 1,.mp 3,Pp 4] [Vb 26 (zM h_1),Vb 31 [.nilsl,.nilsl,.nilsl,.own 2 0],Rb 59 4 [],.live (.map false [.int .i64] (List.map (mpE (AV.int .i64) (fun l=>AV.sl false 4 (l.map zA))) o_1)),Vb 31 [.sl false 3 (Mp zF h_1.Threads),.sl false 2 (Mp zC h_1.Domains),.sl false 5 (Mp zJ h_1.Snaps),.nilsl]] zG an ?_
 refine uI (uV 4 3 5 59 4 (by kernel_rfl)) ?_
 refine wk [0,1,2,3,4,5] [] [.s 2,.s 4,.s 8,.s 12] [.s 0,.s 1,.s 2,.s 3,.s 4,.s 5] [(2,Pp 0),(4,Pp 1),(8,.mp 3),(12,Pp 4)] [(0,Vb 26 (zM h_1)),(1,Vb 31 [.nilsl,.nilsl,.nilsl,.own 2 0]),(2,Rb 59 4 []),(3,.live (.map false [.int .i64] (List.map (mpE (AV.int .i64) (fun l=>AV.sl false 4 (l.map zA))) o_1))),(4,Vb 31 [.sl false 3 (Mp zF h_1.Threads),.sl false 2 (Mp zC h_1.Domains),.sl false 5 (Mp zJ h_1.Snaps),.own 5 0]),(5,Rb 59 4 [])] an ?_
 refine sq ?_
 refine sr [(2,{ n:=(h_1.Threads).length })] [4,8,12,68,69,70] [1,2,3,4,5] 6 [Pp 1,.mp 3,Pp 4,.sl false 3 (Mp zF h_1.Threads),Ii (lN (h_1.Threads)),Ii 0] [Vb 31 [.nilsl,.nilsl,.nilsl,.own 2 0],Rb 59 4 [],.live (.map false [.int .i64] (List.map (mpE (AV.int .i64) (fun l=>AV.sl false 4 (l.map zA))) o_1)),Vb 31 [.sl false 3 (Mp zF h_1.Threads),.sl false 2 (Mp zC h_1.Domains),.sl false 5 (Mp zJ h_1.Snaps),.own 5 0],Rb 59 4 []] zG (ac (z9 _:((Mp zF h_1.Threads)).length=(h_1.Threads).length) an) ?_
 obtain ⟨o_3,tW,h⟩:=bind_some h
 refine y9 (mk [(4,Pp 0),(12,Pp 2)] [(0,Vb 31 [.nilsl,.nilsl,.nilsl,.own 1 0]),(1,Rb 59 4 []),(2,Vb 31 [.sl false 3 (Mp zF h_1.Threads),.sl false 2 (Mp zC h_1.Domains),.sl false 5 (Mp zJ h_1.Snaps),.own 3 ((o_3).length)]),(3,Rb 59 4 (Mp zA o_3))] 4) ?_ ?_
 ·replace h:=tW
  refine yC (id:=2) (by kernel_rfl) ?_
  refine wk [1,2,3,4,5] [] [.s 4,.s 8,.s 12,.s 68,.s 69,.s 70] [.s 0,.s 1,.s 2,.s 3,.s 4] [(4,Pp 0),(8,.mp 2),(12,Pp 3),(68,.sl false 3 (Mp zF h_1.Threads)),(69,Ii (lN (h_1.Threads))),(70,Ii 0)] [(0,Vb 31 [.nilsl,.nilsl,.nilsl,.own 1 0]),(1,Rb 59 4 []),(2,.live (.map false [.int .i64] (List.map (mpE (AV.int .i64) (fun l=>AV.sl false 4 (l.map zA))) o_1))),(3,Vb 31 [.sl false 3 (Mp zF h_1.Threads),.sl false 2 (Mp zC h_1.Domains),.sl false 5 (Mp zJ h_1.Snaps),.own 4 0]),(4,Rb 59 4 [])] an ?_
  refine xH (fun n st=>∃ (v_2:Int),∃ (z6:List zB),st=mk [(4,Pp 0),(8,.mp 2),(12,Pp 3),(68,.sl false 3 (Mp zF h_1.Threads)),(69,Ii (lN (h_1.Threads))),(70,Ii v_2)] [(0,Vb 31 [.nilsl,.nilsl,.nilsl,.own 1 0]),(1,Rb 59 4 []),(2,.live (.map false [.int .i64] (List.map (mpE (AV.int .i64) (fun l=>AV.sl false 4 (l.map zA))) o_1))),(3,Vb 31 [.sl false 3 (Mp zF h_1.Threads),.sl false 2 (Mp zC h_1.Domains),.sl false 5 (Mp zJ h_1.Snaps),.own 4 ((z6).length)]),(4,Rb 59 4 (Mp zA z6))] 5∧zAX F h_1 o_1 n v_2 z6=some o_3) F (by kernel_rfl) ⟨_,_,rfl,h⟩ ?_ ?_
  ·rintro _ ⟨_,_,_,h⟩;exact xX (h:(none:Option (List zB))=some o_3)
  rintro n_2 _ ⟨v_2,z6,rfl,h⟩
  replace h:kJ F h_1 o_1 (zAX F h_1 o_1 n_2) v_2 z6=some o_3:=h
  unfold kJ at h
  refine sr [] [4,8,12,68,69,70,71] [0,1,2,3,4] 5 [Pp 0,.mp 2,Pp 3,.sl false 3 (Mp zF h_1.Threads),Ii (lN (h_1.Threads)),Ii v_2,.bool (decide (v_2<(lN (h_1.Threads))))] [Vb 31 [.nilsl,.nilsl,.nilsl,.own 1 0],Rb 59 4 [],.live (.map false [.int .i64] (List.map (mpE (AV.int .i64) (fun l=>AV.sl false 4 (l.map zA))) o_1)),Vb 31 [.sl false 3 (Mp zF h_1.Threads),.sl false 2 (Mp zC h_1.Domains),.sl false 5 (Mp zJ h_1.Snaps),.own 4 ((z6).length)],Rb 59 4 (Mp zA z6)] zG an ?_
  refine sq ?_
  refine cd 71 (decide (v_2<(lN (h_1.Threads)))) ?_ ?_
  rotate_left
  ·intro g_5;replace h:=zO g_5 h
   refine xS (id:=2) (by kernel_rfl) ?_
   cases h
   exact ⟨rfl,(sw [0,1,3,4] [] [.s 4,.s 12] [.s 0,.s 1,.s 2,.s 3] an)⟩
  intro g_5;replace h:=zP g_5 h
  refine sk ?_
  refine sq ?_
  refine yC (id:=3) (by kernel_rfl) ?_
  refine sq ?_
  obtain ⟨x_2,tX,h⟩:=bind_some h
  refine rg [(0,{ av:=zF x_2 }),(2,{ id:=5 })] [4,8,12,14,68,69,70] [0,1,2,3,4,5] 6 [Pp 0,.mp 2,Pp 3,Pp 5,.sl false 3 (Mp zF h_1.Threads),Ii (lN (h_1.Threads)),Ii v_2] [Vb 31 [.nilsl,.nilsl,.nilsl,.own 1 0],Rb 59 4 [],.live (.map false [.int .i64] (List.map (mpE (AV.int .i64) (fun l=>AV.sl false 4 (l.map zA))) o_1)),Vb 31 [.sl false 3 (Mp zF h_1.Threads),.sl false 2 (Mp zC h_1.Domains),.sl false 5 (Mp zJ h_1.Snaps),.own 4 ((z6).length)],Rb 59 4 (Mp zA z6),Vb 66 (z8 x_2)] zG (ac (yP tX:xG (Mp zF h_1.Threads) v_2=some (zF x_2)) an) ?_
  obtain ⟨_,zCQ,h⟩:=bind_some h;replace zCQ:=wN zCQ
  refine rg [(5,{ av:=(.sl false 4 (Mp zA ((yI o_1 x_2.Id).getD []))),b:=true,g:=(yI o_1 x_2.Id).isSome,n:=4 }),(6,{ id:=6,l:=(Mp zA (z6++((yI o_1 x_2.Id).getD []))),n:=((z6++((yI o_1 x_2.Id).getD []))).length })] [4,8,12,68,69,70] [0,1,2,3,6] 7 [Pp 0,.mp 2,Pp 3,.sl false 3 (Mp zF h_1.Threads),Ii (lN (h_1.Threads)),Ii v_2] [Vb 31 [.nilsl,.nilsl,.nilsl,.own 1 0],Rb 59 4 [],.live (.map false [.int .i64] (List.map (mpE (AV.int .i64) (fun l=>AV.sl false 4 (l.map zA))) o_1)),Vb 31 [.sl false 3 (Mp zF h_1.Threads),.sl false 2 (Mp zC h_1.Domains),.sl false 5 (Mp zJ h_1.Snaps),.own 6 (((z6++((yI o_1 x_2.Id).getD []))).length)],Rb 59 4 (Mp zA (z6++((yI o_1 x_2.Id).getD [])))] zG (ac (zAS:vT prog 3 false [.int .i64]) (ac (zEL (f:=(AV.int .i64)) (g:=(fun l=>AV.sl false 4 (l.map zA))) zAN o_1 x_2.Id []:kC (List.map (mpE (AV.int .i64) (fun l=>AV.sl false 4 (l.map zA))) o_1) (Ii x_2.Id) (.sl false 4 []) (.sl false 4 (Mp zA ((yI o_1 x_2.Id).getD []))) (yI o_1 x_2.Id).isSome) (ac (by first | (simp;done) | (simp;omega):(z6).length=((List.map zA z6)).length) (ac (trivial:True) (ac (zDy _ _:(Mp zA (z6++((yI o_1 x_2.Id).getD [])))=(Mp zA z6)++(Mp zA ((yI o_1 x_2.Id).getD []))) (ac (by simp:((z6++((yI o_1 x_2.Id).getD []))).length=((List.map zA (z6++((yI o_1 x_2.Id).getD [])))).length) (ac (by first | (simp;done) | simpa using zCQ:(((List.map zA z6):List AV).length+((List.map zA ((yI o_1 x_2.Id).getD [])):List AV).length) * 48≤140737488355328) an))))))) ?_
  refine rg [] [4,8,12,68,69,70] [0,1,2,3,6] 7 [Pp 0,.mp 2,Pp 3,.sl false 3 (Mp zF h_1.Threads),Ii (lN (h_1.Threads)),Ii (zR (v_2+(1:Int)))] [Vb 31 [.nilsl,.nilsl,.nilsl,.own 1 0],Rb 59 4 [],.live (.map false [.int .i64] (List.map (mpE (AV.int .i64) (fun l=>AV.sl false 4 (l.map zA))) o_1)),Vb 31 [.sl false 3 (Mp zF h_1.Threads),.sl false 2 (Mp zC h_1.Domains),.sl false 5 (Mp zJ h_1.Snaps),.own 6 (((z6++((yI o_1 x_2.Id).getD []))).length)],Rb 59 4 (Mp zA (z6++((yI o_1 x_2.Id).getD [])))] zG an ?_
  exact ⟨_,(sw [0,1,2,3,6] [] [.s 4,.s 8,.s 12,.s 68,.s 69,.s 70] [.s 0,.s 1,.s 2,.s 3,.s 4] an),_,_,rfl,h⟩
 refine sr [] [4,5] [0,3] 4 [Pp 0,Ii 0] [Vb 31 [.sl false 3 (Mp zF h_1.Threads),.sl false 2 (Mp zC h_1.Domains),.sl false 5 (Mp zJ h_1.Snaps),.own 3 ((o_3).length)],Rb 59 4 (Mp zA o_3)] zG an ?_
 refine wk [0] [3] [.s 4,.s 5] [.a 0 (Vb 31 [.sl false 3 (Mp zF (((⟨h_1,o_3⟩:zQ).Head).Threads)),.sl false 2 (Mp zC (((⟨h_1,o_3⟩:zQ).Head).Domains)),.sl false 5 (Mp zJ (((⟨h_1,o_3⟩:zQ).Head).Snaps)),.sl false 4 (Mp zA ((⟨h_1,o_3⟩:zQ).Parts))])] [(4,Pp 0),(5,Ii 0)] [(0,Vb 31 [.sl false 3 (Mp zF (((⟨h_1,o_3⟩:zQ).Head).Threads)),.sl false 2 (Mp zC (((⟨h_1,o_3⟩:zQ).Head).Domains)),.sl false 5 (Mp zJ (((⟨h_1,o_3⟩:zQ).Head).Snaps)),.sl false 4 (Mp zA ((⟨h_1,o_3⟩:zQ).Parts))])] (ar 31 (ac (rfl:vZ [.sl false 3 (Mp zF (((⟨h_1,o_3⟩:zQ).Head).Threads)),.sl false 2 (Mp zC (((⟨h_1,o_3⟩:zQ).Head).Domains)),.sl false 5 (Mp zJ (((⟨h_1,o_3⟩:zQ).Head).Snaps)),.sl false 4 (Mp zA ((⟨h_1,o_3⟩:zQ).Parts))]=true) (ac (by first | (simp;done) | (simp;omega):(o_3).length=((List.map zA o_3)).length) (ar 3 (ac (rfl:((Mp zF h_1.Threads):List AV)=(Mp zF (((⟨h_1,o_3⟩:zQ).Head).Threads))) (ac (rfl:(!false||false)=true) (ar 2 (ac (rfl:((Mp zC h_1.Domains):List AV)=(Mp zC (((⟨h_1,o_3⟩:zQ).Head).Domains))) (ac (rfl:(!false||false)=true) (ar 5 (ac (rfl:((Mp zJ h_1.Snaps):List AV)=(Mp zJ (((⟨h_1,o_3⟩:zQ).Head).Snaps))) (ac (rfl:(!false||false)=true) (ar 4 (ac (rfl:((Mp zA o_3):List AV)=(Mp zA ((⟨h_1,o_3⟩:zQ).Parts))) (ac (rfl:(!false||false)=true) an))))))))))))))) ?_
 refine rt ?_
 cases h
 exact ⟨.inr rfl,Nat.le_of_ble_eq_true rfl,by kernel_rfl⟩
end Go.Ab
