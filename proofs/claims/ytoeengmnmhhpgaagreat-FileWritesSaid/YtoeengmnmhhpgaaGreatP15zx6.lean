/- Printed: the typed Lean functions of the Go functions, or the proofs that the Go functions meet them. No conditions but those that the theorems name. -/
import Derived.Test.YtoeengmnmhhpgaaGreatP15zx5
namespace Go.Ab
open Go Go.Proofs
set_option linter.unusedVariables false
theorem zEm (F:Nat) (zZ:List (List Int)) (z6:List zV) (zF:List Int) (r:xD×Int×Int) (h:GM F zZ z6 zF=some r):yS prog 150 [] [] [Ss zZ,Sq 2 yI z6,Sb zF] [] (.tuple [x9 r.1,Ii r.2.1,Ii r.2.2]):=by
 refine tI Tryz.f150 ?_;unfold GM at h;refine sE [iH 0 { id:=0 }] [(0,Ss zZ),(1,Sq 2 yI z6),(2,Sb zF),(6,Pp 0)] [(0,pS)] 1 (sq (sq (bE h fun zA zJ h=>r0 [iK 2 {} (NG F zZ z6 zA zJ)] [(25,.bool (zA != 0))] (ch 25 h ?_ ?_))))
 ·intro z8 h;refine s1 [] [0,1,2] [(7,Ii 0),(8,Ii 1)] (wz [0] [] [] [0] [(6,Pp 0),(7,Ii 0),(8,Ii 1)] [(0,Vb 112 (u7 zL2))] (ar 112 (ar true (ar (Ii 0) (ar (Ii 0) (ar (.str ([]:List Int):AV) (ar (Ii 0) (ar (Ii 0) (ar ([]:List AV) an)))))))) ?_);cases h;exact rt rx
 intro z8 h;refine sk (sq (bE h fun zC zW h=>r2 [iK 1 { ids:=[1] } (ZR F zF 2 zC zW)] [] [(9,.own 1 zC.1.length),(11,Ii zC.2.2)] [] [(1,Rb 3 1 (Mi zC.1))] 2 (sq (c0 [] 34 h [] ?_ ?_))))
 ·intro yV h;refine s2 [] [0,1,2,9] [(7,Ii 0),(8,Ii zC.2.2)] [1] [] 2 (wz [0] [] [] [0] [(6,Pp 0),(7,Ii 0),(8,Ii zC.2.2)] [(0,Vb 112 (u7 zL2))] (ar 112 (ar true (ar (Ii 0) (ar (Ii 0) (ar (.str ([]:List Int):AV) (ar (Ii 0) (ar (Ii 0) (ar ([]:List AV) an)))))))) ?_);cases h;exact rt rx
 intro yV h;refine sk (sq (sq (bE h fun zN xR h=>?_)));refine xP (mk [(0,Ss zZ),(1,Sq 2 yI z6),(2,Sb zF),(6,Pp 0),(9,.own 1 zC.1.length),(46,.bool zN)] [(0,pS),(1,Rb 3 1 (Mi zC.1))] 2) ?_ ?_
 ·replace h:=xR;refine bE h fun zH yU h=>?_;rcases bft (decide (zH<1)) with zS | zS
  ·replace h:=xN zS h;refine r0 [iH 2 { av:=Ii zH },iG 5 4,iH 9 Ht,iC (qH yU:(0:Int)<=(0:Int)),iC (by first | (simp;done) | simpa using qJ yU:0<((zC.1.length:Nat):Int)),iC (qI yU:(Mi zC.1)[0]?=some (Ii zH)),iR 5 zS] [(46,.bool true)] ?_;cases h;exact ⟨rfl,(sI 2 [0,1,2,6,9,46])⟩
  ·replace h:=xO zS h;refine bE h fun yO xB h=>r0 [iH 2 { av:=Ii zH },iH 7 { av:=Ii yO },iH 9 Hf,iC (qH yU:(0:Int)<=(0:Int)),iC (by first | (simp;done) | simpa using qJ yU:0<((zC.1.length:Nat):Int)),iC (qI yU:(Mi zC.1)[0]?=some (Ii zH)),iR 2 zS,iC (qH xB:(0:Int)<=(0:Int)),iC (by first | (simp;done) | simpa using qJ xB:0<((zC.1.length:Nat):Int)),iC zS,iC (qI xB:(Mi zC.1)[0]?=some (Ii yO)),iR 2 zS] [(46,.bool (decide (yO>12)))] ?_;cases h;exact ⟨rfl,(sI 2 [0,1,2,6,9,46])⟩
 refine ch 46 h ?_ ?_
 ·intro xG h;refine s2 [] [0,1,2,9] [(7,Ii 0),(8,Ii 10)] [1] [] 2 (wz [0] [] [] [0] [(6,Pp 0),(7,Ii 0),(8,Ii 10)] [(0,Vb 112 (u7 zL2))] (ar 112 (ar true (ar (Ii 0) (ar (Ii 0) (ar (.str ([]:List Int):AV) (ar (Ii 0) (ar (Ii 0) (ar ([]:List AV) an)))))))) ?_);cases h;exact rt rx
 intro xG h;refine sk (sq (bE h fun xE wA h=>bE h fun zM wS h=>r2 [iH 2 { av:=Ii xE },iC (qH wA:(0:Int)<=(0:Int)),iC (by first | (simp;done) | simpa using qJ wA:0<((zC.1.length:Nat):Int)),iC (qI wA:(Mi zC.1)[0]?=some (Ii xE)),iK 3 {} (XC xE zM wS)] [9] [(12,.bool zM.1),(13,.bool zM.2.1),(14,.bool zM.2.2.1),(15,.bool zM.2.2.2)] [1] [] 2 (sq (bE h fun zT vB h=>bE h fun zU vM h=>bE h fun yF v7 h=>bE h fun yY uB h=>bE h fun yH uX h=>r2 [iK 2 {} (NR zM.1 zT vB),iK 5 {} (NR zM.2.1 zU vM),iK 8 {} (NR zM.2.2.1 yF v7),iK 11 {} (NR zM.2.2.2 yY uB),iK 13 { ids:=[2] } (ZR F zF (zI ((zI ((zI ((zI (2+zT))+zU))+yF))+yY)) yH uX)] [2] [(11,Ii yH.2.2),(16,.own 2 yH.1.length),(17,Ii yH.2.1)] [] [(2,Rb 3 1 (Mi yH.1))] 3 (sq (c0 [] 76 h [] ?_ ?_))))))
 ·intro wR h;refine s2 [] [0,1,16] [(7,Ii 0),(8,Ii yH.2.2)] [2] [] 3 (wz [0] [] [] [0] [(6,Pp 0),(7,Ii 0),(8,Ii yH.2.2)] [(0,Vb 112 (u7 zL2))] (ar 112 (ar true (ar (Ii 0) (ar (Ii 0) (ar (.str ([]:List Int):AV) (ar (Ii 0) (ar (Ii 0) (ar ([]:List AV) an)))))))) ?_);cases h;exact rt rx
 intro wR h;refine sk (sq (bE h fun wI u5 h=>bE h fun vG uP h=>r2 [iH 2 { av:=Ii wI },iH 5 { av:=Ii vG },iH 7 { id:=3 },iC (qH u5:(0:Int)<=(0:Int)),iC (by first | (simp;done) | simpa using qJ u5:0<((yH.1.length:Nat):Int)),iC (qI u5:(Mi yH.1)[0]?=some (Ii wI)),iC (qH uP:(0:Int)<=(1:Int)),iC (by first | (simp;done) | simpa using qJ uP:1<((yH.1.length:Nat):Int)),iC (qI uP:(Mi yH.1)[1]?=some (Ii vG))] [] [(18,Pp 3)] [] [(3,Vb 112 [Ii vG,Ii wI,.str ([]:List Int),Ii 0,Ii 0,.nilsl])] 4 (s0 [] [(19,Ii 2)] (sq (s0 [] [(86,.bool zM.1)] (bE h fun zE t7 h=>?_))))));refine vL (K1:=kS prog zE 0 (fun q0=>mk [(0,Ss zZ),(1,Sq 2 yI z6),(6,Pp 0),(13,.bool zM.2.1),(14,.bool zM.2.2.1),(15,.bool zM.2.2.2),(16,.own 1 yH.1.length),(17,Ii yH.2.1),(18,Pp 2),(19,Ii q0.1)] [(0,pS),(1,Rb 3 1 (Mi yH.1)),(2,Vb 112 [Ii vG,Ii wI,.str q0.2,Ii 0,Ii 0,.nilsl])] 3) Tryz.f150 (fun q1=>[]) fun q1=>.tuple [x9 q1.1,Ii q1.2.1,Ii q1.2.2]) ?_ ?_
 ·replace h:=t7;refine ch 86 h ?_ ?_
  rotate_left
  ·intro vR h;refine sk ?_;cases h;exact ⟨rfl,(sJ [0,2,3] [0,1,6,13,14,15,16,17,18,19])⟩
  intro vR h;refine sq (sq (bE h fun uW jD h=>?_));refine xP (mk [(0,Ss zZ),(1,Sq 2 yI z6),(6,Pp 0),(13,.bool zM.2.1),(14,.bool zM.2.2.1),(15,.bool zM.2.2.2),(16,.own 1 yH.1.length),(17,Ii yH.2.1),(18,Pp 2),(19,Ii 2),(100,.bool uW)] [(0,pS),(1,Rb 3 1 (Mi yH.1)),(2,Vb 112 [Ii vG,Ii wI,.str ([]:List Int),Ii 0,Ii 0,.nilsl])] 3) ?_ ?_
  ·replace h:=jD;refine bE h fun uV t6 h=>?_;rcases bft (decide (uV<0)) with yE | yE
   ·replace h:=xN yE h;refine r0 [iH 3 { av:=Ii uV },iG 6 7,iH 13 Ht,iC (qH t6:(0:Int)<=(2:Int)),iC (by first | (simp;done) | simpa using qJ t6:2<((yH.1.length:Nat):Int)),iC (qI t6:(Mi yH.1)[2]?=some (Ii uV)),iR 8 yE] [(100,.bool true)] ?_;cases h;exact ⟨rfl,(sJ [0,2,3] [0,1,6,13,14,15,16,17,18,19,100])⟩
   ·replace h:=xO yE h;refine bE h fun nL jE h=>r0 [iH 3 { av:=Ii uV },iH 9 { av:=Ii nL },iH 13 Hf,iC (qH t6:(0:Int)<=(2:Int)),iC (by first | (simp;done) | simpa using qJ t6:2<((yH.1.length:Nat):Int)),iC (qI t6:(Mi yH.1)[2]?=some (Ii uV)),iR 3 yE,iC (qH jE:(0:Int)<=(2:Int)),iC (by first | (simp;done) | simpa using qJ jE:2<((yH.1.length:Nat):Int)),iC yE,iC (qI jE:(Mi yH.1)[2]?=some (Ii nL)),iR 2 yE,iN 11 AV.str zZ,iR 2 yE] [(100,.bool (decide (nL>=(lN zZ))))] ?_;cases h;exact ⟨rfl,(sJ [0,2,3] [0,1,6,13,14,15,16,17,18,19,100])⟩
  refine ch 100 h ?_ ?_
  ·intro uO h;refine s2 [] [0,1,16,18] [(7,Ii 0),(8,Ii 2)] [1,2] [] 3 (wz [0] [] [] [0] [(6,Pp 0),(7,Ii 0),(8,Ii 2)] [(0,Vb 112 (u7 zL2))] (ar 112 (ar true (ar (Ii 0) (ar (Ii 0) (ar (.str ([]:List Int):AV) (ar (Ii 0) (ar (Ii 0) (ar ([]:List AV) an)))))))) ?_);cases h;exact rt ry
  intro uO h;refine sk (sq (bE h fun lA p7 h=>bE h fun x_9 fZ h=>r2 [iH 4 { av:=Ii lA },iC (qH p7:(0:Int)<=(2:Int)),iC (by first | (simp;done) | simpa using qJ p7:2<((yH.1.length:Nat):Int)),iC (qI p7:(Mi yH.1)[2]?=some (Ii lA)),iF 5 AV.str fZ] [] [] [] [(2,Vb 112 [Ii vG,Ii wI,.str x_9,Ii 0,Ii 0,.nilsl])] 3 (r0 [] [(19,Ii (zI ((2:Int)+(1:Int))))] ?_)));cases h;exact ⟨rfl,(sI 3 [0,1,6,13,14,15,16,17,18,19])⟩
 intro e st1 hk;rcases zE with zX | xJ
 rotate_left
 ·obtain ⟨rfl,hf⟩:=hk;cases h;exact ⟨st1,Sub.refl _ _,.inr rfl,hf⟩
 obtain ⟨rfl,hs⟩:=hk;refine ⟨_,hs,?_⟩;refine sq (s0 [] [(112,.bool zM.2.1)] (bE h fun zR h_21 h=>?_));refine xP (mk [(0,Ss zZ),(1,Sq 2 yI z6),(6,Pp 0),(14,.bool zM.2.2.1),(15,.bool zM.2.2.2),(16,.own 1 yH.1.length),(17,Ii yH.2.1),(18,Pp 2),(19,Ii zR.1)] [(0,pS),(1,Rb 3 1 (Mi yH.1)),(2,Vb 112 [Ii vG,Ii wI,.str zX.2,Ii zR.2,Ii 0,.nilsl])] 3) ?_ ?_
 ·replace h:=h_21;refine ch 112 h ?_ ?_
  rotate_left
  ·intro tJ h;refine sk ?_;cases h;exact ⟨rfl,(sI 3 [0,1,6,14,15,16,17,18,19])⟩
  intro tJ h;refine sq (bE h fun x_10 rP h=>r2 [iH 3 { av:=Ii x_10 },iC (qH rP:0<=zX.1),iC (by first | (simp;done) | simpa using qJ rP:zX.1<((yH.1.length:Nat):Int)),iC (qI rP:(Mi yH.1)[zX.1.toNat]?=some (Ii x_10))] [] [] [] [(2,Vb 112 [Ii vG,Ii wI,.str zX.2,Ii x_10,Ii 0,.nilsl])] 3 (r0 [] [(19,Ii (zI (zX.1+1)))] ?_));cases h;exact ⟨rfl,(sI 3 [0,1,6,14,15,16,17,18,19])⟩
 refine sq (s0 [] [(120,.bool zM.2.2.1)] (bE h fun yK h_23 h=>?_));refine xP (mk [(0,Ss zZ),(1,Sq 2 yI z6),(6,Pp 0),(15,.bool zM.2.2.2),(16,.own 1 yH.1.length),(17,Ii yH.2.1),(18,Pp 2),(19,Ii yK.1)] [(0,pS),(1,Rb 3 1 (Mi yH.1)),(2,Vb 112 [Ii vG,Ii wI,.str zX.2,Ii zR.2,Ii yK.2,.nilsl])] 3) ?_ ?_
 ·replace h:=h_23;refine ch 120 h ?_ ?_
  rotate_left
  ·intro qU h;refine sk ?_;cases h;exact ⟨rfl,(sI 3 [0,1,6,15,16,17,18,19])⟩
  intro qU h;refine sq (bE h fun x_11 rQ h=>r2 [iH 3 { av:=Ii x_11 },iC (qH rQ:0<=zR.1),iC (by first | (simp;done) | simpa using qJ rQ:zR.1<((yH.1.length:Nat):Int)),iC (qI rQ:(Mi yH.1)[zR.1.toNat]?=some (Ii x_11))] [] [] [] [(2,Vb 112 [Ii vG,Ii wI,.str zX.2,Ii zR.2,Ii x_11,.nilsl])] 3 (r0 [] [(19,Ii (zI (zR.1+1)))] ?_));cases h;exact ⟨rfl,(sI 3 [0,1,6,15,16,17,18,19])⟩
 refine sq (s0 [] [(128,.bool zM.2.2.2)] (bE h fun xW h_25 h=>?_));refine vL (K1:=kS prog xW 0 (fun q0=>mk [(6,Pp 0),(17,Ii yH.2.1),(18,Pp 1)] [(0,pS),(1,Vb 112 [Ii vG,Ii wI,.str zX.2,Ii zR.2,Ii yK.2,Ss q0])] 2) Tryz.f150 (fun q1=>[]) fun q1=>.tuple [x9 q1.1,Ii q1.2.1,Ii q1.2.2]) ?_ ?_
 ·replace h:=h_25;refine ch 128 h ?_ ?_
  rotate_left
  ·intro a8 h;refine sk ?_;cases h;exact ⟨rfl,(sw [0,2] [] [.s 6,.s 17,.s 18] [.s 0,.a 1 (Vb 112 [Ii vG,Ii wI,.str zX.2,Ii zR.2,Ii yK.2,.sl false 1 []])] (ar 112 (ac (rfl:k8 [Ii vG,Ii wI,.str zX.2,Ii zR.2,Ii yK.2,.sl false 1 []]=true) (ac (rfl:(Ii vG:AV)=Ii vG) (ac (rfl:(Ii wI:AV)=Ii wI) (ac (rfl:(.str zX.2:AV)=.str zX.2) (ac (rfl:(Ii zR.2:AV)=Ii zR.2) (ac (rfl:(Ii yK.2:AV)=Ii yK.2) (ar ([]:List AV) an)))))))))⟩
  intro a8 h;refine sq (bE h fun x_12 h_26 h=>bE h fun yR h_27 h=>r2 [iH 5 { av:=Ii x_12 },iC (qH h_26:0<=yK.1),iC (by first | (simp;done) | simpa using qJ h_26:yK.1<((yH.1.length:Nat):Int)),iC (qI h_26:(Mi yH.1)[yK.1.toNat]?=some (Ii x_12)),iK 6 {} (zFj F zZ z6 x_12 yR h_27)] [0,1,16] [(20,Ss yR.1),(21,Ii yR.2)] [1] [] 3 (sq (c0 [] 140 h [] ?_ ?_)))
  rotate_left
  ·intro cD h;refine sk (r2 [] [20] [] [] [(2,Vb 112 [Ii vG,Ii wI,.str zX.2,Ii zR.2,Ii yK.2,Ss yR.1])] 3 ?_);cases h;exact ⟨rfl,(sJ [0,2] [6,17,18])⟩
  intro cD h;refine s2 [] [18,20] [(7,Ii 0),(8,Ii 2)] [2] [] 3 (wz [0] [] [] [0] [(6,Pp 0),(7,Ii 0),(8,Ii 2)] [(0,Vb 112 (u7 zL2))] (ar 112 (ar true (ar (Ii 0) (ar (Ii 0) (ar (.str ([]:List Int):AV) (ar (Ii 0) (ar (Ii 0) (ar ([]:List AV) an)))))))) ?_);cases h;exact rt ry
 intro e st1 hk;rcases xW with vQ | t3
 rotate_left
 ·obtain ⟨rfl,hf⟩:=hk;cases h;exact ⟨st1,Sub.refl _ _,.inr rfl,hf⟩
 obtain ⟨rfl,hs⟩:=hk;refine ⟨_,hs,?_⟩;refine sq (sq (bE h fun y8 h_28 h=>r0 [iL 1 {} [.agg [Ii vG,Ii wI,.str zX.2,Ii zR.2,Ii yK.2,Ss vQ]] (T7 F (⟨vG,wI,zX.2,zR.2,yK.2,vQ⟩:xD) y8 h_28) ⟨rfl,rfl,rfl,rfl,rfl,rfl,rfl,rfl,trivial⟩] [(146,.bool (y8 != 0))] (ch 146 h ?_ ?_)))
 ·intro fY h;refine s2 [] [18] [(7,Ii 0),(8,Ii 10)] [1] [] 2 (wz [0] [] [] [0] [(6,Pp 0),(7,Ii 0),(8,Ii 10)] [(0,Vb 112 (u7 zL2))] (ar 112 (ar true (ar (Ii 0) (ar (Ii 0) (ar (.str ([]:List Int):AV) (ar (Ii 0) (ar (Ii 0) (ar ([]:List AV) an)))))))) ?_);cases h;exact rt rx
 intro fY h;refine sk (s2 [] [18] [(7,Ii yH.2.1),(8,Ii 0)] [1] [(0,Vb 112 [Ii vG,Ii wI,.str zX.2,Ii zR.2,Ii yK.2,Ss vQ])] 2 ?_);cases h;exact rt rx
theorem zFe (F:Nat) (zB:vY) (zZ:List (List Int)) (z6:List zV) (r:xD×vY) (h:DU F zB zZ z6=some r):yS prog 124 [(.var 124 (tG zB))] [] [Pp 0,Ss zZ,Sq 2 yI z6] [(.var 124 (tG r.2))] (x9 r.1):=by
 refine tI Tryz.f124 ?_;unfold DU at h;refine sE [iH 0 { id:=1 }] [(0,Pp 0),(1,Ss zZ),(2,Sq 2 yI z6),(6,Pp 1)] [(0,Vb 124 (tG zB)),(1,pS)] 2 (sq (c0 [] 14 h [] ?_ ?_))
 ·intro z8 h;refine s1 [] [0,1,2] [] (wz [0,1] [] [] [1] [(6,Pp 1)] [(0,Vb 124 (tG zB)),(1,Vb 112 (u7 zL2))] (ar 112 (ar true (ar (Ii 0) (ar (Ii 0) (ar (.str ([]:List Int):AV) (ar (Ii 0) (ar (Ii 0) (ar ([]:List AV) an)))))))) ?_);cases h;exact rt rx
 intro z8 h;refine sk (sq (nE h fun zJ h=>bE h fun zA zW h=>r2 [iH 16 { id:=2 },iT 10 Fb zB.B zB.At zJ.1 zJ.2,iK 11 {} (zEm F zZ z6 (sub zB.B zB.At (lN zB.B)) zA zW)] [1,2] [(7,Pp 2),(8,Ii zA.2.1),(9,Ii zA.2.2)] [] [(2,Vb 112 (u7 zA.1))] 3 (s2 [] [] [] [] [(0,Vb 124 [Sb zB.B,Ii (zI (zB.At+zA.2.1)),Ii zB.E])] 3 (s2 [] [0] [] [] [(0,Vb 124 [Sb zB.B,Ii (zI (zB.At+zA.2.1)),Ii zA.2.2])] 3 (s2 [] [7] [] [2] [(1,Vb 112 (u7 zA.1))] 3 ?_)))));cases h;exact rt rx
theorem zIa (F:Nat) (zB:vY) (r:z7×vY) (h:JV F zB=some r):yS prog 79 [(.var 124 (tG zB))] [] [Pp 0] [(.var 124 (tG r.2))] (yG r.1):=by
 refine tI Tryz.f79 ?_;unfold JV at h;refine sE [iH 0 { id:=1 }] [(0,Pp 0),(2,Pp 1)] [(0,Vb 124 (tG zB)),(1,Vb 56 [Ii 0,Ii 0,Ii 0,.nilsl])] 2 ?_;refine qB (jH 1 3 2 112 6 zk) ?_;refine w0 [0,1,2] [] [(0,Pp 0),(2,Pp 1)] [(0,Vb 124 (tG zB)),(1,aS),(2,Rb 112 6 [])] (sq (bE h fun zA zJ h=>r2 [iH 3 { id:=3 },iK 1 { ids:=[0] } (DR F zB zA zJ)] [] [(3,Pp 3)] [] [(0,Vb 124 (tG zA.2)),(3,Vb 56 [Ii zA.1,Ii 0,Ii 0,.nilsl])] 4 ?_));refine qB (jH 3 3 4 112 6 zk) ?_;refine w0 [0,1,2,3,4] [] [(0,Pp 0),(2,Pp 1),(3,Pp 3)] [(0,Vb 124 (tG zA.2)),(1,aS),(2,Rb 112 6 []),(3,Vb 56 [Ii zA.1,Ii 0,Ii 0,.own 4 0]),(4,Rb 112 6 [])] (sq (bE h fun zC zW h=>r2 [iK 1 { ids:=[0] } (DR F zA.2 zC zW)] [] [] [] [(0,Vb 124 (tG zC.2)),(3,Vb 56 [Ii zA.1,Ii zC.1,Ii 0,.own 4 0])] 5 (sq (bE h fun zM yU h=>r2 [iK 1 { ids:=[0] } (DR F zC.2 zM yU)] [] [] [] [(0,Vb 124 (tG zM.2)),(3,Vb 56 [Ii zA.1,Ii zC.1,Ii zM.1,.own 4 0])] 5 (s2 [iH 0 { id:=5,m:=1 }] [] [(4,.own 5 0)] [] [(5,Rb 9 1 [])] 6 (sq (bE h fun zT xB h=>r2 [iK 1 { ids:=[0] } (Q4 F zM.2 1000 zT xB)] [] [(5,Ii zT.1)] [] [(0,Vb 124 (tG zT.2))] 6 (sq (s0 [] [(6,Ii 0)] (bE h fun zE xR h=>?_))))))))));refine xP (mk [(0,Pp 0),(2,Pp 1),(3,Pp 3),(4,.own 5 zE.2.2.2.length)] [(0,Vb 124 [Sb zE.1,Ii zE.2.1,Ii zE.2.2.1]),(1,aS),(2,Rb 112 6 []),(3,Vb 56 [Ii zA.1,Ii zC.1,Ii zM.1,.own 4 0]),(4,Rb 112 6 []),(5,Rb 9 1 (Ms zE.2.2.2))] 6) ?_ ?_
 ·replace h:=xR;refine yQ (id:=0) zk ?_;refine w0 [0,1,2,3,4,5] [] [(0,Pp 0),(2,Pp 1),(3,Pp 3),(4,.own 5 0),(5,Ii zT.1),(6,Ii 0)] [(0,Vb 124 (tG zT.2)),(1,aS),(2,Rb 112 6 []),(3,Vb 56 [Ii zA.1,Ii zC.1,Ii zM.1,.own 4 0]),(4,Rb 112 6 []),(5,Rb 9 1 [])] ?_;refine wD (fun n st=>∃ (zQ:Int),∃ (y5:List Int),∃ (y6:Int),∃ (yW:Int),∃ (zK:List (List Int)),st=mk [(0,Pp 0),(2,Pp 1),(3,Pp 3),(4,.own 5 zK.length),(5,Ii zT.1),(6,Ii zQ)] [(0,Vb 124 [Sb y5,Ii y6,Ii yW]),(1,aS),(2,Rb 112 6 []),(3,Vb 56 [Ii zA.1,Ii zC.1,Ii zM.1,.own 4 0]),(4,Rb 112 6 []),(5,Rb 9 1 (Ms zK))] 6/\BW F zT n zQ y5 y6 yW zK=some zE) F zk ⟨_,_,_,_,_,rfl,h⟩ ?_ ?_
  ·rintro _ ⟨_,_,_,_,_,_,h⟩;exact wC (h:(none:Option ((List Int)×Int×Int×(List (List Int))))=some zE)
  rintro z5 _ ⟨zQ,y5,y6,yW,zK,rfl,h⟩;replace h:rJ F zT (BW F zT z5) zQ y5 y6 yW zK=some zE:=h;unfold rJ at h;refine sq (ad 31 h ?_ ?_ ?_)
  ·rcases bft (decide (zQ<zT.1)) with yC | yC
   ·exact rm [iH 9 Ht,iR 6 yC] (w9 yC rfl)
   ·exact rm [iG 4 5,iH 9 Hf,iR 6 yC] (uN yC)
  rotate_left
  ·intro z8 h;refine wB (id:=0) zk ?_;cases h;exact ⟨rfl,(sI 6 [0,2,3,4])⟩
  intro z8 h;refine sk (sq ?_);refine yQ (id:=1) zk ?_;refine bE h fun zU wA h=>nE h fun wS h=>r2 [iH 3 { id:=6 },iK 2 { ids:=[0] } (zCC F (⟨y5,y6,yW⟩:vY) zU wA),iM AV.str zK,iA 1,iP 4 7 AV.str zK [zU.1] 16 wS] [] [(4,.own 7 (((zK++[zU.1])).length))] [5] [(0,Vb 124 (tG zU.2)),(7,Rb 9 1 (Ms (zK++[zU.1])))] 8 (r0 [] [(6,Ii (zI (zQ+1)))] ?_);exact ⟨_,(sJ [0,1,2,3,4,7] [0,2,3,4,5,6]),_,_,_,_,_,rfl,h⟩
 refine s2 [iH 0 { id:=6,m:=1 }] [] [(7,.own 6 0)] [] [(6,Rb 144 2 [])] 7 (sq (bE h fun yF vB h=>r2 [iK 1 { ids:=[0] } (Q4 F (⟨zE.1,zE.2.1,zE.2.2.1⟩:vY) 1000 yF vB)] [] [(5,Ii yF.1)] [] [(0,Vb 124 (tG yF.2))] 7 (sq (s0 [] [(8,Ii 0)] (bE h fun zR vM h=>?_)))));refine xP (mk [(0,Pp 0),(2,Pp 1),(3,Pp 3),(4,.own 5 zE.2.2.2.length),(7,.own 6 zR.2.2.2.length)] [(0,Vb 124 [Sb zR.1,Ii zR.2.1,Ii zR.2.2.1]),(1,aS),(2,Rb 112 6 []),(3,Vb 56 [Ii zA.1,Ii zC.1,Ii zM.1,.own 4 0]),(4,Rb 112 6 []),(5,Rb 9 1 (Ms zE.2.2.2)),(6,Rb 144 2 (Mp yI zR.2.2.2))] 7) ?_ ?_
 ·replace h:=vM;refine yQ (id:=2) zk ?_;refine w0 [0,1,2,3,4,5,6] [] [(0,Pp 0),(2,Pp 1),(3,Pp 3),(4,.own 5 zE.2.2.2.length),(5,Ii yF.1),(7,.own 6 0),(8,Ii 0)] [(0,Vb 124 (tG yF.2)),(1,aS),(2,Rb 112 6 []),(3,Vb 56 [Ii zA.1,Ii zC.1,Ii zM.1,.own 4 0]),(4,Rb 112 6 []),(5,Rb 9 1 (Ms zE.2.2.2)),(6,Rb 144 2 [])] ?_;refine wD (fun n st=>∃ (y9:Int),∃ (xC:List Int),∃ (xK:Int),∃ (vD:Int),∃ (z4:List zV),st=mk [(0,Pp 0),(2,Pp 1),(3,Pp 3),(4,.own 5 zE.2.2.2.length),(5,Ii yF.1),(7,.own 6 z4.length),(8,Ii y9)] [(0,Vb 124 [Sb xC,Ii xK,Ii vD]),(1,aS),(2,Rb 112 6 []),(3,Vb 56 [Ii zA.1,Ii zC.1,Ii zM.1,.own 4 0]),(4,Rb 112 6 []),(5,Rb 9 1 (Ms zE.2.2.2)),(6,Rb 144 2 (Mp yI z4))] 7/\r5 F yF n y9 xC xK vD z4=some zR) F zk ⟨_,_,_,_,_,rfl,h⟩ ?_ ?_
  ·rintro _ ⟨_,_,_,_,_,_,h⟩;exact wC (h:(none:Option ((List Int)×Int×Int×(List zV)))=some zR)
  rintro uA _ ⟨y9,xC,xK,vD,z4,rfl,h⟩;replace h:lD F yF (r5 F yF uA) y9 xC xK vD z4=some zR:=h;unfold lD at h;refine sq (ad 50 h ?_ ?_ ?_)
  ·rcases bft (decide (y9<yF.1)) with wK | wK
   ·exact rm [iH 9 Ht,iR 6 wK] (w9 wK rfl)
   ·exact rm [iG 4 5,iH 9 Hf,iR 6 wK] (uN wK)
  rotate_left
  ·intro yV h;refine wB (id:=2) zk ?_;cases h;exact ⟨rfl,(sI 7 [0,2,3,4,7])⟩
  intro yV h;refine sk (sq ?_);refine yQ (id:=3) zk ?_;refine sq (bE h fun yY v7 h=>r2 [iK 1 { ids:=[0] } (DR F (⟨xC,xK,vD⟩:vY) yY v7)] [] [(9,Ii yY.1)] [] [(0,Vb 124 (tG yY.2))] 7 (bE h fun yH uB h=>nE h fun uX h=>r2 [iH 5 { id:=7 },iK 3 { ids:=[0] } (DR F yY.2 yH uB),iM yI z4,iC (by first | (simp;done) | (simp;omega):1=((List.map yI [(⟨yY.1,yH.1⟩:zV)])).length),iP 6 8 yI z4 [(⟨yY.1,yH.1⟩:zV)] 16 uX] [] [(7,.own 8 (((z4++[(⟨yY.1,yH.1⟩:zV)])).length))] [6] [(0,Vb 124 (tG yH.2)),(8,Rb 144 2 (Mp yI (z4++[(⟨yY.1,yH.1⟩:zV)])))] 9 (r0 [] [(8,Ii (zI (y9+1)))] ?_)));exact ⟨_,(sJ [0,1,2,3,4,5,8] [0,2,3,4,5,7,8]),_,_,_,_,_,rfl,h⟩
 refine sq (s0 [] [(66,.bool (zR.2.2.1==0))] (bE h fun yK u5 h=>?_));refine xP (mk [(0,Pp 0),(2,Pp 1),(3,Pp 3),(4,.own 5 zE.2.2.2.length),(7,.own 6 zR.2.2.2.length)] [(0,Vb 124 [Sb zR.1,Ii zR.2.1,Ii yK]),(1,aS),(2,Rb 112 6 []),(3,Vb 56 [Ii zA.1,Ii zC.1,Ii zM.1,.own 4 0]),(4,Rb 112 6 []),(5,Rb 9 1 (Ms zE.2.2.2)),(6,Rb 144 2 (Mp yI zR.2.2.2))] 7) ?_ ?_
 ·replace h:=u5;refine ch 66 h ?_ ?_
  rotate_left
  ·intro xG h;refine sk ?_;cases h;exact ⟨rfl,(sI 7 [0,2,3,4,7])⟩
  intro xG h;refine bE h fun yR uP h=>r2 [iM AV.str zE.2.2.2,iM yI zR.2.2.2,iK 3 { lend:=[5,6] } (NG F zE.2.2.2 zR.2.2.2 yR uP)] [] [] [] [(0,Vb 124 [Sb zR.1,Ii zR.2.1,Ii yR])] 7 ?_;cases h;exact ⟨rfl,(sI 7 [0,2,3,4,7])⟩
 refine sq (bE h fun y8 t7 h=>r2 [iK 1 { ids:=[0] } (Q4 F (⟨zR.1,zR.2.1,yK⟩:vY) 1000 y8 t7)] [] [(5,Ii y8.1)] [] [(0,Vb 124 (tG y8.2))] 7 (sq (s0 [] [(10,Ii 0)] (bE h fun xW t6 h=>?_))));refine xP (mk [(2,Pp 1),(3,Pp 3)] [(0,Vb 124 [Sb xW.1,Ii xW.2.1,Ii xW.2.2.1]),(1,aS),(2,Rb 112 6 []),(3,Vb 56 [Ii zA.1,Ii zC.1,Ii zM.1,.own 4 xW.2.2.2.length]),(4,Rb 112 6 (Mp x9 xW.2.2.2))] 5) ?_ ?_
 ·replace h:=t6;refine yQ (id:=4) zk ?_;refine wz [0,1,2,3,4] [5,6] [4,7] [] [(0,Pp 0),(2,Pp 1),(3,Pp 3),(4,Ss zE.2.2.2),(5,Ii y8.1),(7,Sq 2 yI zR.2.2.2),(10,Ii 0)] [(0,Vb 124 (tG y8.2)),(1,aS),(2,Rb 112 6 []),(3,Vb 56 [Ii zA.1,Ii zC.1,Ii zM.1,.own 4 0]),(4,Rb 112 6 [])] (ac (by first | (simp;done) | (simp;omega):zE.2.2.2.length=((List.map AV.str zE.2.2.2)).length) (ar 1 (ar ((Ms zE.2.2.2):List AV) (ar true (ac (by first | (simp;done) | (simp;omega):zR.2.2.2.length=((List.map yI zR.2.2.2)).length) (ar 2 (ar ((Mp yI zR.2.2.2):List AV) (ar true an)))))))) (w0 [0,1,2,3,4] [] [(0,Pp 0),(2,Pp 1),(3,Pp 3),(4,Ss zE.2.2.2),(5,Ii y8.1),(7,Sq 2 yI zR.2.2.2),(10,Ii 0)] [(0,Vb 124 (tG y8.2)),(1,aS),(2,Rb 112 6 []),(3,Vb 56 [Ii zA.1,Ii zC.1,Ii zM.1,.own 4 0]),(4,Rb 112 6 [])] ?_);refine wD (fun n st=>∃ (wQ:Int),∃ (vK:List Int),∃ (vH:Int),∃ (v9:Int),∃ (yL:List xD),st=mk [(0,Pp 0),(2,Pp 1),(3,Pp 3),(4,Ss zE.2.2.2),(5,Ii y8.1),(7,Sq 2 yI zR.2.2.2),(10,Ii wQ)] [(0,Vb 124 [Sb vK,Ii vH,Ii v9]),(1,aS),(2,Rb 112 6 []),(3,Vb 56 [Ii zA.1,Ii zC.1,Ii zM.1,.own 4 yL.length]),(4,Rb 112 6 (Mp x9 yL))] 5/\C2 F zE zR y8 n wQ vK vH v9 yL=some xW) F zk ⟨_,_,_,_,_,rfl,h⟩ ?_ ?_
  ·rintro _ ⟨_,_,_,_,_,_,h⟩;exact wC (h:(none:Option ((List Int)×Int×Int×(List xD)))=some xW)
  rintro t5 _ ⟨wQ,vK,vH,v9,yL,rfl,h⟩;replace h:rB F zE zR y8 (C2 F zE zR y8 t5) wQ vK vH v9 yL=some xW:=h;unfold rB at h;refine sq (ad 84 h ?_ ?_ ?_)
  ·rcases bft (decide (wQ<y8.1)) with wW | wW
   ·exact rm [iH 9 Ht,iR 6 wW] (w9 wW rfl)
   ·exact rm [iG 4 5,iH 9 Hf,iR 6 wW] (uN wW)
  rotate_left
  ·intro wR h;refine wB (id:=4) zk ?_;cases h;exact ⟨rfl,(sI 5 [2,3])⟩
  intro wR h;refine sk (sq ?_);refine yQ (id:=5) zk ?_;refine bE h fun wM jE h=>nE h fun jD h=>r2 [iH 6 { id:=5 },iK 5 { ids:=[0] } (zFe F (⟨vK,vH,v9⟩:vY) zE.2.2.2 zR.2.2.2 wM jE),iM x9 yL,iA 1,iP 7 6 x9 yL [wM.1] 72 jD] [] [] [4] [(0,Vb 124 (tG wM.2)),(3,Vb 56 [Ii zA.1,Ii zC.1,Ii zM.1,.own 6 (((yL++[wM.1])).length)]),(6,Rb 112 6 (Mp x9 (yL++[wM.1])))] 7 (r0 [] [(10,Ii (zI (wQ+1)))] ?_);exact ⟨_,(sJ [0,1,2,3,6] [0,2,3,4,5,7,10]),_,_,_,_,_,rfl,h⟩
 refine s2 [] [3] [] [2,3] [(1,Vb 56 [Ii zA.1,Ii zC.1,Ii zM.1,.own 4 xW.2.2.2.length])] 5 (wz [0,1] [4] [] [0,1] [(2,Pp 1)] [(0,Vb 124 (tG (⟨xW.1,xW.2.1,xW.2.2.1⟩:vY))),(1,Vb 56 (wU (⟨zA.1,zC.1,zM.1,xW.2.2.2⟩:z7)))] (ar 124 (ar true (ar 1 (ar (Mb xW.1) (ar true (ar (Ii xW.2.1) (ar (Ii xW.2.2.1) (ar 56 (ar true (ac (by first | (simp;done) | (simp;omega):xW.2.2.2.length=((List.map x9 xW.2.2.2)).length) (ar (Ii zA.1) (ar (Ii zC.1) (ar (Ii zM.1) (ar 6 (ar (Mp x9 xW.2.2.2) (ar true an)))))))))))))))) ?_);cases h;exact rt rx
theorem fQ (z5:Int) (r:Bool) (h:oN z5=some r):yS prog 95 [] [] [Ii z5] [] (.bool r):=by
 refine tI Tryz.f95 ?_;unfold oN at h;refine sE [] [(0,Ii z5)] [] 0 (sq (am 2 (decide (z5>=0)&&decide (z5<=1000000000000000)) ?_ ?_))
 ·rcases bft (decide (z5>=0)) with zS | zS
  ·exact rm [iH 5 Ht,iR 3 zS] (w9 zS rfl)
  ·exact rm [iG 3 2,iH 5 Hf,iR 3 zS] (uN zS)
 cases h;exact rt rx
theorem zFl (F:Nat) (zO:List xD) (r:Int) (h:D5 F zO=some r):yS prog 96 [] [] [Sq 6 x9 zO] [] (Ii r):=by
 refine tI Tryz.f96 ?_;unfold D5 at h;refine sE [] [(0,Sq 6 x9 zO)] [] 0 (sq (s0 [] [(3,Ii 0)] (bE h fun zE zJ h=>?_)));refine vL (K1:=kS prog zE 0 (fun q0=>mk [] [] 0) Tryz.f96 (fun q1=>[]) fun q1=>Ii q1) ?_ ?_
 ·replace h:=zJ;refine yQ (id:=0) zk ?_;refine w0 [] [] [(0,Sq 6 x9 zO),(3,Ii 0)] [] ?_;refine wD (fun n st=>∃ (zQ:Int),st=mk [(0,Sq 6 x9 zO),(3,Ii zQ)] [] 0/\B6 F zO n zQ=some zE) F zk ⟨_,rfl,h⟩ ?_ ?_
  ·rintro _ ⟨_,_,h⟩;exact wC (h:(none:Option (Unit⊕Int))=some zE)
  rintro z5 _ ⟨zQ,rfl,h⟩;replace h:D0 F zO (B6 F zO z5) zQ=some zE:=h;unfold D0 at h;refine sq (c0 [iN 2 x9 zO] 8 h [] ?_ ?_)
  rotate_left
  ·intro z8 h;refine wB (id:=0) zk ?_;cases h;exact ⟨rfl,(sI 0 [])⟩
  intro z8 h;refine sk (sq ?_);refine yQ (id:=1) zk ?_;refine sq (bE h fun zH zW h=>bE h fun zA yU h=>r0 [iF 2 x9 zW,iK 4 {} (T7 F zH zA yU)] [(4,Ii zA)] (sq (c0 [] 17 h [] ?_ ?_)))
  ·intro yV h;refine s1 [] [0] [(2,Ii zA)] ?_;cases h;exact rt ry
  intro yV h;refine sk (sq (bE h fun zN wA h=>?_));refine xP (mk [(0,Sq 6 x9 zO),(3,Ii zQ),(34,.bool zN)] [] 0) ?_ ?_
  ·replace h:=wA;rcases bft (decide (zQ>0)) with yC | yC
   ·replace h:=xN yC h;refine bE h fun yO xB h=>bE h fun xE xR h=>r0 [iH 15 Ht,iR 3 yC,iF 5 x9 xB,iR 6 yC,iF 11 x9 xR,iR 4 yC] [(22,Sq 6 x9 zO),(23,Ii zQ),(24,.ref (x9 yO)),(25,.ref (Ii yO.At)),(26,Ii yO.At),(27,Sq 6 x9 zO),(28,Ii zQ),(29,Ii (zI (zQ - 1))),(30,.ref (x9 xE)),(31,.ref (Ii xE.At)),(32,Ii xE.At),(33,.bool (decide (yO.At<xE.At))),(34,.bool (decide (yO.At<xE.At)))] ?_;cases h;exact ⟨rfl,(sI 0 [0,3,34])⟩
   ·replace h:=xO yC h;refine r0 [iG 3 12,iH 15 Hf,iR 13 yC] [(22,.tuple []),(23,.tuple []),(24,.tuple []),(25,.tuple []),(26,.tuple []),(27,.tuple []),(28,.tuple []),(29,.tuple []),(30,.tuple []),(31,.tuple []),(32,.tuple []),(33,.tuple []),(34,.bool false)] ?_;cases h;exact ⟨rfl,(sI 0 [0,3,34])⟩
  refine ch 34 h ?_ ?_
  rotate_left
  ·intro xG h;refine sk (r0 [] [(3,Ii (zI (zQ+1)))] ?_);exact ⟨_,(sI 0 [0,3]),_,rfl,h⟩
  intro xG h;refine s1 [] [0] [(2,Ii 11)] ?_;cases h;exact rt ry
 intro e st1 hk;rcases zE with zX | xJ
 rotate_left
 ·obtain ⟨rfl,hf⟩:=hk;cases h;exact ⟨st1,Sub.refl _ _,.inr rfl,hf⟩
 obtain ⟨rfl,hs⟩:=hk;refine ⟨_,hs,?_⟩;refine s0 [] [(2,Ii 0)] ?_;cases h;exact rt rx
theorem QL (F:Nat) (zN:z7) (r:Int) (h:rG F zN=some r):yS prog 52 [] [] [yG zN] [] (Ii r):=by
 refine tI Tryz.f52 ?_;unfold rG at h;refine sE [iH 0 { id:=0 }] [(1,Pp 0)] [(0,Vb 56 (wU zN))] 1 (sq ?_);refine yQ (id:=0) zk ?_;refine sq (bE h fun uW xB h=>?_);refine xP (mk [(1,Pp 0),(3,.bool uW)] [(0,Vb 56 (wU zN))] 1) ?_ ?_
 ·replace h:=xB;refine bE h fun zA zJ h=>?_;rcases bft (!zA) with zS | zS
  ·replace h:=xN zS h;refine r0 [iG 5 4,iH 9 Ht,iG 11 4,iH 15 Ht,iG 17 5,iH 22 Ht,iK 2 {} (fQ zN.Thread zA zJ),iR 5 zS,iX 4,iA true,iX 5,iA true] [(3,.bool true)] ?_;cases h;exact ⟨rfl,(sI 1 [1,3])⟩
  ·replace h:=xO zS h;refine bE h fun zC zW h=>?_;rcases bft (!zC) with z0 | z0
   ·replace h:=xN z0 h;refine r0 [iH 9 Hf,iG 11 4,iH 15 Ht,iG 17 5,iH 22 Ht,iK 2 {} (fQ zN.Thread zA zJ),iR 3 zS,iK 7 {} (fQ zN.Serial zC zW),iR 2 zS,iR 5 z0,iX 5,iA true] [(3,.bool true)] ?_;cases h;exact ⟨rfl,(sI 1 [1,3])⟩
   ·replace h:=xO z0 h;refine bE h fun zM yU h=>?_;rcases bft (!zM) with yE | yE
    ·replace h:=xN yE h;refine r0 [iH 9 Hf,iH 15 Hf,iG 17 5,iH 22 Ht,iK 2 {} (fQ zN.Thread zA zJ),iR 3 zS,iK 7 {} (fQ zN.Serial zC zW),iR 2 zS,iR 3 z0,iK 13 {} (fQ zN.Lost zM yU),iR 2 z0,iR 6 yE] [(3,.bool true)] ?_;cases h;exact ⟨rfl,(sI 1 [1,3])⟩
    ·replace h:=xO yE h;refine r0 [iH 9 Hf,iH 15 Hf,iH 22 Hf,iK 2 {} (fQ zN.Thread zA zJ),iR 3 zS,iK 7 {} (fQ zN.Serial zC zW),iR 2 zS,iR 3 z0,iK 13 {} (fQ zN.Lost zM yU),iR 2 z0,iR 6 yE] [(3,.bool (decide (zN.Lost>zN.Serial)))] ?_;cases h;exact ⟨rfl,(sI 1 [1,3])⟩
 refine ch 3 h ?_ ?_
 ·intro z8 h;refine s2 [] [1] [(2,Ii 2)] [0] [] 1 ?_;cases h;exact rt rx
 intro z8 h;refine c0 [iN 4 x9 zN.Events] 27 h [] ?_ ?_
 ·intro yV h;refine s2 [] [1] [(2,Ii 2)] [0] [] 1 ?_;cases h;exact rt rx
 intro yV h;refine c0 [iN 2 x9 zN.Events] 35 h [] ?_ ?_
 ·intro xG h;refine s2 [] [1] [(2,Ii 8)] [0] [] 1 ?_;cases h;exact rt rx
 intro xG h;refine c0 [iN 2 x9 zN.Events] 40 h [] ?_ ?_
 ·intro wR h;refine s2 [] [1] [(2,Ii 7)] [0] [] 1 ?_;cases h;exact rt rx
 intro wR h;refine sk (sq (bE h fun zT xR h=>r2 [iK 2 {} (zFl F zN.Events zT xR)] [1] [(2,Ii zT)] [0] [] 1 ?_));cases h;exact rt rx
theorem VO (F:Nat) (zZ:List (List Int)) (zL:List Int) (r:Int×(List (List Int))×Int) (h:AO F zZ zL=some r):yS prog 136 [] [] [Ss zZ,.str zL] [] (.tuple [Ii r.1,Ss r.2.1,Ii r.2.2]):=by
 refine tI Tryz.f136 ?_;unfold AO at h;refine sE [] [(0,Ss zZ),(1,.str zL)] [] 0 (sq (sq (bE h fun zA zJ h=>r0 [iK 1 {} (GN F zL zA zJ)] [(10,.bool (zA != 0))] (ch 10 h ?_ ?_))))
 ·intro z8 h;refine s1 [] [0] [(4,Ii 0),(5,Ss zZ),(6,Ii 3)] ?_;cases h;exact rt rx
 intro z8 h;refine sk (sq (bE h fun zC zW h=>r0 [iK 2 {} (zA8 F zZ zL zC zW)] [(7,Ii zC)] (sq (c0 [] 16 h [] ?_ ?_))))
 ·intro yV h;refine s1 [] [0] [(4,Ii zC),(5,Ss zZ),(6,Ii 0)] ?_;cases h;exact rt rx
 intro yV h;refine sk (sq (c0 [iN 1 AV.str zZ] 21 h [] ?_ ?_))
 ·intro xG h;refine s1 [] [0] [(4,Ii 0),(5,Ss zZ),(6,Ii 6)] ?_;cases h;exact rt rx
 intro xG h;refine sk (sq (nE h fun yU h=>nE h fun xB h=>r2 [iH 2 { id:=0 },iH 4 { id:=1,l:=(Ms ([]++zZ)),n:=(([]++zZ)).length },iH 6 { id:=2 },iN 1 AV.str zZ,iA 0,iC trivial,iC (by simp:(List.map AV.str ([]++zZ))=[]++(List.map AV.str zZ)),iC (by simp:(([]++zZ)).length=((List.map AV.str ([]++zZ))).length),iC (by first | (simp;done) | simpa using yU:(([]:List AV).length+((List.map AV.str zZ):List AV).length) * 16<=140737488355328),iM AV.str ([]++zZ),iA 1,iP 7 3 AV.str ([]++zZ) [zL] 16 xB] [0] [(4,Ii (lN zZ)),(5,.own 3 (((([]++zZ)++[zL])).length)),(6,Ii 0)] [] [(3,Rb 9 1 (Ms (([]++zZ)++[zL])))] 4 (wz [] [3] [5] [] [(4,Ii (lN zZ)),(5,Ss (([]++zZ)++[zL])),(6,Ii 0)] [] (ac (by first | (simp;done) | (simp;omega):((([]++zZ)++[zL])).length=((List.map AV.str (([]++zZ)++[zL]))).length) (ar 1 (ar ((Ms (([]++zZ)++[zL])):List AV) (ar true an)))) ?_)));cases h;exact rt rx
theorem zCy (F:Nat) (zZ:List (List Int)) (z6:List zV) (zO:List (List Int)) (r:Int×(List (List Int))×(List zV)×Int) (h:A9 F zZ z6 zO=some r):yS prog 137 [] [] [Ss zZ,Sq 2 yI z6,Ss zO] [] (.tuple [Ii r.1,Ss r.2.1,Sq 2 yI r.2.2.1,Ii r.2.2.2]):=by
 refine tI Tryz.f137 ?_;unfold A9 at h;refine sE [] [(0,Ss zZ),(1,Sq 2 yI z6),(2,Ss zO)] [] 0 (sq (bE h fun zA zJ h=>r0 [iK 1 {} (ZI F zO zA zJ)] [(10,Ii zA)] (sq (c0 [] 22 h [] ?_ ?_))))
 ·intro z8 h;refine s1 [] [0,1,2] [(6,Ii 0),(7,Ss zZ),(8,Sq 2 yI z6),(9,Ii zA)] ?_;cases h;exact rt rx
 intro z8 h;refine sk (s0 [] [(11,Ii (-1))] (s0 [] [(12,Ss zZ)] (sq (nE h fun zW h=>r2 [iH 0 { id:=0 },iH 2 { id:=1,l:=(Mp yI ([]++z6)),n:=(([]++z6)).length },iA 0,iC trivial,iC (by simp:(List.map yI ([]++z6))=[]++(List.map yI z6)),iC (by simp:(([]++z6)).length=((List.map yI ([]++z6))).length),iC (by first | (simp;done) | simpa using zW:(([]:List AV).length+((List.map yI z6):List AV).length) * 16<=140737488355328)] [] [(13,.own 1 ((([]++z6)).length))] [] [(1,Rb 144 2 (Mp yI ([]++z6)))] 2 (sq (s0 [] [(14,Ii 0)] (bE h fun zE yU h=>?_)))))));refine vL (K1:=kS prog zE 0 (fun q0=>mk [(11,Ii q0.1),(12,Ss q0.2.1),(13,.own 0 q0.2.2.length)] [(0,Rb 144 2 (Mp yI q0.2.2))] 1) Tryz.f137 (fun q1=>[]) fun q1=>.tuple [Ii q1.1,Ss q1.2.1,Sq 2 yI q1.2.2.1,Ii q1.2.2.2]) ?_ ?_
 ·replace h:=yU;refine yQ (id:=0) zk ?_;refine w0 [1] [] [(0,Ss zZ),(1,Sq 2 yI z6),(2,Ss zO),(11,Ii (-1)),(12,Ss zZ),(13,.own 0 ((([]++z6)).length)),(14,Ii 0)] [(0,Rb 144 2 (Mp yI ([]++z6)))] ?_;refine wD (fun n st=>∃ (xU:Int),∃ (z5:List (List Int)),∃ (xH:Int),∃ (zK:List zV),st=mk [(0,Ss zZ),(1,Sq 2 yI z6),(2,Ss zO),(11,Ii xU),(12,Ss z5),(13,.own 0 zK.length),(14,Ii xH)] [(0,Rb 144 2 (Mp yI zK))] 1/\BF F zZ z6 zO n xU z5 xH zK=some zE) F zk ⟨_,_,_,_,rfl,h⟩ ?_ ?_
  ·rintro _ ⟨_,_,_,_,_,h⟩;exact wC (h:(none:Option ((Int×(List (List Int))×(List zV))⊕(Int×(List (List Int))×(List zV)×Int)))=some zE)
  rintro uA _ ⟨xU,z5,xH,zK,rfl,h⟩;replace h:HB F zZ z6 zO (BF F zZ z6 zO uA) xU z5 xH zK=some zE:=h;unfold HB at h;refine sq (c0 [iN 2 AV.str zO] 33 h [] ?_ ?_)
  rotate_left
  ·intro yV h;refine wB (id:=0) zk ?_;cases h;exact ⟨rfl,(sI 1 [11,12,13])⟩
  intro yV h;refine sk (sq (bE h fun zR xB h=>?_));refine vL (K1:=kS prog zR 0 (fun q0=>mk [(0,Ss zZ),(1,Sq 2 yI z6),(2,Ss zO),(11,Ii q0.1),(12,Ss q0.2.1),(13,.own 0 q0.2.2.length),(14,Ii xH)] [(0,Rb 144 2 (Mp yI q0.2.2))] 1) Tryz.f137 (fun q1=>[]) fun q1=>.tuple [Ii q1.1,Ss q1.2.1,Sq 2 yI q1.2.2.1,Ii q1.2.2.2]) ?_ ?_
  ·replace h:=xB;refine yQ (id:=1) zk ?_;refine sq (bE h fun zH xR h=>bE h fun zC wA h=>r1 [iF 3 AV.str xR,iK 5 {} (VO F z5 zH zC wA)] [12] [(15,Ii zC.1),(16,Ss zC.2.1),(17,Ii zC.2.2)] (sq (c0 [] 47 h [] ?_ ?_)))
   ·intro xG h;refine s2 [] [0,1,2,13,16] [(6,Ii 0),(7,Ss zZ),(8,Sq 2 yI z6),(9,Ii zC.2.2)] [0] [] 1 ?_;cases h;exact rt ry
   intro xG h;refine sk (s1 [] [16] [(12,Ss zC.2.1)] (s2 [iH 3 { id:=1 }] [] [(18,Pp 1)] [] [(1,Vb 144 [Ii xU,Ii zC.1])] 2 (sq (bE h fun zM wS h=>r0 [iM yI zK,iL 2 { lend:=[0] } [Sq 2 yI zK,.agg [Ii xU,Ii zC.1]] (YZ F zK (⟨xU,zC.1⟩:zV) zM wS) ⟨rfl,rfl,rfl,rfl,rfl,trivial⟩] [(11,Ii zM)] (sq (c0 [] 59 h [] ?_ ?_))))))
   ·intro wR h;refine wB (id:=1) zk ?_;cases h;exact ⟨rfl,(sI 1 [0,1,2,11,12,13,14])⟩
   intro wR h;refine sk (sq (c0 [] 62 h [] ?_ ?_))
   ·intro vR h;refine s2 [] [0,1,2,13,12,18] [(6,Ii 0),(7,Ss zZ),(8,Sq 2 yI z6),(9,Ii 6)] [0,1] [] 2 ?_;cases h;exact rt ry
   intro vR h;refine sk (s0 [] [(11,Ii (lN zK))] (nE h fun vB h=>r2 [iH 2 { id:=2 },iM yI zK,iC (by first | (simp;done) | (simp;omega):1=((List.map yI [(⟨xU,zC.1⟩:zV)])).length),iP 3 3 yI zK [(⟨xU,zC.1⟩:zV)] 16 vB] [18] [(13,.own 3 (((zK++[(⟨xU,zC.1⟩:zV)])).length))] [0,1] [(3,Rb 144 2 (Mp yI (zK++[(⟨xU,zC.1⟩:zV)])))] 4 ?_));cases h;exact ⟨rfl,(sJ [3] [0,1,2,11,12,13,14])⟩
  intro e st1 hk;rcases zR with zX | xJ
  rotate_left
  ·obtain ⟨rfl,hf⟩:=hk;cases h;exact ⟨_,Sub.refl _ _,rfl,hf⟩
  obtain ⟨rfl,hs⟩:=hk;refine ⟨_,hs,?_⟩;refine r0 [] [(14,Ii (zI (xH+1)))] ?_;exact ⟨_,(sI 1 [0,1,2,11,12,13,14]),_,_,_,_,rfl,h⟩
 intro e st1 hk;rcases zE with vQ | t3
 rotate_left
 ·obtain ⟨rfl,hf⟩:=hk;cases h;exact ⟨st1,Sub.refl _ _,.inr rfl,hf⟩
 obtain ⟨rfl,hs⟩:=hk;refine ⟨_,hs,?_⟩;refine s1 [] [12,13] [(6,Ii vQ.1),(7,Ss vQ.2.1),(8,.own 0 vQ.2.2.length),(9,Ii 0)] (wz [] [0] [8] [] [(6,Ii vQ.1),(7,Ss vQ.2.1),(8,Sq 2 yI vQ.2.2),(9,Ii 0)] [] (ac (by first | (simp;done) | (simp;omega):vQ.2.2.length=((List.map yI vQ.2.2)).length) (ar 2 (ar ((Mp yI vQ.2.2):List AV) (ar true an)))) ?_);cases h;exact rt rx
theorem zBR (z5:Int) (r:Int) (h:HO z5=some r):yS prog 104 [] [] [Ii z5] [] (.int .u64 r):=by
 refine tI Tryz.f104 ?_;unfold HO at h;refine sE [] [(0,Ii z5)] [] 0 (sq (c0 [] 4 h [] ?_ ?_))
 ·intro z8 h;refine s0 [] [(2,.int .u64 (v6 ((v6 (2 * (v6 (zI (0 - (zI (z5+1)))))))+1)))] ?_;cases h;exact rt rx
 intro z8 h;refine sk (s0 [] [(2,.int .u64 (v6 (2 * (v6 z5))))] ?_);cases h;exact rt rx
theorem jO (F:Nat) (zF:List Int) (z5:Int) (r:(List Int)) (h:qP F zF z5=some r):yS prog 65 [] [] [Sb zF,Ii z5] [.row 5 1 (Mb r)] (.own 0 r.length):=by
 refine tI Tryz.f65 ?_;unfold qP at h;refine sE [iH 0 { id:=0,m:=1 }] [(0,Sb zF),(1,Ii z5)] [] 1 (sq (nE h fun zJ h=>r2 [iH 0 { id:=1 },iH 2 { id:=2,l:=(Mb ([]++zF)),n:=(([]++zF)).length },iA 0,iC trivial,iC (by simp:(List.map (AV.int .u8) ([]++zF))=[]++(List.map (AV.int .u8) zF)),iC (by simp:(([]++zF)).length=((List.map (AV.int .u8) ([]++zF))).length),iC (by first | (simp;done) | simpa using zJ:(([]:List AV).length+((List.map (AV.int .u8) zF):List AV).length) * 1<=140737488355328)] [0] [(5,.own 2 ((([]++zF)).length))] [] [(2,Rb 5 1 (Mb ([]++zF)))] 3 (sq (bE h fun zA zW h=>r0 [iK 1 {} (zBR z5 zA zW)] [(6,.int .u64 zA)] (sq (bE h fun zE yU h=>?_))))));refine xP (mk [(5,.own 0 zE.2.length),(6,.int .u64 zE.1)] [(0,Rb 5 1 (Mb zE.2))] 1) ?_ ?_
 ·replace h:=yU;refine yQ (id:=0) zk ?_;refine w0 [2] [] [(5,.own 0 ((([]++zF)).length)),(6,.int .u64 zA)] [(0,Rb 5 1 (Mb ([]++zF)))] ?_;refine wD (fun n st=>∃ (wH:Int),∃ (zK:List Int),st=mk [(5,.own 0 zK.length),(6,.int .u64 wH)] [(0,Rb 5 1 (Mb zK))] 1/\lP F n wH zK=some zE) F zk ⟨_,_,rfl,h⟩ ?_ ?_
  ·rintro _ ⟨_,_,_,h⟩;exact wC (h:(none:Option (Int×(List Int)))=some zE)
  rintro uA _ ⟨wH,zK,rfl,h⟩;replace h:rD F (lP F uA) wH zK=some zE:=h;unfold rD at h;refine sq (c0 [] 13 h [] ?_ ?_)
  rotate_left
  ·intro z8 h;refine wB (id:=0) zk ?_;cases h;exact ⟨rfl,(sI 1 [5,6])⟩
  intro z8 h;refine sk ?_;refine yQ (id:=1) zk ?_;refine sq (nE h fun xB h=>r2 [iH 5 { id:=1 },iC (by decide:(128:Int)≠(0:Int)),iM Fb zK,iA 1,iP 6 2 Fb zK [tN ((tN (kL wH 128))+128)] 1 xB] [] [(5,.own 2 (((zK++[tN ((tN (kL wH 128))+128)])).length))] [0] [(2,Rb 5 1 (Mb (zK++[tN ((tN (kL wH 128))+128)])))] 3 (r0 [iC (by decide:(128:Int)≠(0:Int))] [(6,.int .u64 (nW .u64 wH 128))] ?_));exact ⟨_,(sJ [2] [5,6]),_,_,rfl,h⟩
 refine sq (nE h fun xR h=>r2 [iH 3 { id:=1 },iM Fb zE.2,iA 1,iP 4 2 Fb zE.2 [tN zE.1] 1 xR] [] [(5,.own 2 (((zE.2++[tN zE.1])).length))] [0] [(2,Rb 5 1 (Mb (zE.2++[tN zE.1])))] 3 (s1 [] [5] [(4,.own 2 (((zE.2++[tN zE.1])).length))] (w0 [2] [] [(4,.own 0 (((zE.2++[tN zE.1])).length))] [(0,Rb 5 1 (Mb (zE.2++[tN zE.1])))] ?_)));cases h;exact rt rx
theorem zGM (F:Nat) (zO:List Int) (r:(List Int)) (h:A7 F zO=some r):yS prog 138 [] [] [.sl false 1 (Mi zO)] [] (Sb r):=by
 refine tI Tryz.f138 ?_;unfold A7 at h;refine sE [] [(0,.sl false 1 (Mi zO))] [] 0 (s0 [] [(3,.nilsl)] (sq (s0 [] [(4,Ii 0)] (bE h fun zE zJ h=>?_))));refine xP (mk [(3,Sb zE)] [] 0) ?_ ?_
 ·replace h:=zJ;refine yQ (id:=0) zk ?_;refine wz [] [] [3] [] [(0,.sl false 1 (Mi zO)),(3,.sl false 1 []),(4,Ii 0)] [] (ar ([]:List AV) an) ?_;refine wD (fun n st=>∃ (dM:List Int),∃ (zQ:Int),st=mk [(0,.sl false 1 (Mi zO)),(3,Sb dM),(4,Ii zQ)] [] 0/\GE F zO n dM zQ=some zE) F zk ⟨_,_,rfl,h⟩ ?_ ?_
  ·rintro _ ⟨_,_,_,h⟩;exact wC (h:(none:Option (List Int))=some zE)
  rintro z5 _ ⟨dM,zQ,rfl,h⟩;replace h:mJ F zO (GE F zO z5) dM zQ=some zE:=h;unfold mJ at h;refine sq (c0 [iN 2 Fi zO] 8 h [] ?_ ?_)
  rotate_left
  ·intro z8 h;refine wB (id:=0) zk ?_;cases h;exact ⟨rfl,(sI 0 [3])⟩
  intro z8 h;refine sk (sq ?_);refine yQ (id:=1) zk ?_;refine bE h fun zH zW h=>bE h fun zA yU h=>r2 [iF 3 Fi zW,iK 5 { ids:=[0] } (jO F dM zH zA yU)] [] [(3,.own 0 zA.length)] [] [(0,Rb 5 1 (Mb zA))] 1 (r0 [] [(4,Ii (zI (zQ+1)))] ?_);exact ⟨_,(Sub.trans (cX [] [0] [.s 0,.a 3 (Sb zA),.s 4] [] (sl2:=[(0,.sl false 1 (Mi zO)),(3,Sb zA),(4,Ii (zI (zQ+1)))]) (bx2:=[]) zk (ac (by first | (simp;done) | (simp;omega):zA.length=((List.map (AV.int .u8) zA)).length) (ar 1 (ar ((Mb zA):List AV) (ac (rfl:(!false||false)=true) an))))) (sI 0 [0,3,4])),_,_,rfl,h⟩
 refine s1 [] [3] [(2,Sb zE)] ?_;cases h;exact rt rx
theorem zGU (F:Nat) (zZ:List (List Int)) (z6:List zV) (zY:xD) (r:(List Int)×(List (List Int))×(List zV)×Int) (h:H0 F zZ z6 zY=some r):yS prog 97 [] [] [Ss zZ,Sq 2 yI z6,x9 zY] [] (.tuple [Sb r.1,Ss r.2.1,Sq 2 yI r.2.2.1,Ii r.2.2.2]):=by
 refine tI Tryz.f97 ?_;unfold H0 at h;refine sE [iH 0 { id:=0 }] [(0,Ss zZ),(1,Sq 2 yI z6),(5,Pp 0)] [(0,Vb 112 (u7 zY))] 1 (sq (sq (bE h fun zA zJ h=>r0 [iK 2 {} (NG F zZ z6 zA zJ)] [(26,.bool (zA != 0))] (ch 26 h ?_ ?_))))
 ·intro z8 h;refine s2 [] [0,1,5] [(6,.nilsl),(7,.nilsl),(8,.nilsl),(9,Ii 1)] [0] [] 1 (wz [] [] [6,7,8] [] [(6,.sl false 1 []),(7,.sl false 1 []),(8,.sl false 2 []),(9,Ii 1)] [] (ar ([]:List AV) (ar ([]:List AV) (ar ([]:List AV) an))) ?_);cases h;exact rt rx
 intro z8 h;refine sk (sq (bE h fun zC zW h=>r0 [iK 1 {} (T7 F zY zC zW)] [(10,Ii zC)] (sq (c0 [] 30 h [] ?_ ?_))))
 ·intro yV h;refine s2 [] [0,1,5] [(6,.nilsl),(7,.nilsl),(8,.nilsl),(9,Ii zC)] [0] [] 1 (wz [] [] [6,7,8] [] [(6,.sl false 1 []),(7,.sl false 1 []),(8,.sl false 2 []),(9,Ii zC)] [] (ar ([]:List AV) (ar ([]:List AV) (ar ([]:List AV) an))) ?_);cases h;exact rt rx
 intro yV h;refine sk (sq (bE h fun zM yU h=>r0 [iK 2 {} (XC zY.Kind zM yU)] [(11,.bool zM.1),(12,.bool zM.2.1),(13,.bool zM.2.2.1),(14,.bool zM.2.2.2)] (s2 [iH 4 { id:=1 }] [] [(15,.own 1 2)] [] [(1,Rb 3 1 (Mi [zY.Kind,zY.At]))] 2 (sq (s0 [] [(45,.bool zM.1)] (bE h fun zE xB h=>?_))))));refine vL (K1:=kS prog zE 0 (fun q0=>mk [(0,Ss q0.1),(1,Sq 2 yI z6),(5,Pp 0),(12,.bool zM.2.1),(13,.bool zM.2.2.1),(14,.bool zM.2.2.2),(15,.own 1 q0.2.length)] [(0,Vb 112 (u7 zY)),(1,Rb 3 1 (Mi q0.2))] 2) Tryz.f97 (fun q1=>[]) fun q1=>.tuple [Sb q1.1,Ss q1.2.1,Sq 2 yI q1.2.2.1,Ii q1.2.2.2]) ?_ ?_
 ·replace h:=xB;refine ch 45 h ?_ ?_
  rotate_left
  ·intro xG h;refine sk ?_;cases h;exact ⟨rfl,(sw [0,1] [] [.s 0,.s 1,.s 5,.s 12,.s 13,.s 14,.a 15 (.own 1 (([zY.Kind,zY.At]).length))] [.s 0,.s 1] (ac (congrArg (AV.own _) (by first | (simp;done) | (simp;omega)):(.own 1 2:AV)=.own 1 (([zY.Kind,zY.At]).length)) an))⟩
  intro xG h;refine sq (bE h fun zT xR h=>r1 [iK 3 {} (VO F zZ zY.Name zT xR)] [0] [(16,Ii zT.1),(17,Ss zT.2.1),(18,Ii zT.2.2)] (sq (c0 [] 55 h [] ?_ ?_)))
  ·intro wR h;refine s2 [] [1,5,15,17] [(6,.nilsl),(7,.nilsl),(8,.nilsl),(9,Ii zT.2.2)] [0,1] [] 2 (wz [] [] [6,7,8] [] [(6,.sl false 1 []),(7,.sl false 1 []),(8,.sl false 2 []),(9,Ii zT.2.2)] [] (ar ([]:List AV) (ar ([]:List AV) (ar ([]:List AV) an))) ?_);cases h;exact rt ry
  intro wR h;refine sk (s1 [] [17] [(0,Ss zT.2.1)] (nE h fun wA h=>r2 [iH 2 { id:=2 },iA 2,iA 1,iP 3 3 Fi [zY.Kind,zY.At] [zT.1] 8 wA] [] [(15,.own 3 ((([zY.Kind,zY.At]++[zT.1])).length))] [1] [(3,Rb 3 1 (Mi ([zY.Kind,zY.At]++[zT.1])))] 4 ?_));cases h;exact ⟨rfl,(sJ [0,3] [0,1,5,12,13,14,15])⟩
 intro e st1 hk;rcases zE with zX | xJ
 rotate_left
 ·obtain ⟨rfl,hf⟩:=hk;cases h;exact ⟨st1,Sub.refl _ _,.inr rfl,hf⟩
 obtain ⟨rfl,hs⟩:=hk;refine ⟨_,hs,?_⟩;refine sq (s0 [] [(62,.bool zM.2.1)] (bE h fun zR wS h=>?_));refine xP (mk [(0,Ss zX.1),(1,Sq 2 yI z6),(5,Pp 0),(13,.bool zM.2.2.1),(14,.bool zM.2.2.2),(15,.own 1 zR.length)] [(0,Vb 112 (u7 zY)),(1,Rb 3 1 (Mi zR))] 2) ?_ ?_
 ·replace h:=wS;refine ch 62 h ?_ ?_
  rotate_left
  ·intro vR h;refine sk ?_;cases h;exact ⟨rfl,(sI 2 [0,1,5,13,14,15])⟩
  intro vR h;refine nE h fun vB h=>r2 [iH 3 { id:=2 },iM Fi zX.2,iA 1,iP 4 3 Fi zX.2 [zY.N] 8 vB] [] [(15,.own 3 (((zX.2++[zY.N])).length))] [1] [(3,Rb 3 1 (Mi (zX.2++[zY.N])))] 4 ?_;cases h;exact ⟨rfl,(sJ [0,3] [0,1,5,13,14,15])⟩
 refine sq (s0 [] [(68,.bool zM.2.2.1)] (bE h fun yK vM h=>?_));refine xP (mk [(0,Ss zX.1),(1,Sq 2 yI z6),(5,Pp 0),(14,.bool zM.2.2.2),(15,.own 1 yK.length)] [(0,Vb 112 (u7 zY)),(1,Rb 3 1 (Mi yK))] 2) ?_ ?_
 ·replace h:=vM;refine ch 68 h ?_ ?_
  rotate_left
  ·intro uO h;refine sk ?_;cases h;exact ⟨rfl,(sI 2 [0,1,5,14,15])⟩
  intro uO h;refine nE h fun v7 h=>r2 [iH 3 { id:=2 },iM Fi zR,iA 1,iP 4 3 Fi zR [zY.M] 8 v7] [] [(15,.own 3 (((zR++[zY.M])).length))] [1] [(3,Rb 3 1 (Mi (zR++[zY.M])))] 4 ?_;cases h;exact ⟨rfl,(sJ [0,3] [0,1,5,14,15])⟩
 refine sq (s0 [] [(74,.bool zM.2.2.2)] (bE h fun xW uB h=>?_));refine vL (K1:=kS prog xW 0 (fun q0=>mk [(0,Ss q0.1),(1,Sq 2 yI q0.2.1),(15,.own 0 q0.2.2.length)] [(0,Rb 3 1 (Mi q0.2.2))] 1) Tryz.f97 (fun q1=>[]) fun q1=>.tuple [Sb q1.1,Ss q1.2.1,Sq 2 yI q1.2.2.1,Ii q1.2.2.2]) ?_ ?_
 ·replace h:=uB;refine ch 74 h ?_ ?_
  rotate_left
  ·intro tJ h;refine sk ?_;cases h;exact ⟨rfl,(sJ [1] [0,1,15])⟩
  intro tJ h;refine sq (bE h fun zU uX h=>r2 [iK 4 {} (zCy F zX.1 z6 zY.Stack zU uX)] [0,1,5] [(19,Ii zU.1),(20,Ss zU.2.1),(21,Sq 2 yI zU.2.2.1),(22,Ii zU.2.2.2)] [0] [] 2 (sq (c0 [] 86 h [] ?_ ?_)))
  ·intro qU h;refine s2 [] [15,20,21] [(6,.nilsl),(7,.nilsl),(8,.nilsl),(9,Ii zU.2.2.2)] [1] [] 2 (wz [] [] [6,7,8] [] [(6,.sl false 1 []),(7,.sl false 1 []),(8,.sl false 2 []),(9,Ii zU.2.2.2)] [] (ar ([]:List AV) (ar ([]:List AV) (ar ([]:List AV) an))) ?_);cases h;exact rt ry
  intro qU h;refine sk (s1 [] [20] [(0,Ss zU.2.1)] (s1 [] [21] [(1,Sq 2 yI zU.2.2.1)] (nE h fun u5 h=>r2 [iH 2 { id:=2 },iM Fi yK,iA 1,iP 3 3 Fi yK [zU.1] 8 u5] [] [(15,.own 3 (((yK++[zU.1])).length))] [1] [(3,Rb 3 1 (Mi (yK++[zU.1])))] 4 ?_)));cases h;exact ⟨rfl,(sJ [3] [0,1,15])⟩
 intro e st1 hk;rcases xW with vQ | t3
 rotate_left
 ·obtain ⟨rfl,hf⟩:=hk;cases h;exact ⟨st1,Sub.refl _ _,.inr rfl,hf⟩
 obtain ⟨rfl,hs⟩:=hk;refine ⟨_,hs,?_⟩;refine sq (bE h fun yF uP h=>r2 [iM Fi vQ.2.2,iK 1 { frz:=[0] } (zGM F vQ.2.2 yF uP)] [0,1,15] [(6,Sb yF),(7,Ss vQ.1),(8,Sq 2 yI vQ.2.1),(9,Ii 0)] [0] [] 1 ?_);cases h;exact rt rx
theorem YR (F:Nat) (zF:List Int) (zL:List Int) (r:(List Int)) (h:BG F zF zL=some r):yS prog 86 [] [] [Sb zF,.str zL] [.row 5 1 (Mb r)] (.own 0 r.length):=by
 refine tI Tryz.f86 ?_;unfold BG at h;refine sE [iH 0 { id:=0,m:=1 }] [(0,Sb zF),(1,.str zL)] [] 1 (sq (bE h fun zA zJ h=>r2 [iK 3 { ids:=[1] } (jO F zF (lN zL) zA zJ)] [0] [(5,.own 1 zA.length)] [] [(1,Rb 5 1 (Mb zA))] 2 (sq (s0 [] [(6,Ii 0)] (bE h fun zE zW h=>?_)))));refine xP (mk [(5,.own 0 zE.length)] [(0,Rb 5 1 (Mb zE))] 1) ?_ ?_
 ·replace h:=zW;refine yQ (id:=0) zk ?_;refine w0 [1] [] [(1,.str zL),(5,.own 0 zA.length),(6,Ii 0)] [(0,Rb 5 1 (Mb zA))] ?_;refine wD (fun n st=>∃ (zQ:Int),∃ (zK:List Int),st=mk [(1,.str zL),(5,.own 0 zK.length),(6,Ii zQ)] [(0,Rb 5 1 (Mb zK))] 1/\mI F zL n zQ zK=some zE) F zk ⟨_,_,rfl,h⟩ ?_ ?_
  ·rintro _ ⟨_,_,_,h⟩;exact wC (h:(none:Option (List Int))=some zE)
  rintro z5 _ ⟨zQ,zK,rfl,h⟩;replace h:D8 F zL (mI F zL z5) zQ zK=some zE:=h;unfold D8 at h;refine sq (c0 [] 14 h [] ?_ ?_)
  rotate_left
  ·intro z8 h;refine wB (id:=0) zk ?_;cases h;exact ⟨rfl,(sI 1 [5])⟩
  intro z8 h;refine sk (sq ?_);refine yQ (id:=1) zk ?_;refine bE h fun zB yU h=>nE h fun xB h=>r2 [iH 3 { z:=zB },iH 4 { id:=1 },iC yU,iM Fb zK,iA 1,iP 5 2 Fb zK [zB] 1 xB] [] [(5,.own 2 (((zK++[zB])).length))] [0] [(2,Rb 5 1 (Mb (zK++[zB])))] 3 (r0 [] [(6,Ii (zI (zQ+1)))] ?_);exact ⟨_,(sJ [2] [1,5,6]),_,_,rfl,h⟩
 refine s1 [] [5] [(4,.own 0 zE.length)] ?_;cases h;exact rt rx
theorem W2 (F:Nat) (zN:z7) (r:(List Int)×Int) (h:CI F zN=some r):yS prog 53 [] [] [yG zN] [.row 5 1 (Mb r.1)] (.tuple [.own 0 r.1.length,Ii r.2]):=by
 refine tI Tryz.f53 ?_;unfold CI at h;refine sE [iH 0 { id:=0 },iH 1 { id:=1,m:=1 }] [(1,Pp 0)] [(0,Vb 56 (wU zN))] 2 (sq (bE h fun zA zJ h=>r0 [iK 1 {} (QL F zN zA zJ)] [(4,Ii zA)] (sq (c0 [] 19 h [] ?_ ?_))))
 ·intro z8 h;refine s2 [iH 1 { id:=2,m:=1 }] [1] [(2,.own 2 0),(3,Ii zA)] [0] [(2,Rb 5 1 [])] 3 (wz [2] [] [2] [] [(2,.own 0 ((([]:List Int)).length)),(3,Ii zA)] [(0,Rb 5 1 [])] (ac (congrArg (AV.own _) (by first | (simp;done) | (simp;omega)):(.own 2 0:AV)=.own 2 ((([]:List Int)).length)) an) ?_);cases h;exact rt rx
 intro z8 h;refine sk (s0 [] [(5,.nilsl)] (s0 [] [(6,.nilsl)] (s2 [iH 0 { id:=2,m:=1 }] [] [(7,.own 2 0)] [] [(2,Rb 5 1 [])] 3 (sq (s0 [] [(8,Ii 0)] (bE h fun zE zW h=>?_))))));refine vL (K1:=kS prog zE 0 (fun q0=>mk [(1,Pp 0),(5,Ss q0.1),(6,Sq 2 yI q0.2.1),(7,.own 1 q0.2.2.length)] [(0,Vb 56 (wU zN)),(1,Rb 5 1 (Mb q0.2.2))] 2) Tryz.f53 (fun q1=>[.row 5 1 (Mb q1.1)]) fun q1=>.tuple [.own 0 q1.1.length,Ii q1.2]) ?_ ?_
 ·replace h:=zW;refine yQ (id:=0) zk ?_;refine wz [0,2] [] [5,6] [] [(1,Pp 0),(5,.sl false 1 []),(6,.sl false 2 []),(7,.own 1 0),(8,Ii 0)] [(0,Vb 56 (wU zN)),(1,Rb 5 1 [])] (ar ([]:List AV) (ar ([]:List AV) an)) ?_;refine wD (fun n st=>∃ (zZ:List (List Int)),∃ (z6:List zV),∃ (zQ:Int),∃ (zK:List Int),st=mk [(1,Pp 0),(5,Ss zZ),(6,Sq 2 yI z6),(7,.own 1 zK.length),(8,Ii zQ)] [(0,Vb 56 (wU zN)),(1,Rb 5 1 (Mb zK))] 2/\DS F zN n zZ z6 zQ zK=some zE) F zk ⟨_,_,_,_,rfl,h⟩ ?_ ?_
  ·rintro _ ⟨_,_,_,_,_,h⟩;exact wC (h:(none:Option (((List (List Int))×(List zV)×(List Int))⊕((List Int)×Int)))=some zE)
  rintro z5 _ ⟨zZ,z6,zQ,zK,rfl,h⟩;replace h:KD F zN (DS F zN z5) zZ z6 zQ zK=some zE:=h;unfold KD at h;refine sq (c0 [iN 3 x9 zN.Events] 25 h [] ?_ ?_)
  rotate_left
  ·intro yV h;refine wB (id:=0) zk ?_;cases h;exact ⟨rfl,(sI 2 [1,5,6,7])⟩
  intro yV h;refine sk (sq ?_);refine yQ (id:=1) zk ?_;refine sq (bE h fun zH yU h=>bE h fun zC xB h=>r1 [iF 5 x9 yU,iK 7 {} (zGU F zZ z6 zH zC xB)] [5,6] [(9,Sb zC.1),(10,Ss zC.2.1),(11,Sq 2 yI zC.2.2.1),(12,Ii zC.2.2.2)] (sq (c0 [] 42 h [] ?_ ?_)))
  ·intro xG h;refine s2 [iH 1 { id:=2,m:=1 }] [1,7,9,10,11] [(2,.own 2 0),(3,Ii zC.2.2.2)] [0,1] [(2,Rb 5 1 [])] 3 (wz [2] [] [2] [] [(2,.own 0 ((([]:List Int)).length)),(3,Ii zC.2.2.2)] [(0,Rb 5 1 [])] (ac (congrArg (AV.own _) (by first | (simp;done) | (simp;omega)):(.own 2 0:AV)=.own 2 ((([]:List Int)).length)) an) ?_);cases h;exact rt ry
  intro xG h;refine sk (s1 [] [10] [(5,Ss zC.2.1)] (s1 [] [11] [(6,Sq 2 yI zC.2.2.1)] (nE h fun xR h=>r2 [iM Fb zK,iC trivial,iP 2 2 Fb zK zC.1 1 xR] [9] [(7,.own 2 (((zK++zC.1)).length))] [1] [(2,Rb 5 1 (Mb (zK++zC.1)))] 3 (r0 [] [(8,Ii (zI (zQ+1)))] ?_))));exact ⟨_,(sJ [0,2] [1,5,6,7,8]),_,_,_,_,rfl,h⟩
 intro e st1 hk;rcases zE with zX | xJ
 rotate_left
 ·obtain ⟨rfl,hf⟩:=hk;cases h;exact ⟨st1,Sub.refl _ _,.inr rfl,hf⟩
 obtain ⟨rfl,hs⟩:=hk;refine ⟨_,hs,?_⟩;refine sq (bE h fun zM wA h=>r2 [iL 2 { ids:=[2] } [.nilsl,Ii zN.Thread] (jO F [] zN.Thread zM wA) ⟨rfl,rfl,trivial⟩] [] [(13,.own 2 zM.length)] [] [(2,Rb 5 1 (Mb zM))] 3 (sq (bE h fun zT wS h=>r2 [iM Fb zM,iK 3 { frz:=[2],ids:=[3] } (jO F zM zN.Serial zT wS)] [] [(13,.own 3 zT.length)] [2] [(3,Rb 5 1 (Mb zT))] 4 (sq (bE h fun zU vB h=>r2 [iM Fb zT,iK 3 { frz:=[3],ids:=[4] } (jO F zT zN.Lost zU vB)] [] [(13,.own 4 zU.length)] [3] [(4,Rb 5 1 (Mb zU))] 5 (sq (bE h fun yF vM h=>r2 [iN 2 AV.str zX.1,iM Fb zU,iK 3 { frz:=[4],ids:=[5] } (jO F zU (lN zX.1) yF vM)] [] [(13,.own 5 yF.length)] [4] [(5,Rb 5 1 (Mb yF))] 6 (sq (s0 [] [(14,Ii 0)] (bE h fun zR v7 h=>?_))))))))));refine xP (mk [(1,Pp 0),(6,Sq 2 yI zX.2.1),(7,.own 1 zX.2.2.length),(13,.own 2 zR.length)] [(0,Vb 56 (wU zN)),(1,Rb 5 1 (Mb zX.2.2)),(2,Rb 5 1 (Mb zR))] 3) ?_ ?_
 ·replace h:=v7;refine yQ (id:=2) zk ?_;refine w0 [0,1,5] [] [(1,Pp 0),(5,Ss zX.1),(6,Sq 2 yI zX.2.1),(7,.own 1 zX.2.2.length),(13,.own 2 yF.length),(14,Ii 0)] [(0,Vb 56 (wU zN)),(1,Rb 5 1 (Mb zX.2.2)),(2,Rb 5 1 (Mb yF))] ?_;refine wD (fun n st=>∃ (y9:Int),∃ (z4:List Int),st=mk [(1,Pp 0),(5,Ss zX.1),(6,Sq 2 yI zX.2.1),(7,.own 1 zX.2.2.length),(13,.own 2 z4.length),(14,Ii y9)] [(0,Vb 56 (wU zN)),(1,Rb 5 1 (Mb zX.2.2)),(2,Rb 5 1 (Mb z4))] 3/\C9 F zX n y9 z4=some zR) F zk ⟨_,_,rfl,h⟩ ?_ ?_
  ·rintro _ ⟨_,_,_,h⟩;exact wC (h:(none:Option (List Int))=some zR)
  rintro uA _ ⟨y9,z4,rfl,h⟩;replace h:LA F zX (C9 F zX uA) y9 z4=some zR:=h;unfold LA at h;refine sq (c0 [iN 2 AV.str zX.1] 67 h [] ?_ ?_)
  rotate_left
  ·intro wR h;refine wB (id:=2) zk ?_;cases h;exact ⟨rfl,(sI 3 [1,6,7,13])⟩
  intro wR h;refine sk (sq ?_);refine yQ (id:=3) zk ?_;refine bE h fun yO uB h=>bE h fun yY uX h=>r2 [iF 3 AV.str uB,iM Fb z4,iK 5 { frz:=[2],ids:=[3] } (YR F z4 yO yY uX)] [] [(13,.own 3 yY.length)] [2] [(3,Rb 5 1 (Mb yY))] 4 (r0 [] [(14,Ii (zI (y9+1)))] ?_);exact ⟨_,(sJ [0,1,3] [1,5,6,7,13,14]),_,_,rfl,h⟩
 refine sq (bE h fun yH u5 h=>r2 [iN 2 yI zX.2.1,iM Fb zR,iK 3 { frz:=[2],ids:=[3] } (jO F zR (lN zX.2.1) yH u5)] [] [(13,.own 3 yH.length)] [2] [(3,Rb 5 1 (Mb yH))] 4 (sq (s0 [] [(15,Ii 0)] (bE h fun yK uP h=>?_))));refine xP (mk [(1,Pp 0),(7,.own 1 zX.2.2.length),(13,.own 2 yK.length)] [(0,Vb 56 (wU zN)),(1,Rb 5 1 (Mb zX.2.2)),(2,Rb 5 1 (Mb yK))] 3) ?_ ?_
 ·replace h:=uP;refine yQ (id:=4) zk ?_;refine w0 [0,1,3] [] [(1,Pp 0),(6,Sq 2 yI zX.2.1),(7,.own 1 zX.2.2.length),(13,.own 2 yH.length),(15,Ii 0)] [(0,Vb 56 (wU zN)),(1,Rb 5 1 (Mb zX.2.2)),(2,Rb 5 1 (Mb yH))] ?_;refine wD (fun n st=>∃ (wQ:Int),∃ (yL:List Int),st=mk [(1,Pp 0),(6,Sq 2 yI zX.2.1),(7,.own 1 zX.2.2.length),(13,.own 2 yL.length),(15,Ii wQ)] [(0,Vb 56 (wU zN)),(1,Rb 5 1 (Mb zX.2.2)),(2,Rb 5 1 (Mb yL))] 3/\DF F zX n wQ yL=some yK) F zk ⟨_,_,rfl,h⟩ ?_ ?_
  ·rintro _ ⟨_,_,_,h⟩;exact wC (h:(none:Option (List Int))=some yK)
  rintro t5 _ ⟨wQ,yL,rfl,h⟩;replace h:EM F zX (DF F zX t5) wQ yL=some yK:=h;unfold EM at h;refine sq (c0 [iN 2 yI zX.2.1] 83 h [] ?_ ?_)
  rotate_left
  ·intro vR h;refine wB (id:=4) zk ?_;cases h;exact ⟨rfl,(sI 3 [1,7,13])⟩
  intro vR h;refine sk (sq ?_);refine yQ (id:=5) zk ?_;refine bE h fun xE t7 h=>bE h fun yR t6 h=>bE h fun wI jE h=>bE h fun y8 jD h=>r2 [iF 3 yI t7,i0,iC (by decide:0<((2:Nat):Int)),iM Fb yL,iK 6 { frz:=[2],ids:=[3] } (jO F yL xE.c0 yR t6),iF 9 yI jE,iC (by decide:(0:Int)<=(1:Int)),iC (by decide:1<((2:Nat):Int)),iM Fb yR,iK 12 { frz:=[3],ids:=[4] } (jO F yR wI.c1 y8 jD)] [] [(13,.own 4 y8.length)] [2] [(4,Rb 5 1 (Mb y8))] 5 (r0 [] [(15,Ii (zI (wQ+1)))] ?_);exact ⟨_,(sJ [0,1,4] [1,6,7,13,15]),_,_,rfl,h⟩
 refine sq (bE h fun wM p7 h=>nE h fun fZ h=>r2 [iN 3 x9 zN.Events,iM Fb yK,iK 4 { frz:=[2],ids:=[3] } (jO F yK (lN zN.Events) wM p7),iM Fb wM,iM Fb zX.2.2,iP 6 4 Fb wM zX.2.2 1 fZ] [1,7,13] [(2,.own 4 (((wM++zX.2.2)).length)),(3,Ii 0)] [0,1,2] [(4,Rb 5 1 (Mb (wM++zX.2.2)))] 5 (w0 [4] [] [(2,.own 0 (((wM++zX.2.2)).length)),(3,Ii 0)] [(0,Rb 5 1 (Mb (wM++zX.2.2)))] ?_));cases h;exact rt rx
theorem zCi (F:Nat) (zF:List Int) (r:z7×Int×Int) (h:HY F zF=some r):yS prog 34 [] [] [Sb zF] [] (.tuple [yG r.1,Ii r.2.1,Ii r.2.2]):=by
 refine tI Tryz.f34 ?_;unfold HY at h;refine sE [iH 0 { id:=0 }] [(0,Sb zF),(2,Pp 0)] [(0,Vb 56 [Ii 0,Ii 0,Ii 0,.nilsl])] 1 (s2 [iH 2 { id:=1 }] [] [(5,Pp 1)] [] [(1,Vb 124 [Sb zF,Ii 0,Ii 0])] 2 (sq (bE h fun zA zJ h=>r2 [iH 2 { id:=2 },iJ 1 { ids:=[1] } [Pp 1] (zIa F (⟨zF,0,0⟩:vY) zA zJ)] [] [(6,Pp 2)] [] [(1,Vb 124 (tG zA.2)),(2,Vb 56 (wU zA.1))] 3 (sq (c0 [] 19 h [] ?_ ?_)))))
 ·intro z8 h;refine s2 [] [0,5,6] [(3,Ii 0),(4,Ii zA.2.E)] [1,2] [] 3 (wz [0] [] [] [0] [(2,Pp 0),(3,Ii 0),(4,Ii zA.2.E)] [(0,Vb 56 (wU (⟨0,0,0,[]⟩:z7)))] (ar 56 (ar true (ar (Ii 0) (ar (Ii 0) (ar (Ii 0) (ar ([]:List AV) an)))))) ?_);cases h;exact rt rx
 intro z8 h;refine sk (sq (bE h fun zC zW h=>r0 [iK 1 {} (QL F zA.1 zC zW)] [(7,Ii zC)] (sq (c0 [] 28 h [] ?_ ?_))))
 ·intro yV h;refine s2 [] [0,5,6] [(3,Ii 0),(4,Ii zC)] [1,2] [] 3 (wz [0] [] [] [0] [(2,Pp 0),(3,Ii 0),(4,Ii zC)] [(0,Vb 56 (wU (⟨0,0,0,[]⟩:z7)))] (ar 56 (ar true (ar (Ii 0) (ar (Ii 0) (ar (Ii 0) (ar ([]:List AV) an)))))) ?_);cases h;exact rt rx
 intro yV h;refine sk (sq (bE h fun zM yU h=>r2 [iK 1 { ids:=[3] } (W2 F zA.1 zM yU)] [] [(8,.own 3 zM.1.length)] [] [(3,Rb 5 1 (Mb zM.1))] 4 (sq (sq (nE h fun xB h=>r2 [iH 1 { s:=zM.1 },iH 8 { s:=sub zF 0 zA.2.At },iM Fb zM.1,iC (rfl:(Mb zM.1)=List.map (AV.int .u8) zM.1),iS 7 Fb zF 0 zA.2.At (by decide) xB.1 xB.2,iC (rfl:(Mb (sub zF 0 zA.2.At))=List.map (AV.int .u8) (sub zF 0 zA.2.At))] [0,8] [(45,.bool (!(zM.1==(sub zF 0 zA.2.At))))] [3] [] 4 (ch 45 h ?_ ?_))))))
 ·intro xG h;refine s2 [] [5,6] [(3,Ii 0),(4,Ii 10)] [1,2] [] 4 (wz [0] [] [] [0] [(2,Pp 0),(3,Ii 0),(4,Ii 10)] [(0,Vb 56 (wU (⟨0,0,0,[]⟩:z7)))] (ar 56 (ar true (ar (Ii 0) (ar (Ii 0) (ar (Ii 0) (ar ([]:List AV) an)))))) ?_);cases h;exact rt rx
 intro xG h;refine sk (s2 [] [5,6] [(3,Ii zA.2.At),(4,Ii 0)] [1,2] [(0,Vb 56 (wU zA.1))] 4 ?_);cases h;exact rt rx
theorem L2 (F:Nat) (zJ:yB) (tP:Int) (r:Bool) (h:B3 F zJ tP=some r):yS prog 35 [] [] [qO zJ,Ii tP] [] (.bool r):=by
 refine tI Tryz.f35 ?_;unfold B3 at h;refine sE [iH 0 { id:=0 }] [(1,Ii tP),(2,Pp 0)] [(0,Vb 28 (wL zJ))] 1 (sq (s0 [] [(5,Ii 0)] (bE h fun zE zW h=>?_)));refine vL (K1:=kS prog zE 0 (fun q0=>mk [] [] 0) Tryz.f35 (fun q1=>[]) fun q1=>.bool q1) ?_ ?_
 ·replace h:=zW;refine yQ (id:=0) zk ?_;refine w0 [0] [] [(1,Ii tP),(2,Pp 0),(5,Ii 0)] [(0,Vb 28 (wL zJ))] ?_;refine wD (fun n st=>∃ (zQ:Int),st=mk [(1,Ii tP),(2,Pp 0),(5,Ii zQ)] [(0,Vb 28 (wL zJ))] 1/\GG F zJ tP n zQ=some zE) F zk ⟨_,rfl,h⟩ ?_ ?_
  ·rintro _ ⟨_,_,h⟩;exact wC (h:(none:Option (Unit⊕Bool))=some zE)
  rintro z5 _ ⟨zQ,rfl,h⟩;replace h:o5 F zJ tP (GG F zJ tP z5) zQ=some zE:=h;unfold o5 at h;refine sq (c0 [iN 3 yJ zJ.Threads] 10 h [] ?_ ?_)
  rotate_left
  ·intro z8 h;refine wB (id:=0) zk ?_;cases h;exact ⟨rfl,(sI 0 [])⟩
  intro z8 h;refine sk (sq ?_);refine yQ (id:=1) zk ?_;refine sq (bE h fun zH yU h=>r0 [iF 3 yJ yU] [(20,.bool (zH.Id==tP))] (ch 20 h ?_ ?_))
  rotate_left
  ·intro yV h;refine sk (r0 [] [(5,Ii (zI (zQ+1)))] ?_);exact ⟨_,(sI 1 [1,2,5]),_,rfl,h⟩
  intro yV h;refine s2 [] [2] [(4,.bool true)] [0] [] 1 ?_;cases h;exact rt ry
 intro e st1 hk;rcases zE with zX | xJ
 rotate_left
 ·obtain ⟨rfl,hf⟩:=hk;cases h;exact ⟨st1,Sub.refl _ _,.inr rfl,hf⟩
 obtain ⟨rfl,hs⟩:=hk;refine ⟨_,hs,?_⟩;refine s0 [] [(4,.bool false)] ?_;cases h;exact rt rx
theorem zCG (F:Nat) (zO:List z7) (tP:Int) (r:Int×Int) (h:KM F zO tP=some r):yS prog 80 [] [] [Sq 4 yG zO,Ii tP] [] (.tuple [Ii r.1,Ii r.2]):=by
 refine tI Tryz.f80 ?_;unfold KM at h;refine sE [] [(0,Sq 4 yG zO),(1,Ii tP)] [] 0 (s0 [] [(6,Ii 0)] (s0 [] [(7,Ii 0)] (sq (s0 [] [(8,Ii 0)] (bE h fun zE zJ h=>?_)))));refine xP (mk [(6,Ii zE.1),(7,Ii zE.2)] [] 0) ?_ ?_
 ·replace h:=zJ;refine yQ (id:=0) zk ?_;refine w0 [] [] [(0,Sq 4 yG zO),(1,Ii tP),(6,Ii 0),(7,Ii 0),(8,Ii 0)] [] ?_;refine wD (fun n st=>∃ (z5:Int),∃ (fX:Int),∃ (zQ:Int),st=mk [(0,Sq 4 yG zO),(1,Ii tP),(6,Ii z5),(7,Ii fX),(8,Ii zQ)] [] 0/\BE F zO tP n z5 fX zQ=some zE) F zk ⟨_,_,_,rfl,h⟩ ?_ ?_
  ·rintro _ ⟨_,_,_,_,h⟩;exact wC (h:(none:Option (Int×Int))=some zE)
  rintro uA _ ⟨z5,fX,zQ,rfl,h⟩;replace h:JU F zO tP (BE F zO tP uA) z5 fX zQ=some zE:=h;unfold JU at h;refine sq (c0 [iN 2 yG zO] 12 h [] ?_ ?_)
  rotate_left
  ·intro z8 h;refine wB (id:=0) zk ?_;cases h;exact ⟨rfl,(sI 0 [6,7])⟩
  intro z8 h;refine sk (sq (bE h fun zR zW h=>?_));refine xP (mk [(0,Sq 4 yG zO),(1,Ii tP),(6,Ii zR.1),(7,Ii zR.2),(8,Ii zQ)] [] 0) ?_ ?_
  ·replace h:=zW;refine yQ (id:=1) zk ?_;refine sq (bE h fun zH yU h=>r0 [iF 2 yG yU] [(21,.bool (zH.Thread==tP))] (ch 21 h ?_ ?_))
   rotate_left
   ·intro yV h;refine sk ?_;cases h;exact ⟨rfl,(sI 0 [0,1,6,7,8])⟩
   intro yV h;refine sq (bE h fun yO xB h=>bE h fun xE xR h=>r0 [iF 2 yG xB,iF 7 yG xR,iN 10 x9 xE.Events] [(6,Ii (zI (yO.Serial+(lN xE.Events))))] (bE h fun wI wA h=>bE h fun vG wS h=>bE h fun uV vB h=>r0 [iF 2 yG wA,iF 7 yG wS,iN 10 x9 vG.Events,iF 12 x9 vB] [(7,Ii uV.At)] ?_));cases h;exact ⟨rfl,(sI 0 [0,1,6,7,8])⟩
  refine r0 [] [(8,Ii (zI (zQ+1)))] ?_;exact ⟨_,(sI 0 [0,1,6,7,8]),_,_,_,rfl,h⟩
 refine s0 [] [(4,Ii zE.1),(5,Ii zE.2)] ?_;cases h;exact rt rx
theorem SS (F:Nat) (zO:List z7) (zN:z7) (r:Bool) (h:BN F zO zN=some r):yS prog 36 [] [] [Sq 4 yG zO,yG zN] [] (.bool r):=by
 refine tI Tryz.f36 ?_;unfold BN at h;refine sE [iH 0 { id:=0 }] [(0,Sq 4 yG zO),(3,Pp 0)] [(0,Vb 56 (wU zN))] 1 (sq (bE h fun zA zJ h=>r1 [iK 3 {} (zCG F zO zN.Thread zA zJ)] [0] [(5,Ii zA.1),(6,Ii zA.2)] (sq (bE h fun uW yU h=>?_))));refine xP (mk [(4,.bool uW)] [] 0) ?_ ?_
 ·replace h:=yU;rcases bft (zN.Serial==(zI (zA.1+zN.Lost))) with zS | zS
  ·replace h:=xN zS h;refine bE h fun zH zW h=>r2 [iH 15 Ht,iR 3 zS,iF 10 x9 zW,iR 5 zS] [3] [(4,.bool (decide (zH.At>=zA.2)))] [0] [] 1 ?_;cases h;exact ⟨rfl,(sI 0 [4])⟩
  ·replace h:=xO zS h;refine r2 [iG 8 7,iH 15 Hf,iR 8 zS] [3] [(4,.bool false)] [0] [] 1 ?_;cases h;exact ⟨rfl,(sI 0 [4])⟩
 cases h;exact rt rx
theorem XD (F:Nat) (zO:List z7) (r:Int) (h:CW F zO=some r):yS prog 37 [] [] [Sq 4 yG zO] [] (Ii r):=by
 refine tI Tryz.f37 ?_;unfold CW at h;refine sE [] [(0,Sq 4 yG zO)] [] 0 (s0 [] [(3,Ii 0)] (sq (s0 [] [(4,Ii 0)] (bE h fun zE zJ h=>?_))));refine xP (mk [(3,Ii zE)] [] 0) ?_ ?_
 ·replace h:=zJ;refine yQ (id:=0) zk ?_;refine w0 [] [] [(0,Sq 4 yG zO),(3,Ii 0),(4,Ii 0)] [] ?_;refine wD (fun n st=>∃ (z5:Int),∃ (zQ:Int),st=mk [(0,Sq 4 yG zO),(3,Ii z5),(4,Ii zQ)] [] 0/\BT F zO n z5 zQ=some zE) F zk ⟨_,_,rfl,h⟩ ?_ ?_
  ·rintro _ ⟨_,_,_,h⟩;exact wC (h:(none:Option Int)=some zE)
  rintro uA _ ⟨z5,zQ,rfl,h⟩;replace h:JF F zO (BT F zO uA) z5 zQ=some zE:=h;unfold JF at h;refine sq (c0 [iN 2 yG zO] 8 h [] ?_ ?_)
  rotate_left
  ·intro z8 h;refine wB (id:=0) zk ?_;cases h;exact ⟨rfl,(sI 0 [3])⟩
  intro z8 h;refine sk (sq ?_);refine yQ (id:=1) zk ?_;refine bE h fun zH zW h=>r0 [iF 3 yG zW,iN 6 x9 zH.Events] [(3,Ii (zI (z5+(lN zH.Events))))] (r0 [] [(4,Ii (zI (zQ+1)))] ?_);exact ⟨_,(sI 0 [0,3,4]),_,_,rfl,h⟩
 refine s0 [] [(2,Ii zE)] ?_;cases h;exact rt rx
theorem YU (F:Nat) (zF:List Int) (r:yB×(List z7)×Int) (h:AJ F zF=some r):yS prog 8 [] [] [Sb zF] [.row 56 4 (Mp yG r.2.1)] (.tuple [qO r.1,.own 0 r.2.1.length,Ii r.2.2]):=by
 refine tI Tryz.f8 ?_;unfold AJ at h;refine sE [iH 0 { id:=0 },iH 1 { id:=1,m:=1 }] [(0,Sb zF),(2,Pp 0)] [(0,nT)] 2 (sq (bE h fun zA zJ h=>r0 [iK 1 {} (VH F zF zA zJ)] [(5,Iu zA.1),(6,Sb zA.2.1),(7,Ii zA.2.2)] (sq (sq ?_))));refine xP (mk [(0,Sb zF),(2,Pp 0),(6,Sb zA.2.1),(7,Ii zA.2.2),(34,.bool ((zA.1 != 72)||(zA.2.2==0)))] [(0,nT)] 1) ?_ ?_
 ·rcases bft (zA.1 != 72) with gg_47 | gg_47
  ·refine r0 [iG 3 2,iH 5 Ht,iR 3 gg_47] [(34,.bool true)] ?_;exact ⟨rfl,(sw [0] [] [.s 0,.s 2,.s 6,.s 7,.a 34 (.bool ((zA.1 != 72)||(zA.2.2==0)))] [.s 0] (ac (congrArg AV.bool (ort gg_47):(.bool true:AV)=.bool ((zA.1 != 72)||(zA.2.2==0))) an))⟩
  ·refine r0 [iH 5 Hf,iR 3 gg_47] [(34,.bool (zA.2.2==0))] ?_;exact ⟨rfl,(sw [0] [] [.s 0,.s 2,.s 6,.s 7,.a 34 (.bool ((zA.1 != 72)||(zA.2.2==0)))] [.s 0] (ac (congrArg AV.bool (orf gg_47 rfl):(.bool (zA.2.2==0):AV)=.bool ((zA.1 != 72)||(zA.2.2==0))) an))⟩
 refine ch 34 h ?_ ?_
 ·intro z8 h;refine s2 [iH 2 { id:=1,m:=1 }] [0,6] [(3,.own 1 0),(4,Ii 0)] [] [(1,Rb 56 4 [])] 2 (wz [1,0] [] [3] [1] [(2,Pp 1),(3,.own 0 ((([]:List z7)).length)),(4,Ii 0)] [(0,Rb 56 4 []),(1,Vb 28 (wL (⟨[],[],[]⟩:yB)))] (ac (congrArg (AV.own _) (by first | (simp;done) | (simp;omega)):(.own 1 0:AV)=.own 1 ((([]:List z7)).length)) (ar 28 (ar true (ar ([]:List AV) (ar ([]:List AV) (ar ([]:List AV) an)))))) ?_);cases h;exact rt rx
 intro z8 h;refine sk (sq (bE h fun zC zW h=>r2 [iH 5 { id:=1 },iK 1 {} (zEr F zA.2.1 zC zW)] [6] [(8,Pp 1),(9,.bool zC.2)] [] [(1,Vb 28 (wL zC.1))] 2 (sq (c0 [] 42 h [] ?_ ?_))))
 ·intro yV h;refine s2 [iH 2 { id:=2,m:=1 }] [0,8] [(3,.own 2 0),(4,Ii 0)] [1] [(2,Rb 56 4 [])] 3 (wz [2,0] [] [3] [1] [(2,Pp 1),(3,.own 0 ((([]:List z7)).length)),(4,Ii 0)] [(0,Rb 56 4 []),(1,Vb 28 (wL (⟨[],[],[]⟩:yB)))] (ac (congrArg (AV.own _) (by first | (simp;done) | (simp;omega)):(.own 2 0:AV)=.own 2 ((([]:List z7)).length)) (ar 28 (ar true (ar ([]:List AV) (ar ([]:List AV) (ar ([]:List AV) an)))))) ?_);cases h;exact rt rx
 intro yV h;refine sk (s0 [] [(10,Ii zA.2.2)] (s2 [iH 0 { id:=2,m:=1 }] [] [(11,.own 2 0)] [] [(2,Rb 56 4 [])] 3 (sq (nE h fun yU h=>r2 [iH 0 { id:=3 },iH 3 { id:=4,l:=(Mp z9 ([]++zC.1.Snaps)),n:=(([]++zC.1.Snaps)).length },iA 0,iC trivial,iC (by simp:(List.map z9 ([]++zC.1.Snaps))=[]++(List.map z9 zC.1.Snaps)),iC (by simp:(([]++zC.1.Snaps)).length=((List.map z9 ([]++zC.1.Snaps))).length),iC (by first | (simp;done) | simpa using yU:(([]:List AV).length+((List.map z9 zC.1.Snaps):List AV).length) * 40<=140737488355328)] [] [(12,.own 4 ((([]++zC.1.Snaps)).length))] [] [(4,Rb 76 5 (Mp z9 ([]++zC.1.Snaps)))] 5 (s2 [iH 0 { id:=5,m:=1 }] [] [(13,.own 5 0)] [] [(5,Rb 56 4 [])] 6 (s0 [] [(14,Ii 0)] (bE h fun zE xB h=>?_)))))));refine vL (K1:=(fun e st'=>e=.ret/\OI prog Tryz.f8 0 [.row 56 4 (Mp yG zE.2.1)] (.tuple [qO zE.1,.own 0 zE.2.1.length,Ii zE.2.2]) st')) ?_ ?_
 ·replace h:=xB;refine yQ (id:=0) zk ?_;refine w0 [0,1,2,4,5] [] [(0,Sb zF),(2,Pp 0),(7,Ii zA.2.2),(8,Pp 1),(10,Ii zA.2.2),(11,.own 2 0),(12,.own 3 ((([]++zC.1.Snaps)).length)),(13,.own 4 0),(14,Ii 0)] [(0,nT),(1,Vb 28 (wL zC.1)),(2,Rb 56 4 []),(3,Rb 76 5 (Mp z9 ([]++zC.1.Snaps))),(4,Rb 56 4 [])] ?_;refine wD (fun n st=>∃ (xU:Int),∃ (jL:Int),∃ (qM:Int),∃ (zB:List yZ),∃ (zK:List z7),∃ (z4:List yZ),∃ (yL:List z7),st=mk [(0,Sb zF),(2,Pp 0),(7,Ii xU),(8,Pp 1),(10,Ii jL),(11,.own 2 zK.length),(12,.own 3 z4.length),(13,.own 4 yL.length),(14,Ii qM)] [(0,nT),(1,Vb 28 [Sq 3 yJ zC.1.Threads,Sq 2 yA zC.1.Domains,Sq 5 z9 zB]),(2,Rb 56 4 (Mp yG zK)),(3,Rb 76 5 (Mp z9 z4)),(4,Rb 56 4 (Mp yG yL))] 5/\CH F zF zC n xU jL qM zB zK z4 yL=some zE) F zk ⟨_,_,_,_,_,_,_,rfl,h⟩ ?_ ?_
  ·rintro _ ⟨_,_,_,_,_,_,_,_,h⟩;exact wC (h:(none:Option (yB×(List z7)×Int))=some zE)
  rintro z5 _ ⟨xU,jL,qM,zB,zK,z4,yL,rfl,h⟩;replace h:rH F zF zC (CH F zF zC z5) xU jL qM zB zK z4 yL=some zE:=h;unfold rH at h;refine yQ (id:=1) zk ?_;refine sq (nE h fun xR h=>bE h fun zM wA h=>r0 [iT 2 Fb zF xU xR.1 xR.2,iK 3 {} (VH F (sub zF xU (lN zF)) zM wA)] [(15,Iu zM.1),(16,Sb zM.2.1),(17,Ii zM.2.2)] (s0 [] [(7,Ii (zI (xU+zM.2.2)))] (sq (nE h fun wS h=>nE h fun vB h=>r2 [iH 0 { id:=5 },iH 2 { id:=6,l:=(Mp yG ([]++zK)),n:=(([]++zK)).length },iA 0,iM yG zK,iC (by simp:(List.map yG ([]++zK))=[]++(List.map yG zK)),iC (by simp:(([]++zK)).length=((List.map yG ([]++zK))).length),iC (by first | (simp;done) | simpa using wS:(([]:List AV).length+((List.map yG zK):List AV).length) * 48<=140737488355328),iM yG ([]++zK),iM yG yL,iP 4 7 yG ([]++zK) yL 48 vB] [] [(18,.own 7 (((([]++zK)++yL)).length))] [] [(7,Rb 56 4 (Mp yG (([]++zK)++yL)))] 8 ?_))));refine yQ (id:=2) zk ?_;refine c0 [] 68 h [] ?_ ?_
  ·intro xG h;refine s2 [] [0,8,11,12,13,16,18] [(3,.own 2 zK.length),(4,Ii jL)] [1,3,4,7] [(0,Vb 28 [Sq 3 yJ zC.1.Threads,Sq 2 yA zC.1.Domains,Sq 5 z9 zB])] 8 (w0 [2,0] [] [(2,Pp 1),(3,.own 0 zK.length),(4,Ii jL)] [(0,Rb 56 4 (Mp yG zK)),(1,Vb 28 (wL (⟨zC.1.Threads,zC.1.Domains,zB⟩:yB)))] ?_);cases h;exact rt ry
  intro xG h;refine sq ?_;refine xP (mk [(0,Sb zF),(2,Pp 0),(7,Ii (zI (xU+zM.2.2))),(8,Pp 1),(10,Ii jL),(11,.own 2 zK.length),(12,.own 3 z4.length),(13,.own 4 yL.length),(14,Ii qM),(15,Iu zM.1),(16,Sb zM.2.1),(18,.own 5 (((([]++zK)++yL)).length)),(74,.bool ((zM.1==83)&&decide (qM<=1)))] [(0,nT),(1,Vb 28 [Sq 3 yJ zC.1.Threads,Sq 2 yA zC.1.Domains,Sq 5 z9 zB]),(2,Rb 56 4 (Mp yG zK)),(3,Rb 76 5 (Mp z9 z4)),(4,Rb 56 4 (Mp yG yL)),(5,Rb 56 4 (Mp yG (([]++zK)++yL)))] 6) ?_ ?_
  ·rcases bft (zM.1==83) with gg_84 | gg_84
   ·refine r0 [iH 5 Ht,iR 3 gg_84] [(74,.bool (decide (qM<=1))),(78,Ii qM),(79,.bool (decide (qM<=1)))] ?_;exact ⟨rfl,(sw [0,1,2,3,4,7] [] [.s 0,.s 2,.s 7,.s 8,.s 10,.s 11,.s 12,.s 13,.s 14,.s 15,.s 16,.s 18,.a 74 (.bool ((zM.1==83)&&decide (qM<=1)))] [.s 0,.s 1,.s 2,.s 3,.s 4,.s 5] (ac (congrArg AV.bool (w9 gg_84 rfl):(.bool (decide (qM<=1)):AV)=.bool ((zM.1==83)&&decide (qM<=1))) an))⟩
   ·refine r0 [iG 3 2,iH 5 Hf,iR 3 gg_84] [(74,.bool false),(78,.tuple []),(79,.tuple [])] ?_;exact ⟨rfl,(sw [0,1,2,3,4,7] [] [.s 0,.s 2,.s 7,.s 8,.s 10,.s 11,.s 12,.s 13,.s 14,.s 15,.s 16,.s 18,.a 74 (.bool ((zM.1==83)&&decide (qM<=1)))] [.s 0,.s 1,.s 2,.s 3,.s 4,.s 5] (ac (congrArg AV.bool (uN gg_84):(.bool false:AV)=.bool ((zM.1==83)&&decide (qM<=1))) an))⟩
  refine ch 74 h ?_ ?_
  ·intro wR h;refine s2 [iH 2 { id:=6 }] [16,18] [(19,Pp 6)] [5] [(6,Vb 72 [Sb zM.2.1,.bool false])] 7 (sq (bE h fun zT vM h=>nE h fun v7 h=>r2 [iH 3 { id:=7 },iJ 2 { ids:=[6] } [Pp 6] (Y2 F (⟨zM.2.1,false⟩:uE) zT vM),iM z9 z4,iA 1,iP 4 8 z9 z4 [zT.1] 40 v7] [] [(12,.own 8 (((z4++[zT.1])).length))] [3] [(6,Vb 72 (tU zT.2)),(8,Rb 76 5 (Mp z9 (z4++[zT.1])))] 9 (sq (sq (bE h fun zN uX h=>?_)))));refine xP (mk [(0,Sb zF),(2,Pp 0),(7,Ii (zI (xU+zM.2.2))),(8,Pp 1),(10,Ii jL),(11,.own 2 zK.length),(12,.own 3 (((z4++[zT.1])).length)),(13,.own 4 yL.length),(107,.bool zN)] [(0,nT),(1,Vb 28 [Sq 3 yJ zC.1.Threads,Sq 2 yA zC.1.Domains,Sq 5 z9 zB]),(2,Rb 56 4 (Mp yG zK)),(3,Rb 76 5 (Mp z9 (z4++[zT.1]))),(4,Rb 56 4 (Mp yG yL))] 5) ?_ ?_
   ·replace h:=uX;rcases Bool.eq_false_or_eq_true zT.2.Bad with lB | lB
    ·replace h:=xN lB h;refine r2 [iG 5 6,iH 11 Ht,iG 13 5,iH 18 Ht,iR 7 lB,iX 5,iA true] [19] [(94,.tuple []),(95,.tuple []),(96,.tuple []),(97,.tuple []),(98,.tuple []),(99,.tuple []),(102,.tuple []),(103,.tuple []),(104,.tuple []),(105,.tuple []),(106,.tuple []),(107,.bool true)] [6] [] 9 ?_;cases h;exact ⟨rfl,(sJ [0,1,2,8,4] [0,2,7,8,10,11,12,13,107])⟩
    ·replace h:=xO lB h;rcases bft (decide ((lN zT.2.B)>0)) with gg_86 | gg_86
     ·replace h:=xN gg_86 h;refine r1 [iH 11 Hf,iG 13 5,iH 18 Ht,iR 5 lB,iN 9 Fb zT.2.B,iR 2 lB,iR 6 gg_86] [19] [(94,Pp 6),(95,Pp 6),(96,Pp 6),(97,Sb zT.2.B),(98,Ii (lN zT.2.B)),(99,.bool (decide ((lN zT.2.B)>0))),(102,.tuple []),(103,.tuple []),(104,.tuple []),(105,.tuple []),(106,.tuple []),(107,.bool true)] ?_;cases h;exact ⟨rfl,(sJ [0,1,2,8,4] [0,2,7,8,10,11,12,13,107])⟩
     ·replace h:=xO gg_86 h;refine bE h fun zU uB h=>r1 [iH 11 Hf,iH 18 Hf,iR 5 lB,iN 9 Fb zT.2.B,iR 2 lB,iR 4 gg_86,iM z9 (z4++[zT.1]),iK 16 { lend:=[8] } (GD F zC.1.Domains (z4++[zT.1]) zU uB),iR 2 gg_86] [19] [(94,Pp 6),(95,Pp 6),(96,Pp 6),(97,Sb zT.2.B),(98,Ii (lN zT.2.B)),(99,.bool (decide ((lN zT.2.B)>0))),(102,.ptr 1 0 0 1),(103,Sq 2 yA zC.1.Domains),(104,.own 8 (((z4++[zT.1])).length)),(105,Ii zU),(106,.bool (zU != 0)),(107,.bool (zU != 0))] ?_;cases h;exact ⟨rfl,(sJ [0,1,2,8,4] [0,2,7,8,10,11,12,13,107])⟩
   refine ch 107 h ?_ ?_
   rotate_left
   ·intro vR h;refine sk (r0 [] [(14,Ii 1)] ?_);exact ⟨_,(sI 5 [0,2,7,8,10,11,12,13,14]),_,_,_,_,_,_,_,rfl,h⟩
   intro vR h;refine s2 [] [0,8,11,12,13] [(3,.own 2 zK.length),(4,Ii jL)] [1,3,4] [(0,Vb 28 [Sq 3 yJ zC.1.Threads,Sq 2 yA zC.1.Domains,Sq 5 z9 zB])] 5 (w0 [2,0] [] [(2,Pp 1),(3,.own 0 zK.length),(4,Ii jL)] [(0,Rb 56 4 (Mp yG zK)),(1,Vb 28 (wL (⟨zC.1.Threads,zC.1.Domains,zB⟩:yB)))] ?_);cases h;exact rt ry
  intro wR h;refine c0 [] 111 h [] ?_ ?_
  rotate_left
  ·intro uO h;refine sq ?_;refine xP (mk [(0,Sb zF),(2,Pp 0),(7,Ii (zI (xU+zM.2.2))),(8,Pp 1),(10,Ii jL),(11,.own 2 zK.length),(12,.own 3 z4.length),(18,.own 4 (((([]++zK)++yL)).length)),(157,.bool ((zM.1==70)&&(((lN zM.2.1)==0)&&decide (qM>0))))] [(0,nT),(1,Vb 28 [Sq 3 yJ zC.1.Threads,Sq 2 yA zC.1.Domains,Sq 5 z9 zB]),(2,Rb 56 4 (Mp yG zK)),(3,Rb 76 5 (Mp z9 z4)),(4,Rb 56 4 (Mp yG (([]++zK)++yL)))] 5) ?_ ?_
   ·rcases bft (zM.1==70) with f0 | f0
    ·rcases bft ((lN zM.2.1)==0) with gg_92 | gg_92
     ·refine r2 [iH 6 Ht,iH 10 Ht,iR 2 f0,iN 4 Fb zM.2.1,iR 2 f0,iR 3 gg_92] [13,16] [(157,.bool (decide (qM>0))),(161,Sb zM.2.1),(162,Ii (lN zM.2.1)),(163,.bool ((lN zM.2.1)==0)),(166,Ii qM),(167,.bool (decide (qM>0)))] [4] [] 6 ?_;exact ⟨rfl,(sw [0,1,2,3,5] [] [.s 0,.s 2,.s 7,.s 8,.s 10,.s 11,.s 12,.s 18,.a 157 (.bool ((zM.1==70)&&(((lN zM.2.1)==0)&&decide (qM>0))))] [.s 0,.s 1,.s 2,.s 3,.s 4] (ac (congrArg AV.bool (w9 f0 (w9 gg_92 rfl)):(.bool (decide (qM>0)):AV)=.bool ((zM.1==70)&&(((lN zM.2.1)==0)&&decide (qM>0)))) an))⟩
     ·refine r2 [iH 6 Ht,iG 8 2,iH 10 Hf,iR 2 f0,iN 4 Fb zM.2.1,iR 2 f0,iR 3 gg_92] [13,16] [(157,.bool false),(161,Sb zM.2.1),(162,Ii (lN zM.2.1)),(163,.bool ((lN zM.2.1)==0)),(166,.tuple []),(167,.tuple [])] [4] [] 6 ?_;exact ⟨rfl,(sw [0,1,2,3,5] [] [.s 0,.s 2,.s 7,.s 8,.s 10,.s 11,.s 12,.s 18,.a 157 (.bool ((zM.1==70)&&(((lN zM.2.1)==0)&&decide (qM>0))))] [.s 0,.s 1,.s 2,.s 3,.s 4] (ac (congrArg AV.bool (w9 f0 (uN gg_92)):(.bool false:AV)=.bool ((zM.1==70)&&(((lN zM.2.1)==0)&&decide (qM>0)))) an))⟩
    ·refine r2 [iG 3 3,iH 6 Hf,iG 8 2,iH 10 Hf,iR 4 f0,iZ,iZ,iA false] [13,16] [(157,.bool false),(161,.tuple []),(162,.tuple []),(163,.tuple []),(166,.tuple []),(167,.tuple [])] [4] [] 6 ?_;exact ⟨rfl,(sw [0,1,2,3,5] [] [.s 0,.s 2,.s 7,.s 8,.s 10,.s 11,.s 12,.s 18,.a 157 (.bool ((zM.1==70)&&(((lN zM.2.1)==0)&&decide (qM>0))))] [.s 0,.s 1,.s 2,.s 3,.s 4] (ac (congrArg AV.bool (uN f0):(.bool false:AV)=.bool ((zM.1==70)&&(((lN zM.2.1)==0)&&decide (qM>0)))) an))⟩
   refine ch 157 h ?_ ?_
   rotate_left
   ·intro qU h;refine s2 [] [0,8,11,12,18] [(3,.own 2 zK.length),(4,Ii jL)] [1,3,4] [(0,Vb 28 [Sq 3 yJ zC.1.Threads,Sq 2 yA zC.1.Domains,Sq 5 z9 zB])] 5 (w0 [2,0] [] [(2,Pp 1),(3,.own 0 zK.length),(4,Ii jL)] [(0,Rb 56 4 (Mp yG zK)),(1,Vb 28 (wL (⟨zC.1.Threads,zC.1.Domains,zB⟩:yB)))] ?_);cases h;exact rt ry
   intro qU h;refine sq (nE h fun p7 h=>r2 [iH 0 { id:=5 },iH 2 { id:=6,l:=(Mp z9 ([]++z4)),n:=(([]++z4)).length },iA 0,iM z9 z4,iC (by simp:(List.map z9 ([]++z4))=[]++(List.map z9 z4)),iC (by simp:(([]++z4)).length=((List.map z9 ([]++z4))).length),iC (by first | (simp;done) | simpa using p7:(([]:List AV).length+((List.map z9 z4):List AV).length) * 40<=140737488355328)] [11] [] [2] [(1,Vb 28 [Sq 3 yJ zC.1.Threads,Sq 2 yA zC.1.Domains,.own 6 ((([]++z4)).length)]),(6,Rb 76 5 (Mp z9 ([]++z4)))] 7 (s1 [] [18] [(11,.own 4 (((([]++zK)++yL)).length))] (s2 [iH 0 { id:=7,m:=1 }] [] [(13,.own 7 0)] [] [(7,Rb 56 4 [])] 8 (s0 [] [(10,Ii (zI (xU+zM.2.2)))] (r0 [] [(14,Ii 0)] ?_)))));exact ⟨_,(Sub.trans (cX [0,1,4,3,7] [6] [.s 0,.s 2,.s 7,.s 8,.s 10,.s 11,.s 12,.s 13,.s 14] [.s 0,.a 1 (Vb 28 [Sq 3 yJ zC.1.Threads,Sq 2 yA zC.1.Domains,Sq 5 z9 ([]++z4)]),.s 2,.s 3,.s 4] (sl2:=[(0,Sb zF),(2,Pp 0),(7,Ii (zI (xU+zM.2.2))),(8,Pp 1),(10,Ii (zI (xU+zM.2.2))),(11,.own 2 (((([]++zK)++yL)).length)),(12,.own 3 z4.length),(13,.own 4 0),(14,Ii 0)]) (bx2:=[(0,nT),(1,Vb 28 [Sq 3 yJ zC.1.Threads,Sq 2 yA zC.1.Domains,Sq 5 z9 ([]++z4)]),(2,Rb 56 4 (Mp yG (([]++zK)++yL))),(3,Rb 76 5 (Mp z9 z4)),(4,Rb 56 4 [])]) zk (ar 28 (ac (rfl:k8 [Sq 3 yJ zC.1.Threads,Sq 2 yA zC.1.Domains,Sq 5 z9 ([]++z4)]=true) (ac (by first | (simp;done) | (simp;omega):(([]++z4)).length=((List.map z9 ([]++z4))).length) (ar 3 (ar ((Mp yJ zC.1.Threads):List AV) (ac (rfl:(!false||false)=true) (ar 2 (ar ((Mp yA zC.1.Domains):List AV) (ac (rfl:(!false||false)=true) (ar 5 (ar ((Mp z9 ([]++z4)):List AV) (ac (rfl:(!false||false)=true) an))))))))))))) (sI 5 [0,2,7,8,10,11,12,13,14])),_,_,_,_,_,_,_,rfl,h⟩
  intro uO h;refine sq (bE h fun yF u5 h=>r2 [iH 6 { id:=6 },iK 1 {} (zCi F zM.2.1 yF u5)] [] [(20,Pp 6),(21,Ii yF.2.1),(22,Ii yF.2.2)] [] [(6,Vb 56 (wU yF.1))] 7 (sq (sq (bE h fun uW jE h=>?_))));refine xP (mk [(0,Sb zF),(2,Pp 0),(7,Ii (zI (xU+zM.2.2))),(8,Pp 1),(10,Ii jL),(11,.own 2 zK.length),(12,.own 3 z4.length),(13,.own 4 yL.length),(20,Pp 5),(149,.bool uW)] [(0,nT),(1,Vb 28 [Sq 3 yJ zC.1.Threads,Sq 2 yA zC.1.Domains,Sq 5 z9 zB]),(2,Rb 56 4 (Mp yG zK)),(3,Rb 76 5 (Mp z9 z4)),(4,Rb 56 4 (Mp yG yL)),(5,Vb 56 (wU yF.1))] 6) ?_ ?_
  ·replace h:=jE;rcases bft (yF.2.2 != 0) with bN | bN
   ·replace h:=xN bN h;refine r2 [iG 3 4,iH 7 Ht,iG 9 5,iH 14 Ht,iG 16 4,iH 20 Ht,iG 22 7,iH 29 Ht,iR 5 bN,iX 5,iA true,iX 4,iA true,iX 7,iA true] [16,18] [(123,.tuple []),(124,.tuple []),(125,.tuple []),(126,.tuple []),(129,.tuple []),(130,.tuple []),(131,.tuple []),(132,.tuple []),(133,.tuple []),(136,.tuple []),(137,.tuple []),(138,.tuple []),(139,.tuple []),(142,.tuple []),(143,.tuple []),(144,.tuple []),(145,.tuple []),(146,.tuple []),(147,.tuple []),(148,.tuple []),(149,.bool true)] [5] [] 7 ?_;cases h;exact ⟨rfl,(sJ [0,1,2,3,4,6] [0,2,7,8,10,11,12,13,20,149])⟩
   ·replace h:=xO bN h;rcases bft (yF.2.1 != (lN zM.2.1)) with dO | dO
    ·replace h:=xN dO h;refine r2 [iH 7 Hf,iG 9 5,iH 14 Ht,iG 16 4,iH 20 Ht,iG 22 7,iH 29 Ht,iR 3 bN,iN 5 Fb zM.2.1,iR 2 bN,iR 6 dO,iX 4,iA true,iX 7,iA true] [16,18] [(123,Ii yF.2.1),(124,Sb zM.2.1),(125,Ii (lN zM.2.1)),(126,.bool (yF.2.1 != (lN zM.2.1))),(129,.tuple []),(130,.tuple []),(131,.tuple []),(132,.tuple []),(133,.tuple []),(136,.tuple []),(137,.tuple []),(138,.tuple []),(139,.tuple []),(142,.tuple []),(143,.tuple []),(144,.tuple []),(145,.tuple []),(146,.tuple []),(147,.tuple []),(148,.tuple []),(149,.bool true)] [5] [] 7 ?_;cases h;exact ⟨rfl,(sJ [0,1,2,3,4,6] [0,2,7,8,10,11,12,13,20,149])⟩
    ·replace h:=xO dO h;refine bE h fun yY uP h=>?_;rcases bft (!yY) with lC | lC
     ·replace h:=xN lC h;refine r2 [iH 7 Hf,iH 14 Hf,iG 16 4,iH 20 Ht,iG 22 7,iH 29 Ht,iR 3 bN,iN 5 Fb zM.2.1,iR 2 bN,iR 4 dO,iL 12 {} [.agg [Sq 3 yJ zC.1.Threads,Sq 2 yA zC.1.Domains,Sq 5 z9 zB],Ii yF.1.Thread] (L2 F (⟨zC.1.Threads,zC.1.Domains,zB⟩:yB) yF.1.Thread yY uP) ⟨rfl,rfl,rfl,rfl,rfl,rfl,rfl,rfl,rfl,rfl,trivial⟩,iR 2 dO,iR 5 lC,iX 7,iA true] [16,18] [(123,Ii yF.2.1),(124,Sb zM.2.1),(125,Ii (lN zM.2.1)),(126,.bool (yF.2.1 != (lN zM.2.1))),(129,.agg [Sq 3 yJ zC.1.Threads,Sq 2 yA zC.1.Domains,Sq 5 z9 zB]),(130,Pp 6),(131,Ii yF.1.Thread),(132,.bool yY),(133,.bool (!yY)),(136,.tuple []),(137,.tuple []),(138,.tuple []),(139,.tuple []),(142,.tuple []),(143,.tuple []),(144,.tuple []),(145,.tuple []),(146,.tuple []),(147,.tuple []),(148,.tuple []),(149,.bool true)] [5] [] 7 ?_;cases h;exact ⟨rfl,(sJ [0,1,2,3,4,6] [0,2,7,8,10,11,12,13,20,149])⟩
     ·replace h:=xO lC h;refine bE h fun yH t7 h=>?_;rcases bft (!yH) with rR | rR
      ·replace h:=xN rR h;refine r1 [iH 7 Hf,iH 14 Hf,iH 20 Hf,iG 22 7,iH 29 Ht,iR 3 bN,iN 5 Fb zM.2.1,iR 2 bN,iR 4 dO,iL 12 {} [.agg [Sq 3 yJ zC.1.Threads,Sq 2 yA zC.1.Domains,Sq 5 z9 zB],Ii yF.1.Thread] (L2 F (⟨zC.1.Threads,zC.1.Domains,zB⟩:yB) yF.1.Thread yY uP) ⟨rfl,rfl,rfl,rfl,rfl,rfl,rfl,rfl,rfl,rfl,trivial⟩,iR 2 dO,iR 3 lC,iM yG (([]++zK)++yL),iK 18 { lend:=[5] } (SS F (([]++zK)++yL) yF.1 yH t7),iR 2 lC,iR 8 rR] [16,18] [(123,Ii yF.2.1),(124,Sb zM.2.1),(125,Ii (lN zM.2.1)),(126,.bool (yF.2.1 != (lN zM.2.1))),(129,.agg [Sq 3 yJ zC.1.Threads,Sq 2 yA zC.1.Domains,Sq 5 z9 zB]),(130,Pp 6),(131,Ii yF.1.Thread),(132,.bool yY),(133,.bool (!yY)),(136,.own 5 (((([]++zK)++yL)).length)),(137,yG yF.1),(138,.bool yH),(139,.bool (!yH)),(142,.tuple []),(143,.tuple []),(144,.tuple []),(145,.tuple []),(146,.tuple []),(147,.tuple []),(148,.tuple []),(149,.bool true)] ?_;cases h;exact ⟨rfl,(sJ [0,1,2,3,4,6] [0,2,7,8,10,11,12,13,20,149])⟩
      ·replace h:=xO rR h;refine bE h fun yR t6 h=>r1 [iH 7 Hf,iH 14 Hf,iH 20 Hf,iH 29 Hf,iR 3 bN,iN 5 Fb zM.2.1,iR 2 bN,iR 4 dO,iL 12 {} [.agg [Sq 3 yJ zC.1.Threads,Sq 2 yA zC.1.Domains,Sq 5 z9 zB],Ii yF.1.Thread] (L2 F (⟨zC.1.Threads,zC.1.Domains,zB⟩:yB) yF.1.Thread yY uP) ⟨rfl,rfl,rfl,rfl,rfl,rfl,rfl,rfl,rfl,rfl,trivial⟩,iR 2 dO,iR 3 lC,iM yG (([]++zK)++yL),iK 18 { lend:=[5] } (SS F (([]++zK)++yL) yF.1 yH t7),iR 2 lC,iR 2 rR,iM yG (([]++zK)++yL),iK 23 { lend:=[5] } (XD F (([]++zK)++yL) yR t6),iR 3 rR,iN 26 x9 yF.1.Events,iR 3 rR] [16,18] [(123,Ii yF.2.1),(124,Sb zM.2.1),(125,Ii (lN zM.2.1)),(126,.bool (yF.2.1 != (lN zM.2.1))),(129,.agg [Sq 3 yJ zC.1.Threads,Sq 2 yA zC.1.Domains,Sq 5 z9 zB]),(130,Pp 6),(131,Ii yF.1.Thread),(132,.bool yY),(133,.bool (!yY)),(136,.own 5 (((([]++zK)++yL)).length)),(137,yG yF.1),(138,.bool yH),(139,.bool (!yH)),(142,.own 5 (((([]++zK)++yL)).length)),(143,Ii yR),(144,.ptr 6 0 0 3),(145,Sq 6 x9 yF.1.Events),(146,Ii (lN yF.1.Events)),(147,Ii (zI (yR+(lN yF.1.Events)))),(148,.bool (decide ((zI (yR+(lN yF.1.Events)))>20000))),(149,.bool (decide ((zI (yR+(lN yF.1.Events)))>20000)))] ?_;cases h;exact ⟨rfl,(sJ [0,1,2,3,4,6] [0,2,7,8,10,11,12,13,20,149])⟩
  refine ch 149 h ?_ ?_
  ·intro tJ h;refine s2 [] [0,8,11,12,13,20] [(3,.own 2 zK.length),(4,Ii jL)] [1,3,4,5] [(0,Vb 28 [Sq 3 yJ zC.1.Threads,Sq 2 yA zC.1.Domains,Sq 5 z9 zB])] 6 (w0 [2,0] [] [(2,Pp 1),(3,.own 0 zK.length),(4,Ii jL)] [(0,Rb 56 4 (Mp yG zK)),(1,Vb 28 (wL (⟨zC.1.Threads,zC.1.Domains,zB⟩:yB)))] ?_);cases h;exact rt ry
  intro tJ h;refine sk (sq (nE h fun jD h=>r2 [iH 2 { id:=6 },iM yG yL,iA 1,iP 3 7 yG yL [yF.1] 48 jD] [20] [(13,.own 7 (((yL++[yF.1])).length))] [4,5] [(7,Rb 56 4 (Mp yG (yL++[yF.1])))] 8 (r0 [] [(14,Ii 2)] ?_)));exact ⟨_,(sJ [0,1,2,3,7] [0,2,7,8,10,11,12,13,14]),_,_,_,_,_,_,_,rfl,h⟩
 intro e st1 hk;obtain ⟨rfl,hf⟩:=hk;cases h;exact ⟨st1,Sub.refl _ _,.inr rfl,hf⟩
end Go.Ab
