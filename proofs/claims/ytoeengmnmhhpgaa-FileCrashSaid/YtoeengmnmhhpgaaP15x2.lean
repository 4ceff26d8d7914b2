/- Printed: the typed Lean functions of the Go functions, or the proofs that the Go functions meet them. No conditions but those that the theorems name. -/
import Derived.Test.YtoeengmnmhhpgaaP15x1
namespace Go.Ab
open Go Go.Proofs
set_option linter.unusedVariables false
theorem zBP (F:Nat) (zE:List (Int)) (r:zT×Bool) (h:CE F zE=some r):y5 prog 45 [] [] [Sb zE] [] (.tuple [nA r.1,.bool r.2]):=by
 refine tI Try.f45 ?_;unfold CE at h;refine sE [iH 0 { id:=0 }] [(0,Sb zE),(2,Pp 0)] [(0,Vb 26 [.nilsl,.nilsl,.nilsl])] 1 ?_;refine t7 (kA 0 0 1 81 3 zk) ?_;refine t7 (kA 0 1 2 83 2 zk) ?_;refine t7 (kA 0 2 3 73 5 zk) ?_;refine w0 [0,1,2,3] [] [(0,Sb zE),(2,Pp 0)] [(0,pY),(1,Rb 81 3 []),(2,Rb 83 2 []),(3,Rb 73 5 [])] (s2 [iH 2 { id:=4 }] [] [(4,Pp 4)] [] [(4,Vb 134 [Sb zE,.bool false])] 5 (s2 [iH 0 { id:=5 }] [] [(5,Pp 5)] [] [(5,Vb 26 [.nilsl,.nilsl,.nilsl])] 6 ?_));refine t7 (kA 5 0 6 81 3 zk) ?_;refine t7 (kA 5 1 7 83 2 zk) ?_;refine t7 (kA 5 2 8 73 5 zk) ?_;refine w0 [0,1,2,3,4,5,6,7,8] [] [(0,Sb zE),(2,Pp 0),(4,Pp 4),(5,Pp 5)] [(0,pY),(1,Rb 81 3 []),(2,Rb 83 2 []),(3,Rb 73 5 []),(4,Vb 134 [Sb zE,.bool false]),(5,Vb 26 [.own 6 0,.own 7 0,.own 8 0]),(6,Rb 81 3 []),(7,Rb 83 2 []),(8,Rb 73 5 [])] (sq (sq (bE h fun zA zN h=>r2 [iJ 1 { ids:=[4] } ([Pp 4,Ii 64]:List AV) (MA F (⟨zE,false⟩:vB) (64:Int) zA zN)] [] [(13,Ii zA.1),(14,Ii 0)] [] [(4,Vb 134 (uQ zA.2))] 9 (bE h fun zC zU h=>?_))));refine x9 (mk [(0,Sb zE),(2,Pp 0),(4,Pp 4),(5,Pp 5)] [(0,pY),(1,Rb 81 3 []),(2,Rb 83 2 []),(3,Rb 73 5 []),(4,Vb 134 [Sb zC.1,.bool zC.2.1]),(5,Vb 26 [.own 6 ((zC.2.2).length),.own 7 0,.own 8 0]),(6,Rb 81 3 (Mp z9 zC.2.2)),(7,Rb 83 2 []),(8,Rb 73 5 [])] 9) ?_ ?_
 ·replace h:=zU;refine y7 (id:=0) zk ?_;refine w0 [0,1,2,3,4,5,6,7,8] [] [(0,Sb zE),(2,Pp 0),(4,Pp 4),(5,Pp 5),(13,Ii zA.1),(14,Ii 0)] [(0,pY),(1,Rb 81 3 []),(2,Rb 83 2 []),(3,Rb 73 5 []),(4,Vb 134 (uQ zA.2)),(5,Vb 26 [.own 6 0,.own 7 0,.own 8 0]),(6,Rb 81 3 []),(7,Rb 83 2 []),(8,Rb 73 5 [])] ?_;refine wX (fun n st=>∃ (zG:Int),∃ (zB:List Int),∃ (yL:Bool),∃ (zJ:List xH),st=mk [(0,Sb zE),(2,Pp 0),(4,Pp 4),(5,Pp 5),(13,Ii zA.1),(14,Ii zG)] [(0,pY),(1,Rb 81 3 []),(2,Rb 83 2 []),(3,Rb 73 5 []),(4,Vb 134 [Sb zB,.bool yL]),(5,Vb 26 [.own 6 ((zJ).length),.own 7 0,.own 8 0]),(6,Rb 81 3 (Mp z9 zJ)),(7,Rb 83 2 []),(8,Rb 73 5 [])] 9∧o9 F zA n zG zB yL zJ=some zC) F zk ⟨_,_,_,_,rfl,h⟩ ?_ ?_
  ·rintro _ ⟨_,_,_,_,_,h⟩;exact wV (h:(none:Option ((List Int)×Bool×(List xH)))=some zC)
  rintro yF _ ⟨zG,zB,yL,zJ,rfl,h⟩;replace h:gD F zA (o9 F zA yF) zG zB yL zJ=some zC:=h;unfold gD at h;refine s0 [] [(15,.bool (decide (zG<zA.1)))] (sq (ch 15 h ?_ ?_))
  rotate_left
  ·intro yN h;refine wQ (id:=0) zk ?_;cases h;exact ⟨rfl,(sI 9 [0,2,4,5])⟩
  intro yN h;refine sk (sq ?_);refine y7 (id:=1) zk ?_;refine sq (bE h fun zK y8 h=>bE h fun zP xR h=>r2 [iJ 1 { ids:=[4] } ([Pp 4]:List AV) (bP F (⟨zB,yL⟩:vB) zK y8),iJ 3 { ids:=[4] } ([Pp 4]:List AV) (YG F zK.2 zP xR)] [] [(6,Ii zK.1),(7,.str zP.1)] [] [(4,Vb 134 (uQ zP.2))] 9 (bE h fun z0 wH h=>nE h fun vA h=>r2 [iH 7 { id:=9 },iJ 5 { ids:=[4] } ([Pp 4]:List AV) (bP F zP.2 z0 wH),iM z9 zJ,iC (by first | (simp;done) | (simp;omega):1=((List.map z9 ([(⟨zK.1,zP.1,z0.1⟩:xH)]:List xH))).length),iP 8 10 z9 zJ ([(⟨zK.1,zP.1,z0.1⟩:xH)]:List xH) 32 vA] [] [] [6] [(4,Vb 134 (uQ z0.2)),(5,Vb 26 [.own 10 (((zJ++([(⟨zK.1,zP.1,z0.1⟩:xH)]:List xH))).length),.own 7 0,.own 8 0]),(10,Rb 81 3 (Mp z9 (zJ++([(⟨zK.1,zP.1,z0.1⟩:xH)]:List xH))))] 11 (r0 [] [(14,Ii (zI (zG+(1:Int))))] ?_)));exact ⟨_,(sJ [0,1,2,3,4,5,10,7,8] [0,2,4,5,13,14]),_,_,_,_,rfl,h⟩
 refine sq (sq (bE h fun zY vT h=>r2 [iJ 1 { ids:=[4] } ([Pp 4,Ii 8]:List AV) (MA F (⟨zC.1,zC.2.1⟩:vB) (8:Int) zY vT)] [] [(32,Ii zY.1),(33,Ii 0)] [] [(4,Vb 134 (uQ zY.2))] 9 (bE h fun zV v8 h=>?_)));refine x9 (mk [(0,Sb zE),(2,Pp 0),(4,Pp 4),(5,Pp 5)] [(0,pY),(1,Rb 81 3 []),(2,Rb 83 2 []),(3,Rb 73 5 []),(4,Vb 134 [Sb zV.1,.bool zV.2.1]),(5,Vb 26 [.own 6 ((zC.2.2).length),.own 7 ((zV.2.2).length),.own 8 0]),(6,Rb 81 3 (Mp z9 zC.2.2)),(7,Rb 83 2 (Mp z4 zV.2.2)),(8,Rb 73 5 [])] 9) ?_ ?_
 ·replace h:=v8;refine y7 (id:=2) zk ?_;refine w0 [0,1,2,3,4,5,6,7,8] [] [(0,Sb zE),(2,Pp 0),(4,Pp 4),(5,Pp 5),(32,Ii zY.1),(33,Ii 0)] [(0,pY),(1,Rb 81 3 []),(2,Rb 83 2 []),(3,Rb 73 5 []),(4,Vb 134 (uQ zY.2)),(5,Vb 26 [.own 6 ((zC.2.2).length),.own 7 0,.own 8 0]),(6,Rb 81 3 (Mp z9 zC.2.2)),(7,Rb 83 2 []),(8,Rb 73 5 [])] ?_;refine wX (fun n st=>∃ (xM:Int),∃ (yG:List Int),∃ (yD:Bool),∃ (z7:List y0),st=mk [(0,Sb zE),(2,Pp 0),(4,Pp 4),(5,Pp 5),(32,Ii zY.1),(33,Ii xM)] [(0,pY),(1,Rb 81 3 []),(2,Rb 83 2 []),(3,Rb 73 5 []),(4,Vb 134 [Sb yG,.bool yD]),(5,Vb 26 [.own 6 ((zC.2.2).length),.own 7 ((z7).length),.own 8 0]),(6,Rb 81 3 (Mp z9 zC.2.2)),(7,Rb 83 2 (Mp z4 z7)),(8,Rb 73 5 [])] 9∧rT F zY n xM yG yD z7=some zV) F zk ⟨_,_,_,_,rfl,h⟩ ?_ ?_
  ·rintro _ ⟨_,_,_,_,_,h⟩;exact wV (h:(none:Option ((List Int)×Bool×(List y0)))=some zV)
  rintro qZ _ ⟨xM,yG,yD,z7,rfl,h⟩;replace h:lF F zY (rT F zY qZ) xM yG yD z7=some zV:=h;unfold lF at h;refine s0 [] [(34,.bool (decide (xM<zY.1)))] (sq (ch 34 h ?_ ?_))
  rotate_left
  ·intro xG h;refine wQ (id:=2) zk ?_;cases h;exact ⟨rfl,(sI 9 [0,2,4,5])⟩
  intro xG h;refine sk (sq ?_);refine y7 (id:=3) zk ?_;refine sq (bE h fun yV uK h=>r2 [iJ 1 { ids:=[4] } ([Pp 4]:List AV) (bP F (⟨yG,yD⟩:vB) yV uK)] [] [(8,Ii yV.1)] [] [(4,Vb 134 (uQ yV.2))] 9 (bE h fun xK u0 h=>nE h fun tB h=>r2 [iH 6 { id:=9 },iJ 4 { ids:=[4] } ([Pp 4]:List AV) (bP F yV.2 xK u0),iM z4 z7,iC (by first | (simp;done) | (simp;omega):1=((List.map z4 ([(⟨yV.1,xK.1⟩:y0)]:List y0))).length),iP 7 10 z4 z7 ([(⟨yV.1,xK.1⟩:y0)]:List y0) 16 tB] [] [] [7] [(4,Vb 134 (uQ xK.2)),(5,Vb 26 [.own 6 ((zC.2.2).length),.own 10 (((z7++([(⟨yV.1,xK.1⟩:y0)]:List y0))).length),.own 8 0]),(10,Rb 83 2 (Mp z4 (z7++([(⟨yV.1,xK.1⟩:y0)]:List y0))))] 11 (r0 [] [(33,Ii (zI (xM+(1:Int))))] ?_)));exact ⟨_,(sJ [0,1,2,3,4,5,6,10,8] [0,2,4,5,32,33]),_,_,_,_,rfl,h⟩
 refine sq (sq (bE h fun yX qH h=>r2 [iJ 1 { ids:=[4] } ([Pp 4,Ii 200]:List AV) (MA F (⟨zV.1,zV.2.1⟩:vB) (200:Int) yX qH)] [] [(48,Ii yX.1),(49,Ii 0)] [] [(4,Vb 134 (uQ yX.2))] 9 (bE h fun yZ jR h=>?_)));refine x9 (mk [(0,Sb zE),(2,Pp 0),(4,Pp 4),(5,Pp 5)] [(0,pY),(1,Rb 81 3 []),(2,Rb 83 2 []),(3,Rb 73 5 []),(4,Vb 134 [Sb yZ.1,.bool yZ.2.1]),(5,Vb 26 [.own 6 ((zC.2.2).length),.own 7 ((zV.2.2).length),.own 8 ((yZ.2.2).length)]),(6,Rb 81 3 (Mp z9 zC.2.2)),(7,Rb 83 2 (Mp z4 zV.2.2)),(8,Rb 73 5 (Mp z5 yZ.2.2))] 9) ?_ ?_
 ·replace h:=jR;refine y7 (id:=4) zk ?_;refine w0 [0,1,2,3,4,5,6,7,8] [] [(0,Sb zE),(2,Pp 0),(4,Pp 4),(5,Pp 5),(48,Ii yX.1),(49,Ii 0)] [(0,pY),(1,Rb 81 3 []),(2,Rb 83 2 []),(3,Rb 73 5 []),(4,Vb 134 (uQ yX.2)),(5,Vb 26 [.own 6 ((zC.2.2).length),.own 7 ((zV.2.2).length),.own 8 0]),(6,Rb 81 3 (Mp z9 zC.2.2)),(7,Rb 83 2 (Mp z4 zV.2.2)),(8,Rb 73 5 [])] ?_;refine wX (fun n st=>∃ (wR:Int),∃ (yR:List Int),∃ (xD:Bool),∃ (xL:List yQ),st=mk [(0,Sb zE),(2,Pp 0),(4,Pp 4),(5,Pp 5),(48,Ii yX.1),(49,Ii wR)] [(0,pY),(1,Rb 81 3 []),(2,Rb 83 2 []),(3,Rb 73 5 []),(4,Vb 134 [Sb yR,.bool xD]),(5,Vb 26 [.own 6 ((zC.2.2).length),.own 7 ((zV.2.2).length),.own 8 ((xL).length)]),(6,Rb 81 3 (Mp z9 zC.2.2)),(7,Rb 83 2 (Mp z4 zV.2.2)),(8,Rb 73 5 (Mp z5 xL))] 9∧oS F yX n wR yR xD xL=some yZ) F zk ⟨_,_,_,_,rfl,h⟩ ?_ ?_
  ·rintro _ ⟨_,_,_,_,_,h⟩;exact wV (h:(none:Option ((List Int)×Bool×(List yQ)))=some yZ)
  rintro qX _ ⟨wR,yR,xD,xL,rfl,h⟩;replace h:lD F yX (oS F yX qX) wR yR xD xL=some yZ:=h;unfold lD at h;refine s0 [] [(50,.bool (decide (wR<yX.1)))] (sq (ch 50 h ?_ ?_))
  rotate_left
  ·intro xU h;refine wQ (id:=4) zk ?_;cases h;exact ⟨rfl,(sI 9 [0,2,4,5])⟩
  intro xU h;refine sk (sq ?_);refine y7 (id:=5) zk ?_;refine bE h fun yM qO h=>nE h fun kH h=>r2 [iH 4 { id:=9 },iJ 3 { ids:=[4] } ([Pp 4]:List AV) (RN F (⟨yR,xD⟩:vB) yM qO),iM z5 xL,iA 1,iP 5 10 z5 xL ([yM.1]:List yQ) 40 kH] [] [] [8] [(4,Vb 134 (uQ yM.2)),(5,Vb 26 [.own 6 ((zC.2.2).length),.own 7 ((zV.2.2).length),.own 10 (((xL++([yM.1]:List yQ))).length)]),(10,Rb 73 5 (Mp z5 (xL++([yM.1]:List yQ))))] 11 (r0 [] [(49,Ii (zI (wR+(1:Int))))] ?_);exact ⟨_,(sJ [0,1,2,3,4,5,6,7,10] [0,2,4,5,48,49]),_,_,_,_,rfl,h⟩
 refine sq (wz [0,1,2,3,4,5,7,8] [6] [] [5] [(0,Sb zE),(2,Pp 0),(4,Pp 4),(5,Pp 5)] [(0,pY),(1,Rb 81 3 []),(2,Rb 83 2 []),(3,Rb 73 5 []),(4,Vb 134 [Sb yZ.1,.bool yZ.2.1]),(5,Vb 26 [Sq 3 z9 zC.2.2,.own 6 ((zV.2.2).length),.own 7 ((yZ.2.2).length)]),(6,Rb 83 2 (Mp z4 zV.2.2)),(7,Rb 73 5 (Mp z5 yZ.2.2))] (ar 26 (ar true (ac (by first | (simp;done) | (simp;omega):(zC.2.2).length=((List.map z9 zC.2.2)).length) (ar 3 (ar ((Mp z9 zC.2.2):List AV) (ar true (ar (.own 7 ((zV.2.2).length):AV) (ar (.own 8 ((yZ.2.2).length):AV) an)))))))) (wz [0,1,2,3,4,5,7] [6] [] [5] [(0,Sb zE),(2,Pp 0),(4,Pp 4),(5,Pp 5)] [(0,pY),(1,Rb 81 3 []),(2,Rb 83 2 []),(3,Rb 73 5 []),(4,Vb 134 [Sb yZ.1,.bool yZ.2.1]),(5,Vb 26 [Sq 3 z9 zC.2.2,Sq 2 z4 zV.2.2,.own 6 ((yZ.2.2).length)]),(6,Rb 73 5 (Mp z5 yZ.2.2))] (ar 26 (ar true (ac (by first | (simp;done) | (simp;omega):(zV.2.2).length=((List.map z4 zV.2.2)).length) (ar 3 (ar ((Mp z9 zC.2.2):List AV) (ar true (ar 2 (ar ((Mp z4 zV.2.2):List AV) (ar true (ar (.own 7 ((yZ.2.2).length):AV) an)))))))))) (wz [0,1,2,3,4,5] [6] [] [5] [(0,Sb zE),(2,Pp 0),(4,Pp 4),(5,Pp 5)] [(0,pY),(1,Rb 81 3 []),(2,Rb 83 2 []),(3,Rb 73 5 []),(4,Vb 134 [Sb yZ.1,.bool yZ.2.1]),(5,Vb 26 [Sq 3 z9 zC.2.2,Sq 2 z4 zV.2.2,Sq 5 z5 yZ.2.2])] (ar 26 (ar true (ac (by first | (simp;done) | (simp;omega):(yZ.2.2).length=((List.map z5 yZ.2.2)).length) (ar 3 (ar ((Mp z9 zC.2.2):List AV) (ar true (ar 2 (ar ((Mp z4 zV.2.2):List AV) (ar true (ar 5 (ar ((Mp z5 yZ.2.2):List AV) (ar true an)))))))))))) (bE h fun zL nJ h=>?_))));refine x9 (mk [(2,Pp 0),(3,.bool zL)] [(0,Vb 26 [Sq 3 z9 zC.2.2,Sq 2 z4 zV.2.2,Sq 5 z5 yZ.2.2])] 1) ?_ ?_
 ·replace h:=nJ;rcases bft (!yZ.2.1) with yK | yK
  ·replace h:=xP yK h;refine bE h fun xF aB h=>bE h fun wN cJ h=>r2 [iH 11 Ht,iR 2 yK,iL 8 {} [.agg [Sq 3 z9 zC.2.2,Sq 2 z4 zV.2.2,Sq 5 z5 yZ.2.2]] (R3 F (⟨zC.2.2,zV.2.2,yZ.2.2⟩:zT) xF aB) ⟨rfl,rfl,rfl,rfl,rfl,rfl,rfl,rfl,rfl,trivial⟩,iR 2 yK,iK 10 {} (KI xF zE wN cJ),iC yK] [0,4,5] [(3,.bool wN)] [1,2,3,4,5] [(0,Vb 26 [Sq 3 z9 zC.2.2,Sq 2 z4 zV.2.2,Sq 5 z5 yZ.2.2])] 6 ?_;cases h;exact ⟨rfl,(sI 1 [2,3])⟩
  ·replace h:=xQ yK h;refine r2 [iG 7 4,iH 11 Hf,iR 5 yK] [0,4,5] [(3,.bool false)] [1,2,3,4,5] [(0,Vb 26 [Sq 3 z9 zC.2.2,Sq 2 z4 zV.2.2,Sq 5 z5 yZ.2.2])] 6 ?_;cases h;exact ⟨rfl,(sI 1 [2,3])⟩
 cases h;exact rt rx
theorem YF (zF:List (zQ)) (r:(List (zQ))) (h:JL zF=some r):y5 prog 68 [(.row 54 4 (Mp zZ zF))] [] [.own 0 ((zF).length)] [(.row 54 4 (Mp zZ zF)),.row 54 4 (Mp zZ r)] (.own 1 ((r).length)):=by
 refine tI Try.f68 ?_;unfold JL at h;refine sE [iH 0 { id:=1,m:=1 }] [(0,.own 0 ((zF).length))] [(0,Rb 54 4 (Mp zZ zF))] 2 (sq (s0 [iH 1 { x:=true }] [(4,.nb (Mp zZ zF))] ?_));refine CP (t:=4) (l:=(Mp zZ zF)) zk zk ?_ ?_
 ·intro zU;replace zU:=List.map_eq_nil_iff.1 zU;replace h:=Eq.trans (show (some [])=((need (((([]:List zQ)).length+(zF).length) * 48≤140737488355328)).bind fun _ =>
 some ([]++zF)) from by simp [zU,need]) h
  refine sE [iH 0 { id:=2,m:=1 }] [(2,.own 2 0)] [(0,Rb 54 4 (Mp zZ zF)),(2,Rb 54 4 [])] 3 (wz [0,2] [] [2] [] [(2,.own 1 ((([]:List zQ)).length))] [(0,Rb 54 4 (Mp zZ zF)),(1,Rb 54 4 [])] (ac (congrArg (AV.own _) (by first | (simp;done) | (simp;omega)):(.own 2 0:AV)=.own 2 ((([]:List zQ)).length)) an) ?_);cases h;exact rt rx
 refine sk (sq (nE h fun zN h=>rE [iH 0 { id:=2 },iH 2 { id:=3,l:=(Mp zZ ([]++zF)),n:=(([]++zF)).length },iA 0,iM zZ zF,iC (by simp:(List.map zZ ([]++zF))=[]++(List.map zZ zF)),iC (by simp:(([]++zF)).length=((List.map zZ ([]++zF))).length),iC (by first | (simp;done) | simpa using zN:(([]:List AV).length+((List.map zZ zF):List AV).length) * 48≤140737488355328)] [(2,.own 3 ((([]++zF)).length))] [(0,Rb 54 4 (Mp zZ zF)),(3,Rb 54 4 (Mp zZ ([]++zF)))] 4 (w0 [0,3] [] [(2,.own 1 ((([]++zF)).length))] [(0,Rb 54 4 (Mp zZ zF)),(1,Rb 54 4 (Mp zZ ([]++zF)))] ?_)));cases h;exact rt rx
theorem TR (zF:List (yQ)) (r:(List (yQ))) (h:rD zF=some r):y5 prog 25 [] [] [Sq 5 z5 zF] [.row 73 5 (Mp z5 r)] (.own 0 ((r).length)):=by
 refine tI Try.f25 ?_;unfold rD at h;refine sE [iH 0 { id:=0,m:=1 }] [(0,Sq 5 z5 zF)] [] 1 (sq (s0 [] [(4,.nb (Mp z5 zF))] ?_));refine CP (t:=4) (l:=(Mp z5 zF)) zk zk ?_ ?_
 ·intro zU;replace zU:=List.map_eq_nil_iff.1 zU;replace h:=Eq.trans (show (some [])=((need (((([]:List yQ)).length+(zF).length) * 40≤140737488355328)).bind fun _ =>
 some ([]++zF)) from by simp [zU,need]) h
  refine sE [iH 0 { id:=1,m:=1 }] [(2,.own 1 0)] [(1,Rb 73 5 [])] 2 (wz [1] [] [2] [] [(2,.own 0 ((([]:List yQ)).length))] [(0,Rb 73 5 [])] (ac (congrArg (AV.own _) (by first | (simp;done) | (simp;omega)):(.own 1 0:AV)=.own 1 ((([]:List yQ)).length)) an) ?_);cases h;exact rt rx
 refine sk (sq (nE h fun zN h=>rE [iH 0 { id:=1 },iH 2 { id:=2,l:=(Mp z5 ([]++zF)),n:=(([]++zF)).length },iA 0,iC trivial,iC (by simp:(List.map z5 ([]++zF))=[]++(List.map z5 zF)),iC (by simp:(([]++zF)).length=((List.map z5 ([]++zF))).length),iC (by first | (simp;done) | simpa using zN:(([]:List AV).length+((List.map z5 zF):List AV).length) * 40≤140737488355328)] [(2,.own 2 ((([]++zF)).length))] [(2,Rb 73 5 (Mp z5 ([]++zF)))] 3 (w0 [2] [] [(2,.own 0 ((([]++zF)).length))] [(0,Rb 73 5 (Mp z5 ([]++zF)))] ?_)));cases h;exact rt rx
theorem RE (zB:yJ) (r:yJ) (h:o3 zB=some r):y5 prog 46 [(.row 54 4 (Mp zZ zB.packets))] [] [.agg [Sq 3 z9 zB.head.Threads,Sq 2 z4 zB.head.Domains,Sq 5 z5 zB.head.Snaps,.own 0 ((zB.packets).length),.fm (zB.ends).isNone (List.map (mpE (AV.int .i64) yY) ((zB.ends).getD [])),Ii zB.events]] [(.row 54 4 (Mp zZ zB.packets)),.row 73 5 (Mp z5 r.head.Snaps),.row 54 4 (Mp zZ r.packets)] (.agg [Sq 3 z9 r.head.Threads,Sq 2 z4 r.head.Domains,.own 1 ((r.head.Snaps).length),.own 2 ((r.packets).length),.fm (r.ends).isNone (List.map (mpE (AV.int .i64) yY) ((r.ends).getD [])),Ii r.events]):=by
 refine tI Try.f46 ?_;unfold o3 at h;refine sE [iH 0 { id:=1 },iH 1 { id:=2 }] [(1,Pp 1),(2,Pp 2)] [(0,Rb 54 4 (Mp zZ zB.packets)),(1,Vb 65 [Sq 3 z9 zB.head.Threads,Sq 2 z4 zB.head.Domains,Sq 5 z5 zB.head.Snaps,.own 0 ((zB.packets).length),.fm (zB.ends).isNone (List.map (mpE (AV.int .i64) yY) ((zB.ends).getD [])),Ii zB.events]),(2,Vb 65 [.nilsl,.nilsl,.nilsl,.nilsl,.fm true [],Ii 0])] 3 (sq (bE h fun zA zN h=>r2 [iK 2 { ids:=[0,3] } (YF zB.packets zA zN)] [] [] [] [(1,Vb 65 [Sq 3 z9 zB.head.Threads,Sq 2 z4 zB.head.Domains,Sq 5 z5 zB.head.Snaps,.own 3 ((zA).length),.fm (zB.ends).isNone (List.map (mpE (AV.int .i64) yY) ((zB.ends).getD [])),Ii zB.events]),(3,Rb 54 4 (Mp zZ zA))] 4 (sq (bE h fun zK zU h=>r2 [iK 3 { ids:=[4] } (TR zB.head.Snaps zK zU)] [] [] [] [(1,Vb 65 [Sq 3 z9 zB.head.Threads,Sq 2 z4 zB.head.Domains,.own 4 ((zK).length),.own 3 ((zA).length),.fm (zB.ends).isNone (List.map (mpE (AV.int .i64) yY) ((zB.ends).getD [])),Ii zB.events]),(4,Rb 73 5 (Mp z5 zK))] 5 (s0 [iK 2 {} (XR RY (zB.ends).isNone (List.map (mpE (AV.int .i64) yY) ((zB.ends).getD [])))] [] (s2 [] [1] [] [1] [(2,Vb 65 [Sq 3 z9 zB.head.Threads,Sq 2 z4 zB.head.Domains,.own 4 ((zK).length),.own 3 ((zA).length),.fm (zB.ends).isNone (List.map (mpE (AV.int .i64) yY) ((zB.ends).getD [])),Ii zB.events])] 5 (wz [0,4,3,2] [] [] [1,2,3] [(2,Pp 3)] [(0,Rb 54 4 (Mp zZ zB.packets)),(1,Rb 73 5 (Mp z5 (((⟨(⟨zB.head.Threads,zB.head.Domains,zK⟩:zT),zA,zB.ends,zB.events⟩:yJ).head).Snaps))),(2,Rb 54 4 (Mp zZ ((⟨(⟨zB.head.Threads,zB.head.Domains,zK⟩:zT),zA,zB.ends,zB.events⟩:yJ).packets))),(3,Vb 65 [Sq 3 z9 (((⟨(⟨zB.head.Threads,zB.head.Domains,zK⟩:zT),zA,zB.ends,zB.events⟩:yJ).head).Threads),Sq 2 z4 (((⟨(⟨zB.head.Threads,zB.head.Domains,zK⟩:zT),zA,zB.ends,zB.events⟩:yJ).head).Domains),.own 1 ((((⟨(⟨zB.head.Threads,zB.head.Domains,zK⟩:zT),zA,zB.ends,zB.events⟩:yJ).head).Snaps).length),.own 2 (((⟨(⟨zB.head.Threads,zB.head.Domains,zK⟩:zT),zA,zB.ends,zB.events⟩:yJ).packets).length),.fm ((⟨(⟨zB.head.Threads,zB.head.Domains,zK⟩:zT),zA,zB.ends,zB.events⟩:yJ).ends).isNone (List.map (mpE (AV.int .i64) yY) (((⟨(⟨zB.head.Threads,zB.head.Domains,zK⟩:zT),zA,zB.ends,zB.events⟩:yJ).ends).getD [])),Ii ((⟨(⟨zB.head.Threads,zB.head.Domains,zK⟩:zT),zA,zB.ends,zB.events⟩:yJ).events)])] (ar 73 (ar 5 (ar (Mp z5 zK) (ar 54 (ar 4 (ar (Mp zZ zA) (ar 65 (ar true (ar 3 (ar (Mp z9 zB.head.Threads) (ar true (ar 2 (ar (Mp z4 zB.head.Domains) (ar true (ac (congrArg (AV.own _) (by first | (simp;done) | (simp;omega)):(.own 4 ((zK).length):AV)=.own 4 ((((⟨(⟨zB.head.Threads,zB.head.Domains,zK⟩:zT),zA,zB.ends,zB.events⟩:yJ).head).Snaps).length)) (ac (congrArg (AV.own _) (by first | (simp;done) | (simp;omega)):(.own 3 ((zA).length):AV)=.own 3 (((⟨(⟨zB.head.Threads,zB.head.Domains,zK⟩:zT),zA,zB.ends,zB.events⟩:yJ).packets).length)) (ac (rfl:(zB.ends).isNone=((⟨(⟨zB.head.Threads,zB.head.Domains,zK⟩:zT),zA,zB.ends,zB.events⟩:yJ).ends).isNone) (ar (List.map (mpE (AV.int .i64) yY) ((zB.ends).getD [])) (ar (Ii zB.events) an))))))))))))))))))) ?_)))))));cases h;exact rt rx
theorem zCT (F:Nat) (zE:List (Int)) (r:yQ×Bool) (h:DV F zE=some r):y5 prog 47 [] [] [Sb zE] [] (.tuple [z5 r.1,.bool r.2]):=by
 refine tI Try.f47 ?_;unfold DV at h;refine sE [iH 0 { id:=0 }] [(0,Sb zE),(2,Pp 0)] [(0,Vb 73 [Ii 0,Ii 0,Ii 0,Ii 0,Ii 0])] 1 (s2 [iH 2 { id:=1 }] [] [(4,Pp 1)] [] [(1,Vb 134 [Sb zE,.bool false])] 2 (sq (bE h fun zA zN h=>r2 [iH 2 { id:=2 },iJ 1 { ids:=[1] } ([Pp 1]:List AV) (RN F (⟨zE,false⟩:vB) zA zN)] [] [(5,Pp 2)] [] [(1,Vb 134 (uQ zA.2)),(2,Vb 73 (pH zA.1))] 3 (sq (bE h fun zL xR h=>?_)))));refine x9 (mk [(2,Pp 0),(3,.bool zL)] [(0,Vb 73 (pH zA.1))] 1) ?_ ?_
 ·replace h:=xR;rcases bft (!zA.2.bad) with zR | zR
  ·replace h:=xP zR h;refine bE h fun zK zU h=>bE h fun zP y8 h=>r2 [iH 11 Ht,iR 2 zR,iL 8 {} [.nilsl,z5 zA.1] (KL F [] zA.1 zK zU) ⟨rfl,rfl,rfl,rfl,rfl,rfl,trivial⟩,iR 2 zR,iK 10 {} (KI zK zE zP y8),iC zR] [0,4,5] [(3,.bool zP)] [1,2] [(0,Vb 73 (pH zA.1))] 3 ?_;cases h;exact ⟨rfl,(sI 1 [2,3])⟩
  ·replace h:=xQ zR h;refine r2 [iG 7 4,iH 11 Hf,iR 5 zR] [0,4,5] [(3,.bool false)] [1,2] [(0,Vb 73 (pH zA.1))] 3 ?_;cases h;exact ⟨rfl,(sI 1 [2,3])⟩
 cases h;exact rt rx
theorem rC (F:Nat) (zH:uV) (r:Int×uV) (h:aQ F zH=some r):y5 prog 69 [(.var 143 (t5 zH))] [] [Pp 0] [(.var 143 (t5 r.2))] (Ii r.1):=by
 refine tI Try.f69 ?_;unfold aQ at h;refine sE [] [(0,Pp 0)] [(0,Vb 143 (t5 zH))] 1 (sq (c0 [] 10 h [] ?_ ?_))
 ·intro yN h;refine s1 [] [0] [(2,Ii 0)] ?_;cases h;exact rt rx
 intro yN h;refine sk (sq (nE h fun zN h=>bE h fun zA zU h=>r0 [iT 8 Fb zH.b zH.used zN.1 zN.2,iK 9 {} (o7 F (sub zH.b zH.used (lN (zH.b))) zA zU)] [(3,Ii zA.1),(4,Ii zA.2.1),(5,Ii zA.2.2)] (s2 [] [0] [] [] [(0,Vb 143 [Sb zH.b,Ii (zI (zH.used+zA.2.1)),Ii zA.2.2])] 1 (s0 [] [(2,Ii zA.1)] ?_))));cases h;exact rt rx
theorem K8 (F:Nat) (zH:uV) (kE:Int) (r:Int×uV) (h:cA F zH kE=some r):y5 prog 70 [(.var 143 (t5 zH))] [] [Pp 0,Ii kE] [(.var 143 (t5 r.2))] (Ii r.1):=by
 refine tI Try.f70 ?_;unfold cA at h;refine sE [] [(0,Pp 0),(1,Ii kE)] [(0,Vb 143 (t5 zH))] 1 (sq (bE h fun zA zN h=>r2 [iK 1 { ids:=[0] } (rC F zH zA zN)] [] [(5,Ii zA.1)] [] [(0,Vb 143 (t5 zA.2))] 1 (sq ?_)));refine y7 (id:=0) zk ?_;refine c0 [] 8 h [] ?_ ?_
 ·intro yN h;refine s1 [] [0] [(4,Ii 0)] ?_;cases h;exact rt rx
 intro yN h;refine c0 [] 14 h [] ?_ ?_
 ·intro xG h;refine s2 [] [0] [] [] [(0,Vb 143 [Sb zA.2.b,Ii zA.2.used,Ii 10])] 1 (s0 [] [(4,Ii 0)] ?_);cases h;exact rt rx
 intro xG h;refine c0 [] 20 h [] ?_ ?_
 rotate_left
 ·intro xU h;refine sk (s1 [] [0] [(4,Ii zA.1)] ?_);cases h;exact rt rx
 intro xU h;refine s2 [] [0] [] [] [(0,Vb 143 [Sb zA.2.b,Ii zA.2.used,Ii 7])] 1 (s0 [] [(4,Ii 0)] ?_);cases h;exact rt rx
theorem WL (F:Nat) (zH:uV) (r:(List Int)×uV) (h:A6 F zH=some r):y5 prog 71 [(.var 143 (t5 zH))] [] [Pp 0] [(.var 143 (t5 r.2))] (.str r.1):=by
 refine tI Try.f71 ?_;unfold A6 at h;refine sE [] [(0,Pp 0)] [(0,Vb 143 (t5 zH))] 1 (sq (c0 [] 10 h [] ?_ ?_))
 ·intro yN h;refine s1 [] [0] [(2,.str ([]:List Int))] ?_;cases h;exact rt rx
 intro yN h;refine sk (sq (nE h fun zN h=>bE h fun zA zU h=>r0 [iT 8 Fb zH.b zH.used zN.1 zN.2,iK 9 {} (RH F (sub zH.b zH.used (lN (zH.b))) (40:Int) zA zU)] [(3,.str zA.1),(4,Ii zA.2.1),(5,Ii zA.2.2)] (s2 [] [0] [] [] [(0,Vb 143 [Sb zH.b,Ii (zI (zH.used+zA.2.1)),Ii zA.2.2])] 1 (s0 [] [(2,.str zA.1)] ?_))));cases h;exact rt rx
theorem ZJ (F:Nat) (yE:List (List Int)) (r:Int) (h:BY F yE=some r):y5 prog 86 [] [] [Ss yE] [] (Ii r):=by
 refine tI Try.f86 ?_;unfold BY at h;refine sE [] [(0,Ss yE)] [] 0 (s2 [iH 0 { id:=0,mag:=false,mks:=[.str] }] [] [(3,.mp 0)] [] [(0,.live (.map false [.str] []))] 1 (sq (s1 [iN 1 AV.str yE] [0] [(8,Ss yE),(9,Ii (lN (yE))),(10,Ii 0)] (bE h fun zC zN h=>?_))));refine uG (K1:=kS prog zC 0 (fun q0=>mk [] [] 0) Try.f86 (fun q1=>[]) fun q1=>Ii q1) ?_ ?_
 ·replace h:=zN;refine y7 (id:=0) zk ?_;refine w0 [0] [] [(3,.mp 0),(8,Ss yE),(9,Ii (lN (yE))),(10,Ii 0)] [(0,.live (.map false [.str] []))] ?_;refine wX (fun n st=>∃ (zG:Int),∃ (zJ:List ((List Int)×Bool)),st=mk [(3,.mp 0),(8,Ss yE),(9,Ii (lN (yE))),(10,Ii zG)] [(0,.live (.map false [.str] (List.map (mpE AV.str AV.bool) zJ)))] 1∧rS F yE n zG zJ=some zC) F zk ⟨_,_,rfl,h⟩ ?_ ?_
  ·rintro _ ⟨_,_,_,h⟩;exact wV (h:(none:Option (Unit⊕Int))=some zC)
  rintro yF _ ⟨zG,zJ,rfl,h⟩;replace h:gJ F yE (rS F yE yF) zG zJ=some zC:=h;unfold gJ at h;refine s0 [] [(11,.bool (decide (zG<(lN (yE)))))] (sq (ch 11 h ?_ ?_))
  rotate_left
  ·intro yN h;refine wQ (id:=0) zk ?_;cases h;exact ⟨rfl,(sI 0 [])⟩
  intro yN h;refine sk (sq ?_);refine y7 (id:=1) zk ?_;refine sq (bE h fun zH zU h=>r0 [iF 0 AV.str zU] [(5,.str zH)] (sq (sq (bE h fun zA y8 h=>r0 [iK 1 {} (BV F zH zA y8)] [(6,Ii zA)] (c0 [] 17 h [] ?_ ?_)))))
  ·intro xG h;refine s2 [] [3,8] [(2,Ii zA)] [0] [] 1 ?_;cases h;exact rt ry
  intro xG h;refine sk (sq (c0 [iH 2 { av:=(.bool ((vV zJ zH).getD false)),g:=(vV zJ zH).isSome },iC (SE:u9 prog 9 false [.str]),iC (HU (f:=AV.str) (g:=AV.bool) TK zJ zH false:dG (List.map (mpE AV.str AV.bool) zJ) (.str zH) (.bool false) (.bool ((vV zJ zH).getD false)) (vV zJ zH).isSome)] 21 h [] ?_ ?_))
  ·intro xU h;refine s2 [] [3,8] [(2,Ii 4)] [0] [] 1 ?_;cases h;exact rt ry
  intro xU h;refine sk (nE h fun xR h=>r2 [iH 2 { es:=(List.map (mpE AV.str AV.bool) (x6 zJ zH true)) },iC (SE:u9 prog 9 false [.str]),iC (EB (f:=AV.str) (g:=AV.bool) TK zJ zH true:iU (List.map (mpE AV.str AV.bool) zJ) (.str zH) (.bool true) (List.map (mpE AV.str AV.bool) (x6 zJ zH true))),iC (JD (l:=zJ) xR:((List.map (mpE AV.str AV.bool) zJ):List (AV×AV)).length<maxLen)] [] [] [] [(0,.live (.map false [.str] (List.map (mpE AV.str AV.bool) (x6 zJ zH true))))] 1 (r0 [] [(10,Ii (zI (zG+(1:Int))))] ?_));exact ⟨_,(sI 1 [3,8,9,10]),_,_,rfl,h⟩
 intro e st1 hk;rcases zC with yC | xV
 rotate_left
 ·obtain ⟨rfl,hf⟩:=hk;cases h;exact ⟨st1,Sub.refl _ _,.inr rfl,hf⟩
 obtain ⟨rfl,hs⟩:=hk;refine ⟨_,hs,?_⟩;refine s0 [] [(2,Ii 0)] ?_;cases h;exact rt rx
theorem HA (F:Nat) (yE:List (List Int)) (yH:List (zS)) (r:Int) (h:cO F yE yH=some r):y5 prog 72 [] [] [Ss yE,Sq 2 yW yH] [] (Ii r):=by
 refine tI Try.f72 ?_;unfold cO at h;refine sE [] [(0,Ss yE),(1,Sq 2 yW yH)] [] 0 (sq (ad 17 h ?_ ?_ ?_))
 ·rcases bft (decide ((lN (yE))>(1000:Int))) with zR | zR
  ·exact rm [iG 4 3,iH 7 Ht,iN 1 AV.str yE,iR 4 zR] (ort zR)
  ·exact rm [iH 7 Hf,iN 1 AV.str yE,iR 2 zR,iN 5 yW yH,iR 2 zR] (orf zR rfl)
 ·intro yN h;refine s1 [] [0,1] [(4,Ii 7)] ?_;cases h;exact rt rx
 intro yN h;refine sk (sq (sq (bE h fun zA zN h=>r0 [iK 1 {} (ZJ F yE zA zN)] [(5,Ii zA)] (c0 [] 21 h [] ?_ ?_))))
 ·intro xG h;refine s1 [] [0,1] [(4,Ii zA)] ?_;cases h;exact rt rx
 intro xG h;refine sk (s2 [iH 0 { id:=0,mag:=true,mks:=[.int .i64,.int .i64] }] [] [(6,.mp 0)] [] [(0,.live (.map true [.int .i64,.int .i64] []))] 1 (sq (nE h fun zU h=>r2 [iH 2 { id:=1,l:=(Mi (List.replicate ((yH).length) (0:Int))),m:=(yH).length,n:=(yH).length },iN 1 yW yH,iQ 2 (lN (yH)),iC (Nat.le_refl _:((yH).length)≤((yH).length)),iC zU,iC (RD:(Mi (List.replicate ((yH).length) (0:Int)))=List.replicate ((yH).length) (Ii 0))] [] [(7,.own 1 ((yH).length))] [] [(1,Rb 3 1 (Mi (List.replicate ((yH).length) (0:Int))))] 2 (sq (s1 [iN 1 yW yH] [1] [(27,Sq 2 yW yH),(28,Ii (lN (yH))),(29,Ii 0)] (bE h fun zC y8 h=>?_))))));refine uG (K1:=kS prog zC 0 (fun q0=>mk [] [] 0) Try.f72 (fun q1=>[]) fun q1=>Ii q1) ?_ ?_
 ·replace h:=y8;refine y7 (id:=0) zk ?_;refine wz [0,1] [] [7] [] [(0,Ss yE),(6,.mp 0),(7,.own 1 (((List.replicate ((yH).length) (0:Int))).length)),(27,Sq 2 yW yH),(28,Ii (lN (yH))),(29,Ii 0)] [(0,.live (.map true [.int .i64,.int .i64] [])),(1,Rb 3 1 (Mi (List.replicate ((yH).length) (0:Int))))] (ac (congrArg (AV.own _) List.length_replicate.symm:(.own 1 ((yH).length):AV)=.own 1 (((List.replicate ((yH).length) (0:Int))).length)) an) ?_;refine wX (fun n st=>∃ (zG:Int),∃ (zJ:List (zS×Bool)),∃ (z7:List Int),st=mk [(0,Ss yE),(6,.mp 0),(7,.own 1 ((z7).length)),(27,Sq 2 yW yH),(28,Ii (lN (yH))),(29,Ii zG)] [(0,.live (.map true [.int .i64,.int .i64] (List.map (mpE yW AV.bool) zJ))),(1,Rb 3 1 (Mi z7))] 2∧oM F yE yH n zG zJ z7=some zC) F zk ⟨_,_,_,rfl,h⟩ ?_ ?_
  ·rintro _ ⟨_,_,_,_,h⟩;exact wV (h:(none:Option (Unit⊕Int))=some zC)
  rintro yF _ ⟨zG,zJ,z7,rfl,h⟩;replace h:B1 F yE yH (oM F yE yH yF) zG zJ z7=some zC:=h;unfold B1 at h;refine s0 [] [(30,.bool (decide (zG<(lN (yH)))))] (sq (ch 30 h ?_ ?_))
  rotate_left
  ·intro xU h;refine wQ (id:=0) zk ?_;cases h;exact ⟨rfl,(sI 0 [])⟩
  intro xU h;refine sk (sq ?_);refine y7 (id:=1) zk ?_;refine sq (bE h fun zH xR h=>r2 [iH 3 { id:=2 },iF 1 yW xR] [] [(8,Ii zG),(9,Pp 2)] [] [(2,Vb 121 [Ii zH.c0,Ii zH.c1])] 3 (sq ?_));refine y7 (id:=2) zk ?_;refine ad 34 h ?_ ?_ ?_
  ·rcases bft (decide (zH.c0<(-1:Int))) with w6 | w6
   ·exact rm [iG 4 4,iH 8 Ht,iG 10 3,iH 13 Ht,iG 15 5,iH 20 Ht,i0,iC (by decide:(0:Int)<((2:Nat):Int)),iR 5 w6,iX 3,iA true,iX 5,iA true] (ort w6)
   ·rcases bft (decide (zH.c0≥zG)) with uJ | uJ
    ·exact rm [iH 8 Hf,iG 10 3,iH 13 Ht,iG 15 5,iH 20 Ht,i0,iC (by decide:(0:Int)<((2:Nat):Int)),iC w6,i0,iC (by decide:(0:Int)<((2:Nat):Int)),iR 4 w6,iR 4 uJ,iX 5,iA true] (orf w6 (ort uJ))
    ·rcases bft (decide (zH.c1<(0:Int))) with uN | uN
     ·exact rm [iH 8 Hf,iH 13 Hf,iG 15 5,iH 20 Ht,i0,iC (by decide:(0:Int)<((2:Nat):Int)),iC w6,i0,iC (by decide:(0:Int)<((2:Nat):Int)),iR 4 w6,iC uJ,iC (by decide:(0:Int)≤(1:Int)),iC (by decide:(1:Int)<((2:Nat):Int)),iR 3 uJ,iR 6 uN] (orf w6 (orf uJ (ort uN)))
     ·exact rm [iH 8 Hf,iH 13 Hf,iH 20 Hf,i0,iC (by decide:(0:Int)<((2:Nat):Int)),iC w6,i0,iC (by decide:(0:Int)<((2:Nat):Int)),iR 4 w6,iC uJ,iC (by decide:(0:Int)≤(1:Int)),iC (by decide:(1:Int)<((2:Nat):Int)),iR 3 uJ,iC uN,iC (by decide:(0:Int)≤(1:Int)),iC (by decide:(1:Int)<((2:Nat):Int)),iR 3 uN,iN 18 AV.str yE,iR 2 uN] (orf w6 (orf uJ (orf uN rfl)))
  ·intro vY h;refine s2 [] [0,6,7,27,9] [(4,Ii 2)] [0,1,2] [] 3 ?_;cases h;exact rt ry
  intro vY h;refine c0 [iH 2 { av:=(.bool ((vV zJ zH).getD false)),g:=(vV zJ zH).isSome },iC (LB:u9 prog 121 true [.int .i64,.int .i64]),iC (HU (f:=yW) (g:=AV.bool) MX zJ zH false:dG (List.map (mpE yW AV.bool) zJ) (.agg [Ii zH.c0,Ii zH.c1]) (.bool false) (.bool ((vV zJ zH).getD false)) (vV zJ zH).isSome)] 56 h [] ?_ ?_
  ·intro uT h;refine s2 [] [0,6,7,27,9] [(4,Ii 4)] [0,1,2] [] 3 ?_;cases h;exact rt ry
  intro uT h;refine sk (sq (nE h fun wH h=>r2 [iH 2 { es:=(List.map (mpE yW AV.bool) (x6 zJ zH true)) },iC (LB:u9 prog 121 true [.int .i64,.int .i64]),iC (EB (f:=yW) (g:=AV.bool) MX zJ zH true:iU (List.map (mpE yW AV.bool) zJ) (.agg [Ii zH.c0,Ii zH.c1]) (.bool true) (List.map (mpE yW AV.bool) (x6 zJ zH true))),iC (JD (l:=zJ) wH:((List.map (mpE yW AV.bool) zJ):List (AV×AV)).length<maxLen)] [] [] [] [(0,.live (.map true [.int .i64,.int .i64] (List.map (mpE yW AV.bool) (x6 zJ zH true))))] 3 (sq (bE h fun yB vA h=>r2 [iH 3 { av:=Ii yB,l:=(Mi ((z7).set ((zG).toNat) (1:Int))) },iC (kZ vA:(0:Int)≤zG),iC (by first | (simp;done) | simpa using kY vA:zG<(((z7).length:Nat):Int)),iC (kP vA:(Mi z7)[(zG).toNat]?=some (Ii yB)),iC (r5 _ _ _:(Mi ((z7).set ((zG).toNat) (1:Int)))=List.set (Mi z7) ((zG).toNat) (bN (Ii yB) 0 [Ii 1]))] [] [] [] [(1,Rb 3 1 (Mi ((z7).set ((zG).toNat) (1:Int))))] 3 (sq (s0 [i0,iC (by decide:(0:Int)<((2:Nat):Int))] [(67,.bool (zH.c0 != (-1:Int)))] (bE h fun zV vT h=>?_)))))));refine x9 (mk [(0,Ss yE),(6,.mp 0),(7,.own 1 ((zV).length)),(8,Ii zG),(27,Sq 2 yW yH),(28,Ii (lN (yH))),(29,Ii zG)] [(0,.live (.map true [.int .i64,.int .i64] (List.map (mpE yW AV.bool) (x6 zJ zH true)))),(1,Rb 3 1 (Mi zV))] 2) ?_ ?_
  ·replace h:=vT;refine ch 67 h ?_ ?_
   rotate_left
   ·intro tQ h;refine sk ?_;cases h;exact ⟨rfl,(sw [0,1] [] [.s 0,.s 6,.a 7 (.own 1 (((z7).set ((zG).toNat) (1:Int)).length)),.s 8,.s 27,.s 28,.s 29] [.s 0,.s 1] (ac (congrArg (AV.own _) (by first | (simp;done) | (simp;omega)):(.own 1 ((z7).length):AV)=.own 1 (((z7).set ((zG).toNat) (1:Int)).length)) an))⟩
   intro tQ h;refine bE h fun xX v8 h=>bE h fun tM uK h=>bE h fun n8 u0 h=>r2 [iH 3 { av:=Ii xX },iH 8 { av:=Ii tM },iH 11 { av:=Ii n8,l:=(Mi (((z7).set ((zG).toNat) (1:Int)).set ((zG).toNat) (zI (xX+tM)))) },iC (kZ v8:(0:Int)≤zG),iC (by first | (simp;done) | simpa using kY v8:zG<(((z7).length:Nat):Int)),iC (kP v8:(Mi ((z7).set ((zG).toNat) (1:Int)))[(zG).toNat]?=some (Ii xX)),i0,iC (by decide:(0:Int)<((2:Nat):Int)),iC (kZ uK:(0:Int)≤zH.c0),iC (by first | (simp;done) | simpa using kY uK:zH.c0<(((z7).length:Nat):Int)),iC (kP uK:(Mi ((z7).set ((zG).toNat) (1:Int)))[(zH.c0).toNat]?=some (Ii tM)),iC (kZ u0:(0:Int)≤zG),iC (by first | (simp;done) | simpa using kY u0:zG<(((z7).length:Nat):Int)),iC (kP u0:(Mi ((z7).set ((zG).toNat) (1:Int)))[(zG).toNat]?=some (Ii n8)),iC (r5 _ _ _:(Mi (((z7).set ((zG).toNat) (1:Int)).set ((zG).toNat) (zI (xX+tM))))=List.set (Mi ((z7).set ((zG).toNat) (1:Int))) ((zG).toNat) (bN (Ii n8) 0 [Ii (zI (xX+tM))]))] [9] [] [2] [(1,Rb 3 1 (Mi (((z7).set ((zG).toNat) (1:Int)).set ((zG).toNat) (zI (xX+tM)))))] 3 ?_;cases h;exact ⟨rfl,(sw [0,1] [] [.s 0,.s 6,.a 7 (.own 1 ((((z7).set ((zG).toNat) (1:Int)).set ((zG).toNat) (zI (xX+tM))).length)),.s 8,.s 27,.s 28,.s 29] [.s 0,.s 1] (ac (congrArg (AV.own _) (by first | (simp;done) | (simp;omega)):(.own 1 ((z7).length):AV)=.own 1 ((((z7).set ((zG).toNat) (1:Int)).set ((zG).toNat) (zI (xX+tM))).length)) an))⟩
  refine sq (bE h fun n9 tB h=>r0 [iH 3 { av:=Ii n9 },iC (kZ tB:(0:Int)≤zG),iC (by first | (simp;done) | simpa using kY tB:zG<(((zV).length:Nat):Int)),iC (kP tB:(Mi zV)[(zG).toNat]?=some (Ii n9))] [(83,.bool (decide (n9>(32:Int))))] (ch 83 h ?_ ?_))
  rotate_left
  ·intro kG h;refine sk (r0 [] [(29,Ii (zI (zG+(1:Int))))] ?_);exact ⟨_,(sI 2 [0,6,7,27,28,29]),_,_,_,rfl,h⟩
  intro kG h;refine s2 [] [0,6,7,27] [(4,Ii 7)] [0,1] [] 2 ?_;cases h;exact rt ry
 intro e st1 hk;rcases zC with yC | xV
 rotate_left
 ·obtain ⟨rfl,hf⟩:=hk;cases h;exact ⟨st1,Sub.refl _ _,.inr rfl,hf⟩
 obtain ⟨rfl,hs⟩:=hk;refine ⟨_,hs,?_⟩;refine s0 [] [(4,Ii 0)] ?_;cases h;exact rt rx
theorem oO (F:Nat) (zH:jM) (r:Int×jM) (h:nR F zH=some r):y5 prog 87 [(.var 168 (cZ zH))] [] [Pp 0] [(.var 168 (cZ r.2))] (Ii r.1):=by
 refine tI Try.f87 ?_;unfold nR at h;refine sE [] [(0,Pp 0)] [(0,Vb 168 (cZ zH))] 1 (sq (c0 [] 10 h [] ?_ ?_))
 ·intro yN h;refine s1 [] [0] [(2,Ii 0)] ?_;cases h;exact rt rx
 intro yN h;refine sk (sq (nE h fun zN h=>bE h fun zA zU h=>r0 [iT 8 Fb zH.b zH.used zN.1 zN.2,iK 9 {} (o7 F (sub zH.b zH.used (lN (zH.b))) zA zU)] [(3,Ii zA.1),(4,Ii zA.2.1),(5,Ii zA.2.2)] (s2 [] [] [] [] [(0,Vb 168 [Sb zH.b,Ii zH.used,Ii zA.2.2])] 1 (s2 [] [0] [] [] [(0,Vb 168 [Sb zH.b,Ii (zI (zH.used+zA.2.1)),Ii zA.2.2])] 1 (s0 [] [(2,Ii zA.1)] ?_)))));cases h;exact rt rx
theorem RQ (v7:Int) (r:Bool×Bool×Bool×Bool) (h:BJ v7=some r):y5 prog 79 [] [] [Ii v7] [] (.tuple [.bool r.1,.bool r.2.1,.bool r.2.2.1,.bool r.2.2.2]):=by
 refine tI Try.f79 ?_;unfold BJ at h;refine sE [] [(0,Ii v7)] [] 0 (sq (am 2 ((v7==(1:Int))||((v7==(3:Int))||(v7==(4:Int)))) ?_ ?_))
 ·rcases bft (v7==(1:Int)) with zR | zR
  ·exact rm [iG 3 2,iH 5 Ht,iG 7 2,iH 9 Ht,iR 3 zR,iX 2,iA true] (ort zR)
  ·rcases bft (v7==(3:Int)) with zX | zX
   ·exact rm [iH 5 Hf,iG 7 2,iH 9 Ht,iR 3 zR,iR 3 zX] (orf zR (ort zX))
   ·exact rm [iH 5 Hf,iH 9 Hf,iR 3 zR,iR 3 zX] (orf zR (orf zX rfl))
 refine s0 [] [(3,.bool (decide (v7≥(4:Int))))] (sq (am 4 ((v7==(9:Int))||(v7==(11:Int))) ?_ ?_))
 ·rcases bft (v7==(9:Int)) with yI | yI
  ·exact rm [iG 3 2,iH 5 Ht,iR 3 yI] (ort yI)
  ·exact rm [iH 5 Hf,iR 3 yI] (orf yI rfl)
 refine sq (am 5 ((v7==(5:Int))||(v7==(11:Int))) ?_ ?_)
 ·rcases bft (v7==(5:Int)) with yK | yK
  ·exact rm [iG 3 2,iH 5 Ht,iR 3 yK] (ort yK)
  ·exact rm [iH 5 Hf,iR 3 yK] (orf yK rfl)
 refine s0 [] [] ?_;cases h;exact rt rx
theorem zDi (F:Nat) (zF:List (List Int)) (r:(List (List Int))) (h:AF F zF=some r):y5 prog 98 [(.row 9 1 (Ms zF))] [] [.own 0 ((zF).length)] [(.row 9 1 (Ms r))] (.tuple []):=by
 refine tI Try.f98 ?_;unfold AF at h;refine sE [] [(0,.own 0 ((zF).length)),(2,Ii 0),(3,Ii (zI ((lN (zF)) - (1:Int))))] [(0,Rb 9 1 (Ms zF))] 1 (bE h fun zC zN h=>?_);refine x9 (mk [] [(0,Rb 9 1 (Ms zC))] 1) ?_ ?_
 ·replace h:=zN;refine y7 (id:=0) zk ?_;refine w0 [0] [] [(0,.own 0 ((zF).length)),(2,Ii 0),(3,Ii (zI ((lN (zF)) - (1:Int))))] [(0,Rb 9 1 (Ms zF))] ?_;refine wX (fun n st=>∃ (xE:Int),∃ (tZ:Int),∃ (zJ:List (List Int)),st=mk [(0,.own 0 ((zJ).length)),(2,Ii xE),(3,Ii tZ)] [(0,Rb 9 1 (Ms zJ))] 1∧mV F n xE tZ zJ=some zC) F zk ⟨_,_,_,rfl,h⟩ ?_ ?_
  ·rintro _ ⟨_,_,_,_,h⟩;exact wV (h:(none:Option (List (List Int)))=some zC)
  rintro yF _ ⟨xE,tZ,zJ,rfl,h⟩;replace h:BE F (mV F yF) xE tZ zJ=some zC:=h;unfold BE at h;refine sq (c0 [] 9 h [] ?_ ?_)
  rotate_left
  ·intro yN h;refine wQ (id:=0) zk ?_;cases h;exact ⟨rfl,(sI 1 [])⟩
  intro yN h;refine sk (sq ?_);refine y7 (id:=1) zk ?_;refine bE h fun zH zU h=>bE h fun yB y8 h=>bE h fun xX xR h=>bE h fun tM wH h=>r2 [iH 7 { av:=.str zH },iH 11 { av:=.str yB },iH 13 { av:=.str xX,l:=(Ms ((zJ).set ((xE).toNat) zH)) },iH 15 { av:=.str tM,l:=(Ms (((zJ).set ((xE).toNat) zH).set ((tZ).toNat) yB)) },iC (kZ zU:(0:Int)≤tZ),iC (by first | (simp;done) | simpa using kY zU:tZ<(((zJ).length:Nat):Int)),iC (kP zU:(Ms zJ)[(tZ).toNat]?=some (.str zH)),iC (kZ y8:(0:Int)≤xE),iC (by first | (simp;done) | simpa using kY y8:xE<(((zJ).length:Nat):Int)),iC (kP y8:(Ms zJ)[(xE).toNat]?=some (.str yB)),iC (kZ xR:(0:Int)≤xE),iC (by first | (simp;done) | simpa using kY xR:xE<(((zJ).length:Nat):Int)),iC (kP xR:(Ms zJ)[(xE).toNat]?=some (.str xX)),iC (r5 _ _ _:(Ms ((zJ).set ((xE).toNat) zH))=List.set (Ms zJ) ((xE).toNat) (bN (.str xX) 0 [.str zH])),iC (kZ wH:(0:Int)≤tZ),iC (by first | (simp;done) | simpa using kY wH:tZ<(((zJ).length:Nat):Int)),iC (kP wH:(Ms ((zJ).set ((xE).toNat) zH))[(tZ).toNat]?=some (.str tM)),iC (r5 _ _ _:(Ms (((zJ).set ((xE).toNat) zH).set ((tZ).toNat) yB))=List.set (Ms ((zJ).set ((xE).toNat) zH)) ((tZ).toNat) (bN (.str tM) 0 [.str yB]))] [] [] [] [(0,Rb 9 1 (Ms (((zJ).set ((xE).toNat) zH).set ((tZ).toNat) yB)))] 1 (r0 [] [(2,Ii (zI (xE+(1:Int)))),(3,Ii (zI (tZ - (1:Int))))] ?_);exact ⟨_,(sw [0] [] [.a 0 (.own 0 ((((zJ).set ((xE).toNat) zH).set ((tZ).toNat) yB).length)),.s 2,.s 3] [.s 0] (ac (congrArg (AV.own _) (by first | (simp;done) | (simp;omega)):(.own 0 ((zJ).length):AV)=.own 0 ((((zJ).set ((xE).toNat) zH).set ((tZ).toNat) yB).length)) an)),_,_,_,rfl,h⟩
 cases h;exact ⟨.inl rfl,zle rfl,zk⟩
theorem YR (F:Nat) (yE:List (List Int)) (yH:List (zS)) (xE:Int) (r:(List (List Int))×Int) (h:rP F yE yH xE=some r):y5 prog 88 [] [] [Ss yE,Sq 2 yW yH,Ii xE] [.row 9 1 (Ms r.1)] (.tuple [.own 0 ((r.1).length),Ii r.2]):=by
 refine tI Try.f88 ?_;unfold rP at h;refine sE [iH 0 { id:=0,m:=1 }] [(0,Ss yE),(1,Sq 2 yW yH),(2,Ii xE)] [] 1 (sq ?_);refine y7 (id:=0) zk ?_;refine sq (bE h fun zA zN h=>r0 [iK 2 {} (HA F yE yH zA zN)] [(9,.bool (zA != (0:Int)))] (ch 9 h ?_ ?_))
 ·intro yN h;refine s2 [iH 0 { id:=1,m:=1 }] [0,1] [(6,.own 1 0),(7,Ii 1)] [] [(1,Rb 9 1 [])] 2 (wz [1] [] [6] [] [(6,.own 0 ((([]:List (List Int))).length)),(7,Ii 1)] [(0,Rb 9 1 [])] (ac (congrArg (AV.own _) (by first | (simp;done) | (simp;omega)):(.own 1 0:AV)=.own 1 ((([]:List (List Int))).length)) an) ?_);cases h;exact rt rx
 intro yN h;refine sq ?_;refine x9 (mk [(0,Ss yE),(1,Sq 2 yW yH),(2,Ii xE),(14,.bool (decide (xE<(-1:Int))||decide (xE≥(lN (yH)))))] [] 0) ?_ ?_
 ·rcases bft (decide (xE<(-1:Int))) with zX | zX
  ·refine r0 [iG 3 4,iH 7 Ht,iR 5 zX] [(14,.bool true)] ?_;exact ⟨rfl,(sw [] [] [.s 0,.s 1,.s 2,.a 14 (.bool (decide (xE<(-1:Int))||decide (xE≥(lN (yH)))))] [] (ac (congrArg AV.bool (ort zX):(.bool true:AV)=.bool (decide (xE<(-1:Int))||decide (xE≥(lN (yH))))) an))⟩
  ·refine r0 [iH 7 Hf,iR 3 zX,iN 5 yW yH,iR 2 zX] [(14,.bool (decide (xE≥(lN (yH)))))] ?_;exact ⟨rfl,(sw [] [] [.s 0,.s 1,.s 2,.a 14 (.bool (decide (xE<(-1:Int))||decide (xE≥(lN (yH)))))] [] (ac (congrArg AV.bool (orf zX rfl):(.bool (decide (xE≥(lN (yH)))):AV)=.bool (decide (xE<(-1:Int))||decide (xE≥(lN (yH))))) an))⟩
 refine ch 14 h ?_ ?_
 ·intro xG h;refine s2 [iH 0 { id:=0,m:=1 }] [0,1] [(6,.own 0 0),(7,Ii 2)] [] [(0,Rb 9 1 [])] 1 (wz [0] [] [6] [] [(6,.own 0 ((([]:List (List Int))).length)),(7,Ii 2)] [(0,Rb 9 1 [])] (ac (congrArg (AV.own _) (by first | (simp;done) | (simp;omega)):(.own 0 0:AV)=.own 0 ((([]:List (List Int))).length)) an) ?_);cases h;exact rt rx
 intro xG h;refine sk (s2 [iH 0 { id:=0,m:=1 }] [] [(8,.own 0 0)] [] [(0,Rb 9 1 [])] 1 (sq (bE h fun zC zU h=>?_)));refine x9 (mk [(8,.own 0 ((zC).length))] [(0,Rb 9 1 (Ms zC))] 1) ?_ ?_
 ·replace h:=zU;refine y7 (id:=1) zk ?_;refine w0 [0] [] [(0,Ss yE),(1,Sq 2 yW yH),(2,Ii xE),(8,.own 0 0)] [(0,Rb 9 1 [])] ?_;refine wX (fun n st=>∃ (qE:Int),∃ (zJ:List (List Int)),st=mk [(0,Ss yE),(1,Sq 2 yW yH),(2,Ii qE),(8,.own 0 ((zJ).length))] [(0,Rb 9 1 (Ms zJ))] 1∧CK F yE yH n qE zJ=some zC) F zk ⟨_,_,rfl,h⟩ ?_ ?_
  ·rintro _ ⟨_,_,_,h⟩;exact wV (h:(none:Option (List (List Int)))=some zC)
  rintro yF _ ⟨qE,zJ,rfl,h⟩;replace h:gL F yE yH (CK F yE yH yF) qE zJ=some zC:=h;unfold gL at h;refine sq (c0 [] 24 h [] ?_ ?_)
  rotate_left
  ·intro xU h;refine wQ (id:=1) zk ?_;cases h;exact ⟨rfl,(sI 1 [8])⟩
  intro xU h;refine sk (sq ?_);refine y7 (id:=2) zk ?_;refine bE h fun zH y8 h=>bE h fun yB xR h=>nE h fun wH h=>r2 [iH 9 { id:=1 },iF 4 yW y8,iC (by decide:(0:Int)≤(1:Int)),iC (by decide:(1:Int)<((2:Nat):Int)),iF 7 AV.str xR,iM AV.str zJ,iA 1,iP 10 2 AV.str zJ ([yB]:List (List Int)) 16 wH] [] [(8,.own 2 (((zJ++([yB]:List (List Int)))).length))] [0] [(2,Rb 9 1 (Ms (zJ++([yB]:List (List Int)))))] 3 (bE h fun xX vA h=>r0 [iF 2 yW vA,i0,iC (by decide:(0:Int)<((2:Nat):Int))] [(2,Ii xX.c0)] ?_);exact ⟨_,(sJ [2] [0,1,2,8]),_,_,rfl,h⟩
 refine sq (bE h fun zK vT h=>nE h fun v8 h=>r2 [iK 1 { ids:=[0] } (zDi F zC zK vT)] [] [] [] [(0,Rb 9 1 (Ms zK))] 1 (s1 [] [8] [(6,.own 0 ((zC).length)),(7,Ii 0)] (wz [0] [] [6] [] [(6,.own 0 ((zK).length)),(7,Ii 0)] [(0,Rb 9 1 (Ms zK))] (ac (congrArg (AV.own _) v8.symm:(.own 0 ((zC).length):AV)=.own 0 ((zK).length)) an) ?_)));cases h;exact rt rx
theorem zCo (r:(List (wP))) (h:oG=some r):y5 prog 99 [] [] [] [.row 172 9 (Mp cX r)] (.own 0 ((r).length)):=by
 refine tI Try.f99 ?_;unfold oG at h;refine sE [iH 0 { id:=0,m:=1 }] [] [] 1 (s2 [iH 13 { id:=1 }] [] [(0,.own 1 13)] [] [(1,Rb 172 9 (Mp cX ([zL4,zL8,zL5,zL7,HM,JI,H4,zL9,zL6,HQ,GS,HB,EI]:List wP)))] 2 (wz [1] [] [0] [] [(0,.own 0 ((([zL4,zL8,zL5,zL7,HM,JI,H4,zL9,zL6,HQ,GS,HB,EI]:List wP)).length))] [(0,Rb 172 9 (Mp cX ([zL4,zL8,zL5,zL7,HM,JI,H4,zL9,zL6,HQ,GS,HB,EI]:List wP)))] (ac (congrArg (AV.own _) (by first | (simp;done) | (simp;omega)):(.own 1 13:AV)=.own 1 ((([zL4,zL8,zL5,zL7,HM,JI,H4,zL9,zL6,HQ,GS,HB,EI]:List wP)).length)) an) ?_));cases h;exact rt rx
theorem zEw (v7:Int) (r:wP×Bool) (h:D0 v7=some r):y5 prog 90 [] [] [Ii v7] [] (.tuple [cX r.1,.bool r.2]):=by
 refine tI Try.f90 ?_;unfold D0 at h;refine sE [iH 0 { id:=0 }] [(0,Ii v7),(2,Pp 0)] [(0,Vb 172 [.str ([]:List Int),.bool false,.bool false,.bool false,.bool false,Ii 0,Ii 0,Ii 0,Ii 0])] 1 (sq (bE h fun zA zN h=>r2 [iK 0 { ids:=[1] } (zCo zA zN)] [] [(4,.own 1 ((zA).length))] [] [(1,Rb 172 9 (Mp cX zA))] 2 (sq (ad 13 h ?_ ?_ ?_))))
 ·rcases bft (decide (v7<(1:Int))) with zR | zR
  ·exact rm [iG 3 4,iH 7 Ht,iR 5 zR] (ort zR)
  ·exact rm [iH 7 Hf,iR 5 zR] (orf zR rfl)
 ·intro yN h;refine s2 [] [4] [(3,.bool false)] [1] [] 2 ?_;cases h;exact rt rx
 intro yN h;refine sk (sq (bE h fun zH zU h=>r2 [iH 3 { av:=cX zH },iC (kZ zU:(0:Int)≤v7),iC (by first | (simp;done) | simpa using kY zU:v7<(((zA).length:Nat):Int)),iC (kP zU:(Mp cX zA)[(v7).toNat]?=some (cX zH))] [4] [(3,.bool true)] [1] [(0,Vb 172 (B2 zH))] 2 ?_));cases h;exact rt rx
theorem QE (F:Nat) (zO:List (List Int)) (r:Int) (h:oL F zO=some r):y5 prog 94 [] [] [Ss zO] [] (Ii r):=by
 refine tI Try.f94 ?_;unfold oL at h;refine sE [] [(0,Ss zO)] [] 0 (sq (c0 [iN 1 AV.str zO] 8 h [] ?_ ?_))
 ·intro yN h;refine s1 [] [0] [(2,Ii 7)] ?_;cases h;exact rt rx
 intro yN h;refine sk (sq (s1 [iN 1 AV.str zO] [0] [(9,Ss zO),(10,Ii (lN (zO))),(11,Ii 0)] (bE h fun zC zN h=>?_)));refine uG (K1:=kS prog zC 0 (fun q0=>mk [] [] 0) Try.f94 (fun q1=>[]) fun q1=>Ii q1) ?_ ?_
 ·replace h:=zN;refine y7 (id:=0) zk ?_;refine w0 [] [] [(9,Ss zO),(10,Ii (lN (zO))),(11,Ii 0)] [] ?_;refine wX (fun n st=>∃ (zG:Int),st=mk [(9,Ss zO),(10,Ii (lN (zO))),(11,Ii zG)] [] 0∧CX F zO n zG=some zC) F zk ⟨_,rfl,h⟩ ?_ ?_
  ·rintro _ ⟨_,_,h⟩;exact wV (h:(none:Option (Unit⊕Int))=some zC)
  rintro yF _ ⟨zG,rfl,h⟩;replace h:CR F zO (CX F zO yF) zG=some zC:=h;unfold CR at h;refine s0 [] [(12,.bool (decide (zG<(lN (zO)))))] (sq (ch 12 h ?_ ?_))
  rotate_left
  ·intro xG h;refine wQ (id:=0) zk ?_;cases h;exact ⟨rfl,(sI 0 [])⟩
  intro xG h;refine sk (sq ?_);refine y7 (id:=1) zk ?_;refine sq (bE h fun zH zU h=>r0 [iF 0 AV.str zU] [(4,.str zH)] (sq (bE h fun zA y8 h=>r0 [iK 1 {} (BV F zH zA y8)] [(5,Ii zA)] (c0 [] 18 h [] ?_ ?_))))
  rotate_left
  ·intro xU h;refine sk (r0 [] [(11,Ii (zI (zG+(1:Int))))] ?_);exact ⟨_,(sI 0 [9,10,11]),_,rfl,h⟩
  intro xU h;refine s1 [] [9] [(2,Ii zA)] ?_;cases h;exact rt ry
 intro e st1 hk;rcases zC with yC | xV
 rotate_left
 ·obtain ⟨rfl,hf⟩:=hk;cases h;exact ⟨st1,Sub.refl _ _,.inr rfl,hf⟩
 obtain ⟨rfl,hs⟩:=hk;refine ⟨_,hs,?_⟩;refine s0 [] [(2,Ii 0)] ?_;cases h;exact rt rx
theorem zAX (F:Nat) (f_1:wP) (z6:y6) (r:Int) (h:CZ F f_1 z6=some r):y5 prog 91 [] [] [cX f_1,wG z6] [] (Ii r):=by
 refine tI Try.f91 ?_;unfold CZ at h;refine sE [iH 0 { id:=0 },iH 1 { id:=1 }] [(2,Pp 0),(3,Pp 1)] [(0,Vb 172 (B2 f_1)),(1,Vb 89 (jI z6))] 2 (sq (s2 [] [2] [(6,.bool f_1.name)] [0] [] 2 (ch 6 h ?_ ?_)))
 ·intro yN h;refine sq (bE h fun zA zN h=>r2 [iK 2 {} (BV F z6.Name zA zN)] [3] [(4,Ii zA)] [1] [] 2 ?_);cases h;exact rt rx
 intro yN h;refine sk (sq (bE h fun zK zU h=>r2 [iK 2 {} (QE F z6.Stack zK zU)] [3] [(4,Ii zK)] [1] [] 2 ?_));cases h;exact rt rx
theorem M4 (F:Nat) (z6:y6) (r:Int) (h:fI F z6=some r):y5 prog 76 [] [] [wG z6] [] (Ii r):=by
 refine tI Try.f76 ?_;unfold fI at h;refine sE [iH 0 { id:=0 }] [(1,Pp 0)] [(0,Vb 89 (jI z6))] 1 (sq (ad 13 h ?_ ?_ ?_))
 ·rcases bft (decide (z6.At<(0:Int))) with zR | zR
  ·exact rm [iG 4 3,iH 7 Ht,iR 4 zR] (ort zR)
  ·exact rm [iH 7 Hf,iR 4 zR] (orf zR rfl)
 ·intro yN h;refine s2 [] [1] [(2,Ii 2)] [0] [] 1 ?_;cases h;exact rt rx
 intro yN h;refine sk (sq (bE h fun zA zN h=>r2 [iH 6 { id:=1 },iK 2 {} (zEw z6.Kind zA zN)] [] [(3,Pp 1),(4,.bool zA.2)] [] [(1,Vb 172 (B2 zA.1))] 2 (sq (sq (bE h fun zL zU h=>?_)))));refine x9 (mk [(1,Pp 0),(3,Pp 1),(62,.bool zL)] [(0,Vb 89 (jI z6)),(1,Vb 172 (B2 zA.1))] 2) ?_ ?_
 ·replace h:=zU;rcases bft (!zA.2) with zX | zX
  ·replace h:=xP zX h;refine r0 [iG 3 4,iH 10 Hg,iH 11 Ht,iG 13 4,iH 20 Hg,iH 21 Ht,iG 23 4,iH 30 Hg,iH 31 Ht,iG 33 4,iH 41 Hg,iH 42 Ht,iR 6 zX,iX 5,iA true,iX 5,iA true,iX 5,iA true] [(62,.bool true)] ?_;cases h;exact ⟨rfl,(sI 2 [1,3,62])⟩
  ·replace h:=xQ zX h;rcases bft (!zA.1.name) with yI | yI
   ·replace h:=xP yI h;rcases bft (!(z6.Name==([]:List Int))) with yK | yK
    ·replace h:=xP yK h;refine r0 [iH 10 Ht,iH 11 Hf,iG 13 4,iH 20 Hg,iH 21 Ht,iG 23 4,iH 30 Hg,iH 31 Ht,iG 33 4,iH 41 Hg,iH 42 Ht,iR 4 zX,iR 3 yI,iC zX,iC yI,iC zX,iR 6 yK,iX 5,iA true,iX 5,iA true] [(62,.bool true)] ?_;cases h;exact ⟨rfl,(sI 2 [1,3,62])⟩
    ·replace h:=xQ yK h;rcases bft (!zA.1.n) with xW | xW
     ·replace h:=xP xW h;rcases bft (z6.N != (0:Int)) with wB | wB
      ·replace h:=xP wB h;refine r0 [iH 10 Ht,iH 11 Hf,iH 20 Ht,iH 21 Hf,iG 23 4,iH 30 Hg,iH 31 Ht,iG 33 4,iH 41 Hg,iH 42 Ht,iR 4 zX,iR 3 yI,iC zX,iC yI,iC zX,iR 4 yK,iR 3 xW,iC yK,iC xW,iC yK,iR 6 wB,iX 5,iA true] [(62,.bool true)] ?_;cases h;exact ⟨rfl,(sI 2 [1,3,62])⟩
      ·replace h:=xQ wB h;rcases bft (!zA.1.m) with wL | wL
       ·replace h:=xP wL h;rcases bft (z6.M != (0:Int)) with wO | wO
        ·replace h:=xP wO h;refine r0 [iH 10 Ht,iH 11 Hf,iH 20 Ht,iH 21 Hf,iH 30 Ht,iH 31 Hf,iG 33 4,iH 41 Hg,iH 42 Ht,iR 4 zX,iR 3 yI,iC zX,iC yI,iC zX,iR 4 yK,iR 3 xW,iC yK,iC xW,iC yK,iR 4 wB,iR 3 wL,iC wB,iC wL,iC wB,iR 6 wO] [(62,.bool true)] ?_;cases h;exact ⟨rfl,(sI 2 [1,3,62])⟩
        ·replace h:=xQ wO h;rcases bft (!zA.1.stack) with uC | uC
         ·replace h:=xP uC h;refine r0 [iH 10 Ht,iH 11 Hf,iH 20 Ht,iH 21 Hf,iH 30 Ht,iH 31 Hf,iH 41 Ht,iH 42 Hf,iR 4 zX,iR 3 yI,iC zX,iC yI,iC zX,iR 4 yK,iR 3 xW,iC yK,iC xW,iC yK,iR 4 wB,iR 3 wL,iC wB,iC wL,iC wB,iR 4 wO,iR 3 uC,iN 39 AV.str z6.Stack,iC uC,iC wO,iC uC,iC wO] [(62,.bool (decide ((lN (z6.Stack))>(0:Int))))] ?_;cases h;exact ⟨rfl,(sI 2 [1,3,62])⟩
         ·replace h:=xQ uC h;refine r0 [iH 10 Ht,iH 11 Hf,iH 20 Ht,iH 21 Hf,iH 30 Ht,iH 31 Hf,iG 37 4,iH 41 Hf,iH 42 Hf,iR 4 zX,iR 3 yI,iC zX,iC yI,iC zX,iR 4 yK,iR 3 xW,iC yK,iC xW,iC yK,iR 4 wB,iR 3 wL,iC wB,iC wL,iC wB,iR 4 wO,iR 4 uC,iC wO,iC uC,iC wO] [(62,.bool false)] ?_;cases h;exact ⟨rfl,(sI 2 [1,3,62])⟩
       ·replace h:=xQ wL h;rcases bft (!zA.1.stack) with vL | vL
        ·replace h:=xP vL h;refine r0 [iH 10 Ht,iH 11 Hf,iH 20 Ht,iH 21 Hf,iG 27 3,iH 30 Hf,iH 31 Hf,iH 41 Ht,iH 42 Hf,iR 4 zX,iR 3 yI,iC zX,iC yI,iC zX,iR 4 yK,iR 3 xW,iC yK,iC xW,iC yK,iR 4 wB,iR 3 wL,iC wB,iC wL,iC wB,iQ 4 false,iR 3 vL,iN 39 AV.str z6.Stack,iC vL,iA false,iC vL,iA false] [(62,.bool (decide ((lN (z6.Stack))>(0:Int))))] ?_;cases h;exact ⟨rfl,(sI 2 [1,3,62])⟩
        ·replace h:=xQ vL h;refine r0 [iH 10 Ht,iH 11 Hf,iH 20 Ht,iH 21 Hf,iG 27 3,iH 30 Hf,iH 31 Hf,iG 37 4,iH 41 Hf,iH 42 Hf,iR 4 zX,iR 3 yI,iC zX,iC yI,iC zX,iR 4 yK,iR 3 xW,iC yK,iC xW,iC yK,iR 4 wB,iR 3 wL,iC wB,iC wL,iC wB,iQ 4 false,iR 4 vL,iA false,iC vL,iA false] [(62,.bool false)] ?_;cases h;exact ⟨rfl,(sI 2 [1,3,62])⟩
     ·replace h:=xQ xW h;rcases bft (!zA.1.m) with w6 | w6
      ·replace h:=xP w6 h;rcases bft (z6.M != (0:Int)) with uJ | uJ
       ·replace h:=xP uJ h;refine r0 [iH 10 Ht,iH 11 Hf,iG 17 3,iH 20 Hf,iH 21 Hf,iH 30 Ht,iH 31 Hf,iG 33 4,iH 41 Hg,iH 42 Ht,iR 4 zX,iR 3 yI,iC zX,iC yI,iC zX,iR 4 yK,iR 3 xW,iC yK,iC xW,iC yK,iQ 4 false,iR 3 w6,iA false,iC w6,iA false,iR 6 uJ] [(62,.bool true)] ?_;cases h;exact ⟨rfl,(sI 2 [1,3,62])⟩
       ·replace h:=xQ uJ h;rcases bft (!zA.1.stack) with uN | uN
        ·replace h:=xP uN h;refine r0 [iH 10 Ht,iH 11 Hf,iG 17 3,iH 20 Hf,iH 21 Hf,iH 30 Ht,iH 31 Hf,iH 41 Ht,iH 42 Hf,iR 4 zX,iR 3 yI,iC zX,iC yI,iC zX,iR 4 yK,iR 3 xW,iC yK,iC xW,iC yK,iQ 4 false,iR 3 w6,iA false,iC w6,iA false,iR 4 uJ,iR 3 uN,iN 39 AV.str z6.Stack,iC uN,iC uJ,iC uN,iC uJ] [(62,.bool (decide ((lN (z6.Stack))>(0:Int))))] ?_;cases h;exact ⟨rfl,(sI 2 [1,3,62])⟩
        ·replace h:=xQ uN h;refine r0 [iH 10 Ht,iH 11 Hf,iG 17 3,iH 20 Hf,iH 21 Hf,iH 30 Ht,iH 31 Hf,iG 37 4,iH 41 Hf,iH 42 Hf,iR 4 zX,iR 3 yI,iC zX,iC yI,iC zX,iR 4 yK,iR 3 xW,iC yK,iC xW,iC yK,iQ 4 false,iR 3 w6,iA false,iC w6,iA false,iR 4 uJ,iR 4 uN,iC uJ,iC uN,iC uJ] [(62,.bool false)] ?_;cases h;exact ⟨rfl,(sI 2 [1,3,62])⟩
      ·replace h:=xQ w6 h;rcases bft (!zA.1.stack) with qG | qG
       ·replace h:=xP qG h;refine r0 [iH 10 Ht,iH 11 Hf,iG 17 3,iH 20 Hf,iH 21 Hf,iG 27 3,iH 30 Hf,iH 31 Hf,iH 41 Ht,iH 42 Hf,iR 4 zX,iR 3 yI,iC zX,iC yI,iC zX,iR 4 yK,iR 3 xW,iC yK,iC xW,iC yK,iQ 4 false,iR 3 w6,iA false,iC w6,iQ 5 false,iR 3 qG,iN 39 AV.str z6.Stack,iC qG,iA false,iC qG,iA false] [(62,.bool (decide ((lN (z6.Stack))>(0:Int))))] ?_;cases h;exact ⟨rfl,(sI 2 [1,3,62])⟩
       ·replace h:=xQ qG h;refine r0 [iH 10 Ht,iH 11 Hf,iG 17 3,iH 20 Hf,iH 21 Hf,iG 27 3,iH 30 Hf,iH 31 Hf,iG 37 4,iH 41 Hf,iH 42 Hf,iR 4 zX,iR 3 yI,iC zX,iC yI,iC zX,iR 4 yK,iR 3 xW,iC yK,iC xW,iC yK,iQ 4 false,iR 3 w6,iA false,iC w6,iQ 5 false,iR 4 qG,iA false,iC qG,iA false] [(62,.bool false)] ?_;cases h;exact ⟨rfl,(sI 2 [1,3,62])⟩
   ·replace h:=xQ yI h;rcases bft (!zA.1.n) with t3 | t3
    ·replace h:=xP t3 h;rcases bft (z6.N != (0:Int)) with jS | jS
     ·replace h:=xP jS h;refine r0 [iG 7 3,iH 10 Hf,iH 11 Hf,iH 20 Ht,iH 21 Hf,iG 23 4,iH 30 Hg,iH 31 Ht,iG 33 4,iH 41 Hg,iH 42 Ht,iR 4 zX,iR 3 yI,iC zX,iC yI,iC zX,iQ 4 false,iR 3 t3,iA false,iC t3,iA false,iR 6 jS,iX 5,iA true] [(62,.bool true)] ?_;cases h;exact ⟨rfl,(sI 2 [1,3,62])⟩
     ·replace h:=xQ jS h;rcases bft (!zA.1.m) with aC | aC
      ·replace h:=xP aC h;rcases bft (z6.M != (0:Int)) with cK | cK
       ·replace h:=xP cK h;refine r0 [iG 7 3,iH 10 Hf,iH 11 Hf,iH 20 Ht,iH 21 Hf,iH 30 Ht,iH 31 Hf,iG 33 4,iH 41 Hg,iH 42 Ht,iR 4 zX,iR 3 yI,iC zX,iC yI,iC zX,iQ 4 false,iR 3 t3,iA false,iC t3,iA false,iR 4 jS,iR 3 aC,iC jS,iC aC,iC jS,iR 6 cK] [(62,.bool true)] ?_;cases h;exact ⟨rfl,(sI 2 [1,3,62])⟩
       ·replace h:=xQ cK h;rcases bft (!zA.1.stack) with fY | fY
        ·replace h:=xP fY h;refine r0 [iG 7 3,iH 10 Hf,iH 11 Hf,iH 20 Ht,iH 21 Hf,iH 30 Ht,iH 31 Hf,iH 41 Ht,iH 42 Hf,iR 4 zX,iR 3 yI,iC zX,iC yI,iC zX,iQ 4 false,iR 3 t3,iA false,iC t3,iA false,iR 4 jS,iR 3 aC,iC jS,iC aC,iC jS,iR 4 cK,iR 3 fY,iN 39 AV.str z6.Stack,iC fY,iC cK,iC fY,iC cK] [(62,.bool (decide ((lN (z6.Stack))>(0:Int))))] ?_;cases h;exact ⟨rfl,(sI 2 [1,3,62])⟩
        ·replace h:=xQ fY h;refine r0 [iG 7 3,iH 10 Hf,iH 11 Hf,iH 20 Ht,iH 21 Hf,iH 30 Ht,iH 31 Hf,iG 37 4,iH 41 Hf,iH 42 Hf,iR 4 zX,iR 3 yI,iC zX,iC yI,iC zX,iQ 4 false,iR 3 t3,iA false,iC t3,iA false,iR 4 jS,iR 3 aC,iC jS,iC aC,iC jS,iR 4 cK,iR 4 fY,iC cK,iC fY,iC cK] [(62,.bool false)] ?_;cases h;exact ⟨rfl,(sI 2 [1,3,62])⟩
      ·replace h:=xQ aC h;rcases bft (!zA.1.stack) with fZ | fZ
       ·replace h:=xP fZ h;refine r0 [iG 7 3,iH 10 Hf,iH 11 Hf,iH 20 Ht,iH 21 Hf,iG 27 3,iH 30 Hf,iH 31 Hf,iH 41 Ht,iH 42 Hf,iR 4 zX,iR 3 yI,iC zX,iC yI,iC zX,iQ 4 false,iR 3 t3,iA false,iC t3,iA false,iR 4 jS,iR 3 aC,iC jS,iC aC,iC jS,iQ 4 false,iR 3 fZ,iN 39 AV.str z6.Stack,iC fZ,iA false,iC fZ,iA false] [(62,.bool (decide ((lN (z6.Stack))>(0:Int))))] ?_;cases h;exact ⟨rfl,(sI 2 [1,3,62])⟩
       ·replace h:=xQ fZ h;refine r0 [iG 7 3,iH 10 Hf,iH 11 Hf,iH 20 Ht,iH 21 Hf,iG 27 3,iH 30 Hf,iH 31 Hf,iG 37 4,iH 41 Hf,iH 42 Hf,iR 4 zX,iR 3 yI,iC zX,iC yI,iC zX,iQ 4 false,iR 3 t3,iA false,iC t3,iA false,iR 4 jS,iR 3 aC,iC jS,iC aC,iC jS,iQ 4 false,iR 4 fZ,iA false,iC fZ,iA false] [(62,.bool false)] ?_;cases h;exact ⟨rfl,(sI 2 [1,3,62])⟩
    ·replace h:=xQ t3 h;rcases bft (!zA.1.m) with jG | jG
     ·replace h:=xP jG h;rcases bft (z6.M != (0:Int)) with kI | kI
      ·replace h:=xP kI h;refine r0 [iG 7 3,iH 10 Hf,iH 11 Hf,iG 17 3,iH 20 Hf,iH 21 Hf,iH 30 Ht,iH 31 Hf,iG 33 4,iH 41 Hg,iH 42 Ht,iR 4 zX,iR 3 yI,iC zX,iC yI,iC zX,iQ 4 false,iR 3 t3,iA false,iC t3,iQ 5 false,iR 3 jG,iA false,iC jG,iA false,iR 6 kI] [(62,.bool true)] ?_;cases h;exact ⟨rfl,(sI 2 [1,3,62])⟩
      ·replace h:=xQ kI h;rcases bft (!zA.1.stack) with jT | jT
       ·replace h:=xP jT h;refine r0 [iG 7 3,iH 10 Hf,iH 11 Hf,iG 17 3,iH 20 Hf,iH 21 Hf,iH 30 Ht,iH 31 Hf,iH 41 Ht,iH 42 Hf,iR 4 zX,iR 3 yI,iC zX,iC yI,iC zX,iQ 4 false,iR 3 t3,iA false,iC t3,iQ 5 false,iR 3 jG,iA false,iC jG,iA false,iR 4 kI,iR 3 jT,iN 39 AV.str z6.Stack,iC jT,iC kI,iC jT,iC kI] [(62,.bool (decide ((lN (z6.Stack))>(0:Int))))] ?_;cases h;exact ⟨rfl,(sI 2 [1,3,62])⟩
       ·replace h:=xQ jT h;refine r0 [iG 7 3,iH 10 Hf,iH 11 Hf,iG 17 3,iH 20 Hf,iH 21 Hf,iH 30 Ht,iH 31 Hf,iG 37 4,iH 41 Hf,iH 42 Hf,iR 4 zX,iR 3 yI,iC zX,iC yI,iC zX,iQ 4 false,iR 3 t3,iA false,iC t3,iQ 5 false,iR 3 jG,iA false,iC jG,iA false,iR 4 kI,iR 4 jT,iC kI,iC jT,iC kI] [(62,.bool false)] ?_;cases h;exact ⟨rfl,(sI 2 [1,3,62])⟩
     ·replace h:=xQ jG h;rcases bft (!zA.1.stack) with kJ | kJ
      ·replace h:=xP kJ h;refine r0 [iG 7 3,iH 10 Hf,iH 11 Hf,iG 17 3,iH 20 Hf,iH 21 Hf,iG 27 3,iH 30 Hf,iH 31 Hf,iH 41 Ht,iH 42 Hf,iR 4 zX,iR 3 yI,iC zX,iC yI,iC zX,iQ 4 false,iR 3 t3,iA false,iC t3,iQ 5 false,iR 3 jG,iA false,iC jG,iQ 5 false,iR 3 kJ,iN 39 AV.str z6.Stack,iC kJ,iA false,iC kJ,iA false] [(62,.bool (decide ((lN (z6.Stack))>(0:Int))))] ?_;cases h;exact ⟨rfl,(sI 2 [1,3,62])⟩
      ·replace h:=xQ kJ h;refine r0 [iG 7 3,iH 10 Hf,iH 11 Hf,iG 17 3,iH 20 Hf,iH 21 Hf,iG 27 3,iH 30 Hf,iH 31 Hf,iG 37 4,iH 41 Hf,iH 42 Hf,iR 4 zX,iR 3 yI,iC zX,iC yI,iC zX,iQ 4 false,iR 3 t3,iA false,iC t3,iQ 5 false,iR 3 jG,iA false,iC jG,iQ 5 false,iR 4 kJ,iA false,iC kJ,iA false] [(62,.bool false)] ?_;cases h;exact ⟨rfl,(sI 2 [1,3,62])⟩
 refine ch 62 h ?_ ?_
 ·intro xG h;refine s2 [] [1,3] [(2,Ii 1)] [0,1] [] 2 ?_;cases h;exact rt rx
 intro xG h;refine sk (sq (sq (bE h fun zK y8 h=>r0 [iK 2 {} (zAX F zA.1 z6 zK y8)] [(5,Ii zK)] (c0 [] 67 h [] ?_ ?_))))
 ·intro xU h;refine s2 [] [1,3] [(2,Ii zK)] [0,1] [] 2 ?_;cases h;exact rt rx
 intro xU h;refine sk (sq ?_);refine y7 (id:=0) zk ?_;refine ad 69 h ?_ ?_ ?_
 ·rcases Bool.eq_false_or_eq_true zA.1.n with kK | kK
  ·rcases bft (decide (z6.N<zA.1.least)) with aD | aD
   ·exact rm [iG 9 5,iH 14 Ht,iH 15 Ht,iR 6 kK,iR 5 aD,iC kK,iC aD,iC kK] (uI kK (ort aD))
   ·exact rm [iH 14 Hf,iH 15 Ht,iR 6 kK,iR 5 aD,iC kK,iC aD,iC kK] (uI kK (orf aD rfl))
  ·exact rm [iG 3 6,iH 14 Hg,iH 15 Hf,iR 8 kK] (j0 kK)
 ·intro vY h;refine s2 [] [1,3] [(2,Ii 2)] [0,1] [] 2 ?_;cases h;exact rt rx
 intro vY h;refine ad 86 h ?_ ?_ ?_
 ·rcases bft (z6.Kind==(9:Int)) with mD | mD
  ·rcases bft (z6.N != (2:Int)) with gg_28 | gg_28
   ·exact rm [iH 7 Ht,iH 12 Ht,iR 4 mD,iR 4 gg_28] (uI mD (uI gg_28 rfl))
   ·exact rm [iH 7 Ht,iG 9 3,iH 12 Hf,iR 4 mD,iR 4 gg_28] (uI mD (j0 gg_28))
  ·exact rm [iG 4 3,iH 7 Hf,iG 9 3,iH 12 Hf,iR 4 mD,iZ,iZ,iZ,iA false] (j0 mD)
 ·intro uT h;refine s2 [] [1,3] [(2,Ii 1)] [0,1] [] 2 ?_;cases h;exact rt rx
 intro uT h;refine sq ?_;refine x9 (mk [(100,.bool (zA.1.m&&(bif decide (z6.M<zA.1.mLeast) then ((z6.Kind != (9:Int))||(z6.N==(2:Int))) else (decide (z6.M>zA.1.mMost)&&((z6.Kind != (9:Int))||(z6.N==(2:Int)))))))] [] 0) ?_ ?_
 ·rcases Bool.eq_false_or_eq_true zA.1.m with qI | qI
  ·rcases bft (decide (z6.M<zA.1.mLeast)) with pE | pE
   ·rcases bft (z6.Kind != (9:Int)) with mE | mE
    ·refine r2 [iG 9 5,iH 14 Ht,iH 15 Ht,iG 21 3,iH 24 Ht,iH 25 Ht,iR 6 qI,iR 5 pE,iC qI,iC pE,iC qI,iQ 4 true,iR 3 mE,iA true,iC mE,iA true] [1,3] [(100,.bool true)] [0,1] [] 2 ?_;exact ⟨rfl,(sw [] [] [.a 100 (.bool (zA.1.m&&(bif decide (z6.M<zA.1.mLeast) then ((z6.Kind != (9:Int))||(z6.N==(2:Int))) else (decide (z6.M>zA.1.mMost)&&((z6.Kind != (9:Int))||(z6.N==(2:Int)))))))] [] (ac (congrArg AV.bool (uI qI (ctr pE (ort mE))):(.bool true:AV)=.bool (zA.1.m&&(bif decide (z6.M<zA.1.mLeast) then ((z6.Kind != (9:Int))||(z6.N==(2:Int))) else (decide (z6.M>zA.1.mMost)&&((z6.Kind != (9:Int))||(z6.N==(2:Int))))))) an))⟩
    ·refine r2 [iG 9 5,iH 14 Ht,iH 15 Ht,iH 24 Hf,iH 25 Ht,iR 6 qI,iR 5 pE,iC qI,iC pE,iC qI,iQ 4 true,iR 3 mE,iA true,iC mE,iA true] [1,3] [(100,.bool (z6.N==(2:Int)))] [0,1] [] 2 ?_;exact ⟨rfl,(sw [] [] [.a 100 (.bool (zA.1.m&&(bif decide (z6.M<zA.1.mLeast) then ((z6.Kind != (9:Int))||(z6.N==(2:Int))) else (decide (z6.M>zA.1.mMost)&&((z6.Kind != (9:Int))||(z6.N==(2:Int)))))))] [] (ac (congrArg AV.bool (uI qI (ctr pE (orf mE rfl))):(.bool (z6.N==(2:Int)):AV)=.bool (zA.1.m&&(bif decide (z6.M<zA.1.mLeast) then ((z6.Kind != (9:Int))||(z6.N==(2:Int))) else (decide (z6.M>zA.1.mMost)&&((z6.Kind != (9:Int))||(z6.N==(2:Int))))))) an))⟩
   ·rcases bft (decide (z6.M>zA.1.mMost)) with bI | bI
    ·rcases bft (z6.Kind != (9:Int)) with mF | mF
     ·refine r2 [iH 14 Hf,iH 15 Ht,iG 21 3,iH 24 Ht,iH 25 Ht,iR 6 qI,iR 5 pE,iC qI,iC pE,iC qI,iR 4 bI,iR 3 mF,iC bI,iC mF,iC bI] [1,3] [(100,.bool true)] [0,1] [] 2 ?_;exact ⟨rfl,(sw [] [] [.a 100 (.bool (zA.1.m&&(bif decide (z6.M<zA.1.mLeast) then ((z6.Kind != (9:Int))||(z6.N==(2:Int))) else (decide (z6.M>zA.1.mMost)&&((z6.Kind != (9:Int))||(z6.N==(2:Int)))))))] [] (ac (congrArg AV.bool (uI qI (cfr pE (uI bI (ort mF)))):(.bool true:AV)=.bool (zA.1.m&&(bif decide (z6.M<zA.1.mLeast) then ((z6.Kind != (9:Int))||(z6.N==(2:Int))) else (decide (z6.M>zA.1.mMost)&&((z6.Kind != (9:Int))||(z6.N==(2:Int))))))) an))⟩
     ·refine r2 [iH 14 Hf,iH 15 Ht,iH 24 Hf,iH 25 Ht,iR 6 qI,iR 5 pE,iC qI,iC pE,iC qI,iR 4 bI,iR 3 mF,iC bI,iC mF,iC bI] [1,3] [(100,.bool (z6.N==(2:Int)))] [0,1] [] 2 ?_;exact ⟨rfl,(sw [] [] [.a 100 (.bool (zA.1.m&&(bif decide (z6.M<zA.1.mLeast) then ((z6.Kind != (9:Int))||(z6.N==(2:Int))) else (decide (z6.M>zA.1.mMost)&&((z6.Kind != (9:Int))||(z6.N==(2:Int)))))))] [] (ac (congrArg AV.bool (uI qI (cfr pE (uI bI (orf mF rfl)))):(.bool (z6.N==(2:Int)):AV)=.bool (zA.1.m&&(bif decide (z6.M<zA.1.mLeast) then ((z6.Kind != (9:Int))||(z6.N==(2:Int))) else (decide (z6.M>zA.1.mMost)&&((z6.Kind != (9:Int))||(z6.N==(2:Int))))))) an))⟩
    ·refine r2 [iH 14 Hf,iH 15 Ht,iG 17 4,iH 24 Hg,iH 25 Hf,iR 6 qI,iR 5 pE,iC qI,iC pE,iC qI,iR 6 bI] [1,3] [(100,.bool false)] [0,1] [] 2 ?_;exact ⟨rfl,(sw [] [] [.a 100 (.bool (zA.1.m&&(bif decide (z6.M<zA.1.mLeast) then ((z6.Kind != (9:Int))||(z6.N==(2:Int))) else (decide (z6.M>zA.1.mMost)&&((z6.Kind != (9:Int))||(z6.N==(2:Int)))))))] [] (ac (congrArg AV.bool (uI qI (cfr pE (j0 bI))):(.bool false:AV)=.bool (zA.1.m&&(bif decide (z6.M<zA.1.mLeast) then ((z6.Kind != (9:Int))||(z6.N==(2:Int))) else (decide (z6.M>zA.1.mMost)&&((z6.Kind != (9:Int))||(z6.N==(2:Int))))))) an))⟩
  ·refine r2 [iG 3 6,iH 14 Hg,iH 15 Hf,iG 17 4,iH 24 Hg,iH 25 Hf,iR 8 qI,iZ,iZ,iZ,iZ,iZ,iA false] [1,3] [(100,.bool false)] [0,1] [] 2 ?_;exact ⟨rfl,(sw [] [] [.a 100 (.bool (zA.1.m&&(bif decide (z6.M<zA.1.mLeast) then ((z6.Kind != (9:Int))||(z6.N==(2:Int))) else (decide (z6.M>zA.1.mMost)&&((z6.Kind != (9:Int))||(z6.N==(2:Int)))))))] [] (ac (congrArg AV.bool (j0 qI):(.bool false:AV)=.bool (zA.1.m&&(bif decide (z6.M<zA.1.mLeast) then ((z6.Kind != (9:Int))||(z6.N==(2:Int))) else (decide (z6.M>zA.1.mMost)&&((z6.Kind != (9:Int))||(z6.N==(2:Int))))))) an))⟩
 refine ch 100 h ?_ ?_
 ·intro tQ h;refine s0 [] [(2,Ii 2)] ?_;cases h;exact rt rx
 intro tQ h;refine sk (s0 [] [(2,Ii 0)] ?_);cases h;exact rt rx
theorem zCb (F:Nat) (yE:List (List Int)) (yH:List (zS)) (zE:List (Int)) (r:y6×Int×Int) (h:BZ F yE yH zE=some r):y5 prog 73 [] [] [Ss yE,Sq 2 yW yH,Sb zE] [] (.tuple [wG r.1,Ii r.2.1,Ii r.2.2]):=by
 refine tI Try.f73 ?_;unfold BZ at h;refine sE [iH 0 { id:=0 }] [(0,Ss yE),(1,Sq 2 yW yH),(2,Sb zE),(6,Pp 0)] [(0,dA)] 1 (sq (sq (bE h fun zA zN h=>r0 [iK 2 {} (HA F yE yH zA zN)] [(21,.bool (zA != (0:Int)))] (ch 21 h ?_ ?_))))
 ·intro yN h;refine s1 [] [0,1,2] [(7,Ii 0),(8,Ii 1)] (wz [0] [] [] [0] [(6,Pp 0),(7,Ii 0),(8,Ii 1)] [(0,Vb 89 (jI zL2))] (ar 89 (ar true (ar (Ii 0) (ar (Ii 0) (ar (.str ([]:List Int):AV) (ar (Ii 0) (ar (Ii 0) (ar ([]:List AV) an)))))))) ?_);cases h;exact rt rx
 intro yN h;refine sk (s2 [iH 2 { id:=1 }] [2] [(9,Pp 1)] [] [(1,Vb 168 [Sb zE,Ii 0,Ii 0])] 2 (sq (bE h fun zK zU h=>r2 [iJ 1 { ids:=[1] } ([Pp 1]:List AV) (oO F (⟨zE,(0:Int),(0:Int)⟩:jM) zK zU)] [] [(10,Ii zK.1)] [] [(1,Vb 168 (cZ zK.2))] 2 (sq (bE h fun zP y8 h=>r2 [iH 4 { id:=2 },iJ 2 { ids:=[1] } ([Pp 1]:List AV) (oO F zK.2 zP y8)] [] [(11,Pp 2)] [] [(1,Vb 168 (cZ zP.2)),(2,Vb 89 [Ii zP.1,Ii zK.1,.str ([]:List Int),Ii 0,Ii 0,.nilsl])] 3 (sq (sq (am 44 ((zP.2.fault==(0:Int))&&(decide (zK.1<(1:Int))||decide (zK.1>(12:Int)))) ?_ ?_))))))))
 ·rcases bft (zP.2.fault==(0:Int)) with zR | zR
  ·rcases bft (decide (zK.1<(1:Int))) with zX | zX
   ·exact rm [iG 9 2,iH 11 Ht,iH 12 Ht,iR 3 zR,iR 2 zX,iC zR,iC zX,iC zR] (uI zR (ort zX))
   ·exact rm [iH 11 Hf,iH 12 Ht,iR 3 zR,iR 2 zX,iC zR,iC zX,iC zR] (uI zR (orf zX rfl))
  ·exact rm [iG 6 3,iH 11 Hg,iH 12 Hf,iR 5 zR] (j0 zR)
 refine bE h fun zC xR h=>?_;refine x9 (mk [(0,Ss yE),(1,Sq 2 yW yH),(6,Pp 0),(9,Pp 1),(11,Pp 2)] [(0,dA),(1,Vb 168 [Sb zP.2.b,Ii zP.2.used,Ii zC]),(2,Vb 89 [Ii zP.1,Ii zK.1,.str ([]:List Int),Ii 0,Ii 0,.nilsl])] 3) ?_ ?_
 ·replace h:=xR;refine ch 44 h ?_ ?_
  ·intro xG h;refine r2 [] [] [] [] [(1,Vb 168 [Sb zP.2.b,Ii zP.2.used,Ii 10])] 3 ?_;cases h;exact ⟨rfl,(sI 3 [0,1,6,9,11])⟩
  intro xG h;refine sk ?_;cases h;exact ⟨rfl,(sI 3 [0,1,6,9,11])⟩
 refine sq (bE h fun z0 wH h=>r0 [iK 2 {} (RQ zK.1 z0 wH)] [(12,.bool z0.1),(13,.bool z0.2.1),(14,.bool z0.2.2.1),(15,.bool z0.2.2.2)] (s0 [] [(16,Ii 0),(17,Ii (-1))] (sq (s0 [] [(56,.bool z0.1)] (bE h fun zV vA h=>?_)))));refine x9 (mk [(0,Ss yE),(1,Sq 2 yW yH),(6,Pp 0),(9,Pp 1),(11,Pp 2),(12,.bool z0.1),(13,.bool z0.2.1),(14,.bool z0.2.2.1),(15,.bool z0.2.2.2),(16,Ii zV.1),(17,Ii (-1))] [(0,dA),(1,Vb 168 [Sb zV.2.1,Ii zV.2.2.1,Ii zV.2.2.2]),(2,Vb 89 [Ii zP.1,Ii zK.1,.str ([]:List Int),Ii 0,Ii 0,.nilsl])] 3) ?_ ?_
 ·replace h:=vA;refine ch 56 h ?_ ?_
  rotate_left
  ·intro xU h;refine sk ?_;cases h;exact ⟨rfl,(sI 3 [0,1,6,9,11,12,13,14,15,16,17])⟩
  intro xU h;refine bE h fun zY vT h=>r2 [iJ 1 { ids:=[1] } ([Pp 1]:List AV) (oO F (⟨zP.2.b,zP.2.used,zC⟩:jM) zY vT)] [] [(16,Ii zY.1)] [] [(1,Vb 168 (cZ zY.2))] 3 ?_;cases h;exact ⟨rfl,(sI 3 [0,1,6,9,11,12,13,14,15,16,17])⟩
 refine sq (s0 [] [(59,.bool z0.2.1)] (bE h fun yZ v8 h=>?_));refine x9 (mk [(0,Ss yE),(1,Sq 2 yW yH),(6,Pp 0),(9,Pp 1),(11,Pp 2),(12,.bool z0.1),(14,.bool z0.2.2.1),(15,.bool z0.2.2.2),(16,Ii zV.1),(17,Ii (-1))] [(0,dA),(1,Vb 168 [Sb yZ.1,Ii yZ.2.1,Ii yZ.2.2.1]),(2,Vb 89 [Ii zP.1,Ii zK.1,.str ([]:List Int),Ii yZ.2.2.2,Ii 0,.nilsl])] 3) ?_ ?_
 ·replace h:=v8;refine ch 59 h ?_ ?_
  rotate_left
  ·intro vY h;refine sk ?_;cases h;exact ⟨rfl,(sI 3 [0,1,6,9,11,12,14,15,16,17])⟩
  intro vY h;refine bE h fun yV uK h=>r2 [iJ 1 { ids:=[1] } ([Pp 1]:List AV) (oO F (⟨zV.2.1,zV.2.2.1,zV.2.2.2⟩:jM) yV uK)] [] [] [] [(1,Vb 168 (cZ yV.2)),(2,Vb 89 [Ii zP.1,Ii zK.1,.str ([]:List Int),Ii yV.1,Ii 0,.nilsl])] 3 ?_;cases h;exact ⟨rfl,(sI 3 [0,1,6,9,11,12,14,15,16,17])⟩
 refine sq (s0 [] [(63,.bool z0.2.2.1)] (bE h fun xY u0 h=>?_));refine x9 (mk [(0,Ss yE),(1,Sq 2 yW yH),(6,Pp 0),(9,Pp 1),(11,Pp 2),(12,.bool z0.1),(15,.bool z0.2.2.2),(16,Ii zV.1),(17,Ii (-1))] [(0,dA),(1,Vb 168 [Sb xY.1,Ii xY.2.1,Ii xY.2.2.1]),(2,Vb 89 [Ii zP.1,Ii zK.1,.str ([]:List Int),Ii yZ.2.2.2,Ii xY.2.2.2,.nilsl])] 3) ?_ ?_
 ·replace h:=u0;refine ch 63 h ?_ ?_
  rotate_left
  ·intro uT h;refine sk ?_;cases h;exact ⟨rfl,(sI 3 [0,1,6,9,11,12,15,16,17])⟩
  intro uT h;refine bE h fun xK tB h=>r2 [iJ 1 { ids:=[1] } ([Pp 1]:List AV) (oO F (⟨yZ.1,yZ.2.1,yZ.2.2.1⟩:jM) xK tB)] [] [] [] [(1,Vb 168 (cZ xK.2)),(2,Vb 89 [Ii zP.1,Ii zK.1,.str ([]:List Int),Ii yZ.2.2.2,Ii xK.1,.nilsl])] 3 ?_;cases h;exact ⟨rfl,(sI 3 [0,1,6,9,11,12,15,16,17])⟩
 refine sq (s0 [] [(67,.bool z0.2.2.2)] (bE h fun w7 qH h=>?_));refine x9 (mk [(0,Ss yE),(1,Sq 2 yW yH),(6,Pp 0),(9,Pp 1),(11,Pp 2),(12,.bool z0.1),(16,Ii zV.1),(17,Ii w7.1)] [(0,dA),(1,Vb 168 [Sb w7.2.1,Ii w7.2.2.1,Ii w7.2.2.2]),(2,Vb 89 [Ii zP.1,Ii zK.1,.str ([]:List Int),Ii yZ.2.2.2,Ii xY.2.2.2,.nilsl])] 3) ?_ ?_
 ·replace h:=qH;refine ch 67 h ?_ ?_
  rotate_left
  ·intro tQ h;refine sk ?_;cases h;exact ⟨rfl,(sI 3 [0,1,6,9,11,12,16,17])⟩
  intro tQ h;refine bE h fun yX jR h=>r2 [iJ 1 { ids:=[1] } ([Pp 1]:List AV) (oO F (⟨xY.1,xY.2.1,xY.2.2.1⟩:jM) yX jR)] [] [(17,Ii yX.1)] [] [(1,Vb 168 (cZ yX.2))] 3 ?_;cases h;exact ⟨rfl,(sI 3 [0,1,6,9,11,12,16,17])⟩
 refine sq (bE h fun o_6 qO h=>?_);refine uG (K1:=kS prog o_6 0 (fun q0=>mk [(0,Ss yE),(1,Sq 2 yW yH),(6,Pp 0),(9,Pp 1),(11,Pp 2),(12,.bool z0.1),(16,Ii zV.1),(17,Ii w7.1)] [(0,dA),(1,Vb 168 [Sb w7.2.1,Ii w7.2.2.1,Ii w7.2.2.2]),(2,Vb 89 [Ii zP.1,Ii zK.1,.str ([]:List Int),Ii yZ.2.2.2,Ii xY.2.2.2,.nilsl])] 3) Try.f73 (fun q1=>[]) fun q1=>.tuple [wG q1.1,Ii q1.2.1,Ii q1.2.2]) ?_ ?_
 ·replace h:=qO;refine y7 (id:=0) zk ?_;refine c0 [] 70 h [] ?_ ?_
  ·intro kG h;refine s2 [] [0,1,9,11] [(7,Ii 0),(8,Ii w7.2.2.2)] [1,2] [] 3 (wz [0] [] [] [0] [(6,Pp 0),(7,Ii 0),(8,Ii w7.2.2.2)] [(0,Vb 89 (jI zL2))] (ar 89 (ar true (ar (Ii 0) (ar (Ii 0) (ar (.str ([]:List Int):AV) (ar (Ii 0) (ar (Ii 0) (ar ([]:List AV) an)))))))) ?_);cases h;exact rt ry
  intro kG h;refine sq (ad 81 h ?_ ?_ ?_)
  ·rcases Bool.eq_false_or_eq_true z0.1 with wB | wB
   ·rcases bft (decide (zV.1<(0:Int))) with wL | wL
    ·exact rm [iG 5 4,iH 9 Ht,iH 10 Ht,iR 3 wB,iR 4 wL,iC wB,iC wL,iC wB] (uI wB (ort wL))
    ·exact rm [iH 9 Hf,iH 10 Ht,iR 3 wB,iR 3 wL,iN 7 AV.str yE,iC wL,iC wB,iC wL,iC wB] (uI wB (orf wL rfl))
   ·exact rm [iG 2 3,iH 9 Hg,iH 10 Hf,iR 5 wB] (j0 wB)
  ·intro cI h;refine sk (cd 81 (z0.1&&(decide (zV.1<(0:Int))||decide (zV.1≥(lN (yE))))) ?_ ?_)
   rotate_left
   ·intro hg;exact Bool.noConfusion ((cI).symm.trans hg)
   intro _;refine s2 [] [0,1,9,11] [(7,Ii 0),(8,Ii 2)] [1,2] [] 3 (wz [0] [] [] [0] [(6,Pp 0),(7,Ii 0),(8,Ii 2)] [(0,Vb 89 (jI zL2))] (ar 89 (ar true (ar (Ii 0) (ar (Ii 0) (ar (.str ([]:List Int):AV) (ar (Ii 0) (ar (Ii 0) (ar ([]:List AV) an)))))))) ?_);cases h;exact rt ry
  intro cI h;refine x9 (mk [(0,Ss yE),(1,Sq 2 yW yH),(6,Pp 0),(9,Pp 1),(11,Pp 2),(12,.bool z0.1),(16,Ii zV.1),(17,Ii w7.1),(81,.bool (decide (w7.1<(-1:Int))||decide (w7.1≥(lN (yH)))))] [(0,dA),(1,Vb 168 [Sb w7.2.1,Ii w7.2.2.1,Ii w7.2.2.2]),(2,Vb 89 [Ii zP.1,Ii zK.1,.str ([]:List Int),Ii yZ.2.2.2,Ii xY.2.2.2,.nilsl])] 3) ?_ ?_
  ·rcases bft (decide (w7.1<(-1:Int))) with wO | wO
   ·refine r0 [iG 3 4,iH 7 Ht,iR 5 wO] [(81,.bool true)] ?_;exact ⟨rfl,(sw [0,1,2] [] [.s 0,.s 1,.s 6,.s 9,.s 11,.s 12,.s 16,.s 17,.a 81 (.bool (decide (w7.1<(-1:Int))||decide (w7.1≥(lN (yH)))))] [.s 0,.s 1,.s 2] (ac (congrArg AV.bool (ort wO):(.bool true:AV)=.bool (decide (w7.1<(-1:Int))||decide (w7.1≥(lN (yH))))) an))⟩
   ·refine r0 [iH 7 Hf,iR 3 wO,iN 5 yW yH,iR 2 wO] [(81,.bool (decide (w7.1≥(lN (yH)))))] ?_;exact ⟨rfl,(sw [0,1,2] [] [.s 0,.s 1,.s 6,.s 9,.s 11,.s 12,.s 16,.s 17,.a 81 (.bool (decide (w7.1<(-1:Int))||decide (w7.1≥(lN (yH)))))] [.s 0,.s 1,.s 2] (ac (congrArg AV.bool (orf wO rfl):(.bool (decide (w7.1≥(lN (yH)))):AV)=.bool (decide (w7.1<(-1:Int))||decide (w7.1≥(lN (yH))))) an))⟩
  refine ch 81 h ?_ ?_
  rotate_left
  ·intro g_9 h;refine sk ?_;cases h;exact ⟨rfl,(sI 3 [0,1,6,9,11,12,16,17])⟩
  intro g_9 h;refine s2 [] [0,1,9,11] [(7,Ii 0),(8,Ii 2)] [1,2] [] 3 (wz [0] [] [] [0] [(6,Pp 0),(7,Ii 0),(8,Ii 2)] [(0,Vb 89 (jI zL2))] (ar 89 (ar true (ar (Ii 0) (ar (Ii 0) (ar (.str ([]:List Int):AV) (ar (Ii 0) (ar (Ii 0) (ar ([]:List AV) an)))))))) ?_);cases h;exact rt ry
 intro e st1 hk;rcases o_6 with yC | xV
 rotate_left
 ·obtain ⟨rfl,hf⟩:=hk;cases h;exact ⟨st1,Sub.refl _ _,.inr rfl,hf⟩
 obtain ⟨rfl,hs⟩:=hk;refine ⟨_,hs,?_⟩;refine sq (s0 [] [(102,.bool z0.1)] (bE h fun cH kH h=>?_));refine x9 (mk [(0,Ss yE),(1,Sq 2 yW yH),(6,Pp 0),(9,Pp 1),(11,Pp 2),(17,Ii w7.1)] [(0,dA),(1,Vb 168 [Sb w7.2.1,Ii w7.2.2.1,Ii w7.2.2.2]),(2,Vb 89 [Ii zP.1,Ii zK.1,.str cH,Ii yZ.2.2.2,Ii xY.2.2.2,.nilsl])] 3) ?_ ?_
 ·replace h:=kH;refine ch 102 h ?_ ?_
  rotate_left
  ·intro g_10 h;refine sk ?_;cases h;exact ⟨rfl,(sI 3 [0,1,6,9,11,17])⟩
  intro g_10 h;refine bE h fun zH aB h=>r2 [iF 2 AV.str aB] [] [] [] [(2,Vb 89 [Ii zP.1,Ii zK.1,.str zH,Ii yZ.2.2.2,Ii xY.2.2.2,.nilsl])] 3 ?_;cases h;exact ⟨rfl,(sI 3 [0,1,6,9,11,17])⟩
 refine sq (bE h fun yM cJ h=>r2 [iK 3 { ids:=[3] } (YR F yE yH w7.1 yM cJ)] [0,1] [] [] [(2,Vb 89 [Ii zP.1,Ii zK.1,.str cH,Ii yZ.2.2.2,Ii xY.2.2.2,.own 3 ((yM.1).length)]),(3,Rb 9 1 (Ms yM.1))] 4 (sq (sq (bE h fun xF nJ h=>r0 [iM AV.str yM.1,iL 1 { lend:=[3] } [.agg [Ii zP.1,Ii zK.1,.str cH,Ii yZ.2.2.2,Ii xY.2.2.2,Ss yM.1]] (M4 F (⟨zP.1,zK.1,cH,yZ.2.2.2,xY.2.2.2,yM.1⟩:y6) xF nJ) ⟨rfl,rfl,rfl,rfl,rfl,rfl,rfl,rfl,trivial⟩] [(118,.bool (xF != (0:Int)))] (ch 118 h ?_ ?_)))))
 ·intro g_11 h;refine s2 [] [9,11] [(7,Ii 0),(8,Ii 10)] [1,2,3] [] 4 (wz [0] [] [] [0] [(6,Pp 0),(7,Ii 0),(8,Ii 10)] [(0,Vb 89 (jI zL2))] (ar 89 (ar true (ar (Ii 0) (ar (Ii 0) (ar (.str ([]:List Int):AV) (ar (Ii 0) (ar (Ii 0) (ar ([]:List AV) an)))))))) ?_);cases h;exact rt rx
 intro g_11 h;refine sk (s2 [] [9,11] [(7,Ii w7.2.2.1),(8,Ii 0)] [1,2] [(0,Vb 89 [Ii zP.1,Ii zK.1,.str cH,Ii yZ.2.2.2,Ii xY.2.2.2,.own 3 ((yM.1).length)])] 4 (wz [0] [3] [] [0] [(6,Pp 0),(7,Ii w7.2.2.1),(8,Ii 0)] [(0,Vb 89 (jI (⟨zP.1,zK.1,cH,yZ.2.2.2,xY.2.2.2,yM.1⟩:y6)))] (ar 89 (ar true (ac (by first | (simp;done) | (simp;omega):(yM.1).length=((List.map AV.str yM.1)).length) (ar (Ii zP.1) (ar (Ii zK.1) (ar (.str cH:AV) (ar (Ii yZ.2.2.2) (ar (Ii xY.2.2.2) (ar 1 (ar (Ms yM.1) (ar true an))))))))))) ?_));cases h;exact rt rx
theorem YC (F:Nat) (zO:List (y6)) (r:Int) (h:DS F zO=some r):y5 prog 51 [] [] [Sq 6 wG zO] [] (Ii r):=by
 refine tI Try.f51 ?_;unfold DS at h;refine sE [] [(0,Sq 6 wG zO)] [] 0 (sq (s0 [iN 1 wG zO] [(6,Sq 6 wG zO),(7,Ii (lN (zO))),(8,Ii 0)] (bE h fun zC zN h=>?_)));refine uG (K1:=kS prog zC 0 (fun q0=>mk [] [] 0) Try.f51 (fun q1=>[]) fun q1=>Ii q1) ?_ ?_
 ·replace h:=zN;refine y7 (id:=0) zk ?_;refine w0 [] [] [(0,Sq 6 wG zO),(6,Sq 6 wG zO),(7,Ii (lN (zO))),(8,Ii 0)] [] ?_;refine wX (fun n st=>∃ (zG:Int),st=mk [(0,Sq 6 wG zO),(6,Sq 6 wG zO),(7,Ii (lN (zO))),(8,Ii zG)] [] 0∧mT F zO n zG=some zC) F zk ⟨_,rfl,h⟩ ?_ ?_
  ·rintro _ ⟨_,_,h⟩;exact wV (h:(none:Option (Unit⊕Int))=some zC)
  rintro yF _ ⟨zG,rfl,h⟩;replace h:BW F zO (mT F zO yF) zG=some zC:=h;unfold BW at h;refine s0 [] [(9,.bool (decide (zG<(lN (zO)))))] (sq (ch 9 h ?_ ?_))
  rotate_left
  ·intro yN h;refine wQ (id:=0) zk ?_;cases h;exact ⟨rfl,(sI 0 [])⟩
  intro yN h;refine sk (sq ?_);refine y7 (id:=1) zk ?_;refine sq (bE h fun zH zU h=>r2 [iH 3 { id:=0 },iF 1 wG zU] [] [(3,Ii zG),(4,Pp 0)] [] [(0,Vb 89 (jI zH))] 1 (sq (sq (bE h fun zA y8 h=>r0 [iK 1 {} (M4 F zH zA y8)] [(5,Ii zA)] (c0 [] 16 h [] ?_ ?_)))))
  ·intro xG h;refine s2 [] [0,6,4] [(2,Ii zA)] [0] [] 1 ?_;cases h;exact rt ry
  intro xG h;refine sk (sq (bE h fun zL wH h=>?_));refine x9 (mk [(0,Sq 6 wG zO),(6,Sq 6 wG zO),(7,Ii (lN (zO))),(8,Ii zG),(30,.bool zL)] [] 0) ?_ ?_
  ·replace h:=wH;rcases bft (decide (zG>(0:Int))) with yK | yK
   ·replace h:=xP yK h;refine bE h fun yB xR h=>r1 [iH 12 Ht,iR 6 yK,iF 8 wG xR,iR 4 yK] [4] [(21,Pp 0),(22,Ii zH.At),(23,Sq 6 wG zO),(24,Ii zG),(25,Ii (zI (zG - (1:Int)))),(26,.ref (wG yB)),(27,.ref (Ii yB.At)),(28,Ii yB.At),(29,.bool (decide (zH.At<yB.At))),(30,.bool (decide (zH.At<yB.At)))] ?_;cases h;exact ⟨rfl,(sI 0 [0,6,7,8,30])⟩
   ·replace h:=xQ yK h;refine r2 [iG 3 9,iH 12 Hf,iR 10 yK] [4] [(21,.tuple []),(22,.tuple []),(23,.tuple []),(24,.tuple []),(25,.tuple []),(26,.tuple []),(27,.tuple []),(28,.tuple []),(29,.tuple []),(30,.bool false)] [0] [] 1 ?_;cases h;exact ⟨rfl,(sI 0 [0,6,7,8,30])⟩
  refine ch 30 h ?_ ?_
  rotate_left
  ·intro xU h;refine sk (r0 [] [(8,Ii (zI (zG+(1:Int))))] ?_);exact ⟨_,(sI 0 [0,6,7,8]),_,rfl,h⟩
  intro xU h;refine s1 [] [0,6] [(2,Ii 11)] ?_;cases h;exact rt ry
 intro e st1 hk;rcases zC with yC | xV
 rotate_left
 ·obtain ⟨rfl,hf⟩:=hk;cases h;exact ⟨st1,Sub.refl _ _,.inr rfl,hf⟩
 obtain ⟨rfl,hs⟩:=hk;refine ⟨_,hs,?_⟩;refine s0 [] [(2,Ii 0)] ?_;cases h;exact rt rx
theorem J0 (F:Nat) (zL:zQ) (r:Int) (h:fB F zL=some r):y5 prog 27 [] [] [zZ zL] [] (Ii r):=by
 refine tI Try.f27 ?_;unfold fB at h;refine sE [iH 0 { id:=0 }] [(1,Pp 0)] [(0,Vb 54 (wJ zL))] 1 (sq (s2 [iH 6 { id:=1 }] [] [(11,.own 1 3),(12,Ii ((3:Nat):Int)),(13,Ii 0)] [] [(1,Rb 3 1 (Mi ([zL.Thread,zL.Serial,zL.Lost]:List Int)))] 2 (bE h fun zC zN h=>?_)));refine uG (K1:=kS prog zC 0 (fun q0=>mk [(1,Pp 0)] [(0,Vb 54 (wJ zL))] 1) Try.f27 (fun q1=>[]) fun q1=>Ii q1) ?_ ?_
 ·replace h:=zN;refine y7 (id:=0) zk ?_;refine wz [0,1] [] [11] [] [(1,Pp 0),(11,.own 1 ((([zL.Thread,zL.Serial,zL.Lost]:List Int)).length)),(12,Ii ((3:Nat):Int)),(13,Ii 0)] [(0,Vb 54 (wJ zL)),(1,Rb 3 1 (Mi ([zL.Thread,zL.Serial,zL.Lost]:List Int)))] (ac (congrArg (AV.own _) (by first | (simp;done) | (simp;omega)):(.own 1 3:AV)=.own 1 ((([zL.Thread,zL.Serial,zL.Lost]:List Int)).length)) an) ?_;refine wX (fun n st=>∃ (zG:Int),st=mk [(1,Pp 0),(11,.own 1 ((([zL.Thread,zL.Serial,zL.Lost]:List Int)).length)),(12,Ii ((3:Nat):Int)),(13,Ii zG)] [(0,Vb 54 (wJ zL)),(1,Rb 3 1 (Mi ([zL.Thread,zL.Serial,zL.Lost]:List Int)))] 2∧D5 F zL n zG=some zC) F zk ⟨_,rfl,h⟩ ?_ ?_
  ·rintro _ ⟨_,_,h⟩;exact wV (h:(none:Option (Unit⊕Int))=some zC)
  rintro yF _ ⟨zG,rfl,h⟩;replace h:cU F zL (D5 F zL yF) zG=some zC:=h;unfold cU at h;refine s0 [] [(14,.bool (decide (zG<((3:Nat):Int))))] (sq (ch 14 h ?_ ?_))
  rotate_left
  ·intro yN h;refine wQ (id:=0) zk ?_;cases h;exact ⟨rfl,(sI 1 [1])⟩
  intro yN h;refine sk (sq ?_);refine y7 (id:=1) zk ?_;refine sq (bE h fun zH zU h=>r0 [iH 1 { av:=Ii zH },iC (kZ zU:(0:Int)≤zG),iC (by first | (simp;done) | simpa using kY zU:zG<(((([zL.Thread,zL.Serial,zL.Lost]:List Int)).length:Nat):Int)),iC (kP zU:(Mi ([zL.Thread,zL.Serial,zL.Lost]:List Int))[(zG).toNat]?=some (Ii zH))] [(4,Ii zH)] (ad 22 h ?_ ?_ ?_))
  ·rcases bft (decide (zH<(0:Int))) with yK | yK
   ·exact rm [iG 3 2,iH 5 Ht,iR 3 yK] (ort yK)
   ·exact rm [iH 5 Hf,iR 3 yK] (orf yK rfl)
  rotate_left
  ·intro xG h;refine sk (r0 [] [(13,Ii (zI (zG+(1:Int))))] ?_);exact ⟨_,(sI 2 [1,11,12,13]),_,rfl,h⟩
  intro xG h;refine s2 [] [1,11] [(2,Ii 2)] [0,1] [] 2 ?_;cases h;exact rt ry
 intro e st1 hk;rcases zC with yC | xV
 rotate_left
 ·obtain ⟨rfl,hf⟩:=hk;cases h;exact ⟨st1,Sub.refl _ _,.inr rfl,hf⟩
 obtain ⟨rfl,hs⟩:=hk;refine ⟨_,hs,?_⟩;refine sq ?_;refine y7 (id:=2) zk ?_;refine sq (s0 [] [(24,.bool (decide (zL.Lost>zL.Serial)))] (bE h fun zV y8 h=>?_));refine x9 (mk [(1,Pp 0),(24,.bool zV)] [(0,Vb 54 (wJ zL))] 1) ?_ ?_
 ·replace h:=y8;refine ch 24 h ?_ ?_
  ·intro xU h;refine sk ?_;cases h;exact ⟨rfl,(sI 1 [1,24])⟩
  intro xU h;refine r0 [iN 4 wG zL.Events] [(24,.bool (decide ((zI (zL.Serial+(lN (zL.Events))))>(1000000000000000:Int))))] ?_;cases h;exact ⟨rfl,(sI 1 [1,24])⟩
 refine ch 24 h ?_ ?_
 ·intro vY h;refine s2 [] [1] [(2,Ii 2)] [0] [] 1 ?_;cases h;exact rt rx
 intro vY h;refine c0 [iN 2 wG zL.Events] 37 h [] ?_ ?_
 ·intro uT h;refine s2 [] [1] [(2,Ii 8)] [0] [] 1 ?_;cases h;exact rt rx
 intro uT h;refine c0 [iN 2 wG zL.Events] 42 h [] ?_ ?_
 ·intro tQ h;refine s2 [] [1] [(2,Ii 7)] [0] [] 1 ?_;cases h;exact rt rx
 intro tQ h;refine sk (sq (bE h fun zA xR h=>r2 [iK 2 {} (YC F zL.Events zA xR)] [1] [(2,Ii zA)] [0] [] 1 ?_));cases h;exact rt rx
theorem VT (F:Nat) (zF:List (List Int)) (zW:List Int) (r:Int) (h:CH F zF zW=some r):y5 prog 92 [] [] [Ss zF,.str zW] [] (Ii r):=by
 refine tI Try.f92 ?_;unfold CH at h;refine sE [] [(0,Ss zF),(1,.str zW)] [] 0 (sq (s0 [iN 1 AV.str zF] [(7,Ii (lN (zF))),(8,Ii 0)] (bE h fun zC zN h=>?_)));refine uG (K1:=kS prog zC 0 (fun q0=>mk [] [] 0) Try.f92 (fun q1=>[]) fun q1=>Ii q1) ?_ ?_
 ·replace h:=zN;refine y7 (id:=0) zk ?_;refine w0 [] [] [(0,Ss zF),(1,.str zW),(7,Ii (lN (zF))),(8,Ii 0)] [] ?_;refine wX (fun n st=>∃ (zG:Int),st=mk [(0,Ss zF),(1,.str zW),(7,Ii (lN (zF))),(8,Ii zG)] [] 0∧A4 F zF zW n zG=some zC) F zk ⟨_,rfl,h⟩ ?_ ?_
  ·rintro _ ⟨_,_,h⟩;exact wV (h:(none:Option (Unit⊕Int))=some zC)
  rintro yF _ ⟨zG,rfl,h⟩;replace h:lY F zF zW (A4 F zF zW yF) zG=some zC:=h;unfold lY at h;refine s0 [] [(9,.bool (decide (zG<(lN (zF)))))] (sq (ch 9 h ?_ ?_))
  rotate_left
  ·intro yN h;refine wQ (id:=0) zk ?_;cases h;exact ⟨rfl,(sI 0 [])⟩
  intro yN h;refine sk (sq ?_);refine y7 (id:=1) zk ?_;refine s0 [] [(5,Ii zG)] (sq (bE h fun zH zU h=>r0 [iF 3 AV.str zU] [(16,.bool (zW==zH))] (ch 16 h ?_ ?_)))
  rotate_left
  ·intro xG h;refine sk (r0 [] [(8,Ii (zI (zG+(1:Int))))] ?_);exact ⟨_,(sI 0 [0,1,7,8]),_,rfl,h⟩
  intro xG h;refine s1 [] [0] [(4,Ii zG)] ?_;cases h;exact rt ry
 intro e st1 hk;rcases zC with yC | xV
 rotate_left
 ·obtain ⟨rfl,hf⟩:=hk;cases h;exact ⟨st1,Sub.refl _ _,.inr rfl,hf⟩
 obtain ⟨rfl,hs⟩:=hk;refine ⟨_,hs,?_⟩;refine s0 [] [(4,Ii (-1))] ?_;cases h;exact rt rx
theorem zBe (zF:List (List Int)) (r:(List (List Int))) (h:JF zF=some r):y5 prog 93 [] [] [Ss zF] [.row 9 1 (Ms r)] (.own 0 ((r).length)):=by
 refine tI Try.f93 ?_;unfold JF at h;refine sE [iH 0 { id:=0,m:=1 }] [(0,Ss zF)] [] 1 (sq (s0 [] [(4,.nb (Ms zF))] ?_));refine CP (t:=4) (l:=(Ms zF)) zk zk ?_ ?_
 ·intro zU;replace zU:=List.map_eq_nil_iff.1 zU;replace h:=Eq.trans (show (some [])=((need (((([]:List (List Int))).length+(zF).length) * 16≤140737488355328)).bind fun _ =>
 some ([]++zF)) from by simp [zU,need]) h
  refine sE [iH 0 { id:=1,m:=1 }] [(2,.own 1 0)] [(1,Rb 9 1 [])] 2 (wz [1] [] [2] [] [(2,.own 0 ((([]:List (List Int))).length))] [(0,Rb 9 1 [])] (ac (congrArg (AV.own _) (by first | (simp;done) | (simp;omega)):(.own 1 0:AV)=.own 1 ((([]:List (List Int))).length)) an) ?_);cases h;exact rt rx
 refine sk (sq (nE h fun zN h=>rE [iH 0 { id:=1 },iH 2 { id:=2,l:=(Ms ([]++zF)),n:=(([]++zF)).length },iA 0,iC trivial,iC (by simp:(List.map AV.str ([]++zF))=[]++(List.map AV.str zF)),iC (by simp:(([]++zF)).length=((List.map AV.str ([]++zF))).length),iC (by first | (simp;done) | simpa using zN:(([]:List AV).length+((List.map AV.str zF):List AV).length) * 16≤140737488355328)] [(2,.own 2 ((([]++zF)).length))] [(2,Rb 9 1 (Ms ([]++zF)))] 3 (w0 [2] [] [(2,.own 0 ((([]++zF)).length))] [(0,Rb 9 1 (Ms ([]++zF)))] ?_)));cases h;exact rt rx
theorem T9 (F:Nat) (yE:List (List Int)) (zF:List Int) (r:Int×(List (List Int))×Int) (h:oE F yE zF=some r):y5 prog 80 [] [] [Ss yE,.str zF] [] (.tuple [Ii r.1,Ss r.2.1,Ii r.2.2]):=by
 refine tI Try.f80 ?_;unfold oE at h;refine sE [] [(0,Ss yE),(1,.str zF)] [] 0 (sq (sq (bE h fun zA zN h=>r0 [iK 1 {} (BV F zF zA zN)] [(7,Ii zA)] (c0 [] 12 h [] ?_ ?_))))
 ·intro yN h;refine s1 [] [0] [(4,Ii 0),(5,Ss yE),(6,Ii zA)] ?_;cases h;exact rt rx
 intro yN h;refine sk (sq (sq (bE h fun zK zU h=>r0 [iK 2 {} (VT F yE zF zK zU)] [(8,Ii zK)] (c0 [] 19 h [] ?_ ?_))))
 ·intro xG h;refine s1 [] [0] [(4,Ii zK),(5,Ss yE),(6,Ii 0)] ?_;cases h;exact rt rx
 intro xG h;refine sk (sq (c0 [iN 1 AV.str yE] 24 h [] ?_ ?_))
 ·intro xU h;refine s1 [] [0] [(4,Ii 0),(5,Ss yE),(6,Ii 6)] ?_;cases h;exact rt rx
 intro xU h;refine sk (sq (bE h fun zP y8 h=>nE h fun xR h=>r2 [iH 5 { id:=1 },iN 1 AV.str yE,iK 3 { ids:=[0] } (zBe yE zP y8),iM AV.str zP,iA 1,iP 6 2 AV.str zP ([zF]:List (List Int)) 16 xR] [0] [(4,Ii (lN (yE))),(5,.own 2 (((zP++([zF]:List (List Int)))).length)),(6,Ii 0)] [] [(2,Rb 9 1 (Ms (zP++([zF]:List (List Int)))))] 3 (wz [] [2] [5] [] [(4,Ii (lN (yE))),(5,Ss (zP++([zF]:List (List Int)))),(6,Ii 0)] [] (ac (by first | (simp;done) | (simp;omega):((zP++([zF]:List (List Int)))).length=((List.map AV.str (zP++([zF]:List (List Int))))).length) (ar 1 (ar ((Ms (zP++([zF]:List (List Int)))):List AV) (ar true an)))) ?_)));cases h;exact rt rx
theorem zBr (zF:List (zS)) (r:(List (zS))) (h:HV zF=some r):y5 prog 95 [] [] [Sq 2 yW zF] [.row 121 2 (Mp yW r)] (.own 0 ((r).length)):=by
 refine tI Try.f95 ?_;unfold HV at h;refine sE [iH 0 { id:=0,m:=1 }] [(0,Sq 2 yW zF)] [] 1 (sq (s0 [] [(4,.nb (Mp yW zF))] ?_));refine CP (t:=4) (l:=(Mp yW zF)) zk zk ?_ ?_
 ·intro zU;replace zU:=List.map_eq_nil_iff.1 zU;replace h:=Eq.trans (show (some [])=((need (((([]:List zS)).length+(zF).length) * 16≤140737488355328)).bind fun _ =>
 some ([]++zF)) from by simp [zU,need]) h
  refine sE [iH 0 { id:=1,m:=1 }] [(2,.own 1 0)] [(1,Rb 121 2 [])] 2 (wz [1] [] [2] [] [(2,.own 0 ((([]:List zS)).length))] [(0,Rb 121 2 [])] (ac (congrArg (AV.own _) (by first | (simp;done) | (simp;omega)):(.own 1 0:AV)=.own 1 ((([]:List zS)).length)) an) ?_);cases h;exact rt rx
 refine sk (sq (nE h fun zN h=>rE [iH 0 { id:=1 },iH 2 { id:=2,l:=(Mp yW ([]++zF)),n:=(([]++zF)).length },iA 0,iC trivial,iC (by simp:(List.map yW ([]++zF))=[]++(List.map yW zF)),iC (by simp:(([]++zF)).length=((List.map yW ([]++zF))).length),iC (by first | (simp;done) | simpa using zN:(([]:List AV).length+((List.map yW zF):List AV).length) * 16≤140737488355328)] [(2,.own 2 ((([]++zF)).length))] [(2,Rb 121 2 (Mp yW ([]++zF)))] 3 (w0 [2] [] [(2,.own 0 ((([]++zF)).length))] [(0,Rb 121 2 (Mp yW ([]++zF)))] ?_)));cases h;exact rt rx
theorem zAA (F:Nat) (zF:List (zS)) (zW:zS) (r:Int) (h:BC F zF zW=some r):y5 prog 96 [] [] [Sq 2 yW zF,.agg [Ii zW.c0,Ii zW.c1]] [] (Ii r):=by
 refine tI Try.f96 ?_;unfold BC at h;refine sE [iH 0 { id:=0 }] [(0,Sq 2 yW zF),(3,Pp 0)] [(0,Vb 121 [Ii zW.c0,Ii zW.c1])] 1 (sq (s0 [iN 1 yW zF] [(7,Ii (lN (zF))),(8,Ii 0)] (bE h fun zC zN h=>?_)));refine uG (K1:=kS prog zC 0 (fun q0=>mk [] [] 0) Try.f96 (fun q1=>[]) fun q1=>Ii q1) ?_ ?_
 ·replace h:=zN;refine y7 (id:=0) zk ?_;refine w0 [0] [] [(0,Sq 2 yW zF),(3,Pp 0),(7,Ii (lN (zF))),(8,Ii 0)] [(0,Vb 121 [Ii zW.c0,Ii zW.c1])] ?_;refine wX (fun n st=>∃ (zG:Int),st=mk [(0,Sq 2 yW zF),(3,Pp 0),(7,Ii (lN (zF))),(8,Ii zG)] [(0,Vb 121 [Ii zW.c0,Ii zW.c1])] 1∧CM F zF zW n zG=some zC) F zk ⟨_,rfl,h⟩ ?_ ?_
  ·rintro _ ⟨_,_,h⟩;exact wV (h:(none:Option (Unit⊕Int))=some zC)
  rintro yF _ ⟨zG,rfl,h⟩;replace h:lK F zF zW (CM F zF zW yF) zG=some zC:=h;unfold lK at h;refine s0 [] [(9,.bool (decide (zG<(lN (zF)))))] (sq (ch 9 h ?_ ?_))
  rotate_left
  ·intro yN h;refine wQ (id:=0) zk ?_;cases h;exact ⟨rfl,(sI 0 [])⟩
  intro yN h;refine sk (sq ?_);refine y7 (id:=1) zk ?_;refine s0 [] [(5,Ii zG)] (sq (bE h fun zH zU h=>r0 [iH 5 { b:=(decide (zW=zH)),mks:=[.int .i64,.int .i64] },iF 3 yW zU,iC (VZ:pF prog 121 [.int .i64,.int .i64]),iC (CW (f:=yW) MX zW zH:((decide (zW=zH))=true↔AV.agg [Ii zW.c0,Ii zW.c1]=AV.agg [Ii zH.c0,Ii zH.c1]))] [(16,.bool (decide (zW=zH)))] (ch 16 h ?_ ?_)))
  rotate_left
  ·intro xG h;refine sk (r0 [] [(8,Ii (zI (zG+(1:Int))))] ?_);exact ⟨_,(sI 1 [0,3,7,8]),_,rfl,h⟩
  intro xG h;refine s2 [] [0,3] [(4,Ii zG)] [0] [] 1 ?_;cases h;exact rt ry
 intro e st1 hk;rcases zC with yC | xV
 rotate_left
 ·obtain ⟨rfl,hf⟩:=hk;cases h;exact ⟨st1,Sub.refl _ _,.inr rfl,hf⟩
 obtain ⟨rfl,hs⟩:=hk;refine ⟨_,hs,?_⟩;refine s0 [] [(4,Ii (-1))] ?_;cases h;exact rt rx
theorem ZQ (F:Nat) (yE:List (List Int)) (yH:List (zS)) (zO:List (List Int)) (r:Int×(List (List Int))×(List (zS))×Int) (h:r7 F yE yH zO=some r):y5 prog 81 [] [] [Ss yE,Sq 2 yW yH,Ss zO] [] (.tuple [Ii r.1,Ss r.2.1,Sq 2 yW r.2.2.1,Ii r.2.2.2]):=by
 refine tI Try.f81 ?_;unfold r7 at h;refine sE [] [(0,Ss yE),(1,Sq 2 yW yH),(2,Ss zO)] [] 0 (sq (sq (bE h fun zA zN h=>r0 [iK 1 {} (QE F zO zA zN)] [(10,Ii zA)] (c0 [] 23 h [] ?_ ?_))))
 ·intro yN h;refine s1 [] [0,1,2] [(6,Ii 0),(7,Ss yE),(8,Sq 2 yW yH),(9,Ii zA)] ?_;cases h;exact rt rx
 intro yN h;refine sk (sq (bE h fun zK zU h=>r2 [iK 2 { ids:=[0] } (zBr yH zK zU)] [] [(11,Ii (-1)),(12,Ss yE),(13,.own 0 ((zK).length))] [] [(0,Rb 121 2 (Mp yW zK))] 1 (sq (s1 [iN 1 AV.str zO] [2] [(30,Ss zO),(31,Ii (lN (zO))),(32,Ii 0)] (bE h fun zC y8 h=>?_)))));refine uG (K1:=kS prog zC 0 (fun q0=>mk [(11,Ii q0.1),(12,Ss q0.2.1),(13,.own 0 ((q0.2.2).length))] [(0,Rb 121 2 (Mp yW q0.2.2))] 1) Try.f81 (fun q1=>[]) fun q1=>.tuple [Ii q1.1,Ss q1.2.1,Sq 2 yW q1.2.2.1,Ii q1.2.2.2]) ?_ ?_
 ·replace h:=y8;refine y7 (id:=0) zk ?_;refine w0 [0] [] [(0,Ss yE),(1,Sq 2 yW yH),(11,Ii (-1)),(12,Ss yE),(13,.own 0 ((zK).length)),(30,Ss zO),(31,Ii (lN (zO))),(32,Ii 0)] [(0,Rb 121 2 (Mp yW zK))] ?_;refine wX (fun n st=>∃ (wS:Int),∃ (yF:List (List Int)),∃ (zG:Int),∃ (zJ:List zS),st=mk [(0,Ss yE),(1,Sq 2 yW yH),(11,Ii wS),(12,Ss yF),(13,.own 0 ((zJ).length)),(30,Ss zO),(31,Ii (lN (zO))),(32,Ii zG)] [(0,Rb 121 2 (Mp yW zJ))] 1∧rJ F yE yH zO n wS yF zG zJ=some zC) F zk ⟨_,_,_,_,rfl,h⟩ ?_ ?_
  ·rintro _ ⟨_,_,_,_,_,h⟩;exact wV (h:(none:Option ((Int×(List (List Int))×(List zS))⊕(Int×(List (List Int))×(List (zS))×Int)))=some zC)
  rintro qZ _ ⟨wS,yF,zG,zJ,rfl,h⟩;replace h:BR F yE yH zO (rJ F yE yH zO qZ) wS yF zG zJ=some zC:=h;unfold BR at h;refine s0 [] [(33,.bool (decide (zG<(lN (zO)))))] (sq (ch 33 h ?_ ?_))
  rotate_left
  ·intro xG h;refine wQ (id:=0) zk ?_;cases h;exact ⟨rfl,(sI 1 [11,12,13])⟩
  intro xG h;refine sk (sq ?_);refine y7 (id:=1) zk ?_;refine sq (bE h fun zH xR h=>r0 [iF 0 AV.str xR] [(15,.str zH)] (sq (bE h fun zP wH h=>r1 [iK 2 {} (T9 F yF zH zP wH)] [12] [(16,Ii zP.1),(17,Ss zP.2.1),(18,Ii zP.2.2)] (sq (c0 [] 44 h [] ?_ ?_)))))
  ·intro xU h;refine s2 [] [0,1,13,30,17] [(6,Ii 0),(7,Ss yE),(8,Sq 2 yW yH),(9,Ii zP.2.2)] [0] [] 1 ?_;cases h;exact rt ry
  intro xU h;refine sk (s1 [] [17] [(12,Ss zP.2.1)] (s2 [iH 3 { id:=1 }] [] [(19,Pp 1)] [] [(1,Vb 121 [Ii wS,Ii zP.1])] 2 (sq (sq (bE h fun z0 vA h=>r0 [iM yW zJ,iL 2 { lend:=[0] } [Sq 2 yW zJ,.agg [Ii wS,Ii zP.1]] (zAA F zJ (⟨wS,zP.1⟩:zS) z0 vA) ⟨rfl,rfl,rfl,rfl,rfl,trivial⟩] [(11,Ii z0)] (c0 [] 56 h [] ?_ ?_))))))
  ·intro vY h;refine wQ (id:=1) zk ?_;refine rE [] [(0,Ss yE),(1,Sq 2 yW yH),(11,Ii z0),(12,Ss zP.2.1),(13,.own 0 ((zJ).length)),(30,Ss zO),(31,Ii (lN (zO))),(32,Ii (zI (zG+(1:Int))))] [(0,Rb 121 2 (Mp yW zJ))] 2 ?_;exact ⟨_,(sI 1 [0,1,11,12,13,30,31,32]),_,_,_,_,rfl,h⟩
  intro vY h;refine sk (sq (c0 [] 59 h [] ?_ ?_))
  ·intro uT h;refine s2 [] [0,1,13,30,12,19] [(6,Ii 0),(7,Ss yE),(8,Sq 2 yW yH),(9,Ii 6)] [0,1] [] 2 ?_;cases h;exact rt ry
  intro uT h;refine sk (s0 [] [(11,Ii (lN (zJ)))] (nE h fun vT h=>r2 [iH 2 { id:=2 },iM yW zJ,iC (by first | (simp;done) | (simp;omega):1=((List.map yW ([(⟨wS,zP.1⟩:zS)]:List zS))).length),iP 3 3 yW zJ ([(⟨wS,zP.1⟩:zS)]:List zS) 16 vT] [19] [(13,.own 3 (((zJ++([(⟨wS,zP.1⟩:zS)]:List zS))).length))] [0,1] [(3,Rb 121 2 (Mp yW (zJ++([(⟨wS,zP.1⟩:zS)]:List zS))))] 4 (r0 [] [(32,Ii (zI (zG+(1:Int))))] ?_)));exact ⟨_,(sJ [3] [0,1,11,12,13,30,31,32]),_,_,_,_,rfl,h⟩
 intro e st1 hk;rcases zC with yC | xV
 rotate_left
 ·obtain ⟨rfl,hf⟩:=hk;cases h;exact ⟨st1,Sub.refl _ _,.inr rfl,hf⟩
 obtain ⟨rfl,hs⟩:=hk;refine ⟨_,hs,?_⟩;refine s1 [] [12,13] [(6,Ii yC.1),(7,Ss yC.2.1),(8,.own 0 ((yC.2.2).length)),(9,Ii 0)] (wz [] [0] [8] [] [(6,Ii yC.1),(7,Ss yC.2.1),(8,Sq 2 yW yC.2.2),(9,Ii 0)] [] (ac (by first | (simp;done) | (simp;omega):(yC.2.2).length=((List.map yW yC.2.2)).length) (ar 2 (ar ((Mp yW yC.2.2):List AV) (ar true an)))) ?_);cases h;exact rt rx
end Go.Ab
