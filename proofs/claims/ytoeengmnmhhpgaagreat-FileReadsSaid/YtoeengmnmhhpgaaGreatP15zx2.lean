/- Printed: the typed Lean functions of the Go functions, or the proofs that the Go functions meet them. No conditions but those that the theorems name. -/
import Derived.Test.YtoeengmnmhhpgaaGreatP15zx1
namespace Go.Ab
open Go
set_option linter.unusedVariables false
theorem zDU (F:Nat) (zE:List (Int)) (r:yF×Bool) (h:HI F zE=some r):yR prog 70 [] [] [Sb zE] [] (.tuple [u7 r.1,.bool r.2]):=by
 refine tI Go.Proofs.Tryz.f70 ?_;unfold HI at h;refine sE [iH 0 { id:=0 }] [(0,Sb zE),(2,Pp 0)] [(0,p8)] 1 ?_;refine tT (qV 0 0 1 85 3 zk) ?_;refine tT (qV 0 1 2 87 2 zk) ?_;refine tT (qV 0 2 3 76 5 zk) ?_;refine w0 [0,1,2,3] [] [(0,Sb zE),(2,Pp 0)] [(0,qW),(1,Rb 85 3 []),(2,Rb 87 2 []),(3,Rb 76 5 [])] (s2 [iH 2 { id:=4 }] [] [(4,Pp 4)] [] [(4,Vb 157 [Sb zE,.bool false])] 5 (s2 [iH 0 { id:=5 }] [] [(5,Pp 5)] [] [(5,p8)] 6 ?_));refine tT (qV 5 0 6 85 3 zk) ?_;refine tT (qV 5 1 7 87 2 zk) ?_;refine tT (qV 5 2 8 76 5 zk) ?_;refine w0 [0,1,2,3,4,5,6,7,8] [] [(0,Sb zE),(2,Pp 0),(4,Pp 4),(5,Pp 5)] [(0,qW),(1,Rb 85 3 []),(2,Rb 87 2 []),(3,Rb 76 5 []),(4,Vb 157 [Sb zE,.bool false]),(5,Vb 28 [.own 6 0,.own 7 0,.own 8 0]),(6,Rb 85 3 []),(7,Rb 87 2 []),(8,Rb 76 5 [])] (sq (sq (bE h fun zA zL h=>r2 [iJ 1 { ids:=[4] } ([Pp 4,Ii 64]:List AV) (OA F (⟨zE,false⟩:v4) (64:Int) zA zL)] [] [(13,Ii zA.1),(14,Ii 0)] [] [(4,Vb 157 (tY zA.2))] 9 (bE h fun zD zX h=>?_))));refine xR (mk [(0,Sb zE),(2,Pp 0),(4,Pp 4),(5,Pp 5)] [(0,qW),(1,Rb 85 3 []),(2,Rb 87 2 []),(3,Rb 76 5 []),(4,Vb 157 [Sb zD.1,.bool zD.2.1]),(5,Vb 28 [.own 6 ((zD.2.2).length),.own 7 0,.own 8 0]),(6,Rb 85 3 (Mp yD zD.2.2)),(7,Rb 87 2 []),(8,Rb 76 5 [])] 9) ?_ ?_
 ·replace h:=zX;refine yN (id:=0) zk ?_;refine w0 [0,1,2,3,4,5,6,7,8] [] [(0,Sb zE),(2,Pp 0),(4,Pp 4),(5,Pp 5),(13,Ii zA.1),(14,Ii 0)] [(0,qW),(1,Rb 85 3 []),(2,Rb 87 2 []),(3,Rb 76 5 []),(4,Vb 157 (tY zA.2)),(5,Vb 28 [.own 6 0,.own 7 0,.own 8 0]),(6,Rb 85 3 []),(7,Rb 87 2 []),(8,Rb 76 5 [])] ?_;refine wC (fun n st=>∃ (zM:Int),∃ (zB:List Int),∃ (y5:Bool),∃ (zF:List y7),st=mk [(0,Sb zE),(2,Pp 0),(4,Pp 4),(5,Pp 5),(13,Ii zA.1),(14,Ii zM)] [(0,qW),(1,Rb 85 3 []),(2,Rb 87 2 []),(3,Rb 76 5 []),(4,Vb 157 [Sb zB,.bool y5]),(5,Vb 28 [.own 6 ((zF).length),.own 7 0,.own 8 0]),(6,Rb 85 3 (Mp yD zF)),(7,Rb 87 2 []),(8,Rb 76 5 [])] 9∧rF F zA n zM zB y5 zF=some zD) F zk ⟨_,_,_,_,rfl,h⟩ ?_ ?_
  ·rintro _ ⟨_,_,_,_,_,h⟩;exact wB (h:(none:Option ((List Int)×Bool×(List y7)))=some zD)
  rintro z7 _ ⟨zM,zB,y5,zF,rfl,h⟩;replace h:iI F zA (rF F zA z7) zM zB y5 zF=some zD:=h;unfold iI at h;refine s0 [] [(15,.bool (decide (zM<zA.1)))] (sq (ch 15 h ?_ ?_))
  rotate_left
  ·intro yC h;refine x8 (id:=0) zk ?_;cases h;exact ⟨rfl,(sw [0,1,2,3,4,5,6,7,8] [] [.s 0,.s 2,.s 4,.s 5] [.s 0,.s 1,.s 2,.s 3,.s 4,.s 5,.s 6,.s 7,.s 8] an)⟩
  intro yC h;refine sk (sq ?_);refine yN (id:=1) zk ?_;refine sq (bE h fun zC yQ h=>bE h fun zJ y9 h=>r2 [iJ 1 { ids:=[4] } ([Pp 4]:List AV) (bV F (⟨zB,y5⟩:v4) zC yQ),iJ 3 { ids:=[4] } ([Pp 4]:List AV) (zEH F zC.2 zJ y9)] [] [(6,Ii zC.1),(7,.str zJ.1)] [] [(4,Vb 157 (tY zJ.2))] 9 (bE h fun zS xS h=>nE h fun wA h=>r2 [iH 7 { id:=9 },iH 8 { id:=10,l:=(Mp yD (zF++([(⟨zC.1,zJ.1,zS.1⟩:y7)]:List y7))),n:=((zF++([(⟨zC.1,zJ.1,zS.1⟩:y7)]:List y7))).length },iJ 5 { ids:=[4] } ([Pp 4]:List AV) (bV F zJ.2 zS xS),iM yD zF,iC (by first | (simp;done) | (simp;omega):1=((List.map yD ([(⟨zC.1,zJ.1,zS.1⟩:y7)]:List y7))).length),iC (uE _ _:(Mp yD (zF++([(⟨zC.1,zJ.1,zS.1⟩:y7)]:List y7)))=(Mp yD zF)++(Mp yD ([(⟨zC.1,zJ.1,zS.1⟩:y7)]:List y7))),iC (by simp:((zF++([(⟨zC.1,zJ.1,zS.1⟩:y7)]:List y7))).length=((List.map yD (zF++([(⟨zC.1,zJ.1,zS.1⟩:y7)]:List y7)))).length),iC (by first | (simp;done) | simpa using wA:(((List.map yD zF):List AV).length+((List.map yD ([(⟨zC.1,zJ.1,zS.1⟩:y7)]:List y7)):List AV).length) * 32≤140737488355328)] [] [] [6] [(4,Vb 157 (tY zS.2)),(5,Vb 28 [.own 10 (((zF++([(⟨zC.1,zJ.1,zS.1⟩:y7)]:List y7))).length),.own 7 0,.own 8 0]),(10,Rb 85 3 (Mp yD (zF++([(⟨zC.1,zJ.1,zS.1⟩:y7)]:List y7))))] 11 (r0 [] [(14,Ii (zG (zM+(1:Int))))] ?_)));exact ⟨_,(sw [0,1,2,3,4,5,10,7,8] [] [.s 0,.s 2,.s 4,.s 5,.s 13,.s 14] [.s 0,.s 1,.s 2,.s 3,.s 4,.s 5,.s 6,.s 7,.s 8] an),_,_,_,_,rfl,h⟩
 refine sq (sq (bE h fun zV wP h=>r2 [iJ 1 { ids:=[4] } ([Pp 4,Ii 8]:List AV) (OA F (⟨zD.1,zD.2.1⟩:v4) (8:Int) zV wP)] [] [(32,Ii zV.1),(33,Ii 0)] [] [(4,Vb 157 (tY zV.2))] 9 (bE h fun zR vA h=>?_)));refine xR (mk [(0,Sb zE),(2,Pp 0),(4,Pp 4),(5,Pp 5)] [(0,qW),(1,Rb 85 3 []),(2,Rb 87 2 []),(3,Rb 76 5 []),(4,Vb 157 [Sb zR.1,.bool zR.2.1]),(5,Vb 28 [.own 6 ((zD.2.2).length),.own 7 ((zR.2.2).length),.own 8 0]),(6,Rb 85 3 (Mp yD zD.2.2)),(7,Rb 87 2 (Mp z5 zR.2.2)),(8,Rb 76 5 [])] 9) ?_ ?_
 ·replace h:=vA;refine yN (id:=2) zk ?_;refine w0 [0,1,2,3,4,5,6,7,8] [] [(0,Sb zE),(2,Pp 0),(4,Pp 4),(5,Pp 5),(32,Ii zV.1),(33,Ii 0)] [(0,qW),(1,Rb 85 3 []),(2,Rb 87 2 []),(3,Rb 76 5 []),(4,Vb 157 (tY zV.2)),(5,Vb 28 [.own 6 ((zD.2.2).length),.own 7 0,.own 8 0]),(6,Rb 85 3 (Mp yD zD.2.2)),(7,Rb 87 2 []),(8,Rb 76 5 [])] ?_;refine wC (fun n st=>∃ (wK:Int),∃ (y6:List Int),∃ (yX:Bool),∃ (zY:List yS),st=mk [(0,Sb zE),(2,Pp 0),(4,Pp 4),(5,Pp 5),(32,Ii zV.1),(33,Ii wK)] [(0,qW),(1,Rb 85 3 []),(2,Rb 87 2 []),(3,Rb 76 5 []),(4,Vb 157 [Sb y6,.bool yX]),(5,Vb 28 [.own 6 ((zD.2.2).length),.own 7 ((zY).length),.own 8 0]),(6,Rb 85 3 (Mp yD zD.2.2)),(7,Rb 87 2 (Mp z5 zY)),(8,Rb 76 5 [])] 9∧BS F zV n wK y6 yX zY=some zR) F zk ⟨_,_,_,_,rfl,h⟩ ?_ ?_
  ·rintro _ ⟨_,_,_,_,_,h⟩;exact wB (h:(none:Option ((List Int)×Bool×(List yS)))=some zR)
  rintro uI _ ⟨wK,y6,yX,zY,rfl,h⟩;replace h:mA F zV (BS F zV uI) wK y6 yX zY=some zR:=h;unfold mA at h;refine s0 [] [(34,.bool (decide (wK<zV.1)))] (sq (ch 34 h ?_ ?_))
  rotate_left
  ·intro yY h;refine x8 (id:=2) zk ?_;cases h;exact ⟨rfl,(sw [0,1,2,3,4,5,6,7,8] [] [.s 0,.s 2,.s 4,.s 5] [.s 0,.s 1,.s 2,.s 3,.s 4,.s 5,.s 6,.s 7,.s 8] an)⟩
  intro yY h;refine sk (sq ?_);refine yN (id:=3) zk ?_;refine sq (bE h fun yA vN h=>r2 [iJ 1 { ids:=[4] } ([Pp 4]:List AV) (bV F (⟨y6,yX⟩:v4) yA vN)] [] [(8,Ii yA.1)] [] [(4,Vb 157 (tY yA.2))] 9 (bE h fun yV uG h=>nE h fun uJ h=>r2 [iH 6 { id:=9 },iH 7 { id:=10,l:=(Mp z5 (zY++([(⟨yA.1,yV.1⟩:yS)]:List yS))),n:=((zY++([(⟨yA.1,yV.1⟩:yS)]:List yS))).length },iJ 4 { ids:=[4] } ([Pp 4]:List AV) (bV F yA.2 yV uG),iM z5 zY,iC (by first | (simp;done) | (simp;omega):1=((List.map z5 ([(⟨yA.1,yV.1⟩:yS)]:List yS))).length),iC (uE _ _:(Mp z5 (zY++([(⟨yA.1,yV.1⟩:yS)]:List yS)))=(Mp z5 zY)++(Mp z5 ([(⟨yA.1,yV.1⟩:yS)]:List yS))),iC (by simp:((zY++([(⟨yA.1,yV.1⟩:yS)]:List yS))).length=((List.map z5 (zY++([(⟨yA.1,yV.1⟩:yS)]:List yS)))).length),iC (by first | (simp;done) | simpa using uJ:(((List.map z5 zY):List AV).length+((List.map z5 ([(⟨yA.1,yV.1⟩:yS)]:List yS)):List AV).length) * 16≤140737488355328)] [] [] [7] [(4,Vb 157 (tY yV.2)),(5,Vb 28 [.own 6 ((zD.2.2).length),.own 10 (((zY++([(⟨yA.1,yV.1⟩:yS)]:List yS))).length),.own 8 0]),(10,Rb 87 2 (Mp z5 (zY++([(⟨yA.1,yV.1⟩:yS)]:List yS))))] 11 (r0 [] [(33,Ii (zG (wK+(1:Int))))] ?_)));exact ⟨_,(sw [0,1,2,3,4,5,6,10,8] [] [.s 0,.s 2,.s 4,.s 5,.s 32,.s 33] [.s 0,.s 1,.s 2,.s 3,.s 4,.s 5,.s 6,.s 7,.s 8] an),_,_,_,_,rfl,h⟩
 refine sq (sq (bE h fun yI tB h=>r2 [iJ 1 { ids:=[4] } ([Pp 4,Ii 200]:List AV) (OA F (⟨zR.1,zR.2.1⟩:v4) (200:Int) yI tB)] [] [(48,Ii yI.1),(49,Ii 0)] [] [(4,Vb 157 (tY yI.2))] 9 (bE h fun yL tP h=>?_)));refine xR (mk [(0,Sb zE),(2,Pp 0),(4,Pp 4),(5,Pp 5)] [(0,qW),(1,Rb 85 3 []),(2,Rb 87 2 []),(3,Rb 76 5 []),(4,Vb 157 [Sb yL.1,.bool yL.2.1]),(5,Vb 28 [.own 6 ((zD.2.2).length),.own 7 ((zR.2.2).length),.own 8 ((yL.2.2).length)]),(6,Rb 85 3 (Mp yD zD.2.2)),(7,Rb 87 2 (Mp z5 zR.2.2)),(8,Rb 76 5 (Mp z6 yL.2.2))] 9) ?_ ?_
 ·replace h:=tP;refine yN (id:=4) zk ?_;refine w0 [0,1,2,3,4,5,6,7,8] [] [(0,Sb zE),(2,Pp 0),(4,Pp 4),(5,Pp 5),(48,Ii yI.1),(49,Ii 0)] [(0,qW),(1,Rb 85 3 []),(2,Rb 87 2 []),(3,Rb 76 5 []),(4,Vb 157 (tY yI.2)),(5,Vb 28 [.own 6 ((zD.2.2).length),.own 7 ((zR.2.2).length),.own 8 0]),(6,Rb 85 3 (Mp yD zD.2.2)),(7,Rb 87 2 (Mp z5 zR.2.2)),(8,Rb 76 5 [])] ?_;refine wC (fun n st=>∃ (vI:Int),∃ (xB:List Int),∃ (xE:Bool),∃ (yG:List yU),st=mk [(0,Sb zE),(2,Pp 0),(4,Pp 4),(5,Pp 5),(48,Ii yI.1),(49,Ii vI)] [(0,qW),(1,Rb 85 3 []),(2,Rb 87 2 []),(3,Rb 76 5 []),(4,Vb 157 [Sb xB,.bool xE]),(5,Vb 28 [.own 6 ((zD.2.2).length),.own 7 ((zR.2.2).length),.own 8 ((yG).length)]),(6,Rb 85 3 (Mp yD zD.2.2)),(7,Rb 87 2 (Mp z5 zR.2.2)),(8,Rb 76 5 (Mp z6 yG))] 9∧B3 F yI n vI xB xE yG=some yL) F zk ⟨_,_,_,_,rfl,h⟩ ?_ ?_
  ·rintro _ ⟨_,_,_,_,_,h⟩;exact wB (h:(none:Option ((List Int)×Bool×(List yU)))=some yL)
  rintro qC _ ⟨vI,xB,xE,yG,rfl,h⟩;replace h:lI F yI (B3 F yI qC) vI xB xE yG=some yL:=h;unfold lI at h;refine s0 [] [(50,.bool (decide (vI<yI.1)))] (sq (ch 50 h ?_ ?_))
  rotate_left
  ·intro xF h;refine x8 (id:=4) zk ?_;cases h;exact ⟨rfl,(sw [0,1,2,3,4,5,6,7,8] [] [.s 0,.s 2,.s 4,.s 5] [.s 0,.s 1,.s 2,.s 3,.s 4,.s 5,.s 6,.s 7,.s 8] an)⟩
  intro xF h;refine sk (sq ?_);refine yN (id:=5) zk ?_;refine bE h fun yO uY h=>nE h fun qS h=>r2 [iH 4 { id:=9 },iH 5 { id:=10,l:=(Mp z6 (yG++([yO.1]:List yU))),n:=((yG++([yO.1]:List yU))).length },iJ 3 { ids:=[4] } ([Pp 4]:List AV) (XC F (⟨xB,xE⟩:v4) yO uY),iM z6 yG,iA 1,iC (uE _ _:(Mp z6 (yG++([yO.1]:List yU)))=(Mp z6 yG)++(Mp z6 ([yO.1]:List yU))),iC (by simp:((yG++([yO.1]:List yU))).length=((List.map z6 (yG++([yO.1]:List yU)))).length),iC (by first | (simp;done) | simpa using qS:(((List.map z6 yG):List AV).length+((List.map z6 ([yO.1]:List yU)):List AV).length) * 40≤140737488355328)] [] [] [8] [(4,Vb 157 (tY yO.2)),(5,Vb 28 [.own 6 ((zD.2.2).length),.own 7 ((zR.2.2).length),.own 10 (((yG++([yO.1]:List yU))).length)]),(10,Rb 76 5 (Mp z6 (yG++([yO.1]:List yU))))] 11 (r0 [] [(49,Ii (zG (vI+(1:Int))))] ?_);exact ⟨_,(sw [0,1,2,3,4,5,6,7,10] [] [.s 0,.s 2,.s 4,.s 5,.s 48,.s 49] [.s 0,.s 1,.s 2,.s 3,.s 4,.s 5,.s 6,.s 7,.s 8] an),_,_,_,_,rfl,h⟩
 refine sq (wz [0,1,2,3,4,5,7,8] [6] [] [5] [(0,Sb zE),(2,Pp 0),(4,Pp 4),(5,Pp 5)] [(0,qW),(1,Rb 85 3 []),(2,Rb 87 2 []),(3,Rb 76 5 []),(4,Vb 157 [Sb yL.1,.bool yL.2.1]),(5,Vb 28 [Sq 3 yD zD.2.2,.own 6 ((zR.2.2).length),.own 7 ((yL.2.2).length)]),(6,Rb 87 2 (Mp z5 zR.2.2)),(7,Rb 76 5 (Mp z6 yL.2.2))] (ar 28 (ar true (ac (by first | (simp;done) | (simp;omega):(zD.2.2).length=((List.map yD zD.2.2)).length) (ar 3 (ar ((Mp yD zD.2.2):List AV) (ar true (ar (.own 7 ((zR.2.2).length):AV) (ar (.own 8 ((yL.2.2).length):AV) an)))))))) (wz [0,1,2,3,4,5,7] [6] [] [5] [(0,Sb zE),(2,Pp 0),(4,Pp 4),(5,Pp 5)] [(0,qW),(1,Rb 85 3 []),(2,Rb 87 2 []),(3,Rb 76 5 []),(4,Vb 157 [Sb yL.1,.bool yL.2.1]),(5,Vb 28 [Sq 3 yD zD.2.2,Sq 2 z5 zR.2.2,.own 6 ((yL.2.2).length)]),(6,Rb 76 5 (Mp z6 yL.2.2))] (ar 28 (ar true (ac (by first | (simp;done) | (simp;omega):(zR.2.2).length=((List.map z5 zR.2.2)).length) (ar 3 (ar ((Mp yD zD.2.2):List AV) (ar true (ar 2 (ar ((Mp z5 zR.2.2):List AV) (ar true (ar (.own 7 ((yL.2.2).length):AV) an)))))))))) (wz [0,1,2,3,4,5] [6] [] [5] [(0,Sb zE),(2,Pp 0),(4,Pp 4),(5,Pp 5)] [(0,qW),(1,Rb 85 3 []),(2,Rb 87 2 []),(3,Rb 76 5 []),(4,Vb 157 [Sb yL.1,.bool yL.2.1]),(5,Vb 28 [Sq 3 yD zD.2.2,Sq 2 z5 zR.2.2,Sq 5 z6 yL.2.2])] (ar 28 (ar true (ac (by first | (simp;done) | (simp;omega):(yL.2.2).length=((List.map z6 yL.2.2)).length) (ar 3 (ar ((Mp yD zD.2.2):List AV) (ar true (ar 2 (ar ((Mp z5 zR.2.2):List AV) (ar true (ar 5 (ar ((Mp z6 yL.2.2):List AV) (ar true an)))))))))))) (bE h fun zK kB h=>?_))));refine xR (mk [(2,Pp 0),(3,.bool zK)] [(0,Vb 28 [Sq 3 yD zD.2.2,Sq 2 z5 zR.2.2,Sq 5 z6 yL.2.2])] 1) ?_ ?_
 ·replace h:=kB;rcases bft (!yL.2.1) with yK | yK
  ·replace h:=xK yK h;refine bE h fun xL qT h=>bE h fun wN kC h=>r2 [iH 11 Ht,iR 2 yK,iL 8 {} [.agg [Sq 3 yD zD.2.2,Sq 2 z5 zR.2.2,Sq 5 z6 yL.2.2]] (T7 F (⟨zD.2.2,zR.2.2,yL.2.2⟩:yF) xL qT) ⟨rfl,rfl,rfl,rfl,rfl,rfl,rfl,rfl,rfl,trivial⟩,iR 2 yK,iK 10 {} (OU xL zE wN kC),iC yK] [0,4,5] [(3,.bool wN)] [1,2,3,4,5] [(0,Vb 28 [Sq 3 yD zD.2.2,Sq 2 z5 zR.2.2,Sq 5 z6 yL.2.2])] 6 ?_;cases h;exact ⟨rfl,(sw [0] [] [.s 2,.s 3] [.s 0] an)⟩
  ·replace h:=xJ yK h;refine r2 [iG 7 4,iH 11 Hf,iR 5 yK] [0,4,5] [(3,.bool false)] [1,2,3,4,5] [(0,Vb 28 [Sq 3 yD zD.2.2,Sq 2 z5 zR.2.2,Sq 5 z6 yL.2.2])] 6 ?_;cases h;exact ⟨rfl,(sw [0] [] [.s 2,.s 3] [.s 0] an)⟩
 cases h;exact rt rx
theorem zAK (zI:List (z8)) (r:(List (z8))) (h:LS zI=some r):yR prog 111 [(.row 56 4 (Mp z9 zI))] [] [.own 0 ((zI).length)] [(.row 56 4 (Mp z9 zI)),.row 56 4 (Mp z9 r)] (.own 1 ((r).length)):=by
 refine tI Go.Proofs.Tryz.f111 ?_;unfold LS at h;refine sE [iH 0 { id:=1,m:=1 }] [(0,.own 0 ((zI).length))] [(0,Rb 56 4 (Mp z9 zI))] 2 (sq (s0 [iH 1 { x:=true }] [(4,.nb (Mp z9 zI))] ?_));refine GR (t:=4) (l:=(Mp z9 zI)) zk zk ?_ ?_
 ·intro zX;replace zX:=List.map_eq_nil_iff.1 zX;replace h:=Eq.trans (show (some [])=((need (((([]:List z8)).length+(zI).length) * 48≤140737488355328)).bind fun _ =>
 some ([]++zI)) from by simp [zX,need]) h
  refine sE [iH 0 { id:=2,m:=1 }] [(2,.own 2 0)] [(0,Rb 56 4 (Mp z9 zI)),(2,Rb 56 4 [])] 3 (wz [0,2] [] [2] [] [(2,.own 1 ((([]:List z8)).length))] [(0,Rb 56 4 (Mp z9 zI)),(1,Rb 56 4 [])] (ac (congrArg (AV.own _) (by first | (simp;done) | (simp;omega)):(.own 2 0:AV)=.own 2 ((([]:List z8)).length)) an) ?_);cases h;exact rt rx
 refine sk (sq (nE h fun zL h=>rE [iH 0 { id:=2 },iH 2 { id:=3,l:=(Mp z9 ([]++zI)),n:=(([]++zI)).length },iA 0,iM z9 zI,iC (by simp:(List.map z9 ([]++zI))=[]++(List.map z9 zI)),iC (by simp:(([]++zI)).length=((List.map z9 ([]++zI))).length),iC (by first | (simp;done) | simpa using zL:(([]:List AV).length+((List.map z9 zI):List AV).length) * 48≤140737488355328)] [(2,.own 3 ((([]++zI)).length))] [(0,Rb 56 4 (Mp z9 zI)),(3,Rb 56 4 (Mp z9 ([]++zI)))] 4 (w0 [0,3] [] [(2,.own 1 ((([]++zI)).length))] [(0,Rb 56 4 (Mp z9 zI)),(1,Rb 56 4 (Mp z9 ([]++zI)))] ?_)));cases h;exact rt rx
theorem XZ (zI:List (yU)) (r:(List (yU))) (h:DZ zI=some r):yR prog 45 [] [] [Sq 5 z6 zI] [.row 76 5 (Mp z6 r)] (.own 0 ((r).length)):=by
 refine tI Go.Proofs.Tryz.f45 ?_;unfold DZ at h;refine sE [iH 0 { id:=0,m:=1 }] [(0,Sq 5 z6 zI)] [] 1 (sq (s0 [] [(4,.nb (Mp z6 zI))] ?_));refine GR (t:=4) (l:=(Mp z6 zI)) zk zk ?_ ?_
 ·intro zX;replace zX:=List.map_eq_nil_iff.1 zX;replace h:=Eq.trans (show (some [])=((need (((([]:List yU)).length+(zI).length) * 40≤140737488355328)).bind fun _ =>
 some ([]++zI)) from by simp [zX,need]) h
  refine sE [iH 0 { id:=1,m:=1 }] [(2,.own 1 0)] [(1,Rb 76 5 [])] 2 (wz [1] [] [2] [] [(2,.own 0 ((([]:List yU)).length))] [(0,Rb 76 5 [])] (ac (congrArg (AV.own _) (by first | (simp;done) | (simp;omega)):(.own 1 0:AV)=.own 1 ((([]:List yU)).length)) an) ?_);cases h;exact rt rx
 refine sk (sq (nE h fun zL h=>rE [iH 0 { id:=1 },iH 2 { id:=2,l:=(Mp z6 ([]++zI)),n:=(([]++zI)).length },iA 0,iC trivial,iC (by simp:(List.map z6 ([]++zI))=[]++(List.map z6 zI)),iC (by simp:(([]++zI)).length=((List.map z6 ([]++zI))).length),iC (by first | (simp;done) | simpa using zL:(([]:List AV).length+((List.map z6 zI):List AV).length) * 40≤140737488355328)] [(2,.own 2 ((([]++zI)).length))] [(2,Rb 76 5 (Mp z6 ([]++zI)))] 3 (w0 [2] [] [(2,.own 0 ((([]++zI)).length))] [(0,Rb 76 5 (Mp z6 ([]++zI)))] ?_)));cases h;exact rt rx
theorem TK (zB:y8) (r:y8) (h:AH zB=some r):yR prog 71 [(.row 56 4 (Mp z9 zB.packets))] [] [.agg [Sq 3 yD zB.head.Threads,Sq 2 z5 zB.head.Domains,Sq 5 z6 zB.head.Snaps,.own 0 ((zB.packets).length),.fm (zB.ends).isNone (List.map (mpE (AV.int .i64) xM) ((zB.ends).getD [])),Ii zB.events]] [(.row 56 4 (Mp z9 zB.packets)),.row 76 5 (Mp z6 r.head.Snaps),.row 56 4 (Mp z9 r.packets)] (.agg [Sq 3 yD r.head.Threads,Sq 2 z5 r.head.Domains,.own 1 ((r.head.Snaps).length),.own 2 ((r.packets).length),.fm (r.ends).isNone (List.map (mpE (AV.int .i64) xM) ((r.ends).getD [])),Ii r.events]):=by
 refine tI Go.Proofs.Tryz.f71 ?_;unfold AH at h;refine sE [iH 0 { id:=1 },iH 1 { id:=2 }] [(1,Pp 1),(2,Pp 2)] [(0,Rb 56 4 (Mp z9 zB.packets)),(1,Vb 62 [Sq 3 yD zB.head.Threads,Sq 2 z5 zB.head.Domains,Sq 5 z6 zB.head.Snaps,.own 0 ((zB.packets).length),.fm (zB.ends).isNone (List.map (mpE (AV.int .i64) xM) ((zB.ends).getD [])),Ii zB.events]),(2,Vb 62 [.nilsl,.nilsl,.nilsl,.nilsl,.fm true [],Ii 0])] 3 (sq (bE h fun zA zL h=>r2 [iK 2 { ids:=[0,3] } (zAK zB.packets zA zL)] [] [] [] [(1,Vb 62 [Sq 3 yD zB.head.Threads,Sq 2 z5 zB.head.Domains,Sq 5 z6 zB.head.Snaps,.own 3 ((zA).length),.fm (zB.ends).isNone (List.map (mpE (AV.int .i64) xM) ((zB.ends).getD [])),Ii zB.events]),(3,Rb 56 4 (Mp z9 zA))] 4 (sq (bE h fun zC zX h=>r2 [iK 3 { ids:=[4] } (XZ zB.head.Snaps zC zX)] [] [] [] [(1,Vb 62 [Sq 3 yD zB.head.Threads,Sq 2 z5 zB.head.Domains,.own 4 ((zC).length),.own 3 ((zA).length),.fm (zB.ends).isNone (List.map (mpE (AV.int .i64) xM) ((zB.ends).getD [])),Ii zB.events]),(4,Rb 76 5 (Mp z6 zC))] 5 (s0 [iK 2 {} (zAD VP (zB.ends).isNone (List.map (mpE (AV.int .i64) xM) ((zB.ends).getD [])))] [] (s2 [] [1] [] [1] [(2,Vb 62 [Sq 3 yD zB.head.Threads,Sq 2 z5 zB.head.Domains,.own 4 ((zC).length),.own 3 ((zA).length),.fm (zB.ends).isNone (List.map (mpE (AV.int .i64) xM) ((zB.ends).getD [])),Ii zB.events])] 5 (wz [0,4,3,2] [] [] [1,2,3] [(2,Pp 3)] [(0,Rb 56 4 (Mp z9 zB.packets)),(1,Rb 76 5 (Mp z6 (((⟨(⟨zB.head.Threads,zB.head.Domains,zC⟩:yF),zA,zB.ends,zB.events⟩:y8).head).Snaps))),(2,Rb 56 4 (Mp z9 ((⟨(⟨zB.head.Threads,zB.head.Domains,zC⟩:yF),zA,zB.ends,zB.events⟩:y8).packets))),(3,Vb 62 [Sq 3 yD (((⟨(⟨zB.head.Threads,zB.head.Domains,zC⟩:yF),zA,zB.ends,zB.events⟩:y8).head).Threads),Sq 2 z5 (((⟨(⟨zB.head.Threads,zB.head.Domains,zC⟩:yF),zA,zB.ends,zB.events⟩:y8).head).Domains),.own 1 ((((⟨(⟨zB.head.Threads,zB.head.Domains,zC⟩:yF),zA,zB.ends,zB.events⟩:y8).head).Snaps).length),.own 2 (((⟨(⟨zB.head.Threads,zB.head.Domains,zC⟩:yF),zA,zB.ends,zB.events⟩:y8).packets).length),.fm ((⟨(⟨zB.head.Threads,zB.head.Domains,zC⟩:yF),zA,zB.ends,zB.events⟩:y8).ends).isNone (List.map (mpE (AV.int .i64) xM) (((⟨(⟨zB.head.Threads,zB.head.Domains,zC⟩:yF),zA,zB.ends,zB.events⟩:y8).ends).getD [])),Ii ((⟨(⟨zB.head.Threads,zB.head.Domains,zC⟩:yF),zA,zB.ends,zB.events⟩:y8).events)])] (ar 76 (ar 5 (ar (Mp z6 zC) (ar 56 (ar 4 (ar (Mp z9 zA) (ar 62 (ar true (ar 3 (ar (Mp yD zB.head.Threads) (ar true (ar 2 (ar (Mp z5 zB.head.Domains) (ar true (ac (congrArg (AV.own _) (by first | (simp;done) | (simp;omega)):(.own 4 ((zC).length):AV)=.own 4 ((((⟨(⟨zB.head.Threads,zB.head.Domains,zC⟩:yF),zA,zB.ends,zB.events⟩:y8).head).Snaps).length)) (ac (congrArg (AV.own _) (by first | (simp;done) | (simp;omega)):(.own 3 ((zA).length):AV)=.own 3 (((⟨(⟨zB.head.Threads,zB.head.Domains,zC⟩:yF),zA,zB.ends,zB.events⟩:y8).packets).length)) (ac (rfl:(zB.ends).isNone=((⟨(⟨zB.head.Threads,zB.head.Domains,zC⟩:yF),zA,zB.ends,zB.events⟩:y8).ends).isNone) (ar (List.map (mpE (AV.int .i64) xM) ((zB.ends).getD [])) (ar (Ii zB.events) an))))))))))))))))))) ?_)))))));cases h;exact rt rx
theorem zET (F:Nat) (zE:List (Int)) (r:yU×Bool) (h:HG F zE=some r):yR prog 72 [] [] [Sb zE] [] (.tuple [z6 r.1,.bool r.2]):=by
 refine tI Go.Proofs.Tryz.f72 ?_;unfold HG at h;refine sE [iH 0 { id:=0 }] [(0,Sb zE),(2,Pp 0)] [(0,Vb 76 [Ii 0,Ii 0,Ii 0,Ii 0,Ii 0])] 1 (s2 [iH 2 { id:=1 }] [] [(4,Pp 1)] [] [(1,Vb 157 [Sb zE,.bool false])] 2 (sq (bE h fun zA zL h=>r2 [iH 2 { id:=2 },iJ 1 { ids:=[1] } ([Pp 1]:List AV) (XC F (⟨zE,false⟩:v4) zA zL)] [] [(5,Pp 2)] [] [(1,Vb 157 (tY zA.2)),(2,Vb 76 (kY zA.1))] 3 (sq (bE h fun zK y9 h=>?_)))));refine xR (mk [(2,Pp 0),(3,.bool zK)] [(0,Vb 76 (kY zA.1))] 1) ?_ ?_
 ·replace h:=y9;rcases bft (!zA.2.bad) with zT | zT
  ·replace h:=xK zT h;refine bE h fun zC zX h=>bE h fun zJ yQ h=>r2 [iH 11 Ht,iR 2 zT,iL 8 {} [.nilsl,z6 zA.1] (QI F [] zA.1 zC zX) ⟨rfl,rfl,rfl,rfl,rfl,rfl,trivial⟩,iR 2 zT,iK 10 {} (OU zC zE zJ yQ),iC zT] [0,4,5] [(3,.bool zJ)] [1,2] [(0,Vb 76 (kY zA.1))] 3 ?_;cases h;exact ⟨rfl,(sw [0] [] [.s 2,.s 3] [.s 0] an)⟩
  ·replace h:=xJ zT h;refine r2 [iG 7 4,iH 11 Hf,iR 5 zT] [0,4,5] [(3,.bool false)] [1,2] [(0,Vb 76 (kY zA.1))] 3 ?_;cases h;exact ⟨rfl,(sw [0] [] [.s 2,.s 3] [.s 0] an)⟩
 cases h;exact rt rx
theorem rT (F:Nat) (zH:qA) (r:Int×qA) (h:aG F zH=some r):yR prog 112 [(.var 162 (q9 zH))] [] [Pp 0] [(.var 162 (q9 r.2))] (Ii r.1):=by
 refine tI Go.Proofs.Tryz.f112 ?_;unfold aG at h;refine sE [] [(0,Pp 0)] [(0,Vb 162 (q9 zH))] 1 (sq (c0 [] 10 h [] ?_ ?_))
 ·intro yC h;refine s1 [] [0] [(2,Ii 0)] ?_;cases h;exact rt rx
 intro yC h;refine sk (sq (nE h fun zL h=>bE h fun zA zX h=>r0 [iT 8 Fb zH.b zH.used zL.1 zL.2,iK 9 {} (o6 F (sub zH.b zH.used (lN (zH.b))) zA zX)] [(3,Ii zA.1),(4,Ii zA.2.1),(5,Ii zA.2.2)] (s2 [] [0] [] [] [(0,Vb 162 [Sb zH.b,Ii (zG (zH.used+zA.2.1)),Ii zA.2.2])] 1 (s0 [] [(2,Ii zA.1)] ?_))));cases h;exact rt rx
theorem OD (F:Nat) (zH:qA) (tA:Int) (r:Int×qA) (h:b8 F zH tA=some r):yR prog 113 [(.var 162 (q9 zH))] [] [Pp 0,Ii tA] [(.var 162 (q9 r.2))] (Ii r.1):=by
 refine tI Go.Proofs.Tryz.f113 ?_;unfold b8 at h;refine sE [] [(0,Pp 0),(1,Ii tA)] [(0,Vb 162 (q9 zH))] 1 (sq (bE h fun zA zL h=>r2 [iK 1 { ids:=[0] } (rT F zH zA zL)] [] [(5,Ii zA.1)] [] [(0,Vb 162 (q9 zA.2))] 1 (sq ?_)));refine yN (id:=0) zk ?_;refine c0 [] 8 h [] ?_ ?_
 ·intro yC h;refine s1 [] [0] [(4,Ii 0)] ?_;cases h;exact rt rx
 intro yC h;refine c0 [] 14 h [] ?_ ?_
 ·intro yY h;refine s2 [] [0] [] [] [(0,Vb 162 [Sb zA.2.b,Ii zA.2.used,Ii 10])] 1 (s0 [] [(4,Ii 0)] ?_);cases h;exact rt rx
 intro yY h;refine c0 [] 20 h [] ?_ ?_
 rotate_left
 ·intro xF h;refine sk (s1 [] [0] [(4,Ii zA.1)] ?_);cases h;exact rt rx
 intro xF h;refine s2 [] [0] [] [] [(0,Vb 162 [Sb zA.2.b,Ii zA.2.used,Ii 7])] 1 (s0 [] [(4,Ii 0)] ?_);cases h;exact rt rx
theorem zEA (F:Nat) (zH:qA) (r:(List Int)×qA) (h:EX F zH=some r):yR prog 114 [(.var 162 (q9 zH))] [] [Pp 0] [(.var 162 (q9 r.2))] (.str r.1):=by
 refine tI Go.Proofs.Tryz.f114 ?_;unfold EX at h;refine sE [] [(0,Pp 0)] [(0,Vb 162 (q9 zH))] 1 (sq (c0 [] 10 h [] ?_ ?_))
 ·intro yC h;refine s1 [] [0] [(2,.str ([]:List Int))] ?_;cases h;exact rt rx
 intro yC h;refine sk (sq (nE h fun zL h=>bE h fun zA zX h=>r0 [iT 8 Fb zH.b zH.used zL.1 zL.2,iK 9 {} (VL F (sub zH.b zH.used (lN (zH.b))) (40:Int) zA zX)] [(3,.str zA.1),(4,Ii zA.2.1),(5,Ii zA.2.2)] (s2 [] [0] [] [] [(0,Vb 162 [Sb zH.b,Ii (zG (zH.used+zA.2.1)),Ii zA.2.2])] 1 (s0 [] [(2,.str zA.1)] ?_))));cases h;exact rt rx
theorem zCw (F:Nat) (zW:List (List Int)) (r:Int) (h:E3 F zW=some r):yR prog 143 [] [] [Ss zW] [] (Ii r):=by
 refine tI Go.Proofs.Tryz.f143 ?_;unfold E3 at h;refine sE [] [(0,Ss zW)] [] 0 (s2 [iH 0 { id:=0,mag:=false,mks:=[.str] }] [] [(3,.mp 0)] [] [(0,.live (.map false [.str] []))] 1 (sq (s1 [iN 1 AV.str zW] [0] [(8,Ss zW),(9,Ii (lN (zW))),(10,Ii 0)] (bE h fun zD zL h=>?_))));refine vD (K1:=(fun e st'=>match zD with | (.inl q0)=>e=.normal∧Sub 0 st' (mk [] [] 0) | (.inr q1)=>e=.ret∧vE prog Go.Proofs.Tryz.f143 0 [] (Ii q1) st')) ?_ ?_
 ·replace h:=zL;refine yN (id:=0) zk ?_;refine w0 [0] [] [(3,.mp 0),(8,Ss zW),(9,Ii (lN (zW))),(10,Ii 0)] [(0,.live (.map false [.str] []))] ?_;refine wC (fun n st=>∃ (zM:Int),∃ (zF:List ((List Int)×Bool)),st=mk [(3,.mp 0),(8,Ss zW),(9,Ii (lN (zW))),(10,Ii zM)] [(0,.live (.map false [.str] (List.map (mpE AV.str AV.bool) zF)))] 1∧rC F zW n zM zF=some zD) F zk ⟨_,_,rfl,h⟩ ?_ ?_
  ·rintro _ ⟨_,_,_,h⟩;exact wB (h:(none:Option (Unit⊕Int))=some zD)
  rintro z7 _ ⟨zM,zF,rfl,h⟩;replace h:lB F zW (rC F zW z7) zM zF=some zD:=h;unfold lB at h;refine s0 [] [(11,.bool (decide (zM<(lN (zW)))))] (sq (ch 11 h ?_ ?_))
  rotate_left
  ·intro yC h;refine x8 (id:=0) zk ?_;cases h;exact ⟨rfl,(sw [] [] [] [] an)⟩
  intro yC h;refine sk (sq ?_);refine yN (id:=1) zk ?_;refine sq (bE h fun zH zX h=>r0 [iF 0 AV.str zX] [(5,.str zH)] (sq (sq (bE h fun zA yQ h=>r0 [iK 1 {} (H1 F zH zA yQ)] [(6,Ii zA)] (c0 [] 17 h [] ?_ ?_)))))
  ·intro yY h;refine s2 [] [3,8] [(2,Ii zA)] [0] [] 1 ?_;cases h;exact rt ry
  intro yY h;refine sk (sq (c0 [iH 2 { av:=(.bool ((uN zF zH).getD false)),g:=(uN zF zH).isSome },iC (TD:qM prog 9 false [.str]),iC (LJ (f:=AV.str) (g:=AV.bool) U2 zF zH false:dB (List.map (mpE AV.str AV.bool) zF) (.str zH) (.bool false) (.bool ((uN zF zH).getD false)) (uN zF zH).isSome)] 21 h [] ?_ ?_))
  ·intro xF h;refine s2 [] [3,8] [(2,Ii 4)] [0] [] 1 ?_;cases h;exact rt ry
  intro xF h;refine sk (nE h fun y9 h=>r2 [iH 2 { es:=(List.map (mpE AV.str AV.bool) (wS zF zH true)) },iC (TD:qM prog 9 false [.str]),iC (KD (f:=AV.str) (g:=AV.bool) U2 zF zH true:m4 (List.map (mpE AV.str AV.bool) zF) (.str zH) (.bool true) (List.map (mpE AV.str AV.bool) (wS zF zH true))),iC (LC (l:=zF) y9:((List.map (mpE AV.str AV.bool) zF):List (AV×AV)).length<maxLen)] [] [] [] [(0,.live (.map false [.str] (List.map (mpE AV.str AV.bool) (wS zF zH true))))] 1 (r0 [] [(10,Ii (zG (zM+(1:Int))))] ?_));exact ⟨_,(sw [0] [] [.s 3,.s 8,.s 9,.s 10] [.s 0] an),_,_,rfl,h⟩
 intro e st1 hk;rcases zD with zZ | xD
 rotate_left
 ·obtain ⟨rfl,hf⟩:=hk;cases h;exact ⟨st1,Sub.refl _ _,.inr rfl,hf⟩
 obtain ⟨rfl,hs⟩:=hk;refine ⟨_,hs,?_⟩;refine s0 [] [(2,Ii 0)] ?_;cases h;exact rt rx
theorem KP (F:Nat) (zW:List (List Int)) (z0:List (zQ)) (r:Int) (h:dF F zW z0=some r):yR prog 115 [] [] [Ss zW,Sq 2 yB z0] [] (Ii r):=by
 refine tI Go.Proofs.Tryz.f115 ?_;unfold dF at h;refine sE [] [(0,Ss zW),(1,Sq 2 yB z0)] [] 0 (sq (ad 17 h ?_ ?_ ?_))
 ·rcases bft (decide ((lN (zW))>(1000:Int))) with zT | zT
  ·exact rm [iG 4 3,iH 7 Ht,iN 1 AV.str zW,iR 4 zT] (ort zT)
  ·exact rm [iH 7 Hf,iN 1 AV.str zW,iR 2 zT,iN 5 yB z0,iR 2 zT] (orf zT rfl)
 ·intro yC h;refine s1 [] [0,1] [(4,Ii 7)] ?_;cases h;exact rt rx
 intro yC h;refine sk (sq (sq (bE h fun zA zL h=>r0 [iK 1 {} (zCw F zW zA zL)] [(5,Ii zA)] (c0 [] 21 h [] ?_ ?_))))
 ·intro yY h;refine s1 [] [0,1] [(4,Ii zA)] ?_;cases h;exact rt rx
 intro yY h;refine sk (s2 [iH 0 { id:=0,mag:=true,mks:=[.int .i64,.int .i64] }] [] [(6,.mp 0)] [] [(0,.live (.map true [.int .i64,.int .i64] []))] 1 (sq (nE h fun zX h=>r2 [iH 2 { id:=1,l:=(Mi (List.replicate ((z0).length) (0:Int))),m:=(z0).length,n:=(z0).length },iN 1 yB z0,iQ 2 (lN (z0)),iC (Nat.le_refl _:((z0).length)≤((z0).length)),iC zX,iC (VN:(Mi (List.replicate ((z0).length) (0:Int)))=List.replicate ((z0).length) (Ii 0))] [] [(7,.own 1 ((z0).length))] [] [(1,Rb 3 1 (Mi (List.replicate ((z0).length) (0:Int))))] 2 (sq (s1 [iN 1 yB z0] [1] [(27,Sq 2 yB z0),(28,Ii (lN (z0))),(29,Ii 0)] (bE h fun zD yQ h=>?_))))));refine vD (K1:=(fun e st'=>match zD with | (.inl q0)=>e=.normal∧Sub 0 st' (mk [] [] 0) | (.inr q1)=>e=.ret∧vE prog Go.Proofs.Tryz.f115 0 [] (Ii q1) st')) ?_ ?_
 ·replace h:=yQ;refine yN (id:=0) zk ?_;refine wz [0,1] [] [7] [] [(0,Ss zW),(6,.mp 0),(7,.own 1 (((List.replicate ((z0).length) (0:Int))).length)),(27,Sq 2 yB z0),(28,Ii (lN (z0))),(29,Ii 0)] [(0,.live (.map true [.int .i64,.int .i64] [])),(1,Rb 3 1 (Mi (List.replicate ((z0).length) (0:Int))))] (ac (congrArg (AV.own _) List.length_replicate.symm:(.own 1 ((z0).length):AV)=.own 1 (((List.replicate ((z0).length) (0:Int))).length)) an) ?_;refine wC (fun n st=>∃ (zM:Int),∃ (zF:List (zQ×Bool)),∃ (zY:List Int),st=mk [(0,Ss zW),(6,.mp 0),(7,.own 1 ((zY).length)),(27,Sq 2 yB z0),(28,Ii (lN (z0))),(29,Ii zM)] [(0,.live (.map true [.int .i64,.int .i64] (List.map (mpE yB AV.bool) zF))),(1,Rb 3 1 (Mi zY))] 2∧oY F zW z0 n zM zF zY=some zD) F zk ⟨_,_,_,rfl,h⟩ ?_ ?_
  ·rintro _ ⟨_,_,_,_,h⟩;exact wB (h:(none:Option (Unit⊕Int))=some zD)
  rintro z7 _ ⟨zM,zF,zY,rfl,h⟩;replace h:GV F zW z0 (oY F zW z0 z7) zM zF zY=some zD:=h;unfold GV at h;refine s0 [] [(30,.bool (decide (zM<(lN (z0)))))] (sq (ch 30 h ?_ ?_))
  rotate_left
  ·intro xF h;refine x8 (id:=0) zk ?_;cases h;exact ⟨rfl,(sw [] [] [] [] an)⟩
  intro xF h;refine sk (sq ?_);refine yN (id:=1) zk ?_;refine sq (bE h fun zH y9 h=>r2 [iH 3 { id:=2 },iF 1 yB y9] [] [(8,Ii zM),(9,Pp 2)] [] [(2,Vb 144 [Ii zH.c0,Ii zH.c1])] 3 (sq ?_));refine yN (id:=2) zk ?_;refine ad 34 h ?_ ?_ ?_
  ·rcases bft (decide (zH.c0<(-1:Int))) with x9 | x9
   ·exact rm [iG 4 4,iH 8 Ht,iG 10 3,iH 13 Ht,iG 15 5,iH 20 Ht,i0,iC (by decide:(0:Int)<((2:Nat):Int)),iR 5 x9,iX 3,iA true,iX 5,iA true] (ort x9)
   ·rcases bft (decide (zH.c0≥zM)) with wL | wL
    ·exact rm [iH 8 Hf,iG 10 3,iH 13 Ht,iG 15 5,iH 20 Ht,i0,iC (by decide:(0:Int)<((2:Nat):Int)),iC x9,i0,iC (by decide:(0:Int)<((2:Nat):Int)),iR 4 x9,iR 4 wL,iX 5,iA true] (orf x9 (ort wL))
    ·rcases bft (decide (zH.c1<(0:Int))) with wO | wO
     ·exact rm [iH 8 Hf,iH 13 Hf,iG 15 5,iH 20 Ht,i0,iC (by decide:(0:Int)<((2:Nat):Int)),iC x9,i0,iC (by decide:(0:Int)<((2:Nat):Int)),iR 4 x9,iC wL,iC (by decide:(0:Int)≤(1:Int)),iC (by decide:(1:Int)<((2:Nat):Int)),iR 3 wL,iR 6 wO] (orf x9 (orf wL (ort wO)))
     ·exact rm [iH 8 Hf,iH 13 Hf,iH 20 Hf,i0,iC (by decide:(0:Int)<((2:Nat):Int)),iC x9,i0,iC (by decide:(0:Int)<((2:Nat):Int)),iR 4 x9,iC wL,iC (by decide:(0:Int)≤(1:Int)),iC (by decide:(1:Int)<((2:Nat):Int)),iR 3 wL,iC wO,iC (by decide:(0:Int)≤(1:Int)),iC (by decide:(1:Int)<((2:Nat):Int)),iR 3 wO,iN 18 AV.str zW,iR 2 wO] (orf x9 (orf wL (orf wO rfl)))
  ·intro wV h;refine s2 [] [0,6,7,27,9] [(4,Ii 2)] [0,1,2] [] 3 ?_;cases h;exact rt ry
  intro wV h;refine c0 [iH 2 { av:=(.bool ((uN zF zH).getD false)),g:=(uN zF zH).isSome },iC (RC:qM prog 144 true [.int .i64,.int .i64]),iC (LJ (f:=yB) (g:=AV.bool) LE zF zH false:dB (List.map (mpE yB AV.bool) zF) (.agg [Ii zH.c0,Ii zH.c1]) (.bool false) (.bool ((uN zF zH).getD false)) (uN zF zH).isSome)] 56 h [] ?_ ?_
  ·intro vM h;refine s2 [] [0,6,7,27,9] [(4,Ii 4)] [0,1,2] [] 3 ?_;cases h;exact rt ry
  intro vM h;refine sk (sq (nE h fun xS h=>r2 [iH 2 { es:=(List.map (mpE yB AV.bool) (wS zF zH true)) },iC (RC:qM prog 144 true [.int .i64,.int .i64]),iC (KD (f:=yB) (g:=AV.bool) LE zF zH true:m4 (List.map (mpE yB AV.bool) zF) (.agg [Ii zH.c0,Ii zH.c1]) (.bool true) (List.map (mpE yB AV.bool) (wS zF zH true))),iC (LC (l:=zF) xS:((List.map (mpE yB AV.bool) zF):List (AV×AV)).length<maxLen)] [] [] [] [(0,.live (.map true [.int .i64,.int .i64] (List.map (mpE yB AV.bool) (wS zF zH true))))] 3 (sq (bE h fun yH wA h=>r2 [iH 3 { av:=Ii yH,l:=(Mi ((zY).set ((zM).toNat) (1:Int))) },iC (qB wA:(0:Int)≤zM),iC (by first | (simp;done) | simpa using t7 wA:zM<(((zY).length:Nat):Int)),iC (t9 wA:(Mi zY)[(zM).toNat]?=some (Ii yH)),iC (A8 _ _ _:(Mi ((zY).set ((zM).toNat) (1:Int)))=List.set (Mi zY) ((zM).toNat) (bQ (Ii yH) 0 [Ii 1]))] [] [] [] [(1,Rb 3 1 (Mi ((zY).set ((zM).toNat) (1:Int))))] 3 (sq (s0 [i0,iC (by decide:(0:Int)<((2:Nat):Int))] [(67,.bool (zH.c0 != (-1:Int)))] (bE h fun zR wP h=>?_)))))));refine xR (mk [(0,Ss zW),(6,.mp 0),(7,.own 1 ((zR).length)),(8,Ii zM),(27,Sq 2 yB z0),(28,Ii (lN (z0))),(29,Ii zM)] [(0,.live (.map true [.int .i64,.int .i64] (List.map (mpE yB AV.bool) (wS zF zH true)))),(1,Rb 3 1 (Mi zR))] 2) ?_ ?_
  ·replace h:=wP;refine ch 67 h ?_ ?_
   rotate_left
   ·intro uM h;refine sk ?_;cases h;exact ⟨rfl,(sw [0,1] [] [.s 0,.s 6,.a 7 (.own 1 (((zY).set ((zM).toNat) (1:Int)).length)),.s 8,.s 27,.s 28,.s 29] [.s 0,.s 1] (ac (congrArg (AV.own _) (by first | (simp;done) | (simp;omega)):(.own 1 ((zY).length):AV)=.own 1 (((zY).set ((zM).toNat) (1:Int)).length)) an))⟩
   intro uM h;refine bE h fun xA vA h=>bE h fun wM vN h=>bE h fun vL uG h=>r2 [iH 3 { av:=Ii xA },iH 8 { av:=Ii wM },iH 11 { av:=Ii vL,l:=(Mi (((zY).set ((zM).toNat) (1:Int)).set ((zM).toNat) (zG (xA+wM)))) },iC (qB vA:(0:Int)≤zM),iC (by first | (simp;done) | simpa using t7 vA:zM<(((zY).length:Nat):Int)),iC (t9 vA:(Mi ((zY).set ((zM).toNat) (1:Int)))[(zM).toNat]?=some (Ii xA)),i0,iC (by decide:(0:Int)<((2:Nat):Int)),iC (qB vN:(0:Int)≤zH.c0),iC (by first | (simp;done) | simpa using t7 vN:zH.c0<(((zY).length:Nat):Int)),iC (t9 vN:(Mi ((zY).set ((zM).toNat) (1:Int)))[(zH.c0).toNat]?=some (Ii wM)),iC (qB uG:(0:Int)≤zM),iC (by first | (simp;done) | simpa using t7 uG:zM<(((zY).length:Nat):Int)),iC (t9 uG:(Mi ((zY).set ((zM).toNat) (1:Int)))[(zM).toNat]?=some (Ii vL)),iC (A8 _ _ _:(Mi (((zY).set ((zM).toNat) (1:Int)).set ((zM).toNat) (zG (xA+wM))))=List.set (Mi ((zY).set ((zM).toNat) (1:Int))) ((zM).toNat) (bQ (Ii vL) 0 [Ii (zG (xA+wM))]))] [9] [] [2] [(1,Rb 3 1 (Mi (((zY).set ((zM).toNat) (1:Int)).set ((zM).toNat) (zG (xA+wM)))))] 3 ?_;cases h;exact ⟨rfl,(sw [0,1] [] [.s 0,.s 6,.a 7 (.own 1 ((((zY).set ((zM).toNat) (1:Int)).set ((zM).toNat) (zG (xA+wM))).length)),.s 8,.s 27,.s 28,.s 29] [.s 0,.s 1] (ac (congrArg (AV.own _) (by first | (simp;done) | (simp;omega)):(.own 1 ((zY).length):AV)=.own 1 ((((zY).set ((zM).toNat) (1:Int)).set ((zM).toNat) (zG (xA+wM))).length)) an))⟩
  refine sq (bE h fun tN uJ h=>r0 [iH 3 { av:=Ii tN },iC (qB uJ:(0:Int)≤zM),iC (by first | (simp;done) | simpa using t7 uJ:zM<(((zR).length:Nat):Int)),iC (t9 uJ:(Mi zR)[(zM).toNat]?=some (Ii tN))] [(83,.bool (decide (tN>(32:Int))))] (ch 83 h ?_ ?_))
  rotate_left
  ·intro tO h;refine sk (r0 [] [(29,Ii (zG (zM+(1:Int))))] ?_);exact ⟨_,(sw [0,1] [] [.s 0,.s 6,.s 7,.s 27,.s 28,.s 29] [.s 0,.s 1] an),_,_,_,rfl,h⟩
  intro tO h;refine s2 [] [0,6,7,27] [(4,Ii 7)] [0,1] [] 2 ?_;cases h;exact rt ry
 intro e st1 hk;rcases zD with zZ | xD
 rotate_left
 ·obtain ⟨rfl,hf⟩:=hk;cases h;exact ⟨st1,Sub.refl _ _,.inr rfl,hf⟩
 obtain ⟨rfl,hs⟩:=hk;refine ⟨_,hs,?_⟩;refine s0 [] [(4,Ii 0)] ?_;cases h;exact rt rx
theorem AU (F:Nat) (zH:kG) (r:Int×kG) (h:n8 F zH=some r):yR prog 144 [(.var 186 (dK zH))] [] [Pp 0] [(.var 186 (dK r.2))] (Ii r.1):=by
 refine tI Go.Proofs.Tryz.f144 ?_;unfold n8 at h;refine sE [] [(0,Pp 0)] [(0,Vb 186 (dK zH))] 1 (sq (c0 [] 10 h [] ?_ ?_))
 ·intro yC h;refine s1 [] [0] [(2,Ii 0)] ?_;cases h;exact rt rx
 intro yC h;refine sk (sq (nE h fun zL h=>bE h fun zA zX h=>r0 [iT 8 Fb zH.b zH.used zL.1 zL.2,iK 9 {} (o6 F (sub zH.b zH.used (lN (zH.b))) zA zX)] [(3,Ii zA.1),(4,Ii zA.2.1),(5,Ii zA.2.2)] (s2 [] [] [] [] [(0,Vb 186 [Sb zH.b,Ii zH.used,Ii zA.2.2])] 1 (s2 [] [0] [] [] [(0,Vb 186 [Sb zH.b,Ii (zG (zH.used+zA.2.1)),Ii zA.2.2])] 1 (s0 [] [(2,Ii zA.1)] ?_)))));cases h;exact rt rx
theorem YQ (xC:Int) (r:Bool×Bool×Bool×Bool) (h:DK xC=some r):yR prog 131 [] [] [Ii xC] [] (.tuple [.bool r.1,.bool r.2.1,.bool r.2.2.1,.bool r.2.2.2]):=by
 refine tI Go.Proofs.Tryz.f131 ?_;unfold DK at h;refine sE [] [(0,Ii xC)] [] 0 (sq (am 2 ((xC==(1:Int))||((xC==(3:Int))||(xC==(4:Int)))) ?_ ?_))
 ·rcases bft (xC==(1:Int)) with zT | zT
  ·exact rm [iG 3 2,iH 5 Ht,iG 7 2,iH 9 Ht,iR 3 zT,iX 2,iA true] (ort zT)
  ·rcases bft (xC==(3:Int)) with z4 | z4
   ·exact rm [iH 5 Hf,iG 7 2,iH 9 Ht,iR 3 zT,iR 3 z4] (orf zT (ort z4))
   ·exact rm [iH 5 Hf,iH 9 Hf,iR 3 zT,iR 3 z4] (orf zT (orf z4 rfl))
 refine s0 [] [(3,.bool (decide (xC≥(4:Int))))] (sq (am 4 ((xC==(9:Int))||(xC==(11:Int))) ?_ ?_))
 ·rcases bft (xC==(9:Int)) with yE | yE
  ·exact rm [iG 3 2,iH 5 Ht,iR 3 yE] (ort yE)
  ·exact rm [iH 5 Hf,iR 3 yE] (orf yE rfl)
 refine sq (am 5 ((xC==(5:Int))||(xC==(11:Int))) ?_ ?_)
 ·rcases bft (xC==(5:Int)) with yK | yK
  ·exact rm [iG 3 2,iH 5 Ht,iR 3 yK] (ort yK)
  ·exact rm [iH 5 Hf,iR 3 yK] (orf yK rfl)
 refine s0 [] [] ?_;cases h;exact rt rx
theorem zEs (F:Nat) (zI:List (List Int)) (r:(List (List Int))) (h:JA F zI=some r):yR prog 163 [(.row 9 1 (Ms zI))] [] [.own 0 ((zI).length)] [(.row 9 1 (Ms r))] (.tuple []):=by
 refine tI Go.Proofs.Tryz.f163 ?_;unfold JA at h;refine sE [] [(0,.own 0 ((zI).length)),(2,Ii 0),(3,Ii (zG ((lN (zI)) - (1:Int))))] [(0,Rb 9 1 (Ms zI))] 1 (bE h fun zD zL h=>?_);refine xR (mk [] [(0,Rb 9 1 (Ms zD))] 1) ?_ ?_
 ·replace h:=zL;refine yN (id:=0) zk ?_;refine w0 [0] [] [(0,.own 0 ((zI).length)),(2,Ii 0),(3,Ii (zG ((lN (zI)) - (1:Int))))] [(0,Rb 9 1 (Ms zI))] ?_;refine wC (fun n st=>∃ (zP:Int),∃ (qY:Int),∃ (zF:List (List Int)),st=mk [(0,.own 0 ((zF).length)),(2,Ii zP),(3,Ii qY)] [(0,Rb 9 1 (Ms zF))] 1∧rH F n zP qY zF=some zD) F zk ⟨_,_,_,rfl,h⟩ ?_ ?_
  ·rintro _ ⟨_,_,_,_,h⟩;exact wB (h:(none:Option (List (List Int)))=some zD)
  rintro z7 _ ⟨zP,qY,zF,rfl,h⟩;replace h:G5 F (rH F z7) zP qY zF=some zD:=h;unfold G5 at h;refine sq (c0 [] 9 h [] ?_ ?_)
  rotate_left
  ·intro yC h;refine x8 (id:=0) zk ?_;cases h;exact ⟨rfl,(sw [0] [] [] [.s 0] an)⟩
  intro yC h;refine sk (sq ?_);refine yN (id:=1) zk ?_;refine bE h fun zH zX h=>bE h fun yH yQ h=>bE h fun xA y9 h=>bE h fun wM xS h=>r2 [iH 7 { av:=.str zH },iH 11 { av:=.str yH },iH 13 { av:=.str xA,l:=(Ms ((zF).set ((zP).toNat) zH)) },iH 15 { av:=.str wM,l:=(Ms (((zF).set ((zP).toNat) zH).set ((qY).toNat) yH)) },iC (qB zX:(0:Int)≤qY),iC (by first | (simp;done) | simpa using t7 zX:qY<(((zF).length:Nat):Int)),iC (t9 zX:(Ms zF)[(qY).toNat]?=some (.str zH)),iC (qB yQ:(0:Int)≤zP),iC (by first | (simp;done) | simpa using t7 yQ:zP<(((zF).length:Nat):Int)),iC (t9 yQ:(Ms zF)[(zP).toNat]?=some (.str yH)),iC (qB y9:(0:Int)≤zP),iC (by first | (simp;done) | simpa using t7 y9:zP<(((zF).length:Nat):Int)),iC (t9 y9:(Ms zF)[(zP).toNat]?=some (.str xA)),iC (A8 _ _ _:(Ms ((zF).set ((zP).toNat) zH))=List.set (Ms zF) ((zP).toNat) (bQ (.str xA) 0 [.str zH])),iC (qB xS:(0:Int)≤qY),iC (by first | (simp;done) | simpa using t7 xS:qY<(((zF).length:Nat):Int)),iC (t9 xS:(Ms ((zF).set ((zP).toNat) zH))[(qY).toNat]?=some (.str wM)),iC (A8 _ _ _:(Ms (((zF).set ((zP).toNat) zH).set ((qY).toNat) yH))=List.set (Ms ((zF).set ((zP).toNat) zH)) ((qY).toNat) (bQ (.str wM) 0 [.str yH]))] [] [] [] [(0,Rb 9 1 (Ms (((zF).set ((zP).toNat) zH).set ((qY).toNat) yH)))] 1 (r0 [] [(2,Ii (zG (zP+(1:Int)))),(3,Ii (zG (qY - (1:Int))))] ?_);exact ⟨_,(sw [0] [] [.a 0 (.own 0 ((((zF).set ((zP).toNat) zH).set ((qY).toNat) yH).length)),.s 2,.s 3] [.s 0] (ac (congrArg (AV.own _) (by first | (simp;done) | (simp;omega)):(.own 0 ((zF).length):AV)=.own 0 ((((zF).set ((zP).toNat) zH).set ((qY).toNat) yH).length)) an)),_,_,_,rfl,h⟩
 cases h;exact ⟨.inl rfl,zle rfl,zk⟩
theorem ZP (F:Nat) (zW:List (List Int)) (z0:List (zQ)) (zP:Int) (r:(List (List Int))×Int) (h:AJ F zW z0 zP=some r):yR prog 145 [] [] [Ss zW,Sq 2 yB z0,Ii zP] [.row 9 1 (Ms r.1)] (.tuple [.own 0 ((r.1).length),Ii r.2]):=by
 refine tI Go.Proofs.Tryz.f145 ?_;unfold AJ at h;refine sE [iH 0 { id:=0,m:=1 }] [(0,Ss zW),(1,Sq 2 yB z0),(2,Ii zP)] [] 1 (sq ?_);refine yN (id:=0) zk ?_;refine sq (bE h fun zA zL h=>r0 [iK 2 {} (KP F zW z0 zA zL)] [(9,.bool (zA != (0:Int)))] (ch 9 h ?_ ?_))
 ·intro yC h;refine s2 [iH 0 { id:=1,m:=1 }] [0,1] [(6,.own 1 0),(7,Ii 1)] [] [(1,Rb 9 1 [])] 2 (wz [1] [] [6] [] [(6,.own 0 ((([]:List (List Int))).length)),(7,Ii 1)] [(0,Rb 9 1 [])] (ac (congrArg (AV.own _) (by first | (simp;done) | (simp;omega)):(.own 1 0:AV)=.own 1 ((([]:List (List Int))).length)) an) ?_);cases h;exact rt rx
 intro yC h;refine sq ?_;refine xR (mk [(0,Ss zW),(1,Sq 2 yB z0),(2,Ii zP),(14,.bool (decide (zP<(-1:Int))||decide (zP≥(lN (z0)))))] [] 0) ?_ ?_
 ·rcases bft (decide (zP<(-1:Int))) with z4 | z4
  ·refine r0 [iG 3 4,iH 7 Ht,iR 5 z4] [(14,.bool true)] ?_;exact ⟨rfl,(sw [] [] [.s 0,.s 1,.s 2,.a 14 (.bool (decide (zP<(-1:Int))||decide (zP≥(lN (z0)))))] [] (ac (congrArg AV.bool (ort z4):(.bool true:AV)=.bool (decide (zP<(-1:Int))||decide (zP≥(lN (z0))))) an))⟩
  ·refine r0 [iH 7 Hf,iR 3 z4,iN 5 yB z0,iR 2 z4] [(14,.bool (decide (zP≥(lN (z0)))))] ?_;exact ⟨rfl,(sw [] [] [.s 0,.s 1,.s 2,.a 14 (.bool (decide (zP<(-1:Int))||decide (zP≥(lN (z0)))))] [] (ac (congrArg AV.bool (orf z4 rfl):(.bool (decide (zP≥(lN (z0)))):AV)=.bool (decide (zP<(-1:Int))||decide (zP≥(lN (z0))))) an))⟩
 refine ch 14 h ?_ ?_
 ·intro yY h;refine s2 [iH 0 { id:=0,m:=1 }] [0,1] [(6,.own 0 0),(7,Ii 2)] [] [(0,Rb 9 1 [])] 1 (wz [0] [] [6] [] [(6,.own 0 ((([]:List (List Int))).length)),(7,Ii 2)] [(0,Rb 9 1 [])] (ac (congrArg (AV.own _) (by first | (simp;done) | (simp;omega)):(.own 0 0:AV)=.own 0 ((([]:List (List Int))).length)) an) ?_);cases h;exact rt rx
 intro yY h;refine sk (s2 [iH 0 { id:=0,m:=1 }] [] [(8,.own 0 0)] [] [(0,Rb 9 1 [])] 1 (sq (bE h fun zD zX h=>?_)));refine xR (mk [(8,.own 0 ((zD).length))] [(0,Rb 9 1 (Ms zD))] 1) ?_ ?_
 ·replace h:=zX;refine yN (id:=1) zk ?_;refine w0 [0] [] [(0,Ss zW),(1,Sq 2 yB z0),(2,Ii zP),(8,.own 0 0)] [(0,Rb 9 1 [])] ?_;refine wC (fun n st=>∃ (xH:Int),∃ (zF:List (List Int)),st=mk [(0,Ss zW),(1,Sq 2 yB z0),(2,Ii xH),(8,.own 0 ((zF).length))] [(0,Rb 9 1 (Ms zF))] 1∧HN F zW z0 n xH zF=some zD) F zk ⟨_,_,rfl,h⟩ ?_ ?_
  ·rintro _ ⟨_,_,_,h⟩;exact wB (h:(none:Option (List (List Int)))=some zD)
  rintro z7 _ ⟨xH,zF,rfl,h⟩;replace h:iV F zW z0 (HN F zW z0 z7) xH zF=some zD:=h;unfold iV at h;refine sq (c0 [] 24 h [] ?_ ?_)
  rotate_left
  ·intro xF h;refine x8 (id:=1) zk ?_;cases h;exact ⟨rfl,(sw [0] [] [.s 8] [.s 0] an)⟩
  intro xF h;refine sk (sq ?_);refine yN (id:=2) zk ?_;refine bE h fun zH yQ h=>bE h fun yH y9 h=>nE h fun xS h=>r2 [iH 9 { id:=1 },iH 10 { id:=2,l:=(Ms (zF++([yH]:List (List Int)))),n:=((zF++([yH]:List (List Int)))).length },iF 4 yB yQ,iC (by decide:(0:Int)≤(1:Int)),iC (by decide:(1:Int)<((2:Nat):Int)),iF 7 AV.str y9,iM AV.str zF,iA 1,iC (uE _ _:(Ms (zF++([yH]:List (List Int))))=(Ms zF)++(Ms ([yH]:List (List Int)))),iC (by simp:((zF++([yH]:List (List Int)))).length=((List.map AV.str (zF++([yH]:List (List Int))))).length),iC (by first | (simp;done) | simpa using xS:(((List.map AV.str zF):List AV).length+((List.map AV.str ([yH]:List (List Int))):List AV).length) * 16≤140737488355328)] [] [(8,.own 2 (((zF++([yH]:List (List Int)))).length))] [0] [(2,Rb 9 1 (Ms (zF++([yH]:List (List Int)))))] 3 (bE h fun xA wA h=>r0 [iF 2 yB wA,i0,iC (by decide:(0:Int)<((2:Nat):Int))] [(2,Ii xA.c0)] ?_);exact ⟨_,(sw [2] [] [.s 0,.s 1,.s 2,.s 8] [.s 0] an),_,_,rfl,h⟩
 refine sq (bE h fun zC wP h=>nE h fun vA h=>r2 [iK 1 { ids:=[0] } (zEs F zD zC wP)] [] [] [] [(0,Rb 9 1 (Ms zC))] 1 (s1 [] [8] [(6,.own 0 ((zD).length)),(7,Ii 0)] (wz [0] [] [6] [] [(6,.own 0 ((zC).length)),(7,Ii 0)] [(0,Rb 9 1 (Ms zC))] (ac (congrArg (AV.own _) vA.symm:(.own 0 ((zD).length):AV)=.own 0 ((zC).length)) an) ?_)));cases h;exact rt rx
theorem zCh (r:(List (vF))) (h:CH=some r):yR prog 167 [] [] [] [.row 193 9 (Mp dA r)] (.own 0 ((r).length)):=by
 refine tI Go.Proofs.Tryz.f167 ?_;unfold CH at h;refine sE [iH 0 { id:=0,m:=1 }] [] [] 1 (s2 [iH 13 { id:=1 }] [] [(0,.own 1 13)] [] [(1,Rb 193 9 (Mp dA ([zL4,zL8,zL5,zL7,K6,LO,JN,zL9,zL6,LU,LM,JY,L2]:List vF)))] 2 (wz [1] [] [0] [] [(0,.own 0 ((([zL4,zL8,zL5,zL7,K6,LO,JN,zL9,zL6,LU,LM,JY,L2]:List vF)).length))] [(0,Rb 193 9 (Mp dA ([zL4,zL8,zL5,zL7,K6,LO,JN,zL9,zL6,LU,LM,JY,L2]:List vF)))] (ac (congrArg (AV.own _) (by first | (simp;done) | (simp;omega)):(.own 1 13:AV)=.own 1 ((([zL4,zL8,zL5,zL7,K6,LO,JN,zL9,zL6,LU,LM,JY,L2]:List vF)).length)) an) ?_));cases h;exact rt rx
theorem zDV (xC:Int) (r:vF×Bool) (h:HK xC=some r):yR prog 152 [] [] [Ii xC] [] (.tuple [dA r.1,.bool r.2]):=by
 refine tI Go.Proofs.Tryz.f152 ?_;unfold HK at h;refine sE [iH 0 { id:=0 }] [(0,Ii xC),(2,Pp 0)] [(0,Vb 193 [.str ([]:List Int),.bool false,.bool false,.bool false,.bool false,Ii 0,Ii 0,Ii 0,Ii 0])] 1 (sq (bE h fun zA zL h=>r2 [iK 0 { ids:=[1] } (zCh zA zL)] [] [(4,.own 1 ((zA).length))] [] [(1,Rb 193 9 (Mp dA zA))] 2 (sq (ad 13 h ?_ ?_ ?_))))
 ·rcases bft (decide (xC<(1:Int))) with zT | zT
  ·exact rm [iG 3 4,iH 7 Ht,iR 5 zT] (ort zT)
  ·exact rm [iH 7 Hf,iR 5 zT] (orf zT rfl)
 ·intro yC h;refine s2 [] [4] [(3,.bool false)] [1] [] 2 ?_;cases h;exact rt rx
 intro yC h;refine sk (sq (bE h fun zH zX h=>r2 [iH 3 { av:=dA zH },iC (qB zX:(0:Int)≤xC),iC (by first | (simp;done) | simpa using t7 zX:xC<(((zA).length:Nat):Int)),iC (t9 zX:(Mp dA zA)[(xC).toNat]?=some (dA zH))] [4] [(3,.bool true)] [1] [(0,Vb 193 (GT zH))] 2 ?_));cases h;exact rt rx
theorem VB (F:Nat) (zO:List (List Int)) (r:Int) (h:AD F zO=some r):yR prog 156 [] [] [Ss zO] [] (Ii r):=by
 refine tI Go.Proofs.Tryz.f156 ?_;unfold AD at h;refine sE [] [(0,Ss zO)] [] 0 (sq (c0 [iN 1 AV.str zO] 8 h [] ?_ ?_))
 ·intro yC h;refine s1 [] [0] [(2,Ii 7)] ?_;cases h;exact rt rx
 intro yC h;refine sk (sq (s1 [iN 1 AV.str zO] [0] [(9,Ss zO),(10,Ii (lN (zO))),(11,Ii 0)] (bE h fun zD zL h=>?_)));refine vD (K1:=(fun e st'=>match zD with | (.inl q0)=>e=.normal∧Sub 0 st' (mk [] [] 0) | (.inr q1)=>e=.ret∧vE prog Go.Proofs.Tryz.f156 0 [] (Ii q1) st')) ?_ ?_
 ·replace h:=zL;refine yN (id:=0) zk ?_;refine w0 [] [] [(9,Ss zO),(10,Ii (lN (zO))),(11,Ii 0)] [] ?_;refine wC (fun n st=>∃ (zM:Int),st=mk [(9,Ss zO),(10,Ii (lN (zO))),(11,Ii zM)] [] 0∧GS F zO n zM=some zD) F zk ⟨_,rfl,h⟩ ?_ ?_
  ·rintro _ ⟨_,_,h⟩;exact wB (h:(none:Option (Unit⊕Int))=some zD)
  rintro z7 _ ⟨zM,rfl,h⟩;replace h:CM F zO (GS F zO z7) zM=some zD:=h;unfold CM at h;refine s0 [] [(12,.bool (decide (zM<(lN (zO)))))] (sq (ch 12 h ?_ ?_))
  rotate_left
  ·intro yY h;refine x8 (id:=0) zk ?_;cases h;exact ⟨rfl,(sw [] [] [] [] an)⟩
  intro yY h;refine sk (sq ?_);refine yN (id:=1) zk ?_;refine sq (bE h fun zH zX h=>r0 [iF 0 AV.str zX] [(4,.str zH)] (sq (bE h fun zA yQ h=>r0 [iK 1 {} (H1 F zH zA yQ)] [(5,Ii zA)] (c0 [] 18 h [] ?_ ?_))))
  rotate_left
  ·intro xF h;refine sk (r0 [] [(11,Ii (zG (zM+(1:Int))))] ?_);exact ⟨_,(sw [] [] [.s 9,.s 10,.s 11] [] an),_,rfl,h⟩
  intro xF h;refine s1 [] [9] [(2,Ii zA)] ?_;cases h;exact rt ry
 intro e st1 hk;rcases zD with zZ | xD
 rotate_left
 ·obtain ⟨rfl,hf⟩:=hk;cases h;exact ⟨st1,Sub.refl _ _,.inr rfl,hf⟩
 obtain ⟨rfl,hs⟩:=hk;refine ⟨_,hs,?_⟩;refine s0 [] [(2,Ii 0)] ?_;cases h;exact rt rx
theorem zFW (F:Nat) (f_1:vF) (zU:yW) (r:Int) (h:EN F f_1 zU=some r):yR prog 153 [] [] [dA f_1,xN zU] [] (Ii r):=by
 refine tI Go.Proofs.Tryz.f153 ?_;unfold EN at h;refine sE [iH 0 { id:=0 },iH 1 { id:=1 }] [(2,Pp 0),(3,Pp 1)] [(0,Vb 193 (GT f_1)),(1,Vb 112 (uQ zU))] 2 (sq (s2 [] [2] [(6,.bool f_1.name)] [0] [] 2 (ch 6 h ?_ ?_)))
 ·intro yC h;refine sq (bE h fun zA zL h=>r2 [iK 2 {} (H1 F zU.Name zA zL)] [3] [(4,Ii zA)] [1] [] 2 ?_);cases h;exact rt rx
 intro yC h;refine sk (sq (bE h fun zC zX h=>r2 [iK 2 {} (VB F zU.Stack zC zX)] [3] [(4,Ii zC)] [1] [] 2 ?_));cases h;exact rt rx
theorem QL (F:Nat) (zU:yW) (r:Int) (h:fQ F zU=some r):yR prog 128 [] [] [xN zU] [] (Ii r):=by
 refine tI Go.Proofs.Tryz.f128 ?_;unfold fQ at h;refine sE [iH 0 { id:=0 }] [(1,Pp 0)] [(0,Vb 112 (uQ zU))] 1 (sq (ad 13 h ?_ ?_ ?_))
 ·rcases bft (decide (zU.At<(0:Int))) with zT | zT
  ·exact rm [iG 4 3,iH 7 Ht,iR 4 zT] (ort zT)
  ·exact rm [iH 7 Hf,iR 4 zT] (orf zT rfl)
 ·intro yC h;refine s2 [] [1] [(2,Ii 2)] [0] [] 1 ?_;cases h;exact rt rx
 intro yC h;refine sk (sq (bE h fun zA zL h=>r2 [iH 6 { id:=1 },iK 2 {} (zDV zU.Kind zA zL)] [] [(3,Pp 1),(4,.bool zA.2)] [] [(1,Vb 193 (GT zA.1))] 2 (sq (sq (bE h fun zK zX h=>?_)))));refine xR (mk [(1,Pp 0),(3,Pp 1),(62,.bool zK)] [(0,Vb 112 (uQ zU)),(1,Vb 193 (GT zA.1))] 2) ?_ ?_
 ·replace h:=zX;rcases bft (!zA.2) with z4 | z4
  ·replace h:=xK z4 h;refine r0 [iG 3 4,iH 10 Hg,iH 11 Ht,iG 13 4,iH 20 Hg,iH 21 Ht,iG 23 4,iH 30 Hg,iH 31 Ht,iG 33 4,iH 41 Hg,iH 42 Ht,iR 6 z4,iX 5,iA true,iX 5,iA true,iX 5,iA true] [(62,.bool true)] ?_;cases h;exact ⟨rfl,(sw [0,1] [] [.s 1,.s 3,.s 62] [.s 0,.s 1] an)⟩
  ·replace h:=xJ z4 h;rcases bft (!zA.1.name) with yE | yE
   ·replace h:=xK yE h;rcases bft (!(zU.Name==([]:List Int))) with yK | yK
    ·replace h:=xK yK h;refine r0 [iH 10 Ht,iH 11 Hf,iG 13 4,iH 20 Hg,iH 21 Ht,iG 23 4,iH 30 Hg,iH 31 Ht,iG 33 4,iH 41 Hg,iH 42 Ht,iR 4 z4,iR 3 yE,iC z4,iC yE,iC z4,iR 6 yK,iX 5,iA true,iX 5,iA true] [(62,.bool true)] ?_;cases h;exact ⟨rfl,(sw [0,1] [] [.s 1,.s 3,.s 62] [.s 0,.s 1] an)⟩
    ·replace h:=xJ yK h;rcases bft (!zA.1.n) with xX | xX
     ·replace h:=xK xX h;rcases bft (zU.N != (0:Int)) with wI | wI
      ·replace h:=xK wI h;refine r0 [iH 10 Ht,iH 11 Hf,iH 20 Ht,iH 21 Hf,iG 23 4,iH 30 Hg,iH 31 Ht,iG 33 4,iH 41 Hg,iH 42 Ht,iR 4 z4,iR 3 yE,iC z4,iC yE,iC z4,iR 4 yK,iR 3 xX,iC yK,iC xX,iC yK,iR 6 wI,iX 5,iA true] [(62,.bool true)] ?_;cases h;exact ⟨rfl,(sw [0,1] [] [.s 1,.s 3,.s 62] [.s 0,.s 1] an)⟩
      ·replace h:=xJ wI h;rcases bft (!zA.1.m) with wH | wH
       ·replace h:=xK wH h;rcases bft (zU.M != (0:Int)) with wD | wD
        ·replace h:=xK wD h;refine r0 [iH 10 Ht,iH 11 Hf,iH 20 Ht,iH 21 Hf,iH 30 Ht,iH 31 Hf,iG 33 4,iH 41 Hg,iH 42 Ht,iR 4 z4,iR 3 yE,iC z4,iC yE,iC z4,iR 4 yK,iR 3 xX,iC yK,iC xX,iC yK,iR 4 wI,iR 3 wH,iC wI,iC wH,iC wI,iR 6 wD] [(62,.bool true)] ?_;cases h;exact ⟨rfl,(sw [0,1] [] [.s 1,.s 3,.s 62] [.s 0,.s 1] an)⟩
        ·replace h:=xJ wD h;rcases bft (!zA.1.stack) with vS | vS
         ·replace h:=xK vS h;refine r0 [iH 10 Ht,iH 11 Hf,iH 20 Ht,iH 21 Hf,iH 30 Ht,iH 31 Hf,iH 41 Ht,iH 42 Hf,iR 4 z4,iR 3 yE,iC z4,iC yE,iC z4,iR 4 yK,iR 3 xX,iC yK,iC xX,iC yK,iR 4 wI,iR 3 wH,iC wI,iC wH,iC wI,iR 4 wD,iR 3 vS,iN 39 AV.str zU.Stack,iC vS,iC wD,iC vS,iC wD] [(62,.bool (decide ((lN (zU.Stack))>(0:Int))))] ?_;cases h;exact ⟨rfl,(sw [0,1] [] [.s 1,.s 3,.s 62] [.s 0,.s 1] an)⟩
         ·replace h:=xJ vS h;refine r0 [iH 10 Ht,iH 11 Hf,iH 20 Ht,iH 21 Hf,iH 30 Ht,iH 31 Hf,iG 37 4,iH 41 Hf,iH 42 Hf,iR 4 z4,iR 3 yE,iC z4,iC yE,iC z4,iR 4 yK,iR 3 xX,iC yK,iC xX,iC yK,iR 4 wI,iR 3 wH,iC wI,iC wH,iC wI,iR 4 wD,iR 4 vS,iC wD,iC vS,iC wD] [(62,.bool false)] ?_;cases h;exact ⟨rfl,(sw [0,1] [] [.s 1,.s 3,.s 62] [.s 0,.s 1] an)⟩
       ·replace h:=xJ wH h;rcases bft (!zA.1.stack) with wU | wU
        ·replace h:=xK wU h;refine r0 [iH 10 Ht,iH 11 Hf,iH 20 Ht,iH 21 Hf,iG 27 3,iH 30 Hf,iH 31 Hf,iH 41 Ht,iH 42 Hf,iR 4 z4,iR 3 yE,iC z4,iC yE,iC z4,iR 4 yK,iR 3 xX,iC yK,iC xX,iC yK,iR 4 wI,iR 3 wH,iC wI,iC wH,iC wI,iQ 4 false,iR 3 wU,iN 39 AV.str zU.Stack,iC wU,iA false,iC wU,iA false] [(62,.bool (decide ((lN (zU.Stack))>(0:Int))))] ?_;cases h;exact ⟨rfl,(sw [0,1] [] [.s 1,.s 3,.s 62] [.s 0,.s 1] an)⟩
        ·replace h:=xJ wU h;refine r0 [iH 10 Ht,iH 11 Hf,iH 20 Ht,iH 21 Hf,iG 27 3,iH 30 Hf,iH 31 Hf,iG 37 4,iH 41 Hf,iH 42 Hf,iR 4 z4,iR 3 yE,iC z4,iC yE,iC z4,iR 4 yK,iR 3 xX,iC yK,iC xX,iC yK,iR 4 wI,iR 3 wH,iC wI,iC wH,iC wI,iQ 4 false,iR 4 wU,iA false,iC wU,iA false] [(62,.bool false)] ?_;cases h;exact ⟨rfl,(sw [0,1] [] [.s 1,.s 3,.s 62] [.s 0,.s 1] an)⟩
     ·replace h:=xJ xX h;rcases bft (!zA.1.m) with x9 | x9
      ·replace h:=xK x9 h;rcases bft (zU.M != (0:Int)) with wL | wL
       ·replace h:=xK wL h;refine r0 [iH 10 Ht,iH 11 Hf,iG 17 3,iH 20 Hf,iH 21 Hf,iH 30 Ht,iH 31 Hf,iG 33 4,iH 41 Hg,iH 42 Ht,iR 4 z4,iR 3 yE,iC z4,iC yE,iC z4,iR 4 yK,iR 3 xX,iC yK,iC xX,iC yK,iQ 4 false,iR 3 x9,iA false,iC x9,iA false,iR 6 wL] [(62,.bool true)] ?_;cases h;exact ⟨rfl,(sw [0,1] [] [.s 1,.s 3,.s 62] [.s 0,.s 1] an)⟩
       ·replace h:=xJ wL h;rcases bft (!zA.1.stack) with wO | wO
        ·replace h:=xK wO h;refine r0 [iH 10 Ht,iH 11 Hf,iG 17 3,iH 20 Hf,iH 21 Hf,iH 30 Ht,iH 31 Hf,iH 41 Ht,iH 42 Hf,iR 4 z4,iR 3 yE,iC z4,iC yE,iC z4,iR 4 yK,iR 3 xX,iC yK,iC xX,iC yK,iQ 4 false,iR 3 x9,iA false,iC x9,iA false,iR 4 wL,iR 3 wO,iN 39 AV.str zU.Stack,iC wO,iC wL,iC wO,iC wL] [(62,.bool (decide ((lN (zU.Stack))>(0:Int))))] ?_;cases h;exact ⟨rfl,(sw [0,1] [] [.s 1,.s 3,.s 62] [.s 0,.s 1] an)⟩
        ·replace h:=xJ wO h;refine r0 [iH 10 Ht,iH 11 Hf,iG 17 3,iH 20 Hf,iH 21 Hf,iH 30 Ht,iH 31 Hf,iG 37 4,iH 41 Hf,iH 42 Hf,iR 4 z4,iR 3 yE,iC z4,iC yE,iC z4,iR 4 yK,iR 3 xX,iC yK,iC xX,iC yK,iQ 4 false,iR 3 x9,iA false,iC x9,iA false,iR 4 wL,iR 4 wO,iC wL,iC wO,iC wL] [(62,.bool false)] ?_;cases h;exact ⟨rfl,(sw [0,1] [] [.s 1,.s 3,.s 62] [.s 0,.s 1] an)⟩
      ·replace h:=xJ x9 h;rcases bft (!zA.1.stack) with uA | uA
       ·replace h:=xK uA h;refine r0 [iH 10 Ht,iH 11 Hf,iG 17 3,iH 20 Hf,iH 21 Hf,iG 27 3,iH 30 Hf,iH 31 Hf,iH 41 Ht,iH 42 Hf,iR 4 z4,iR 3 yE,iC z4,iC yE,iC z4,iR 4 yK,iR 3 xX,iC yK,iC xX,iC yK,iQ 4 false,iR 3 x9,iA false,iC x9,iQ 5 false,iR 3 uA,iN 39 AV.str zU.Stack,iC uA,iA false,iC uA,iA false] [(62,.bool (decide ((lN (zU.Stack))>(0:Int))))] ?_;cases h;exact ⟨rfl,(sw [0,1] [] [.s 1,.s 3,.s 62] [.s 0,.s 1] an)⟩
       ·replace h:=xJ uA h;refine r0 [iH 10 Ht,iH 11 Hf,iG 17 3,iH 20 Hf,iH 21 Hf,iG 27 3,iH 30 Hf,iH 31 Hf,iG 37 4,iH 41 Hf,iH 42 Hf,iR 4 z4,iR 3 yE,iC z4,iC yE,iC z4,iR 4 yK,iR 3 xX,iC yK,iC xX,iC yK,iQ 4 false,iR 3 x9,iA false,iC x9,iQ 5 false,iR 4 uA,iA false,iC uA,iA false] [(62,.bool false)] ?_;cases h;exact ⟨rfl,(sw [0,1] [] [.s 1,.s 3,.s 62] [.s 0,.s 1] an)⟩
   ·replace h:=xJ yE h;rcases bft (!zA.1.n) with vT | vT
    ·replace h:=xK vT h;rcases bft (zU.N != (0:Int)) with uT | uT
     ·replace h:=xK uT h;refine r0 [iG 7 3,iH 10 Hf,iH 11 Hf,iH 20 Ht,iH 21 Hf,iG 23 4,iH 30 Hg,iH 31 Ht,iG 33 4,iH 41 Hg,iH 42 Ht,iR 4 z4,iR 3 yE,iC z4,iC yE,iC z4,iQ 4 false,iR 3 vT,iA false,iC vT,iA false,iR 6 uT,iX 5,iA true] [(62,.bool true)] ?_;cases h;exact ⟨rfl,(sw [0,1] [] [.s 1,.s 3,.s 62] [.s 0,.s 1] an)⟩
     ·replace h:=xJ uT h;rcases bft (!zA.1.m) with qO | qO
      ·replace h:=xK qO h;rcases bft (zU.M != (0:Int)) with jY | jY
       ·replace h:=xK jY h;refine r0 [iG 7 3,iH 10 Hf,iH 11 Hf,iH 20 Ht,iH 21 Hf,iH 30 Ht,iH 31 Hf,iG 33 4,iH 41 Hg,iH 42 Ht,iR 4 z4,iR 3 yE,iC z4,iC yE,iC z4,iQ 4 false,iR 3 vT,iA false,iC vT,iA false,iR 4 uT,iR 3 qO,iC uT,iC qO,iC uT,iR 6 jY] [(62,.bool true)] ?_;cases h;exact ⟨rfl,(sw [0,1] [] [.s 1,.s 3,.s 62] [.s 0,.s 1] an)⟩
       ·replace h:=xJ jY h;rcases bft (!zA.1.stack) with pD | pD
        ·replace h:=xK pD h;refine r0 [iG 7 3,iH 10 Hf,iH 11 Hf,iH 20 Ht,iH 21 Hf,iH 30 Ht,iH 31 Hf,iH 41 Ht,iH 42 Hf,iR 4 z4,iR 3 yE,iC z4,iC yE,iC z4,iQ 4 false,iR 3 vT,iA false,iC vT,iA false,iR 4 uT,iR 3 qO,iC uT,iC qO,iC uT,iR 4 jY,iR 3 pD,iN 39 AV.str zU.Stack,iC pD,iC jY,iC pD,iC jY] [(62,.bool (decide ((lN (zU.Stack))>(0:Int))))] ?_;cases h;exact ⟨rfl,(sw [0,1] [] [.s 1,.s 3,.s 62] [.s 0,.s 1] an)⟩
        ·replace h:=xJ pD h;refine r0 [iG 7 3,iH 10 Hf,iH 11 Hf,iH 20 Ht,iH 21 Hf,iH 30 Ht,iH 31 Hf,iG 37 4,iH 41 Hf,iH 42 Hf,iR 4 z4,iR 3 yE,iC z4,iC yE,iC z4,iQ 4 false,iR 3 vT,iA false,iC vT,iA false,iR 4 uT,iR 3 qO,iC uT,iC qO,iC uT,iR 4 jY,iR 4 pD,iC jY,iC pD,iC jY] [(62,.bool false)] ?_;cases h;exact ⟨rfl,(sw [0,1] [] [.s 1,.s 3,.s 62] [.s 0,.s 1] an)⟩
      ·replace h:=xJ qO h;rcases bft (!zA.1.stack) with pE | pE
       ·replace h:=xK pE h;refine r0 [iG 7 3,iH 10 Hf,iH 11 Hf,iH 20 Ht,iH 21 Hf,iG 27 3,iH 30 Hf,iH 31 Hf,iH 41 Ht,iH 42 Hf,iR 4 z4,iR 3 yE,iC z4,iC yE,iC z4,iQ 4 false,iR 3 vT,iA false,iC vT,iA false,iR 4 uT,iR 3 qO,iC uT,iC qO,iC uT,iQ 4 false,iR 3 pE,iN 39 AV.str zU.Stack,iC pE,iA false,iC pE,iA false] [(62,.bool (decide ((lN (zU.Stack))>(0:Int))))] ?_;cases h;exact ⟨rfl,(sw [0,1] [] [.s 1,.s 3,.s 62] [.s 0,.s 1] an)⟩
       ·replace h:=xJ pE h;refine r0 [iG 7 3,iH 10 Hf,iH 11 Hf,iH 20 Ht,iH 21 Hf,iG 27 3,iH 30 Hf,iH 31 Hf,iG 37 4,iH 41 Hf,iH 42 Hf,iR 4 z4,iR 3 yE,iC z4,iC yE,iC z4,iQ 4 false,iR 3 vT,iA false,iC vT,iA false,iR 4 uT,iR 3 qO,iC uT,iC qO,iC uT,iQ 4 false,iR 4 pE,iA false,iC pE,iA false] [(62,.bool false)] ?_;cases h;exact ⟨rfl,(sw [0,1] [] [.s 1,.s 3,.s 62] [.s 0,.s 1] an)⟩
    ·replace h:=xJ vT h;rcases bft (!zA.1.m) with tG | tG
     ·replace h:=xK tG h;rcases bft (zU.M != (0:Int)) with qG | qG
      ·replace h:=xK qG h;refine r0 [iG 7 3,iH 10 Hf,iH 11 Hf,iG 17 3,iH 20 Hf,iH 21 Hf,iH 30 Ht,iH 31 Hf,iG 33 4,iH 41 Hg,iH 42 Ht,iR 4 z4,iR 3 yE,iC z4,iC yE,iC z4,iQ 4 false,iR 3 vT,iA false,iC vT,iQ 5 false,iR 3 tG,iA false,iC tG,iA false,iR 6 qG] [(62,.bool true)] ?_;cases h;exact ⟨rfl,(sw [0,1] [] [.s 1,.s 3,.s 62] [.s 0,.s 1] an)⟩
      ·replace h:=xJ qG h;rcases bft (!zA.1.stack) with qH | qH
       ·replace h:=xK qH h;refine r0 [iG 7 3,iH 10 Hf,iH 11 Hf,iG 17 3,iH 20 Hf,iH 21 Hf,iH 30 Ht,iH 31 Hf,iH 41 Ht,iH 42 Hf,iR 4 z4,iR 3 yE,iC z4,iC yE,iC z4,iQ 4 false,iR 3 vT,iA false,iC vT,iQ 5 false,iR 3 tG,iA false,iC tG,iA false,iR 4 qG,iR 3 qH,iN 39 AV.str zU.Stack,iC qH,iC qG,iC qH,iC qG] [(62,.bool (decide ((lN (zU.Stack))>(0:Int))))] ?_;cases h;exact ⟨rfl,(sw [0,1] [] [.s 1,.s 3,.s 62] [.s 0,.s 1] an)⟩
       ·replace h:=xJ qH h;refine r0 [iG 7 3,iH 10 Hf,iH 11 Hf,iG 17 3,iH 20 Hf,iH 21 Hf,iH 30 Ht,iH 31 Hf,iG 37 4,iH 41 Hf,iH 42 Hf,iR 4 z4,iR 3 yE,iC z4,iC yE,iC z4,iQ 4 false,iR 3 vT,iA false,iC vT,iQ 5 false,iR 3 tG,iA false,iC tG,iA false,iR 4 qG,iR 4 qH,iC qG,iC qH,iC qG] [(62,.bool false)] ?_;cases h;exact ⟨rfl,(sw [0,1] [] [.s 1,.s 3,.s 62] [.s 0,.s 1] an)⟩
     ·replace h:=xJ tG h;rcases bft (!zA.1.stack) with qU | qU
      ·replace h:=xK qU h;refine r0 [iG 7 3,iH 10 Hf,iH 11 Hf,iG 17 3,iH 20 Hf,iH 21 Hf,iG 27 3,iH 30 Hf,iH 31 Hf,iH 41 Ht,iH 42 Hf,iR 4 z4,iR 3 yE,iC z4,iC yE,iC z4,iQ 4 false,iR 3 vT,iA false,iC vT,iQ 5 false,iR 3 tG,iA false,iC tG,iQ 5 false,iR 3 qU,iN 39 AV.str zU.Stack,iC qU,iA false,iC qU,iA false] [(62,.bool (decide ((lN (zU.Stack))>(0:Int))))] ?_;cases h;exact ⟨rfl,(sw [0,1] [] [.s 1,.s 3,.s 62] [.s 0,.s 1] an)⟩
      ·replace h:=xJ qU h;refine r0 [iG 7 3,iH 10 Hf,iH 11 Hf,iG 17 3,iH 20 Hf,iH 21 Hf,iG 27 3,iH 30 Hf,iH 31 Hf,iG 37 4,iH 41 Hf,iH 42 Hf,iR 4 z4,iR 3 yE,iC z4,iC yE,iC z4,iQ 4 false,iR 3 vT,iA false,iC vT,iQ 5 false,iR 3 tG,iA false,iC tG,iQ 5 false,iR 4 qU,iA false,iC qU,iA false] [(62,.bool false)] ?_;cases h;exact ⟨rfl,(sw [0,1] [] [.s 1,.s 3,.s 62] [.s 0,.s 1] an)⟩
 refine ch 62 h ?_ ?_
 ·intro yY h;refine s2 [] [1,3] [(2,Ii 1)] [0,1] [] 2 ?_;cases h;exact rt rx
 intro yY h;refine sk (sq (sq (bE h fun zC yQ h=>r0 [iK 2 {} (zFW F zA.1 zU zC yQ)] [(5,Ii zC)] (c0 [] 67 h [] ?_ ?_))))
 ·intro xF h;refine s2 [] [1,3] [(2,Ii zC)] [0,1] [] 2 ?_;cases h;exact rt rx
 intro xF h;refine sk (sq ?_);refine yN (id:=0) zk ?_;refine ad 69 h ?_ ?_ ?_
 ·rcases Bool.eq_false_or_eq_true zA.1.n with pF | pF
  ·rcases bft (decide (zU.N<zA.1.least)) with aD | aD
   ·exact rm [iG 9 5,iH 14 Ht,iH 15 Ht,iR 6 pF,iR 5 aD,iC pF,iC aD,iC pF] (v9 pF (ort aD))
   ·exact rm [iH 14 Hf,iH 15 Ht,iR 6 pF,iR 5 aD,iC pF,iC aD,iC pF] (v9 pF (orf aD rfl))
  ·exact rm [iG 3 6,iH 14 Hg,iH 15 Hf,iR 8 pF] (u5 pF)
 ·intro wV h;refine s2 [] [1,3] [(2,Ii 2)] [0,1] [] 2 ?_;cases h;exact rt rx
 intro wV h;refine ad 86 h ?_ ?_ ?_
 ·rcases bft (zU.Kind==(9:Int)) with oR | oR
  ·rcases bft (zU.N != (2:Int)) with gg_28 | gg_28
   ·exact rm [iH 7 Ht,iH 12 Ht,iR 4 oR,iR 4 gg_28] (v9 oR (v9 gg_28 rfl))
   ·exact rm [iH 7 Ht,iG 9 3,iH 12 Hf,iR 4 oR,iR 4 gg_28] (v9 oR (u5 gg_28))
  ·exact rm [iG 4 3,iH 7 Hf,iG 9 3,iH 12 Hf,iR 4 oR,iZ,iZ,iZ,iA false] (u5 oR)
 ·intro vM h;refine s2 [] [1,3] [(2,Ii 1)] [0,1] [] 2 ?_;cases h;exact rt rx
 intro vM h;refine sq ?_;refine xR (mk [(100,.bool (zA.1.m&&(bif decide (zU.M<zA.1.mLeast) then ((zU.Kind != (9:Int))||(zU.N==(2:Int))) else (decide (zU.M>zA.1.mMost)&&((zU.Kind != (9:Int))||(zU.N==(2:Int)))))))] [] 0) ?_ ?_
 ·rcases Bool.eq_false_or_eq_true zA.1.m with jJ | jJ
  ·rcases bft (decide (zU.M<zA.1.mLeast)) with pS | pS
   ·rcases bft (zU.Kind != (9:Int)) with oS | oS
    ·refine r2 [iG 9 5,iH 14 Ht,iH 15 Ht,iG 21 3,iH 24 Ht,iH 25 Ht,iR 6 jJ,iR 5 pS,iC jJ,iC pS,iC jJ,iQ 4 true,iR 3 oS,iA true,iC oS,iA true] [1,3] [(100,.bool true)] [0,1] [] 2 ?_;exact ⟨rfl,(sw [] [] [.a 100 (.bool (zA.1.m&&(bif decide (zU.M<zA.1.mLeast) then ((zU.Kind != (9:Int))||(zU.N==(2:Int))) else (decide (zU.M>zA.1.mMost)&&((zU.Kind != (9:Int))||(zU.N==(2:Int)))))))] [] (ac (congrArg AV.bool (v9 jJ (ctr pS (ort oS))):(.bool true:AV)=.bool (zA.1.m&&(bif decide (zU.M<zA.1.mLeast) then ((zU.Kind != (9:Int))||(zU.N==(2:Int))) else (decide (zU.M>zA.1.mMost)&&((zU.Kind != (9:Int))||(zU.N==(2:Int))))))) an))⟩
    ·refine r2 [iG 9 5,iH 14 Ht,iH 15 Ht,iH 24 Hf,iH 25 Ht,iR 6 jJ,iR 5 pS,iC jJ,iC pS,iC jJ,iQ 4 true,iR 3 oS,iA true,iC oS,iA true] [1,3] [(100,.bool (zU.N==(2:Int)))] [0,1] [] 2 ?_;exact ⟨rfl,(sw [] [] [.a 100 (.bool (zA.1.m&&(bif decide (zU.M<zA.1.mLeast) then ((zU.Kind != (9:Int))||(zU.N==(2:Int))) else (decide (zU.M>zA.1.mMost)&&((zU.Kind != (9:Int))||(zU.N==(2:Int)))))))] [] (ac (congrArg AV.bool (v9 jJ (ctr pS (orf oS rfl))):(.bool (zU.N==(2:Int)):AV)=.bool (zA.1.m&&(bif decide (zU.M<zA.1.mLeast) then ((zU.Kind != (9:Int))||(zU.N==(2:Int))) else (decide (zU.M>zA.1.mMost)&&((zU.Kind != (9:Int))||(zU.N==(2:Int))))))) an))⟩
   ·rcases bft (decide (zU.M>zA.1.mMost)) with bJ | bJ
    ·rcases bft (zU.Kind != (9:Int)) with oT | oT
     ·refine r2 [iH 14 Hf,iH 15 Ht,iG 21 3,iH 24 Ht,iH 25 Ht,iR 6 jJ,iR 5 pS,iC jJ,iC pS,iC jJ,iR 4 bJ,iR 3 oT,iC bJ,iC oT,iC bJ] [1,3] [(100,.bool true)] [0,1] [] 2 ?_;exact ⟨rfl,(sw [] [] [.a 100 (.bool (zA.1.m&&(bif decide (zU.M<zA.1.mLeast) then ((zU.Kind != (9:Int))||(zU.N==(2:Int))) else (decide (zU.M>zA.1.mMost)&&((zU.Kind != (9:Int))||(zU.N==(2:Int)))))))] [] (ac (congrArg AV.bool (v9 jJ (cfr pS (v9 bJ (ort oT)))):(.bool true:AV)=.bool (zA.1.m&&(bif decide (zU.M<zA.1.mLeast) then ((zU.Kind != (9:Int))||(zU.N==(2:Int))) else (decide (zU.M>zA.1.mMost)&&((zU.Kind != (9:Int))||(zU.N==(2:Int))))))) an))⟩
     ·refine r2 [iH 14 Hf,iH 15 Ht,iH 24 Hf,iH 25 Ht,iR 6 jJ,iR 5 pS,iC jJ,iC pS,iC jJ,iR 4 bJ,iR 3 oT,iC bJ,iC oT,iC bJ] [1,3] [(100,.bool (zU.N==(2:Int)))] [0,1] [] 2 ?_;exact ⟨rfl,(sw [] [] [.a 100 (.bool (zA.1.m&&(bif decide (zU.M<zA.1.mLeast) then ((zU.Kind != (9:Int))||(zU.N==(2:Int))) else (decide (zU.M>zA.1.mMost)&&((zU.Kind != (9:Int))||(zU.N==(2:Int)))))))] [] (ac (congrArg AV.bool (v9 jJ (cfr pS (v9 bJ (orf oT rfl)))):(.bool (zU.N==(2:Int)):AV)=.bool (zA.1.m&&(bif decide (zU.M<zA.1.mLeast) then ((zU.Kind != (9:Int))||(zU.N==(2:Int))) else (decide (zU.M>zA.1.mMost)&&((zU.Kind != (9:Int))||(zU.N==(2:Int))))))) an))⟩
    ·refine r2 [iH 14 Hf,iH 15 Ht,iG 17 4,iH 24 Hg,iH 25 Hf,iR 6 jJ,iR 5 pS,iC jJ,iC pS,iC jJ,iR 6 bJ] [1,3] [(100,.bool false)] [0,1] [] 2 ?_;exact ⟨rfl,(sw [] [] [.a 100 (.bool (zA.1.m&&(bif decide (zU.M<zA.1.mLeast) then ((zU.Kind != (9:Int))||(zU.N==(2:Int))) else (decide (zU.M>zA.1.mMost)&&((zU.Kind != (9:Int))||(zU.N==(2:Int)))))))] [] (ac (congrArg AV.bool (v9 jJ (cfr pS (u5 bJ))):(.bool false:AV)=.bool (zA.1.m&&(bif decide (zU.M<zA.1.mLeast) then ((zU.Kind != (9:Int))||(zU.N==(2:Int))) else (decide (zU.M>zA.1.mMost)&&((zU.Kind != (9:Int))||(zU.N==(2:Int))))))) an))⟩
  ·refine r2 [iG 3 6,iH 14 Hg,iH 15 Hf,iG 17 4,iH 24 Hg,iH 25 Hf,iR 8 jJ,iZ,iZ,iZ,iZ,iZ,iA false] [1,3] [(100,.bool false)] [0,1] [] 2 ?_;exact ⟨rfl,(sw [] [] [.a 100 (.bool (zA.1.m&&(bif decide (zU.M<zA.1.mLeast) then ((zU.Kind != (9:Int))||(zU.N==(2:Int))) else (decide (zU.M>zA.1.mMost)&&((zU.Kind != (9:Int))||(zU.N==(2:Int)))))))] [] (ac (congrArg AV.bool (u5 jJ):(.bool false:AV)=.bool (zA.1.m&&(bif decide (zU.M<zA.1.mLeast) then ((zU.Kind != (9:Int))||(zU.N==(2:Int))) else (decide (zU.M>zA.1.mMost)&&((zU.Kind != (9:Int))||(zU.N==(2:Int))))))) an))⟩
 refine ch 100 h ?_ ?_
 ·intro uM h;refine s0 [] [(2,Ii 2)] ?_;cases h;exact rt rx
 intro uM h;refine sk (s0 [] [(2,Ii 0)] ?_);cases h;exact rt rx
theorem zCG (F:Nat) (zW:List (List Int)) (z0:List (zQ)) (zE:List (Int)) (r:yW×Int×Int) (h:H6 F zW z0 zE=some r):yR prog 116 [] [] [Ss zW,Sq 2 yB z0,Sb zE] [] (.tuple [xN r.1,Ii r.2.1,Ii r.2.2]):=by
 refine tI Go.Proofs.Tryz.f116 ?_;unfold H6 at h;refine sE [iH 0 { id:=0 }] [(0,Ss zW),(1,Sq 2 yB z0),(2,Sb zE),(6,Pp 0)] [(0,k9)] 1 (sq (sq (bE h fun zA zL h=>r0 [iK 2 {} (KP F zW z0 zA zL)] [(21,.bool (zA != (0:Int)))] (ch 21 h ?_ ?_))))
 ·intro yC h;refine s1 [] [0,1,2] [(7,Ii 0),(8,Ii 1)] (wz [0] [] [] [0] [(6,Pp 0),(7,Ii 0),(8,Ii 1)] [(0,Vb 112 (uQ zL2))] (ar 112 (ar true (ar (Ii 0) (ar (Ii 0) (ar (.str ([]:List Int):AV) (ar (Ii 0) (ar (Ii 0) (ar ([]:List AV) an)))))))) ?_);cases h;exact rt rx
 intro yC h;refine sk (s2 [iH 2 { id:=1 }] [2] [(9,Pp 1)] [] [(1,Vb 186 [Sb zE,Ii 0,Ii 0])] 2 (sq (bE h fun zC zX h=>r2 [iJ 1 { ids:=[1] } ([Pp 1]:List AV) (AU F (⟨zE,(0:Int),(0:Int)⟩:kG) zC zX)] [] [(10,Ii zC.1)] [] [(1,Vb 186 (dK zC.2))] 2 (sq (bE h fun zJ yQ h=>r2 [iH 4 { id:=2 },iJ 2 { ids:=[1] } ([Pp 1]:List AV) (AU F zC.2 zJ yQ)] [] [(11,Pp 2)] [] [(1,Vb 186 (dK zJ.2)),(2,Vb 112 [Ii zJ.1,Ii zC.1,.str ([]:List Int),Ii 0,Ii 0,.nilsl])] 3 (sq (sq (am 44 ((zJ.2.fault==(0:Int))&&(decide (zC.1<(1:Int))||decide (zC.1>(12:Int)))) ?_ ?_))))))))
 ·rcases bft (zJ.2.fault==(0:Int)) with zT | zT
  ·rcases bft (decide (zC.1<(1:Int))) with z4 | z4
   ·exact rm [iG 9 2,iH 11 Ht,iH 12 Ht,iR 3 zT,iR 2 z4,iC zT,iC z4,iC zT] (v9 zT (ort z4))
   ·exact rm [iH 11 Hf,iH 12 Ht,iR 3 zT,iR 2 z4,iC zT,iC z4,iC zT] (v9 zT (orf z4 rfl))
  ·exact rm [iG 6 3,iH 11 Hg,iH 12 Hf,iR 5 zT] (u5 zT)
 refine bE h fun zD y9 h=>?_;refine xR (mk [(0,Ss zW),(1,Sq 2 yB z0),(6,Pp 0),(9,Pp 1),(11,Pp 2)] [(0,k9),(1,Vb 186 [Sb zJ.2.b,Ii zJ.2.used,Ii zD]),(2,Vb 112 [Ii zJ.1,Ii zC.1,.str ([]:List Int),Ii 0,Ii 0,.nilsl])] 3) ?_ ?_
 ·replace h:=y9;refine ch 44 h ?_ ?_
  ·intro yY h;refine r2 [] [] [] [] [(1,Vb 186 [Sb zJ.2.b,Ii zJ.2.used,Ii 10])] 3 ?_;cases h;exact ⟨rfl,(sw [0,1,2] [] [.s 0,.s 1,.s 6,.s 9,.s 11] [.s 0,.s 1,.s 2] an)⟩
  intro yY h;refine sk ?_;cases h;exact ⟨rfl,(sw [0,1,2] [] [.s 0,.s 1,.s 6,.s 9,.s 11] [.s 0,.s 1,.s 2] an)⟩
 refine sq (bE h fun zS xS h=>r0 [iK 2 {} (YQ zC.1 zS xS)] [(12,.bool zS.1),(13,.bool zS.2.1),(14,.bool zS.2.2.1),(15,.bool zS.2.2.2)] (s0 [] [(16,Ii 0),(17,Ii (-1))] (sq (s0 [] [(56,.bool zS.1)] (bE h fun zR wA h=>?_)))));refine xR (mk [(0,Ss zW),(1,Sq 2 yB z0),(6,Pp 0),(9,Pp 1),(11,Pp 2),(12,.bool zS.1),(13,.bool zS.2.1),(14,.bool zS.2.2.1),(15,.bool zS.2.2.2),(16,Ii zR.1),(17,Ii (-1))] [(0,k9),(1,Vb 186 [Sb zR.2.1,Ii zR.2.2.1,Ii zR.2.2.2]),(2,Vb 112 [Ii zJ.1,Ii zC.1,.str ([]:List Int),Ii 0,Ii 0,.nilsl])] 3) ?_ ?_
 ·replace h:=wA;refine ch 56 h ?_ ?_
  rotate_left
  ·intro xF h;refine sk ?_;cases h;exact ⟨rfl,(sw [0,1,2] [] [.s 0,.s 1,.s 6,.s 9,.s 11,.s 12,.s 13,.s 14,.s 15,.s 16,.s 17] [.s 0,.s 1,.s 2] an)⟩
  intro xF h;refine bE h fun zV wP h=>r2 [iJ 1 { ids:=[1] } ([Pp 1]:List AV) (AU F (⟨zJ.2.b,zJ.2.used,zD⟩:kG) zV wP)] [] [(16,Ii zV.1)] [] [(1,Vb 186 (dK zV.2))] 3 ?_;cases h;exact ⟨rfl,(sw [0,1,2] [] [.s 0,.s 1,.s 6,.s 9,.s 11,.s 12,.s 13,.s 14,.s 15,.s 16,.s 17] [.s 0,.s 1,.s 2] an)⟩
 refine sq (s0 [] [(59,.bool zS.2.1)] (bE h fun yL vA h=>?_));refine xR (mk [(0,Ss zW),(1,Sq 2 yB z0),(6,Pp 0),(9,Pp 1),(11,Pp 2),(12,.bool zS.1),(14,.bool zS.2.2.1),(15,.bool zS.2.2.2),(16,Ii zR.1),(17,Ii (-1))] [(0,k9),(1,Vb 186 [Sb yL.1,Ii yL.2.1,Ii yL.2.2.1]),(2,Vb 112 [Ii zJ.1,Ii zC.1,.str ([]:List Int),Ii yL.2.2.2,Ii 0,.nilsl])] 3) ?_ ?_
 ·replace h:=vA;refine ch 59 h ?_ ?_
  rotate_left
  ·intro wV h;refine sk ?_;cases h;exact ⟨rfl,(sw [0,1,2] [] [.s 0,.s 1,.s 6,.s 9,.s 11,.s 12,.s 14,.s 15,.s 16,.s 17] [.s 0,.s 1,.s 2] an)⟩
  intro wV h;refine bE h fun yA vN h=>r2 [iJ 1 { ids:=[1] } ([Pp 1]:List AV) (AU F (⟨zR.2.1,zR.2.2.1,zR.2.2.2⟩:kG) yA vN)] [] [] [] [(1,Vb 186 (dK yA.2)),(2,Vb 112 [Ii zJ.1,Ii zC.1,.str ([]:List Int),Ii yA.1,Ii 0,.nilsl])] 3 ?_;cases h;exact ⟨rfl,(sw [0,1,2] [] [.s 0,.s 1,.s 6,.s 9,.s 11,.s 12,.s 14,.s 15,.s 16,.s 17] [.s 0,.s 1,.s 2] an)⟩
 refine sq (s0 [] [(63,.bool zS.2.2.1)] (bE h fun xQ uG h=>?_));refine xR (mk [(0,Ss zW),(1,Sq 2 yB z0),(6,Pp 0),(9,Pp 1),(11,Pp 2),(12,.bool zS.1),(15,.bool zS.2.2.2),(16,Ii zR.1),(17,Ii (-1))] [(0,k9),(1,Vb 186 [Sb xQ.1,Ii xQ.2.1,Ii xQ.2.2.1]),(2,Vb 112 [Ii zJ.1,Ii zC.1,.str ([]:List Int),Ii yL.2.2.2,Ii xQ.2.2.2,.nilsl])] 3) ?_ ?_
 ·replace h:=uG;refine ch 63 h ?_ ?_
  rotate_left
  ·intro vM h;refine sk ?_;cases h;exact ⟨rfl,(sw [0,1,2] [] [.s 0,.s 1,.s 6,.s 9,.s 11,.s 12,.s 15,.s 16,.s 17] [.s 0,.s 1,.s 2] an)⟩
  intro vM h;refine bE h fun yV uJ h=>r2 [iJ 1 { ids:=[1] } ([Pp 1]:List AV) (AU F (⟨yL.1,yL.2.1,yL.2.2.1⟩:kG) yV uJ)] [] [] [] [(1,Vb 186 (dK yV.2)),(2,Vb 112 [Ii zJ.1,Ii zC.1,.str ([]:List Int),Ii yL.2.2.2,Ii yV.1,.nilsl])] 3 ?_;cases h;exact ⟨rfl,(sw [0,1,2] [] [.s 0,.s 1,.s 6,.s 9,.s 11,.s 12,.s 15,.s 16,.s 17] [.s 0,.s 1,.s 2] an)⟩
 refine sq (s0 [] [(67,.bool zS.2.2.2)] (bE h fun vQ tB h=>?_));refine xR (mk [(0,Ss zW),(1,Sq 2 yB z0),(6,Pp 0),(9,Pp 1),(11,Pp 2),(12,.bool zS.1),(16,Ii zR.1),(17,Ii vQ.1)] [(0,k9),(1,Vb 186 [Sb vQ.2.1,Ii vQ.2.2.1,Ii vQ.2.2.2]),(2,Vb 112 [Ii zJ.1,Ii zC.1,.str ([]:List Int),Ii yL.2.2.2,Ii xQ.2.2.2,.nilsl])] 3) ?_ ?_
 ·replace h:=tB;refine ch 67 h ?_ ?_
  rotate_left
  ·intro uM h;refine sk ?_;cases h;exact ⟨rfl,(sw [0,1,2] [] [.s 0,.s 1,.s 6,.s 9,.s 11,.s 12,.s 16,.s 17] [.s 0,.s 1,.s 2] an)⟩
  intro uM h;refine bE h fun yI tP h=>r2 [iJ 1 { ids:=[1] } ([Pp 1]:List AV) (AU F (⟨xQ.1,xQ.2.1,xQ.2.2.1⟩:kG) yI tP)] [] [(17,Ii yI.1)] [] [(1,Vb 186 (dK yI.2))] 3 ?_;cases h;exact ⟨rfl,(sw [0,1,2] [] [.s 0,.s 1,.s 6,.s 9,.s 11,.s 12,.s 16,.s 17] [.s 0,.s 1,.s 2] an)⟩
 refine sq (bE h fun o_6 uY h=>?_);refine vD (K1:=(fun e st'=>match o_6 with | (.inl q0)=>e=.normal∧Sub 0 st' (mk [(0,Ss zW),(1,Sq 2 yB z0),(6,Pp 0),(9,Pp 1),(11,Pp 2),(12,.bool zS.1),(16,Ii zR.1),(17,Ii vQ.1)] [(0,k9),(1,Vb 186 [Sb vQ.2.1,Ii vQ.2.2.1,Ii vQ.2.2.2]),(2,Vb 112 [Ii zJ.1,Ii zC.1,.str ([]:List Int),Ii yL.2.2.2,Ii xQ.2.2.2,.nilsl])] 3) | (.inr q1)=>e=.ret∧vE prog Go.Proofs.Tryz.f116 0 [] (.tuple [xN q1.1,Ii q1.2.1,Ii q1.2.2]) st')) ?_ ?_
 ·replace h:=uY;refine yN (id:=0) zk ?_;refine c0 [] 70 h [] ?_ ?_
  ·intro tO h;refine s2 [] [0,1,9,11] [(7,Ii 0),(8,Ii vQ.2.2.2)] [1,2] [] 3 (wz [0] [] [] [0] [(6,Pp 0),(7,Ii 0),(8,Ii vQ.2.2.2)] [(0,Vb 112 (uQ zL2))] (ar 112 (ar true (ar (Ii 0) (ar (Ii 0) (ar (.str ([]:List Int):AV) (ar (Ii 0) (ar (Ii 0) (ar ([]:List AV) an)))))))) ?_);cases h;exact rt ry
  intro tO h;refine sq (ad 81 h ?_ ?_ ?_)
  ·rcases Bool.eq_false_or_eq_true zS.1 with wI | wI
   ·rcases bft (decide (zR.1<(0:Int))) with wH | wH
    ·exact rm [iG 5 4,iH 9 Ht,iH 10 Ht,iR 3 wI,iR 4 wH,iC wI,iC wH,iC wI] (v9 wI (ort wH))
    ·exact rm [iH 9 Hf,iH 10 Ht,iR 3 wI,iR 3 wH,iN 7 AV.str zW,iC wH,iC wI,iC wH,iC wI] (v9 wI (orf wH rfl))
   ·exact rm [iG 2 3,iH 9 Hg,iH 10 Hf,iR 5 wI] (u5 wI)
  ·intro qR h;refine sk (cd 81 (zS.1&&(decide (zR.1<(0:Int))||decide (zR.1≥(lN (zW))))) ?_ ?_)
   rotate_left
   ·intro hg;exact Bool.noConfusion ((qR).symm.trans hg)
   intro _;refine s2 [] [0,1,9,11] [(7,Ii 0),(8,Ii 2)] [1,2] [] 3 (wz [0] [] [] [0] [(6,Pp 0),(7,Ii 0),(8,Ii 2)] [(0,Vb 112 (uQ zL2))] (ar 112 (ar true (ar (Ii 0) (ar (Ii 0) (ar (.str ([]:List Int):AV) (ar (Ii 0) (ar (Ii 0) (ar ([]:List AV) an)))))))) ?_);cases h;exact rt ry
  intro qR h;refine xR (mk [(0,Ss zW),(1,Sq 2 yB z0),(6,Pp 0),(9,Pp 1),(11,Pp 2),(12,.bool zS.1),(16,Ii zR.1),(17,Ii vQ.1),(81,.bool (decide (vQ.1<(-1:Int))||decide (vQ.1≥(lN (z0)))))] [(0,k9),(1,Vb 186 [Sb vQ.2.1,Ii vQ.2.2.1,Ii vQ.2.2.2]),(2,Vb 112 [Ii zJ.1,Ii zC.1,.str ([]:List Int),Ii yL.2.2.2,Ii xQ.2.2.2,.nilsl])] 3) ?_ ?_
  ·rcases bft (decide (vQ.1<(-1:Int))) with wD | wD
   ·refine r0 [iG 3 4,iH 7 Ht,iR 5 wD] [(81,.bool true)] ?_;exact ⟨rfl,(sw [0,1,2] [] [.s 0,.s 1,.s 6,.s 9,.s 11,.s 12,.s 16,.s 17,.a 81 (.bool (decide (vQ.1<(-1:Int))||decide (vQ.1≥(lN (z0)))))] [.s 0,.s 1,.s 2] (ac (congrArg AV.bool (ort wD):(.bool true:AV)=.bool (decide (vQ.1<(-1:Int))||decide (vQ.1≥(lN (z0))))) an))⟩
   ·refine r0 [iH 7 Hf,iR 3 wD,iN 5 yB z0,iR 2 wD] [(81,.bool (decide (vQ.1≥(lN (z0)))))] ?_;exact ⟨rfl,(sw [0,1,2] [] [.s 0,.s 1,.s 6,.s 9,.s 11,.s 12,.s 16,.s 17,.a 81 (.bool (decide (vQ.1<(-1:Int))||decide (vQ.1≥(lN (z0)))))] [.s 0,.s 1,.s 2] (ac (congrArg AV.bool (orf wD rfl):(.bool (decide (vQ.1≥(lN (z0)))):AV)=.bool (decide (vQ.1<(-1:Int))||decide (vQ.1≥(lN (z0))))) an))⟩
  refine ch 81 h ?_ ?_
  rotate_left
  ·intro bK h;refine sk ?_;cases h;exact ⟨rfl,(sw [0,1,2] [] [.s 0,.s 1,.s 6,.s 9,.s 11,.s 12,.s 16,.s 17] [.s 0,.s 1,.s 2] an)⟩
  intro bK h;refine s2 [] [0,1,9,11] [(7,Ii 0),(8,Ii 2)] [1,2] [] 3 (wz [0] [] [] [0] [(6,Pp 0),(7,Ii 0),(8,Ii 2)] [(0,Vb 112 (uQ zL2))] (ar 112 (ar true (ar (Ii 0) (ar (Ii 0) (ar (.str ([]:List Int):AV) (ar (Ii 0) (ar (Ii 0) (ar ([]:List AV) an)))))))) ?_);cases h;exact rt ry
 intro e st1 hk;rcases o_6 with zZ | xD
 rotate_left
 ·obtain ⟨rfl,hf⟩:=hk;cases h;exact ⟨st1,Sub.refl _ _,.inr rfl,hf⟩
 obtain ⟨rfl,hs⟩:=hk;refine ⟨_,hs,?_⟩;refine sq (s0 [] [(102,.bool zS.1)] (bE h fun cN qS h=>?_));refine xR (mk [(0,Ss zW),(1,Sq 2 yB z0),(6,Pp 0),(9,Pp 1),(11,Pp 2),(17,Ii vQ.1)] [(0,k9),(1,Vb 186 [Sb vQ.2.1,Ii vQ.2.2.1,Ii vQ.2.2.2]),(2,Vb 112 [Ii zJ.1,Ii zC.1,.str cN,Ii yL.2.2.2,Ii xQ.2.2.2,.nilsl])] 3) ?_ ?_
 ·replace h:=qS;refine ch 102 h ?_ ?_
  rotate_left
  ·intro d7 h;refine sk ?_;cases h;exact ⟨rfl,(sw [0,1,2] [] [.s 0,.s 1,.s 6,.s 9,.s 11,.s 17] [.s 0,.s 1,.s 2] an)⟩
  intro d7 h;refine bE h fun zH qT h=>r2 [iF 2 AV.str qT] [] [] [] [(2,Vb 112 [Ii zJ.1,Ii zC.1,.str zH,Ii yL.2.2.2,Ii xQ.2.2.2,.nilsl])] 3 ?_;cases h;exact ⟨rfl,(sw [0,1,2] [] [.s 0,.s 1,.s 6,.s 9,.s 11,.s 17] [.s 0,.s 1,.s 2] an)⟩
 refine sq (bE h fun yO kC h=>r2 [iK 3 { ids:=[3] } (ZP F zW z0 vQ.1 yO kC)] [0,1] [] [] [(2,Vb 112 [Ii zJ.1,Ii zC.1,.str cN,Ii yL.2.2.2,Ii xQ.2.2.2,.own 3 ((yO.1).length)]),(3,Rb 9 1 (Ms yO.1))] 4 (sq (sq (bE h fun xL kB h=>r0 [iM AV.str yO.1,iL 1 { lend:=[3] } [.agg [Ii zJ.1,Ii zC.1,.str cN,Ii yL.2.2.2,Ii xQ.2.2.2,Ss yO.1]] (QL F (⟨zJ.1,zC.1,cN,yL.2.2.2,xQ.2.2.2,yO.1⟩:yW) xL kB) ⟨rfl,rfl,rfl,rfl,rfl,rfl,rfl,rfl,trivial⟩] [(118,.bool (xL != (0:Int)))] (ch 118 h ?_ ?_)))))
 ·intro oU h;refine s2 [] [9,11] [(7,Ii 0),(8,Ii 10)] [1,2,3] [] 4 (wz [0] [] [] [0] [(6,Pp 0),(7,Ii 0),(8,Ii 10)] [(0,Vb 112 (uQ zL2))] (ar 112 (ar true (ar (Ii 0) (ar (Ii 0) (ar (.str ([]:List Int):AV) (ar (Ii 0) (ar (Ii 0) (ar ([]:List AV) an)))))))) ?_);cases h;exact rt rx
 intro oU h;refine sk (s2 [] [9,11] [(7,Ii vQ.2.2.1),(8,Ii 0)] [1,2] [(0,Vb 112 [Ii zJ.1,Ii zC.1,.str cN,Ii yL.2.2.2,Ii xQ.2.2.2,.own 3 ((yO.1).length)])] 4 (wz [0] [3] [] [0] [(6,Pp 0),(7,Ii vQ.2.2.1),(8,Ii 0)] [(0,Vb 112 (uQ (⟨zJ.1,zC.1,cN,yL.2.2.2,xQ.2.2.2,yO.1⟩:yW)))] (ar 112 (ar true (ac (by first | (simp;done) | (simp;omega):(yO.1).length=((List.map AV.str yO.1)).length) (ar (Ii zJ.1) (ar (Ii zC.1) (ar (.str cN:AV) (ar (Ii yL.2.2.2) (ar (Ii xQ.2.2.2) (ar 1 (ar (Ms yO.1) (ar true an))))))))))) ?_));cases h;exact rt rx
theorem zGq (F:Nat) (zO:List (yW)) (r:Int) (h:C2 F zO=some r):yR prog 89 [] [] [Sq 6 xN zO] [] (Ii r):=by
 refine tI Go.Proofs.Tryz.f89 ?_;unfold C2 at h;refine sE [] [(0,Sq 6 xN zO)] [] 0 (sq (s0 [iN 1 xN zO] [(6,Sq 6 xN zO),(7,Ii (lN (zO))),(8,Ii 0)] (bE h fun zD zL h=>?_)));refine vD (K1:=(fun e st'=>match zD with | (.inl q0)=>e=.normal∧Sub 0 st' (mk [] [] 0) | (.inr q1)=>e=.ret∧vE prog Go.Proofs.Tryz.f89 0 [] (Ii q1) st')) ?_ ?_
 ·replace h:=zL;refine yN (id:=0) zk ?_;refine w0 [] [] [(0,Sq 6 xN zO),(6,Sq 6 xN zO),(7,Ii (lN (zO))),(8,Ii 0)] [] ?_;refine wC (fun n st=>∃ (zM:Int),st=mk [(0,Sq 6 xN zO),(6,Sq 6 xN zO),(7,Ii (lN (zO))),(8,Ii zM)] [] 0∧AL F zO n zM=some zD) F zk ⟨_,rfl,h⟩ ?_ ?_
  ·rintro _ ⟨_,_,h⟩;exact wB (h:(none:Option (Unit⊕Int))=some zD)
  rintro z7 _ ⟨zM,rfl,h⟩;replace h:DP F zO (AL F zO z7) zM=some zD:=h;unfold DP at h;refine s0 [] [(9,.bool (decide (zM<(lN (zO)))))] (sq (ch 9 h ?_ ?_))
  rotate_left
  ·intro yC h;refine x8 (id:=0) zk ?_;cases h;exact ⟨rfl,(sw [] [] [] [] an)⟩
  intro yC h;refine sk (sq ?_);refine yN (id:=1) zk ?_;refine sq (bE h fun zH zX h=>r2 [iH 3 { id:=0 },iF 1 xN zX] [] [(3,Ii zM),(4,Pp 0)] [] [(0,Vb 112 (uQ zH))] 1 (sq (sq (bE h fun zA yQ h=>r0 [iK 1 {} (QL F zH zA yQ)] [(5,Ii zA)] (c0 [] 16 h [] ?_ ?_)))))
  ·intro yY h;refine s2 [] [0,6,4] [(2,Ii zA)] [0] [] 1 ?_;cases h;exact rt ry
  intro yY h;refine sk (sq (bE h fun zK xS h=>?_));refine xR (mk [(0,Sq 6 xN zO),(6,Sq 6 xN zO),(7,Ii (lN (zO))),(8,Ii zM),(30,.bool zK)] [] 0) ?_ ?_
  ·replace h:=xS;rcases bft (decide (zM>(0:Int))) with yK | yK
   ·replace h:=xK yK h;refine bE h fun yH y9 h=>r1 [iH 12 Ht,iR 6 yK,iF 8 xN y9,iR 4 yK] [4] [(21,Pp 0),(22,Ii zH.At),(23,Sq 6 xN zO),(24,Ii zM),(25,Ii (zG (zM - (1:Int)))),(26,.ref (xN yH)),(27,.ref (Ii yH.At)),(28,Ii yH.At),(29,.bool (decide (zH.At<yH.At))),(30,.bool (decide (zH.At<yH.At)))] ?_;cases h;exact ⟨rfl,(sw [] [] [.s 0,.s 6,.s 7,.s 8,.s 30] [] an)⟩
   ·replace h:=xJ yK h;refine r2 [iG 3 9,iH 12 Hf,iR 10 yK] [4] [(21,.tuple []),(22,.tuple []),(23,.tuple []),(24,.tuple []),(25,.tuple []),(26,.tuple []),(27,.tuple []),(28,.tuple []),(29,.tuple []),(30,.bool false)] [0] [] 1 ?_;cases h;exact ⟨rfl,(sw [] [] [.s 0,.s 6,.s 7,.s 8,.s 30] [] an)⟩
  refine ch 30 h ?_ ?_
  rotate_left
  ·intro xF h;refine sk (r0 [] [(8,Ii (zG (zM+(1:Int))))] ?_);exact ⟨_,(sw [] [] [.s 0,.s 6,.s 7,.s 8] [] an),_,rfl,h⟩
  intro xF h;refine s1 [] [0,6] [(2,Ii 11)] ?_;cases h;exact rt ry
 intro e st1 hk;rcases zD with zZ | xD
 rotate_left
 ·obtain ⟨rfl,hf⟩:=hk;cases h;exact ⟨st1,Sub.refl _ _,.inr rfl,hf⟩
 obtain ⟨rfl,hs⟩:=hk;refine ⟨_,hs,?_⟩;refine s0 [] [(2,Ii 0)] ?_;cases h;exact rt rx
theorem MU (F:Nat) (zK:z8) (r:Int) (h:fO F zK=some r):yR prog 47 [] [] [z9 zK] [] (Ii r):=by
 refine tI Go.Proofs.Tryz.f47 ?_;unfold fO at h;refine sE [iH 0 { id:=0 }] [(1,Pp 0)] [(0,Vb 56 (wG zK))] 1 (sq (s2 [iH 6 { id:=1 }] [] [(11,.own 1 3),(12,Ii ((3:Nat):Int)),(13,Ii 0)] [] [(1,Rb 3 1 (Mi ([zK.Thread,zK.Serial,zK.Lost]:List Int)))] 2 (bE h fun zD zL h=>?_)));refine vD (K1:=(fun e st'=>match zD with | (.inl q0)=>e=.normal∧Sub 0 st' (mk [(1,Pp 0)] [(0,Vb 56 (wG zK))] 1) | (.inr q1)=>e=.ret∧vE prog Go.Proofs.Tryz.f47 0 [] (Ii q1) st')) ?_ ?_
 ·replace h:=zL;refine yN (id:=0) zk ?_;refine wz [0,1] [] [11] [] [(1,Pp 0),(11,.own 1 ((([zK.Thread,zK.Serial,zK.Lost]:List Int)).length)),(12,Ii ((3:Nat):Int)),(13,Ii 0)] [(0,Vb 56 (wG zK)),(1,Rb 3 1 (Mi ([zK.Thread,zK.Serial,zK.Lost]:List Int)))] (ac (congrArg (AV.own _) (by first | (simp;done) | (simp;omega)):(.own 1 3:AV)=.own 1 ((([zK.Thread,zK.Serial,zK.Lost]:List Int)).length)) an) ?_;refine wC (fun n st=>∃ (zM:Int),st=mk [(1,Pp 0),(11,.own 1 ((([zK.Thread,zK.Serial,zK.Lost]:List Int)).length)),(12,Ii ((3:Nat):Int)),(13,Ii zM)] [(0,Vb 56 (wG zK)),(1,Rb 3 1 (Mi ([zK.Thread,zK.Serial,zK.Lost]:List Int)))] 2∧DT F zK n zM=some zD) F zk ⟨_,rfl,h⟩ ?_ ?_
  ·rintro _ ⟨_,_,h⟩;exact wB (h:(none:Option (Unit⊕Int))=some zD)
  rintro z7 _ ⟨zM,rfl,h⟩;replace h:cS F zK (DT F zK z7) zM=some zD:=h;unfold cS at h;refine s0 [] [(14,.bool (decide (zM<((3:Nat):Int))))] (sq (ch 14 h ?_ ?_))
  rotate_left
  ·intro yC h;refine x8 (id:=0) zk ?_;cases h;exact ⟨rfl,(sw [0] [] [.s 1] [.s 0] an)⟩
  intro yC h;refine sk (sq ?_);refine yN (id:=1) zk ?_;refine sq (bE h fun zH zX h=>r0 [iH 1 { av:=Ii zH },iC (qB zX:(0:Int)≤zM),iC (by first | (simp;done) | simpa using t7 zX:zM<(((([zK.Thread,zK.Serial,zK.Lost]:List Int)).length:Nat):Int)),iC (t9 zX:(Mi ([zK.Thread,zK.Serial,zK.Lost]:List Int))[(zM).toNat]?=some (Ii zH))] [(4,Ii zH)] (ad 22 h ?_ ?_ ?_))
  ·rcases bft (decide (zH<(0:Int))) with yK | yK
   ·exact rm [iG 3 2,iH 5 Ht,iR 3 yK] (ort yK)
   ·exact rm [iH 5 Hf,iR 3 yK] (orf yK rfl)
  rotate_left
  ·intro yY h;refine sk (r0 [] [(13,Ii (zG (zM+(1:Int))))] ?_);exact ⟨_,(sw [0,1] [] [.s 1,.s 11,.s 12,.s 13] [.s 0,.s 1] an),_,rfl,h⟩
  intro yY h;refine s2 [] [1,11] [(2,Ii 2)] [0,1] [] 2 ?_;cases h;exact rt ry
 intro e st1 hk;rcases zD with zZ | xD
 rotate_left
 ·obtain ⟨rfl,hf⟩:=hk;cases h;exact ⟨st1,Sub.refl _ _,.inr rfl,hf⟩
 obtain ⟨rfl,hs⟩:=hk;refine ⟨_,hs,?_⟩;refine sq ?_;refine yN (id:=2) zk ?_;refine sq (s0 [] [(24,.bool (decide (zK.Lost>zK.Serial)))] (bE h fun zR yQ h=>?_));refine xR (mk [(1,Pp 0),(24,.bool zR)] [(0,Vb 56 (wG zK))] 1) ?_ ?_
 ·replace h:=yQ;refine ch 24 h ?_ ?_
  ·intro xF h;refine sk ?_;cases h;exact ⟨rfl,(sw [0] [] [.s 1,.s 24] [.s 0] an)⟩
  intro xF h;refine r0 [iN 4 xN zK.Events] [(24,.bool (decide ((zG (zK.Serial+(lN (zK.Events))))>(1000000000000000:Int))))] ?_;cases h;exact ⟨rfl,(sw [0] [] [.s 1,.s 24] [.s 0] an)⟩
 refine ch 24 h ?_ ?_
 ·intro wV h;refine s2 [] [1] [(2,Ii 2)] [0] [] 1 ?_;cases h;exact rt rx
 intro wV h;refine c0 [iN 2 xN zK.Events] 37 h [] ?_ ?_
 ·intro vM h;refine s2 [] [1] [(2,Ii 8)] [0] [] 1 ?_;cases h;exact rt rx
 intro vM h;refine c0 [iN 2 xN zK.Events] 42 h [] ?_ ?_
 ·intro uM h;refine s2 [] [1] [(2,Ii 7)] [0] [] 1 ?_;cases h;exact rt rx
 intro uM h;refine sk (sq (bE h fun zA y9 h=>r2 [iK 2 {} (zGq F zK.Events zA y9)] [1] [(2,Ii zA)] [0] [] 1 ?_));cases h;exact rt rx
theorem zFe (F:Nat) (zI:List (List Int)) (yJ:List Int) (r:Int) (h:ET F zI yJ=some r):yR prog 154 [] [] [Ss zI,.str yJ] [] (Ii r):=by
 refine tI Go.Proofs.Tryz.f154 ?_;unfold ET at h;refine sE [] [(0,Ss zI),(1,.str yJ)] [] 0 (sq (s0 [iN 1 AV.str zI] [(7,Ii (lN (zI))),(8,Ii 0)] (bE h fun zD zL h=>?_)));refine vD (K1:=(fun e st'=>match zD with | (.inl q0)=>e=.normal∧Sub 0 st' (mk [] [] 0) | (.inr q1)=>e=.ret∧vE prog Go.Proofs.Tryz.f154 0 [] (Ii q1) st')) ?_ ?_
 ·replace h:=zL;refine yN (id:=0) zk ?_;refine w0 [] [] [(0,Ss zI),(1,.str yJ),(7,Ii (lN (zI))),(8,Ii 0)] [] ?_;refine wC (fun n st=>∃ (zM:Int),st=mk [(0,Ss zI),(1,.str yJ),(7,Ii (lN (zI))),(8,Ii zM)] [] 0∧C8 F zI yJ n zM=some zD) F zk ⟨_,rfl,h⟩ ?_ ?_
  ·rintro _ ⟨_,_,h⟩;exact wB (h:(none:Option (Unit⊕Int))=some zD)
  rintro z7 _ ⟨zM,rfl,h⟩;replace h:gU F zI yJ (C8 F zI yJ z7) zM=some zD:=h;unfold gU at h;refine s0 [] [(9,.bool (decide (zM<(lN (zI)))))] (sq (ch 9 h ?_ ?_))
  rotate_left
  ·intro yC h;refine x8 (id:=0) zk ?_;cases h;exact ⟨rfl,(sw [] [] [] [] an)⟩
  intro yC h;refine sk (sq ?_);refine yN (id:=1) zk ?_;refine s0 [] [(5,Ii zM)] (sq (bE h fun zH zX h=>r0 [iF 3 AV.str zX] [(16,.bool (yJ==zH))] (ch 16 h ?_ ?_)))
  rotate_left
  ·intro yY h;refine sk (r0 [] [(8,Ii (zG (zM+(1:Int))))] ?_);exact ⟨_,(sw [] [] [.s 0,.s 1,.s 7,.s 8] [] an),_,rfl,h⟩
  intro yY h;refine s1 [] [0] [(4,Ii zM)] ?_;cases h;exact rt ry
 intro e st1 hk;rcases zD with zZ | xD
 rotate_left
 ·obtain ⟨rfl,hf⟩:=hk;cases h;exact ⟨st1,Sub.refl _ _,.inr rfl,hf⟩
 obtain ⟨rfl,hs⟩:=hk;refine ⟨_,hs,?_⟩;refine s0 [] [(4,Ii (-1))] ?_;cases h;exact rt rx
theorem zEE (zI:List (List Int)) (r:(List (List Int))) (h:JM zI=some r):yR prog 155 [] [] [Ss zI] [.row 9 1 (Ms r)] (.own 0 ((r).length)):=by
 refine tI Go.Proofs.Tryz.f155 ?_;unfold JM at h;refine sE [iH 0 { id:=0,m:=1 }] [(0,Ss zI)] [] 1 (sq (s0 [] [(4,.nb (Ms zI))] ?_));refine GR (t:=4) (l:=(Ms zI)) zk zk ?_ ?_
 ·intro zX;replace zX:=List.map_eq_nil_iff.1 zX;replace h:=Eq.trans (show (some [])=((need (((([]:List (List Int))).length+(zI).length) * 16≤140737488355328)).bind fun _ =>
 some ([]++zI)) from by simp [zX,need]) h
  refine sE [iH 0 { id:=1,m:=1 }] [(2,.own 1 0)] [(1,Rb 9 1 [])] 2 (wz [1] [] [2] [] [(2,.own 0 ((([]:List (List Int))).length))] [(0,Rb 9 1 [])] (ac (congrArg (AV.own _) (by first | (simp;done) | (simp;omega)):(.own 1 0:AV)=.own 1 ((([]:List (List Int))).length)) an) ?_);cases h;exact rt rx
 refine sk (sq (nE h fun zL h=>rE [iH 0 { id:=1 },iH 2 { id:=2,l:=(Ms ([]++zI)),n:=(([]++zI)).length },iA 0,iC trivial,iC (by simp:(List.map AV.str ([]++zI))=[]++(List.map AV.str zI)),iC (by simp:(([]++zI)).length=((List.map AV.str ([]++zI))).length),iC (by first | (simp;done) | simpa using zL:(([]:List AV).length+((List.map AV.str zI):List AV).length) * 16≤140737488355328)] [(2,.own 2 ((([]++zI)).length))] [(2,Rb 9 1 (Ms ([]++zI)))] 3 (w0 [2] [] [(2,.own 0 ((([]++zI)).length))] [(0,Rb 9 1 (Ms ([]++zI)))] ?_)));cases h;exact rt rx
theorem WE (F:Nat) (zW:List (List Int)) (zI:List Int) (r:Int×(List (List Int))×Int) (h:CA F zW zI=some r):yR prog 132 [] [] [Ss zW,.str zI] [] (.tuple [Ii r.1,Ss r.2.1,Ii r.2.2]):=by
 refine tI Go.Proofs.Tryz.f132 ?_;unfold CA at h;refine sE [] [(0,Ss zW),(1,.str zI)] [] 0 (sq (sq (bE h fun zA zL h=>r0 [iK 1 {} (H1 F zI zA zL)] [(7,Ii zA)] (c0 [] 12 h [] ?_ ?_))))
 ·intro yC h;refine s1 [] [0] [(4,Ii 0),(5,Ss zW),(6,Ii zA)] ?_;cases h;exact rt rx
 intro yC h;refine sk (sq (sq (bE h fun zC zX h=>r0 [iK 2 {} (zFe F zW zI zC zX)] [(8,Ii zC)] (c0 [] 19 h [] ?_ ?_))))
 ·intro yY h;refine s1 [] [0] [(4,Ii zC),(5,Ss zW),(6,Ii 0)] ?_;cases h;exact rt rx
 intro yY h;refine sk (sq (c0 [iN 1 AV.str zW] 24 h [] ?_ ?_))
 ·intro xF h;refine s1 [] [0] [(4,Ii 0),(5,Ss zW),(6,Ii 6)] ?_;cases h;exact rt rx
 intro xF h;refine sk (sq (bE h fun zJ yQ h=>nE h fun y9 h=>r2 [iH 5 { id:=1 },iH 6 { id:=2,l:=(Ms (zJ++([zI]:List (List Int)))),n:=((zJ++([zI]:List (List Int)))).length },iN 1 AV.str zW,iK 3 { ids:=[0] } (zEE zW zJ yQ),iM AV.str zJ,iA 1,iC (uE _ _:(Ms (zJ++([zI]:List (List Int))))=(Ms zJ)++(Ms ([zI]:List (List Int)))),iC (by simp:((zJ++([zI]:List (List Int)))).length=((List.map AV.str (zJ++([zI]:List (List Int))))).length),iC (by first | (simp;done) | simpa using y9:(((List.map AV.str zJ):List AV).length+((List.map AV.str ([zI]:List (List Int))):List AV).length) * 16≤140737488355328)] [0] [(4,Ii (lN (zW))),(5,.own 2 (((zJ++([zI]:List (List Int)))).length)),(6,Ii 0)] [] [(2,Rb 9 1 (Ms (zJ++([zI]:List (List Int)))))] 3 (wz [] [2] [5] [] [(4,Ii (lN (zW))),(5,Ss (zJ++([zI]:List (List Int)))),(6,Ii 0)] [] (ac (by first | (simp;done) | (simp;omega):((zJ++([zI]:List (List Int)))).length=((List.map AV.str (zJ++([zI]:List (List Int))))).length) (ar 1 (ar ((Ms (zJ++([zI]:List (List Int)))):List AV) (ar true an)))) ?_)));cases h;exact rt rx
theorem zEt (zI:List (zQ)) (r:(List (zQ))) (h:KH zI=some r):yR prog 157 [] [] [Sq 2 yB zI] [.row 144 2 (Mp yB r)] (.own 0 ((r).length)):=by
 refine tI Go.Proofs.Tryz.f157 ?_;unfold KH at h;refine sE [iH 0 { id:=0,m:=1 }] [(0,Sq 2 yB zI)] [] 1 (sq (s0 [] [(4,.nb (Mp yB zI))] ?_));refine GR (t:=4) (l:=(Mp yB zI)) zk zk ?_ ?_
 ·intro zX;replace zX:=List.map_eq_nil_iff.1 zX;replace h:=Eq.trans (show (some [])=((need (((([]:List zQ)).length+(zI).length) * 16≤140737488355328)).bind fun _ =>
 some ([]++zI)) from by simp [zX,need]) h
  refine sE [iH 0 { id:=1,m:=1 }] [(2,.own 1 0)] [(1,Rb 144 2 [])] 2 (wz [1] [] [2] [] [(2,.own 0 ((([]:List zQ)).length))] [(0,Rb 144 2 [])] (ac (congrArg (AV.own _) (by first | (simp;done) | (simp;omega)):(.own 1 0:AV)=.own 1 ((([]:List zQ)).length)) an) ?_);cases h;exact rt rx
 refine sk (sq (nE h fun zL h=>rE [iH 0 { id:=1 },iH 2 { id:=2,l:=(Mp yB ([]++zI)),n:=(([]++zI)).length },iA 0,iC trivial,iC (by simp:(List.map yB ([]++zI))=[]++(List.map yB zI)),iC (by simp:(([]++zI)).length=((List.map yB ([]++zI))).length),iC (by first | (simp;done) | simpa using zL:(([]:List AV).length+((List.map yB zI):List AV).length) * 16≤140737488355328)] [(2,.own 2 ((([]++zI)).length))] [(2,Rb 144 2 (Mp yB ([]++zI)))] 3 (w0 [2] [] [(2,.own 0 ((([]++zI)).length))] [(0,Rb 144 2 (Mp yB ([]++zI)))] ?_)));cases h;exact rt rx
theorem zCt (F:Nat) (zI:List (zQ)) (yJ:zQ) (r:Int) (h:CO F zI yJ=some r):yR prog 158 [] [] [Sq 2 yB zI,.agg [Ii yJ.c0,Ii yJ.c1]] [] (Ii r):=by
 refine tI Go.Proofs.Tryz.f158 ?_;unfold CO at h;refine sE [iH 0 { id:=0 }] [(0,Sq 2 yB zI),(3,Pp 0)] [(0,Vb 144 [Ii yJ.c0,Ii yJ.c1])] 1 (sq (s0 [iN 1 yB zI] [(7,Ii (lN (zI))),(8,Ii 0)] (bE h fun zD zL h=>?_)));refine vD (K1:=(fun e st'=>match zD with | (.inl q0)=>e=.normal∧Sub 0 st' (mk [] [] 0) | (.inr q1)=>e=.ret∧vE prog Go.Proofs.Tryz.f158 0 [] (Ii q1) st')) ?_ ?_
 ·replace h:=zL;refine yN (id:=0) zk ?_;refine w0 [0] [] [(0,Sq 2 yB zI),(3,Pp 0),(7,Ii (lN (zI))),(8,Ii 0)] [(0,Vb 144 [Ii yJ.c0,Ii yJ.c1])] ?_;refine wC (fun n st=>∃ (zM:Int),st=mk [(0,Sq 2 yB zI),(3,Pp 0),(7,Ii (lN (zI))),(8,Ii zM)] [(0,Vb 144 [Ii yJ.c0,Ii yJ.c1])] 1∧GD F zI yJ n zM=some zD) F zk ⟨_,rfl,h⟩ ?_ ?_
  ·rintro _ ⟨_,_,h⟩;exact wB (h:(none:Option (Unit⊕Int))=some zD)
  rintro z7 _ ⟨zM,rfl,h⟩;replace h:mB F zI yJ (GD F zI yJ z7) zM=some zD:=h;unfold mB at h;refine s0 [] [(9,.bool (decide (zM<(lN (zI)))))] (sq (ch 9 h ?_ ?_))
  rotate_left
  ·intro yC h;refine x8 (id:=0) zk ?_;cases h;exact ⟨rfl,(sw [] [] [] [] an)⟩
  intro yC h;refine sk (sq ?_);refine yN (id:=1) zk ?_;refine s0 [] [(5,Ii zM)] (sq (bE h fun zH zX h=>r0 [iH 5 { b:=(decide (yJ=zH)),mks:=[.int .i64,.int .i64] },iF 3 yB zX,iC (W2:pJ prog 144 [.int .i64,.int .i64]),iC (o4 (f:=yB) LE yJ zH:((decide (yJ=zH))=true↔AV.agg [Ii yJ.c0,Ii yJ.c1]=AV.agg [Ii zH.c0,Ii zH.c1]))] [(16,.bool (decide (yJ=zH)))] (ch 16 h ?_ ?_)))
  rotate_left
  ·intro yY h;refine sk (r0 [] [(8,Ii (zG (zM+(1:Int))))] ?_);exact ⟨_,(sw [0] [] [.s 0,.s 3,.s 7,.s 8] [.s 0] an),_,rfl,h⟩
  intro yY h;refine s2 [] [0,3] [(4,Ii zM)] [0] [] 1 ?_;cases h;exact rt ry
 intro e st1 hk;rcases zD with zZ | xD
 rotate_left
 ·obtain ⟨rfl,hf⟩:=hk;cases h;exact ⟨st1,Sub.refl _ _,.inr rfl,hf⟩
 obtain ⟨rfl,hs⟩:=hk;refine ⟨_,hs,?_⟩;refine s0 [] [(4,Ii (-1))] ?_;cases h;exact rt rx
theorem zBw (F:Nat) (zW:List (List Int)) (z0:List (zQ)) (zO:List (List Int)) (r:Int×(List (List Int))×(List (zQ))×Int) (h:AB F zW z0 zO=some r):yR prog 133 [] [] [Ss zW,Sq 2 yB z0,Ss zO] [] (.tuple [Ii r.1,Ss r.2.1,Sq 2 yB r.2.2.1,Ii r.2.2.2]):=by
 refine tI Go.Proofs.Tryz.f133 ?_;unfold AB at h;refine sE [] [(0,Ss zW),(1,Sq 2 yB z0),(2,Ss zO)] [] 0 (sq (sq (bE h fun zA zL h=>r0 [iK 1 {} (VB F zO zA zL)] [(10,Ii zA)] (c0 [] 23 h [] ?_ ?_))))
 ·intro yC h;refine s1 [] [0,1,2] [(6,Ii 0),(7,Ss zW),(8,Sq 2 yB z0),(9,Ii zA)] ?_;cases h;exact rt rx
 intro yC h;refine sk (sq (bE h fun zC zX h=>r2 [iK 2 { ids:=[0] } (zEt z0 zC zX)] [] [(11,Ii (-1)),(12,Ss zW),(13,.own 0 ((zC).length))] [] [(0,Rb 144 2 (Mp yB zC))] 1 (sq (s1 [iN 1 AV.str zO] [2] [(30,Ss zO),(31,Ii (lN (zO))),(32,Ii 0)] (bE h fun zD yQ h=>?_)))));refine vD (K1:=(fun e st'=>match zD with | (.inl q0)=>e=.normal∧Sub 0 st' (mk [(11,Ii q0.1),(12,Ss q0.2.1),(13,.own 0 ((q0.2.2).length))] [(0,Rb 144 2 (Mp yB q0.2.2))] 1) | (.inr q1)=>e=.ret∧vE prog Go.Proofs.Tryz.f133 0 [] (.tuple [Ii q1.1,Ss q1.2.1,Sq 2 yB q1.2.2.1,Ii q1.2.2.2]) st')) ?_ ?_
 ·replace h:=yQ;refine yN (id:=0) zk ?_;refine w0 [0] [] [(0,Ss zW),(1,Sq 2 yB z0),(11,Ii (-1)),(12,Ss zW),(13,.own 0 ((zC).length)),(30,Ss zO),(31,Ii (lN (zO))),(32,Ii 0)] [(0,Rb 144 2 (Mp yB zC))] ?_;refine wC (fun n st=>∃ (xI:Int),∃ (z7:List (List Int)),∃ (zM:Int),∃ (zF:List zQ),st=mk [(0,Ss zW),(1,Sq 2 yB z0),(11,Ii xI),(12,Ss z7),(13,.own 0 ((zF).length)),(30,Ss zO),(31,Ii (lN (zO))),(32,Ii zM)] [(0,Rb 144 2 (Mp yB zF))] 1∧B9 F zW z0 zO n xI z7 zM zF=some zD) F zk ⟨_,_,_,_,rfl,h⟩ ?_ ?_
  ·rintro _ ⟨_,_,_,_,_,h⟩;exact wB (h:(none:Option ((Int×(List (List Int))×(List zQ))⊕(Int×(List (List Int))×(List (zQ))×Int)))=some zD)
  rintro uI _ ⟨xI,z7,zM,zF,rfl,h⟩;replace h:G0 F zW z0 zO (B9 F zW z0 zO uI) xI z7 zM zF=some zD:=h;unfold G0 at h;refine s0 [] [(33,.bool (decide (zM<(lN (zO)))))] (sq (ch 33 h ?_ ?_))
  rotate_left
  ·intro yY h;refine x8 (id:=0) zk ?_;cases h;exact ⟨rfl,(sw [0] [] [.s 11,.s 12,.s 13] [.s 0] an)⟩
  intro yY h;refine sk (sq ?_);refine yN (id:=1) zk ?_;refine sq (bE h fun zH y9 h=>r0 [iF 0 AV.str y9] [(15,.str zH)] (sq (bE h fun zJ xS h=>r1 [iK 2 {} (WE F z7 zH zJ xS)] [12] [(16,Ii zJ.1),(17,Ss zJ.2.1),(18,Ii zJ.2.2)] (sq (c0 [] 44 h [] ?_ ?_)))))
  ·intro xF h;refine s2 [] [0,1,13,30,17] [(6,Ii 0),(7,Ss zW),(8,Sq 2 yB z0),(9,Ii zJ.2.2)] [0] [] 1 ?_;cases h;exact rt ry
  intro xF h;refine sk (s1 [] [17] [(12,Ss zJ.2.1)] (s2 [iH 3 { id:=1 }] [] [(19,Pp 1)] [] [(1,Vb 144 [Ii xI,Ii zJ.1])] 2 (sq (sq (bE h fun zS wA h=>r0 [iM yB zF,iL 2 { lend:=[0] } [Sq 2 yB zF,.agg [Ii xI,Ii zJ.1]] (zCt F zF (⟨xI,zJ.1⟩:zQ) zS wA) ⟨rfl,rfl,rfl,rfl,rfl,trivial⟩] [(11,Ii zS)] (c0 [] 56 h [] ?_ ?_))))))
  ·intro wV h;refine x8 (id:=1) zk ?_;refine rE [] [(0,Ss zW),(1,Sq 2 yB z0),(11,Ii zS),(12,Ss zJ.2.1),(13,.own 0 ((zF).length)),(30,Ss zO),(31,Ii (lN (zO))),(32,Ii (zG (zM+(1:Int))))] [(0,Rb 144 2 (Mp yB zF))] 2 ?_;exact ⟨_,(sw [0] [] [.s 0,.s 1,.s 11,.s 12,.s 13,.s 30,.s 31,.s 32] [.s 0] an),_,_,_,_,rfl,h⟩
  intro wV h;refine sk (sq (c0 [] 59 h [] ?_ ?_))
  ·intro vM h;refine s2 [] [0,1,13,30,12,19] [(6,Ii 0),(7,Ss zW),(8,Sq 2 yB z0),(9,Ii 6)] [0,1] [] 2 ?_;cases h;exact rt ry
  intro vM h;refine sk (s0 [] [(11,Ii (lN (zF)))] (nE h fun wP h=>r2 [iH 2 { id:=2 },iH 3 { id:=3,l:=(Mp yB (zF++([(⟨xI,zJ.1⟩:zQ)]:List zQ))),n:=((zF++([(⟨xI,zJ.1⟩:zQ)]:List zQ))).length },iM yB zF,iC (by first | (simp;done) | (simp;omega):1=((List.map yB ([(⟨xI,zJ.1⟩:zQ)]:List zQ))).length),iC (uE _ _:(Mp yB (zF++([(⟨xI,zJ.1⟩:zQ)]:List zQ)))=(Mp yB zF)++(Mp yB ([(⟨xI,zJ.1⟩:zQ)]:List zQ))),iC (by simp:((zF++([(⟨xI,zJ.1⟩:zQ)]:List zQ))).length=((List.map yB (zF++([(⟨xI,zJ.1⟩:zQ)]:List zQ)))).length),iC (by first | (simp;done) | simpa using wP:(((List.map yB zF):List AV).length+((List.map yB ([(⟨xI,zJ.1⟩:zQ)]:List zQ)):List AV).length) * 16≤140737488355328)] [19] [(13,.own 3 (((zF++([(⟨xI,zJ.1⟩:zQ)]:List zQ))).length))] [0,1] [(3,Rb 144 2 (Mp yB (zF++([(⟨xI,zJ.1⟩:zQ)]:List zQ))))] 4 (r0 [] [(32,Ii (zG (zM+(1:Int))))] ?_)));exact ⟨_,(sw [3] [] [.s 0,.s 1,.s 11,.s 12,.s 13,.s 30,.s 31,.s 32] [.s 0] an),_,_,_,_,rfl,h⟩
 intro e st1 hk;rcases zD with zZ | xD
 rotate_left
 ·obtain ⟨rfl,hf⟩:=hk;cases h;exact ⟨st1,Sub.refl _ _,.inr rfl,hf⟩
 obtain ⟨rfl,hs⟩:=hk;refine ⟨_,hs,?_⟩;refine s1 [] [12,13] [(6,Ii zZ.1),(7,Ss zZ.2.1),(8,.own 0 ((zZ.2.2).length)),(9,Ii 0)] (wz [] [0] [8] [] [(6,Ii zZ.1),(7,Ss zZ.2.1),(8,Sq 2 yB zZ.2.2),(9,Ii 0)] [] (ac (by first | (simp;done) | (simp;omega):(zZ.2.2).length=((List.map yB zZ.2.2)).length) (ar 2 (ar ((Mp yB zZ.2.2):List AV) (ar true an)))) ?_);cases h;exact rt rx
end Go.Ab
