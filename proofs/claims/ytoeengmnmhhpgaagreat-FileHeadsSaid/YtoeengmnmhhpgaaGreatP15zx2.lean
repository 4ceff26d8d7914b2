/- Printed: the typed Lean functions of the Go functions, or the proofs that the Go functions meet them. No conditions but those that the theorems name. -/
import Derived.Test.YtoeengmnmhhpgaaGreatP15zx1
namespace Go.Ab
open Go
set_option linter.unusedVariables false
theorem OI (F:Nat) (zC:List (Int)) (r:z6×Bool) (h:BY F zC=some r):yK prog 70 [] [] [Sb zC] [] (.tuple [vC r.1,.bool r.2]):=by
 refine tI Go.Proofs.Tryz.f70 ?_;unfold BY at h;refine sE [iH 0 { id:=0 }] [(0,Sb zC),(2,Pp 0)] [(0,Vb 28 [.nilsl,.nilsl,.nilsl])] 1 ?_;refine uP (tQ 0 0 1 85 3 zk) ?_;refine uP (tQ 0 1 2 87 2 zk) ?_;refine uP (tQ 0 2 3 76 5 zk) ?_;refine w0 [0,1,2,3] [] [(0,Sb zC),(2,Pp 0)] [(0,q7),(1,Rb 85 3 []),(2,Rb 87 2 []),(3,Rb 76 5 [])] (s2 [iH 2 { id:=4 }] [] [(4,Pp 4)] [] [(4,Vb 157 [Sb zC,.bool false])] 5 (s2 [iH 0 { id:=5 }] [] [(5,Pp 5)] [] [(5,Vb 28 [.nilsl,.nilsl,.nilsl])] 6 ?_));refine uP (tQ 5 0 6 85 3 zk) ?_;refine uP (tQ 5 1 7 87 2 zk) ?_;refine uP (tQ 5 2 8 76 5 zk) ?_;refine w0 [0,1,2,3,4,5,6,7,8] [] [(0,Sb zC),(2,Pp 0),(4,Pp 4),(5,Pp 5)] [(0,q7),(1,Rb 85 3 []),(2,Rb 87 2 []),(3,Rb 76 5 []),(4,Vb 157 [Sb zC,.bool false]),(5,Vb 28 [.own 6 0,.own 7 0,.own 8 0]),(6,Rb 85 3 []),(7,Rb 87 2 []),(8,Rb 76 5 [])] (sq (sq (bE h fun zA zH h=>r2 [iJ 1 { ids:=[4] } ([Pp 4,Ii 64]:List AV) (CP F (⟨zC,false⟩:wU) (64:Int) zA zH)] [] [(13,Ii zA.1),(14,Ii 0)] [] [(4,Vb 157 (vW zA.2))] 9 (bE h fun zD zS h=>?_))));refine xL (mk [(0,Sb zC),(2,Pp 0),(4,Pp 4),(5,Pp 5)] [(0,q7),(1,Rb 85 3 []),(2,Rb 87 2 []),(3,Rb 76 5 []),(4,Vb 157 [Sb zD.1,.bool zD.2.1]),(5,Vb 28 [.own 6 ((zD.2.2).length),.own 7 0,.own 8 0]),(6,Rb 85 3 (Mp zZ zD.2.2)),(7,Rb 87 2 []),(8,Rb 76 5 [])] 9) ?_ ?_
 ·replace h:=zS;refine yR (id:=0) zk ?_;refine w0 [0,1,2,3,4,5,6,7,8] [] [(0,Sb zC),(2,Pp 0),(4,Pp 4),(5,Pp 5),(13,Ii zA.1),(14,Ii 0)] [(0,q7),(1,Rb 85 3 []),(2,Rb 87 2 []),(3,Rb 76 5 []),(4,Vb 157 (vW zA.2)),(5,Vb 28 [.own 6 0,.own 7 0,.own 8 0]),(6,Rb 85 3 []),(7,Rb 87 2 []),(8,Rb 76 5 [])] ?_;refine x8 (fun n st=>∃ (zJ:Int),∃ (zB:List Int),∃ (yN:Bool),∃ (zL:List y6),st=mk [(0,Sb zC),(2,Pp 0),(4,Pp 4),(5,Pp 5),(13,Ii zA.1),(14,Ii zJ)] [(0,q7),(1,Rb 85 3 []),(2,Rb 87 2 []),(3,Rb 76 5 []),(4,Vb 157 [Sb zB,.bool yN]),(5,Vb 28 [.own 6 ((zL).length),.own 7 0,.own 8 0]),(6,Rb 85 3 (Mp zZ zL)),(7,Rb 87 2 []),(8,Rb 76 5 [])] 9∧l6 F zA n zJ zB yN zL=some zD) F zk ⟨_,_,_,_,rfl,h⟩ ?_ ?_
  ·rintro _ ⟨_,_,_,_,_,h⟩;exact x7 (h:(none:Option ((List Int)×Bool×(List y6)))=some zD)
  rintro z4 _ ⟨zJ,zB,yN,zL,rfl,h⟩;replace h:BQ F zA (l6 F zA z4) zJ zB yN zL=some zD:=h;unfold BQ at h;refine s0 [] [(15,.bool (decide (zJ<zA.1)))] (sq (ch 15 h ?_ ?_))
  rotate_left
  ·intro yC h;refine x4 (id:=0) zk ?_;cases h;exact ⟨rfl,(sw [0,1,2,3,4,5,6,7,8] [] [.s 0,.s 2,.s 4,.s 5] [.s 0,.s 1,.s 2,.s 3,.s 4,.s 5,.s 6,.s 7,.s 8] an)⟩
  intro yC h;refine sk (sq ?_);refine yR (id:=1) zk ?_;refine sq (bE h fun zF yU h=>bE h fun zN xB h=>r2 [iJ 1 { ids:=[4] } ([Pp 4]:List AV) (kN F (⟨zB,yN⟩:wU) zF yU),iJ 3 { ids:=[4] } ([Pp 4]:List AV) (RZ F zF.2 zN xB)] [] [(6,Ii zF.1),(7,.str zN.1)] [] [(4,Vb 157 (vW zN.2))] 9 (bE h fun zV xJ h=>nE h fun x3 h=>r2 [iH 7 { id:=9 },iH 8 { id:=10,l:=(Mp zZ (zL++([(⟨zF.1,zN.1,zV.1⟩:y6)]:List y6))),n:=((zL++([(⟨zF.1,zN.1,zV.1⟩:y6)]:List y6))).length },iJ 5 { ids:=[4] } ([Pp 4]:List AV) (kN F zN.2 zV xJ),iM zZ zL,iC (by first | (simp;done) | (simp;omega):1=((List.map zZ ([(⟨zF.1,zN.1,zV.1⟩:y6)]:List y6))).length),iC (uD _ _:(Mp zZ (zL++([(⟨zF.1,zN.1,zV.1⟩:y6)]:List y6)))=(Mp zZ zL)++(Mp zZ ([(⟨zF.1,zN.1,zV.1⟩:y6)]:List y6))),iC (by simp:((zL++([(⟨zF.1,zN.1,zV.1⟩:y6)]:List y6))).length=((List.map zZ (zL++([(⟨zF.1,zN.1,zV.1⟩:y6)]:List y6)))).length),iC (by first | (simp;done) | simpa using x3:(((List.map zZ zL):List AV).length+((List.map zZ ([(⟨zF.1,zN.1,zV.1⟩:y6)]:List y6)):List AV).length) * 32≤140737488355328)] [] [] [6] [(4,Vb 157 (vW zV.2)),(5,Vb 28 [.own 10 (((zL++([(⟨zF.1,zN.1,zV.1⟩:y6)]:List y6))).length),.own 7 0,.own 8 0]),(10,Rb 85 3 (Mp zZ (zL++([(⟨zF.1,zN.1,zV.1⟩:y6)]:List y6))))] 11 (r0 [] [(14,Ii (zI (zJ+(1:Int))))] ?_)));exact ⟨_,(sw [0,1,2,3,4,5,10,7,8] [] [.s 0,.s 2,.s 4,.s 5,.s 13,.s 14] [.s 0,.s 1,.s 2,.s 3,.s 4,.s 5,.s 6,.s 7,.s 8] an),_,_,_,_,rfl,h⟩
 refine sq (sq (bE h fun zU wP h=>r2 [iJ 1 { ids:=[4] } ([Pp 4,Ii 8]:List AV) (CP F (⟨zD.1,zD.2.1⟩:wU) (8:Int) zU wP)] [] [(32,Ii zU.1),(33,Ii 0)] [] [(4,Vb 157 (vW zU.2))] 9 (bE h fun zT w6 h=>?_)));refine xL (mk [(0,Sb zC),(2,Pp 0),(4,Pp 4),(5,Pp 5)] [(0,q7),(1,Rb 85 3 []),(2,Rb 87 2 []),(3,Rb 76 5 []),(4,Vb 157 [Sb zT.1,.bool zT.2.1]),(5,Vb 28 [.own 6 ((zD.2.2).length),.own 7 ((zT.2.2).length),.own 8 0]),(6,Rb 85 3 (Mp zZ zD.2.2)),(7,Rb 87 2 (Mp zR zT.2.2)),(8,Rb 76 5 [])] 9) ?_ ?_
 ·replace h:=w6;refine yR (id:=2) zk ?_;refine w0 [0,1,2,3,4,5,6,7,8] [] [(0,Sb zC),(2,Pp 0),(4,Pp 4),(5,Pp 5),(32,Ii zU.1),(33,Ii 0)] [(0,q7),(1,Rb 85 3 []),(2,Rb 87 2 []),(3,Rb 76 5 []),(4,Vb 157 (vW zU.2)),(5,Vb 28 [.own 6 ((zD.2.2).length),.own 7 0,.own 8 0]),(6,Rb 85 3 (Mp zZ zD.2.2)),(7,Rb 87 2 []),(8,Rb 76 5 [])] ?_;refine x8 (fun n st=>∃ (xK:Int),∃ (yP:List Int),∃ (yI:Bool),∃ (zY:List yQ),st=mk [(0,Sb zC),(2,Pp 0),(4,Pp 4),(5,Pp 5),(32,Ii zU.1),(33,Ii xK)] [(0,q7),(1,Rb 85 3 []),(2,Rb 87 2 []),(3,Rb 76 5 []),(4,Vb 157 [Sb yP,.bool yI]),(5,Vb 28 [.own 6 ((zD.2.2).length),.own 7 ((zY).length),.own 8 0]),(6,Rb 85 3 (Mp zZ zD.2.2)),(7,Rb 87 2 (Mp zR zY)),(8,Rb 76 5 [])] 9∧m6 F zU n xK yP yI zY=some zT) F zk ⟨_,_,_,_,rfl,h⟩ ?_ ?_
  ·rintro _ ⟨_,_,_,_,_,h⟩;exact x7 (h:(none:Option ((List Int)×Bool×(List yQ)))=some zT)
  rintro uB _ ⟨xK,yP,yI,zY,rfl,h⟩;replace h:EW F zU (m6 F zU uB) xK yP yI zY=some zT:=h;unfold EW at h;refine s0 [] [(34,.bool (decide (xK<zU.1)))] (sq (ch 34 h ?_ ?_))
  rotate_left
  ·intro y0 h;refine x4 (id:=2) zk ?_;cases h;exact ⟨rfl,(sw [0,1,2,3,4,5,6,7,8] [] [.s 0,.s 2,.s 4,.s 5] [.s 0,.s 1,.s 2,.s 3,.s 4,.s 5,.s 6,.s 7,.s 8] an)⟩
  intro y0 h;refine sk (sq ?_);refine yR (id:=3) zk ?_;refine sq (bE h fun yB vF h=>r2 [iJ 1 { ids:=[4] } ([Pp 4]:List AV) (kN F (⟨yP,yI⟩:wU) yB vF)] [] [(8,Ii yB.1)] [] [(4,Vb 157 (vW yB.2))] 9 (bE h fun yY vN h=>nE h fun v7 h=>r2 [iH 6 { id:=9 },iH 7 { id:=10,l:=(Mp zR (zY++([(⟨yB.1,yY.1⟩:yQ)]:List yQ))),n:=((zY++([(⟨yB.1,yY.1⟩:yQ)]:List yQ))).length },iJ 4 { ids:=[4] } ([Pp 4]:List AV) (kN F yB.2 yY vN),iM zR zY,iC (by first | (simp;done) | (simp;omega):1=((List.map zR ([(⟨yB.1,yY.1⟩:yQ)]:List yQ))).length),iC (uD _ _:(Mp zR (zY++([(⟨yB.1,yY.1⟩:yQ)]:List yQ)))=(Mp zR zY)++(Mp zR ([(⟨yB.1,yY.1⟩:yQ)]:List yQ))),iC (by simp:((zY++([(⟨yB.1,yY.1⟩:yQ)]:List yQ))).length=((List.map zR (zY++([(⟨yB.1,yY.1⟩:yQ)]:List yQ)))).length),iC (by first | (simp;done) | simpa using v7:(((List.map zR zY):List AV).length+((List.map zR ([(⟨yB.1,yY.1⟩:yQ)]:List yQ)):List AV).length) * 16≤140737488355328)] [] [] [7] [(4,Vb 157 (vW yY.2)),(5,Vb 28 [.own 6 ((zD.2.2).length),.own 10 (((zY++([(⟨yB.1,yY.1⟩:yQ)]:List yQ))).length),.own 8 0]),(10,Rb 87 2 (Mp zR (zY++([(⟨yB.1,yY.1⟩:yQ)]:List yQ))))] 11 (r0 [] [(33,Ii (zI (xK+(1:Int))))] ?_)));exact ⟨_,(sw [0,1,2,3,4,5,6,10,8] [] [.s 0,.s 2,.s 4,.s 5,.s 32,.s 33] [.s 0,.s 1,.s 2,.s 3,.s 4,.s 5,.s 6,.s 7,.s 8] an),_,_,_,_,rfl,h⟩
 refine sq (sq (bE h fun y4 uR h=>r2 [iJ 1 { ids:=[4] } ([Pp 4,Ii 200]:List AV) (CP F (⟨zT.1,zT.2.1⟩:wU) (200:Int) y4 uR)] [] [(48,Ii y4.1),(49,Ii 0)] [] [(4,Vb 157 (vW y4.2))] 9 (bE h fun yS tF h=>?_)));refine xL (mk [(0,Sb zC),(2,Pp 0),(4,Pp 4),(5,Pp 5)] [(0,q7),(1,Rb 85 3 []),(2,Rb 87 2 []),(3,Rb 76 5 []),(4,Vb 157 [Sb yS.1,.bool yS.2.1]),(5,Vb 28 [.own 6 ((zD.2.2).length),.own 7 ((zT.2.2).length),.own 8 ((yS.2.2).length)]),(6,Rb 85 3 (Mp zZ zD.2.2)),(7,Rb 87 2 (Mp zR zT.2.2)),(8,Rb 76 5 (Mp zW yS.2.2))] 9) ?_ ?_
 ·replace h:=tF;refine yR (id:=4) zk ?_;refine w0 [0,1,2,3,4,5,6,7,8] [] [(0,Sb zC),(2,Pp 0),(4,Pp 4),(5,Pp 5),(48,Ii y4.1),(49,Ii 0)] [(0,q7),(1,Rb 85 3 []),(2,Rb 87 2 []),(3,Rb 76 5 []),(4,Vb 157 (vW y4.2)),(5,Vb 28 [.own 6 ((zD.2.2).length),.own 7 ((zT.2.2).length),.own 8 0]),(6,Rb 85 3 (Mp zZ zD.2.2)),(7,Rb 87 2 (Mp zR zT.2.2)),(8,Rb 76 5 [])] ?_;refine x8 (fun n st=>∃ (wD:Int),∃ (yX:List Int),∃ (y5:Bool),∃ (yZ:List y2),st=mk [(0,Sb zC),(2,Pp 0),(4,Pp 4),(5,Pp 5),(48,Ii y4.1),(49,Ii wD)] [(0,q7),(1,Rb 85 3 []),(2,Rb 87 2 []),(3,Rb 76 5 []),(4,Vb 157 [Sb yX,.bool y5]),(5,Vb 28 [.own 6 ((zD.2.2).length),.own 7 ((zT.2.2).length),.own 8 ((yZ).length)]),(6,Rb 85 3 (Mp zZ zD.2.2)),(7,Rb 87 2 (Mp zR zT.2.2)),(8,Rb 76 5 (Mp zW yZ))] 9∧rK F y4 n wD yX y5 yZ=some yS) F zk ⟨_,_,_,_,rfl,h⟩ ?_ ?_
  ·rintro _ ⟨_,_,_,_,_,h⟩;exact x7 (h:(none:Option ((List Int)×Bool×(List y2)))=some yS)
  rintro uQ _ ⟨wD,yX,y5,yZ,rfl,h⟩;replace h:B9 F y4 (rK F y4 uQ) wD yX y5 yZ=some yS:=h;unfold B9 at h;refine s0 [] [(50,.bool (decide (wD<y4.1)))] (sq (ch 50 h ?_ ?_))
  rotate_left
  ·intro xH h;refine x4 (id:=4) zk ?_;cases h;exact ⟨rfl,(sw [0,1,2,3,4,5,6,7,8] [] [.s 0,.s 2,.s 4,.s 5] [.s 0,.s 1,.s 2,.s 3,.s 4,.s 5,.s 6,.s 7,.s 8] an)⟩
  intro xH h;refine sk (sq ?_);refine yR (id:=5) zk ?_;refine bE h fun yL uW h=>nE h fun qU h=>r2 [iH 4 { id:=9 },iH 5 { id:=10,l:=(Mp zW (yZ++([yL.1]:List y2))),n:=((yZ++([yL.1]:List y2))).length },iJ 3 { ids:=[4] } ([Pp 4]:List AV) (KP F (⟨yX,y5⟩:wU) yL uW),iM zW yZ,iA 1,iC (uD _ _:(Mp zW (yZ++([yL.1]:List y2)))=(Mp zW yZ)++(Mp zW ([yL.1]:List y2))),iC (by simp:((yZ++([yL.1]:List y2))).length=((List.map zW (yZ++([yL.1]:List y2)))).length),iC (by first | (simp;done) | simpa using qU:(((List.map zW yZ):List AV).length+((List.map zW ([yL.1]:List y2)):List AV).length) * 40≤140737488355328)] [] [] [8] [(4,Vb 157 (vW yL.2)),(5,Vb 28 [.own 6 ((zD.2.2).length),.own 7 ((zT.2.2).length),.own 10 (((yZ++([yL.1]:List y2))).length)]),(10,Rb 76 5 (Mp zW (yZ++([yL.1]:List y2))))] 11 (r0 [] [(49,Ii (zI (wD+(1:Int))))] ?_);exact ⟨_,(sw [0,1,2,3,4,5,6,7,10] [] [.s 0,.s 2,.s 4,.s 5,.s 48,.s 49] [.s 0,.s 1,.s 2,.s 3,.s 4,.s 5,.s 6,.s 7,.s 8] an),_,_,_,_,rfl,h⟩
 refine sq (wz [0,1,2,3,4,5,7,8] [6] [] [5] [(0,Sb zC),(2,Pp 0),(4,Pp 4),(5,Pp 5)] [(0,q7),(1,Rb 85 3 []),(2,Rb 87 2 []),(3,Rb 76 5 []),(4,Vb 157 [Sb yS.1,.bool yS.2.1]),(5,Vb 28 [Sq 3 zZ zD.2.2,.own 6 ((zT.2.2).length),.own 7 ((yS.2.2).length)]),(6,Rb 87 2 (Mp zR zT.2.2)),(7,Rb 76 5 (Mp zW yS.2.2))] (ar 28 (ar true (ac (by first | (simp;done) | (simp;omega):(zD.2.2).length=((List.map zZ zD.2.2)).length) (ar 3 (ar ((Mp zZ zD.2.2):List AV) (ar true (ar (.own 7 ((zT.2.2).length):AV) (ar (.own 8 ((yS.2.2).length):AV) an)))))))) (wz [0,1,2,3,4,5,7] [6] [] [5] [(0,Sb zC),(2,Pp 0),(4,Pp 4),(5,Pp 5)] [(0,q7),(1,Rb 85 3 []),(2,Rb 87 2 []),(3,Rb 76 5 []),(4,Vb 157 [Sb yS.1,.bool yS.2.1]),(5,Vb 28 [Sq 3 zZ zD.2.2,Sq 2 zR zT.2.2,.own 6 ((yS.2.2).length)]),(6,Rb 76 5 (Mp zW yS.2.2))] (ar 28 (ar true (ac (by first | (simp;done) | (simp;omega):(zT.2.2).length=((List.map zR zT.2.2)).length) (ar 3 (ar ((Mp zZ zD.2.2):List AV) (ar true (ar 2 (ar ((Mp zR zT.2.2):List AV) (ar true (ar (.own 7 ((yS.2.2).length):AV) an)))))))))) (wz [0,1,2,3,4,5] [6] [] [5] [(0,Sb zC),(2,Pp 0),(4,Pp 4),(5,Pp 5)] [(0,q7),(1,Rb 85 3 []),(2,Rb 87 2 []),(3,Rb 76 5 []),(4,Vb 157 [Sb yS.1,.bool yS.2.1]),(5,Vb 28 [Sq 3 zZ zD.2.2,Sq 2 zR zT.2.2,Sq 5 zW yS.2.2])] (ar 28 (ar true (ac (by first | (simp;done) | (simp;omega):(yS.2.2).length=((List.map zW yS.2.2)).length) (ar 3 (ar ((Mp zZ zD.2.2):List AV) (ar true (ar 2 (ar ((Mp zR zT.2.2):List AV) (ar true (ar 5 (ar ((Mp zW yS.2.2):List AV) (ar true an)))))))))))) (bE h fun zM jV h=>?_))));refine xL (mk [(2,Pp 0),(3,.bool zM)] [(0,Vb 28 [Sq 3 zZ zD.2.2,Sq 2 zR zT.2.2,Sq 5 zW yS.2.2])] 1) ?_ ?_
 ·replace h:=jV;rcases bft (!yS.2.1) with yJ | yJ
  ·replace h:=xE yJ h;refine bE h fun xI j8 h=>bE h fun vD nX h=>r2 [iH 11 Ht,iR 2 yJ,iL 8 {} [.agg [Sq 3 zZ zD.2.2,Sq 2 zR zT.2.2,Sq 5 zW yS.2.2]] (LV F (⟨zD.2.2,zT.2.2,yS.2.2⟩:z6) xI j8) ⟨rfl,rfl,rfl,rfl,rfl,rfl,rfl,rfl,rfl,trivial⟩,iR 2 yJ,iK 10 {} (GT xI zC vD nX),iC yJ] [0,4,5] [(3,.bool vD)] [1,2,3,4,5] [(0,Vb 28 [Sq 3 zZ zD.2.2,Sq 2 zR zT.2.2,Sq 5 zW yS.2.2])] 6 ?_;cases h;exact ⟨rfl,(sw [0] [] [.s 2,.s 3] [.s 0] an)⟩
  ·replace h:=xD yJ h;refine r2 [iG 7 4,iH 11 Hf,iR 5 yJ] [0,4,5] [(3,.bool false)] [1,2,3,4,5] [(0,Vb 28 [Sq 3 zZ zD.2.2,Sq 2 zR zT.2.2,Sq 5 zW yS.2.2])] 6 ?_;cases h;exact ⟨rfl,(sw [0] [] [.s 2,.s 3] [.s 0] an)⟩
 cases h;exact rt rx

theorem S2 (zE:List (yE)) (r:(List (yE))) (h:C6 zE=some r):yK prog 111 [(.row 56 4 (Mp yF zE))] [] [.own 0 ((zE).length)] [(.row 56 4 (Mp yF zE)),.row 56 4 (Mp yF r)] (.own 1 ((r).length)):=by
 refine tI Go.Proofs.Tryz.f111 ?_;unfold C6 at h;refine sE [iH 0 { id:=1,m:=1 }] [(0,.own 0 ((zE).length))] [(0,Rb 56 4 (Mp yF zE))] 2 (sq (s0 [iH 1 { x:=true }] [(4,.nb (Mp yF zE))] ?_));refine fU (t:=4) (l:=(Mp yF zE)) zk zk ?_ ?_
 ·intro zS;replace zS:=List.map_eq_nil_iff.1 zS;replace h:=Eq.trans (show (some [])=((need (((([]:List yE)).length+(zE).length) * 48≤140737488355328)).bind fun _ =>
 some ([]++zE)) from by simp [zS,need]) h
  refine sE [iH 0 { id:=2,m:=1 }] [(2,.own 2 0)] [(0,Rb 56 4 (Mp yF zE)),(2,Rb 56 4 [])] 3 (wz [0,2] [] [2] [] [(2,.own 1 ((([]:List yE)).length))] [(0,Rb 56 4 (Mp yF zE)),(1,Rb 56 4 [])] (ac (congrArg (AV.own _) (by first | (simp;done) | (simp;omega)):(.own 2 0:AV)=.own 2 ((([]:List yE)).length)) an) ?_);cases h;exact rt rx
 refine sk (sq (nE h fun zH h=>rE [iH 0 { id:=2 },iH 2 { id:=3,l:=(Mp yF ([]++zE)),n:=(([]++zE)).length },iA 0,iM yF zE,iC (by simp:(List.map yF ([]++zE))=[]++(List.map yF zE)),iC (by simp:(([]++zE)).length=((List.map yF ([]++zE))).length),iC (by first | (simp;done) | simpa using zH:(([]:List AV).length+((List.map yF zE):List AV).length) * 48≤140737488355328)] [(2,.own 3 ((([]++zE)).length))] [(0,Rb 56 4 (Mp yF zE)),(3,Rb 56 4 (Mp yF ([]++zE)))] 4 (w0 [0,3] [] [(2,.own 1 ((([]++zE)).length))] [(0,Rb 56 4 (Mp yF zE)),(1,Rb 56 4 (Mp yF ([]++zE)))] ?_)));cases h;exact rt rx

theorem LS (zE:List (y2)) (r:(List (y2))) (h:mV zE=some r):yK prog 45 [] [] [Sq 5 zW zE] [.row 76 5 (Mp zW r)] (.own 0 ((r).length)):=by
 refine tI Go.Proofs.Tryz.f45 ?_;unfold mV at h;refine sE [iH 0 { id:=0,m:=1 }] [(0,Sq 5 zW zE)] [] 1 (sq (s0 [] [(4,.nb (Mp zW zE))] ?_));refine fU (t:=4) (l:=(Mp zW zE)) zk zk ?_ ?_
 ·intro zS;replace zS:=List.map_eq_nil_iff.1 zS;replace h:=Eq.trans (show (some [])=((need (((([]:List y2)).length+(zE).length) * 40≤140737488355328)).bind fun _ =>
 some ([]++zE)) from by simp [zS,need]) h
  refine sE [iH 0 { id:=1,m:=1 }] [(2,.own 1 0)] [(1,Rb 76 5 [])] 2 (wz [1] [] [2] [] [(2,.own 0 ((([]:List y2)).length))] [(0,Rb 76 5 [])] (ac (congrArg (AV.own _) (by first | (simp;done) | (simp;omega)):(.own 1 0:AV)=.own 1 ((([]:List y2)).length)) an) ?_);cases h;exact rt rx
 refine sk (sq (nE h fun zH h=>rE [iH 0 { id:=1 },iH 2 { id:=2,l:=(Mp zW ([]++zE)),n:=(([]++zE)).length },iA 0,iC trivial,iC (by simp:(List.map zW ([]++zE))=[]++(List.map zW zE)),iC (by simp:(([]++zE)).length=((List.map zW ([]++zE))).length),iC (by first | (simp;done) | simpa using zH:(([]:List AV).length+((List.map zW zE):List AV).length) * 40≤140737488355328)] [(2,.own 2 ((([]++zE)).length))] [(2,Rb 76 5 (Mp zW ([]++zE)))] 3 (w0 [2] [] [(2,.own 0 ((([]++zE)).length))] [(0,Rb 76 5 (Mp zW ([]++zE)))] ?_)));cases h;exact rt rx

theorem KY (zB:yH) (r:yH) (h:oR zB=some r):yK prog 71 [(.row 56 4 (Mp yF zB.packets))] [] [.agg [Sq 3 zZ zB.head.Threads,Sq 2 zR zB.head.Domains,Sq 5 zW zB.head.Snaps,.own 0 ((zB.packets).length),.fm (zB.ends).isNone (List.map (mpE (AV.int .i64) yW) ((zB.ends).getD [])),Ii zB.events]] [(.row 56 4 (Mp yF zB.packets)),.row 76 5 (Mp zW r.head.Snaps),.row 56 4 (Mp yF r.packets)] (.agg [Sq 3 zZ r.head.Threads,Sq 2 zR r.head.Domains,.own 1 ((r.head.Snaps).length),.own 2 ((r.packets).length),.fm (r.ends).isNone (List.map (mpE (AV.int .i64) yW) ((r.ends).getD [])),Ii r.events]):=by
 refine tI Go.Proofs.Tryz.f71 ?_;unfold oR at h;refine sE [iH 0 { id:=1 },iH 1 { id:=2 }] [(1,Pp 1),(2,Pp 2)] [(0,Rb 56 4 (Mp yF zB.packets)),(1,Vb 62 [Sq 3 zZ zB.head.Threads,Sq 2 zR zB.head.Domains,Sq 5 zW zB.head.Snaps,.own 0 ((zB.packets).length),.fm (zB.ends).isNone (List.map (mpE (AV.int .i64) yW) ((zB.ends).getD [])),Ii zB.events]),(2,Vb 62 [.nilsl,.nilsl,.nilsl,.nilsl,.fm true [],Ii 0])] 3 (sq (bE h fun zA zH h=>r2 [iK 2 { ids:=[0,3] } (S2 zB.packets zA zH)] [] [] [] [(1,Vb 62 [Sq 3 zZ zB.head.Threads,Sq 2 zR zB.head.Domains,Sq 5 zW zB.head.Snaps,.own 3 ((zA).length),.fm (zB.ends).isNone (List.map (mpE (AV.int .i64) yW) ((zB.ends).getD [])),Ii zB.events]),(3,Rb 56 4 (Mp yF zA))] 4 (sq (bE h fun zF zS h=>r2 [iK 3 { ids:=[4] } (LS zB.head.Snaps zF zS)] [] [] [] [(1,Vb 62 [Sq 3 zZ zB.head.Threads,Sq 2 zR zB.head.Domains,.own 4 ((zF).length),.own 3 ((zA).length),.fm (zB.ends).isNone (List.map (mpE (AV.int .i64) yW) ((zB.ends).getD [])),Ii zB.events]),(4,Rb 76 5 (Mp zW zF))] 5 (s0 [iK 2 {} (R2 KN (zB.ends).isNone (List.map (mpE (AV.int .i64) yW) ((zB.ends).getD [])))] [] (s2 [] [1] [] [1] [(2,Vb 62 [Sq 3 zZ zB.head.Threads,Sq 2 zR zB.head.Domains,.own 4 ((zF).length),.own 3 ((zA).length),.fm (zB.ends).isNone (List.map (mpE (AV.int .i64) yW) ((zB.ends).getD [])),Ii zB.events])] 5 (wz [0,4,3,2] [] [] [1,2,3] [(2,Pp 3)] [(0,Rb 56 4 (Mp yF zB.packets)),(1,Rb 76 5 (Mp zW (((⟨(⟨zB.head.Threads,zB.head.Domains,zF⟩:z6),zA,zB.ends,zB.events⟩:yH).head).Snaps))),(2,Rb 56 4 (Mp yF ((⟨(⟨zB.head.Threads,zB.head.Domains,zF⟩:z6),zA,zB.ends,zB.events⟩:yH).packets))),(3,Vb 62 [Sq 3 zZ (((⟨(⟨zB.head.Threads,zB.head.Domains,zF⟩:z6),zA,zB.ends,zB.events⟩:yH).head).Threads),Sq 2 zR (((⟨(⟨zB.head.Threads,zB.head.Domains,zF⟩:z6),zA,zB.ends,zB.events⟩:yH).head).Domains),.own 1 ((((⟨(⟨zB.head.Threads,zB.head.Domains,zF⟩:z6),zA,zB.ends,zB.events⟩:yH).head).Snaps).length),.own 2 (((⟨(⟨zB.head.Threads,zB.head.Domains,zF⟩:z6),zA,zB.ends,zB.events⟩:yH).packets).length),.fm ((⟨(⟨zB.head.Threads,zB.head.Domains,zF⟩:z6),zA,zB.ends,zB.events⟩:yH).ends).isNone (List.map (mpE (AV.int .i64) yW) (((⟨(⟨zB.head.Threads,zB.head.Domains,zF⟩:z6),zA,zB.ends,zB.events⟩:yH).ends).getD [])),Ii ((⟨(⟨zB.head.Threads,zB.head.Domains,zF⟩:z6),zA,zB.ends,zB.events⟩:yH).events)])] (ar 76 (ar 5 (ar (Mp zW zF) (ar 56 (ar 4 (ar (Mp yF zA) (ar 62 (ar true (ar 3 (ar (Mp zZ zB.head.Threads) (ar true (ar 2 (ar (Mp zR zB.head.Domains) (ar true (ac (congrArg (AV.own _) (by first | (simp;done) | (simp;omega)):(.own 4 ((zF).length):AV)=.own 4 ((((⟨(⟨zB.head.Threads,zB.head.Domains,zF⟩:z6),zA,zB.ends,zB.events⟩:yH).head).Snaps).length)) (ac (congrArg (AV.own _) (by first | (simp;done) | (simp;omega)):(.own 3 ((zA).length):AV)=.own 3 (((⟨(⟨zB.head.Threads,zB.head.Domains,zF⟩:z6),zA,zB.ends,zB.events⟩:yH).packets).length)) (ac (rfl:(zB.ends).isNone=((⟨(⟨zB.head.Threads,zB.head.Domains,zF⟩:z6),zA,zB.ends,zB.events⟩:yH).ends).isNone) (ar (List.map (mpE (AV.int .i64) yW) ((zB.ends).getD [])) (ar (Ii zB.events) an))))))))))))))))))) ?_)))))));cases h;exact rt rx

theorem RY (F:Nat) (zC:List (Int)) (r:y2×Bool) (h:GN F zC=some r):yK prog 72 [] [] [Sb zC] [] (.tuple [zW r.1,.bool r.2]):=by
 refine tI Go.Proofs.Tryz.f72 ?_;unfold GN at h;refine sE [iH 0 { id:=0 }] [(0,Sb zC),(2,Pp 0)] [(0,Vb 76 [Ii 0,Ii 0,Ii 0,Ii 0,Ii 0])] 1 (s2 [iH 2 { id:=1 }] [] [(4,Pp 1)] [] [(1,Vb 157 [Sb zC,.bool false])] 2 (sq (bE h fun zA zH h=>r2 [iH 2 { id:=2 },iJ 1 { ids:=[1] } ([Pp 1]:List AV) (KP F (⟨zC,false⟩:wU) zA zH)] [] [(5,Pp 2)] [] [(1,Vb 157 (vW zA.2)),(2,Vb 76 (tV zA.1))] 3 (sq (bE h fun zM xB h=>?_)))));refine xL (mk [(2,Pp 0),(3,.bool zM)] [(0,Vb 76 (tV zA.1))] 1) ?_ ?_
 ·replace h:=xB;rcases bft (!zA.2.bad) with zO | zO
  ·replace h:=xE zO h;refine bE h fun zF zS h=>bE h fun zN yU h=>r2 [iH 11 Ht,iR 2 zO,iL 8 {} [.nilsl,zW zA.1] (AO F [] zA.1 zF zS) ⟨rfl,rfl,rfl,rfl,rfl,rfl,trivial⟩,iR 2 zO,iK 10 {} (GT zF zC zN yU),iC zO] [0,4,5] [(3,.bool zN)] [1,2] [(0,Vb 76 (tV zA.1))] 3 ?_;cases h;exact ⟨rfl,(sw [0] [] [.s 2,.s 3] [.s 0] an)⟩
  ·replace h:=xD zO h;refine r2 [iG 7 4,iH 11 Hf,iR 5 zO] [0,4,5] [(3,.bool false)] [1,2] [(0,Vb 76 (tV zA.1))] 3 ?_;cases h;exact ⟨rfl,(sw [0] [] [.s 2,.s 3] [.s 0] an)⟩
 cases h;exact rt rx

theorem cK (F:Nat) (zK:uA) (r:Int×uA) (h:nN F zK=some r):yK prog 112 [(.var 162 (uH zK))] [] [Pp 0] [(.var 162 (uH r.2))] (Ii r.1):=by
 refine tI Go.Proofs.Tryz.f112 ?_;unfold nN at h;refine sE [] [(0,Pp 0)] [(0,Vb 162 (uH zK))] 1 (sq (c0 [] 10 h [] ?_ ?_))
 ·intro yC h;refine s1 [] [0] [(2,Ii 0)] ?_;cases h;exact rt rx
 intro yC h;refine sk (sq (nE h fun zH h=>bE h fun zA zS h=>r0 [iT 8 Fb zK.b zK.used zH.1 zH.2,iK 9 {} (cG F (sub zK.b zK.used (lN (zK.b))) zA zS)] [(3,Ii zA.1),(4,Ii zA.2.1),(5,Ii zA.2.2)] (s2 [] [0] [] [] [(0,Vb 162 [Sb zK.b,Ii (zI (zK.used+zA.2.1)),Ii zA.2.2])] 1 (s0 [] [(2,Ii zA.1)] ?_))));cases h;exact rt rx

theorem CS (F:Nat) (zK:uA) (tW:Int) (r:Int×uA) (h:g7 F zK tW=some r):yK prog 113 [(.var 162 (uH zK))] [] [Pp 0,Ii tW] [(.var 162 (uH r.2))] (Ii r.1):=by
 refine tI Go.Proofs.Tryz.f113 ?_;unfold g7 at h;refine sE [] [(0,Pp 0),(1,Ii tW)] [(0,Vb 162 (uH zK))] 1 (sq (bE h fun zA zH h=>r2 [iK 1 { ids:=[0] } (cK F zK zA zH)] [] [(5,Ii zA.1)] [] [(0,Vb 162 (uH zA.2))] 1 (sq ?_)));refine yR (id:=0) zk ?_;refine c0 [] 8 h [] ?_ ?_
 ·intro yC h;refine s1 [] [0] [(4,Ii 0)] ?_;cases h;exact rt rx
 intro yC h;refine c0 [] 14 h [] ?_ ?_
 ·intro y0 h;refine s2 [] [0] [] [] [(0,Vb 162 [Sb zA.2.b,Ii zA.2.used,Ii 10])] 1 (s0 [] [(4,Ii 0)] ?_);cases h;exact rt rx
 intro y0 h;refine c0 [] 20 h [] ?_ ?_
 rotate_left
 ·intro xH h;refine sk (s1 [] [0] [(4,Ii zA.1)] ?_);cases h;exact rt rx
 intro xH h;refine s2 [] [0] [] [] [(0,Vb 162 [Sb zA.2.b,Ii zA.2.used,Ii 7])] 1 (s0 [] [(4,Ii 0)] ?_);cases h;exact rt rx

theorem OQ (F:Nat) (zK:uA) (r:(List Int)×uA) (h:E3 F zK=some r):yK prog 114 [(.var 162 (uH zK))] [] [Pp 0] [(.var 162 (uH r.2))] (.str r.1):=by
 refine tI Go.Proofs.Tryz.f114 ?_;unfold E3 at h;refine sE [] [(0,Pp 0)] [(0,Vb 162 (uH zK))] 1 (sq (c0 [] 10 h [] ?_ ?_))
 ·intro yC h;refine s1 [] [0] [(2,.str ([]:List Int))] ?_;cases h;exact rt rx
 intro yC h;refine sk (sq (nE h fun zH h=>bE h fun zA zS h=>r0 [iT 8 Fb zK.b zK.used zH.1 zH.2,iK 9 {} (JV F (sub zK.b zK.used (lN (zK.b))) (40:Int) zA zS)] [(3,.str zA.1),(4,Ii zA.2.1),(5,Ii zA.2.2)] (s2 [] [0] [] [] [(0,Vb 162 [Sb zK.b,Ii (zI (zK.used+zA.2.1)),Ii zA.2.2])] 1 (s0 [] [(2,.str zA.1)] ?_))));cases h;exact rt rx

theorem R6 (F:Nat) (yD:List (List Int)) (r:Int) (h:B5 F yD=some r):yK prog 143 [] [] [Ss yD] [] (Ii r):=by
 refine tI Go.Proofs.Tryz.f143 ?_;unfold B5 at h;refine sE [] [(0,Ss yD)] [] 0 (s2 [iH 0 { id:=0,mag:=false,mks:=[.str] }] [] [(3,.mp 0)] [] [(0,.live (.map false [.str] []))] 1 (sq (s1 [iN 1 AV.str yD] [0] [(8,Ss yD),(9,Ii (lN (yD))),(10,Ii 0)] (bE h fun zD zH h=>?_))));refine vG (K1:=(fun e st'=>match zD with | (.inl q0)=>e=.normal∧Sub 0 st' (mk [] [] 0) | (.inr q1)=>e=.ret∧vH prog Go.Proofs.Tryz.f143 0 [] (Ii q1) st')) ?_ ?_
 ·replace h:=zH;refine yR (id:=0) zk ?_;refine w0 [0] [] [(3,.mp 0),(8,Ss yD),(9,Ii (lN (yD))),(10,Ii 0)] [(0,.live (.map false [.str] []))] ?_;refine x8 (fun n st=>∃ (zJ:Int),∃ (zL:List ((List Int)×Bool)),st=mk [(3,.mp 0),(8,Ss yD),(9,Ii (lN (yD))),(10,Ii zJ)] [(0,.live (.map false [.str] (List.map (mpE AV.str AV.bool) zL)))] 1∧mQ F yD n zJ zL=some zD) F zk ⟨_,_,rfl,h⟩ ?_ ?_
  ·rintro _ ⟨_,_,_,h⟩;exact x7 (h:(none:Option (Unit⊕Int))=some zD)
  rintro z4 _ ⟨zJ,zL,rfl,h⟩;replace h:BZ F yD (mQ F yD z4) zJ zL=some zD:=h;unfold BZ at h;refine s0 [] [(11,.bool (decide (zJ<(lN (yD)))))] (sq (ch 11 h ?_ ?_))
  rotate_left
  ·intro yC h;refine x4 (id:=0) zk ?_;cases h;exact ⟨rfl,(sw [] [] [] [] an)⟩
  intro yC h;refine sk (sq ?_);refine yR (id:=1) zk ?_;refine sq (bE h fun zK zS h=>r0 [iF 0 AV.str zS] [(5,.str zK)] (sq (sq (bE h fun zA yU h=>r0 [iK 1 {} (d6 F zK zA yU)] [(6,Ii zA)] (c0 [] 17 h [] ?_ ?_)))))
  ·intro y0 h;refine s2 [] [3,8] [(2,Ii zA)] [0] [] 1 ?_;cases h;exact rt ry
  intro y0 h;refine sk (sq (c0 [iH 2 { av:=(.bool ((w9 zL zK).getD false)),g:=(w9 zL zK).isSome },iC (G6:v9 prog 9 false [.str]),iC (rD (f:=AV.str) (g:=AV.bool) HR zL zK false:pJ (List.map (mpE AV.str AV.bool) zL) (.str zK) (.bool false) (.bool ((w9 zL zK).getD false)) (w9 zL zK).isSome)] 21 h [] ?_ ?_))
  ·intro xH h;refine s2 [] [3,8] [(2,Ii 4)] [0] [] 1 ?_;cases h;exact rt ry
  intro xH h;refine sk (nE h fun xB h=>r2 [iH 2 { es:=(List.map (mpE AV.str AV.bool) (xS zL zK true)) },iC (G6:v9 prog 9 false [.str]),iC (oW (f:=AV.str) (g:=AV.bool) HR zL zK true:n3 (List.map (mpE AV.str AV.bool) zL) (.str zK) (.bool true) (List.map (mpE AV.str AV.bool) (xS zL zK true))),iC (lM (l:=zL) xB:((List.map (mpE AV.str AV.bool) zL):List (AV×AV)).length<maxLen)] [] [] [] [(0,.live (.map false [.str] (List.map (mpE AV.str AV.bool) (xS zL zK true))))] 1 (r0 [] [(10,Ii (zI (zJ+(1:Int))))] ?_));exact ⟨_,(sw [0] [] [.s 3,.s 8,.s 9,.s 10] [.s 0] an),_,_,rfl,h⟩
 intro e st1 hk;rcases zD with z7 | xG
 rotate_left
 ·obtain ⟨rfl,hf⟩:=hk;cases h;exact ⟨st1,Sub.refl _ _,.inr rfl,hf⟩
 obtain ⟨rfl,hs⟩:=hk;refine ⟨_,hs,?_⟩;refine s0 [] [(2,Ii 0)] ?_;cases h;exact rt rx

theorem lV (F:Nat) (yD:List (List Int)) (yG:List (zX)) (r:Int) (h:bY F yD yG=some r):yK prog 115 [] [] [Ss yD,Sq 2 yM yG] [] (Ii r):=by
 refine tI Go.Proofs.Tryz.f115 ?_;unfold bY at h;refine sE [] [(0,Ss yD),(1,Sq 2 yM yG)] [] 0 (sq (ad 17 h ?_ ?_ ?_))
 ·rcases bft (decide ((lN (yD))>(1000:Int))) with zO | zO
  ·exact rm [iG 4 3,iH 7 Ht,iN 1 AV.str yD,iR 4 zO] (ort zO)
  ·exact rm [iH 7 Hf,iN 1 AV.str yD,iR 2 zO,iN 5 yM yG,iR 2 zO] (orf zO rfl)
 ·intro yC h;refine s1 [] [0,1] [(4,Ii 7)] ?_;cases h;exact rt rx
 intro yC h;refine sk (sq (sq (bE h fun zA zH h=>r0 [iK 1 {} (R6 F yD zA zH)] [(5,Ii zA)] (c0 [] 21 h [] ?_ ?_))))
 ·intro y0 h;refine s1 [] [0,1] [(4,Ii zA)] ?_;cases h;exact rt rx
 intro y0 h;refine sk (s2 [iH 0 { id:=0,mag:=true,mks:=[.int .i64,.int .i64] }] [] [(6,.mp 0)] [] [(0,.live (.map true [.int .i64,.int .i64] []))] 1 (sq (nE h fun zS h=>r2 [iH 2 { id:=1,l:=(Mi (List.replicate ((yG).length) (0:Int))),m:=(yG).length,n:=(yG).length },iN 1 yM yG,iQ 2 (lN (yG)),iC (Nat.le_refl _:((yG).length)≤((yG).length)),iC zS,iC (LR:(Mi (List.replicate ((yG).length) (0:Int)))=List.replicate ((yG).length) (Ii 0))] [] [(7,.own 1 ((yG).length))] [] [(1,Rb 3 1 (Mi (List.replicate ((yG).length) (0:Int))))] 2 (sq (s1 [iN 1 yM yG] [1] [(27,Sq 2 yM yG),(28,Ii (lN (yG))),(29,Ii 0)] (bE h fun zD yU h=>?_))))));refine vG (K1:=(fun e st'=>match zD with | (.inl q0)=>e=.normal∧Sub 0 st' (mk [] [] 0) | (.inr q1)=>e=.ret∧vH prog Go.Proofs.Tryz.f115 0 [] (Ii q1) st')) ?_ ?_
 ·replace h:=yU;refine yR (id:=0) zk ?_;refine wz [0,1] [] [7] [] [(0,Ss yD),(6,.mp 0),(7,.own 1 (((List.replicate ((yG).length) (0:Int))).length)),(27,Sq 2 yM yG),(28,Ii (lN (yG))),(29,Ii 0)] [(0,.live (.map true [.int .i64,.int .i64] [])),(1,Rb 3 1 (Mi (List.replicate ((yG).length) (0:Int))))] (ac (congrArg (AV.own _) List.length_replicate.symm:(.own 1 ((yG).length):AV)=.own 1 (((List.replicate ((yG).length) (0:Int))).length)) an) ?_;refine x8 (fun n st=>∃ (zJ:Int),∃ (zL:List (zX×Bool)),∃ (zY:List Int),st=mk [(0,Ss yD),(6,.mp 0),(7,.own 1 ((zY).length)),(27,Sq 2 yM yG),(28,Ii (lN (yG))),(29,Ii zJ)] [(0,.live (.map true [.int .i64,.int .i64] (List.map (mpE yM AV.bool) zL))),(1,Rb 3 1 (Mi zY))] 2∧lS F yD yG n zJ zL zY=some zD) F zk ⟨_,_,_,rfl,h⟩ ?_ ?_
  ·rintro _ ⟨_,_,_,_,h⟩;exact x7 (h:(none:Option (Unit⊕Int))=some zD)
  rintro z4 _ ⟨zJ,zL,zY,rfl,h⟩;replace h:BP F yD yG (lS F yD yG z4) zJ zL zY=some zD:=h;unfold BP at h;refine s0 [] [(30,.bool (decide (zJ<(lN (yG)))))] (sq (ch 30 h ?_ ?_))
  rotate_left
  ·intro xH h;refine x4 (id:=0) zk ?_;cases h;exact ⟨rfl,(sw [] [] [] [] an)⟩
  intro xH h;refine sk (sq ?_);refine yR (id:=1) zk ?_;refine sq (bE h fun zK xB h=>r2 [iH 3 { id:=2 },iF 1 yM xB] [] [(8,Ii zJ),(9,Pp 2)] [] [(2,Vb 144 [Ii zK.c0,Ii zK.c1])] 3 (sq ?_));refine yR (id:=2) zk ?_;refine ad 34 h ?_ ?_ ?_
  ·rcases bft (decide (zK.c0<(-1:Int))) with wI | wI
   ·exact rm [iG 4 4,iH 8 Ht,iG 10 3,iH 13 Ht,iG 15 5,iH 20 Ht,i0,iC (by decide:(0:Int)<((2:Nat):Int)),iR 5 wI,iX 3,iA true,iX 5,iA true] (ort wI)
   ·rcases bft (decide (zK.c0≥zJ)) with wX | wX
    ·exact rm [iH 8 Hf,iG 10 3,iH 13 Ht,iG 15 5,iH 20 Ht,i0,iC (by decide:(0:Int)<((2:Nat):Int)),iC wI,i0,iC (by decide:(0:Int)<((2:Nat):Int)),iR 4 wI,iR 4 wX,iX 5,iA true] (orf wI (ort wX))
    ·rcases bft (decide (zK.c1<(0:Int))) with w5 | w5
     ·exact rm [iH 8 Hf,iH 13 Hf,iG 15 5,iH 20 Ht,i0,iC (by decide:(0:Int)<((2:Nat):Int)),iC wI,i0,iC (by decide:(0:Int)<((2:Nat):Int)),iR 4 wI,iC wX,iC (by decide:(0:Int)≤(1:Int)),iC (by decide:(1:Int)<((2:Nat):Int)),iR 3 wX,iR 6 w5] (orf wI (orf wX (ort w5)))
     ·exact rm [iH 8 Hf,iH 13 Hf,iH 20 Hf,i0,iC (by decide:(0:Int)<((2:Nat):Int)),iC wI,i0,iC (by decide:(0:Int)<((2:Nat):Int)),iR 4 wI,iC wX,iC (by decide:(0:Int)≤(1:Int)),iC (by decide:(1:Int)<((2:Nat):Int)),iR 3 wX,iC w5,iC (by decide:(0:Int)≤(1:Int)),iC (by decide:(1:Int)<((2:Nat):Int)),iR 3 w5,iN 18 AV.str yD,iR 2 w5] (orf wI (orf wX (orf w5 rfl)))
  ·intro w7 h;refine s2 [] [0,6,7,27,9] [(4,Ii 2)] [0,1,2] [] 3 ?_;cases h;exact rt ry
  intro w7 h;refine c0 [iH 2 { av:=(.bool ((w9 zL zK).getD false)),g:=(w9 zL zK).isSome },iC (DA:v9 prog 144 true [.int .i64,.int .i64]),iC (rD (f:=yM) (g:=AV.bool) CX zL zK false:pJ (List.map (mpE yM AV.bool) zL) (.agg [Ii zK.c0,Ii zK.c1]) (.bool false) (.bool ((w9 zL zK).getD false)) (w9 zL zK).isSome)] 56 h [] ?_ ?_
  ·intro vM h;refine s2 [] [0,6,7,27,9] [(4,Ii 4)] [0,1,2] [] 3 ?_;cases h;exact rt ry
  intro vM h;refine sk (sq (nE h fun xJ h=>r2 [iH 2 { es:=(List.map (mpE yM AV.bool) (xS zL zK true)) },iC (DA:v9 prog 144 true [.int .i64,.int .i64]),iC (oW (f:=yM) (g:=AV.bool) CX zL zK true:n3 (List.map (mpE yM AV.bool) zL) (.agg [Ii zK.c0,Ii zK.c1]) (.bool true) (List.map (mpE yM AV.bool) (xS zL zK true))),iC (lM (l:=zL) xJ:((List.map (mpE yM AV.bool) zL):List (AV×AV)).length<maxLen)] [] [] [] [(0,.live (.map true [.int .i64,.int .i64] (List.map (mpE yM AV.bool) (xS zL zK true))))] 3 (sq (bE h fun yA x3 h=>r2 [iH 3 { av:=Ii yA,l:=(Mi ((zY).set ((zJ).toNat) (1:Int))) },iC (t9 x3:(0:Int)≤zJ),iC (by first | (simp;done) | simpa using qI x3:zJ<(((zY).length:Nat):Int)),iC (qG x3:(Mi zY)[(zJ).toNat]?=some (Ii yA)),iC (bW _ _ _:(Mi ((zY).set ((zJ).toNat) (1:Int)))=List.set (Mi zY) ((zJ).toNat) (kL (Ii yA) 0 [Ii 1]))] [] [] [] [(1,Rb 3 1 (Mi ((zY).set ((zJ).toNat) (1:Int))))] 3 (sq (s0 [i0,iC (by decide:(0:Int)<((2:Nat):Int))] [(67,.bool (zK.c0 != (-1:Int)))] (bE h fun zT wP h=>?_)))))));refine xL (mk [(0,Ss yD),(6,.mp 0),(7,.own 1 ((zT).length)),(8,Ii zJ),(27,Sq 2 yM yG),(28,Ii (lN (yG))),(29,Ii zJ)] [(0,.live (.map true [.int .i64,.int .i64] (List.map (mpE yM AV.bool) (xS zL zK true)))),(1,Rb 3 1 (Mi zT))] 2) ?_ ?_
  ·replace h:=wP;refine ch 67 h ?_ ?_
   rotate_left
   ·intro v8 h;refine sk ?_;cases h;exact ⟨rfl,(sw [0,1] [] [.s 0,.s 6,.a 7 (.own 1 (((zY).set ((zJ).toNat) (1:Int)).length)),.s 8,.s 27,.s 28,.s 29] [.s 0,.s 1] (ac (congrArg (AV.own _) (by first | (simp;done) | (simp;omega)):(.own 1 ((zY).length):AV)=.own 1 (((zY).set ((zJ).toNat) (1:Int)).length)) an))⟩
   intro v8 h;refine bE h fun y9 w6 h=>bE h fun wW vF h=>bE h fun uI vN h=>r2 [iH 3 { av:=Ii y9 },iH 8 { av:=Ii wW },iH 11 { av:=Ii uI,l:=(Mi (((zY).set ((zJ).toNat) (1:Int)).set ((zJ).toNat) (zI (y9+wW)))) },iC (t9 w6:(0:Int)≤zJ),iC (by first | (simp;done) | simpa using qI w6:zJ<(((zY).length:Nat):Int)),iC (qG w6:(Mi ((zY).set ((zJ).toNat) (1:Int)))[(zJ).toNat]?=some (Ii y9)),i0,iC (by decide:(0:Int)<((2:Nat):Int)),iC (t9 vF:(0:Int)≤zK.c0),iC (by first | (simp;done) | simpa using qI vF:zK.c0<(((zY).length:Nat):Int)),iC (qG vF:(Mi ((zY).set ((zJ).toNat) (1:Int)))[(zK.c0).toNat]?=some (Ii wW)),iC (t9 vN:(0:Int)≤zJ),iC (by first | (simp;done) | simpa using qI vN:zJ<(((zY).length:Nat):Int)),iC (qG vN:(Mi ((zY).set ((zJ).toNat) (1:Int)))[(zJ).toNat]?=some (Ii uI)),iC (bW _ _ _:(Mi (((zY).set ((zJ).toNat) (1:Int)).set ((zJ).toNat) (zI (y9+wW))))=List.set (Mi ((zY).set ((zJ).toNat) (1:Int))) ((zJ).toNat) (kL (Ii uI) 0 [Ii (zI (y9+wW))]))] [9] [] [2] [(1,Rb 3 1 (Mi (((zY).set ((zJ).toNat) (1:Int)).set ((zJ).toNat) (zI (y9+wW)))))] 3 ?_;cases h;exact ⟨rfl,(sw [0,1] [] [.s 0,.s 6,.a 7 (.own 1 ((((zY).set ((zJ).toNat) (1:Int)).set ((zJ).toNat) (zI (y9+wW))).length)),.s 8,.s 27,.s 28,.s 29] [.s 0,.s 1] (ac (congrArg (AV.own _) (by first | (simp;done) | (simp;omega)):(.own 1 ((zY).length):AV)=.own 1 ((((zY).set ((zJ).toNat) (1:Int)).set ((zJ).toNat) (zI (y9+wW))).length)) an))⟩
  refine sq (bE h fun u2 v7 h=>r0 [iH 3 { av:=Ii u2 },iC (t9 v7:(0:Int)≤zJ),iC (by first | (simp;done) | simpa using qI v7:zJ<(((zT).length:Nat):Int)),iC (qG v7:(Mi zT)[(zJ).toNat]?=some (Ii u2))] [(83,.bool (decide (u2>(32:Int))))] (ch 83 h ?_ ?_))
  rotate_left
  ·intro u3 h;refine sk (r0 [] [(29,Ii (zI (zJ+(1:Int))))] ?_);exact ⟨_,(sw [0,1] [] [.s 0,.s 6,.s 7,.s 27,.s 28,.s 29] [.s 0,.s 1] an),_,_,_,rfl,h⟩
  intro u3 h;refine s2 [] [0,6,7,27] [(4,Ii 7)] [0,1] [] 2 ?_;cases h;exact rt ry
 intro e st1 hk;rcases zD with z7 | xG
 rotate_left
 ·obtain ⟨rfl,hf⟩:=hk;cases h;exact ⟨st1,Sub.refl _ _,.inr rfl,hf⟩
 obtain ⟨rfl,hs⟩:=hk;refine ⟨_,hs,?_⟩;refine s0 [] [(4,Ii 0)] ?_;cases h;exact rt rx

theorem cS (F:Nat) (zK:t5) (r:Int×t5) (h:p7 F zK=some r):yK prog 144 [(.var 186 (pA zK))] [] [Pp 0] [(.var 186 (pA r.2))] (Ii r.1):=by
 refine tI Go.Proofs.Tryz.f144 ?_;unfold p7 at h;refine sE [] [(0,Pp 0)] [(0,Vb 186 (pA zK))] 1 (sq (c0 [] 10 h [] ?_ ?_))
 ·intro yC h;refine s1 [] [0] [(2,Ii 0)] ?_;cases h;exact rt rx
 intro yC h;refine sk (sq (nE h fun zH h=>bE h fun zA zS h=>r0 [iT 8 Fb zK.b zK.used zH.1 zH.2,iK 9 {} (cG F (sub zK.b zK.used (lN (zK.b))) zA zS)] [(3,Ii zA.1),(4,Ii zA.2.1),(5,Ii zA.2.2)] (s2 [] [] [] [] [(0,Vb 186 [Sb zK.b,Ii zK.used,Ii zA.2.2])] 1 (s2 [] [0] [] [] [(0,Vb 186 [Sb zK.b,Ii (zI (zK.used+zA.2.1)),Ii zA.2.2])] 1 (s0 [] [(2,Ii zA.1)] ?_)))));cases h;exact rt rx

theorem JQ (xY:Int) (r:Bool×Bool×Bool×Bool) (h:o7 xY=some r):yK prog 131 [] [] [Ii xY] [] (.tuple [.bool r.1,.bool r.2.1,.bool r.2.2.1,.bool r.2.2.2]):=by
 refine tI Go.Proofs.Tryz.f131 ?_;unfold o7 at h;refine sE [] [(0,Ii xY)] [] 0 (sq (am 2 ((xY==(1:Int))||((xY==(3:Int))||(xY==(4:Int)))) ?_ ?_))
 ·rcases bft (xY==(1:Int)) with zO | zO
  ·exact rm [iG 3 2,iH 5 Ht,iG 7 2,iH 9 Ht,iR 3 zO,iX 2,iA true] (ort zO)
  ·rcases bft (xY==(3:Int)) with zP | zP
   ·exact rm [iH 5 Hf,iG 7 2,iH 9 Ht,iR 3 zO,iR 3 zP] (orf zO (ort zP))
   ·exact rm [iH 5 Hf,iH 9 Hf,iR 3 zO,iR 3 zP] (orf zO (orf zP rfl))
 refine s0 [] [(3,.bool (decide (xY≥(4:Int))))] (sq (am 4 ((xY==(9:Int))||(xY==(11:Int))) ?_ ?_))
 ·rcases bft (xY==(9:Int)) with z8 | z8
  ·exact rm [iG 3 2,iH 5 Ht,iR 3 z8] (ort z8)
  ·exact rm [iH 5 Hf,iR 3 z8] (orf z8 rfl)
 refine sq (am 5 ((xY==(5:Int))||(xY==(11:Int))) ?_ ?_)
 ·rcases bft (xY==(5:Int)) with yJ | yJ
  ·exact rm [iG 3 2,iH 5 Ht,iR 3 yJ] (ort yJ)
  ·exact rm [iH 5 Hf,iR 3 yJ] (orf yJ rfl)
 refine s0 [] [] ?_;cases h;exact rt rx

theorem TM (F:Nat) (zE:List (List Int)) (r:(List (List Int))) (h:GM F zE=some r):yK prog 163 [(.row 9 1 (Ms zE))] [] [.own 0 ((zE).length)] [(.row 9 1 (Ms r))] (.tuple []):=by
 refine tI Go.Proofs.Tryz.f163 ?_;unfold GM at h;refine sE [] [(0,.own 0 ((zE).length)),(2,Ii 0),(3,Ii (zI ((lN (zE)) - (1:Int))))] [(0,Rb 9 1 (Ms zE))] 1 (bE h fun zD zH h=>?_);refine xL (mk [] [(0,Rb 9 1 (Ms zD))] 1) ?_ ?_
 ·replace h:=zH;refine yR (id:=0) zk ?_;refine w0 [0] [] [(0,.own 0 ((zE).length)),(2,Ii 0),(3,Ii (zI ((lN (zE)) - (1:Int))))] [(0,Rb 9 1 (Ms zE))] ?_;refine x8 (fun n st=>∃ (z5:Int),∃ (uF:Int),∃ (zL:List (List Int)),st=mk [(0,.own 0 ((zL).length)),(2,Ii z5),(3,Ii uF)] [(0,Rb 9 1 (Ms zL))] 1∧lL F n z5 uF zL=some zD) F zk ⟨_,_,_,rfl,h⟩ ?_ ?_
  ·rintro _ ⟨_,_,_,_,h⟩;exact x7 (h:(none:Option (List (List Int)))=some zD)
  rintro z4 _ ⟨z5,uF,zL,rfl,h⟩;replace h:A5 F (lL F z4) z5 uF zL=some zD:=h;unfold A5 at h;refine sq (c0 [] 9 h [] ?_ ?_)
  rotate_left
  ·intro yC h;refine x4 (id:=0) zk ?_;cases h;exact ⟨rfl,(sw [0] [] [] [.s 0] an)⟩
  intro yC h;refine sk (sq ?_);refine yR (id:=1) zk ?_;refine bE h fun zK zS h=>bE h fun yA yU h=>bE h fun y9 xB h=>bE h fun wW xJ h=>r2 [iH 7 { av:=.str zK },iH 11 { av:=.str yA },iH 13 { av:=.str y9,l:=(Ms ((zL).set ((z5).toNat) zK)) },iH 15 { av:=.str wW,l:=(Ms (((zL).set ((z5).toNat) zK).set ((uF).toNat) yA)) },iC (t9 zS:(0:Int)≤uF),iC (by first | (simp;done) | simpa using qI zS:uF<(((zL).length:Nat):Int)),iC (qG zS:(Ms zL)[(uF).toNat]?=some (.str zK)),iC (t9 yU:(0:Int)≤z5),iC (by first | (simp;done) | simpa using qI yU:z5<(((zL).length:Nat):Int)),iC (qG yU:(Ms zL)[(z5).toNat]?=some (.str yA)),iC (t9 xB:(0:Int)≤z5),iC (by first | (simp;done) | simpa using qI xB:z5<(((zL).length:Nat):Int)),iC (qG xB:(Ms zL)[(z5).toNat]?=some (.str y9)),iC (bW _ _ _:(Ms ((zL).set ((z5).toNat) zK))=List.set (Ms zL) ((z5).toNat) (kL (.str y9) 0 [.str zK])),iC (t9 xJ:(0:Int)≤uF),iC (by first | (simp;done) | simpa using qI xJ:uF<(((zL).length:Nat):Int)),iC (qG xJ:(Ms ((zL).set ((z5).toNat) zK))[(uF).toNat]?=some (.str wW)),iC (bW _ _ _:(Ms (((zL).set ((z5).toNat) zK).set ((uF).toNat) yA))=List.set (Ms ((zL).set ((z5).toNat) zK)) ((uF).toNat) (kL (.str wW) 0 [.str yA]))] [] [] [] [(0,Rb 9 1 (Ms (((zL).set ((z5).toNat) zK).set ((uF).toNat) yA)))] 1 (r0 [] [(2,Ii (zI (z5+(1:Int)))),(3,Ii (zI (uF - (1:Int))))] ?_);exact ⟨_,(sw [0] [] [.a 0 (.own 0 ((((zL).set ((z5).toNat) zK).set ((uF).toNat) yA).length)),.s 2,.s 3] [.s 0] (ac (congrArg (AV.own _) (by first | (simp;done) | (simp;omega)):(.own 0 ((zL).length):AV)=.own 0 ((((zL).set ((z5).toNat) zK).set ((uF).toNat) yA).length)) an)),_,_,_,rfl,h⟩
 cases h;exact ⟨.inl rfl,zle rfl,zk⟩

theorem MW (F:Nat) (yD:List (List Int)) (yG:List (zX)) (z5:Int) (r:(List (List Int))×Int) (h:CH F yD yG z5=some r):yK prog 145 [] [] [Ss yD,Sq 2 yM yG,Ii z5] [.row 9 1 (Ms r.1)] (.tuple [.own 0 ((r.1).length),Ii r.2]):=by
 refine tI Go.Proofs.Tryz.f145 ?_;unfold CH at h;refine sE [iH 0 { id:=0,m:=1 }] [(0,Ss yD),(1,Sq 2 yM yG),(2,Ii z5)] [] 1 (sq ?_);refine yR (id:=0) zk ?_;refine sq (bE h fun zA zH h=>r0 [iK 2 {} (lV F yD yG zA zH)] [(9,.bool (zA != (0:Int)))] (ch 9 h ?_ ?_))
 ·intro yC h;refine s2 [iH 0 { id:=1,m:=1 }] [0,1] [(6,.own 1 0),(7,Ii 1)] [] [(1,Rb 9 1 [])] 2 (wz [1] [] [6] [] [(6,.own 0 ((([]:List (List Int))).length)),(7,Ii 1)] [(0,Rb 9 1 [])] (ac (congrArg (AV.own _) (by first | (simp;done) | (simp;omega)):(.own 1 0:AV)=.own 1 ((([]:List (List Int))).length)) an) ?_);cases h;exact rt rx
 intro yC h;refine sq ?_;refine xL (mk [(0,Ss yD),(1,Sq 2 yM yG),(2,Ii z5),(14,.bool (decide (z5<(-1:Int))||decide (z5≥(lN (yG)))))] [] 0) ?_ ?_
 ·rcases bft (decide (z5<(-1:Int))) with zP | zP
  ·refine r0 [iG 3 4,iH 7 Ht,iR 5 zP] [(14,.bool true)] ?_;exact ⟨rfl,(sw [] [] [.s 0,.s 1,.s 2,.a 14 (.bool (decide (z5<(-1:Int))||decide (z5≥(lN (yG)))))] [] (ac (congrArg AV.bool (ort zP):(.bool true:AV)=.bool (decide (z5<(-1:Int))||decide (z5≥(lN (yG))))) an))⟩
  ·refine r0 [iH 7 Hf,iR 3 zP,iN 5 yM yG,iR 2 zP] [(14,.bool (decide (z5≥(lN (yG)))))] ?_;exact ⟨rfl,(sw [] [] [.s 0,.s 1,.s 2,.a 14 (.bool (decide (z5<(-1:Int))||decide (z5≥(lN (yG)))))] [] (ac (congrArg AV.bool (orf zP rfl):(.bool (decide (z5≥(lN (yG)))):AV)=.bool (decide (z5<(-1:Int))||decide (z5≥(lN (yG))))) an))⟩
 refine ch 14 h ?_ ?_
 ·intro y0 h;refine s2 [iH 0 { id:=0,m:=1 }] [0,1] [(6,.own 0 0),(7,Ii 2)] [] [(0,Rb 9 1 [])] 1 (wz [0] [] [6] [] [(6,.own 0 ((([]:List (List Int))).length)),(7,Ii 2)] [(0,Rb 9 1 [])] (ac (congrArg (AV.own _) (by first | (simp;done) | (simp;omega)):(.own 0 0:AV)=.own 0 ((([]:List (List Int))).length)) an) ?_);cases h;exact rt rx
 intro y0 h;refine sk (s2 [iH 0 { id:=0,m:=1 }] [] [(8,.own 0 0)] [] [(0,Rb 9 1 [])] 1 (sq (bE h fun zD zS h=>?_)));refine xL (mk [(8,.own 0 ((zD).length))] [(0,Rb 9 1 (Ms zD))] 1) ?_ ?_
 ·replace h:=zS;refine yR (id:=1) zk ?_;refine w0 [0] [] [(0,Ss yD),(1,Sq 2 yM yG),(2,Ii z5),(8,.own 0 0)] [(0,Rb 9 1 [])] ?_;refine x8 (fun n st=>∃ (wQ:Int),∃ (zL:List (List Int)),st=mk [(0,Ss yD),(1,Sq 2 yM yG),(2,Ii wQ),(8,.own 0 ((zL).length))] [(0,Rb 9 1 (Ms zL))] 1∧r6 F yD yG n wQ zL=some zD) F zk ⟨_,_,rfl,h⟩ ?_ ?_
  ·rintro _ ⟨_,_,_,h⟩;exact x7 (h:(none:Option (List (List Int)))=some zD)
  rintro z4 _ ⟨wQ,zL,rfl,h⟩;replace h:B1 F yD yG (r6 F yD yG z4) wQ zL=some zD:=h;unfold B1 at h;refine sq (c0 [] 24 h [] ?_ ?_)
  rotate_left
  ·intro xH h;refine x4 (id:=1) zk ?_;cases h;exact ⟨rfl,(sw [0] [] [.s 8] [.s 0] an)⟩
  intro xH h;refine sk (sq ?_);refine yR (id:=2) zk ?_;refine bE h fun zK yU h=>bE h fun yA xB h=>nE h fun xJ h=>r2 [iH 9 { id:=1 },iH 10 { id:=2,l:=(Ms (zL++([yA]:List (List Int)))),n:=((zL++([yA]:List (List Int)))).length },iF 4 yM yU,iC (by decide:(0:Int)≤(1:Int)),iC (by decide:(1:Int)<((2:Nat):Int)),iF 7 AV.str xB,iM AV.str zL,iA 1,iC (uD _ _:(Ms (zL++([yA]:List (List Int))))=(Ms zL)++(Ms ([yA]:List (List Int)))),iC (by simp:((zL++([yA]:List (List Int)))).length=((List.map AV.str (zL++([yA]:List (List Int))))).length),iC (by first | (simp;done) | simpa using xJ:(((List.map AV.str zL):List AV).length+((List.map AV.str ([yA]:List (List Int))):List AV).length) * 16≤140737488355328)] [] [(8,.own 2 (((zL++([yA]:List (List Int)))).length))] [0] [(2,Rb 9 1 (Ms (zL++([yA]:List (List Int)))))] 3 (bE h fun y9 x3 h=>r0 [iF 2 yM x3,i0,iC (by decide:(0:Int)<((2:Nat):Int))] [(2,Ii y9.c0)] ?_);exact ⟨_,(sw [2] [] [.s 0,.s 1,.s 2,.s 8] [.s 0] an),_,_,rfl,h⟩
 refine sq (bE h fun zF wP h=>nE h fun w6 h=>r2 [iK 1 { ids:=[0] } (TM F zD zF wP)] [] [] [] [(0,Rb 9 1 (Ms zF))] 1 (s1 [] [8] [(6,.own 0 ((zD).length)),(7,Ii 0)] (wz [0] [] [6] [] [(6,.own 0 ((zF).length)),(7,Ii 0)] [(0,Rb 9 1 (Ms zF))] (ac (congrArg (AV.own _) w6.symm:(.own 0 ((zD).length):AV)=.own 0 ((zF).length)) an) ?_)));cases h;exact rt rx

theorem TF (r:(List (wC))) (h:BA=some r):yK prog 167 [] [] [] [.row 193 9 (Mp pM r)] (.own 0 ((r).length)):=by
 refine tI Go.Proofs.Tryz.f167 ?_;unfold BA at h;refine sE [iH 0 { id:=0,m:=1 }] [] [] 1 (s2 [iH 13 { id:=1 }] [] [(0,.own 1 13)] [] [(1,Rb 193 9 (Mp pM ([zL4,zL8,zL5,zL7,o6,lZ,oK,zL9,zL6,oM,rC,rY,oC]:List wC)))] 2 (wz [1] [] [0] [] [(0,.own 0 ((([zL4,zL8,zL5,zL7,o6,lZ,oK,zL9,zL6,oM,rC,rY,oC]:List wC)).length))] [(0,Rb 193 9 (Mp pM ([zL4,zL8,zL5,zL7,o6,lZ,oK,zL9,zL6,oM,rC,rY,oC]:List wC)))] (ac (congrArg (AV.own _) (by first | (simp;done) | (simp;omega)):(.own 1 13:AV)=.own 1 ((([zL4,zL8,zL5,zL7,o6,lZ,oK,zL9,zL6,oM,rC,rY,oC]:List wC)).length)) an) ?_));cases h;exact rt rx

theorem NT (xY:Int) (r:wC×Bool) (h:E7 xY=some r):yK prog 152 [] [] [Ii xY] [] (.tuple [pM r.1,.bool r.2]):=by
 refine tI Go.Proofs.Tryz.f152 ?_;unfold E7 at h;refine sE [iH 0 { id:=0 }] [(0,Ii xY),(2,Pp 0)] [(0,Vb 193 [.str ([]:List Int),.bool false,.bool false,.bool false,.bool false,Ii 0,Ii 0,Ii 0,Ii 0])] 1 (sq (bE h fun zA zH h=>r2 [iK 0 { ids:=[1] } (TF zA zH)] [] [(4,.own 1 ((zA).length))] [] [(1,Rb 193 9 (Mp pM zA))] 2 (sq (ad 13 h ?_ ?_ ?_))))
 ·rcases bft (decide (xY<(1:Int))) with zO | zO
  ·exact rm [iG 3 4,iH 7 Ht,iR 5 zO] (ort zO)
  ·exact rm [iH 7 Hf,iR 5 zO] (orf zO rfl)
 ·intro yC h;refine s2 [] [4] [(3,.bool false)] [1] [] 2 ?_;cases h;exact rt rx
 intro yC h;refine sk (sq (bE h fun zK zS h=>r2 [iH 3 { av:=pM zK },iC (t9 zS:(0:Int)≤xY),iC (by first | (simp;done) | simpa using qI zS:xY<(((zA).length:Nat):Int)),iC (qG zS:(Mp pM zA)[(xY).toNat]?=some (pM zK))] [4] [(3,.bool true)] [1] [(0,Vb 193 (dW zK))] 2 ?_));cases h;exact rt rx

theorem MD (F:Nat) (zQ:List (List Int)) (r:Int) (h:rA F zQ=some r):yK prog 156 [] [] [Ss zQ] [] (Ii r):=by
 refine tI Go.Proofs.Tryz.f156 ?_;unfold rA at h;refine sE [] [(0,Ss zQ)] [] 0 (sq (c0 [iN 1 AV.str zQ] 8 h [] ?_ ?_))
 ·intro yC h;refine s1 [] [0] [(2,Ii 7)] ?_;cases h;exact rt rx
 intro yC h;refine sk (sq (s1 [iN 1 AV.str zQ] [0] [(9,Ss zQ),(10,Ii (lN (zQ))),(11,Ii 0)] (bE h fun zD zH h=>?_)));refine vG (K1:=(fun e st'=>match zD with | (.inl q0)=>e=.normal∧Sub 0 st' (mk [] [] 0) | (.inr q1)=>e=.ret∧vH prog Go.Proofs.Tryz.f156 0 [] (Ii q1) st')) ?_ ?_
 ·replace h:=zH;refine yR (id:=0) zk ?_;refine w0 [] [] [(9,Ss zQ),(10,Ii (lN (zQ))),(11,Ii 0)] [] ?_;refine x8 (fun n st=>∃ (zJ:Int),st=mk [(9,Ss zQ),(10,Ii (lN (zQ))),(11,Ii zJ)] [] 0∧rU F zQ n zJ=some zD) F zk ⟨_,rfl,h⟩ ?_ ?_
  ·rintro _ ⟨_,_,h⟩;exact x7 (h:(none:Option (Unit⊕Int))=some zD)
  rintro z4 _ ⟨zJ,rfl,h⟩;replace h:GH F zQ (rU F zQ z4) zJ=some zD:=h;unfold GH at h;refine s0 [] [(12,.bool (decide (zJ<(lN (zQ)))))] (sq (ch 12 h ?_ ?_))
  rotate_left
  ·intro y0 h;refine x4 (id:=0) zk ?_;cases h;exact ⟨rfl,(sw [] [] [] [] an)⟩
  intro y0 h;refine sk (sq ?_);refine yR (id:=1) zk ?_;refine sq (bE h fun zK zS h=>r0 [iF 0 AV.str zS] [(4,.str zK)] (sq (bE h fun zA yU h=>r0 [iK 1 {} (d6 F zK zA yU)] [(5,Ii zA)] (c0 [] 18 h [] ?_ ?_))))
  rotate_left
  ·intro xH h;refine sk (r0 [] [(11,Ii (zI (zJ+(1:Int))))] ?_);exact ⟨_,(sw [] [] [.s 9,.s 10,.s 11] [] an),_,rfl,h⟩
  intro xH h;refine s1 [] [9] [(2,Ii zA)] ?_;cases h;exact rt ry
 intro e st1 hk;rcases zD with z7 | xG
 rotate_left
 ·obtain ⟨rfl,hf⟩:=hk;cases h;exact ⟨st1,Sub.refl _ _,.inr rfl,hf⟩
 obtain ⟨rfl,hs⟩:=hk;refine ⟨_,hs,?_⟩;refine s0 [] [(2,Ii 0)] ?_;cases h;exact rt rx

theorem QG (F:Nat) (f_1:wC) (z0:xF) (r:Int) (h:D7 F f_1 z0=some r):yK prog 153 [] [] [pM f_1,xX z0] [] (Ii r):=by
 refine tI Go.Proofs.Tryz.f153 ?_;unfold D7 at h;refine sE [iH 0 { id:=0 },iH 1 { id:=1 }] [(2,Pp 0),(3,Pp 1)] [(0,Vb 193 (dW f_1)),(1,Vb 112 (tS z0))] 2 (sq (s2 [] [2] [(6,.bool f_1.name)] [0] [] 2 (ch 6 h ?_ ?_)))
 ·intro yC h;refine sq (bE h fun zA zH h=>r2 [iK 2 {} (d6 F z0.Name zA zH)] [3] [(4,Ii zA)] [1] [] 2 ?_);cases h;exact rt rx
 intro yC h;refine sk (sq (bE h fun zF zS h=>r2 [iK 2 {} (MD F z0.Stack zF zS)] [3] [(4,Ii zF)] [1] [] 2 ?_));cases h;exact rt rx

theorem C1 (F:Nat) (z0:xF) (r:Int) (h:gU F z0=some r):yK prog 128 [] [] [xX z0] [] (Ii r):=by
 refine tI Go.Proofs.Tryz.f128 ?_;unfold gU at h;refine sE [iH 0 { id:=0 }] [(1,Pp 0)] [(0,Vb 112 (tS z0))] 1 (sq (ad 13 h ?_ ?_ ?_))
 ·rcases bft (decide (z0.At<(0:Int))) with zO | zO
  ·exact rm [iG 4 3,iH 7 Ht,iR 4 zO] (ort zO)
  ·exact rm [iH 7 Hf,iR 4 zO] (orf zO rfl)
 ·intro yC h;refine s2 [] [1] [(2,Ii 2)] [0] [] 1 ?_;cases h;exact rt rx
 intro yC h;refine sk (sq (bE h fun zA zH h=>r2 [iH 6 { id:=1 },iK 2 {} (NT z0.Kind zA zH)] [] [(3,Pp 1),(4,.bool zA.2)] [] [(1,Vb 193 (dW zA.1))] 2 (sq (sq (bE h fun zM zS h=>?_)))));refine xL (mk [(1,Pp 0),(3,Pp 1),(62,.bool zM)] [(0,Vb 112 (tS z0)),(1,Vb 193 (dW zA.1))] 2) ?_ ?_
 ·replace h:=zS;rcases bft (!zA.2) with zP | zP
  ·replace h:=xE zP h;refine r0 [iG 3 4,iH 10 Hg,iH 11 Ht,iG 13 4,iH 20 Hg,iH 21 Ht,iG 23 4,iH 30 Hg,iH 31 Ht,iG 33 4,iH 41 Hg,iH 42 Ht,iR 6 zP,iX 5,iA true,iX 5,iA true,iX 5,iA true] [(62,.bool true)] ?_;cases h;exact ⟨rfl,(sw [0,1] [] [.s 1,.s 3,.s 62] [.s 0,.s 1] an)⟩
  ·replace h:=xD zP h;rcases bft (!zA.1.name) with z8 | z8
   ·replace h:=xE z8 h;rcases bft (!(z0.Name==([]:List Int))) with yJ | yJ
    ·replace h:=xE yJ h;refine r0 [iH 10 Ht,iH 11 Hf,iG 13 4,iH 20 Hg,iH 21 Ht,iG 23 4,iH 30 Hg,iH 31 Ht,iG 33 4,iH 41 Hg,iH 42 Ht,iR 4 zP,iR 3 z8,iC zP,iC z8,iC zP,iR 6 yJ,iX 5,iA true,iX 5,iA true] [(62,.bool true)] ?_;cases h;exact ⟨rfl,(sw [0,1] [] [.s 1,.s 3,.s 62] [.s 0,.s 1] an)⟩
    ·replace h:=xD yJ h;rcases bft (!zA.1.n) with x9 | x9
     ·replace h:=xE x9 h;rcases bft (z0.N != (0:Int)) with x5 | x5
      ·replace h:=xE x5 h;refine r0 [iH 10 Ht,iH 11 Hf,iH 20 Ht,iH 21 Hf,iG 23 4,iH 30 Hg,iH 31 Ht,iG 33 4,iH 41 Hg,iH 42 Ht,iR 4 zP,iR 3 z8,iC zP,iC z8,iC zP,iR 4 yJ,iR 3 x9,iC yJ,iC x9,iC yJ,iR 6 x5,iX 5,iA true] [(62,.bool true)] ?_;cases h;exact ⟨rfl,(sw [0,1] [] [.s 1,.s 3,.s 62] [.s 0,.s 1] an)⟩
      ·replace h:=xD x5 h;rcases bft (!zA.1.m) with xU | xU
       ·replace h:=xE xU h;rcases bft (z0.M != (0:Int)) with xW | xW
        ·replace h:=xE xW h;refine r0 [iH 10 Ht,iH 11 Hf,iH 20 Ht,iH 21 Hf,iH 30 Ht,iH 31 Hf,iG 33 4,iH 41 Hg,iH 42 Ht,iR 4 zP,iR 3 z8,iC zP,iC z8,iC zP,iR 4 yJ,iR 3 x9,iC yJ,iC x9,iC yJ,iR 4 x5,iR 3 xU,iC x5,iC xU,iC x5,iR 6 xW] [(62,.bool true)] ?_;cases h;exact ⟨rfl,(sw [0,1] [] [.s 1,.s 3,.s 62] [.s 0,.s 1] an)⟩
        ·replace h:=xD xW h;rcases bft (!zA.1.stack) with w4 | w4
         ·replace h:=xE w4 h;refine r0 [iH 10 Ht,iH 11 Hf,iH 20 Ht,iH 21 Hf,iH 30 Ht,iH 31 Hf,iH 41 Ht,iH 42 Hf,iR 4 zP,iR 3 z8,iC zP,iC z8,iC zP,iR 4 yJ,iR 3 x9,iC yJ,iC x9,iC yJ,iR 4 x5,iR 3 xU,iC x5,iC xU,iC x5,iR 4 xW,iR 3 w4,iN 39 AV.str z0.Stack,iC w4,iC xW,iC w4,iC xW] [(62,.bool (decide ((lN (z0.Stack))>(0:Int))))] ?_;cases h;exact ⟨rfl,(sw [0,1] [] [.s 1,.s 3,.s 62] [.s 0,.s 1] an)⟩
         ·replace h:=xD w4 h;refine r0 [iH 10 Ht,iH 11 Hf,iH 20 Ht,iH 21 Hf,iH 30 Ht,iH 31 Hf,iG 37 4,iH 41 Hf,iH 42 Hf,iR 4 zP,iR 3 z8,iC zP,iC z8,iC zP,iR 4 yJ,iR 3 x9,iC yJ,iC x9,iC yJ,iR 4 x5,iR 3 xU,iC x5,iC xU,iC x5,iR 4 xW,iR 4 w4,iC xW,iC w4,iC xW] [(62,.bool false)] ?_;cases h;exact ⟨rfl,(sw [0,1] [] [.s 1,.s 3,.s 62] [.s 0,.s 1] an)⟩
       ·replace h:=xD xU h;rcases bft (!zA.1.stack) with wL | wL
        ·replace h:=xE wL h;refine r0 [iH 10 Ht,iH 11 Hf,iH 20 Ht,iH 21 Hf,iG 27 3,iH 30 Hf,iH 31 Hf,iH 41 Ht,iH 42 Hf,iR 4 zP,iR 3 z8,iC zP,iC z8,iC zP,iR 4 yJ,iR 3 x9,iC yJ,iC x9,iC yJ,iR 4 x5,iR 3 xU,iC x5,iC xU,iC x5,iQ 4 false,iR 3 wL,iN 39 AV.str z0.Stack,iC wL,iA false,iC wL,iA false] [(62,.bool (decide ((lN (z0.Stack))>(0:Int))))] ?_;cases h;exact ⟨rfl,(sw [0,1] [] [.s 1,.s 3,.s 62] [.s 0,.s 1] an)⟩
        ·replace h:=xD wL h;refine r0 [iH 10 Ht,iH 11 Hf,iH 20 Ht,iH 21 Hf,iG 27 3,iH 30 Hf,iH 31 Hf,iG 37 4,iH 41 Hf,iH 42 Hf,iR 4 zP,iR 3 z8,iC zP,iC z8,iC zP,iR 4 yJ,iR 3 x9,iC yJ,iC x9,iC yJ,iR 4 x5,iR 3 xU,iC x5,iC xU,iC x5,iQ 4 false,iR 4 wL,iA false,iC wL,iA false] [(62,.bool false)] ?_;cases h;exact ⟨rfl,(sw [0,1] [] [.s 1,.s 3,.s 62] [.s 0,.s 1] an)⟩
     ·replace h:=xD x9 h;rcases bft (!zA.1.m) with wI | wI
      ·replace h:=xE wI h;rcases bft (z0.M != (0:Int)) with wX | wX
       ·replace h:=xE wX h;refine r0 [iH 10 Ht,iH 11 Hf,iG 17 3,iH 20 Hf,iH 21 Hf,iH 30 Ht,iH 31 Hf,iG 33 4,iH 41 Hg,iH 42 Ht,iR 4 zP,iR 3 z8,iC zP,iC z8,iC zP,iR 4 yJ,iR 3 x9,iC yJ,iC x9,iC yJ,iQ 4 false,iR 3 wI,iA false,iC wI,iA false,iR 6 wX] [(62,.bool true)] ?_;cases h;exact ⟨rfl,(sw [0,1] [] [.s 1,.s 3,.s 62] [.s 0,.s 1] an)⟩
       ·replace h:=xD wX h;rcases bft (!zA.1.stack) with w5 | w5
        ·replace h:=xE w5 h;refine r0 [iH 10 Ht,iH 11 Hf,iG 17 3,iH 20 Hf,iH 21 Hf,iH 30 Ht,iH 31 Hf,iH 41 Ht,iH 42 Hf,iR 4 zP,iR 3 z8,iC zP,iC z8,iC zP,iR 4 yJ,iR 3 x9,iC yJ,iC x9,iC yJ,iQ 4 false,iR 3 wI,iA false,iC wI,iA false,iR 4 wX,iR 3 w5,iN 39 AV.str z0.Stack,iC w5,iC wX,iC w5,iC wX] [(62,.bool (decide ((lN (z0.Stack))>(0:Int))))] ?_;cases h;exact ⟨rfl,(sw [0,1] [] [.s 1,.s 3,.s 62] [.s 0,.s 1] an)⟩
        ·replace h:=xD w5 h;refine r0 [iH 10 Ht,iH 11 Hf,iG 17 3,iH 20 Hf,iH 21 Hf,iH 30 Ht,iH 31 Hf,iG 37 4,iH 41 Hf,iH 42 Hf,iR 4 zP,iR 3 z8,iC zP,iC z8,iC zP,iR 4 yJ,iR 3 x9,iC yJ,iC x9,iC yJ,iQ 4 false,iR 3 wI,iA false,iC wI,iA false,iR 4 wX,iR 4 w5,iC wX,iC w5,iC wX] [(62,.bool false)] ?_;cases h;exact ⟨rfl,(sw [0,1] [] [.s 1,.s 3,.s 62] [.s 0,.s 1] an)⟩
      ·replace h:=xD wI h;rcases bft (!zA.1.stack) with v3 | v3
       ·replace h:=xE v3 h;refine r0 [iH 10 Ht,iH 11 Hf,iG 17 3,iH 20 Hf,iH 21 Hf,iG 27 3,iH 30 Hf,iH 31 Hf,iH 41 Ht,iH 42 Hf,iR 4 zP,iR 3 z8,iC zP,iC z8,iC zP,iR 4 yJ,iR 3 x9,iC yJ,iC x9,iC yJ,iQ 4 false,iR 3 wI,iA false,iC wI,iQ 5 false,iR 3 v3,iN 39 AV.str z0.Stack,iC v3,iA false,iC v3,iA false] [(62,.bool (decide ((lN (z0.Stack))>(0:Int))))] ?_;cases h;exact ⟨rfl,(sw [0,1] [] [.s 1,.s 3,.s 62] [.s 0,.s 1] an)⟩
       ·replace h:=xD v3 h;refine r0 [iH 10 Ht,iH 11 Hf,iG 17 3,iH 20 Hf,iH 21 Hf,iG 27 3,iH 30 Hf,iH 31 Hf,iG 37 4,iH 41 Hf,iH 42 Hf,iR 4 zP,iR 3 z8,iC zP,iC z8,iC zP,iR 4 yJ,iR 3 x9,iC yJ,iC x9,iC yJ,iQ 4 false,iR 3 wI,iA false,iC wI,iQ 5 false,iR 4 v3,iA false,iC v3,iA false] [(62,.bool false)] ?_;cases h;exact ⟨rfl,(sw [0,1] [] [.s 1,.s 3,.s 62] [.s 0,.s 1] an)⟩
   ·replace h:=xD z8 h;rcases bft (!zA.1.n) with uG | uG
    ·replace h:=xE uG h;rcases bft (z0.N != (0:Int)) with tG | tG
     ·replace h:=xE tG h;refine r0 [iG 7 3,iH 10 Hf,iH 11 Hf,iH 20 Ht,iH 21 Hf,iG 23 4,iH 30 Hg,iH 31 Ht,iG 33 4,iH 41 Hg,iH 42 Ht,iR 4 zP,iR 3 z8,iC zP,iC z8,iC zP,iQ 4 false,iR 3 uG,iA false,iC uG,iA false,iR 6 tG,iX 5,iA true] [(62,.bool true)] ?_;cases h;exact ⟨rfl,(sw [0,1] [] [.s 1,.s 3,.s 62] [.s 0,.s 1] an)⟩
     ·replace h:=xD tG h;rcases bft (!zA.1.m) with jM | jM
      ·replace h:=xE jM h;rcases bft (z0.M != (0:Int)) with kY | kY
       ·replace h:=xE kY h;refine r0 [iG 7 3,iH 10 Hf,iH 11 Hf,iH 20 Ht,iH 21 Hf,iH 30 Ht,iH 31 Hf,iG 33 4,iH 41 Hg,iH 42 Ht,iR 4 zP,iR 3 z8,iC zP,iC z8,iC zP,iQ 4 false,iR 3 uG,iA false,iC uG,iA false,iR 4 tG,iR 3 jM,iC tG,iC jM,iC tG,iR 6 kY] [(62,.bool true)] ?_;cases h;exact ⟨rfl,(sw [0,1] [] [.s 1,.s 3,.s 62] [.s 0,.s 1] an)⟩
       ·replace h:=xD kY h;rcases bft (!zA.1.stack) with nY | nY
        ·replace h:=xE nY h;refine r0 [iG 7 3,iH 10 Hf,iH 11 Hf,iH 20 Ht,iH 21 Hf,iH 30 Ht,iH 31 Hf,iH 41 Ht,iH 42 Hf,iR 4 zP,iR 3 z8,iC zP,iC z8,iC zP,iQ 4 false,iR 3 uG,iA false,iC uG,iA false,iR 4 tG,iR 3 jM,iC tG,iC jM,iC tG,iR 4 kY,iR 3 nY,iN 39 AV.str z0.Stack,iC nY,iC kY,iC nY,iC kY] [(62,.bool (decide ((lN (z0.Stack))>(0:Int))))] ?_;cases h;exact ⟨rfl,(sw [0,1] [] [.s 1,.s 3,.s 62] [.s 0,.s 1] an)⟩
        ·replace h:=xD nY h;refine r0 [iG 7 3,iH 10 Hf,iH 11 Hf,iH 20 Ht,iH 21 Hf,iH 30 Ht,iH 31 Hf,iG 37 4,iH 41 Hf,iH 42 Hf,iR 4 zP,iR 3 z8,iC zP,iC z8,iC zP,iQ 4 false,iR 3 uG,iA false,iC uG,iA false,iR 4 tG,iR 3 jM,iC tG,iC jM,iC tG,iR 4 kY,iR 4 nY,iC kY,iC nY,iC kY] [(62,.bool false)] ?_;cases h;exact ⟨rfl,(sw [0,1] [] [.s 1,.s 3,.s 62] [.s 0,.s 1] an)⟩
      ·replace h:=xD jM h;rcases bft (!zA.1.stack) with nZ | nZ
       ·replace h:=xE nZ h;refine r0 [iG 7 3,iH 10 Hf,iH 11 Hf,iH 20 Ht,iH 21 Hf,iG 27 3,iH 30 Hf,iH 31 Hf,iH 41 Ht,iH 42 Hf,iR 4 zP,iR 3 z8,iC zP,iC z8,iC zP,iQ 4 false,iR 3 uG,iA false,iC uG,iA false,iR 4 tG,iR 3 jM,iC tG,iC jM,iC tG,iQ 4 false,iR 3 nZ,iN 39 AV.str z0.Stack,iC nZ,iA false,iC nZ,iA false] [(62,.bool (decide ((lN (z0.Stack))>(0:Int))))] ?_;cases h;exact ⟨rfl,(sw [0,1] [] [.s 1,.s 3,.s 62] [.s 0,.s 1] an)⟩
       ·replace h:=xD nZ h;refine r0 [iG 7 3,iH 10 Hf,iH 11 Hf,iH 20 Ht,iH 21 Hf,iG 27 3,iH 30 Hf,iH 31 Hf,iG 37 4,iH 41 Hf,iH 42 Hf,iR 4 zP,iR 3 z8,iC zP,iC z8,iC zP,iQ 4 false,iR 3 uG,iA false,iC uG,iA false,iR 4 tG,iR 3 jM,iC tG,iC jM,iC tG,iQ 4 false,iR 4 nZ,iA false,iC nZ,iA false] [(62,.bool false)] ?_;cases h;exact ⟨rfl,(sw [0,1] [] [.s 1,.s 3,.s 62] [.s 0,.s 1] an)⟩
    ·replace h:=xD uG h;rcases bft (!zA.1.m) with u9 | u9
     ·replace h:=xE u9 h;rcases bft (z0.M != (0:Int)) with tZ | tZ
      ·replace h:=xE tZ h;refine r0 [iG 7 3,iH 10 Hf,iH 11 Hf,iG 17 3,iH 20 Hf,iH 21 Hf,iH 30 Ht,iH 31 Hf,iG 33 4,iH 41 Hg,iH 42 Ht,iR 4 zP,iR 3 z8,iC zP,iC z8,iC zP,iQ 4 false,iR 3 uG,iA false,iC uG,iQ 5 false,iR 3 u9,iA false,iC u9,iA false,iR 6 tZ] [(62,.bool true)] ?_;cases h;exact ⟨rfl,(sw [0,1] [] [.s 1,.s 3,.s 62] [.s 0,.s 1] an)⟩
      ·replace h:=xD tZ h;rcases bft (!zA.1.stack) with tH | tH
       ·replace h:=xE tH h;refine r0 [iG 7 3,iH 10 Hf,iH 11 Hf,iG 17 3,iH 20 Hf,iH 21 Hf,iH 30 Ht,iH 31 Hf,iH 41 Ht,iH 42 Hf,iR 4 zP,iR 3 z8,iC zP,iC z8,iC zP,iQ 4 false,iR 3 uG,iA false,iC uG,iQ 5 false,iR 3 u9,iA false,iC u9,iA false,iR 4 tZ,iR 3 tH,iN 39 AV.str z0.Stack,iC tH,iC tZ,iC tH,iC tZ] [(62,.bool (decide ((lN (z0.Stack))>(0:Int))))] ?_;cases h;exact ⟨rfl,(sw [0,1] [] [.s 1,.s 3,.s 62] [.s 0,.s 1] an)⟩
       ·replace h:=xD tH h;refine r0 [iG 7 3,iH 10 Hf,iH 11 Hf,iG 17 3,iH 20 Hf,iH 21 Hf,iH 30 Ht,iH 31 Hf,iG 37 4,iH 41 Hf,iH 42 Hf,iR 4 zP,iR 3 z8,iC zP,iC z8,iC zP,iQ 4 false,iR 3 uG,iA false,iC uG,iQ 5 false,iR 3 u9,iA false,iC u9,iA false,iR 4 tZ,iR 4 tH,iC tZ,iC tH,iC tZ] [(62,.bool false)] ?_;cases h;exact ⟨rfl,(sw [0,1] [] [.s 1,.s 3,.s 62] [.s 0,.s 1] an)⟩
     ·replace h:=xD u9 h;rcases bft (!zA.1.stack) with t3 | t3
      ·replace h:=xE t3 h;refine r0 [iG 7 3,iH 10 Hf,iH 11 Hf,iG 17 3,iH 20 Hf,iH 21 Hf,iG 27 3,iH 30 Hf,iH 31 Hf,iH 41 Ht,iH 42 Hf,iR 4 zP,iR 3 z8,iC zP,iC z8,iC zP,iQ 4 false,iR 3 uG,iA false,iC uG,iQ 5 false,iR 3 u9,iA false,iC u9,iQ 5 false,iR 3 t3,iN 39 AV.str z0.Stack,iC t3,iA false,iC t3,iA false] [(62,.bool (decide ((lN (z0.Stack))>(0:Int))))] ?_;cases h;exact ⟨rfl,(sw [0,1] [] [.s 1,.s 3,.s 62] [.s 0,.s 1] an)⟩
      ·replace h:=xD t3 h;refine r0 [iG 7 3,iH 10 Hf,iH 11 Hf,iG 17 3,iH 20 Hf,iH 21 Hf,iG 27 3,iH 30 Hf,iH 31 Hf,iG 37 4,iH 41 Hf,iH 42 Hf,iR 4 zP,iR 3 z8,iC zP,iC z8,iC zP,iQ 4 false,iR 3 uG,iA false,iC uG,iQ 5 false,iR 3 u9,iA false,iC u9,iQ 5 false,iR 4 t3,iA false,iC t3,iA false] [(62,.bool false)] ?_;cases h;exact ⟨rfl,(sw [0,1] [] [.s 1,.s 3,.s 62] [.s 0,.s 1] an)⟩
 refine ch 62 h ?_ ?_
 ·intro y0 h;refine s2 [] [1,3] [(2,Ii 1)] [0,1] [] 2 ?_;cases h;exact rt rx
 intro y0 h;refine sk (sq (sq (bE h fun zF yU h=>r0 [iK 2 {} (QG F zA.1 z0 zF yU)] [(5,Ii zF)] (c0 [] 67 h [] ?_ ?_))))
 ·intro xH h;refine s2 [] [1,3] [(2,Ii zF)] [0,1] [] 2 ?_;cases h;exact rt rx
 intro xH h;refine sk (sq ?_);refine yR (id:=0) zk ?_;refine ad 69 h ?_ ?_ ?_
 ·rcases Bool.eq_false_or_eq_true zA.1.n with t4 | t4
  ·rcases bft (decide (z0.N<zA.1.least)) with jN | jN
   ·exact rm [iG 9 5,iH 14 Ht,iH 15 Ht,iR 6 t4,iR 5 jN,iC t4,iC jN,iC t4] (vA t4 (ort jN))
   ·exact rm [iH 14 Hf,iH 15 Ht,iR 6 t4,iR 5 jN,iC t4,iC jN,iC t4] (vA t4 (orf jN rfl))
  ·exact rm [iG 3 6,iH 14 Hg,iH 15 Hf,iR 8 t4] (uO t4)
 ·intro w7 h;refine s2 [] [1,3] [(2,Ii 2)] [0,1] [] 2 ?_;cases h;exact rt rx
 intro w7 h;refine ad 86 h ?_ ?_ ?_
 ·rcases bft (z0.Kind==(9:Int)) with bT | bT
  ·rcases bft (z0.N != (2:Int)) with gg_28 | gg_28
   ·exact rm [iH 7 Ht,iH 12 Ht,iR 4 bT,iR 4 gg_28] (vA bT (vA gg_28 rfl))
   ·exact rm [iH 7 Ht,iG 9 3,iH 12 Hf,iR 4 bT,iR 4 gg_28] (vA bT (uO gg_28))
  ·exact rm [iG 4 3,iH 7 Hf,iG 9 3,iH 12 Hf,iR 4 bT,iZ,iZ,iZ,iA false] (uO bT)
 ·intro vM h;refine s2 [] [1,3] [(2,Ii 1)] [0,1] [] 2 ?_;cases h;exact rt rx
 intro vM h;refine sq ?_;refine xL (mk [(100,.bool (zA.1.m&&(bif decide (z0.M<zA.1.mLeast) then ((z0.Kind != (9:Int))||(z0.N==(2:Int))) else (decide (z0.M>zA.1.mMost)&&((z0.Kind != (9:Int))||(z0.N==(2:Int)))))))] [] 0) ?_ ?_
 ·rcases Bool.eq_false_or_eq_true zA.1.m with uS | uS
  ·rcases bft (decide (z0.M<zA.1.mLeast)) with qJ | qJ
   ·rcases bft (z0.Kind != (9:Int)) with bU | bU
    ·refine r2 [iG 9 5,iH 14 Ht,iH 15 Ht,iG 21 3,iH 24 Ht,iH 25 Ht,iR 6 uS,iR 5 qJ,iC uS,iC qJ,iC uS,iQ 4 true,iR 3 bU,iA true,iC bU,iA true] [1,3] [(100,.bool true)] [0,1] [] 2 ?_;exact ⟨rfl,(sw [] [] [.a 100 (.bool (zA.1.m&&(bif decide (z0.M<zA.1.mLeast) then ((z0.Kind != (9:Int))||(z0.N==(2:Int))) else (decide (z0.M>zA.1.mMost)&&((z0.Kind != (9:Int))||(z0.N==(2:Int)))))))] [] (ac (congrArg AV.bool (vA uS (ctr qJ (ort bU))):(.bool true:AV)=.bool (zA.1.m&&(bif decide (z0.M<zA.1.mLeast) then ((z0.Kind != (9:Int))||(z0.N==(2:Int))) else (decide (z0.M>zA.1.mMost)&&((z0.Kind != (9:Int))||(z0.N==(2:Int))))))) an))⟩
    ·refine r2 [iG 9 5,iH 14 Ht,iH 15 Ht,iH 24 Hf,iH 25 Ht,iR 6 uS,iR 5 qJ,iC uS,iC qJ,iC uS,iQ 4 true,iR 3 bU,iA true,iC bU,iA true] [1,3] [(100,.bool (z0.N==(2:Int)))] [0,1] [] 2 ?_;exact ⟨rfl,(sw [] [] [.a 100 (.bool (zA.1.m&&(bif decide (z0.M<zA.1.mLeast) then ((z0.Kind != (9:Int))||(z0.N==(2:Int))) else (decide (z0.M>zA.1.mMost)&&((z0.Kind != (9:Int))||(z0.N==(2:Int)))))))] [] (ac (congrArg AV.bool (vA uS (ctr qJ (orf bU rfl))):(.bool (z0.N==(2:Int)):AV)=.bool (zA.1.m&&(bif decide (z0.M<zA.1.mLeast) then ((z0.Kind != (9:Int))||(z0.N==(2:Int))) else (decide (z0.M>zA.1.mMost)&&((z0.Kind != (9:Int))||(z0.N==(2:Int))))))) an))⟩
   ·rcases bft (decide (z0.M>zA.1.mMost)) with j9 | j9
    ·rcases bft (z0.Kind != (9:Int)) with bV | bV
     ·refine r2 [iH 14 Hf,iH 15 Ht,iG 21 3,iH 24 Ht,iH 25 Ht,iR 6 uS,iR 5 qJ,iC uS,iC qJ,iC uS,iR 4 j9,iR 3 bV,iC j9,iC bV,iC j9] [1,3] [(100,.bool true)] [0,1] [] 2 ?_;exact ⟨rfl,(sw [] [] [.a 100 (.bool (zA.1.m&&(bif decide (z0.M<zA.1.mLeast) then ((z0.Kind != (9:Int))||(z0.N==(2:Int))) else (decide (z0.M>zA.1.mMost)&&((z0.Kind != (9:Int))||(z0.N==(2:Int)))))))] [] (ac (congrArg AV.bool (vA uS (cfr qJ (vA j9 (ort bV)))):(.bool true:AV)=.bool (zA.1.m&&(bif decide (z0.M<zA.1.mLeast) then ((z0.Kind != (9:Int))||(z0.N==(2:Int))) else (decide (z0.M>zA.1.mMost)&&((z0.Kind != (9:Int))||(z0.N==(2:Int))))))) an))⟩
     ·refine r2 [iH 14 Hf,iH 15 Ht,iH 24 Hf,iH 25 Ht,iR 6 uS,iR 5 qJ,iC uS,iC qJ,iC uS,iR 4 j9,iR 3 bV,iC j9,iC bV,iC j9] [1,3] [(100,.bool (z0.N==(2:Int)))] [0,1] [] 2 ?_;exact ⟨rfl,(sw [] [] [.a 100 (.bool (zA.1.m&&(bif decide (z0.M<zA.1.mLeast) then ((z0.Kind != (9:Int))||(z0.N==(2:Int))) else (decide (z0.M>zA.1.mMost)&&((z0.Kind != (9:Int))||(z0.N==(2:Int)))))))] [] (ac (congrArg AV.bool (vA uS (cfr qJ (vA j9 (orf bV rfl)))):(.bool (z0.N==(2:Int)):AV)=.bool (zA.1.m&&(bif decide (z0.M<zA.1.mLeast) then ((z0.Kind != (9:Int))||(z0.N==(2:Int))) else (decide (z0.M>zA.1.mMost)&&((z0.Kind != (9:Int))||(z0.N==(2:Int))))))) an))⟩
    ·refine r2 [iH 14 Hf,iH 15 Ht,iG 17 4,iH 24 Hg,iH 25 Hf,iR 6 uS,iR 5 qJ,iC uS,iC qJ,iC uS,iR 6 j9] [1,3] [(100,.bool false)] [0,1] [] 2 ?_;exact ⟨rfl,(sw [] [] [.a 100 (.bool (zA.1.m&&(bif decide (z0.M<zA.1.mLeast) then ((z0.Kind != (9:Int))||(z0.N==(2:Int))) else (decide (z0.M>zA.1.mMost)&&((z0.Kind != (9:Int))||(z0.N==(2:Int)))))))] [] (ac (congrArg AV.bool (vA uS (cfr qJ (uO j9))):(.bool false:AV)=.bool (zA.1.m&&(bif decide (z0.M<zA.1.mLeast) then ((z0.Kind != (9:Int))||(z0.N==(2:Int))) else (decide (z0.M>zA.1.mMost)&&((z0.Kind != (9:Int))||(z0.N==(2:Int))))))) an))⟩
  ·refine r2 [iG 3 6,iH 14 Hg,iH 15 Hf,iG 17 4,iH 24 Hg,iH 25 Hf,iR 8 uS,iZ,iZ,iZ,iZ,iZ,iA false] [1,3] [(100,.bool false)] [0,1] [] 2 ?_;exact ⟨rfl,(sw [] [] [.a 100 (.bool (zA.1.m&&(bif decide (z0.M<zA.1.mLeast) then ((z0.Kind != (9:Int))||(z0.N==(2:Int))) else (decide (z0.M>zA.1.mMost)&&((z0.Kind != (9:Int))||(z0.N==(2:Int)))))))] [] (ac (congrArg AV.bool (uO uS):(.bool false:AV)=.bool (zA.1.m&&(bif decide (z0.M<zA.1.mLeast) then ((z0.Kind != (9:Int))||(z0.N==(2:Int))) else (decide (z0.M>zA.1.mMost)&&((z0.Kind != (9:Int))||(z0.N==(2:Int))))))) an))⟩
 refine ch 100 h ?_ ?_
 ·intro v8 h;refine s0 [] [(2,Ii 2)] ?_;cases h;exact rt rx
 intro v8 h;refine sk (s0 [] [(2,Ii 0)] ?_);cases h;exact rt rx

theorem NM (F:Nat) (yD:List (List Int)) (yG:List (zX)) (zC:List (Int)) (r:xF×Int×Int) (h:CM F yD yG zC=some r):yK prog 116 [] [] [Ss yD,Sq 2 yM yG,Sb zC] [] (.tuple [xX r.1,Ii r.2.1,Ii r.2.2]):=by
 refine tI Go.Proofs.Tryz.f116 ?_;unfold CM at h;refine sE [iH 0 { id:=0 }] [(0,Ss yD),(1,Sq 2 yM yG),(2,Sb zC),(6,Pp 0)] [(0,pQ)] 1 (sq (sq (bE h fun zA zH h=>r0 [iK 2 {} (lV F yD yG zA zH)] [(21,.bool (zA != (0:Int)))] (ch 21 h ?_ ?_))))
 ·intro yC h;refine s1 [] [0,1,2] [(7,Ii 0),(8,Ii 1)] (wz [0] [] [] [0] [(6,Pp 0),(7,Ii 0),(8,Ii 1)] [(0,Vb 112 (tS zL2))] (ar 112 (ar true (ar (Ii 0) (ar (Ii 0) (ar (.str ([]:List Int):AV) (ar (Ii 0) (ar (Ii 0) (ar ([]:List AV) an)))))))) ?_);cases h;exact rt rx
 intro yC h;refine sk (s2 [iH 2 { id:=1 }] [2] [(9,Pp 1)] [] [(1,Vb 186 [Sb zC,Ii 0,Ii 0])] 2 (sq (bE h fun zF zS h=>r2 [iJ 1 { ids:=[1] } ([Pp 1]:List AV) (cS F (⟨zC,(0:Int),(0:Int)⟩:t5) zF zS)] [] [(10,Ii zF.1)] [] [(1,Vb 186 (pA zF.2))] 2 (sq (bE h fun zN yU h=>r2 [iH 4 { id:=2 },iJ 2 { ids:=[1] } ([Pp 1]:List AV) (cS F zF.2 zN yU)] [] [(11,Pp 2)] [] [(1,Vb 186 (pA zN.2)),(2,Vb 112 [Ii zN.1,Ii zF.1,.str ([]:List Int),Ii 0,Ii 0,.nilsl])] 3 (sq (sq (am 44 ((zN.2.fault==(0:Int))&&(decide (zF.1<(1:Int))||decide (zF.1>(12:Int)))) ?_ ?_))))))))
 ·rcases bft (zN.2.fault==(0:Int)) with zO | zO
  ·rcases bft (decide (zF.1<(1:Int))) with zP | zP
   ·exact rm [iG 9 2,iH 11 Ht,iH 12 Ht,iR 3 zO,iR 2 zP,iC zO,iC zP,iC zO] (vA zO (ort zP))
   ·exact rm [iH 11 Hf,iH 12 Ht,iR 3 zO,iR 2 zP,iC zO,iC zP,iC zO] (vA zO (orf zP rfl))
  ·exact rm [iG 6 3,iH 11 Hg,iH 12 Hf,iR 5 zO] (uO zO)
 refine bE h fun zD xB h=>?_;refine xL (mk [(0,Ss yD),(1,Sq 2 yM yG),(6,Pp 0),(9,Pp 1),(11,Pp 2)] [(0,pQ),(1,Vb 186 [Sb zN.2.b,Ii zN.2.used,Ii zD]),(2,Vb 112 [Ii zN.1,Ii zF.1,.str ([]:List Int),Ii 0,Ii 0,.nilsl])] 3) ?_ ?_
 ·replace h:=xB;refine ch 44 h ?_ ?_
  ·intro y0 h;refine r2 [] [] [] [] [(1,Vb 186 [Sb zN.2.b,Ii zN.2.used,Ii 10])] 3 ?_;cases h;exact ⟨rfl,(sw [0,1,2] [] [.s 0,.s 1,.s 6,.s 9,.s 11] [.s 0,.s 1,.s 2] an)⟩
  intro y0 h;refine sk ?_;cases h;exact ⟨rfl,(sw [0,1,2] [] [.s 0,.s 1,.s 6,.s 9,.s 11] [.s 0,.s 1,.s 2] an)⟩
 refine sq (bE h fun zV xJ h=>r0 [iK 2 {} (JQ zF.1 zV xJ)] [(12,.bool zV.1),(13,.bool zV.2.1),(14,.bool zV.2.2.1),(15,.bool zV.2.2.2)] (s0 [] [(16,Ii 0),(17,Ii (-1))] (sq (s0 [] [(56,.bool zV.1)] (bE h fun zT x3 h=>?_)))));refine xL (mk [(0,Ss yD),(1,Sq 2 yM yG),(6,Pp 0),(9,Pp 1),(11,Pp 2),(12,.bool zV.1),(13,.bool zV.2.1),(14,.bool zV.2.2.1),(15,.bool zV.2.2.2),(16,Ii zT.1),(17,Ii (-1))] [(0,pQ),(1,Vb 186 [Sb zT.2.1,Ii zT.2.2.1,Ii zT.2.2.2]),(2,Vb 112 [Ii zN.1,Ii zF.1,.str ([]:List Int),Ii 0,Ii 0,.nilsl])] 3) ?_ ?_
 ·replace h:=x3;refine ch 56 h ?_ ?_
  rotate_left
  ·intro xH h;refine sk ?_;cases h;exact ⟨rfl,(sw [0,1,2] [] [.s 0,.s 1,.s 6,.s 9,.s 11,.s 12,.s 13,.s 14,.s 15,.s 16,.s 17] [.s 0,.s 1,.s 2] an)⟩
  intro xH h;refine bE h fun zU wP h=>r2 [iJ 1 { ids:=[1] } ([Pp 1]:List AV) (cS F (⟨zN.2.b,zN.2.used,zD⟩:t5) zU wP)] [] [(16,Ii zU.1)] [] [(1,Vb 186 (pA zU.2))] 3 ?_;cases h;exact ⟨rfl,(sw [0,1,2] [] [.s 0,.s 1,.s 6,.s 9,.s 11,.s 12,.s 13,.s 14,.s 15,.s 16,.s 17] [.s 0,.s 1,.s 2] an)⟩
 refine sq (s0 [] [(59,.bool zV.2.1)] (bE h fun yS w6 h=>?_));refine xL (mk [(0,Ss yD),(1,Sq 2 yM yG),(6,Pp 0),(9,Pp 1),(11,Pp 2),(12,.bool zV.1),(14,.bool zV.2.2.1),(15,.bool zV.2.2.2),(16,Ii zT.1),(17,Ii (-1))] [(0,pQ),(1,Vb 186 [Sb yS.1,Ii yS.2.1,Ii yS.2.2.1]),(2,Vb 112 [Ii zN.1,Ii zF.1,.str ([]:List Int),Ii yS.2.2.2,Ii 0,.nilsl])] 3) ?_ ?_
 ·replace h:=w6;refine ch 59 h ?_ ?_
  rotate_left
  ·intro w7 h;refine sk ?_;cases h;exact ⟨rfl,(sw [0,1,2] [] [.s 0,.s 1,.s 6,.s 9,.s 11,.s 12,.s 14,.s 15,.s 16,.s 17] [.s 0,.s 1,.s 2] an)⟩
  intro w7 h;refine bE h fun yB vF h=>r2 [iJ 1 { ids:=[1] } ([Pp 1]:List AV) (cS F (⟨zT.2.1,zT.2.2.1,zT.2.2.2⟩:t5) yB vF)] [] [] [] [(1,Vb 186 (pA yB.2)),(2,Vb 112 [Ii zN.1,Ii zF.1,.str ([]:List Int),Ii yB.1,Ii 0,.nilsl])] 3 ?_;cases h;exact ⟨rfl,(sw [0,1,2] [] [.s 0,.s 1,.s 6,.s 9,.s 11,.s 12,.s 14,.s 15,.s 16,.s 17] [.s 0,.s 1,.s 2] an)⟩
 refine sq (s0 [] [(63,.bool zV.2.2.1)] (bE h fun xO vN h=>?_));refine xL (mk [(0,Ss yD),(1,Sq 2 yM yG),(6,Pp 0),(9,Pp 1),(11,Pp 2),(12,.bool zV.1),(15,.bool zV.2.2.2),(16,Ii zT.1),(17,Ii (-1))] [(0,pQ),(1,Vb 186 [Sb xO.1,Ii xO.2.1,Ii xO.2.2.1]),(2,Vb 112 [Ii zN.1,Ii zF.1,.str ([]:List Int),Ii yS.2.2.2,Ii xO.2.2.2,.nilsl])] 3) ?_ ?_
 ·replace h:=vN;refine ch 63 h ?_ ?_
  rotate_left
  ·intro vM h;refine sk ?_;cases h;exact ⟨rfl,(sw [0,1,2] [] [.s 0,.s 1,.s 6,.s 9,.s 11,.s 12,.s 15,.s 16,.s 17] [.s 0,.s 1,.s 2] an)⟩
  intro vM h;refine bE h fun yY v7 h=>r2 [iJ 1 { ids:=[1] } ([Pp 1]:List AV) (cS F (⟨yS.1,yS.2.1,yS.2.2.1⟩:t5) yY v7)] [] [] [] [(1,Vb 186 (pA yY.2)),(2,Vb 112 [Ii zN.1,Ii zF.1,.str ([]:List Int),Ii yS.2.2.2,Ii yY.1,.nilsl])] 3 ?_;cases h;exact ⟨rfl,(sw [0,1,2] [] [.s 0,.s 1,.s 6,.s 9,.s 11,.s 12,.s 15,.s 16,.s 17] [.s 0,.s 1,.s 2] an)⟩
 refine sq (s0 [] [(67,.bool zV.2.2.2)] (bE h fun wJ uR h=>?_));refine xL (mk [(0,Ss yD),(1,Sq 2 yM yG),(6,Pp 0),(9,Pp 1),(11,Pp 2),(12,.bool zV.1),(16,Ii zT.1),(17,Ii wJ.1)] [(0,pQ),(1,Vb 186 [Sb wJ.2.1,Ii wJ.2.2.1,Ii wJ.2.2.2]),(2,Vb 112 [Ii zN.1,Ii zF.1,.str ([]:List Int),Ii yS.2.2.2,Ii xO.2.2.2,.nilsl])] 3) ?_ ?_
 ·replace h:=uR;refine ch 67 h ?_ ?_
  rotate_left
  ·intro v8 h;refine sk ?_;cases h;exact ⟨rfl,(sw [0,1,2] [] [.s 0,.s 1,.s 6,.s 9,.s 11,.s 12,.s 16,.s 17] [.s 0,.s 1,.s 2] an)⟩
  intro v8 h;refine bE h fun y4 tF h=>r2 [iJ 1 { ids:=[1] } ([Pp 1]:List AV) (cS F (⟨xO.1,xO.2.1,xO.2.2.1⟩:t5) y4 tF)] [] [(17,Ii y4.1)] [] [(1,Vb 186 (pA y4.2))] 3 ?_;cases h;exact ⟨rfl,(sw [0,1,2] [] [.s 0,.s 1,.s 6,.s 9,.s 11,.s 12,.s 16,.s 17] [.s 0,.s 1,.s 2] an)⟩
 refine sq (bE h fun o_6 uW h=>?_);refine vG (K1:=(fun e st'=>match o_6 with | (.inl q0)=>e=.normal∧Sub 0 st' (mk [(0,Ss yD),(1,Sq 2 yM yG),(6,Pp 0),(9,Pp 1),(11,Pp 2),(12,.bool zV.1),(16,Ii zT.1),(17,Ii wJ.1)] [(0,pQ),(1,Vb 186 [Sb wJ.2.1,Ii wJ.2.2.1,Ii wJ.2.2.2]),(2,Vb 112 [Ii zN.1,Ii zF.1,.str ([]:List Int),Ii yS.2.2.2,Ii xO.2.2.2,.nilsl])] 3) | (.inr q1)=>e=.ret∧vH prog Go.Proofs.Tryz.f116 0 [] (.tuple [xX q1.1,Ii q1.2.1,Ii q1.2.2]) st')) ?_ ?_
 ·replace h:=uW;refine yR (id:=0) zk ?_;refine c0 [] 70 h [] ?_ ?_
  ·intro u3 h;refine s2 [] [0,1,9,11] [(7,Ii 0),(8,Ii wJ.2.2.2)] [1,2] [] 3 (wz [0] [] [] [0] [(6,Pp 0),(7,Ii 0),(8,Ii wJ.2.2.2)] [(0,Vb 112 (tS zL2))] (ar 112 (ar true (ar (Ii 0) (ar (Ii 0) (ar (.str ([]:List Int):AV) (ar (Ii 0) (ar (Ii 0) (ar ([]:List AV) an)))))))) ?_);cases h;exact rt ry
  intro u3 h;refine sq (ad 81 h ?_ ?_ ?_)
  ·rcases Bool.eq_false_or_eq_true zV.1 with x5 | x5
   ·rcases bft (decide (zT.1<(0:Int))) with xU | xU
    ·exact rm [iG 5 4,iH 9 Ht,iH 10 Ht,iR 3 x5,iR 4 xU,iC x5,iC xU,iC x5] (vA x5 (ort xU))
    ·exact rm [iH 9 Hf,iH 10 Ht,iR 3 x5,iR 3 xU,iN 7 AV.str yD,iC xU,iC x5,iC xU,iC x5] (vA x5 (orf xU rfl))
   ·exact rm [iG 2 3,iH 9 Hg,iH 10 Hf,iR 5 x5] (uO x5)
  ·intro jA h;refine sk (cd 81 (zV.1&&(decide (zT.1<(0:Int))||decide (zT.1≥(lN (yD))))) ?_ ?_)
   rotate_left
   ·intro hg;exact Bool.noConfusion ((jA).symm.trans hg)
   intro _;refine s2 [] [0,1,9,11] [(7,Ii 0),(8,Ii 2)] [1,2] [] 3 (wz [0] [] [] [0] [(6,Pp 0),(7,Ii 0),(8,Ii 2)] [(0,Vb 112 (tS zL2))] (ar 112 (ar true (ar (Ii 0) (ar (Ii 0) (ar (.str ([]:List Int):AV) (ar (Ii 0) (ar (Ii 0) (ar ([]:List AV) an)))))))) ?_);cases h;exact rt ry
  intro jA h;refine xL (mk [(0,Ss yD),(1,Sq 2 yM yG),(6,Pp 0),(9,Pp 1),(11,Pp 2),(12,.bool zV.1),(16,Ii zT.1),(17,Ii wJ.1),(81,.bool (decide (wJ.1<(-1:Int))||decide (wJ.1≥(lN (yG)))))] [(0,pQ),(1,Vb 186 [Sb wJ.2.1,Ii wJ.2.2.1,Ii wJ.2.2.2]),(2,Vb 112 [Ii zN.1,Ii zF.1,.str ([]:List Int),Ii yS.2.2.2,Ii xO.2.2.2,.nilsl])] 3) ?_ ?_
  ·rcases bft (decide (wJ.1<(-1:Int))) with xW | xW
   ·refine r0 [iG 3 4,iH 7 Ht,iR 5 xW] [(81,.bool true)] ?_;exact ⟨rfl,(sw [0,1,2] [] [.s 0,.s 1,.s 6,.s 9,.s 11,.s 12,.s 16,.s 17,.a 81 (.bool (decide (wJ.1<(-1:Int))||decide (wJ.1≥(lN (yG)))))] [.s 0,.s 1,.s 2] (ac (congrArg AV.bool (ort xW):(.bool true:AV)=.bool (decide (wJ.1<(-1:Int))||decide (wJ.1≥(lN (yG))))) an))⟩
   ·refine r0 [iH 7 Hf,iR 3 xW,iN 5 yM yG,iR 2 xW] [(81,.bool (decide (wJ.1≥(lN (yG)))))] ?_;exact ⟨rfl,(sw [0,1,2] [] [.s 0,.s 1,.s 6,.s 9,.s 11,.s 12,.s 16,.s 17,.a 81 (.bool (decide (wJ.1<(-1:Int))||decide (wJ.1≥(lN (yG)))))] [.s 0,.s 1,.s 2] (ac (congrArg AV.bool (orf xW rfl):(.bool (decide (wJ.1≥(lN (yG)))):AV)=.bool (decide (wJ.1<(-1:Int))||decide (wJ.1≥(lN (yG))))) an))⟩
  refine ch 81 h ?_ ?_
  rotate_left
  ·intro g_9 h;refine sk ?_;cases h;exact ⟨rfl,(sw [0,1,2] [] [.s 0,.s 1,.s 6,.s 9,.s 11,.s 12,.s 16,.s 17] [.s 0,.s 1,.s 2] an)⟩
  intro g_9 h;refine s2 [] [0,1,9,11] [(7,Ii 0),(8,Ii 2)] [1,2] [] 3 (wz [0] [] [] [0] [(6,Pp 0),(7,Ii 0),(8,Ii 2)] [(0,Vb 112 (tS zL2))] (ar 112 (ar true (ar (Ii 0) (ar (Ii 0) (ar (.str ([]:List Int):AV) (ar (Ii 0) (ar (Ii 0) (ar ([]:List AV) an)))))))) ?_);cases h;exact rt ry
 intro e st1 hk;rcases o_6 with z7 | xG
 rotate_left
 ·obtain ⟨rfl,hf⟩:=hk;cases h;exact ⟨st1,Sub.refl _ _,.inr rfl,hf⟩
 obtain ⟨rfl,hs⟩:=hk;refine ⟨_,hs,?_⟩;refine sq (s0 [] [(102,.bool zV.1)] (bE h fun kX qU h=>?_));refine xL (mk [(0,Ss yD),(1,Sq 2 yM yG),(6,Pp 0),(9,Pp 1),(11,Pp 2),(17,Ii wJ.1)] [(0,pQ),(1,Vb 186 [Sb wJ.2.1,Ii wJ.2.2.1,Ii wJ.2.2.2]),(2,Vb 112 [Ii zN.1,Ii zF.1,.str kX,Ii yS.2.2.2,Ii xO.2.2.2,.nilsl])] 3) ?_ ?_
 ·replace h:=qU;refine ch 102 h ?_ ?_
  rotate_left
  ·intro g_10 h;refine sk ?_;cases h;exact ⟨rfl,(sw [0,1,2] [] [.s 0,.s 1,.s 6,.s 9,.s 11,.s 17] [.s 0,.s 1,.s 2] an)⟩
  intro g_10 h;refine bE h fun zK j8 h=>r2 [iF 2 AV.str j8] [] [] [] [(2,Vb 112 [Ii zN.1,Ii zF.1,.str zK,Ii yS.2.2.2,Ii xO.2.2.2,.nilsl])] 3 ?_;cases h;exact ⟨rfl,(sw [0,1,2] [] [.s 0,.s 1,.s 6,.s 9,.s 11,.s 17] [.s 0,.s 1,.s 2] an)⟩
 refine sq (bE h fun yL nX h=>r2 [iK 3 { ids:=[3] } (MW F yD yG wJ.1 yL nX)] [0,1] [] [] [(2,Vb 112 [Ii zN.1,Ii zF.1,.str kX,Ii yS.2.2.2,Ii xO.2.2.2,.own 3 ((yL.1).length)]),(3,Rb 9 1 (Ms yL.1))] 4 (sq (sq (bE h fun xI jV h=>r0 [iM AV.str yL.1,iL 1 { lend:=[3] } [.agg [Ii zN.1,Ii zF.1,.str kX,Ii yS.2.2.2,Ii xO.2.2.2,Ss yL.1]] (C1 F (⟨zN.1,zF.1,kX,yS.2.2.2,xO.2.2.2,yL.1⟩:xF) xI jV) ⟨rfl,rfl,rfl,rfl,rfl,rfl,rfl,rfl,trivial⟩] [(118,.bool (xI != (0:Int)))] (ch 118 h ?_ ?_)))))
 ·intro g_11 h;refine s2 [] [9,11] [(7,Ii 0),(8,Ii 10)] [1,2,3] [] 4 (wz [0] [] [] [0] [(6,Pp 0),(7,Ii 0),(8,Ii 10)] [(0,Vb 112 (tS zL2))] (ar 112 (ar true (ar (Ii 0) (ar (Ii 0) (ar (.str ([]:List Int):AV) (ar (Ii 0) (ar (Ii 0) (ar ([]:List AV) an)))))))) ?_);cases h;exact rt rx
 intro g_11 h;refine sk (s2 [] [9,11] [(7,Ii wJ.2.2.1),(8,Ii 0)] [1,2] [(0,Vb 112 [Ii zN.1,Ii zF.1,.str kX,Ii yS.2.2.2,Ii xO.2.2.2,.own 3 ((yL.1).length)])] 4 (wz [0] [3] [] [0] [(6,Pp 0),(7,Ii wJ.2.2.1),(8,Ii 0)] [(0,Vb 112 (tS (⟨zN.1,zF.1,kX,yS.2.2.2,xO.2.2.2,yL.1⟩:xF)))] (ar 112 (ar true (ac (by first | (simp;done) | (simp;omega):(yL.1).length=((List.map AV.str yL.1)).length) (ar (Ii zN.1) (ar (Ii zF.1) (ar (.str kX:AV) (ar (Ii yS.2.2.2) (ar (Ii xO.2.2.2) (ar 1 (ar (Ms yL.1) (ar true an))))))))))) ?_));cases h;exact rt rx

theorem O7 (F:Nat) (zQ:List (xF)) (r:Int) (h:A9 F zQ=some r):yK prog 89 [] [] [Sq 6 xX zQ] [] (Ii r):=by
 refine tI Go.Proofs.Tryz.f89 ?_;unfold A9 at h;refine sE [] [(0,Sq 6 xX zQ)] [] 0 (sq (s0 [iN 1 xX zQ] [(6,Sq 6 xX zQ),(7,Ii (lN (zQ))),(8,Ii 0)] (bE h fun zD zH h=>?_)));refine vG (K1:=(fun e st'=>match zD with | (.inl q0)=>e=.normal∧Sub 0 st' (mk [] [] 0) | (.inr q1)=>e=.ret∧vH prog Go.Proofs.Tryz.f89 0 [] (Ii q1) st')) ?_ ?_
 ·replace h:=zH;refine yR (id:=0) zk ?_;refine w0 [] [] [(0,Sq 6 xX zQ),(6,Sq 6 xX zQ),(7,Ii (lN (zQ))),(8,Ii 0)] [] ?_;refine x8 (fun n st=>∃ (zJ:Int),st=mk [(0,Sq 6 xX zQ),(6,Sq 6 xX zQ),(7,Ii (lN (zQ))),(8,Ii zJ)] [] 0∧mS F zQ n zJ=some zD) F zk ⟨_,rfl,h⟩ ?_ ?_
  ·rintro _ ⟨_,_,h⟩;exact x7 (h:(none:Option (Unit⊕Int))=some zD)
  rintro z4 _ ⟨zJ,rfl,h⟩;replace h:DO F zQ (mS F zQ z4) zJ=some zD:=h;unfold DO at h;refine s0 [] [(9,.bool (decide (zJ<(lN (zQ)))))] (sq (ch 9 h ?_ ?_))
  rotate_left
  ·intro yC h;refine x4 (id:=0) zk ?_;cases h;exact ⟨rfl,(sw [] [] [] [] an)⟩
  intro yC h;refine sk (sq ?_);refine yR (id:=1) zk ?_;refine sq (bE h fun zK zS h=>r2 [iH 3 { id:=0 },iF 1 xX zS] [] [(3,Ii zJ),(4,Pp 0)] [] [(0,Vb 112 (tS zK))] 1 (sq (sq (bE h fun zA yU h=>r0 [iK 1 {} (C1 F zK zA yU)] [(5,Ii zA)] (c0 [] 16 h [] ?_ ?_)))))
  ·intro y0 h;refine s2 [] [0,6,4] [(2,Ii zA)] [0] [] 1 ?_;cases h;exact rt ry
  intro y0 h;refine sk (sq (bE h fun zM xJ h=>?_));refine xL (mk [(0,Sq 6 xX zQ),(6,Sq 6 xX zQ),(7,Ii (lN (zQ))),(8,Ii zJ),(30,.bool zM)] [] 0) ?_ ?_
  ·replace h:=xJ;rcases bft (decide (zJ>(0:Int))) with yJ | yJ
   ·replace h:=xE yJ h;refine bE h fun yA xB h=>r1 [iH 12 Ht,iR 6 yJ,iF 8 xX xB,iR 4 yJ] [4] [(21,Pp 0),(22,Ii zK.At),(23,Sq 6 xX zQ),(24,Ii zJ),(25,Ii (zI (zJ - (1:Int)))),(26,.ref (xX yA)),(27,.ref (Ii yA.At)),(28,Ii yA.At),(29,.bool (decide (zK.At<yA.At))),(30,.bool (decide (zK.At<yA.At)))] ?_;cases h;exact ⟨rfl,(sw [] [] [.s 0,.s 6,.s 7,.s 8,.s 30] [] an)⟩
   ·replace h:=xD yJ h;refine r2 [iG 3 9,iH 12 Hf,iR 10 yJ] [4] [(21,.tuple []),(22,.tuple []),(23,.tuple []),(24,.tuple []),(25,.tuple []),(26,.tuple []),(27,.tuple []),(28,.tuple []),(29,.tuple []),(30,.bool false)] [0] [] 1 ?_;cases h;exact ⟨rfl,(sw [] [] [.s 0,.s 6,.s 7,.s 8,.s 30] [] an)⟩
  refine ch 30 h ?_ ?_
  rotate_left
  ·intro xH h;refine sk (r0 [] [(8,Ii (zI (zJ+(1:Int))))] ?_);exact ⟨_,(sw [] [] [.s 0,.s 6,.s 7,.s 8] [] an),_,rfl,h⟩
  intro xH h;refine s1 [] [0,6] [(2,Ii 11)] ?_;cases h;exact rt ry
 intro e st1 hk;rcases zD with z7 | xG
 rotate_left
 ·obtain ⟨rfl,hf⟩:=hk;cases h;exact ⟨st1,Sub.refl _ _,.inr rfl,hf⟩
 obtain ⟨rfl,hs⟩:=hk;refine ⟨_,hs,?_⟩;refine s0 [] [(2,Ii 0)] ?_;cases h;exact rt rx

theorem BD (F:Nat) (zM:yE) (r:Int) (h:fK F zM=some r):yK prog 47 [] [] [yF zM] [] (Ii r):=by
 refine tI Go.Proofs.Tryz.f47 ?_;unfold fK at h;refine sE [iH 0 { id:=0 }] [(1,Pp 0)] [(0,Vb 56 (wB zM))] 1 (sq (s2 [iH 6 { id:=1 }] [] [(11,.own 1 3),(12,Ii ((3:Nat):Int)),(13,Ii 0)] [] [(1,Rb 3 1 (Mi ([zM.Thread,zM.Serial,zM.Lost]:List Int)))] 2 (bE h fun zD zH h=>?_)));refine vG (K1:=(fun e st'=>match zD with | (.inl q0)=>e=.normal∧Sub 0 st' (mk [(1,Pp 0)] [(0,Vb 56 (wB zM))] 1) | (.inr q1)=>e=.ret∧vH prog Go.Proofs.Tryz.f47 0 [] (Ii q1) st')) ?_ ?_
 ·replace h:=zH;refine yR (id:=0) zk ?_;refine wz [0,1] [] [11] [] [(1,Pp 0),(11,.own 1 ((([zM.Thread,zM.Serial,zM.Lost]:List Int)).length)),(12,Ii ((3:Nat):Int)),(13,Ii 0)] [(0,Vb 56 (wB zM)),(1,Rb 3 1 (Mi ([zM.Thread,zM.Serial,zM.Lost]:List Int)))] (ac (congrArg (AV.own _) (by first | (simp;done) | (simp;omega)):(.own 1 3:AV)=.own 1 ((([zM.Thread,zM.Serial,zM.Lost]:List Int)).length)) an) ?_;refine x8 (fun n st=>∃ (zJ:Int),st=mk [(1,Pp 0),(11,.own 1 ((([zM.Thread,zM.Serial,zM.Lost]:List Int)).length)),(12,Ii ((3:Nat):Int)),(13,Ii zJ)] [(0,Vb 56 (wB zM)),(1,Rb 3 1 (Mi ([zM.Thread,zM.Serial,zM.Lost]:List Int)))] 2∧lP F zM n zJ=some zD) F zk ⟨_,rfl,h⟩ ?_ ?_
  ·rintro _ ⟨_,_,h⟩;exact x7 (h:(none:Option (Unit⊕Int))=some zD)
  rintro z4 _ ⟨zJ,rfl,h⟩;replace h:AG F zM (lP F zM z4) zJ=some zD:=h;unfold AG at h;refine s0 [] [(14,.bool (decide (zJ<((3:Nat):Int))))] (sq (ch 14 h ?_ ?_))
  rotate_left
  ·intro yC h;refine x4 (id:=0) zk ?_;cases h;exact ⟨rfl,(sw [0] [] [.s 1] [.s 0] an)⟩
  intro yC h;refine sk (sq ?_);refine yR (id:=1) zk ?_;refine sq (bE h fun zK zS h=>r0 [iH 1 { av:=Ii zK },iC (t9 zS:(0:Int)≤zJ),iC (by first | (simp;done) | simpa using qI zS:zJ<(((([zM.Thread,zM.Serial,zM.Lost]:List Int)).length:Nat):Int)),iC (qG zS:(Mi ([zM.Thread,zM.Serial,zM.Lost]:List Int))[(zJ).toNat]?=some (Ii zK))] [(4,Ii zK)] (ad 22 h ?_ ?_ ?_))
  ·rcases bft (decide (zK<(0:Int))) with yJ | yJ
   ·exact rm [iG 3 2,iH 5 Ht,iR 3 yJ] (ort yJ)
   ·exact rm [iH 5 Hf,iR 3 yJ] (orf yJ rfl)
  rotate_left
  ·intro y0 h;refine sk (r0 [] [(13,Ii (zI (zJ+(1:Int))))] ?_);exact ⟨_,(sw [0,1] [] [.s 1,.s 11,.s 12,.s 13] [.s 0,.s 1] an),_,rfl,h⟩
  intro y0 h;refine s2 [] [1,11] [(2,Ii 2)] [0,1] [] 2 ?_;cases h;exact rt ry
 intro e st1 hk;rcases zD with z7 | xG
 rotate_left
 ·obtain ⟨rfl,hf⟩:=hk;cases h;exact ⟨st1,Sub.refl _ _,.inr rfl,hf⟩
 obtain ⟨rfl,hs⟩:=hk;refine ⟨_,hs,?_⟩;refine sq ?_;refine yR (id:=2) zk ?_;refine sq (s0 [] [(24,.bool (decide (zM.Lost>zM.Serial)))] (bE h fun zT yU h=>?_));refine xL (mk [(1,Pp 0),(24,.bool zT)] [(0,Vb 56 (wB zM))] 1) ?_ ?_
 ·replace h:=yU;refine ch 24 h ?_ ?_
  ·intro xH h;refine sk ?_;cases h;exact ⟨rfl,(sw [0] [] [.s 1,.s 24] [.s 0] an)⟩
  intro xH h;refine r0 [iN 4 xX zM.Events] [(24,.bool (decide ((zI (zM.Serial+(lN (zM.Events))))>(1000000000000000:Int))))] ?_;cases h;exact ⟨rfl,(sw [0] [] [.s 1,.s 24] [.s 0] an)⟩
 refine ch 24 h ?_ ?_
 ·intro w7 h;refine s2 [] [1] [(2,Ii 2)] [0] [] 1 ?_;cases h;exact rt rx
 intro w7 h;refine c0 [iN 2 xX zM.Events] 37 h [] ?_ ?_
 ·intro vM h;refine s2 [] [1] [(2,Ii 8)] [0] [] 1 ?_;cases h;exact rt rx
 intro vM h;refine c0 [iN 2 xX zM.Events] 42 h [] ?_ ?_
 ·intro v8 h;refine s2 [] [1] [(2,Ii 7)] [0] [] 1 ?_;cases h;exact rt rx
 intro v8 h;refine sk (sq (bE h fun zA xB h=>r2 [iK 2 {} (O7 F zM.Events zA xB)] [1] [(2,Ii zA)] [0] [] 1 ?_));cases h;exact rt rx

theorem TZ (F:Nat) (zE:List (List Int)) (yO:List Int) (r:Int) (h:E8 F zE yO=some r):yK prog 154 [] [] [Ss zE,.str yO] [] (Ii r):=by
 refine tI Go.Proofs.Tryz.f154 ?_;unfold E8 at h;refine sE [] [(0,Ss zE),(1,.str yO)] [] 0 (sq (s0 [iN 1 AV.str zE] [(7,Ii (lN (zE))),(8,Ii 0)] (bE h fun zD zH h=>?_)));refine vG (K1:=(fun e st'=>match zD with | (.inl q0)=>e=.normal∧Sub 0 st' (mk [] [] 0) | (.inr q1)=>e=.ret∧vH prog Go.Proofs.Tryz.f154 0 [] (Ii q1) st')) ?_ ?_
 ·replace h:=zH;refine yR (id:=0) zk ?_;refine w0 [] [] [(0,Ss zE),(1,.str yO),(7,Ii (lN (zE))),(8,Ii 0)] [] ?_;refine x8 (fun n st=>∃ (zJ:Int),st=mk [(0,Ss zE),(1,.str yO),(7,Ii (lN (zE))),(8,Ii zJ)] [] 0∧lJ F zE yO n zJ=some zD) F zk ⟨_,rfl,h⟩ ?_ ?_
  ·rintro _ ⟨_,_,h⟩;exact x7 (h:(none:Option (Unit⊕Int))=some zD)
  rintro z4 _ ⟨zJ,rfl,h⟩;replace h:BK F zE yO (lJ F zE yO z4) zJ=some zD:=h;unfold BK at h;refine s0 [] [(9,.bool (decide (zJ<(lN (zE)))))] (sq (ch 9 h ?_ ?_))
  rotate_left
  ·intro yC h;refine x4 (id:=0) zk ?_;cases h;exact ⟨rfl,(sw [] [] [] [] an)⟩
  intro yC h;refine sk (sq ?_);refine yR (id:=1) zk ?_;refine s0 [] [(5,Ii zJ)] (sq (bE h fun zK zS h=>r0 [iF 3 AV.str zS] [(16,.bool (yO==zK))] (ch 16 h ?_ ?_)))
  rotate_left
  ·intro y0 h;refine sk (r0 [] [(8,Ii (zI (zJ+(1:Int))))] ?_);exact ⟨_,(sw [] [] [.s 0,.s 1,.s 7,.s 8] [] an),_,rfl,h⟩
  intro y0 h;refine s1 [] [0] [(4,Ii zJ)] ?_;cases h;exact rt ry
 intro e st1 hk;rcases zD with z7 | xG
 rotate_left
 ·obtain ⟨rfl,hf⟩:=hk;cases h;exact ⟨st1,Sub.refl _ _,.inr rfl,hf⟩
 obtain ⟨rfl,hs⟩:=hk;refine ⟨_,hs,?_⟩;refine s0 [] [(4,Ii (-1))] ?_;cases h;exact rt rx

theorem RF (zE:List (List Int)) (r:(List (List Int))) (h:BG zE=some r):yK prog 155 [] [] [Ss zE] [.row 9 1 (Ms r)] (.own 0 ((r).length)):=by
 refine tI Go.Proofs.Tryz.f155 ?_;unfold BG at h;refine sE [iH 0 { id:=0,m:=1 }] [(0,Ss zE)] [] 1 (sq (s0 [] [(4,.nb (Ms zE))] ?_));refine fU (t:=4) (l:=(Ms zE)) zk zk ?_ ?_
 ·intro zS;replace zS:=List.map_eq_nil_iff.1 zS;replace h:=Eq.trans (show (some [])=((need (((([]:List (List Int))).length+(zE).length) * 16≤140737488355328)).bind fun _ =>
 some ([]++zE)) from by simp [zS,need]) h
  refine sE [iH 0 { id:=1,m:=1 }] [(2,.own 1 0)] [(1,Rb 9 1 [])] 2 (wz [1] [] [2] [] [(2,.own 0 ((([]:List (List Int))).length))] [(0,Rb 9 1 [])] (ac (congrArg (AV.own _) (by first | (simp;done) | (simp;omega)):(.own 1 0:AV)=.own 1 ((([]:List (List Int))).length)) an) ?_);cases h;exact rt rx
 refine sk (sq (nE h fun zH h=>rE [iH 0 { id:=1 },iH 2 { id:=2,l:=(Ms ([]++zE)),n:=(([]++zE)).length },iA 0,iC trivial,iC (by simp:(List.map AV.str ([]++zE))=[]++(List.map AV.str zE)),iC (by simp:(([]++zE)).length=((List.map AV.str ([]++zE))).length),iC (by first | (simp;done) | simpa using zH:(([]:List AV).length+((List.map AV.str zE):List AV).length) * 16≤140737488355328)] [(2,.own 2 ((([]++zE)).length))] [(2,Rb 9 1 (Ms ([]++zE)))] 3 (w0 [2] [] [(2,.own 0 ((([]++zE)).length))] [(0,Rb 9 1 (Ms ([]++zE)))] ?_)));cases h;exact rt rx

theorem HV (F:Nat) (yD:List (List Int)) (zE:List Int) (r:Int×(List (List Int))×Int) (h:lH F yD zE=some r):yK prog 132 [] [] [Ss yD,.str zE] [] (.tuple [Ii r.1,Ss r.2.1,Ii r.2.2]):=by
 refine tI Go.Proofs.Tryz.f132 ?_;unfold lH at h;refine sE [] [(0,Ss yD),(1,.str zE)] [] 0 (sq (sq (bE h fun zA zH h=>r0 [iK 1 {} (d6 F zE zA zH)] [(7,Ii zA)] (c0 [] 12 h [] ?_ ?_))))
 ·intro yC h;refine s1 [] [0] [(4,Ii 0),(5,Ss yD),(6,Ii zA)] ?_;cases h;exact rt rx
 intro yC h;refine sk (sq (sq (bE h fun zF zS h=>r0 [iK 2 {} (TZ F yD zE zF zS)] [(8,Ii zF)] (c0 [] 19 h [] ?_ ?_))))
 ·intro y0 h;refine s1 [] [0] [(4,Ii zF),(5,Ss yD),(6,Ii 0)] ?_;cases h;exact rt rx
 intro y0 h;refine sk (sq (c0 [iN 1 AV.str yD] 24 h [] ?_ ?_))
 ·intro xH h;refine s1 [] [0] [(4,Ii 0),(5,Ss yD),(6,Ii 6)] ?_;cases h;exact rt rx
 intro xH h;refine sk (sq (bE h fun zN yU h=>nE h fun xB h=>r2 [iH 5 { id:=1 },iH 6 { id:=2,l:=(Ms (zN++([zE]:List (List Int)))),n:=((zN++([zE]:List (List Int)))).length },iN 1 AV.str yD,iK 3 { ids:=[0] } (RF yD zN yU),iM AV.str zN,iA 1,iC (uD _ _:(Ms (zN++([zE]:List (List Int))))=(Ms zN)++(Ms ([zE]:List (List Int)))),iC (by simp:((zN++([zE]:List (List Int)))).length=((List.map AV.str (zN++([zE]:List (List Int))))).length),iC (by first | (simp;done) | simpa using xB:(((List.map AV.str zN):List AV).length+((List.map AV.str ([zE]:List (List Int))):List AV).length) * 16≤140737488355328)] [0] [(4,Ii (lN (yD))),(5,.own 2 (((zN++([zE]:List (List Int)))).length)),(6,Ii 0)] [] [(2,Rb 9 1 (Ms (zN++([zE]:List (List Int)))))] 3 (wz [] [2] [5] [] [(4,Ii (lN (yD))),(5,Ss (zN++([zE]:List (List Int)))),(6,Ii 0)] [] (ac (by first | (simp;done) | (simp;omega):((zN++([zE]:List (List Int)))).length=((List.map AV.str (zN++([zE]:List (List Int))))).length) (ar 1 (ar ((Ms (zN++([zE]:List (List Int)))):List AV) (ar true an)))) ?_)));cases h;exact rt rx

theorem VI (zE:List (zX)) (r:(List (zX))) (h:BT zE=some r):yK prog 157 [] [] [Sq 2 yM zE] [.row 144 2 (Mp yM r)] (.own 0 ((r).length)):=by
 refine tI Go.Proofs.Tryz.f157 ?_;unfold BT at h;refine sE [iH 0 { id:=0,m:=1 }] [(0,Sq 2 yM zE)] [] 1 (sq (s0 [] [(4,.nb (Mp yM zE))] ?_));refine fU (t:=4) (l:=(Mp yM zE)) zk zk ?_ ?_
 ·intro zS;replace zS:=List.map_eq_nil_iff.1 zS;replace h:=Eq.trans (show (some [])=((need (((([]:List zX)).length+(zE).length) * 16≤140737488355328)).bind fun _ =>
 some ([]++zE)) from by simp [zS,need]) h
  refine sE [iH 0 { id:=1,m:=1 }] [(2,.own 1 0)] [(1,Rb 144 2 [])] 2 (wz [1] [] [2] [] [(2,.own 0 ((([]:List zX)).length))] [(0,Rb 144 2 [])] (ac (congrArg (AV.own _) (by first | (simp;done) | (simp;omega)):(.own 1 0:AV)=.own 1 ((([]:List zX)).length)) an) ?_);cases h;exact rt rx
 refine sk (sq (nE h fun zH h=>rE [iH 0 { id:=1 },iH 2 { id:=2,l:=(Mp yM ([]++zE)),n:=(([]++zE)).length },iA 0,iC trivial,iC (by simp:(List.map yM ([]++zE))=[]++(List.map yM zE)),iC (by simp:(([]++zE)).length=((List.map yM ([]++zE))).length),iC (by first | (simp;done) | simpa using zH:(([]:List AV).length+((List.map yM zE):List AV).length) * 16≤140737488355328)] [(2,.own 2 ((([]++zE)).length))] [(2,Rb 144 2 (Mp yM ([]++zE)))] 3 (w0 [2] [] [(2,.own 0 ((([]++zE)).length))] [(0,Rb 144 2 (Mp yM ([]++zE)))] ?_)));cases h;exact rt rx

theorem U2 (F:Nat) (zE:List (zX)) (yO:zX) (r:Int) (h:CN F zE yO=some r):yK prog 158 [] [] [Sq 2 yM zE,.agg [Ii yO.c0,Ii yO.c1]] [] (Ii r):=by
 refine tI Go.Proofs.Tryz.f158 ?_;unfold CN at h;refine sE [iH 0 { id:=0 }] [(0,Sq 2 yM zE),(3,Pp 0)] [(0,Vb 144 [Ii yO.c0,Ii yO.c1])] 1 (sq (s0 [iN 1 yM zE] [(7,Ii (lN (zE))),(8,Ii 0)] (bE h fun zD zH h=>?_)));refine vG (K1:=(fun e st'=>match zD with | (.inl q0)=>e=.normal∧Sub 0 st' (mk [] [] 0) | (.inr q1)=>e=.ret∧vH prog Go.Proofs.Tryz.f158 0 [] (Ii q1) st')) ?_ ?_
 ·replace h:=zH;refine yR (id:=0) zk ?_;refine w0 [0] [] [(0,Sq 2 yM zE),(3,Pp 0),(7,Ii (lN (zE))),(8,Ii 0)] [(0,Vb 144 [Ii yO.c0,Ii yO.c1])] ?_;refine x8 (fun n st=>∃ (zJ:Int),st=mk [(0,Sq 2 yM zE),(3,Pp 0),(7,Ii (lN (zE))),(8,Ii zJ)] [(0,Vb 144 [Ii yO.c0,Ii yO.c1])] 1∧oN F zE yO n zJ=some zD) F zk ⟨_,rfl,h⟩ ?_ ?_
  ·rintro _ ⟨_,_,h⟩;exact x7 (h:(none:Option (Unit⊕Int))=some zD)
  rintro z4 _ ⟨zJ,rfl,h⟩;replace h:BU F zE yO (oN F zE yO z4) zJ=some zD:=h;unfold BU at h;refine s0 [] [(9,.bool (decide (zJ<(lN (zE)))))] (sq (ch 9 h ?_ ?_))
  rotate_left
  ·intro yC h;refine x4 (id:=0) zk ?_;cases h;exact ⟨rfl,(sw [] [] [] [] an)⟩
  intro yC h;refine sk (sq ?_);refine yR (id:=1) zk ?_;refine s0 [] [(5,Ii zJ)] (sq (bE h fun zK zS h=>r0 [iH 5 { b:=(decide (yO=zK)),mks:=[.int .i64,.int .i64] },iF 3 yM zS,iC (WV:qK prog 144 [.int .i64,.int .i64]),iC (d3 (f:=yM) CX yO zK:((decide (yO=zK))=true↔AV.agg [Ii yO.c0,Ii yO.c1]=AV.agg [Ii zK.c0,Ii zK.c1]))] [(16,.bool (decide (yO=zK)))] (ch 16 h ?_ ?_)))
  rotate_left
  ·intro y0 h;refine sk (r0 [] [(8,Ii (zI (zJ+(1:Int))))] ?_);exact ⟨_,(sw [0] [] [.s 0,.s 3,.s 7,.s 8] [.s 0] an),_,rfl,h⟩
  intro y0 h;refine s2 [] [0,3] [(4,Ii zJ)] [0] [] 1 ?_;cases h;exact rt ry
 intro e st1 hk;rcases zD with z7 | xG
 rotate_left
 ·obtain ⟨rfl,hf⟩:=hk;cases h;exact ⟨st1,Sub.refl _ _,.inr rfl,hf⟩
 obtain ⟨rfl,hs⟩:=hk;refine ⟨_,hs,?_⟩;refine s0 [] [(4,Ii (-1))] ?_;cases h;exact rt rx

theorem N1 (F:Nat) (yD:List (List Int)) (yG:List (zX)) (zQ:List (List Int)) (r:Int×(List (List Int))×(List (zX))×Int) (h:EG F yD yG zQ=some r):yK prog 133 [] [] [Ss yD,Sq 2 yM yG,Ss zQ] [] (.tuple [Ii r.1,Ss r.2.1,Sq 2 yM r.2.2.1,Ii r.2.2.2]):=by
 refine tI Go.Proofs.Tryz.f133 ?_;unfold EG at h;refine sE [] [(0,Ss yD),(1,Sq 2 yM yG),(2,Ss zQ)] [] 0 (sq (sq (bE h fun zA zH h=>r0 [iK 1 {} (MD F zQ zA zH)] [(10,Ii zA)] (c0 [] 23 h [] ?_ ?_))))
 ·intro yC h;refine s1 [] [0,1,2] [(6,Ii 0),(7,Ss yD),(8,Sq 2 yM yG),(9,Ii zA)] ?_;cases h;exact rt rx
 intro yC h;refine sk (sq (bE h fun zF zS h=>r2 [iK 2 { ids:=[0] } (VI yG zF zS)] [] [(11,Ii (-1)),(12,Ss yD),(13,.own 0 ((zF).length))] [] [(0,Rb 144 2 (Mp yM zF))] 1 (sq (s1 [iN 1 AV.str zQ] [2] [(30,Ss zQ),(31,Ii (lN (zQ))),(32,Ii 0)] (bE h fun zD yU h=>?_)))));refine vG (K1:=(fun e st'=>match zD with | (.inl q0)=>e=.normal∧Sub 0 st' (mk [(11,Ii q0.1),(12,Ss q0.2.1),(13,.own 0 ((q0.2.2).length))] [(0,Rb 144 2 (Mp yM q0.2.2))] 1) | (.inr q1)=>e=.ret∧vH prog Go.Proofs.Tryz.f133 0 [] (.tuple [Ii q1.1,Ss q1.2.1,Sq 2 yM q1.2.2.1,Ii q1.2.2.2]) st')) ?_ ?_
 ·replace h:=yU;refine yR (id:=0) zk ?_;refine w0 [0] [] [(0,Ss yD),(1,Sq 2 yM yG),(11,Ii (-1)),(12,Ss yD),(13,.own 0 ((zF).length)),(30,Ss zQ),(31,Ii (lN (zQ))),(32,Ii 0)] [(0,Rb 144 2 (Mp yM zF))] ?_;refine x8 (fun n st=>∃ (xZ:Int),∃ (z4:List (List Int)),∃ (zJ:Int),∃ (zL:List zX),st=mk [(0,Ss yD),(1,Sq 2 yM yG),(11,Ii xZ),(12,Ss z4),(13,.own 0 ((zL).length)),(30,Ss zQ),(31,Ii (lN (zQ))),(32,Ii zJ)] [(0,Rb 144 2 (Mp yM zL))] 1∧mA F yD yG zQ n xZ z4 zJ zL=some zD) F zk ⟨_,_,_,_,rfl,h⟩ ?_ ?_
  ·rintro _ ⟨_,_,_,_,_,h⟩;exact x7 (h:(none:Option ((Int×(List (List Int))×(List zX))⊕(Int×(List (List Int))×(List (zX))×Int)))=some zD)
  rintro uB _ ⟨xZ,z4,zJ,zL,rfl,h⟩;replace h:AM F yD yG zQ (mA F yD yG zQ uB) xZ z4 zJ zL=some zD:=h;unfold AM at h;refine s0 [] [(33,.bool (decide (zJ<(lN (zQ)))))] (sq (ch 33 h ?_ ?_))
  rotate_left
  ·intro y0 h;refine x4 (id:=0) zk ?_;cases h;exact ⟨rfl,(sw [0] [] [.s 11,.s 12,.s 13] [.s 0] an)⟩
  intro y0 h;refine sk (sq ?_);refine yR (id:=1) zk ?_;refine sq (bE h fun zK xB h=>r0 [iF 0 AV.str xB] [(15,.str zK)] (sq (bE h fun zN xJ h=>r1 [iK 2 {} (HV F z4 zK zN xJ)] [12] [(16,Ii zN.1),(17,Ss zN.2.1),(18,Ii zN.2.2)] (sq (c0 [] 44 h [] ?_ ?_)))))
  ·intro xH h;refine s2 [] [0,1,13,30,17] [(6,Ii 0),(7,Ss yD),(8,Sq 2 yM yG),(9,Ii zN.2.2)] [0] [] 1 ?_;cases h;exact rt ry
  intro xH h;refine sk (s1 [] [17] [(12,Ss zN.2.1)] (s2 [iH 3 { id:=1 }] [] [(19,Pp 1)] [] [(1,Vb 144 [Ii xZ,Ii zN.1])] 2 (sq (sq (bE h fun zV x3 h=>r0 [iM yM zL,iL 2 { lend:=[0] } [Sq 2 yM zL,.agg [Ii xZ,Ii zN.1]] (U2 F zL (⟨xZ,zN.1⟩:zX) zV x3) ⟨rfl,rfl,rfl,rfl,rfl,trivial⟩] [(11,Ii zV)] (c0 [] 56 h [] ?_ ?_))))))
  ·intro w7 h;refine x4 (id:=1) zk ?_;refine rE [] [(0,Ss yD),(1,Sq 2 yM yG),(11,Ii zV),(12,Ss zN.2.1),(13,.own 0 ((zL).length)),(30,Ss zQ),(31,Ii (lN (zQ))),(32,Ii (zI (zJ+(1:Int))))] [(0,Rb 144 2 (Mp yM zL))] 2 ?_;exact ⟨_,(sw [0] [] [.s 0,.s 1,.s 11,.s 12,.s 13,.s 30,.s 31,.s 32] [.s 0] an),_,_,_,_,rfl,h⟩
  intro w7 h;refine sk (sq (c0 [] 59 h [] ?_ ?_))
  ·intro vM h;refine s2 [] [0,1,13,30,12,19] [(6,Ii 0),(7,Ss yD),(8,Sq 2 yM yG),(9,Ii 6)] [0,1] [] 2 ?_;cases h;exact rt ry
  intro vM h;refine sk (s0 [] [(11,Ii (lN (zL)))] (nE h fun wP h=>r2 [iH 2 { id:=2 },iH 3 { id:=3,l:=(Mp yM (zL++([(⟨xZ,zN.1⟩:zX)]:List zX))),n:=((zL++([(⟨xZ,zN.1⟩:zX)]:List zX))).length },iM yM zL,iC (by first | (simp;done) | (simp;omega):1=((List.map yM ([(⟨xZ,zN.1⟩:zX)]:List zX))).length),iC (uD _ _:(Mp yM (zL++([(⟨xZ,zN.1⟩:zX)]:List zX)))=(Mp yM zL)++(Mp yM ([(⟨xZ,zN.1⟩:zX)]:List zX))),iC (by simp:((zL++([(⟨xZ,zN.1⟩:zX)]:List zX))).length=((List.map yM (zL++([(⟨xZ,zN.1⟩:zX)]:List zX)))).length),iC (by first | (simp;done) | simpa using wP:(((List.map yM zL):List AV).length+((List.map yM ([(⟨xZ,zN.1⟩:zX)]:List zX)):List AV).length) * 16≤140737488355328)] [19] [(13,.own 3 (((zL++([(⟨xZ,zN.1⟩:zX)]:List zX))).length))] [0,1] [(3,Rb 144 2 (Mp yM (zL++([(⟨xZ,zN.1⟩:zX)]:List zX))))] 4 (r0 [] [(32,Ii (zI (zJ+(1:Int))))] ?_)));exact ⟨_,(sw [3] [] [.s 0,.s 1,.s 11,.s 12,.s 13,.s 30,.s 31,.s 32] [.s 0] an),_,_,_,_,rfl,h⟩
 intro e st1 hk;rcases zD with z7 | xG
 rotate_left
 ·obtain ⟨rfl,hf⟩:=hk;cases h;exact ⟨st1,Sub.refl _ _,.inr rfl,hf⟩
 obtain ⟨rfl,hs⟩:=hk;refine ⟨_,hs,?_⟩;refine s1 [] [12,13] [(6,Ii z7.1),(7,Ss z7.2.1),(8,.own 0 ((z7.2.2).length)),(9,Ii 0)] (wz [] [0] [8] [] [(6,Ii z7.1),(7,Ss z7.2.1),(8,Sq 2 yM z7.2.2),(9,Ii 0)] [] (ac (by first | (simp;done) | (simp;omega):(z7.2.2).length=((List.map yM z7.2.2)).length) (ar 2 (ar ((Mp yM z7.2.2):List AV) (ar true an)))) ?_);cases h;exact rt rx

end Go.Ab
