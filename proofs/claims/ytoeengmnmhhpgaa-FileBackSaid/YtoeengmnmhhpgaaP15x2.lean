/- Printed: the typed Lean functions of the Go functions, or the proofs that the Go functions meet them. No conditions but those that the theorems name. -/
import Derived.Test.YtoeengmnmhhpgaaP15x1
namespace Go.Ab
open Go Go.Proofs
set_option linter.unusedVariables false
theorem YA (F:Nat) (zE:List (Int)) (r:zU×Bool) (h:AY F zE=some r):y6 prog 45 [] [] [Sb zE] [] (.tuple [pY r.1,.bool r.2]):=by
 refine tI Try.f45 ?_;unfold AY at h;refine sE [iH 0 { id:=0 }] [(0,Sb zE),(2,Pp 0)] [(0,Vb 26 [.nilsl,.nilsl,.nilsl])] 1 ?_;refine qD (kJ 0 0 1 81 3 zk) ?_;refine qD (kJ 0 1 2 83 2 zk) ?_;refine qD (kJ 0 2 3 73 5 zk) ?_;refine w0 [0,1,2,3] [] [(0,Sb zE),(2,Pp 0)] [(0,p9),(1,Rb 81 3 []),(2,Rb 83 2 []),(3,Rb 73 5 [])] (s2 [iH 2 { id:=4 }] [] [(4,Pp 4)] [] [(4,Vb 134 [Sb zE,.bool false])] 5 (s2 [iH 0 { id:=5 }] [] [(5,Pp 5)] [] [(5,Vb 26 [.nilsl,.nilsl,.nilsl])] 6 ?_));refine qD (kJ 5 0 6 81 3 zk) ?_;refine qD (kJ 5 1 7 83 2 zk) ?_;refine qD (kJ 5 2 8 73 5 zk) ?_;refine w0 [0,1,2,3,4,5,6,7,8] [] [(0,Sb zE),(2,Pp 0),(4,Pp 4),(5,Pp 5)] [(0,p9),(1,Rb 81 3 []),(2,Rb 83 2 []),(3,Rb 73 5 []),(4,Vb 134 [Sb zE,.bool false]),(5,Vb 26 [.own 6 0,.own 7 0,.own 8 0]),(6,Rb 81 3 []),(7,Rb 83 2 []),(8,Rb 73 5 [])] (sq (sq (bE h fun zA zM h=>r2 [iJ 1 { ids:=[4] } ([Pp 4,Ii 64]:List AV) (JU F (⟨zE,false⟩:vB) (64:Int) zA zM)] [] [(13,Ii zA.1),(14,Ii 0)] [] [(4,Vb 134 (uU zA.2))] 9 (bE h fun zC zV h=>?_))));refine x7 (mk [(0,Sb zE),(2,Pp 0),(4,Pp 4),(5,Pp 5)] [(0,p9),(1,Rb 81 3 []),(2,Rb 83 2 []),(3,Rb 73 5 []),(4,Vb 134 [Sb zC.1,.bool zC.2.1]),(5,Vb 26 [.own 6 ((zC.2.2).length),.own 7 0,.own 8 0]),(6,Rb 81 3 (Mp z8 zC.2.2)),(7,Rb 83 2 []),(8,Rb 73 5 [])] 9) ?_ ?_
 ·replace h:=zV;refine yZ (id:=0) zk ?_;refine w0 [0,1,2,3,4,5,6,7,8] [] [(0,Sb zE),(2,Pp 0),(4,Pp 4),(5,Pp 5),(13,Ii zA.1),(14,Ii 0)] [(0,p9),(1,Rb 81 3 []),(2,Rb 83 2 []),(3,Rb 73 5 []),(4,Vb 134 (uU zA.2)),(5,Vb 26 [.own 6 0,.own 7 0,.own 8 0]),(6,Rb 81 3 []),(7,Rb 83 2 []),(8,Rb 73 5 [])] ?_;refine wP (fun n st=>∃ (zG:Int),∃ (zB:List Int),∃ (yK:Bool),∃ (zL:List xJ),st=mk [(0,Sb zE),(2,Pp 0),(4,Pp 4),(5,Pp 5),(13,Ii zA.1),(14,Ii zG)] [(0,p9),(1,Rb 81 3 []),(2,Rb 83 2 []),(3,Rb 73 5 []),(4,Vb 134 [Sb zB,.bool yK]),(5,Vb 26 [.own 6 ((zL).length),.own 7 0,.own 8 0]),(6,Rb 81 3 (Mp z8 zL)),(7,Rb 83 2 []),(8,Rb 73 5 [])] 9∧mE F zA n zG zB yK zL=some zC) F zk ⟨_,_,_,_,rfl,h⟩ ?_ ?_
  ·rintro _ ⟨_,_,_,_,_,h⟩;exact wQ (h:(none:Option ((List Int)×Bool×(List xJ)))=some zC)
  rintro yF _ ⟨zG,zB,yK,zL,rfl,h⟩;replace h:g9 F zA (mE F zA yF) zG zB yK zL=some zC:=h;unfold g9 at h;refine s0 [] [(15,.bool (decide (zG<zA.1)))] (sq (ch 15 h ?_ ?_))
  rotate_left
  ·intro yN h;refine wN (id:=0) zk ?_;cases h;exact ⟨rfl,(sI 9 [0,2,4,5])⟩
  intro yN h;refine sk (sq ?_);refine yZ (id:=1) zk ?_;refine sq (bE h fun zJ y9 h=>bE h fun zP xS h=>r2 [iJ 1 { ids:=[4] } ([Pp 4]:List AV) (bI F (⟨zB,yK⟩:vB) zJ y9),iJ 3 { ids:=[4] } ([Pp 4]:List AV) (zCB F zJ.2 zP xS)] [] [(6,Ii zJ.1),(7,.str zP.1)] [] [(4,Vb 134 (uU zP.2))] 9 (bE h fun z5 wG h=>nE h fun vA h=>r2 [iH 7 { id:=9 },iJ 5 { ids:=[4] } ([Pp 4]:List AV) (bI F zP.2 z5 wG),iM z8 zL,iC (by first | (simp;done) | (simp;omega):1=((List.map z8 ([(⟨zJ.1,zP.1,z5.1⟩:xJ)]:List xJ))).length),iP 8 10 z8 zL ([(⟨zJ.1,zP.1,z5.1⟩:xJ)]:List xJ) 32 vA] [] [] [6] [(4,Vb 134 (uU z5.2)),(5,Vb 26 [.own 10 (((zL++([(⟨zJ.1,zP.1,z5.1⟩:xJ)]:List xJ))).length),.own 7 0,.own 8 0]),(10,Rb 81 3 (Mp z8 (zL++([(⟨zJ.1,zP.1,z5.1⟩:xJ)]:List xJ))))] 11 (r0 [] [(14,Ii (zI (zG+(1:Int))))] ?_)));exact ⟨_,(sJ [0,1,2,3,4,5,10,7,8] [0,2,4,5,13,14]),_,_,_,_,rfl,h⟩
 refine sq (sq (bE h fun zW vT h=>r2 [iJ 1 { ids:=[4] } ([Pp 4,Ii 8]:List AV) (JU F (⟨zC.1,zC.2.1⟩:vB) (8:Int) zW vT)] [] [(32,Ii zW.1),(33,Ii 0)] [] [(4,Vb 134 (uU zW.2))] 9 (bE h fun zR uA h=>?_)));refine x7 (mk [(0,Sb zE),(2,Pp 0),(4,Pp 4),(5,Pp 5)] [(0,p9),(1,Rb 81 3 []),(2,Rb 83 2 []),(3,Rb 73 5 []),(4,Vb 134 [Sb zR.1,.bool zR.2.1]),(5,Vb 26 [.own 6 ((zC.2.2).length),.own 7 ((zR.2.2).length),.own 8 0]),(6,Rb 81 3 (Mp z8 zC.2.2)),(7,Rb 83 2 (Mp z6 zR.2.2)),(8,Rb 73 5 [])] 9) ?_ ?_
 ·replace h:=uA;refine yZ (id:=2) zk ?_;refine w0 [0,1,2,3,4,5,6,7,8] [] [(0,Sb zE),(2,Pp 0),(4,Pp 4),(5,Pp 5),(32,Ii zW.1),(33,Ii 0)] [(0,p9),(1,Rb 81 3 []),(2,Rb 83 2 []),(3,Rb 73 5 []),(4,Vb 134 (uU zW.2)),(5,Vb 26 [.own 6 ((zC.2.2).length),.own 7 0,.own 8 0]),(6,Rb 81 3 (Mp z8 zC.2.2)),(7,Rb 83 2 []),(8,Rb 73 5 [])] ?_;refine wP (fun n st=>∃ (y8:Int),∃ (yG:List Int),∃ (yC:Bool),∃ (zZ:List y7),st=mk [(0,Sb zE),(2,Pp 0),(4,Pp 4),(5,Pp 5),(32,Ii zW.1),(33,Ii y8)] [(0,p9),(1,Rb 81 3 []),(2,Rb 83 2 []),(3,Rb 73 5 []),(4,Vb 134 [Sb yG,.bool yC]),(5,Vb 26 [.own 6 ((zC.2.2).length),.own 7 ((zZ).length),.own 8 0]),(6,Rb 81 3 (Mp z8 zC.2.2)),(7,Rb 83 2 (Mp z6 zZ)),(8,Rb 73 5 [])] 9∧mV F zW n y8 yG yC zZ=some zR) F zk ⟨_,_,_,_,rfl,h⟩ ?_ ?_
  ·rintro _ ⟨_,_,_,_,_,h⟩;exact wQ (h:(none:Option ((List Int)×Bool×(List y7)))=some zR)
  rintro qK _ ⟨y8,yG,yC,zZ,rfl,h⟩;replace h:gU F zW (mV F zW qK) y8 yG yC zZ=some zR:=h;unfold gU at h;refine s0 [] [(34,.bool (decide (y8<zW.1)))] (sq (ch 34 h ?_ ?_))
  rotate_left
  ·intro xH h;refine wN (id:=2) zk ?_;cases h;exact ⟨rfl,(sI 9 [0,2,4,5])⟩
  intro xH h;refine sk (sq ?_);refine yZ (id:=3) zk ?_;refine sq (bE h fun yV uJ h=>r2 [iJ 1 { ids:=[4] } ([Pp 4]:List AV) (bI F (⟨yG,yC⟩:vB) yV uJ)] [] [(8,Ii yV.1)] [] [(4,Vb 134 (uU yV.2))] 9 (bE h fun xB u4 h=>nE h fun tC h=>r2 [iH 6 { id:=9 },iJ 4 { ids:=[4] } ([Pp 4]:List AV) (bI F yV.2 xB u4),iM z6 zZ,iC (by first | (simp;done) | (simp;omega):1=((List.map z6 ([(⟨yV.1,xB.1⟩:y7)]:List y7))).length),iP 7 10 z6 zZ ([(⟨yV.1,xB.1⟩:y7)]:List y7) 16 tC] [] [] [7] [(4,Vb 134 (uU xB.2)),(5,Vb 26 [.own 6 ((zC.2.2).length),.own 10 (((zZ++([(⟨yV.1,xB.1⟩:y7)]:List y7))).length),.own 8 0]),(10,Rb 83 2 (Mp z6 (zZ++([(⟨yV.1,xB.1⟩:y7)]:List y7))))] 11 (r0 [] [(33,Ii (zI (y8+(1:Int))))] ?_)));exact ⟨_,(sJ [0,1,2,3,4,5,6,10,8] [0,2,4,5,32,33]),_,_,_,_,rfl,h⟩
 refine sq (sq (bE h fun yX qM h=>r2 [iJ 1 { ids:=[4] } ([Pp 4,Ii 200]:List AV) (JU F (⟨zR.1,zR.2.1⟩:vB) (200:Int) yX qM)] [] [(48,Ii yX.1),(49,Ii 0)] [] [(4,Vb 134 (uU yX.2))] 9 (bE h fun y5 j0 h=>?_)));refine x7 (mk [(0,Sb zE),(2,Pp 0),(4,Pp 4),(5,Pp 5)] [(0,p9),(1,Rb 81 3 []),(2,Rb 83 2 []),(3,Rb 73 5 []),(4,Vb 134 [Sb y5.1,.bool y5.2.1]),(5,Vb 26 [.own 6 ((zC.2.2).length),.own 7 ((zR.2.2).length),.own 8 ((y5.2.2).length)]),(6,Rb 81 3 (Mp z8 zC.2.2)),(7,Rb 83 2 (Mp z6 zR.2.2)),(8,Rb 73 5 (Mp z4 y5.2.2))] 9) ?_ ?_
 ·replace h:=j0;refine yZ (id:=4) zk ?_;refine w0 [0,1,2,3,4,5,6,7,8] [] [(0,Sb zE),(2,Pp 0),(4,Pp 4),(5,Pp 5),(48,Ii yX.1),(49,Ii 0)] [(0,p9),(1,Rb 81 3 []),(2,Rb 83 2 []),(3,Rb 73 5 []),(4,Vb 134 (uU yX.2)),(5,Vb 26 [.own 6 ((zC.2.2).length),.own 7 ((zR.2.2).length),.own 8 0]),(6,Rb 81 3 (Mp z8 zC.2.2)),(7,Rb 83 2 (Mp z6 zR.2.2)),(8,Rb 73 5 [])] ?_;refine wP (fun n st=>∃ (wS:Int),∃ (yS:List Int),∃ (xE:Bool),∃ (yY:List yP),st=mk [(0,Sb zE),(2,Pp 0),(4,Pp 4),(5,Pp 5),(48,Ii yX.1),(49,Ii wS)] [(0,p9),(1,Rb 81 3 []),(2,Rb 83 2 []),(3,Rb 73 5 []),(4,Vb 134 [Sb yS,.bool xE]),(5,Vb 26 [.own 6 ((zC.2.2).length),.own 7 ((zR.2.2).length),.own 8 ((yY).length)]),(6,Rb 81 3 (Mp z8 zC.2.2)),(7,Rb 83 2 (Mp z6 zR.2.2)),(8,Rb 73 5 (Mp z4 yY))] 9∧rF F yX n wS yS xE yY=some y5) F zk ⟨_,_,_,_,rfl,h⟩ ?_ ?_
  ·rintro _ ⟨_,_,_,_,_,h⟩;exact wQ (h:(none:Option ((List Int)×Bool×(List yP)))=some y5)
  rintro jA _ ⟨wS,yS,xE,yY,rfl,h⟩;replace h:gD F yX (rF F yX jA) wS yS xE yY=some y5:=h;unfold gD at h;refine s0 [] [(50,.bool (decide (wS<yX.1)))] (sq (ch 50 h ?_ ?_))
  rotate_left
  ·intro xV h;refine wN (id:=4) zk ?_;cases h;exact ⟨rfl,(sI 9 [0,2,4,5])⟩
  intro xV h;refine sk (sq ?_);refine yZ (id:=5) zk ?_;refine bE h fun yL qV h=>nE h fun kN h=>r2 [iH 4 { id:=9 },iJ 3 { ids:=[4] } ([Pp 4]:List AV) (TE F (⟨yS,xE⟩:vB) yL qV),iM z4 yY,iA 1,iP 5 10 z4 yY ([yL.1]:List yP) 40 kN] [] [] [8] [(4,Vb 134 (uU yL.2)),(5,Vb 26 [.own 6 ((zC.2.2).length),.own 7 ((zR.2.2).length),.own 10 (((yY++([yL.1]:List yP))).length)]),(10,Rb 73 5 (Mp z4 (yY++([yL.1]:List yP))))] 11 (r0 [] [(49,Ii (zI (wS+(1:Int))))] ?_);exact ⟨_,(sJ [0,1,2,3,4,5,6,7,10] [0,2,4,5,48,49]),_,_,_,_,rfl,h⟩
 refine sq (wz [0,1,2,3,4,5,7,8] [6] [] [5] [(0,Sb zE),(2,Pp 0),(4,Pp 4),(5,Pp 5)] [(0,p9),(1,Rb 81 3 []),(2,Rb 83 2 []),(3,Rb 73 5 []),(4,Vb 134 [Sb y5.1,.bool y5.2.1]),(5,Vb 26 [Sq 3 z8 zC.2.2,.own 6 ((zR.2.2).length),.own 7 ((y5.2.2).length)]),(6,Rb 83 2 (Mp z6 zR.2.2)),(7,Rb 73 5 (Mp z4 y5.2.2))] (ar 26 (ar true (ac (by first | (simp;done) | (simp;omega):(zC.2.2).length=((List.map z8 zC.2.2)).length) (ar 3 (ar ((Mp z8 zC.2.2):List AV) (ar true (ar (.own 7 ((zR.2.2).length):AV) (ar (.own 8 ((y5.2.2).length):AV) an)))))))) (wz [0,1,2,3,4,5,7] [6] [] [5] [(0,Sb zE),(2,Pp 0),(4,Pp 4),(5,Pp 5)] [(0,p9),(1,Rb 81 3 []),(2,Rb 83 2 []),(3,Rb 73 5 []),(4,Vb 134 [Sb y5.1,.bool y5.2.1]),(5,Vb 26 [Sq 3 z8 zC.2.2,Sq 2 z6 zR.2.2,.own 6 ((y5.2.2).length)]),(6,Rb 73 5 (Mp z4 y5.2.2))] (ar 26 (ar true (ac (by first | (simp;done) | (simp;omega):(zR.2.2).length=((List.map z6 zR.2.2)).length) (ar 3 (ar ((Mp z8 zC.2.2):List AV) (ar true (ar 2 (ar ((Mp z6 zR.2.2):List AV) (ar true (ar (.own 7 ((y5.2.2).length):AV) an)))))))))) (wz [0,1,2,3,4,5] [6] [] [5] [(0,Sb zE),(2,Pp 0),(4,Pp 4),(5,Pp 5)] [(0,p9),(1,Rb 81 3 []),(2,Rb 83 2 []),(3,Rb 73 5 []),(4,Vb 134 [Sb y5.1,.bool y5.2.1]),(5,Vb 26 [Sq 3 z8 zC.2.2,Sq 2 z6 zR.2.2,Sq 5 z4 y5.2.2])] (ar 26 (ar true (ac (by first | (simp;done) | (simp;omega):(y5.2.2).length=((List.map z4 y5.2.2)).length) (ar 3 (ar ((Mp z8 zC.2.2):List AV) (ar true (ar 2 (ar ((Mp z6 zR.2.2):List AV) (ar true (ar 5 (ar ((Mp z4 y5.2.2):List AV) (ar true an)))))))))))) (bE h fun zK pT h=>?_))));refine x7 (mk [(2,Pp 0),(3,.bool zK)] [(0,Vb 26 [Sq 3 z8 zC.2.2,Sq 2 z6 zR.2.2,Sq 5 z4 y5.2.2])] 1) ?_ ?_
 ·replace h:=pT;rcases bft (!y5.2.1) with yM | yM
  ·replace h:=xP yM h;refine bE h fun xM n8 h=>bE h fun v7 b9 h=>r2 [iH 11 Ht,iR 2 yM,iL 8 {} [.agg [Sq 3 z8 zC.2.2,Sq 2 z6 zR.2.2,Sq 5 z4 y5.2.2]] (R8 F (⟨zC.2.2,zR.2.2,y5.2.2⟩:zU) xM n8) ⟨rfl,rfl,rfl,rfl,rfl,rfl,rfl,rfl,rfl,trivial⟩,iR 2 yM,iK 10 {} (MG xM zE v7 b9),iC yM] [0,4,5] [(3,.bool v7)] [1,2,3,4,5] [(0,Vb 26 [Sq 3 z8 zC.2.2,Sq 2 z6 zR.2.2,Sq 5 z4 y5.2.2])] 6 ?_;cases h;exact ⟨rfl,(sI 1 [2,3])⟩
  ·replace h:=xQ yM h;refine r2 [iG 7 4,iH 11 Hf,iR 5 yM] [0,4,5] [(3,.bool false)] [1,2,3,4,5] [(0,Vb 26 [Sq 3 z8 zC.2.2,Sq 2 z6 zR.2.2,Sq 5 z4 y5.2.2])] 6 ?_;cases h;exact ⟨rfl,(sI 1 [2,3])⟩
 cases h;exact rt rx
theorem zC3 (zF:List (zQ)) (r:(List (zQ))) (h:HY zF=some r):y6 prog 68 [(.row 54 4 (Mp z0 zF))] [] [.own 0 ((zF).length)] [(.row 54 4 (Mp z0 zF)),.row 54 4 (Mp z0 r)] (.own 1 ((r).length)):=by
 refine tI Try.f68 ?_;unfold HY at h;refine sE [iH 0 { id:=1,m:=1 }] [(0,.own 0 ((zF).length))] [(0,Rb 54 4 (Mp z0 zF))] 2 (sq (s0 [iH 1 { x:=true }] [(4,.nb (Mp z0 zF))] ?_));refine DV (t:=4) (l:=(Mp z0 zF)) zk zk ?_ ?_
 ·intro zV;replace zV:=List.map_eq_nil_iff.1 zV;replace h:=Eq.trans (show (some [])=((need (((([]:List zQ)).length+(zF).length) * 48≤140737488355328)).bind fun _ =>
 some ([]++zF)) from by simp [zV,need]) h
  refine sE [iH 0 { id:=2,m:=1 }] [(2,.own 2 0)] [(0,Rb 54 4 (Mp z0 zF)),(2,Rb 54 4 [])] 3 (wz [0,2] [] [2] [] [(2,.own 1 ((([]:List zQ)).length))] [(0,Rb 54 4 (Mp z0 zF)),(1,Rb 54 4 [])] (ac (congrArg (AV.own _) (by first | (simp;done) | (simp;omega)):(.own 2 0:AV)=.own 2 ((([]:List zQ)).length)) an) ?_);cases h;exact rt rx
 refine sk (sq (nE h fun zM h=>rE [iH 0 { id:=2 },iH 2 { id:=3,l:=(Mp z0 ([]++zF)),n:=(([]++zF)).length },iA 0,iM z0 zF,iC (by simp:(List.map z0 ([]++zF))=[]++(List.map z0 zF)),iC (by simp:(([]++zF)).length=((List.map z0 ([]++zF))).length),iC (by first | (simp;done) | simpa using zM:(([]:List AV).length+((List.map z0 zF):List AV).length) * 48≤140737488355328)] [(2,.own 3 ((([]++zF)).length))] [(0,Rb 54 4 (Mp z0 zF)),(3,Rb 54 4 (Mp z0 ([]++zF)))] 4 (w0 [0,3] [] [(2,.own 1 ((([]++zF)).length))] [(0,Rb 54 4 (Mp z0 zF)),(1,Rb 54 4 (Mp z0 ([]++zF)))] ?_)));cases h;exact rt rx
theorem OH (zF:List (yP)) (r:(List (yP))) (h:r6 zF=some r):y6 prog 25 [] [] [Sq 5 z4 zF] [.row 73 5 (Mp z4 r)] (.own 0 ((r).length)):=by
 refine tI Try.f25 ?_;unfold r6 at h;refine sE [iH 0 { id:=0,m:=1 }] [(0,Sq 5 z4 zF)] [] 1 (sq (s0 [] [(4,.nb (Mp z4 zF))] ?_));refine DV (t:=4) (l:=(Mp z4 zF)) zk zk ?_ ?_
 ·intro zV;replace zV:=List.map_eq_nil_iff.1 zV;replace h:=Eq.trans (show (some [])=((need (((([]:List yP)).length+(zF).length) * 40≤140737488355328)).bind fun _ =>
 some ([]++zF)) from by simp [zV,need]) h
  refine sE [iH 0 { id:=1,m:=1 }] [(2,.own 1 0)] [(1,Rb 73 5 [])] 2 (wz [1] [] [2] [] [(2,.own 0 ((([]:List yP)).length))] [(0,Rb 73 5 [])] (ac (congrArg (AV.own _) (by first | (simp;done) | (simp;omega)):(.own 1 0:AV)=.own 1 ((([]:List yP)).length)) an) ?_);cases h;exact rt rx
 refine sk (sq (nE h fun zM h=>rE [iH 0 { id:=1 },iH 2 { id:=2,l:=(Mp z4 ([]++zF)),n:=(([]++zF)).length },iA 0,iC trivial,iC (by simp:(List.map z4 ([]++zF))=[]++(List.map z4 zF)),iC (by simp:(([]++zF)).length=((List.map z4 ([]++zF))).length),iC (by first | (simp;done) | simpa using zM:(([]:List AV).length+((List.map z4 zF):List AV).length) * 40≤140737488355328)] [(2,.own 2 ((([]++zF)).length))] [(2,Rb 73 5 (Mp z4 ([]++zF)))] 3 (w0 [2] [] [(2,.own 0 ((([]++zF)).length))] [(0,Rb 73 5 (Mp z4 ([]++zF)))] ?_)));cases h;exact rt rx
theorem Q4 (zB:yJ) (r:yJ) (h:oK zB=some r):y6 prog 46 [(.row 54 4 (Mp z0 zB.packets))] [] [.agg [Sq 3 z8 zB.head.Threads,Sq 2 z6 zB.head.Domains,Sq 5 z4 zB.head.Snaps,.own 0 ((zB.packets).length),.fm (zB.ends).isNone (List.map (mpE (AV.int .i64) y0) ((zB.ends).getD [])),Ii zB.events]] [(.row 54 4 (Mp z0 zB.packets)),.row 73 5 (Mp z4 r.head.Snaps),.row 54 4 (Mp z0 r.packets)] (.agg [Sq 3 z8 r.head.Threads,Sq 2 z6 r.head.Domains,.own 1 ((r.head.Snaps).length),.own 2 ((r.packets).length),.fm (r.ends).isNone (List.map (mpE (AV.int .i64) y0) ((r.ends).getD [])),Ii r.events]):=by
 refine tI Try.f46 ?_;unfold oK at h;refine sE [iH 0 { id:=1 },iH 1 { id:=2 }] [(1,Pp 1),(2,Pp 2)] [(0,Rb 54 4 (Mp z0 zB.packets)),(1,Vb 65 [Sq 3 z8 zB.head.Threads,Sq 2 z6 zB.head.Domains,Sq 5 z4 zB.head.Snaps,.own 0 ((zB.packets).length),.fm (zB.ends).isNone (List.map (mpE (AV.int .i64) y0) ((zB.ends).getD [])),Ii zB.events]),(2,Vb 65 [.nilsl,.nilsl,.nilsl,.nilsl,.fm true [],Ii 0])] 3 (sq (bE h fun zA zM h=>r2 [iK 2 { ids:=[0,3] } (zC3 zB.packets zA zM)] [] [] [] [(1,Vb 65 [Sq 3 z8 zB.head.Threads,Sq 2 z6 zB.head.Domains,Sq 5 z4 zB.head.Snaps,.own 3 ((zA).length),.fm (zB.ends).isNone (List.map (mpE (AV.int .i64) y0) ((zB.ends).getD [])),Ii zB.events]),(3,Rb 54 4 (Mp z0 zA))] 4 (sq (bE h fun zJ zV h=>r2 [iK 3 { ids:=[4] } (OH zB.head.Snaps zJ zV)] [] [] [] [(1,Vb 65 [Sq 3 z8 zB.head.Threads,Sq 2 z6 zB.head.Domains,.own 4 ((zJ).length),.own 3 ((zA).length),.fm (zB.ends).isNone (List.map (mpE (AV.int .i64) y0) ((zB.ends).getD [])),Ii zB.events]),(4,Rb 73 5 (Mp z4 zJ))] 5 (s0 [iK 2 {} (zEd RF (zB.ends).isNone (List.map (mpE (AV.int .i64) y0) ((zB.ends).getD [])))] [] (s2 [] [1] [] [1] [(2,Vb 65 [Sq 3 z8 zB.head.Threads,Sq 2 z6 zB.head.Domains,.own 4 ((zJ).length),.own 3 ((zA).length),.fm (zB.ends).isNone (List.map (mpE (AV.int .i64) y0) ((zB.ends).getD [])),Ii zB.events])] 5 (wz [0,4,3,2] [] [] [1,2,3] [(2,Pp 3)] [(0,Rb 54 4 (Mp z0 zB.packets)),(1,Rb 73 5 (Mp z4 (((⟨(⟨zB.head.Threads,zB.head.Domains,zJ⟩:zU),zA,zB.ends,zB.events⟩:yJ).head).Snaps))),(2,Rb 54 4 (Mp z0 ((⟨(⟨zB.head.Threads,zB.head.Domains,zJ⟩:zU),zA,zB.ends,zB.events⟩:yJ).packets))),(3,Vb 65 [Sq 3 z8 (((⟨(⟨zB.head.Threads,zB.head.Domains,zJ⟩:zU),zA,zB.ends,zB.events⟩:yJ).head).Threads),Sq 2 z6 (((⟨(⟨zB.head.Threads,zB.head.Domains,zJ⟩:zU),zA,zB.ends,zB.events⟩:yJ).head).Domains),.own 1 ((((⟨(⟨zB.head.Threads,zB.head.Domains,zJ⟩:zU),zA,zB.ends,zB.events⟩:yJ).head).Snaps).length),.own 2 (((⟨(⟨zB.head.Threads,zB.head.Domains,zJ⟩:zU),zA,zB.ends,zB.events⟩:yJ).packets).length),.fm ((⟨(⟨zB.head.Threads,zB.head.Domains,zJ⟩:zU),zA,zB.ends,zB.events⟩:yJ).ends).isNone (List.map (mpE (AV.int .i64) y0) (((⟨(⟨zB.head.Threads,zB.head.Domains,zJ⟩:zU),zA,zB.ends,zB.events⟩:yJ).ends).getD [])),Ii ((⟨(⟨zB.head.Threads,zB.head.Domains,zJ⟩:zU),zA,zB.ends,zB.events⟩:yJ).events)])] (ar 73 (ar 5 (ar (Mp z4 zJ) (ar 54 (ar 4 (ar (Mp z0 zA) (ar 65 (ar true (ar 3 (ar (Mp z8 zB.head.Threads) (ar true (ar 2 (ar (Mp z6 zB.head.Domains) (ar true (ac (congrArg (AV.own _) (by first | (simp;done) | (simp;omega)):(.own 4 ((zJ).length):AV)=.own 4 ((((⟨(⟨zB.head.Threads,zB.head.Domains,zJ⟩:zU),zA,zB.ends,zB.events⟩:yJ).head).Snaps).length)) (ac (congrArg (AV.own _) (by first | (simp;done) | (simp;omega)):(.own 3 ((zA).length):AV)=.own 3 (((⟨(⟨zB.head.Threads,zB.head.Domains,zJ⟩:zU),zA,zB.ends,zB.events⟩:yJ).packets).length)) (ac (rfl:(zB.ends).isNone=((⟨(⟨zB.head.Threads,zB.head.Domains,zJ⟩:zU),zA,zB.ends,zB.events⟩:yJ).ends).isNone) (ar (List.map (mpE (AV.int .i64) y0) ((zB.ends).getD [])) (ar (Ii zB.events) an))))))))))))))))))) ?_)))))));cases h;exact rt rx
theorem zC4 (F:Nat) (zE:List (Int)) (r:yP×Bool) (h:D2 F zE=some r):y6 prog 47 [] [] [Sb zE] [] (.tuple [z4 r.1,.bool r.2]):=by
 refine tI Try.f47 ?_;unfold D2 at h;refine sE [iH 0 { id:=0 }] [(0,Sb zE),(2,Pp 0)] [(0,Vb 73 [Ii 0,Ii 0,Ii 0,Ii 0,Ii 0])] 1 (s2 [iH 2 { id:=1 }] [] [(4,Pp 1)] [] [(1,Vb 134 [Sb zE,.bool false])] 2 (sq (bE h fun zA zM h=>r2 [iH 2 { id:=2 },iJ 1 { ids:=[1] } ([Pp 1]:List AV) (TE F (⟨zE,false⟩:vB) zA zM)] [] [(5,Pp 2)] [] [(1,Vb 134 (uU zA.2)),(2,Vb 73 (pR zA.1))] 3 (sq (bE h fun zK xS h=>?_)))));refine x7 (mk [(2,Pp 0),(3,.bool zK)] [(0,Vb 73 (pR zA.1))] 1) ?_ ?_
 ·replace h:=xS;rcases bft (!zA.2.bad) with zS | zS
  ·replace h:=xP zS h;refine bE h fun zJ zV h=>bE h fun zP y9 h=>r2 [iH 11 Ht,iR 2 zS,iL 8 {} [.nilsl,z4 zA.1] (NK F [] zA.1 zJ zV) ⟨rfl,rfl,rfl,rfl,rfl,rfl,trivial⟩,iR 2 zS,iK 10 {} (MG zJ zE zP y9),iC zS] [0,4,5] [(3,.bool zP)] [1,2] [(0,Vb 73 (pR zA.1))] 3 ?_;cases h;exact ⟨rfl,(sI 1 [2,3])⟩
  ·replace h:=xQ zS h;refine r2 [iG 7 4,iH 11 Hf,iR 5 zS] [0,4,5] [(3,.bool false)] [1,2] [(0,Vb 73 (pR zA.1))] 3 ?_;cases h;exact ⟨rfl,(sI 1 [2,3])⟩
 cases h;exact rt rx
theorem oC (F:Nat) (zH:uZ) (r:Int×uZ) (h:aK F zH=some r):y6 prog 69 [(.var 143 (t6 zH))] [] [Pp 0] [(.var 143 (t6 r.2))] (Ii r.1):=by
 refine tI Try.f69 ?_;unfold aK at h;refine sE [] [(0,Pp 0)] [(0,Vb 143 (t6 zH))] 1 (sq (c0 [] 10 h [] ?_ ?_))
 ·intro yN h;refine s1 [] [0] [(2,Ii 0)] ?_;cases h;exact rt rx
 intro yN h;refine sk (sq (nE h fun zM h=>bE h fun zA zV h=>r0 [iT 8 Fb zH.b zH.used zM.1 zM.2,iK 9 {} (rR F (sub zH.b zH.used (lN (zH.b))) zA zV)] [(3,Ii zA.1),(4,Ii zA.2.1),(5,Ii zA.2.2)] (s2 [] [0] [] [] [(0,Vb 143 [Sb zH.b,Ii (zI (zH.used+zA.2.1)),Ii zA.2.2])] 1 (s0 [] [(2,Ii zA.1)] ?_))));cases h;exact rt rx
theorem JR (F:Nat) (zH:uZ) (kL:Int) (r:Int×uZ) (h:bJ F zH kL=some r):y6 prog 70 [(.var 143 (t6 zH))] [] [Pp 0,Ii kL] [(.var 143 (t6 r.2))] (Ii r.1):=by
 refine tI Try.f70 ?_;unfold bJ at h;refine sE [] [(0,Pp 0),(1,Ii kL)] [(0,Vb 143 (t6 zH))] 1 (sq (bE h fun zA zM h=>r2 [iK 1 { ids:=[0] } (oC F zH zA zM)] [] [(5,Ii zA.1)] [] [(0,Vb 143 (t6 zA.2))] 1 (sq ?_)));refine yZ (id:=0) zk ?_;refine c0 [] 8 h [] ?_ ?_
 ·intro yN h;refine s1 [] [0] [(4,Ii 0)] ?_;cases h;exact rt rx
 intro yN h;refine c0 [] 14 h [] ?_ ?_
 ·intro xH h;refine s2 [] [0] [] [] [(0,Vb 143 [Sb zA.2.b,Ii zA.2.used,Ii 10])] 1 (s0 [] [(4,Ii 0)] ?_);cases h;exact rt rx
 intro xH h;refine c0 [] 20 h [] ?_ ?_
 rotate_left
 ·intro xV h;refine sk (s1 [] [0] [(4,Ii zA.1)] ?_);cases h;exact rt rx
 intro xV h;refine s2 [] [0] [] [] [(0,Vb 143 [Sb zA.2.b,Ii zA.2.used,Ii 7])] 1 (s0 [] [(4,Ii 0)] ?_);cases h;exact rt rx
theorem XL (F:Nat) (zH:uZ) (r:(List Int)×uZ) (h:CD F zH=some r):y6 prog 71 [(.var 143 (t6 zH))] [] [Pp 0] [(.var 143 (t6 r.2))] (.str r.1):=by
 refine tI Try.f71 ?_;unfold CD at h;refine sE [] [(0,Pp 0)] [(0,Vb 143 (t6 zH))] 1 (sq (c0 [] 10 h [] ?_ ?_))
 ·intro yN h;refine s1 [] [0] [(2,.str ([]:List Int))] ?_;cases h;exact rt rx
 intro yN h;refine sk (sq (nE h fun zM h=>bE h fun zA zV h=>r0 [iT 8 Fb zH.b zH.used zM.1 zM.2,iK 9 {} (RV F (sub zH.b zH.used (lN (zH.b))) (40:Int) zA zV)] [(3,.str zA.1),(4,Ii zA.2.1),(5,Ii zA.2.2)] (s2 [] [0] [] [] [(0,Vb 143 [Sb zH.b,Ii (zI (zH.used+zA.2.1)),Ii zA.2.2])] 1 (s0 [] [(2,.str zA.1)] ?_))));cases h;exact rt rx
theorem zCs (F:Nat) (yE:List (List Int)) (r:Int) (h:B9 F yE=some r):y6 prog 86 [] [] [Ss yE] [] (Ii r):=by
 refine tI Try.f86 ?_;unfold B9 at h;refine sE [] [(0,Ss yE)] [] 0 (s2 [iH 0 { id:=0,mag:=false,mks:=[.str] }] [] [(3,.mp 0)] [] [(0,.live (.map false [.str] []))] 1 (sq (s1 [iN 1 AV.str yE] [0] [(8,Ss yE),(9,Ii (lN (yE))),(10,Ii 0)] (bE h fun zC zM h=>?_))));refine uD (K1:=kS prog zC 0 (fun q0=>mk [] [] 0) Try.f86 (fun q1=>[]) fun q1=>Ii q1) ?_ ?_
 ·replace h:=zM;refine yZ (id:=0) zk ?_;refine w0 [0] [] [(3,.mp 0),(8,Ss yE),(9,Ii (lN (yE))),(10,Ii 0)] [(0,.live (.map false [.str] []))] ?_;refine wP (fun n st=>∃ (zG:Int),∃ (zL:List ((List Int)×Bool)),st=mk [(3,.mp 0),(8,Ss yE),(9,Ii (lN (yE))),(10,Ii zG)] [(0,.live (.map false [.str] (List.map (mpE AV.str AV.bool) zL)))] 1∧rK F yE n zG zL=some zC) F zk ⟨_,_,rfl,h⟩ ?_ ?_
  ·rintro _ ⟨_,_,_,h⟩;exact wQ (h:(none:Option (Unit⊕Int))=some zC)
  rintro yF _ ⟨zG,zL,rfl,h⟩;replace h:fV F yE (rK F yE yF) zG zL=some zC:=h;unfold fV at h;refine s0 [] [(11,.bool (decide (zG<(lN (yE)))))] (sq (ch 11 h ?_ ?_))
  rotate_left
  ·intro yN h;refine wN (id:=0) zk ?_;cases h;exact ⟨rfl,(sI 0 [])⟩
  intro yN h;refine sk (sq ?_);refine yZ (id:=1) zk ?_;refine sq (bE h fun zH zV h=>r0 [iF 0 AV.str zV] [(5,.str zH)] (sq (sq (bE h fun zA y9 h=>r0 [iK 1 {} (D7 F zH zA y9)] [(6,Ii zA)] (c0 [] 17 h [] ?_ ?_)))))
  ·intro xH h;refine s2 [] [3,8] [(2,Ii zA)] [0] [] 1 ?_;cases h;exact rt ry
  intro xH h;refine sk (sq (c0 [iH 2 { av:=(.bool ((vW zL zH).getD false)),g:=(vW zL zH).isSome },iC (UY:tA prog 9 false [.str]),iC (GD (f:=AV.str) (g:=AV.bool) QA zL zH false:cY (List.map (mpE AV.str AV.bool) zL) (.str zH) (.bool false) (.bool ((vW zL zH).getD false)) (vW zL zH).isSome)] 21 h [] ?_ ?_))
  ·intro xV h;refine s2 [] [3,8] [(2,Ii 4)] [0] [] 1 ?_;cases h;exact rt ry
  intro xV h;refine sk (nE h fun xS h=>r2 [iH 2 { es:=(List.map (mpE AV.str AV.bool) (x5 zL zH true)) },iC (UY:tA prog 9 false [.str]),iC (G7 (f:=AV.str) (g:=AV.bool) QA zL zH true:lV (List.map (mpE AV.str AV.bool) zL) (.str zH) (.bool true) (List.map (mpE AV.str AV.bool) (x5 zL zH true))),iC (HW (l:=zL) xS:((List.map (mpE AV.str AV.bool) zL):List (AV×AV)).length<maxLen)] [] [] [] [(0,.live (.map false [.str] (List.map (mpE AV.str AV.bool) (x5 zL zH true))))] 1 (r0 [] [(10,Ii (zI (zG+(1:Int))))] ?_));exact ⟨_,(sI 1 [3,8,9,10]),_,_,rfl,h⟩
 intro e st1 hk;rcases zC with yD | xW
 rotate_left
 ·obtain ⟨rfl,hf⟩:=hk;cases h;exact ⟨st1,Sub.refl _ _,.inr rfl,hf⟩
 obtain ⟨rfl,hs⟩:=hk;refine ⟨_,hs,?_⟩;refine s0 [] [(2,Ii 0)] ?_;cases h;exact rt rx
theorem EG (F:Nat) (yE:List (List Int)) (yI:List (zT)) (r:Int) (h:cL F yE yI=some r):y6 prog 72 [] [] [Ss yE,Sq 2 yW yI] [] (Ii r):=by
 refine tI Try.f72 ?_;unfold cL at h;refine sE [] [(0,Ss yE),(1,Sq 2 yW yI)] [] 0 (sq (ad 17 h ?_ ?_ ?_))
 ·rcases bft (decide ((lN (yE))>(1000:Int))) with zS | zS
  ·exact rm [iG 4 3,iH 7 Ht,iN 1 AV.str yE,iR 4 zS] (ort zS)
  ·exact rm [iH 7 Hf,iN 1 AV.str yE,iR 2 zS,iN 5 yW yI,iR 2 zS] (orf zS rfl)
 ·intro yN h;refine s1 [] [0,1] [(4,Ii 7)] ?_;cases h;exact rt rx
 intro yN h;refine sk (sq (sq (bE h fun zA zM h=>r0 [iK 1 {} (zCs F yE zA zM)] [(5,Ii zA)] (c0 [] 21 h [] ?_ ?_))))
 ·intro xH h;refine s1 [] [0,1] [(4,Ii zA)] ?_;cases h;exact rt rx
 intro xH h;refine sk (s2 [iH 0 { id:=0,mag:=true,mks:=[.int .i64,.int .i64] }] [] [(6,.mp 0)] [] [(0,.live (.map true [.int .i64,.int .i64] []))] 1 (sq (nE h fun zV h=>r2 [iH 2 { id:=1,l:=(Mi (List.replicate ((yI).length) (0:Int))),m:=(yI).length,n:=(yI).length },iN 1 yW yI,iQ 2 (lN (yI)),iC (Nat.le_refl _:((yI).length)≤((yI).length)),iC zV,iC (U8:(Mi (List.replicate ((yI).length) (0:Int)))=List.replicate ((yI).length) (Ii 0))] [] [(7,.own 1 ((yI).length))] [] [(1,Rb 3 1 (Mi (List.replicate ((yI).length) (0:Int))))] 2 (sq (s1 [iN 1 yW yI] [1] [(27,Sq 2 yW yI),(28,Ii (lN (yI))),(29,Ii 0)] (bE h fun zC y9 h=>?_))))));refine uD (K1:=kS prog zC 0 (fun q0=>mk [] [] 0) Try.f72 (fun q1=>[]) fun q1=>Ii q1) ?_ ?_
 ·replace h:=y9;refine yZ (id:=0) zk ?_;refine wz [0,1] [] [7] [] [(0,Ss yE),(6,.mp 0),(7,.own 1 (((List.replicate ((yI).length) (0:Int))).length)),(27,Sq 2 yW yI),(28,Ii (lN (yI))),(29,Ii 0)] [(0,.live (.map true [.int .i64,.int .i64] [])),(1,Rb 3 1 (Mi (List.replicate ((yI).length) (0:Int))))] (ac (congrArg (AV.own _) List.length_replicate.symm:(.own 1 ((yI).length):AV)=.own 1 (((List.replicate ((yI).length) (0:Int))).length)) an) ?_;refine wP (fun n st=>∃ (zG:Int),∃ (zL:List (zT×Bool)),∃ (zZ:List Int),st=mk [(0,Ss yE),(6,.mp 0),(7,.own 1 ((zZ).length)),(27,Sq 2 yW yI),(28,Ii (lN (yI))),(29,Ii zG)] [(0,.live (.map true [.int .i64,.int .i64] (List.map (mpE yW AV.bool) zL))),(1,Rb 3 1 (Mi zZ))] 2∧oT F yE yI n zG zL zZ=some zC) F zk ⟨_,_,_,rfl,h⟩ ?_ ?_
  ·rintro _ ⟨_,_,_,_,h⟩;exact wQ (h:(none:Option (Unit⊕Int))=some zC)
  rintro yF _ ⟨zG,zL,zZ,rfl,h⟩;replace h:B2 F yE yI (oT F yE yI yF) zG zL zZ=some zC:=h;unfold B2 at h;refine s0 [] [(30,.bool (decide (zG<(lN (yI)))))] (sq (ch 30 h ?_ ?_))
  rotate_left
  ·intro xV h;refine wN (id:=0) zk ?_;cases h;exact ⟨rfl,(sI 0 [])⟩
  intro xV h;refine sk (sq ?_);refine yZ (id:=1) zk ?_;refine sq (bE h fun zH xS h=>r2 [iH 3 { id:=2 },iF 1 yW xS] [] [(8,Ii zG),(9,Pp 2)] [] [(2,Vb 121 [Ii zH.c0,Ii zH.c1])] 3 (sq ?_));refine yZ (id:=2) zk ?_;refine ad 34 h ?_ ?_ ?_
  ·rcases bft (decide (zH.c0<(-1:Int))) with wY | wY
   ·exact rm [iG 4 4,iH 8 Ht,iG 10 3,iH 13 Ht,iG 15 5,iH 20 Ht,i0,iC (by decide:(0:Int)<((2:Nat):Int)),iR 5 wY,iX 3,iA true,iX 5,iA true] (ort wY)
   ·rcases bft (decide (zH.c0≥zG)) with uI | uI
    ·exact rm [iH 8 Hf,iG 10 3,iH 13 Ht,iG 15 5,iH 20 Ht,i0,iC (by decide:(0:Int)<((2:Nat):Int)),iC wY,i0,iC (by decide:(0:Int)<((2:Nat):Int)),iR 4 wY,iR 4 uI,iX 5,iA true] (orf wY (ort uI))
    ·rcases bft (decide (zH.c1<(0:Int))) with uL | uL
     ·exact rm [iH 8 Hf,iH 13 Hf,iG 15 5,iH 20 Ht,i0,iC (by decide:(0:Int)<((2:Nat):Int)),iC wY,i0,iC (by decide:(0:Int)<((2:Nat):Int)),iR 4 wY,iC uI,iC (by decide:(0:Int)≤(1:Int)),iC (by decide:(1:Int)<((2:Nat):Int)),iR 3 uI,iR 6 uL] (orf wY (orf uI (ort uL)))
     ·exact rm [iH 8 Hf,iH 13 Hf,iH 20 Hf,i0,iC (by decide:(0:Int)<((2:Nat):Int)),iC wY,i0,iC (by decide:(0:Int)<((2:Nat):Int)),iR 4 wY,iC uI,iC (by decide:(0:Int)≤(1:Int)),iC (by decide:(1:Int)<((2:Nat):Int)),iR 3 uI,iC uL,iC (by decide:(0:Int)≤(1:Int)),iC (by decide:(1:Int)<((2:Nat):Int)),iR 3 uL,iN 18 AV.str yE,iR 2 uL] (orf wY (orf uI (orf uL rfl)))
  ·intro vY h;refine s2 [] [0,6,7,27,9] [(4,Ii 2)] [0,1,2] [] 3 ?_;cases h;exact rt ry
  intro vY h;refine c0 [iH 2 { av:=(.bool ((vW zL zH).getD false)),g:=(vW zL zH).isSome },iC (LV:tA prog 121 true [.int .i64,.int .i64]),iC (GD (f:=yW) (g:=AV.bool) L2 zL zH false:cY (List.map (mpE yW AV.bool) zL) (.agg [Ii zH.c0,Ii zH.c1]) (.bool false) (.bool ((vW zL zH).getD false)) (vW zL zH).isSome)] 56 h [] ?_ ?_
  ·intro uX h;refine s2 [] [0,6,7,27,9] [(4,Ii 4)] [0,1,2] [] 3 ?_;cases h;exact rt ry
  intro uX h;refine sk (sq (nE h fun wG h=>r2 [iH 2 { es:=(List.map (mpE yW AV.bool) (x5 zL zH true)) },iC (LV:tA prog 121 true [.int .i64,.int .i64]),iC (G7 (f:=yW) (g:=AV.bool) L2 zL zH true:lV (List.map (mpE yW AV.bool) zL) (.agg [Ii zH.c0,Ii zH.c1]) (.bool true) (List.map (mpE yW AV.bool) (x5 zL zH true))),iC (HW (l:=zL) wG:((List.map (mpE yW AV.bool) zL):List (AV×AV)).length<maxLen)] [] [] [] [(0,.live (.map true [.int .i64,.int .i64] (List.map (mpE yW AV.bool) (x5 zL zH true))))] 3 (sq (bE h fun yA vA h=>r2 [iH 3 { av:=Ii yA,l:=(Mi ((zZ).set ((zG).toNat) (1:Int))) },iC (qB vA:(0:Int)≤zG),iC (by first | (simp;done) | simpa using qG vA:zG<(((zZ).length:Nat):Int)),iC (qA vA:(Mi zZ)[(zG).toNat]?=some (Ii yA)),iC (mS _ _ _:(Mi ((zZ).set ((zG).toNat) (1:Int)))=List.set (Mi zZ) ((zG).toNat) (bQ (Ii yA) 0 [Ii 1]))] [] [] [] [(1,Rb 3 1 (Mi ((zZ).set ((zG).toNat) (1:Int))))] 3 (sq (s0 [i0,iC (by decide:(0:Int)<((2:Nat):Int))] [(67,.bool (zH.c0 != (-1:Int)))] (bE h fun zR vT h=>?_)))))));refine x7 (mk [(0,Ss yE),(6,.mp 0),(7,.own 1 ((zR).length)),(8,Ii zG),(27,Sq 2 yW yI),(28,Ii (lN (yI))),(29,Ii zG)] [(0,.live (.map true [.int .i64,.int .i64] (List.map (mpE yW AV.bool) (x5 zL zH true)))),(1,Rb 3 1 (Mi zR))] 2) ?_ ?_
  ·replace h:=vT;refine ch 67 h ?_ ?_
   rotate_left
   ·intro tQ h;refine sk ?_;cases h;exact ⟨rfl,(sw [0,1] [] [.s 0,.s 6,.a 7 (.own 1 (((zZ).set ((zG).toNat) (1:Int)).length)),.s 8,.s 27,.s 28,.s 29] [.s 0,.s 1] (ac (congrArg (AV.own _) (by first | (simp;done) | (simp;omega)):(.own 1 ((zZ).length):AV)=.own 1 (((zZ).set ((zG).toNat) (1:Int)).length)) an))⟩
   intro tQ h;refine bE h fun xR uA h=>bE h fun v9 uJ h=>bE h fun uK u4 h=>r2 [iH 3 { av:=Ii xR },iH 8 { av:=Ii v9 },iH 11 { av:=Ii uK,l:=(Mi (((zZ).set ((zG).toNat) (1:Int)).set ((zG).toNat) (zI (xR+v9)))) },iC (qB uA:(0:Int)≤zG),iC (by first | (simp;done) | simpa using qG uA:zG<(((zZ).length:Nat):Int)),iC (qA uA:(Mi ((zZ).set ((zG).toNat) (1:Int)))[(zG).toNat]?=some (Ii xR)),i0,iC (by decide:(0:Int)<((2:Nat):Int)),iC (qB uJ:(0:Int)≤zH.c0),iC (by first | (simp;done) | simpa using qG uJ:zH.c0<(((zZ).length:Nat):Int)),iC (qA uJ:(Mi ((zZ).set ((zG).toNat) (1:Int)))[(zH.c0).toNat]?=some (Ii v9)),iC (qB u4:(0:Int)≤zG),iC (by first | (simp;done) | simpa using qG u4:zG<(((zZ).length:Nat):Int)),iC (qA u4:(Mi ((zZ).set ((zG).toNat) (1:Int)))[(zG).toNat]?=some (Ii uK)),iC (mS _ _ _:(Mi (((zZ).set ((zG).toNat) (1:Int)).set ((zG).toNat) (zI (xR+v9))))=List.set (Mi ((zZ).set ((zG).toNat) (1:Int))) ((zG).toNat) (bQ (Ii uK) 0 [Ii (zI (xR+v9))]))] [9] [] [2] [(1,Rb 3 1 (Mi (((zZ).set ((zG).toNat) (1:Int)).set ((zG).toNat) (zI (xR+v9)))))] 3 ?_;cases h;exact ⟨rfl,(sw [0,1] [] [.s 0,.s 6,.a 7 (.own 1 ((((zZ).set ((zG).toNat) (1:Int)).set ((zG).toNat) (zI (xR+v9))).length)),.s 8,.s 27,.s 28,.s 29] [.s 0,.s 1] (ac (congrArg (AV.own _) (by first | (simp;done) | (simp;omega)):(.own 1 ((zZ).length):AV)=.own 1 ((((zZ).set ((zG).toNat) (1:Int)).set ((zG).toNat) (zI (xR+v9))).length)) an))⟩
  refine sq (bE h fun n6 tC h=>r0 [iH 3 { av:=Ii n6 },iC (qB tC:(0:Int)≤zG),iC (by first | (simp;done) | simpa using qG tC:zG<(((zR).length:Nat):Int)),iC (qA tC:(Mi zR)[(zG).toNat]?=some (Ii n6))] [(83,.bool (decide (n6>(32:Int))))] (ch 83 h ?_ ?_))
  rotate_left
  ·intro jZ h;refine sk (r0 [] [(29,Ii (zI (zG+(1:Int))))] ?_);exact ⟨_,(sI 2 [0,6,7,27,28,29]),_,_,_,rfl,h⟩
  intro jZ h;refine s2 [] [0,6,7,27] [(4,Ii 7)] [0,1] [] 2 ?_;cases h;exact rt ry
 intro e st1 hk;rcases zC with yD | xW
 rotate_left
 ·obtain ⟨rfl,hf⟩:=hk;cases h;exact ⟨st1,Sub.refl _ _,.inr rfl,hf⟩
 obtain ⟨rfl,hs⟩:=hk;refine ⟨_,hs,?_⟩;refine s0 [] [(4,Ii 0)] ?_;cases h;exact rt rx
theorem mT (F:Nat) (zH:jN) (r:Int×jN) (h:nN F zH=some r):y6 prog 87 [(.var 168 (cI zH))] [] [Pp 0] [(.var 168 (cI r.2))] (Ii r.1):=by
 refine tI Try.f87 ?_;unfold nN at h;refine sE [] [(0,Pp 0)] [(0,Vb 168 (cI zH))] 1 (sq (c0 [] 10 h [] ?_ ?_))
 ·intro yN h;refine s1 [] [0] [(2,Ii 0)] ?_;cases h;exact rt rx
 intro yN h;refine sk (sq (nE h fun zM h=>bE h fun zA zV h=>r0 [iT 8 Fb zH.b zH.used zM.1 zM.2,iK 9 {} (rR F (sub zH.b zH.used (lN (zH.b))) zA zV)] [(3,Ii zA.1),(4,Ii zA.2.1),(5,Ii zA.2.2)] (s2 [] [] [] [] [(0,Vb 168 [Sb zH.b,Ii zH.used,Ii zA.2.2])] 1 (s2 [] [0] [] [] [(0,Vb 168 [Sb zH.b,Ii (zI (zH.used+zA.2.1)),Ii zA.2.2])] 1 (s0 [] [(2,Ii zA.1)] ?_)))));cases h;exact rt rx
theorem QN (vH:Int) (r:Bool×Bool×Bool×Bool) (h:DQ vH=some r):y6 prog 79 [] [] [Ii vH] [] (.tuple [.bool r.1,.bool r.2.1,.bool r.2.2.1,.bool r.2.2.2]):=by
 refine tI Try.f79 ?_;unfold DQ at h;refine sE [] [(0,Ii vH)] [] 0 (sq (am 2 ((vH==(1:Int))||((vH==(3:Int))||(vH==(4:Int)))) ?_ ?_))
 ·rcases bft (vH==(1:Int)) with zS | zS
  ·exact rm [iG 3 2,iH 5 Ht,iG 7 2,iH 9 Ht,iR 3 zS,iX 2,iA true] (ort zS)
  ·rcases bft (vH==(3:Int)) with zX | zX
   ·exact rm [iH 5 Hf,iG 7 2,iH 9 Ht,iR 3 zS,iR 3 zX] (orf zS (ort zX))
   ·exact rm [iH 5 Hf,iH 9 Hf,iR 3 zS,iR 3 zX] (orf zS (orf zX rfl))
 refine s0 [] [(3,.bool (decide (vH≥(4:Int))))] (sq (am 4 ((vH==(9:Int))||(vH==(11:Int))) ?_ ?_))
 ·rcases bft (vH==(9:Int)) with yH | yH
  ·exact rm [iG 3 2,iH 5 Ht,iR 3 yH] (ort yH)
  ·exact rm [iH 5 Hf,iR 3 yH] (orf yH rfl)
 refine sq (am 5 ((vH==(5:Int))||(vH==(11:Int))) ?_ ?_)
 ·rcases bft (vH==(5:Int)) with yM | yM
  ·exact rm [iG 3 2,iH 5 Ht,iR 3 yM] (ort yM)
  ·exact rm [iH 5 Hf,iR 3 yM] (orf yM rfl)
 refine s0 [] [] ?_;cases h;exact rt rx
theorem WI (F:Nat) (zF:List (List Int)) (r:(List (List Int))) (h:AT F zF=some r):y6 prog 98 [(.row 9 1 (Ms zF))] [] [.own 0 ((zF).length)] [(.row 9 1 (Ms r))] (.tuple []):=by
 refine tI Try.f98 ?_;unfold AT at h;refine sE [] [(0,.own 0 ((zF).length)),(2,Ii 0),(3,Ii (zI ((lN (zF)) - (1:Int))))] [(0,Rb 9 1 (Ms zF))] 1 (bE h fun zC zM h=>?_);refine x7 (mk [] [(0,Rb 9 1 (Ms zC))] 1) ?_ ?_
 ·replace h:=zM;refine yZ (id:=0) zk ?_;refine w0 [0] [] [(0,.own 0 ((zF).length)),(2,Ii 0),(3,Ii (zI ((lN (zF)) - (1:Int))))] [(0,Rb 9 1 (Ms zF))] ?_;refine wP (fun n st=>∃ (xF:Int),∃ (t3:Int),∃ (zL:List (List Int)),st=mk [(0,.own 0 ((zL).length)),(2,Ii xF),(3,Ii t3)] [(0,Rb 9 1 (Ms zL))] 1∧oL F n xF t3 zL=some zC) F zk ⟨_,_,_,rfl,h⟩ ?_ ?_
  ·rintro _ ⟨_,_,_,_,h⟩;exact wQ (h:(none:Option (List (List Int)))=some zC)
  rintro yF _ ⟨xF,t3,zL,rfl,h⟩;replace h:CQ F (oL F yF) xF t3 zL=some zC:=h;unfold CQ at h;refine sq (c0 [] 9 h [] ?_ ?_)
  rotate_left
  ·intro yN h;refine wN (id:=0) zk ?_;cases h;exact ⟨rfl,(sI 1 [])⟩
  intro yN h;refine sk (sq ?_);refine yZ (id:=1) zk ?_;refine bE h fun zH zV h=>bE h fun yA y9 h=>bE h fun xR xS h=>bE h fun v9 wG h=>r2 [iH 7 { av:=.str zH },iH 11 { av:=.str yA },iH 13 { av:=.str xR,l:=(Ms ((zL).set ((xF).toNat) zH)) },iH 15 { av:=.str v9,l:=(Ms (((zL).set ((xF).toNat) zH).set ((t3).toNat) yA)) },iC (qB zV:(0:Int)≤t3),iC (by first | (simp;done) | simpa using qG zV:t3<(((zL).length:Nat):Int)),iC (qA zV:(Ms zL)[(t3).toNat]?=some (.str zH)),iC (qB y9:(0:Int)≤xF),iC (by first | (simp;done) | simpa using qG y9:xF<(((zL).length:Nat):Int)),iC (qA y9:(Ms zL)[(xF).toNat]?=some (.str yA)),iC (qB xS:(0:Int)≤xF),iC (by first | (simp;done) | simpa using qG xS:xF<(((zL).length:Nat):Int)),iC (qA xS:(Ms zL)[(xF).toNat]?=some (.str xR)),iC (mS _ _ _:(Ms ((zL).set ((xF).toNat) zH))=List.set (Ms zL) ((xF).toNat) (bQ (.str xR) 0 [.str zH])),iC (qB wG:(0:Int)≤t3),iC (by first | (simp;done) | simpa using qG wG:t3<(((zL).length:Nat):Int)),iC (qA wG:(Ms ((zL).set ((xF).toNat) zH))[(t3).toNat]?=some (.str v9)),iC (mS _ _ _:(Ms (((zL).set ((xF).toNat) zH).set ((t3).toNat) yA))=List.set (Ms ((zL).set ((xF).toNat) zH)) ((t3).toNat) (bQ (.str v9) 0 [.str yA]))] [] [] [] [(0,Rb 9 1 (Ms (((zL).set ((xF).toNat) zH).set ((t3).toNat) yA)))] 1 (r0 [] [(2,Ii (zI (xF+(1:Int)))),(3,Ii (zI (t3 - (1:Int))))] ?_);exact ⟨_,(sw [0] [] [.a 0 (.own 0 ((((zL).set ((xF).toNat) zH).set ((t3).toNat) yA).length)),.s 2,.s 3] [.s 0] (ac (congrArg (AV.own _) (by first | (simp;done) | (simp;omega)):(.own 0 ((zL).length):AV)=.own 0 ((((zL).set ((xF).toNat) zH).set ((t3).toNat) yA).length)) an)),_,_,_,rfl,h⟩
 cases h;exact ⟨.inl rfl,zle rfl,zk⟩
theorem zAJ (F:Nat) (yE:List (List Int)) (yI:List (zT)) (xF:Int) (r:(List (List Int))×Int) (h:oV F yE yI xF=some r):y6 prog 88 [] [] [Ss yE,Sq 2 yW yI,Ii xF] [.row 9 1 (Ms r.1)] (.tuple [.own 0 ((r.1).length),Ii r.2]):=by
 refine tI Try.f88 ?_;unfold oV at h;refine sE [iH 0 { id:=0,m:=1 }] [(0,Ss yE),(1,Sq 2 yW yI),(2,Ii xF)] [] 1 (sq ?_);refine yZ (id:=0) zk ?_;refine sq (bE h fun zA zM h=>r0 [iK 2 {} (EG F yE yI zA zM)] [(9,.bool (zA != (0:Int)))] (ch 9 h ?_ ?_))
 ·intro yN h;refine s2 [iH 0 { id:=1,m:=1 }] [0,1] [(6,.own 1 0),(7,Ii 1)] [] [(1,Rb 9 1 [])] 2 (wz [1] [] [6] [] [(6,.own 0 ((([]:List (List Int))).length)),(7,Ii 1)] [(0,Rb 9 1 [])] (ac (congrArg (AV.own _) (by first | (simp;done) | (simp;omega)):(.own 1 0:AV)=.own 1 ((([]:List (List Int))).length)) an) ?_);cases h;exact rt rx
 intro yN h;refine sq ?_;refine x7 (mk [(0,Ss yE),(1,Sq 2 yW yI),(2,Ii xF),(14,.bool (decide (xF<(-1:Int))||decide (xF≥(lN (yI)))))] [] 0) ?_ ?_
 ·rcases bft (decide (xF<(-1:Int))) with zX | zX
  ·refine r0 [iG 3 4,iH 7 Ht,iR 5 zX] [(14,.bool true)] ?_;exact ⟨rfl,(sw [] [] [.s 0,.s 1,.s 2,.a 14 (.bool (decide (xF<(-1:Int))||decide (xF≥(lN (yI)))))] [] (ac (congrArg AV.bool (ort zX):(.bool true:AV)=.bool (decide (xF<(-1:Int))||decide (xF≥(lN (yI))))) an))⟩
  ·refine r0 [iH 7 Hf,iR 3 zX,iN 5 yW yI,iR 2 zX] [(14,.bool (decide (xF≥(lN (yI)))))] ?_;exact ⟨rfl,(sw [] [] [.s 0,.s 1,.s 2,.a 14 (.bool (decide (xF<(-1:Int))||decide (xF≥(lN (yI)))))] [] (ac (congrArg AV.bool (orf zX rfl):(.bool (decide (xF≥(lN (yI)))):AV)=.bool (decide (xF<(-1:Int))||decide (xF≥(lN (yI))))) an))⟩
 refine ch 14 h ?_ ?_
 ·intro xH h;refine s2 [iH 0 { id:=0,m:=1 }] [0,1] [(6,.own 0 0),(7,Ii 2)] [] [(0,Rb 9 1 [])] 1 (wz [0] [] [6] [] [(6,.own 0 ((([]:List (List Int))).length)),(7,Ii 2)] [(0,Rb 9 1 [])] (ac (congrArg (AV.own _) (by first | (simp;done) | (simp;omega)):(.own 0 0:AV)=.own 0 ((([]:List (List Int))).length)) an) ?_);cases h;exact rt rx
 intro xH h;refine sk (s2 [iH 0 { id:=0,m:=1 }] [] [(8,.own 0 0)] [] [(0,Rb 9 1 [])] 1 (sq (bE h fun zC zV h=>?_)));refine x7 (mk [(8,.own 0 ((zC).length))] [(0,Rb 9 1 (Ms zC))] 1) ?_ ?_
 ·replace h:=zV;refine yZ (id:=1) zk ?_;refine w0 [0] [] [(0,Ss yE),(1,Sq 2 yW yI),(2,Ii xF),(8,.own 0 0)] [(0,Rb 9 1 [])] ?_;refine wP (fun n st=>∃ (qJ:Int),∃ (zL:List (List Int)),st=mk [(0,Ss yE),(1,Sq 2 yW yI),(2,Ii qJ),(8,.own 0 ((zL).length))] [(0,Rb 9 1 (Ms zL))] 1∧D6 F yE yI n qJ zL=some zC) F zk ⟨_,_,rfl,h⟩ ?_ ?_
  ·rintro _ ⟨_,_,_,h⟩;exact wQ (h:(none:Option (List (List Int)))=some zC)
  rintro yF _ ⟨qJ,zL,rfl,h⟩;replace h:i5 F yE yI (D6 F yE yI yF) qJ zL=some zC:=h;unfold i5 at h;refine sq (c0 [] 24 h [] ?_ ?_)
  rotate_left
  ·intro xV h;refine wN (id:=1) zk ?_;cases h;exact ⟨rfl,(sI 1 [8])⟩
  intro xV h;refine sk (sq ?_);refine yZ (id:=2) zk ?_;refine bE h fun zH y9 h=>bE h fun yA xS h=>nE h fun wG h=>r2 [iH 9 { id:=1 },iF 4 yW y9,iC (by decide:(0:Int)≤(1:Int)),iC (by decide:(1:Int)<((2:Nat):Int)),iF 7 AV.str xS,iM AV.str zL,iA 1,iP 10 2 AV.str zL ([yA]:List (List Int)) 16 wG] [] [(8,.own 2 (((zL++([yA]:List (List Int)))).length))] [0] [(2,Rb 9 1 (Ms (zL++([yA]:List (List Int)))))] 3 (bE h fun xR vA h=>r0 [iF 2 yW vA,i0,iC (by decide:(0:Int)<((2:Nat):Int))] [(2,Ii xR.c0)] ?_);exact ⟨_,(sJ [2] [0,1,2,8]),_,_,rfl,h⟩
 refine sq (bE h fun zJ vT h=>nE h fun uA h=>r2 [iK 1 { ids:=[0] } (WI F zC zJ vT)] [] [] [] [(0,Rb 9 1 (Ms zJ))] 1 (s1 [] [8] [(6,.own 0 ((zC).length)),(7,Ii 0)] (wz [0] [] [6] [] [(6,.own 0 ((zJ).length)),(7,Ii 0)] [(0,Rb 9 1 (Ms zJ))] (ac (congrArg (AV.own _) uA.symm:(.own 0 ((zC).length):AV)=.own 0 ((zJ).length)) an) ?_)));cases h;exact rt rx
theorem zBF (r:(List (wO))) (h:mX=some r):y6 prog 99 [] [] [] [.row 172 9 (Mp cH r)] (.own 0 ((r).length)):=by
 refine tI Try.f99 ?_;unfold mX at h;refine sE [iH 0 { id:=0,m:=1 }] [] [] 1 (s2 [iH 13 { id:=1 }] [] [(0,.own 1 13)] [] [(1,Rb 172 9 (Mp cH ([zL4,zL8,zL5,zL7,HG,EK,GV,zL9,zL6,GA,GQ,HU,G0]:List wO)))] 2 (wz [1] [] [0] [] [(0,.own 0 ((([zL4,zL8,zL5,zL7,HG,EK,GV,zL9,zL6,GA,GQ,HU,G0]:List wO)).length))] [(0,Rb 172 9 (Mp cH ([zL4,zL8,zL5,zL7,HG,EK,GV,zL9,zL6,GA,GQ,HU,G0]:List wO)))] (ac (congrArg (AV.own _) (by first | (simp;done) | (simp;omega)):(.own 1 13:AV)=.own 1 ((([zL4,zL8,zL5,zL7,HG,EK,GV,zL9,zL6,GA,GQ,HU,G0]:List wO)).length)) an) ?_));cases h;exact rt rx
theorem VR (vH:Int) (r:wO×Bool) (h:BT vH=some r):y6 prog 90 [] [] [Ii vH] [] (.tuple [cH r.1,.bool r.2]):=by
 refine tI Try.f90 ?_;unfold BT at h;refine sE [iH 0 { id:=0 }] [(0,Ii vH),(2,Pp 0)] [(0,Vb 172 [.str ([]:List Int),.bool false,.bool false,.bool false,.bool false,Ii 0,Ii 0,Ii 0,Ii 0])] 1 (sq (bE h fun zA zM h=>r2 [iK 0 { ids:=[1] } (zBF zA zM)] [] [(4,.own 1 ((zA).length))] [] [(1,Rb 172 9 (Mp cH zA))] 2 (sq (ad 13 h ?_ ?_ ?_))))
 ·rcases bft (decide (vH<(1:Int))) with zS | zS
  ·exact rm [iG 3 4,iH 7 Ht,iR 5 zS] (ort zS)
  ·exact rm [iH 7 Hf,iR 5 zS] (orf zS rfl)
 ·intro yN h;refine s2 [] [4] [(3,.bool false)] [1] [] 2 ?_;cases h;exact rt rx
 intro yN h;refine sk (sq (bE h fun zH zV h=>r2 [iH 3 { av:=cH zH },iC (qB zV:(0:Int)≤vH),iC (by first | (simp;done) | simpa using qG zV:vH<(((zA).length:Nat):Int)),iC (qA zV:(Mp cH zA)[(vH).toNat]?=some (cH zH))] [4] [(3,.bool true)] [1] [(0,Vb 172 (DE zH))] 2 ?_));cases h;exact rt rx
theorem U2 (F:Nat) (zO:List (List Int)) (r:Int) (h:o8 F zO=some r):y6 prog 94 [] [] [Ss zO] [] (Ii r):=by
 refine tI Try.f94 ?_;unfold o8 at h;refine sE [] [(0,Ss zO)] [] 0 (sq (c0 [iN 1 AV.str zO] 8 h [] ?_ ?_))
 ·intro yN h;refine s1 [] [0] [(2,Ii 7)] ?_;cases h;exact rt rx
 intro yN h;refine sk (sq (s1 [iN 1 AV.str zO] [0] [(9,Ss zO),(10,Ii (lN (zO))),(11,Ii 0)] (bE h fun zC zM h=>?_)));refine uD (K1:=kS prog zC 0 (fun q0=>mk [] [] 0) Try.f94 (fun q1=>[]) fun q1=>Ii q1) ?_ ?_
 ·replace h:=zM;refine yZ (id:=0) zk ?_;refine w0 [] [] [(9,Ss zO),(10,Ii (lN (zO))),(11,Ii 0)] [] ?_;refine wP (fun n st=>∃ (zG:Int),st=mk [(9,Ss zO),(10,Ii (lN (zO))),(11,Ii zG)] [] 0∧C2 F zO n zG=some zC) F zk ⟨_,rfl,h⟩ ?_ ?_
  ·rintro _ ⟨_,_,h⟩;exact wQ (h:(none:Option (Unit⊕Int))=some zC)
  rintro yF _ ⟨zG,rfl,h⟩;replace h:C8 F zO (C2 F zO yF) zG=some zC:=h;unfold C8 at h;refine s0 [] [(12,.bool (decide (zG<(lN (zO)))))] (sq (ch 12 h ?_ ?_))
  rotate_left
  ·intro xH h;refine wN (id:=0) zk ?_;cases h;exact ⟨rfl,(sI 0 [])⟩
  intro xH h;refine sk (sq ?_);refine yZ (id:=1) zk ?_;refine sq (bE h fun zH zV h=>r0 [iF 0 AV.str zV] [(4,.str zH)] (sq (bE h fun zA y9 h=>r0 [iK 1 {} (D7 F zH zA y9)] [(5,Ii zA)] (c0 [] 18 h [] ?_ ?_))))
  rotate_left
  ·intro xV h;refine sk (r0 [] [(11,Ii (zI (zG+(1:Int))))] ?_);exact ⟨_,(sI 0 [9,10,11]),_,rfl,h⟩
  intro xV h;refine s1 [] [9] [(2,Ii zA)] ?_;cases h;exact rt ry
 intro e st1 hk;rcases zC with yD | xW
 rotate_left
 ·obtain ⟨rfl,hf⟩:=hk;cases h;exact ⟨st1,Sub.refl _ _,.inr rfl,hf⟩
 obtain ⟨rfl,hs⟩:=hk;refine ⟨_,hs,?_⟩;refine s0 [] [(2,Ii 0)] ?_;cases h;exact rt rx
theorem zAr (F:Nat) (f_1:wO) (z7:xA) (r:Int) (h:DO F f_1 z7=some r):y6 prog 91 [] [] [cH f_1,wF z7] [] (Ii r):=by
 refine tI Try.f91 ?_;unfold DO at h;refine sE [iH 0 { id:=0 },iH 1 { id:=1 }] [(2,Pp 0),(3,Pp 1)] [(0,Vb 172 (DE f_1)),(1,Vb 89 (jK z7))] 2 (sq (s2 [] [2] [(6,.bool f_1.name)] [0] [] 2 (ch 6 h ?_ ?_)))
 ·intro yN h;refine sq (bE h fun zA zM h=>r2 [iK 2 {} (D7 F z7.Name zA zM)] [3] [(4,Ii zA)] [1] [] 2 ?_);cases h;exact rt rx
 intro yN h;refine sk (sq (bE h fun zJ zV h=>r2 [iK 2 {} (U2 F z7.Stack zJ zV)] [3] [(4,Ii zJ)] [1] [] 2 ?_));cases h;exact rt rx
theorem L1 (F:Nat) (z7:xA) (r:Int) (h:fO F z7=some r):y6 prog 76 [] [] [wF z7] [] (Ii r):=by
 refine tI Try.f76 ?_;unfold fO at h;refine sE [iH 0 { id:=0 }] [(1,Pp 0)] [(0,Vb 89 (jK z7))] 1 (sq (ad 13 h ?_ ?_ ?_))
 ·rcases bft (decide (z7.At<(0:Int))) with zS | zS
  ·exact rm [iG 4 3,iH 7 Ht,iR 4 zS] (ort zS)
  ·exact rm [iH 7 Hf,iR 4 zS] (orf zS rfl)
 ·intro yN h;refine s2 [] [1] [(2,Ii 2)] [0] [] 1 ?_;cases h;exact rt rx
 intro yN h;refine sk (sq (bE h fun zA zM h=>r2 [iH 6 { id:=1 },iK 2 {} (VR z7.Kind zA zM)] [] [(3,Pp 1),(4,.bool zA.2)] [] [(1,Vb 172 (DE zA.1))] 2 (sq (sq (bE h fun zK zV h=>?_)))));refine x7 (mk [(1,Pp 0),(3,Pp 1),(62,.bool zK)] [(0,Vb 89 (jK z7)),(1,Vb 172 (DE zA.1))] 2) ?_ ?_
 ·replace h:=zV;rcases bft (!zA.2) with zX | zX
  ·replace h:=xP zX h;refine r0 [iG 3 4,iH 10 Hg,iH 11 Ht,iG 13 4,iH 20 Hg,iH 21 Ht,iG 23 4,iH 30 Hg,iH 31 Ht,iG 33 4,iH 41 Hg,iH 42 Ht,iR 6 zX,iX 5,iA true,iX 5,iA true,iX 5,iA true] [(62,.bool true)] ?_;cases h;exact ⟨rfl,(sI 2 [1,3,62])⟩
  ·replace h:=xQ zX h;rcases bft (!zA.1.name) with yH | yH
   ·replace h:=xP yH h;rcases bft (!(z7.Name==([]:List Int))) with yM | yM
    ·replace h:=xP yM h;refine r0 [iH 10 Ht,iH 11 Hf,iG 13 4,iH 20 Hg,iH 21 Ht,iG 23 4,iH 30 Hg,iH 31 Ht,iG 33 4,iH 41 Hg,iH 42 Ht,iR 4 zX,iR 3 yH,iC zX,iC yH,iC zX,iR 6 yM,iX 5,iA true,iX 5,iA true] [(62,.bool true)] ?_;cases h;exact ⟨rfl,(sI 2 [1,3,62])⟩
    ·replace h:=xQ yM h;rcases bft (!zA.1.n) with wD | wD
     ·replace h:=xP wD h;rcases bft (z7.N != (0:Int)) with wK | wK
      ·replace h:=xP wK h;refine r0 [iH 10 Ht,iH 11 Hf,iH 20 Ht,iH 21 Hf,iG 23 4,iH 30 Hg,iH 31 Ht,iG 33 4,iH 41 Hg,iH 42 Ht,iR 4 zX,iR 3 yH,iC zX,iC yH,iC zX,iR 4 yM,iR 3 wD,iC yM,iC wD,iC yM,iR 6 wK,iX 5,iA true] [(62,.bool true)] ?_;cases h;exact ⟨rfl,(sI 2 [1,3,62])⟩
      ·replace h:=xQ wK h;rcases bft (!zA.1.m) with wE | wE
       ·replace h:=xP wE h;rcases bft (z7.M != (0:Int)) with wL | wL
        ·replace h:=xP wL h;refine r0 [iH 10 Ht,iH 11 Hf,iH 20 Ht,iH 21 Hf,iH 30 Ht,iH 31 Hf,iG 33 4,iH 41 Hg,iH 42 Ht,iR 4 zX,iR 3 yH,iC zX,iC yH,iC zX,iR 4 yM,iR 3 wD,iC yM,iC wD,iC yM,iR 4 wK,iR 3 wE,iC wK,iC wE,iC wK,iR 6 wL] [(62,.bool true)] ?_;cases h;exact ⟨rfl,(sI 2 [1,3,62])⟩
        ·replace h:=xQ wL h;rcases bft (!zA.1.stack) with uC | uC
         ·replace h:=xP uC h;refine r0 [iH 10 Ht,iH 11 Hf,iH 20 Ht,iH 21 Hf,iH 30 Ht,iH 31 Hf,iH 41 Ht,iH 42 Hf,iR 4 zX,iR 3 yH,iC zX,iC yH,iC zX,iR 4 yM,iR 3 wD,iC yM,iC wD,iC yM,iR 4 wK,iR 3 wE,iC wK,iC wE,iC wK,iR 4 wL,iR 3 uC,iN 39 AV.str z7.Stack,iC uC,iC wL,iC uC,iC wL] [(62,.bool (decide ((lN (z7.Stack))>(0:Int))))] ?_;cases h;exact ⟨rfl,(sI 2 [1,3,62])⟩
         ·replace h:=xQ uC h;refine r0 [iH 10 Ht,iH 11 Hf,iH 20 Ht,iH 21 Hf,iH 30 Ht,iH 31 Hf,iG 37 4,iH 41 Hf,iH 42 Hf,iR 4 zX,iR 3 yH,iC zX,iC yH,iC zX,iR 4 yM,iR 3 wD,iC yM,iC wD,iC yM,iR 4 wK,iR 3 wE,iC wK,iC wE,iC wK,iR 4 wL,iR 4 uC,iC wL,iC uC,iC wL] [(62,.bool false)] ?_;cases h;exact ⟨rfl,(sI 2 [1,3,62])⟩
       ·replace h:=xQ wE h;rcases bft (!zA.1.stack) with vN | vN
        ·replace h:=xP vN h;refine r0 [iH 10 Ht,iH 11 Hf,iH 20 Ht,iH 21 Hf,iG 27 3,iH 30 Hf,iH 31 Hf,iH 41 Ht,iH 42 Hf,iR 4 zX,iR 3 yH,iC zX,iC yH,iC zX,iR 4 yM,iR 3 wD,iC yM,iC wD,iC yM,iR 4 wK,iR 3 wE,iC wK,iC wE,iC wK,iQ 4 false,iR 3 vN,iN 39 AV.str z7.Stack,iC vN,iA false,iC vN,iA false] [(62,.bool (decide ((lN (z7.Stack))>(0:Int))))] ?_;cases h;exact ⟨rfl,(sI 2 [1,3,62])⟩
        ·replace h:=xQ vN h;refine r0 [iH 10 Ht,iH 11 Hf,iH 20 Ht,iH 21 Hf,iG 27 3,iH 30 Hf,iH 31 Hf,iG 37 4,iH 41 Hf,iH 42 Hf,iR 4 zX,iR 3 yH,iC zX,iC yH,iC zX,iR 4 yM,iR 3 wD,iC yM,iC wD,iC yM,iR 4 wK,iR 3 wE,iC wK,iC wE,iC wK,iQ 4 false,iR 4 vN,iA false,iC vN,iA false] [(62,.bool false)] ?_;cases h;exact ⟨rfl,(sI 2 [1,3,62])⟩
     ·replace h:=xQ wD h;rcases bft (!zA.1.m) with wY | wY
      ·replace h:=xP wY h;rcases bft (z7.M != (0:Int)) with uI | uI
       ·replace h:=xP uI h;refine r0 [iH 10 Ht,iH 11 Hf,iG 17 3,iH 20 Hf,iH 21 Hf,iH 30 Ht,iH 31 Hf,iG 33 4,iH 41 Hg,iH 42 Ht,iR 4 zX,iR 3 yH,iC zX,iC yH,iC zX,iR 4 yM,iR 3 wD,iC yM,iC wD,iC yM,iQ 4 false,iR 3 wY,iA false,iC wY,iA false,iR 6 uI] [(62,.bool true)] ?_;cases h;exact ⟨rfl,(sI 2 [1,3,62])⟩
       ·replace h:=xQ uI h;rcases bft (!zA.1.stack) with uL | uL
        ·replace h:=xP uL h;refine r0 [iH 10 Ht,iH 11 Hf,iG 17 3,iH 20 Hf,iH 21 Hf,iH 30 Ht,iH 31 Hf,iH 41 Ht,iH 42 Hf,iR 4 zX,iR 3 yH,iC zX,iC yH,iC zX,iR 4 yM,iR 3 wD,iC yM,iC wD,iC yM,iQ 4 false,iR 3 wY,iA false,iC wY,iA false,iR 4 uI,iR 3 uL,iN 39 AV.str z7.Stack,iC uL,iC uI,iC uL,iC uI] [(62,.bool (decide ((lN (z7.Stack))>(0:Int))))] ?_;cases h;exact ⟨rfl,(sI 2 [1,3,62])⟩
        ·replace h:=xQ uL h;refine r0 [iH 10 Ht,iH 11 Hf,iG 17 3,iH 20 Hf,iH 21 Hf,iH 30 Ht,iH 31 Hf,iG 37 4,iH 41 Hf,iH 42 Hf,iR 4 zX,iR 3 yH,iC zX,iC yH,iC zX,iR 4 yM,iR 3 wD,iC yM,iC wD,iC yM,iQ 4 false,iR 3 wY,iA false,iC wY,iA false,iR 4 uI,iR 4 uL,iC uI,iC uL,iC uI] [(62,.bool false)] ?_;cases h;exact ⟨rfl,(sI 2 [1,3,62])⟩
      ·replace h:=xQ wY h;rcases bft (!zA.1.stack) with qL | qL
       ·replace h:=xP qL h;refine r0 [iH 10 Ht,iH 11 Hf,iG 17 3,iH 20 Hf,iH 21 Hf,iG 27 3,iH 30 Hf,iH 31 Hf,iH 41 Ht,iH 42 Hf,iR 4 zX,iR 3 yH,iC zX,iC yH,iC zX,iR 4 yM,iR 3 wD,iC yM,iC wD,iC yM,iQ 4 false,iR 3 wY,iA false,iC wY,iQ 5 false,iR 3 qL,iN 39 AV.str z7.Stack,iC qL,iA false,iC qL,iA false] [(62,.bool (decide ((lN (z7.Stack))>(0:Int))))] ?_;cases h;exact ⟨rfl,(sI 2 [1,3,62])⟩
       ·replace h:=xQ qL h;refine r0 [iH 10 Ht,iH 11 Hf,iG 17 3,iH 20 Hf,iH 21 Hf,iG 27 3,iH 30 Hf,iH 31 Hf,iG 37 4,iH 41 Hf,iH 42 Hf,iR 4 zX,iR 3 yH,iC zX,iC yH,iC zX,iR 4 yM,iR 3 wD,iC yM,iC wD,iC yM,iQ 4 false,iR 3 wY,iA false,iC wY,iQ 5 false,iR 4 qL,iA false,iC qL,iA false] [(62,.bool false)] ?_;cases h;exact ⟨rfl,(sI 2 [1,3,62])⟩
   ·replace h:=xQ yH h;rcases bft (!zA.1.n) with t5 | t5
    ·replace h:=xP t5 h;rcases bft (z7.N != (0:Int)) with j4 | j4
     ·replace h:=xP j4 h;refine r0 [iG 7 3,iH 10 Hf,iH 11 Hf,iH 20 Ht,iH 21 Hf,iG 23 4,iH 30 Hg,iH 31 Ht,iG 33 4,iH 41 Hg,iH 42 Ht,iR 4 zX,iR 3 yH,iC zX,iC yH,iC zX,iQ 4 false,iR 3 t5,iA false,iC t5,iA false,iR 6 j4,iX 5,iA true] [(62,.bool true)] ?_;cases h;exact ⟨rfl,(sI 2 [1,3,62])⟩
     ·replace h:=xQ j4 h;rcases bft (!zA.1.m) with n9 | n9
      ·replace h:=xP n9 h;rcases bft (z7.M != (0:Int)) with cA | cA
       ·replace h:=xP cA h;refine r0 [iG 7 3,iH 10 Hf,iH 11 Hf,iH 20 Ht,iH 21 Hf,iH 30 Ht,iH 31 Hf,iG 33 4,iH 41 Hg,iH 42 Ht,iR 4 zX,iR 3 yH,iC zX,iC yH,iC zX,iQ 4 false,iR 3 t5,iA false,iC t5,iA false,iR 4 j4,iR 3 n9,iC j4,iC n9,iC j4,iR 6 cA] [(62,.bool true)] ?_;cases h;exact ⟨rfl,(sI 2 [1,3,62])⟩
       ·replace h:=xQ cA h;rcases bft (!zA.1.stack) with fR | fR
        ·replace h:=xP fR h;refine r0 [iG 7 3,iH 10 Hf,iH 11 Hf,iH 20 Ht,iH 21 Hf,iH 30 Ht,iH 31 Hf,iH 41 Ht,iH 42 Hf,iR 4 zX,iR 3 yH,iC zX,iC yH,iC zX,iQ 4 false,iR 3 t5,iA false,iC t5,iA false,iR 4 j4,iR 3 n9,iC j4,iC n9,iC j4,iR 4 cA,iR 3 fR,iN 39 AV.str z7.Stack,iC fR,iC cA,iC fR,iC cA] [(62,.bool (decide ((lN (z7.Stack))>(0:Int))))] ?_;cases h;exact ⟨rfl,(sI 2 [1,3,62])⟩
        ·replace h:=xQ fR h;refine r0 [iG 7 3,iH 10 Hf,iH 11 Hf,iH 20 Ht,iH 21 Hf,iH 30 Ht,iH 31 Hf,iG 37 4,iH 41 Hf,iH 42 Hf,iR 4 zX,iR 3 yH,iC zX,iC yH,iC zX,iQ 4 false,iR 3 t5,iA false,iC t5,iA false,iR 4 j4,iR 3 n9,iC j4,iC n9,iC j4,iR 4 cA,iR 4 fR,iC cA,iC fR,iC cA] [(62,.bool false)] ?_;cases h;exact ⟨rfl,(sI 2 [1,3,62])⟩
      ·replace h:=xQ n9 h;rcases bft (!zA.1.stack) with fS | fS
       ·replace h:=xP fS h;refine r0 [iG 7 3,iH 10 Hf,iH 11 Hf,iH 20 Ht,iH 21 Hf,iG 27 3,iH 30 Hf,iH 31 Hf,iH 41 Ht,iH 42 Hf,iR 4 zX,iR 3 yH,iC zX,iC yH,iC zX,iQ 4 false,iR 3 t5,iA false,iC t5,iA false,iR 4 j4,iR 3 n9,iC j4,iC n9,iC j4,iQ 4 false,iR 3 fS,iN 39 AV.str z7.Stack,iC fS,iA false,iC fS,iA false] [(62,.bool (decide ((lN (z7.Stack))>(0:Int))))] ?_;cases h;exact ⟨rfl,(sI 2 [1,3,62])⟩
       ·replace h:=xQ fS h;refine r0 [iG 7 3,iH 10 Hf,iH 11 Hf,iH 20 Ht,iH 21 Hf,iG 27 3,iH 30 Hf,iH 31 Hf,iG 37 4,iH 41 Hf,iH 42 Hf,iR 4 zX,iR 3 yH,iC zX,iC yH,iC zX,iQ 4 false,iR 3 t5,iA false,iC t5,iA false,iR 4 j4,iR 3 n9,iC j4,iC n9,iC j4,iQ 4 false,iR 4 fS,iA false,iC fS,iA false] [(62,.bool false)] ?_;cases h;exact ⟨rfl,(sI 2 [1,3,62])⟩
    ·replace h:=xQ t5 h;rcases bft (!zA.1.m) with jJ | jJ
     ·replace h:=xP jJ h;rcases bft (z7.M != (0:Int)) with kO | kO
      ·replace h:=xP kO h;refine r0 [iG 7 3,iH 10 Hf,iH 11 Hf,iG 17 3,iH 20 Hf,iH 21 Hf,iH 30 Ht,iH 31 Hf,iG 33 4,iH 41 Hg,iH 42 Ht,iR 4 zX,iR 3 yH,iC zX,iC yH,iC zX,iQ 4 false,iR 3 t5,iA false,iC t5,iQ 5 false,iR 3 jJ,iA false,iC jJ,iA false,iR 6 kO] [(62,.bool true)] ?_;cases h;exact ⟨rfl,(sI 2 [1,3,62])⟩
      ·replace h:=xQ kO h;rcases bft (!zA.1.stack) with j5 | j5
       ·replace h:=xP j5 h;refine r0 [iG 7 3,iH 10 Hf,iH 11 Hf,iG 17 3,iH 20 Hf,iH 21 Hf,iH 30 Ht,iH 31 Hf,iH 41 Ht,iH 42 Hf,iR 4 zX,iR 3 yH,iC zX,iC yH,iC zX,iQ 4 false,iR 3 t5,iA false,iC t5,iQ 5 false,iR 3 jJ,iA false,iC jJ,iA false,iR 4 kO,iR 3 j5,iN 39 AV.str z7.Stack,iC j5,iC kO,iC j5,iC kO] [(62,.bool (decide ((lN (z7.Stack))>(0:Int))))] ?_;cases h;exact ⟨rfl,(sI 2 [1,3,62])⟩
       ·replace h:=xQ j5 h;refine r0 [iG 7 3,iH 10 Hf,iH 11 Hf,iG 17 3,iH 20 Hf,iH 21 Hf,iH 30 Ht,iH 31 Hf,iG 37 4,iH 41 Hf,iH 42 Hf,iR 4 zX,iR 3 yH,iC zX,iC yH,iC zX,iQ 4 false,iR 3 t5,iA false,iC t5,iQ 5 false,iR 3 jJ,iA false,iC jJ,iA false,iR 4 kO,iR 4 j5,iC kO,iC j5,iC kO] [(62,.bool false)] ?_;cases h;exact ⟨rfl,(sI 2 [1,3,62])⟩
     ·replace h:=xQ jJ h;rcases bft (!zA.1.stack) with kP | kP
      ·replace h:=xP kP h;refine r0 [iG 7 3,iH 10 Hf,iH 11 Hf,iG 17 3,iH 20 Hf,iH 21 Hf,iG 27 3,iH 30 Hf,iH 31 Hf,iH 41 Ht,iH 42 Hf,iR 4 zX,iR 3 yH,iC zX,iC yH,iC zX,iQ 4 false,iR 3 t5,iA false,iC t5,iQ 5 false,iR 3 jJ,iA false,iC jJ,iQ 5 false,iR 3 kP,iN 39 AV.str z7.Stack,iC kP,iA false,iC kP,iA false] [(62,.bool (decide ((lN (z7.Stack))>(0:Int))))] ?_;cases h;exact ⟨rfl,(sI 2 [1,3,62])⟩
      ·replace h:=xQ kP h;refine r0 [iG 7 3,iH 10 Hf,iH 11 Hf,iG 17 3,iH 20 Hf,iH 21 Hf,iG 27 3,iH 30 Hf,iH 31 Hf,iG 37 4,iH 41 Hf,iH 42 Hf,iR 4 zX,iR 3 yH,iC zX,iC yH,iC zX,iQ 4 false,iR 3 t5,iA false,iC t5,iQ 5 false,iR 3 jJ,iA false,iC jJ,iQ 5 false,iR 4 kP,iA false,iC kP,iA false] [(62,.bool false)] ?_;cases h;exact ⟨rfl,(sI 2 [1,3,62])⟩
 refine ch 62 h ?_ ?_
 ·intro xH h;refine s2 [] [1,3] [(2,Ii 1)] [0,1] [] 2 ?_;cases h;exact rt rx
 intro xH h;refine sk (sq (sq (bE h fun zJ y9 h=>r0 [iK 2 {} (zAr F zA.1 z7 zJ y9)] [(5,Ii zJ)] (c0 [] 67 h [] ?_ ?_))))
 ·intro xV h;refine s2 [] [1,3] [(2,Ii zJ)] [0,1] [] 2 ?_;cases h;exact rt rx
 intro xV h;refine sk (sq ?_);refine yZ (id:=0) zk ?_;refine ad 69 h ?_ ?_ ?_
 ·rcases Bool.eq_false_or_eq_true zA.1.n with kQ | kQ
  ·rcases bft (decide (z7.N<zA.1.least)) with aA | aA
   ·exact rm [iG 9 5,iH 14 Ht,iH 15 Ht,iR 6 kQ,iR 5 aA,iC kQ,iC aA,iC kQ] (uF kQ (ort aA))
   ·exact rm [iH 14 Hf,iH 15 Ht,iR 6 kQ,iR 5 aA,iC kQ,iC aA,iC kQ] (uF kQ (orf aA rfl))
  ·exact rm [iG 3 6,iH 14 Hg,iH 15 Hf,iR 8 kQ] (kB kQ)
 ·intro vY h;refine s2 [] [1,3] [(2,Ii 2)] [0,1] [] 2 ?_;cases h;exact rt rx
 intro vY h;refine ad 86 h ?_ ?_ ?_
 ·rcases bft (z7.Kind==(9:Int)) with lW | lW
  ·rcases bft (z7.N != (2:Int)) with gg_28 | gg_28
   ·exact rm [iH 7 Ht,iH 12 Ht,iR 4 lW,iR 4 gg_28] (uF lW (uF gg_28 rfl))
   ·exact rm [iH 7 Ht,iG 9 3,iH 12 Hf,iR 4 lW,iR 4 gg_28] (uF lW (kB gg_28))
  ·exact rm [iG 4 3,iH 7 Hf,iG 9 3,iH 12 Hf,iR 4 lW,iZ,iZ,iZ,iA false] (kB lW)
 ·intro uX h;refine s2 [] [1,3] [(2,Ii 1)] [0,1] [] 2 ?_;cases h;exact rt rx
 intro uX h;refine sq ?_;refine x7 (mk [(100,.bool (zA.1.m&&(bif decide (z7.M<zA.1.mLeast) then ((z7.Kind != (9:Int))||(z7.N==(2:Int))) else (decide (z7.M>zA.1.mMost)&&((z7.Kind != (9:Int))||(z7.N==(2:Int)))))))] [] 0) ?_ ?_
 ·rcases Bool.eq_false_or_eq_true zA.1.m with qN | qN
  ·rcases bft (decide (z7.M<zA.1.mLeast)) with pD | pD
   ·rcases bft (z7.Kind != (9:Int)) with lX | lX
    ·refine r2 [iG 9 5,iH 14 Ht,iH 15 Ht,iG 21 3,iH 24 Ht,iH 25 Ht,iR 6 qN,iR 5 pD,iC qN,iC pD,iC qN,iQ 4 true,iR 3 lX,iA true,iC lX,iA true] [1,3] [(100,.bool true)] [0,1] [] 2 ?_;exact ⟨rfl,(sw [] [] [.a 100 (.bool (zA.1.m&&(bif decide (z7.M<zA.1.mLeast) then ((z7.Kind != (9:Int))||(z7.N==(2:Int))) else (decide (z7.M>zA.1.mMost)&&((z7.Kind != (9:Int))||(z7.N==(2:Int)))))))] [] (ac (congrArg AV.bool (uF qN (ctr pD (ort lX))):(.bool true:AV)=.bool (zA.1.m&&(bif decide (z7.M<zA.1.mLeast) then ((z7.Kind != (9:Int))||(z7.N==(2:Int))) else (decide (z7.M>zA.1.mMost)&&((z7.Kind != (9:Int))||(z7.N==(2:Int))))))) an))⟩
    ·refine r2 [iG 9 5,iH 14 Ht,iH 15 Ht,iH 24 Hf,iH 25 Ht,iR 6 qN,iR 5 pD,iC qN,iC pD,iC qN,iQ 4 true,iR 3 lX,iA true,iC lX,iA true] [1,3] [(100,.bool (z7.N==(2:Int)))] [0,1] [] 2 ?_;exact ⟨rfl,(sw [] [] [.a 100 (.bool (zA.1.m&&(bif decide (z7.M<zA.1.mLeast) then ((z7.Kind != (9:Int))||(z7.N==(2:Int))) else (decide (z7.M>zA.1.mMost)&&((z7.Kind != (9:Int))||(z7.N==(2:Int)))))))] [] (ac (congrArg AV.bool (uF qN (ctr pD (orf lX rfl))):(.bool (z7.N==(2:Int)):AV)=.bool (zA.1.m&&(bif decide (z7.M<zA.1.mLeast) then ((z7.Kind != (9:Int))||(z7.N==(2:Int))) else (decide (z7.M>zA.1.mMost)&&((z7.Kind != (9:Int))||(z7.N==(2:Int))))))) an))⟩
   ·rcases bft (decide (z7.M>zA.1.mMost)) with bB | bB
    ·rcases bft (z7.Kind != (9:Int)) with lY | lY
     ·refine r2 [iH 14 Hf,iH 15 Ht,iG 21 3,iH 24 Ht,iH 25 Ht,iR 6 qN,iR 5 pD,iC qN,iC pD,iC qN,iR 4 bB,iR 3 lY,iC bB,iC lY,iC bB] [1,3] [(100,.bool true)] [0,1] [] 2 ?_;exact ⟨rfl,(sw [] [] [.a 100 (.bool (zA.1.m&&(bif decide (z7.M<zA.1.mLeast) then ((z7.Kind != (9:Int))||(z7.N==(2:Int))) else (decide (z7.M>zA.1.mMost)&&((z7.Kind != (9:Int))||(z7.N==(2:Int)))))))] [] (ac (congrArg AV.bool (uF qN (cfr pD (uF bB (ort lY)))):(.bool true:AV)=.bool (zA.1.m&&(bif decide (z7.M<zA.1.mLeast) then ((z7.Kind != (9:Int))||(z7.N==(2:Int))) else (decide (z7.M>zA.1.mMost)&&((z7.Kind != (9:Int))||(z7.N==(2:Int))))))) an))⟩
     ·refine r2 [iH 14 Hf,iH 15 Ht,iH 24 Hf,iH 25 Ht,iR 6 qN,iR 5 pD,iC qN,iC pD,iC qN,iR 4 bB,iR 3 lY,iC bB,iC lY,iC bB] [1,3] [(100,.bool (z7.N==(2:Int)))] [0,1] [] 2 ?_;exact ⟨rfl,(sw [] [] [.a 100 (.bool (zA.1.m&&(bif decide (z7.M<zA.1.mLeast) then ((z7.Kind != (9:Int))||(z7.N==(2:Int))) else (decide (z7.M>zA.1.mMost)&&((z7.Kind != (9:Int))||(z7.N==(2:Int)))))))] [] (ac (congrArg AV.bool (uF qN (cfr pD (uF bB (orf lY rfl)))):(.bool (z7.N==(2:Int)):AV)=.bool (zA.1.m&&(bif decide (z7.M<zA.1.mLeast) then ((z7.Kind != (9:Int))||(z7.N==(2:Int))) else (decide (z7.M>zA.1.mMost)&&((z7.Kind != (9:Int))||(z7.N==(2:Int))))))) an))⟩
    ·refine r2 [iH 14 Hf,iH 15 Ht,iG 17 4,iH 24 Hg,iH 25 Hf,iR 6 qN,iR 5 pD,iC qN,iC pD,iC qN,iR 6 bB] [1,3] [(100,.bool false)] [0,1] [] 2 ?_;exact ⟨rfl,(sw [] [] [.a 100 (.bool (zA.1.m&&(bif decide (z7.M<zA.1.mLeast) then ((z7.Kind != (9:Int))||(z7.N==(2:Int))) else (decide (z7.M>zA.1.mMost)&&((z7.Kind != (9:Int))||(z7.N==(2:Int)))))))] [] (ac (congrArg AV.bool (uF qN (cfr pD (kB bB))):(.bool false:AV)=.bool (zA.1.m&&(bif decide (z7.M<zA.1.mLeast) then ((z7.Kind != (9:Int))||(z7.N==(2:Int))) else (decide (z7.M>zA.1.mMost)&&((z7.Kind != (9:Int))||(z7.N==(2:Int))))))) an))⟩
  ·refine r2 [iG 3 6,iH 14 Hg,iH 15 Hf,iG 17 4,iH 24 Hg,iH 25 Hf,iR 8 qN,iZ,iZ,iZ,iZ,iZ,iA false] [1,3] [(100,.bool false)] [0,1] [] 2 ?_;exact ⟨rfl,(sw [] [] [.a 100 (.bool (zA.1.m&&(bif decide (z7.M<zA.1.mLeast) then ((z7.Kind != (9:Int))||(z7.N==(2:Int))) else (decide (z7.M>zA.1.mMost)&&((z7.Kind != (9:Int))||(z7.N==(2:Int)))))))] [] (ac (congrArg AV.bool (kB qN):(.bool false:AV)=.bool (zA.1.m&&(bif decide (z7.M<zA.1.mLeast) then ((z7.Kind != (9:Int))||(z7.N==(2:Int))) else (decide (z7.M>zA.1.mMost)&&((z7.Kind != (9:Int))||(z7.N==(2:Int))))))) an))⟩
 refine ch 100 h ?_ ?_
 ·intro tQ h;refine s0 [] [(2,Ii 2)] ?_;cases h;exact rt rx
 intro tQ h;refine sk (s0 [] [(2,Ii 0)] ?_);cases h;exact rt rx
theorem ZG (F:Nat) (yE:List (List Int)) (yI:List (zT)) (zE:List (Int)) (r:xA×Int×Int) (h:DU F yE yI zE=some r):y6 prog 73 [] [] [Ss yE,Sq 2 yW yI,Sb zE] [] (.tuple [wF r.1,Ii r.2.1,Ii r.2.2]):=by
 refine tI Try.f73 ?_;unfold DU at h;refine sE [iH 0 { id:=0 }] [(0,Ss yE),(1,Sq 2 yW yI),(2,Sb zE),(6,Pp 0)] [(0,cZ)] 1 (sq (sq (bE h fun zA zM h=>r0 [iK 2 {} (EG F yE yI zA zM)] [(21,.bool (zA != (0:Int)))] (ch 21 h ?_ ?_))))
 ·intro yN h;refine s1 [] [0,1,2] [(7,Ii 0),(8,Ii 1)] (wz [0] [] [] [0] [(6,Pp 0),(7,Ii 0),(8,Ii 1)] [(0,Vb 89 (jK zL2))] (ar 89 (ar true (ar (Ii 0) (ar (Ii 0) (ar (.str ([]:List Int):AV) (ar (Ii 0) (ar (Ii 0) (ar ([]:List AV) an)))))))) ?_);cases h;exact rt rx
 intro yN h;refine sk (s2 [iH 2 { id:=1 }] [2] [(9,Pp 1)] [] [(1,Vb 168 [Sb zE,Ii 0,Ii 0])] 2 (sq (bE h fun zJ zV h=>r2 [iJ 1 { ids:=[1] } ([Pp 1]:List AV) (mT F (⟨zE,(0:Int),(0:Int)⟩:jN) zJ zV)] [] [(10,Ii zJ.1)] [] [(1,Vb 168 (cI zJ.2))] 2 (sq (bE h fun zP y9 h=>r2 [iH 4 { id:=2 },iJ 2 { ids:=[1] } ([Pp 1]:List AV) (mT F zJ.2 zP y9)] [] [(11,Pp 2)] [] [(1,Vb 168 (cI zP.2)),(2,Vb 89 [Ii zP.1,Ii zJ.1,.str ([]:List Int),Ii 0,Ii 0,.nilsl])] 3 (sq (sq (am 44 ((zP.2.fault==(0:Int))&&(decide (zJ.1<(1:Int))||decide (zJ.1>(12:Int)))) ?_ ?_))))))))
 ·rcases bft (zP.2.fault==(0:Int)) with zS | zS
  ·rcases bft (decide (zJ.1<(1:Int))) with zX | zX
   ·exact rm [iG 9 2,iH 11 Ht,iH 12 Ht,iR 3 zS,iR 2 zX,iC zS,iC zX,iC zS] (uF zS (ort zX))
   ·exact rm [iH 11 Hf,iH 12 Ht,iR 3 zS,iR 2 zX,iC zS,iC zX,iC zS] (uF zS (orf zX rfl))
  ·exact rm [iG 6 3,iH 11 Hg,iH 12 Hf,iR 5 zS] (kB zS)
 refine bE h fun zC xS h=>?_;refine x7 (mk [(0,Ss yE),(1,Sq 2 yW yI),(6,Pp 0),(9,Pp 1),(11,Pp 2)] [(0,cZ),(1,Vb 168 [Sb zP.2.b,Ii zP.2.used,Ii zC]),(2,Vb 89 [Ii zP.1,Ii zJ.1,.str ([]:List Int),Ii 0,Ii 0,.nilsl])] 3) ?_ ?_
 ·replace h:=xS;refine ch 44 h ?_ ?_
  ·intro xH h;refine r2 [] [] [] [] [(1,Vb 168 [Sb zP.2.b,Ii zP.2.used,Ii 10])] 3 ?_;cases h;exact ⟨rfl,(sI 3 [0,1,6,9,11])⟩
  intro xH h;refine sk ?_;cases h;exact ⟨rfl,(sI 3 [0,1,6,9,11])⟩
 refine sq (bE h fun z5 wG h=>r0 [iK 2 {} (QN zJ.1 z5 wG)] [(12,.bool z5.1),(13,.bool z5.2.1),(14,.bool z5.2.2.1),(15,.bool z5.2.2.2)] (s0 [] [(16,Ii 0),(17,Ii (-1))] (sq (s0 [] [(56,.bool z5.1)] (bE h fun zR vA h=>?_)))));refine x7 (mk [(0,Ss yE),(1,Sq 2 yW yI),(6,Pp 0),(9,Pp 1),(11,Pp 2),(12,.bool z5.1),(13,.bool z5.2.1),(14,.bool z5.2.2.1),(15,.bool z5.2.2.2),(16,Ii zR.1),(17,Ii (-1))] [(0,cZ),(1,Vb 168 [Sb zR.2.1,Ii zR.2.2.1,Ii zR.2.2.2]),(2,Vb 89 [Ii zP.1,Ii zJ.1,.str ([]:List Int),Ii 0,Ii 0,.nilsl])] 3) ?_ ?_
 ·replace h:=vA;refine ch 56 h ?_ ?_
  rotate_left
  ·intro xV h;refine sk ?_;cases h;exact ⟨rfl,(sI 3 [0,1,6,9,11,12,13,14,15,16,17])⟩
  intro xV h;refine bE h fun zW vT h=>r2 [iJ 1 { ids:=[1] } ([Pp 1]:List AV) (mT F (⟨zP.2.b,zP.2.used,zC⟩:jN) zW vT)] [] [(16,Ii zW.1)] [] [(1,Vb 168 (cI zW.2))] 3 ?_;cases h;exact ⟨rfl,(sI 3 [0,1,6,9,11,12,13,14,15,16,17])⟩
 refine sq (s0 [] [(59,.bool z5.2.1)] (bE h fun y5 uA h=>?_));refine x7 (mk [(0,Ss yE),(1,Sq 2 yW yI),(6,Pp 0),(9,Pp 1),(11,Pp 2),(12,.bool z5.1),(14,.bool z5.2.2.1),(15,.bool z5.2.2.2),(16,Ii zR.1),(17,Ii (-1))] [(0,cZ),(1,Vb 168 [Sb y5.1,Ii y5.2.1,Ii y5.2.2.1]),(2,Vb 89 [Ii zP.1,Ii zJ.1,.str ([]:List Int),Ii y5.2.2.2,Ii 0,.nilsl])] 3) ?_ ?_
 ·replace h:=uA;refine ch 59 h ?_ ?_
  rotate_left
  ·intro vY h;refine sk ?_;cases h;exact ⟨rfl,(sI 3 [0,1,6,9,11,12,14,15,16,17])⟩
  intro vY h;refine bE h fun yV uJ h=>r2 [iJ 1 { ids:=[1] } ([Pp 1]:List AV) (mT F (⟨zR.2.1,zR.2.2.1,zR.2.2.2⟩:jN) yV uJ)] [] [] [] [(1,Vb 168 (cI yV.2)),(2,Vb 89 [Ii zP.1,Ii zJ.1,.str ([]:List Int),Ii yV.1,Ii 0,.nilsl])] 3 ?_;cases h;exact ⟨rfl,(sI 3 [0,1,6,9,11,12,14,15,16,17])⟩
 refine sq (s0 [] [(63,.bool z5.2.2.1)] (bE h fun xX u4 h=>?_));refine x7 (mk [(0,Ss yE),(1,Sq 2 yW yI),(6,Pp 0),(9,Pp 1),(11,Pp 2),(12,.bool z5.1),(15,.bool z5.2.2.2),(16,Ii zR.1),(17,Ii (-1))] [(0,cZ),(1,Vb 168 [Sb xX.1,Ii xX.2.1,Ii xX.2.2.1]),(2,Vb 89 [Ii zP.1,Ii zJ.1,.str ([]:List Int),Ii y5.2.2.2,Ii xX.2.2.2,.nilsl])] 3) ?_ ?_
 ·replace h:=u4;refine ch 63 h ?_ ?_
  rotate_left
  ·intro uX h;refine sk ?_;cases h;exact ⟨rfl,(sI 3 [0,1,6,9,11,12,15,16,17])⟩
  intro uX h;refine bE h fun xB tC h=>r2 [iJ 1 { ids:=[1] } ([Pp 1]:List AV) (mT F (⟨y5.1,y5.2.1,y5.2.2.1⟩:jN) xB tC)] [] [] [] [(1,Vb 168 (cI xB.2)),(2,Vb 89 [Ii zP.1,Ii zJ.1,.str ([]:List Int),Ii y5.2.2.2,Ii xB.1,.nilsl])] 3 ?_;cases h;exact ⟨rfl,(sI 3 [0,1,6,9,11,12,15,16,17])⟩
 refine sq (s0 [] [(67,.bool z5.2.2.2)] (bE h fun wZ qM h=>?_));refine x7 (mk [(0,Ss yE),(1,Sq 2 yW yI),(6,Pp 0),(9,Pp 1),(11,Pp 2),(12,.bool z5.1),(16,Ii zR.1),(17,Ii wZ.1)] [(0,cZ),(1,Vb 168 [Sb wZ.2.1,Ii wZ.2.2.1,Ii wZ.2.2.2]),(2,Vb 89 [Ii zP.1,Ii zJ.1,.str ([]:List Int),Ii y5.2.2.2,Ii xX.2.2.2,.nilsl])] 3) ?_ ?_
 ·replace h:=qM;refine ch 67 h ?_ ?_
  rotate_left
  ·intro tQ h;refine sk ?_;cases h;exact ⟨rfl,(sI 3 [0,1,6,9,11,12,16,17])⟩
  intro tQ h;refine bE h fun yX j0 h=>r2 [iJ 1 { ids:=[1] } ([Pp 1]:List AV) (mT F (⟨xX.1,xX.2.1,xX.2.2.1⟩:jN) yX j0)] [] [(17,Ii yX.1)] [] [(1,Vb 168 (cI yX.2))] 3 ?_;cases h;exact ⟨rfl,(sI 3 [0,1,6,9,11,12,16,17])⟩
 refine sq (bE h fun o_6 qV h=>?_);refine uD (K1:=kS prog o_6 0 (fun q0=>mk [(0,Ss yE),(1,Sq 2 yW yI),(6,Pp 0),(9,Pp 1),(11,Pp 2),(12,.bool z5.1),(16,Ii zR.1),(17,Ii wZ.1)] [(0,cZ),(1,Vb 168 [Sb wZ.2.1,Ii wZ.2.2.1,Ii wZ.2.2.2]),(2,Vb 89 [Ii zP.1,Ii zJ.1,.str ([]:List Int),Ii y5.2.2.2,Ii xX.2.2.2,.nilsl])] 3) Try.f73 (fun q1=>[]) fun q1=>.tuple [wF q1.1,Ii q1.2.1,Ii q1.2.2]) ?_ ?_
 ·replace h:=qV;refine yZ (id:=0) zk ?_;refine c0 [] 70 h [] ?_ ?_
  ·intro jZ h;refine s2 [] [0,1,9,11] [(7,Ii 0),(8,Ii wZ.2.2.2)] [1,2] [] 3 (wz [0] [] [] [0] [(6,Pp 0),(7,Ii 0),(8,Ii wZ.2.2.2)] [(0,Vb 89 (jK zL2))] (ar 89 (ar true (ar (Ii 0) (ar (Ii 0) (ar (.str ([]:List Int):AV) (ar (Ii 0) (ar (Ii 0) (ar ([]:List AV) an)))))))) ?_);cases h;exact rt ry
  intro jZ h;refine sq (ad 81 h ?_ ?_ ?_)
  ·rcases Bool.eq_false_or_eq_true z5.1 with wK | wK
   ·rcases bft (decide (zR.1<(0:Int))) with wE | wE
    ·exact rm [iG 5 4,iH 9 Ht,iH 10 Ht,iR 3 wK,iR 4 wE,iC wK,iC wE,iC wK] (uF wK (ort wE))
    ·exact rm [iH 9 Hf,iH 10 Ht,iR 3 wK,iR 3 wE,iN 7 AV.str yE,iC wE,iC wK,iC wE,iC wK] (uF wK (orf wE rfl))
   ·exact rm [iG 2 3,iH 9 Hg,iH 10 Hf,iR 5 wK] (kB wK)
  ·intro aN h;refine sk (cd 81 (z5.1&&(decide (zR.1<(0:Int))||decide (zR.1≥(lN (yE))))) ?_ ?_)
   rotate_left
   ·intro hg;exact Bool.noConfusion ((aN).symm.trans hg)
   intro _;refine s2 [] [0,1,9,11] [(7,Ii 0),(8,Ii 2)] [1,2] [] 3 (wz [0] [] [] [0] [(6,Pp 0),(7,Ii 0),(8,Ii 2)] [(0,Vb 89 (jK zL2))] (ar 89 (ar true (ar (Ii 0) (ar (Ii 0) (ar (.str ([]:List Int):AV) (ar (Ii 0) (ar (Ii 0) (ar ([]:List AV) an)))))))) ?_);cases h;exact rt ry
  intro aN h;refine x7 (mk [(0,Ss yE),(1,Sq 2 yW yI),(6,Pp 0),(9,Pp 1),(11,Pp 2),(12,.bool z5.1),(16,Ii zR.1),(17,Ii wZ.1),(81,.bool (decide (wZ.1<(-1:Int))||decide (wZ.1≥(lN (yI)))))] [(0,cZ),(1,Vb 168 [Sb wZ.2.1,Ii wZ.2.2.1,Ii wZ.2.2.2]),(2,Vb 89 [Ii zP.1,Ii zJ.1,.str ([]:List Int),Ii y5.2.2.2,Ii xX.2.2.2,.nilsl])] 3) ?_ ?_
  ·rcases bft (decide (wZ.1<(-1:Int))) with wL | wL
   ·refine r0 [iG 3 4,iH 7 Ht,iR 5 wL] [(81,.bool true)] ?_;exact ⟨rfl,(sw [0,1,2] [] [.s 0,.s 1,.s 6,.s 9,.s 11,.s 12,.s 16,.s 17,.a 81 (.bool (decide (wZ.1<(-1:Int))||decide (wZ.1≥(lN (yI)))))] [.s 0,.s 1,.s 2] (ac (congrArg AV.bool (ort wL):(.bool true:AV)=.bool (decide (wZ.1<(-1:Int))||decide (wZ.1≥(lN (yI))))) an))⟩
   ·refine r0 [iH 7 Hf,iR 3 wL,iN 5 yW yI,iR 2 wL] [(81,.bool (decide (wZ.1≥(lN (yI)))))] ?_;exact ⟨rfl,(sw [0,1,2] [] [.s 0,.s 1,.s 6,.s 9,.s 11,.s 12,.s 16,.s 17,.a 81 (.bool (decide (wZ.1<(-1:Int))||decide (wZ.1≥(lN (yI)))))] [.s 0,.s 1,.s 2] (ac (congrArg AV.bool (orf wL rfl):(.bool (decide (wZ.1≥(lN (yI)))):AV)=.bool (decide (wZ.1<(-1:Int))||decide (wZ.1≥(lN (yI))))) an))⟩
  refine ch 81 h ?_ ?_
  rotate_left
  ·intro g_9 h;refine sk ?_;cases h;exact ⟨rfl,(sI 3 [0,1,6,9,11,12,16,17])⟩
  intro g_9 h;refine s2 [] [0,1,9,11] [(7,Ii 0),(8,Ii 2)] [1,2] [] 3 (wz [0] [] [] [0] [(6,Pp 0),(7,Ii 0),(8,Ii 2)] [(0,Vb 89 (jK zL2))] (ar 89 (ar true (ar (Ii 0) (ar (Ii 0) (ar (.str ([]:List Int):AV) (ar (Ii 0) (ar (Ii 0) (ar ([]:List AV) an)))))))) ?_);cases h;exact rt ry
 intro e st1 hk;rcases o_6 with yD | xW
 rotate_left
 ·obtain ⟨rfl,hf⟩:=hk;cases h;exact ⟨st1,Sub.refl _ _,.inr rfl,hf⟩
 obtain ⟨rfl,hs⟩:=hk;refine ⟨_,hs,?_⟩;refine sq (s0 [] [(102,.bool z5.1)] (bE h fun b8 kN h=>?_));refine x7 (mk [(0,Ss yE),(1,Sq 2 yW yI),(6,Pp 0),(9,Pp 1),(11,Pp 2),(17,Ii wZ.1)] [(0,cZ),(1,Vb 168 [Sb wZ.2.1,Ii wZ.2.2.1,Ii wZ.2.2.2]),(2,Vb 89 [Ii zP.1,Ii zJ.1,.str b8,Ii y5.2.2.2,Ii xX.2.2.2,.nilsl])] 3) ?_ ?_
 ·replace h:=kN;refine ch 102 h ?_ ?_
  rotate_left
  ·intro g_10 h;refine sk ?_;cases h;exact ⟨rfl,(sI 3 [0,1,6,9,11,17])⟩
  intro g_10 h;refine bE h fun zH n8 h=>r2 [iF 2 AV.str n8] [] [] [] [(2,Vb 89 [Ii zP.1,Ii zJ.1,.str zH,Ii y5.2.2.2,Ii xX.2.2.2,.nilsl])] 3 ?_;cases h;exact ⟨rfl,(sI 3 [0,1,6,9,11,17])⟩
 refine sq (bE h fun yL b9 h=>r2 [iK 3 { ids:=[3] } (zAJ F yE yI wZ.1 yL b9)] [0,1] [] [] [(2,Vb 89 [Ii zP.1,Ii zJ.1,.str b8,Ii y5.2.2.2,Ii xX.2.2.2,.own 3 ((yL.1).length)]),(3,Rb 9 1 (Ms yL.1))] 4 (sq (sq (bE h fun xM pT h=>r0 [iM AV.str yL.1,iL 1 { lend:=[3] } [.agg [Ii zP.1,Ii zJ.1,.str b8,Ii y5.2.2.2,Ii xX.2.2.2,Ss yL.1]] (L1 F (⟨zP.1,zJ.1,b8,y5.2.2.2,xX.2.2.2,yL.1⟩:xA) xM pT) ⟨rfl,rfl,rfl,rfl,rfl,rfl,rfl,rfl,trivial⟩] [(118,.bool (xM != (0:Int)))] (ch 118 h ?_ ?_)))))
 ·intro g_11 h;refine s2 [] [9,11] [(7,Ii 0),(8,Ii 10)] [1,2,3] [] 4 (wz [0] [] [] [0] [(6,Pp 0),(7,Ii 0),(8,Ii 10)] [(0,Vb 89 (jK zL2))] (ar 89 (ar true (ar (Ii 0) (ar (Ii 0) (ar (.str ([]:List Int):AV) (ar (Ii 0) (ar (Ii 0) (ar ([]:List AV) an)))))))) ?_);cases h;exact rt rx
 intro g_11 h;refine sk (s2 [] [9,11] [(7,Ii wZ.2.2.1),(8,Ii 0)] [1,2] [(0,Vb 89 [Ii zP.1,Ii zJ.1,.str b8,Ii y5.2.2.2,Ii xX.2.2.2,.own 3 ((yL.1).length)])] 4 (wz [0] [3] [] [0] [(6,Pp 0),(7,Ii wZ.2.2.1),(8,Ii 0)] [(0,Vb 89 (jK (⟨zP.1,zJ.1,b8,y5.2.2.2,xX.2.2.2,yL.1⟩:xA)))] (ar 89 (ar true (ac (by first | (simp;done) | (simp;omega):(yL.1).length=((List.map AV.str yL.1)).length) (ar (Ii zP.1) (ar (Ii zJ.1) (ar (.str b8:AV) (ar (Ii y5.2.2.2) (ar (Ii xX.2.2.2) (ar 1 (ar (Ms yL.1) (ar true an))))))))))) ?_));cases h;exact rt rx
theorem zCl (F:Nat) (zO:List (xA)) (r:Int) (h:DM F zO=some r):y6 prog 51 [] [] [Sq 6 wF zO] [] (Ii r):=by
 refine tI Try.f51 ?_;unfold DM at h;refine sE [] [(0,Sq 6 wF zO)] [] 0 (sq (s0 [iN 1 wF zO] [(6,Sq 6 wF zO),(7,Ii (lN (zO))),(8,Ii 0)] (bE h fun zC zM h=>?_)));refine uD (K1:=kS prog zC 0 (fun q0=>mk [] [] 0) Try.f51 (fun q1=>[]) fun q1=>Ii q1) ?_ ?_
 ·replace h:=zM;refine yZ (id:=0) zk ?_;refine w0 [] [] [(0,Sq 6 wF zO),(6,Sq 6 wF zO),(7,Ii (lN (zO))),(8,Ii 0)] [] ?_;refine wP (fun n st=>∃ (zG:Int),st=mk [(0,Sq 6 wF zO),(6,Sq 6 wF zO),(7,Ii (lN (zO))),(8,Ii zG)] [] 0∧rB F zO n zG=some zC) F zk ⟨_,rfl,h⟩ ?_ ?_
  ·rintro _ ⟨_,_,h⟩;exact wQ (h:(none:Option (Unit⊕Int))=some zC)
  rintro yF _ ⟨zG,rfl,h⟩;replace h:DB F zO (rB F zO yF) zG=some zC:=h;unfold DB at h;refine s0 [] [(9,.bool (decide (zG<(lN (zO)))))] (sq (ch 9 h ?_ ?_))
  rotate_left
  ·intro yN h;refine wN (id:=0) zk ?_;cases h;exact ⟨rfl,(sI 0 [])⟩
  intro yN h;refine sk (sq ?_);refine yZ (id:=1) zk ?_;refine sq (bE h fun zH zV h=>r2 [iH 3 { id:=0 },iF 1 wF zV] [] [(3,Ii zG),(4,Pp 0)] [] [(0,Vb 89 (jK zH))] 1 (sq (sq (bE h fun zA y9 h=>r0 [iK 1 {} (L1 F zH zA y9)] [(5,Ii zA)] (c0 [] 16 h [] ?_ ?_)))))
  ·intro xH h;refine s2 [] [0,6,4] [(2,Ii zA)] [0] [] 1 ?_;cases h;exact rt ry
  intro xH h;refine sk (sq (bE h fun zK wG h=>?_));refine x7 (mk [(0,Sq 6 wF zO),(6,Sq 6 wF zO),(7,Ii (lN (zO))),(8,Ii zG),(30,.bool zK)] [] 0) ?_ ?_
  ·replace h:=wG;rcases bft (decide (zG>(0:Int))) with yM | yM
   ·replace h:=xP yM h;refine bE h fun yA xS h=>r1 [iH 12 Ht,iR 6 yM,iF 8 wF xS,iR 4 yM] [4] [(21,Pp 0),(22,Ii zH.At),(23,Sq 6 wF zO),(24,Ii zG),(25,Ii (zI (zG - (1:Int)))),(26,.ref (wF yA)),(27,.ref (Ii yA.At)),(28,Ii yA.At),(29,.bool (decide (zH.At<yA.At))),(30,.bool (decide (zH.At<yA.At)))] ?_;cases h;exact ⟨rfl,(sI 0 [0,6,7,8,30])⟩
   ·replace h:=xQ yM h;refine r2 [iG 3 9,iH 12 Hf,iR 10 yM] [4] [(21,.tuple []),(22,.tuple []),(23,.tuple []),(24,.tuple []),(25,.tuple []),(26,.tuple []),(27,.tuple []),(28,.tuple []),(29,.tuple []),(30,.bool false)] [0] [] 1 ?_;cases h;exact ⟨rfl,(sI 0 [0,6,7,8,30])⟩
  refine ch 30 h ?_ ?_
  rotate_left
  ·intro xV h;refine sk (r0 [] [(8,Ii (zI (zG+(1:Int))))] ?_);exact ⟨_,(sI 0 [0,6,7,8]),_,rfl,h⟩
  intro xV h;refine s1 [] [0,6] [(2,Ii 11)] ?_;cases h;exact rt ry
 intro e st1 hk;rcases zC with yD | xW
 rotate_left
 ·obtain ⟨rfl,hf⟩:=hk;cases h;exact ⟨st1,Sub.refl _ _,.inr rfl,hf⟩
 obtain ⟨rfl,hs⟩:=hk;refine ⟨_,hs,?_⟩;refine s0 [] [(2,Ii 0)] ?_;cases h;exact rt rx
theorem MP (F:Nat) (zK:zQ) (r:Int) (h:fD F zK=some r):y6 prog 27 [] [] [z0 zK] [] (Ii r):=by
 refine tI Try.f27 ?_;unfold fD at h;refine sE [iH 0 { id:=0 }] [(1,Pp 0)] [(0,Vb 54 (wH zK))] 1 (sq (s2 [iH 6 { id:=1 }] [] [(11,.own 1 3),(12,Ii ((3:Nat):Int)),(13,Ii 0)] [] [(1,Rb 3 1 (Mi ([zK.Thread,zK.Serial,zK.Lost]:List Int)))] 2 (bE h fun zC zM h=>?_)));refine uD (K1:=kS prog zC 0 (fun q0=>mk [(1,Pp 0)] [(0,Vb 54 (wH zK))] 1) Try.f27 (fun q1=>[]) fun q1=>Ii q1) ?_ ?_
 ·replace h:=zM;refine yZ (id:=0) zk ?_;refine wz [0,1] [] [11] [] [(1,Pp 0),(11,.own 1 ((([zK.Thread,zK.Serial,zK.Lost]:List Int)).length)),(12,Ii ((3:Nat):Int)),(13,Ii 0)] [(0,Vb 54 (wH zK)),(1,Rb 3 1 (Mi ([zK.Thread,zK.Serial,zK.Lost]:List Int)))] (ac (congrArg (AV.own _) (by first | (simp;done) | (simp;omega)):(.own 1 3:AV)=.own 1 ((([zK.Thread,zK.Serial,zK.Lost]:List Int)).length)) an) ?_;refine wP (fun n st=>∃ (zG:Int),st=mk [(1,Pp 0),(11,.own 1 ((([zK.Thread,zK.Serial,zK.Lost]:List Int)).length)),(12,Ii ((3:Nat):Int)),(13,Ii zG)] [(0,Vb 54 (wH zK)),(1,Rb 3 1 (Mi ([zK.Thread,zK.Serial,zK.Lost]:List Int)))] 2∧BU F zK n zG=some zC) F zk ⟨_,rfl,h⟩ ?_ ?_
  ·rintro _ ⟨_,_,h⟩;exact wQ (h:(none:Option (Unit⊕Int))=some zC)
  rintro yF _ ⟨zG,rfl,h⟩;replace h:cQ F zK (BU F zK yF) zG=some zC:=h;unfold cQ at h;refine s0 [] [(14,.bool (decide (zG<((3:Nat):Int))))] (sq (ch 14 h ?_ ?_))
  rotate_left
  ·intro yN h;refine wN (id:=0) zk ?_;cases h;exact ⟨rfl,(sI 1 [1])⟩
  intro yN h;refine sk (sq ?_);refine yZ (id:=1) zk ?_;refine sq (bE h fun zH zV h=>r0 [iH 1 { av:=Ii zH },iC (qB zV:(0:Int)≤zG),iC (by first | (simp;done) | simpa using qG zV:zG<(((([zK.Thread,zK.Serial,zK.Lost]:List Int)).length:Nat):Int)),iC (qA zV:(Mi ([zK.Thread,zK.Serial,zK.Lost]:List Int))[(zG).toNat]?=some (Ii zH))] [(4,Ii zH)] (ad 22 h ?_ ?_ ?_))
  ·rcases bft (decide (zH<(0:Int))) with yM | yM
   ·exact rm [iG 3 2,iH 5 Ht,iR 3 yM] (ort yM)
   ·exact rm [iH 5 Hf,iR 3 yM] (orf yM rfl)
  rotate_left
  ·intro xH h;refine sk (r0 [] [(13,Ii (zI (zG+(1:Int))))] ?_);exact ⟨_,(sI 2 [1,11,12,13]),_,rfl,h⟩
  intro xH h;refine s2 [] [1,11] [(2,Ii 2)] [0,1] [] 2 ?_;cases h;exact rt ry
 intro e st1 hk;rcases zC with yD | xW
 rotate_left
 ·obtain ⟨rfl,hf⟩:=hk;cases h;exact ⟨st1,Sub.refl _ _,.inr rfl,hf⟩
 obtain ⟨rfl,hs⟩:=hk;refine ⟨_,hs,?_⟩;refine sq ?_;refine yZ (id:=2) zk ?_;refine sq (s0 [] [(24,.bool (decide (zK.Lost>zK.Serial)))] (bE h fun zR y9 h=>?_));refine x7 (mk [(1,Pp 0),(24,.bool zR)] [(0,Vb 54 (wH zK))] 1) ?_ ?_
 ·replace h:=y9;refine ch 24 h ?_ ?_
  ·intro xV h;refine sk ?_;cases h;exact ⟨rfl,(sI 1 [1,24])⟩
  intro xV h;refine r0 [iN 4 wF zK.Events] [(24,.bool (decide ((zI (zK.Serial+(lN (zK.Events))))>(1000000000000000:Int))))] ?_;cases h;exact ⟨rfl,(sI 1 [1,24])⟩
 refine ch 24 h ?_ ?_
 ·intro vY h;refine s2 [] [1] [(2,Ii 2)] [0] [] 1 ?_;cases h;exact rt rx
 intro vY h;refine c0 [iN 2 wF zK.Events] 37 h [] ?_ ?_
 ·intro uX h;refine s2 [] [1] [(2,Ii 8)] [0] [] 1 ?_;cases h;exact rt rx
 intro uX h;refine c0 [iN 2 wF zK.Events] 42 h [] ?_ ?_
 ·intro tQ h;refine s2 [] [1] [(2,Ii 7)] [0] [] 1 ?_;cases h;exact rt rx
 intro tQ h;refine sk (sq (bE h fun zA xS h=>r2 [iK 2 {} (zCl F zK.Events zA xS)] [1] [(2,Ii zA)] [0] [] 1 ?_));cases h;exact rt rx
theorem ZM (F:Nat) (zF:List (List Int)) (zY:List Int) (r:Int) (h:CJ F zF zY=some r):y6 prog 92 [] [] [Ss zF,.str zY] [] (Ii r):=by
 refine tI Try.f92 ?_;unfold CJ at h;refine sE [] [(0,Ss zF),(1,.str zY)] [] 0 (sq (s0 [iN 1 AV.str zF] [(7,Ii (lN (zF))),(8,Ii 0)] (bE h fun zC zM h=>?_)));refine uD (K1:=kS prog zC 0 (fun q0=>mk [] [] 0) Try.f92 (fun q1=>[]) fun q1=>Ii q1) ?_ ?_
 ·replace h:=zM;refine yZ (id:=0) zk ?_;refine w0 [] [] [(0,Ss zF),(1,.str zY),(7,Ii (lN (zF))),(8,Ii 0)] [] ?_;refine wP (fun n st=>∃ (zG:Int),st=mk [(0,Ss zF),(1,.str zY),(7,Ii (lN (zF))),(8,Ii zG)] [] 0∧AE F zF zY n zG=some zC) F zk ⟨_,rfl,h⟩ ?_ ?_
  ·rintro _ ⟨_,_,h⟩;exact wQ (h:(none:Option (Unit⊕Int))=some zC)
  rintro yF _ ⟨zG,rfl,h⟩;replace h:i6 F zF zY (AE F zF zY yF) zG=some zC:=h;unfold i6 at h;refine s0 [] [(9,.bool (decide (zG<(lN (zF)))))] (sq (ch 9 h ?_ ?_))
  rotate_left
  ·intro yN h;refine wN (id:=0) zk ?_;cases h;exact ⟨rfl,(sI 0 [])⟩
  intro yN h;refine sk (sq ?_);refine yZ (id:=1) zk ?_;refine s0 [] [(5,Ii zG)] (sq (bE h fun zH zV h=>r0 [iF 3 AV.str zV] [(16,.bool (zY==zH))] (ch 16 h ?_ ?_)))
  rotate_left
  ·intro xH h;refine sk (r0 [] [(8,Ii (zI (zG+(1:Int))))] ?_);exact ⟨_,(sI 0 [0,1,7,8]),_,rfl,h⟩
  intro xH h;refine s1 [] [0] [(4,Ii zG)] ?_;cases h;exact rt ry
 intro e st1 hk;rcases zC with yD | xW
 rotate_left
 ·obtain ⟨rfl,hf⟩:=hk;cases h;exact ⟨st1,Sub.refl _ _,.inr rfl,hf⟩
 obtain ⟨rfl,hs⟩:=hk;refine ⟨_,hs,?_⟩;refine s0 [] [(4,Ii (-1))] ?_;cases h;exact rt rx
theorem zAI (zF:List (List Int)) (r:(List (List Int))) (h:EX zF=some r):y6 prog 93 [] [] [Ss zF] [.row 9 1 (Ms r)] (.own 0 ((r).length)):=by
 refine tI Try.f93 ?_;unfold EX at h;refine sE [iH 0 { id:=0,m:=1 }] [(0,Ss zF)] [] 1 (sq (s0 [] [(4,.nb (Ms zF))] ?_));refine DV (t:=4) (l:=(Ms zF)) zk zk ?_ ?_
 ·intro zV;replace zV:=List.map_eq_nil_iff.1 zV;replace h:=Eq.trans (show (some [])=((need (((([]:List (List Int))).length+(zF).length) * 16≤140737488355328)).bind fun _ =>
 some ([]++zF)) from by simp [zV,need]) h
  refine sE [iH 0 { id:=1,m:=1 }] [(2,.own 1 0)] [(1,Rb 9 1 [])] 2 (wz [1] [] [2] [] [(2,.own 0 ((([]:List (List Int))).length))] [(0,Rb 9 1 [])] (ac (congrArg (AV.own _) (by first | (simp;done) | (simp;omega)):(.own 1 0:AV)=.own 1 ((([]:List (List Int))).length)) an) ?_);cases h;exact rt rx
 refine sk (sq (nE h fun zM h=>rE [iH 0 { id:=1 },iH 2 { id:=2,l:=(Ms ([]++zF)),n:=(([]++zF)).length },iA 0,iC trivial,iC (by simp:(List.map AV.str ([]++zF))=[]++(List.map AV.str zF)),iC (by simp:(([]++zF)).length=((List.map AV.str ([]++zF))).length),iC (by first | (simp;done) | simpa using zM:(([]:List AV).length+((List.map AV.str zF):List AV).length) * 16≤140737488355328)] [(2,.own 2 ((([]++zF)).length))] [(2,Rb 9 1 (Ms ([]++zF)))] 3 (w0 [2] [] [(2,.own 0 ((([]++zF)).length))] [(0,Rb 9 1 (Ms ([]++zF)))] ?_)));cases h;exact rt rx
theorem TF (F:Nat) (yE:List (List Int)) (zF:List Int) (r:Int×(List (List Int))×Int) (h:mN F yE zF=some r):y6 prog 80 [] [] [Ss yE,.str zF] [] (.tuple [Ii r.1,Ss r.2.1,Ii r.2.2]):=by
 refine tI Try.f80 ?_;unfold mN at h;refine sE [] [(0,Ss yE),(1,.str zF)] [] 0 (sq (sq (bE h fun zA zM h=>r0 [iK 1 {} (D7 F zF zA zM)] [(7,Ii zA)] (c0 [] 12 h [] ?_ ?_))))
 ·intro yN h;refine s1 [] [0] [(4,Ii 0),(5,Ss yE),(6,Ii zA)] ?_;cases h;exact rt rx
 intro yN h;refine sk (sq (sq (bE h fun zJ zV h=>r0 [iK 2 {} (ZM F yE zF zJ zV)] [(8,Ii zJ)] (c0 [] 19 h [] ?_ ?_))))
 ·intro xH h;refine s1 [] [0] [(4,Ii zJ),(5,Ss yE),(6,Ii 0)] ?_;cases h;exact rt rx
 intro xH h;refine sk (sq (c0 [iN 1 AV.str yE] 24 h [] ?_ ?_))
 ·intro xV h;refine s1 [] [0] [(4,Ii 0),(5,Ss yE),(6,Ii 6)] ?_;cases h;exact rt rx
 intro xV h;refine sk (sq (bE h fun zP y9 h=>nE h fun xS h=>r2 [iH 5 { id:=1 },iN 1 AV.str yE,iK 3 { ids:=[0] } (zAI yE zP y9),iM AV.str zP,iA 1,iP 6 2 AV.str zP ([zF]:List (List Int)) 16 xS] [0] [(4,Ii (lN (yE))),(5,.own 2 (((zP++([zF]:List (List Int)))).length)),(6,Ii 0)] [] [(2,Rb 9 1 (Ms (zP++([zF]:List (List Int)))))] 3 (wz [] [2] [5] [] [(4,Ii (lN (yE))),(5,Ss (zP++([zF]:List (List Int)))),(6,Ii 0)] [] (ac (by first | (simp;done) | (simp;omega):((zP++([zF]:List (List Int)))).length=((List.map AV.str (zP++([zF]:List (List Int))))).length) (ar 1 (ar ((Ms (zP++([zF]:List (List Int)))):List AV) (ar true an)))) ?_)));cases h;exact rt rx
theorem zBk (zF:List (zT)) (r:(List (zT))) (h:E3 zF=some r):y6 prog 95 [] [] [Sq 2 yW zF] [.row 121 2 (Mp yW r)] (.own 0 ((r).length)):=by
 refine tI Try.f95 ?_;unfold E3 at h;refine sE [iH 0 { id:=0,m:=1 }] [(0,Sq 2 yW zF)] [] 1 (sq (s0 [] [(4,.nb (Mp yW zF))] ?_));refine DV (t:=4) (l:=(Mp yW zF)) zk zk ?_ ?_
 ·intro zV;replace zV:=List.map_eq_nil_iff.1 zV;replace h:=Eq.trans (show (some [])=((need (((([]:List zT)).length+(zF).length) * 16≤140737488355328)).bind fun _ =>
 some ([]++zF)) from by simp [zV,need]) h
  refine sE [iH 0 { id:=1,m:=1 }] [(2,.own 1 0)] [(1,Rb 121 2 [])] 2 (wz [1] [] [2] [] [(2,.own 0 ((([]:List zT)).length))] [(0,Rb 121 2 [])] (ac (congrArg (AV.own _) (by first | (simp;done) | (simp;omega)):(.own 1 0:AV)=.own 1 ((([]:List zT)).length)) an) ?_);cases h;exact rt rx
 refine sk (sq (nE h fun zM h=>rE [iH 0 { id:=1 },iH 2 { id:=2,l:=(Mp yW ([]++zF)),n:=(([]++zF)).length },iA 0,iC trivial,iC (by simp:(List.map yW ([]++zF))=[]++(List.map yW zF)),iC (by simp:(([]++zF)).length=((List.map yW ([]++zF))).length),iC (by first | (simp;done) | simpa using zM:(([]:List AV).length+((List.map yW zF):List AV).length) * 16≤140737488355328)] [(2,.own 2 ((([]++zF)).length))] [(2,Rb 121 2 (Mp yW ([]++zF)))] 3 (w0 [2] [] [(2,.own 0 ((([]++zF)).length))] [(0,Rb 121 2 (Mp yW ([]++zF)))] ?_)));cases h;exact rt rx
theorem zBw (F:Nat) (zF:List (zT)) (zY:zT) (r:Int) (h:B5 F zF zY=some r):y6 prog 96 [] [] [Sq 2 yW zF,.agg [Ii zY.c0,Ii zY.c1]] [] (Ii r):=by
 refine tI Try.f96 ?_;unfold B5 at h;refine sE [iH 0 { id:=0 }] [(0,Sq 2 yW zF),(3,Pp 0)] [(0,Vb 121 [Ii zY.c0,Ii zY.c1])] 1 (sq (s0 [iN 1 yW zF] [(7,Ii (lN (zF))),(8,Ii 0)] (bE h fun zC zM h=>?_)));refine uD (K1:=kS prog zC 0 (fun q0=>mk [] [] 0) Try.f96 (fun q1=>[]) fun q1=>Ii q1) ?_ ?_
 ·replace h:=zM;refine yZ (id:=0) zk ?_;refine w0 [0] [] [(0,Sq 2 yW zF),(3,Pp 0),(7,Ii (lN (zF))),(8,Ii 0)] [(0,Vb 121 [Ii zY.c0,Ii zY.c1])] ?_;refine wP (fun n st=>∃ (zG:Int),st=mk [(0,Sq 2 yW zF),(3,Pp 0),(7,Ii (lN (zF))),(8,Ii zG)] [(0,Vb 121 [Ii zY.c0,Ii zY.c1])] 1∧AL F zF zY n zG=some zC) F zk ⟨_,rfl,h⟩ ?_ ?_
  ·rintro _ ⟨_,_,h⟩;exact wQ (h:(none:Option (Unit⊕Int))=some zC)
  rintro yF _ ⟨zG,rfl,h⟩;replace h:gI F zF zY (AL F zF zY yF) zG=some zC:=h;unfold gI at h;refine s0 [] [(9,.bool (decide (zG<(lN (zF)))))] (sq (ch 9 h ?_ ?_))
  rotate_left
  ·intro yN h;refine wN (id:=0) zk ?_;cases h;exact ⟨rfl,(sI 0 [])⟩
  intro yN h;refine sk (sq ?_);refine yZ (id:=1) zk ?_;refine s0 [] [(5,Ii zG)] (sq (bE h fun zH zV h=>r0 [iH 5 { b:=(decide (zY=zH)),mks:=[.int .i64,.int .i64] },iF 3 yW zV,iC (WQ:pM prog 121 [.int .i64,.int .i64]),iC (DY (f:=yW) L2 zY zH:((decide (zY=zH))=true↔AV.agg [Ii zY.c0,Ii zY.c1]=AV.agg [Ii zH.c0,Ii zH.c1]))] [(16,.bool (decide (zY=zH)))] (ch 16 h ?_ ?_)))
  rotate_left
  ·intro xH h;refine sk (r0 [] [(8,Ii (zI (zG+(1:Int))))] ?_);exact ⟨_,(sI 1 [0,3,7,8]),_,rfl,h⟩
  intro xH h;refine s2 [] [0,3] [(4,Ii zG)] [0] [] 1 ?_;cases h;exact rt ry
 intro e st1 hk;rcases zC with yD | xW
 rotate_left
 ·obtain ⟨rfl,hf⟩:=hk;cases h;exact ⟨st1,Sub.refl _ _,.inr rfl,hf⟩
 obtain ⟨rfl,hs⟩:=hk;refine ⟨_,hs,?_⟩;refine s0 [] [(4,Ii (-1))] ?_;cases h;exact rt rx
theorem zCk (F:Nat) (yE:List (List Int)) (yI:List (zT)) (zO:List (List Int)) (r:Int×(List (List Int))×(List (zT))×Int) (h:oE F yE yI zO=some r):y6 prog 81 [] [] [Ss yE,Sq 2 yW yI,Ss zO] [] (.tuple [Ii r.1,Ss r.2.1,Sq 2 yW r.2.2.1,Ii r.2.2.2]):=by
 refine tI Try.f81 ?_;unfold oE at h;refine sE [] [(0,Ss yE),(1,Sq 2 yW yI),(2,Ss zO)] [] 0 (sq (sq (bE h fun zA zM h=>r0 [iK 1 {} (U2 F zO zA zM)] [(10,Ii zA)] (c0 [] 23 h [] ?_ ?_))))
 ·intro yN h;refine s1 [] [0,1,2] [(6,Ii 0),(7,Ss yE),(8,Sq 2 yW yI),(9,Ii zA)] ?_;cases h;exact rt rx
 intro yN h;refine sk (sq (bE h fun zJ zV h=>r2 [iK 2 { ids:=[0] } (zBk yI zJ zV)] [] [(11,Ii (-1)),(12,Ss yE),(13,.own 0 ((zJ).length))] [] [(0,Rb 121 2 (Mp yW zJ))] 1 (sq (s1 [iN 1 AV.str zO] [2] [(30,Ss zO),(31,Ii (lN (zO))),(32,Ii 0)] (bE h fun zC y9 h=>?_)))));refine uD (K1:=kS prog zC 0 (fun q0=>mk [(11,Ii q0.1),(12,Ss q0.2.1),(13,.own 0 ((q0.2.2).length))] [(0,Rb 121 2 (Mp yW q0.2.2))] 1) Try.f81 (fun q1=>[]) fun q1=>.tuple [Ii q1.1,Ss q1.2.1,Sq 2 yW q1.2.2.1,Ii q1.2.2.2]) ?_ ?_
 ·replace h:=y9;refine yZ (id:=0) zk ?_;refine w0 [0] [] [(0,Ss yE),(1,Sq 2 yW yI),(11,Ii (-1)),(12,Ss yE),(13,.own 0 ((zJ).length)),(30,Ss zO),(31,Ii (lN (zO))),(32,Ii 0)] [(0,Rb 121 2 (Mp yW zJ))] ?_;refine wP (fun n st=>∃ (wT:Int),∃ (yF:List (List Int)),∃ (zG:Int),∃ (zL:List zT),st=mk [(0,Ss yE),(1,Sq 2 yW yI),(11,Ii wT),(12,Ss yF),(13,.own 0 ((zL).length)),(30,Ss zO),(31,Ii (lN (zO))),(32,Ii zG)] [(0,Rb 121 2 (Mp yW zL))] 1∧rP F yE yI zO n wT yF zG zL=some zC) F zk ⟨_,_,_,_,rfl,h⟩ ?_ ?_
  ·rintro _ ⟨_,_,_,_,_,h⟩;exact wQ (h:(none:Option ((Int×(List (List Int))×(List zT))⊕(Int×(List (List Int))×(List (zT))×Int)))=some zC)
  rintro qK _ ⟨wT,yF,zG,zL,rfl,h⟩;replace h:BZ F yE yI zO (rP F yE yI zO qK) wT yF zG zL=some zC:=h;unfold BZ at h;refine s0 [] [(33,.bool (decide (zG<(lN (zO)))))] (sq (ch 33 h ?_ ?_))
  rotate_left
  ·intro xH h;refine wN (id:=0) zk ?_;cases h;exact ⟨rfl,(sI 1 [11,12,13])⟩
  intro xH h;refine sk (sq ?_);refine yZ (id:=1) zk ?_;refine sq (bE h fun zH xS h=>r0 [iF 0 AV.str xS] [(15,.str zH)] (sq (bE h fun zP wG h=>r1 [iK 2 {} (TF F yF zH zP wG)] [12] [(16,Ii zP.1),(17,Ss zP.2.1),(18,Ii zP.2.2)] (sq (c0 [] 44 h [] ?_ ?_)))))
  ·intro xV h;refine s2 [] [0,1,13,30,17] [(6,Ii 0),(7,Ss yE),(8,Sq 2 yW yI),(9,Ii zP.2.2)] [0] [] 1 ?_;cases h;exact rt ry
  intro xV h;refine sk (s1 [] [17] [(12,Ss zP.2.1)] (s2 [iH 3 { id:=1 }] [] [(19,Pp 1)] [] [(1,Vb 121 [Ii wT,Ii zP.1])] 2 (sq (sq (bE h fun z5 vA h=>r0 [iM yW zL,iL 2 { lend:=[0] } [Sq 2 yW zL,.agg [Ii wT,Ii zP.1]] (zBw F zL (⟨wT,zP.1⟩:zT) z5 vA) ⟨rfl,rfl,rfl,rfl,rfl,trivial⟩] [(11,Ii z5)] (c0 [] 56 h [] ?_ ?_))))))
  ·intro vY h;refine wN (id:=1) zk ?_;refine rE [] [(0,Ss yE),(1,Sq 2 yW yI),(11,Ii z5),(12,Ss zP.2.1),(13,.own 0 ((zL).length)),(30,Ss zO),(31,Ii (lN (zO))),(32,Ii (zI (zG+(1:Int))))] [(0,Rb 121 2 (Mp yW zL))] 2 ?_;exact ⟨_,(sI 1 [0,1,11,12,13,30,31,32]),_,_,_,_,rfl,h⟩
  intro vY h;refine sk (sq (c0 [] 59 h [] ?_ ?_))
  ·intro uX h;refine s2 [] [0,1,13,30,12,19] [(6,Ii 0),(7,Ss yE),(8,Sq 2 yW yI),(9,Ii 6)] [0,1] [] 2 ?_;cases h;exact rt ry
  intro uX h;refine sk (s0 [] [(11,Ii (lN (zL)))] (nE h fun vT h=>r2 [iH 2 { id:=2 },iM yW zL,iC (by first | (simp;done) | (simp;omega):1=((List.map yW ([(⟨wT,zP.1⟩:zT)]:List zT))).length),iP 3 3 yW zL ([(⟨wT,zP.1⟩:zT)]:List zT) 16 vT] [19] [(13,.own 3 (((zL++([(⟨wT,zP.1⟩:zT)]:List zT))).length))] [0,1] [(3,Rb 121 2 (Mp yW (zL++([(⟨wT,zP.1⟩:zT)]:List zT))))] 4 (r0 [] [(32,Ii (zI (zG+(1:Int))))] ?_)));exact ⟨_,(sJ [3] [0,1,11,12,13,30,31,32]),_,_,_,_,rfl,h⟩
 intro e st1 hk;rcases zC with yD | xW
 rotate_left
 ·obtain ⟨rfl,hf⟩:=hk;cases h;exact ⟨st1,Sub.refl _ _,.inr rfl,hf⟩
 obtain ⟨rfl,hs⟩:=hk;refine ⟨_,hs,?_⟩;refine s1 [] [12,13] [(6,Ii yD.1),(7,Ss yD.2.1),(8,.own 0 ((yD.2.2).length)),(9,Ii 0)] (wz [] [0] [8] [] [(6,Ii yD.1),(7,Ss yD.2.1),(8,Sq 2 yW yD.2.2),(9,Ii 0)] [] (ac (by first | (simp;done) | (simp;omega):(yD.2.2).length=((List.map yW yD.2.2)).length) (ar 2 (ar ((Mp yW yD.2.2):List AV) (ar true an)))) ?_);cases h;exact rt rx
end Go.Ab
