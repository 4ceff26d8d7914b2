/- Printed: the typed Lean functions of the Go functions, or the proofs that the Go functions meet them. No conditions but those that the theorems name. -/
import Derived.Test.YtoeengmnmhhpgaaGreatP15zx1
namespace Go.Ab
open Go Go.Proofs
set_option linter.unusedVariables false
theorem zC5 (F:Nat) (zF:List Int) (r:yB×Bool) (h:KN F zF=some r):yS prog 70 [] [] [Sb zF] [] (.tuple [qO r.1,.bool r.2]):=by
 refine tI Tryz.f70 ?_;unfold KN at h;refine sE [iH 0 { id:=0 }] [(0,Sb zF),(2,Pp 0)] [(0,nT)] 1 ?_;refine qB (jH 0 0 1 85 3 zk) ?_;refine qB (jH 0 1 2 87 2 zk) ?_;refine qB (jH 0 2 3 76 5 zk) ?_;refine w0 [0,1,2,3] [] [(0,Sb zF),(2,Pp 0)] [(0,jG),(1,Rb 85 3 []),(2,Rb 87 2 []),(3,Rb 76 5 [])] (s2 [iH 2 { id:=4 }] [] [(4,Pp 4)] [] [(4,Vb 157 [Sb zF,.bool false])] 5 (s2 [iH 0 { id:=5 }] [] [(5,Pp 5)] [] [(5,nT)] 6 ?_));refine qB (jH 5 0 6 85 3 zk) ?_;refine qB (jH 5 1 7 87 2 zk) ?_;refine qB (jH 5 2 8 76 5 zk) ?_;refine w0 [0,1,2,3,4,5,6,7,8] [] [(0,Sb zF),(2,Pp 0),(4,Pp 4),(5,Pp 5)] [(0,jG),(1,Rb 85 3 []),(2,Rb 87 2 []),(3,Rb 76 5 []),(4,Vb 157 [Sb zF,.bool false]),(5,Vb 28 [.own 6 0,.own 7 0,.own 8 0]),(6,Rb 85 3 []),(7,Rb 87 2 []),(8,Rb 76 5 [])] (sq (sq (bE h fun zA zJ h=>r2 [iJ 1 { ids:=[4] } [Pp 4,Ii 64] (UL F (⟨zF,false⟩:uD) 64 zA zJ)] [] [(13,Ii zA.1),(14,Ii 0)] [] [(4,Vb 157 (qK zA.2))] 9 (bE h fun zE zW h=>?_))));refine xP (mk [(0,Sb zF),(2,Pp 0),(4,Pp 4),(5,Pp 5)] [(0,jG),(1,Rb 85 3 []),(2,Rb 87 2 []),(3,Rb 76 5 []),(4,Vb 157 [Sb zE.1,.bool zE.2.1]),(5,Vb 28 [.own 6 zE.2.2.length,.own 7 0,.own 8 0]),(6,Rb 85 3 (Mp yJ zE.2.2)),(7,Rb 87 2 []),(8,Rb 76 5 [])] 9) ?_ ?_
 ·replace h:=zW;refine yQ (id:=0) zk ?_;refine w0 [0,1,2,3,4,5,6,7,8] [] [(0,Sb zF),(2,Pp 0),(4,Pp 4),(5,Pp 5),(13,Ii zA.1),(14,Ii 0)] [(0,jG),(1,Rb 85 3 []),(2,Rb 87 2 []),(3,Rb 76 5 []),(4,Vb 157 (qK zA.2)),(5,Vb 28 [.own 6 0,.own 7 0,.own 8 0]),(6,Rb 85 3 []),(7,Rb 87 2 []),(8,Rb 76 5 [])] ?_;refine wD (fun n st=>∃ (zP:Int),∃ (zB:List Int),∃ (y5:Bool),∃ (zK:List xI),st=mk [(0,Sb zF),(2,Pp 0),(4,Pp 4),(5,Pp 5),(13,Ii zA.1),(14,Ii zP)] [(0,jG),(1,Rb 85 3 []),(2,Rb 87 2 []),(3,Rb 76 5 []),(4,Vb 157 [Sb zB,.bool y5]),(5,Vb 28 [.own 6 zK.length,.own 7 0,.own 8 0]),(6,Rb 85 3 (Mp yJ zK)),(7,Rb 87 2 []),(8,Rb 76 5 [])] 9/\B0 F zA n zP zB y5 zK=some zE) F zk ⟨_,_,_,_,rfl,h⟩ ?_ ?_
  ·rintro _ ⟨_,_,_,_,_,h⟩;exact wC (h:(none:Option ((List Int)×Bool×(List xI)))=some zE)
  rintro z5 _ ⟨zP,zB,y5,zK,rfl,h⟩;replace h:lG F zA (B0 F zA z5) zP zB y5 zK=some zE:=h;unfold lG at h;refine s0 [] [(15,.bool (decide (zP<zA.1)))] (sq (ch 15 h ?_ ?_))
  rotate_left
  ·intro z8 h;refine wB (id:=0) zk ?_;cases h;exact ⟨rfl,(sI 9 [0,2,4,5])⟩
  intro z8 h;refine sk (sq ?_);refine yQ (id:=1) zk ?_;refine sq (bE h fun zC yU h=>bE h fun zM xB h=>r2 [iJ 1 { ids:=[4] } [Pp 4] (cQ F (⟨zB,y5⟩:uD) zC yU),iJ 3 { ids:=[4] } [Pp 4] (zD6 F zC.2 zM xB)] [] [(6,Ii zC.1),(7,.str zM.1)] [] [(4,Vb 157 (qK zM.2))] 9 (bE h fun zT xR h=>nE h fun wA h=>r2 [iH 7 { id:=9 },iJ 5 { ids:=[4] } [Pp 4] (cQ F zM.2 zT xR),iM yJ zK,iC (by first | (simp;done) | (simp;omega):1=((List.map yJ [(⟨zC.1,zM.1,zT.1⟩:xI)])).length),iP 8 10 yJ zK [(⟨zC.1,zM.1,zT.1⟩:xI)] 32 wA] [] [] [6] [(4,Vb 157 (qK zT.2)),(5,Vb 28 [.own 10 (((zK++[(⟨zC.1,zM.1,zT.1⟩:xI)])).length),.own 7 0,.own 8 0]),(10,Rb 85 3 (Mp yJ (zK++[(⟨zC.1,zM.1,zT.1⟩:xI)])))] 11 (r0 [] [(14,Ii (zI (zP+1)))] ?_)));exact ⟨_,(sJ [0,1,2,3,4,5,10,7,8] [0,2,4,5,13,14]),_,_,_,_,rfl,h⟩
 refine sq (sq (bE h fun zU wS h=>r2 [iJ 1 { ids:=[4] } [Pp 4,Ii 8] (UL F (⟨zE.1,zE.2.1⟩:uD) 8 zU wS)] [] [(32,Ii zU.1),(33,Ii 0)] [] [(4,Vb 157 (qK zU.2))] 9 (bE h fun zR vB h=>?_)));refine xP (mk [(0,Sb zF),(2,Pp 0),(4,Pp 4),(5,Pp 5)] [(0,jG),(1,Rb 85 3 []),(2,Rb 87 2 []),(3,Rb 76 5 []),(4,Vb 157 [Sb zR.1,.bool zR.2.1]),(5,Vb 28 [.own 6 zE.2.2.length,.own 7 zR.2.2.length,.own 8 0]),(6,Rb 85 3 (Mp yJ zE.2.2)),(7,Rb 87 2 (Mp yA zR.2.2)),(8,Rb 76 5 [])] 9) ?_ ?_
 ·replace h:=vB;refine yQ (id:=2) zk ?_;refine w0 [0,1,2,3,4,5,6,7,8] [] [(0,Sb zF),(2,Pp 0),(4,Pp 4),(5,Pp 5),(32,Ii zU.1),(33,Ii 0)] [(0,jG),(1,Rb 85 3 []),(2,Rb 87 2 []),(3,Rb 76 5 []),(4,Vb 157 (qK zU.2)),(5,Vb 28 [.own 6 zE.2.2.length,.own 7 0,.own 8 0]),(6,Rb 85 3 (Mp yJ zE.2.2)),(7,Rb 87 2 []),(8,Rb 76 5 [])] ?_;refine wD (fun n st=>∃ (wE:Int),∃ (y6:List Int),∃ (yW:Bool),∃ (z4:List xA),st=mk [(0,Sb zF),(2,Pp 0),(4,Pp 4),(5,Pp 5),(32,Ii zU.1),(33,Ii wE)] [(0,jG),(1,Rb 85 3 []),(2,Rb 87 2 []),(3,Rb 76 5 []),(4,Vb 157 [Sb y6,.bool yW]),(5,Vb 28 [.own 6 zE.2.2.length,.own 7 z4.length,.own 8 0]),(6,Rb 85 3 (Mp yJ zE.2.2)),(7,Rb 87 2 (Mp yA z4)),(8,Rb 76 5 [])] 9/\rT F zU n wE y6 yW z4=some zR) F zk ⟨_,_,_,_,rfl,h⟩ ?_ ?_
  ·rintro _ ⟨_,_,_,_,_,h⟩;exact wC (h:(none:Option ((List Int)×Bool×(List xA)))=some zR)
  rintro uA _ ⟨wE,y6,yW,z4,rfl,h⟩;replace h:oA F zU (rT F zU uA) wE y6 yW z4=some zR:=h;unfold oA at h;refine s0 [] [(34,.bool (decide (wE<zU.1)))] (sq (ch 34 h ?_ ?_))
  rotate_left
  ·intro yV h;refine wB (id:=2) zk ?_;cases h;exact ⟨rfl,(sI 9 [0,2,4,5])⟩
  intro yV h;refine sk (sq ?_);refine yQ (id:=3) zk ?_;refine sq (bE h fun yF vM h=>r2 [iJ 1 { ids:=[4] } [Pp 4] (cQ F (⟨y6,yW⟩:uD) yF vM)] [] [(8,Ii yF.1)] [] [(4,Vb 157 (qK yF.2))] 9 (bE h fun yY v7 h=>nE h fun uB h=>r2 [iH 6 { id:=9 },iJ 4 { ids:=[4] } [Pp 4] (cQ F yF.2 yY v7),iM yA z4,iC (by first | (simp;done) | (simp;omega):1=((List.map yA [(⟨yF.1,yY.1⟩:xA)])).length),iP 7 10 yA z4 [(⟨yF.1,yY.1⟩:xA)] 16 uB] [] [] [7] [(4,Vb 157 (qK yY.2)),(5,Vb 28 [.own 6 zE.2.2.length,.own 10 (((z4++[(⟨yF.1,yY.1⟩:xA)])).length),.own 8 0]),(10,Rb 87 2 (Mp yA (z4++[(⟨yF.1,yY.1⟩:xA)])))] 11 (r0 [] [(33,Ii (zI (wE+1)))] ?_)));exact ⟨_,(sJ [0,1,2,3,4,5,6,10,8] [0,2,4,5,32,33]),_,_,_,_,rfl,h⟩
 refine sq (sq (bE h fun yH uX h=>r2 [iJ 1 { ids:=[4] } [Pp 4,Ii 200] (UL F (⟨zR.1,zR.2.1⟩:uD) 200 yH uX)] [] [(48,Ii yH.1),(49,Ii 0)] [] [(4,Vb 157 (qK yH.2))] 9 (bE h fun yK u5 h=>?_)));refine xP (mk [(0,Sb zF),(2,Pp 0),(4,Pp 4),(5,Pp 5)] [(0,jG),(1,Rb 85 3 []),(2,Rb 87 2 []),(3,Rb 76 5 []),(4,Vb 157 [Sb yK.1,.bool yK.2.1]),(5,Vb 28 [.own 6 zE.2.2.length,.own 7 zR.2.2.length,.own 8 yK.2.2.length]),(6,Rb 85 3 (Mp yJ zE.2.2)),(7,Rb 87 2 (Mp yA zR.2.2)),(8,Rb 76 5 (Mp z9 yK.2.2))] 9) ?_ ?_
 ·replace h:=u5;refine yQ (id:=4) zk ?_;refine w0 [0,1,2,3,4,5,6,7,8] [] [(0,Sb zF),(2,Pp 0),(4,Pp 4),(5,Pp 5),(48,Ii yH.1),(49,Ii 0)] [(0,jG),(1,Rb 85 3 []),(2,Rb 87 2 []),(3,Rb 76 5 []),(4,Vb 157 (qK yH.2)),(5,Vb 28 [.own 6 zE.2.2.length,.own 7 zR.2.2.length,.own 8 0]),(6,Rb 85 3 (Mp yJ zE.2.2)),(7,Rb 87 2 (Mp yA zR.2.2)),(8,Rb 76 5 [])] ?_;refine wD (fun n st=>∃ (vU:Int),∃ (xC:List Int),∃ (xK:Bool),∃ (yL:List yZ),st=mk [(0,Sb zF),(2,Pp 0),(4,Pp 4),(5,Pp 5),(48,Ii yH.1),(49,Ii vU)] [(0,jG),(1,Rb 85 3 []),(2,Rb 87 2 []),(3,Rb 76 5 []),(4,Vb 157 [Sb xC,.bool xK]),(5,Vb 28 [.own 6 zE.2.2.length,.own 7 zR.2.2.length,.own 8 yL.length]),(6,Rb 85 3 (Mp yJ zE.2.2)),(7,Rb 87 2 (Mp yA zR.2.2)),(8,Rb 76 5 (Mp z9 yL))] 9/\AA F yH n vU xC xK yL=some yK) F zk ⟨_,_,_,_,rfl,h⟩ ?_ ?_
  ·rintro _ ⟨_,_,_,_,_,h⟩;exact wC (h:(none:Option ((List Int)×Bool×(List yZ)))=some yK)
  rintro t5 _ ⟨vU,xC,xK,yL,rfl,h⟩;replace h:rL F yH (AA F yH t5) vU xC xK yL=some yK:=h;unfold rL at h;refine s0 [] [(50,.bool (decide (vU<yH.1)))] (sq (ch 50 h ?_ ?_))
  rotate_left
  ·intro xG h;refine wB (id:=4) zk ?_;cases h;exact ⟨rfl,(sI 9 [0,2,4,5])⟩
  intro xG h;refine sk (sq ?_);refine yQ (id:=5) zk ?_;refine bE h fun yR uP h=>nE h fun t7 h=>r2 [iH 4 { id:=9 },iJ 3 { ids:=[4] } [Pp 4] (WX F (⟨xC,xK⟩:uD) yR uP),iM z9 yL,iA 1,iP 5 10 z9 yL [yR.1] 40 t7] [] [] [8] [(4,Vb 157 (qK yR.2)),(5,Vb 28 [.own 6 zE.2.2.length,.own 7 zR.2.2.length,.own 10 (((yL++[yR.1])).length)]),(10,Rb 76 5 (Mp z9 (yL++[yR.1])))] 11 (r0 [] [(49,Ii (zI (vU+1)))] ?_);exact ⟨_,(sJ [0,1,2,3,4,5,6,7,10] [0,2,4,5,48,49]),_,_,_,_,rfl,h⟩
 refine sq (wz [0,1,2,3,4,5,7,8] [6] [] [5] [(0,Sb zF),(2,Pp 0),(4,Pp 4),(5,Pp 5)] [(0,jG),(1,Rb 85 3 []),(2,Rb 87 2 []),(3,Rb 76 5 []),(4,Vb 157 [Sb yK.1,.bool yK.2.1]),(5,Vb 28 [Sq 3 yJ zE.2.2,.own 6 zR.2.2.length,.own 7 yK.2.2.length]),(6,Rb 87 2 (Mp yA zR.2.2)),(7,Rb 76 5 (Mp z9 yK.2.2))] (ar 28 (ar true (ac (by first | (simp;done) | (simp;omega):zE.2.2.length=((List.map yJ zE.2.2)).length) (ar 3 (ar ((Mp yJ zE.2.2):List AV) (ar true (ar (.own 7 zR.2.2.length:AV) (ar (.own 8 yK.2.2.length:AV) an)))))))) (wz [0,1,2,3,4,5,7] [6] [] [5] [(0,Sb zF),(2,Pp 0),(4,Pp 4),(5,Pp 5)] [(0,jG),(1,Rb 85 3 []),(2,Rb 87 2 []),(3,Rb 76 5 []),(4,Vb 157 [Sb yK.1,.bool yK.2.1]),(5,Vb 28 [Sq 3 yJ zE.2.2,Sq 2 yA zR.2.2,.own 6 yK.2.2.length]),(6,Rb 76 5 (Mp z9 yK.2.2))] (ar 28 (ar true (ac (by first | (simp;done) | (simp;omega):zR.2.2.length=((List.map yA zR.2.2)).length) (ar 3 (ar ((Mp yJ zE.2.2):List AV) (ar true (ar 2 (ar ((Mp yA zR.2.2):List AV) (ar true (ar (.own 7 yK.2.2.length:AV) an)))))))))) (wz [0,1,2,3,4,5] [6] [] [5] [(0,Sb zF),(2,Pp 0),(4,Pp 4),(5,Pp 5)] [(0,jG),(1,Rb 85 3 []),(2,Rb 87 2 []),(3,Rb 76 5 []),(4,Vb 157 [Sb yK.1,.bool yK.2.1]),(5,Vb 28 [Sq 3 yJ zE.2.2,Sq 2 yA zR.2.2,Sq 5 z9 yK.2.2])] (ar 28 (ar true (ac (by first | (simp;done) | (simp;omega):yK.2.2.length=((List.map z9 yK.2.2)).length) (ar 3 (ar ((Mp yJ zE.2.2):List AV) (ar true (ar 2 (ar ((Mp yA zR.2.2):List AV) (ar true (ar 5 (ar ((Mp z9 yK.2.2):List AV) (ar true an)))))))))))) (bE h fun zN jD h=>?_))));refine xP (mk [(2,Pp 0),(3,.bool zN)] [(0,Vb 28 [Sq 3 yJ zE.2.2,Sq 2 yA zR.2.2,Sq 5 z9 yK.2.2])] 1) ?_ ?_
 ·replace h:=jD;rcases bft (!yK.2.1) with yC | yC
  ·replace h:=xN yC h;refine bE h fun y8 t6 h=>bE h fun wM jE h=>r2 [iH 11 Ht,iR 2 yC,iL 8 {} [.agg [Sq 3 yJ zE.2.2,Sq 2 yA zR.2.2,Sq 5 z9 yK.2.2]] (VF F (⟨zE.2.2,zR.2.2,yK.2.2⟩:yB) y8 t6) ⟨rfl,rfl,rfl,rfl,rfl,rfl,rfl,rfl,rfl,trivial⟩,iR 2 yC,iK 10 {} (SZ y8 zF wM jE),iC yC] [0,4,5] [(3,.bool wM)] [1,2,3,4,5] [(0,Vb 28 [Sq 3 yJ zE.2.2,Sq 2 yA zR.2.2,Sq 5 z9 yK.2.2])] 6 ?_;cases h;exact ⟨rfl,(sI 1 [2,3])⟩
  ·replace h:=xO yC h;refine r2 [iG 7 4,iH 11 Hf,iR 5 yC] [0,4,5] [(3,.bool false)] [1,2,3,4,5] [(0,Vb 28 [Sq 3 yJ zE.2.2,Sq 2 yA zR.2.2,Sq 5 z9 yK.2.2])] 6 ?_;cases h;exact ⟨rfl,(sI 1 [2,3])⟩
 cases h;exact rt rx
theorem zDf (zL:List z7) (r:(List z7)) (h:MR zL=some r):yS prog 111 [(.row 56 4 (Mp yG zL))] [] [.own 0 zL.length] [(.row 56 4 (Mp yG zL)),.row 56 4 (Mp yG r)] (.own 1 r.length):=by
 refine tI Tryz.f111 ?_;unfold MR at h;refine sE [iH 0 { id:=1,m:=1 }] [(0,.own 0 zL.length)] [(0,Rb 56 4 (Mp yG zL))] 2 (sq (s0 [iH 1 { x:=true }] [(4,.nb (Mp yG zL))] ?_));refine GS (t:=4) (l:=(Mp yG zL)) zk zk ?_ ?_
 ·intro zW;replace zW:=List.map_eq_nil_iff.1 zW;replace h:=Eq.trans (show (some [])=((need (((([]:List z7)).length+zL.length) * 48<=140737488355328)).bind fun _ =>
 some ([]++zL)) from by simp [zW,need]) h
  refine sE [iH 0 { id:=2,m:=1 }] [(2,.own 2 0)] [(0,Rb 56 4 (Mp yG zL)),(2,Rb 56 4 [])] 3 (wz [0,2] [] [2] [] [(2,.own 1 ((([]:List z7)).length))] [(0,Rb 56 4 (Mp yG zL)),(1,Rb 56 4 [])] (ac (congrArg (AV.own _) (by first | (simp;done) | (simp;omega)):(.own 2 0:AV)=.own 2 ((([]:List z7)).length)) an) ?_);cases h;exact rt rx
 refine sk (sq (nE h fun zJ h=>rE [iH 0 { id:=2 },iH 2 { id:=3,l:=(Mp yG ([]++zL)),n:=(([]++zL)).length },iA 0,iM yG zL,iC (by simp:(List.map yG ([]++zL))=[]++(List.map yG zL)),iC (by simp:(([]++zL)).length=((List.map yG ([]++zL))).length),iC (by first | (simp;done) | simpa using zJ:(([]:List AV).length+((List.map yG zL):List AV).length) * 48<=140737488355328)] [(2,.own 3 ((([]++zL)).length))] [(0,Rb 56 4 (Mp yG zL)),(3,Rb 56 4 (Mp yG ([]++zL)))] 4 (w0 [0,3] [] [(2,.own 1 ((([]++zL)).length))] [(0,Rb 56 4 (Mp yG zL)),(1,Rb 56 4 (Mp yG ([]++zL)))] ?_)));cases h;exact rt rx
theorem ZL (zL:List yZ) (r:(List yZ)) (h:BI zL=some r):yS prog 45 [] [] [Sq 5 z9 zL] [.row 76 5 (Mp z9 r)] (.own 0 r.length):=by
 refine tI Tryz.f45 ?_;unfold BI at h;refine sE [iH 0 { id:=0,m:=1 }] [(0,Sq 5 z9 zL)] [] 1 (sq (s0 [] [(4,.nb (Mp z9 zL))] ?_));refine GS (t:=4) (l:=(Mp z9 zL)) zk zk ?_ ?_
 ·intro zW;replace zW:=List.map_eq_nil_iff.1 zW;replace h:=Eq.trans (show (some [])=((need (((([]:List yZ)).length+zL.length) * 40<=140737488355328)).bind fun _ =>
 some ([]++zL)) from by simp [zW,need]) h
  refine sE [iH 0 { id:=1,m:=1 }] [(2,.own 1 0)] [(1,Rb 76 5 [])] 2 (wz [1] [] [2] [] [(2,.own 0 ((([]:List yZ)).length))] [(0,Rb 76 5 [])] (ac (congrArg (AV.own _) (by first | (simp;done) | (simp;omega)):(.own 1 0:AV)=.own 1 ((([]:List yZ)).length)) an) ?_);cases h;exact rt rx
 refine sk (sq (nE h fun zJ h=>rE [iH 0 { id:=1 },iH 2 { id:=2,l:=(Mp z9 ([]++zL)),n:=(([]++zL)).length },iA 0,iC trivial,iC (by simp:(List.map z9 ([]++zL))=[]++(List.map z9 zL)),iC (by simp:(([]++zL)).length=((List.map z9 ([]++zL))).length),iC (by first | (simp;done) | simpa using zJ:(([]:List AV).length+((List.map z9 zL):List AV).length) * 40<=140737488355328)] [(2,.own 2 ((([]++zL)).length))] [(2,Rb 76 5 (Mp z9 ([]++zL)))] 3 (w0 [2] [] [(2,.own 0 ((([]++zL)).length))] [(0,Rb 76 5 (Mp z9 ([]++zL)))] ?_)));cases h;exact rt rx
theorem ZO (zB:xF) (r:xF) (h:CT zB=some r):yS prog 71 [(.row 56 4 (Mp yG zB.packets))] [] [.agg [Sq 3 yJ zB.head.Threads,Sq 2 yA zB.head.Domains,Sq 5 z9 zB.head.Snaps,.own 0 zB.packets.length,.fm zB.ends.isNone (List.map (mpE (AV.int .i64) xS) (zB.ends.getD [])),Ii zB.events]] [(.row 56 4 (Mp yG zB.packets)),.row 76 5 (Mp z9 r.head.Snaps),.row 56 4 (Mp yG r.packets)] (.agg [Sq 3 yJ r.head.Threads,Sq 2 yA r.head.Domains,.own 1 r.head.Snaps.length,.own 2 r.packets.length,.fm r.ends.isNone (List.map (mpE (AV.int .i64) xS) (r.ends.getD [])),Ii r.events]):=by
 refine tI Tryz.f71 ?_;unfold CT at h;refine sE [iH 0 { id:=1 },iH 1 { id:=2 }] [(1,Pp 1),(2,Pp 2)] [(0,Rb 56 4 (Mp yG zB.packets)),(1,Vb 62 [Sq 3 yJ zB.head.Threads,Sq 2 yA zB.head.Domains,Sq 5 z9 zB.head.Snaps,.own 0 zB.packets.length,.fm zB.ends.isNone (List.map (mpE (AV.int .i64) xS) (zB.ends.getD [])),Ii zB.events]),(2,Vb 62 [.nilsl,.nilsl,.nilsl,.nilsl,.fm true [],Ii 0])] 3 (sq (bE h fun zA zJ h=>r2 [iK 2 { ids:=[0,3] } (zDf zB.packets zA zJ)] [] [] [] [(1,Vb 62 [Sq 3 yJ zB.head.Threads,Sq 2 yA zB.head.Domains,Sq 5 z9 zB.head.Snaps,.own 3 zA.length,.fm zB.ends.isNone (List.map (mpE (AV.int .i64) xS) (zB.ends.getD [])),Ii zB.events]),(3,Rb 56 4 (Mp yG zA))] 4 (sq (bE h fun zC zW h=>r2 [iK 3 { ids:=[4] } (ZL zB.head.Snaps zC zW)] [] [] [] [(1,Vb 62 [Sq 3 yJ zB.head.Threads,Sq 2 yA zB.head.Domains,.own 4 zC.length,.own 3 zA.length,.fm zB.ends.isNone (List.map (mpE (AV.int .i64) xS) (zB.ends.getD [])),Ii zB.events]),(4,Rb 76 5 (Mp z9 zC))] 5 (s0 [iK 2 {} (zFn X5 zB.ends.isNone (List.map (mpE (AV.int .i64) xS) (zB.ends.getD [])))] [] (s2 [] [1] [] [1] [(2,Vb 62 [Sq 3 yJ zB.head.Threads,Sq 2 yA zB.head.Domains,.own 4 zC.length,.own 3 zA.length,.fm zB.ends.isNone (List.map (mpE (AV.int .i64) xS) (zB.ends.getD [])),Ii zB.events])] 5 (wz [0,4,3,2] [] [] [1,2,3] [(2,Pp 3)] [(0,Rb 56 4 (Mp yG zB.packets)),(1,Rb 76 5 (Mp z9 (((⟨(⟨zB.head.Threads,zB.head.Domains,zC⟩:yB),zA,zB.ends,zB.events⟩:xF).head).Snaps))),(2,Rb 56 4 (Mp yG ((⟨(⟨zB.head.Threads,zB.head.Domains,zC⟩:yB),zA,zB.ends,zB.events⟩:xF).packets))),(3,Vb 62 [Sq 3 yJ (((⟨(⟨zB.head.Threads,zB.head.Domains,zC⟩:yB),zA,zB.ends,zB.events⟩:xF).head).Threads),Sq 2 yA (((⟨(⟨zB.head.Threads,zB.head.Domains,zC⟩:yB),zA,zB.ends,zB.events⟩:xF).head).Domains),.own 1 ((((⟨(⟨zB.head.Threads,zB.head.Domains,zC⟩:yB),zA,zB.ends,zB.events⟩:xF).head).Snaps).length),.own 2 (((⟨(⟨zB.head.Threads,zB.head.Domains,zC⟩:yB),zA,zB.ends,zB.events⟩:xF).packets).length),.fm ((⟨(⟨zB.head.Threads,zB.head.Domains,zC⟩:yB),zA,zB.ends,zB.events⟩:xF).ends).isNone (List.map (mpE (AV.int .i64) xS) (((⟨(⟨zB.head.Threads,zB.head.Domains,zC⟩:yB),zA,zB.ends,zB.events⟩:xF).ends).getD [])),Ii ((⟨(⟨zB.head.Threads,zB.head.Domains,zC⟩:yB),zA,zB.ends,zB.events⟩:xF).events)])] (ar 76 (ar 5 (ar (Mp z9 zC) (ar 56 (ar 4 (ar (Mp yG zA) (ar 62 (ar true (ar 3 (ar (Mp yJ zB.head.Threads) (ar true (ar 2 (ar (Mp yA zB.head.Domains) (ar true (ac (congrArg (AV.own _) (by first | (simp;done) | (simp;omega)):(.own 4 zC.length:AV)=.own 4 ((((⟨(⟨zB.head.Threads,zB.head.Domains,zC⟩:yB),zA,zB.ends,zB.events⟩:xF).head).Snaps).length)) (ac (congrArg (AV.own _) (by first | (simp;done) | (simp;omega)):(.own 3 zA.length:AV)=.own 3 (((⟨(⟨zB.head.Threads,zB.head.Domains,zC⟩:yB),zA,zB.ends,zB.events⟩:xF).packets).length)) (ac (rfl:zB.ends.isNone=((⟨(⟨zB.head.Threads,zB.head.Domains,zC⟩:yB),zA,zB.ends,zB.events⟩:xF).ends).isNone) (ar (List.map (mpE (AV.int .i64) xS) (zB.ends.getD [])) (ar (Ii zB.events) an))))))))))))))))))) ?_)))))));cases h;exact rt rx
theorem zFp (F:Nat) (zF:List Int) (r:yZ×Bool) (h:DY F zF=some r):yS prog 72 [] [] [Sb zF] [] (.tuple [z9 r.1,.bool r.2]):=by
 refine tI Tryz.f72 ?_;unfold DY at h;refine sE [iH 0 { id:=0 }] [(0,Sb zF),(2,Pp 0)] [(0,Vb 76 [Ii 0,Ii 0,Ii 0,Ii 0,Ii 0])] 1 (s2 [iH 2 { id:=1 }] [] [(4,Pp 1)] [] [(1,Vb 157 [Sb zF,.bool false])] 2 (sq (bE h fun zA zJ h=>r2 [iH 2 { id:=2 },iJ 1 { ids:=[1] } [Pp 1] (WX F (⟨zF,false⟩:uD) zA zJ)] [] [(5,Pp 2)] [] [(1,Vb 157 (qK zA.2)),(2,Vb 76 (pL zA.1))] 3 (sq (bE h fun zN xB h=>?_)))));refine xP (mk [(2,Pp 0),(3,.bool zN)] [(0,Vb 76 (pL zA.1))] 1) ?_ ?_
 ·replace h:=xB;rcases bft (!zA.2.bad) with zS | zS
  ·replace h:=xN zS h;refine bE h fun zC zW h=>bE h fun zM yU h=>r2 [iH 11 Ht,iR 2 zS,iL 8 {} [.nilsl,z9 zA.1] (QF F [] zA.1 zC zW) ⟨rfl,rfl,rfl,rfl,rfl,rfl,trivial⟩,iR 2 zS,iK 10 {} (SZ zC zF zM yU),iC zS] [0,4,5] [(3,.bool zM)] [1,2] [(0,Vb 76 (pL zA.1))] 3 ?_;cases h;exact ⟨rfl,(sI 1 [2,3])⟩
  ·replace h:=xO zS h;refine r2 [iG 7 4,iH 11 Hf,iR 5 zS] [0,4,5] [(3,.bool false)] [1,2] [(0,Vb 76 (pL zA.1))] 3 ?_;cases h;exact ⟨rfl,(sI 1 [2,3])⟩
 cases h;exact rt rx
theorem BU (F:Nat) (zH:qQ) (r:Int×qQ) (h:bD F zH=some r):yS prog 112 [(.var 162 (jQ zH))] [] [Pp 0] [(.var 162 (jQ r.2))] (Ii r.1):=by
 refine tI Tryz.f112 ?_;unfold bD at h;refine sE [] [(0,Pp 0)] [(0,Vb 162 (jQ zH))] 1 (sq (c0 [] 10 h [] ?_ ?_))
 ·intro z8 h;refine s1 [] [0] [(2,Ii 0)] ?_;cases h;exact rt rx
 intro z8 h;refine sk (sq (nE h fun zJ h=>bE h fun zA zW h=>r0 [iT 8 Fb zH.b zH.used zJ.1 zJ.2,iK 9 {} (A1 F (sub zH.b zH.used (lN zH.b)) zA zW)] [(3,Ii zA.1),(4,Ii zA.2.1),(5,Ii zA.2.2)] (s2 [] [0] [] [] [(0,Vb 162 [Sb zH.b,Ii (zI (zH.used+zA.2.1)),Ii zA.2.2])] 1 (s0 [] [(2,Ii zA.1)] ?_))));cases h;exact rt rx
theorem T8 (F:Nat) (zH:qQ) (tH:Int) (r:Int×qQ) (h:cW F zH tH=some r):yS prog 113 [(.var 162 (jQ zH))] [] [Pp 0,Ii tH] [(.var 162 (jQ r.2))] (Ii r.1):=by
 refine tI Tryz.f113 ?_;unfold cW at h;refine sE [] [(0,Pp 0),(1,Ii tH)] [(0,Vb 162 (jQ zH))] 1 (sq (bE h fun zA zJ h=>r2 [iK 1 { ids:=[0] } (BU F zH zA zJ)] [] [(5,Ii zA.1)] [] [(0,Vb 162 (jQ zA.2))] 1 (sq ?_)));refine yQ (id:=0) zk ?_;refine c0 [] 8 h [] ?_ ?_
 ·intro z8 h;refine s1 [] [0] [(4,Ii 0)] ?_;cases h;exact rt rx
 intro z8 h;refine c0 [] 14 h [] ?_ ?_
 ·intro yV h;refine s2 [] [0] [] [] [(0,Vb 162 [Sb zA.2.b,Ii zA.2.used,Ii 10])] 1 (s0 [] [(4,Ii 0)] ?_);cases h;exact rt rx
 intro yV h;refine c0 [] 20 h [] ?_ ?_
 rotate_left
 ·intro xG h;refine sk (s1 [] [0] [(4,Ii zA.1)] ?_);cases h;exact rt rx
 intro xG h;refine s2 [] [0] [] [] [(0,Vb 162 [Sb zA.2.b,Ii zA.2.used,Ii 7])] 1 (s0 [] [(4,Ii 0)] ?_);cases h;exact rt rx
theorem zIK (F:Nat) (zH:qQ) (r:(List Int)×qQ) (h:KV F zH=some r):yS prog 114 [(.var 162 (jQ zH))] [] [Pp 0] [(.var 162 (jQ r.2))] (.str r.1):=by
 refine tI Tryz.f114 ?_;unfold KV at h;refine sE [] [(0,Pp 0)] [(0,Vb 162 (jQ zH))] 1 (sq (c0 [] 10 h [] ?_ ?_))
 ·intro z8 h;refine s1 [] [0] [(2,.str ([]:List Int))] ?_;cases h;exact rt rx
 intro z8 h;refine sk (sq (nE h fun zJ h=>bE h fun zA zW h=>r0 [iT 8 Fb zH.b zH.used zJ.1 zJ.2,iK 9 {} (zA2 F (sub zH.b zH.used (lN zH.b)) 40 zA zW)] [(3,.str zA.1),(4,Ii zA.2.1),(5,Ii zA.2.2)] (s2 [] [0] [] [] [(0,Vb 162 [Sb zH.b,Ii (zI (zH.used+zA.2.1)),Ii zA.2.2])] 1 (s0 [] [(2,.str zA.1)] ?_))));cases h;exact rt rx
theorem zIQ (F:Nat) (zZ:List (List Int)) (r:Int) (h:JK F zZ=some r):yS prog 143 [] [] [Ss zZ] [] (Ii r):=by
 refine tI Tryz.f143 ?_;unfold JK at h;refine sE [] [(0,Ss zZ)] [] 0 (s2 [iH 0 { id:=0,mag:=false,mks:=[.str] }] [] [(3,.mp 0)] [] [(0,.live (.map false [.str] []))] 1 (sq (s1 [iN 1 AV.str zZ] [0] [(8,Ss zZ),(9,Ii (lN zZ)),(10,Ii 0)] (bE h fun zE zJ h=>?_))));refine vL (K1:=kS prog zE 0 (fun q0=>mk [] [] 0) Tryz.f143 (fun q1=>[]) fun q1=>Ii q1) ?_ ?_
 ·replace h:=zJ;refine yQ (id:=0) zk ?_;refine w0 [0] [] [(3,.mp 0),(8,Ss zZ),(9,Ii (lN zZ)),(10,Ii 0)] [(0,.live (.map false [.str] []))] ?_;refine wD (fun n st=>∃ (zP:Int),∃ (zK:List ((List Int)×Bool)),st=mk [(3,.mp 0),(8,Ss zZ),(9,Ii (lN zZ)),(10,Ii zP)] [(0,.live (.map false [.str] (List.map (mpE AV.str AV.bool) zK)))] 1/\AD F zZ n zP zK=some zE) F zk ⟨_,_,rfl,h⟩ ?_ ?_
  ·rintro _ ⟨_,_,_,h⟩;exact wC (h:(none:Option (Unit⊕Int))=some zE)
  rintro z5 _ ⟨zP,zK,rfl,h⟩;replace h:oL F zZ (AD F zZ z5) zP zK=some zE:=h;unfold oL at h;refine s0 [] [(11,.bool (decide (zP<(lN zZ))))] (sq (ch 11 h ?_ ?_))
  rotate_left
  ·intro z8 h;refine wB (id:=0) zk ?_;cases h;exact ⟨rfl,(sI 0 [])⟩
  intro z8 h;refine sk (sq ?_);refine yQ (id:=1) zk ?_;refine sq (bE h fun zH zW h=>r0 [iF 0 AV.str zW] [(5,.str zH)] (sq (sq (bE h fun zA yU h=>r0 [iK 1 {} (G5 F zH zA yU)] [(6,Ii zA)] (c0 [] 17 h [] ?_ ?_)))))
  ·intro yV h;refine s2 [] [3,8] [(2,Ii zA)] [0] [] 1 ?_;cases h;exact rt ry
  intro yV h;refine sk (sq (c0 [iH 2 { av:=(.bool ((uY zK zH).getD false)),g:=(uY zK zH).isSome },iC (VT:qY prog 9 false [.str]),iC (OA (f:=AV.str) (g:=AV.bool) ZQ zK zH false:fR (List.map (mpE AV.str AV.bool) zK) (.str zH) (.bool false) (.bool ((uY zK zH).getD false)) (uY zK zH).isSome)] 21 h [] ?_ ?_))
  ·intro xG h;refine s2 [] [3,8] [(2,Ii 4)] [0] [] 1 ?_;cases h;exact rt ry
  intro xG h;refine sk (nE h fun xB h=>r2 [iH 2 { es:=(List.map (mpE AV.str AV.bool) (w8 zK zH true)) },iC (VT:qY prog 9 false [.str]),iC (NU (f:=AV.str) (g:=AV.bool) ZQ zK zH true:m6 (List.map (mpE AV.str AV.bool) zK) (.str zH) (.bool true) (List.map (mpE AV.str AV.bool) (w8 zK zH true))),iC (MC (l:=zK) xB:((List.map (mpE AV.str AV.bool) zK):List (AV×AV)).length<maxLen)] [] [] [] [(0,.live (.map false [.str] (List.map (mpE AV.str AV.bool) (w8 zK zH true))))] 1 (r0 [] [(10,Ii (zI (zP+1)))] ?_));exact ⟨_,(sI 1 [3,8,9,10]),_,_,rfl,h⟩
 intro e st1 hk;rcases zE with zX | xJ
 rotate_left
 ·obtain ⟨rfl,hf⟩:=hk;cases h;exact ⟨st1,Sub.refl _ _,.inr rfl,hf⟩
 obtain ⟨rfl,hs⟩:=hk;refine ⟨_,hs,?_⟩;refine s0 [] [(2,Ii 0)] ?_;cases h;exact rt rx
theorem M6 (F:Nat) (zZ:List (List Int)) (z6:List zV) (r:Int) (h:fE F zZ z6=some r):yS prog 115 [] [] [Ss zZ,Sq 2 yI z6] [] (Ii r):=by
 refine tI Tryz.f115 ?_;unfold fE at h;refine sE [] [(0,Ss zZ),(1,Sq 2 yI z6)] [] 0 (sq (ad 17 h ?_ ?_ ?_))
 ·rcases bft (decide ((lN zZ)>1000)) with zS | zS
  ·exact rm [iG 4 3,iH 7 Ht,iN 1 AV.str zZ,iR 4 zS] (ort zS)
  ·exact rm [iH 7 Hf,iN 1 AV.str zZ,iR 2 zS,iN 5 yI z6,iR 2 zS] (orf zS rfl)
 ·intro z8 h;refine s1 [] [0,1] [(4,Ii 7)] ?_;cases h;exact rt rx
 intro z8 h;refine sk (sq (sq (bE h fun zA zJ h=>r0 [iK 1 {} (zIQ F zZ zA zJ)] [(5,Ii zA)] (c0 [] 21 h [] ?_ ?_))))
 ·intro yV h;refine s1 [] [0,1] [(4,Ii zA)] ?_;cases h;exact rt rx
 intro yV h;refine sk (s2 [iH 0 { id:=0,mag:=true,mks:=[.int .i64,.int .i64] }] [] [(6,.mp 0)] [] [(0,.live (.map true [.int .i64,.int .i64] []))] 1 (sq (nE h fun zW h=>r2 [iH 2 { id:=1,l:=(Mi (List.replicate z6.length 0)),m:=z6.length,n:=z6.length },iN 1 yI z6,iQ 2 (lN z6),iC (Nat.le_refl _:z6.length<=z6.length),iC zW,iC (YE:(Mi (List.replicate z6.length 0))=List.replicate z6.length (Ii 0))] [] [(7,.own 1 z6.length)] [] [(1,Rb 3 1 (Mi (List.replicate z6.length 0)))] 2 (sq (s1 [iN 1 yI z6] [1] [(27,Sq 2 yI z6),(28,Ii (lN z6)),(29,Ii 0)] (bE h fun zE yU h=>?_))))));refine vL (K1:=kS prog zE 0 (fun q0=>mk [] [] 0) Tryz.f115 (fun q1=>[]) fun q1=>Ii q1) ?_ ?_
 ·replace h:=yU;refine yQ (id:=0) zk ?_;refine wz [0,1] [] [7] [] [(0,Ss zZ),(6,.mp 0),(7,.own 1 (((List.replicate z6.length (0:Int))).length)),(27,Sq 2 yI z6),(28,Ii (lN z6)),(29,Ii 0)] [(0,.live (.map true [.int .i64,.int .i64] [])),(1,Rb 3 1 (Mi (List.replicate z6.length 0)))] (ac (congrArg (AV.own _) List.length_replicate.symm:(.own 1 z6.length:AV)=.own 1 (((List.replicate z6.length (0:Int))).length)) an) ?_;refine wD (fun n st=>∃ (zP:Int),∃ (zK:List (zV×Bool)),∃ (z4:List Int),st=mk [(0,Ss zZ),(6,.mp 0),(7,.own 1 z4.length),(27,Sq 2 yI z6),(28,Ii (lN z6)),(29,Ii zP)] [(0,.live (.map true [.int .i64,.int .i64] (List.map (mpE yI AV.bool) zK))),(1,Rb 3 1 (Mi z4))] 2/\CM F zZ z6 n zP zK z4=some zE) F zk ⟨_,_,_,rfl,h⟩ ?_ ?_
  ·rintro _ ⟨_,_,_,_,h⟩;exact wC (h:(none:Option (Unit⊕Int))=some zE)
  rintro z5 _ ⟨zP,zK,z4,rfl,h⟩;replace h:J0 F zZ z6 (CM F zZ z6 z5) zP zK z4=some zE:=h;unfold J0 at h;refine s0 [] [(30,.bool (decide (zP<(lN z6))))] (sq (ch 30 h ?_ ?_))
  rotate_left
  ·intro xG h;refine wB (id:=0) zk ?_;cases h;exact ⟨rfl,(sI 0 [])⟩
  intro xG h;refine sk (sq ?_);refine yQ (id:=1) zk ?_;refine sq (bE h fun zH xB h=>r2 [iH 3 { id:=2 },iF 1 yI xB] [] [(8,Ii zP),(9,Pp 2)] [] [(2,Vb 144 [Ii zH.c0,Ii zH.c1])] 3 (sq ?_));refine yQ (id:=2) zk ?_;refine ad 34 h ?_ ?_ ?_
  ·rcases bft (decide (zH.c0<(-1))) with wG | wG
   ·exact rm [iG 4 4,iH 8 Ht,iG 10 3,iH 13 Ht,iG 15 5,iH 20 Ht,i0,iC (by decide:0<((2:Nat):Int)),iR 5 wG,iX 3,iA true,iX 5,iA true] (ort wG)
   ·rcases bft (decide (zH.c0>=zP)) with wP | wP
    ·exact rm [iH 8 Hf,iG 10 3,iH 13 Ht,iG 15 5,iH 20 Ht,i0,iC (by decide:0<((2:Nat):Int)),iC wG,i0,iC (by decide:0<((2:Nat):Int)),iR 4 wG,iR 4 wP,iX 5,iA true] (orf wG (ort wP))
    ·rcases bft (decide (zH.c1<0)) with wW | wW
     ·exact rm [iH 8 Hf,iH 13 Hf,iG 15 5,iH 20 Ht,i0,iC (by decide:0<((2:Nat):Int)),iC wG,i0,iC (by decide:0<((2:Nat):Int)),iR 4 wG,iC wP,iC (by decide:(0:Int)<=(1:Int)),iC (by decide:1<((2:Nat):Int)),iR 3 wP,iR 6 wW] (orf wG (orf wP (ort wW)))
     ·exact rm [iH 8 Hf,iH 13 Hf,iH 20 Hf,i0,iC (by decide:0<((2:Nat):Int)),iC wG,i0,iC (by decide:0<((2:Nat):Int)),iR 4 wG,iC wP,iC (by decide:(0:Int)<=(1:Int)),iC (by decide:1<((2:Nat):Int)),iR 3 wP,iC wW,iC (by decide:(0:Int)<=(1:Int)),iC (by decide:1<((2:Nat):Int)),iR 3 wW,iN 18 AV.str zZ,iR 2 wW] (orf wG (orf wP (orf wW rfl)))
  ·intro wR h;refine s2 [] [0,6,7,27,9] [(4,Ii 2)] [0,1,2] [] 3 ?_;cases h;exact rt ry
  intro wR h;refine c0 [iH 2 { av:=(.bool ((uY zK zH).getD false)),g:=(uY zK zH).isSome },iC (TK:qY prog 144 true [.int .i64,.int .i64]),iC (OA (f:=yI) (g:=AV.bool) OV zK zH false:fR (List.map (mpE yI AV.bool) zK) (.agg [Ii zH.c0,Ii zH.c1]) (.bool false) (.bool ((uY zK zH).getD false)) (uY zK zH).isSome)] 56 h [] ?_ ?_
  ·intro vR h;refine s2 [] [0,6,7,27,9] [(4,Ii 4)] [0,1,2] [] 3 ?_;cases h;exact rt ry
  intro vR h;refine sk (sq (nE h fun xR h=>r2 [iH 2 { es:=(List.map (mpE yI AV.bool) (w8 zK zH true)) },iC (TK:qY prog 144 true [.int .i64,.int .i64]),iC (NU (f:=yI) (g:=AV.bool) OV zK zH true:m6 (List.map (mpE yI AV.bool) zK) (.agg [Ii zH.c0,Ii zH.c1]) (.bool true) (List.map (mpE yI AV.bool) (w8 zK zH true))),iC (MC (l:=zK) xR:((List.map (mpE yI AV.bool) zK):List (AV×AV)).length<maxLen)] [] [] [] [(0,.live (.map true [.int .i64,.int .i64] (List.map (mpE yI AV.bool) (w8 zK zH true))))] 3 (sq (bE h fun yO wA h=>r2 [iH 3 { av:=Ii yO,l:=(Mi (z4.set zP.toNat (1:Int))) },iC (qH wA:0<=zP),iC (by first | (simp;done) | simpa using qJ wA:zP<((z4.length:Nat):Int)),iC (qI wA:(Mi z4)[zP.toNat]?=some (Ii yO)),iC (AF _ _ _:(Mi (z4.set zP.toNat (1:Int)))=List.set (Mi z4) zP.toNat (cK (Ii yO) 0 [Ii 1]))] [] [] [] [(1,Rb 3 1 (Mi (z4.set zP.toNat (1:Int))))] 3 (sq (s0 [i0,iC (by decide:0<((2:Nat):Int))] [(67,.bool (zH.c0 != (-1)))] (bE h fun zR wS h=>?_)))))));refine xP (mk [(0,Ss zZ),(6,.mp 0),(7,.own 1 zR.length),(8,Ii zP),(27,Sq 2 yI z6),(28,Ii (lN z6)),(29,Ii zP)] [(0,.live (.map true [.int .i64,.int .i64] (List.map (mpE yI AV.bool) (w8 zK zH true)))),(1,Rb 3 1 (Mi zR))] 2) ?_ ?_
  ·replace h:=wS;refine ch 67 h ?_ ?_
   rotate_left
   ·intro uO h;refine sk ?_;cases h;exact ⟨rfl,(sw [0,1] [] [.s 0,.s 6,.a 7 (.own 1 ((z4.set zP.toNat (1:Int)).length)),.s 8,.s 27,.s 28,.s 29] [.s 0,.s 1] (ac (congrArg (AV.own _) (by first | (simp;done) | (simp;omega)):(.own 1 z4.length:AV)=.own 1 ((z4.set zP.toNat (1:Int)).length)) an))⟩
   intro uO h;refine bE h fun xE vB h=>bE h fun wI vM h=>bE h fun vG v7 h=>r2 [iH 3 { av:=Ii xE },iH 8 { av:=Ii wI },iH 11 { av:=Ii vG,l:=(Mi ((z4.set zP.toNat (1:Int)).set zP.toNat (zI (xE+wI)))) },iC (qH vB:0<=zP),iC (by first | (simp;done) | simpa using qJ vB:zP<((z4.length:Nat):Int)),iC (qI vB:(Mi (z4.set zP.toNat (1:Int)))[zP.toNat]?=some (Ii xE)),i0,iC (by decide:0<((2:Nat):Int)),iC (qH vM:0<=zH.c0),iC (by first | (simp;done) | simpa using qJ vM:zH.c0<((z4.length:Nat):Int)),iC (qI vM:(Mi (z4.set zP.toNat (1:Int)))[zH.c0.toNat]?=some (Ii wI)),iC (qH v7:0<=zP),iC (by first | (simp;done) | simpa using qJ v7:zP<((z4.length:Nat):Int)),iC (qI v7:(Mi (z4.set zP.toNat (1:Int)))[zP.toNat]?=some (Ii vG)),iC (AF _ _ _:(Mi ((z4.set zP.toNat (1:Int)).set zP.toNat (zI (xE+wI))))=List.set (Mi (z4.set zP.toNat (1:Int))) zP.toNat (cK (Ii vG) 0 [Ii (zI (xE+wI))]))] [9] [] [2] [(1,Rb 3 1 (Mi ((z4.set zP.toNat (1:Int)).set zP.toNat (zI (xE+wI)))))] 3 ?_;cases h;exact ⟨rfl,(sw [0,1] [] [.s 0,.s 6,.a 7 (.own 1 (((z4.set zP.toNat (1:Int)).set zP.toNat (zI (xE+wI))).length)),.s 8,.s 27,.s 28,.s 29] [.s 0,.s 1] (ac (congrArg (AV.own _) (by first | (simp;done) | (simp;omega)):(.own 1 z4.length:AV)=.own 1 (((z4.set zP.toNat (1:Int)).set zP.toNat (zI (xE+wI))).length)) an))⟩
  refine sq (bE h fun uV uB h=>r0 [iH 3 { av:=Ii uV },iC (qH uB:0<=zP),iC (by first | (simp;done) | simpa using qJ uB:zP<((zR.length:Nat):Int)),iC (qI uB:(Mi zR)[zP.toNat]?=some (Ii uV))] [(83,.bool (decide (uV>32)))] (ch 83 h ?_ ?_))
  rotate_left
  ·intro tJ h;refine sk (r0 [] [(29,Ii (zI (zP+1)))] ?_);exact ⟨_,(sI 2 [0,6,7,27,28,29]),_,_,_,rfl,h⟩
  intro tJ h;refine s2 [] [0,6,7,27] [(4,Ii 7)] [0,1] [] 2 ?_;cases h;exact rt ry
 intro e st1 hk;rcases zE with zX | xJ
 rotate_left
 ·obtain ⟨rfl,hf⟩:=hk;cases h;exact ⟨st1,Sub.refl _ _,.inr rfl,hf⟩
 obtain ⟨rfl,hs⟩:=hk;refine ⟨_,hs,?_⟩;refine s0 [] [(4,Ii 0)] ?_;cases h;exact rt rx
theorem AM (F:Nat) (zH:pE) (r:Int×pE) (h:aV F zH=some r):yS prog 144 [(.var 186 (dU zH))] [] [Pp 0] [(.var 186 (dU r.2))] (Ii r.1):=by
 refine tI Tryz.f144 ?_;unfold aV at h;refine sE [] [(0,Pp 0)] [(0,Vb 186 (dU zH))] 1 (sq (c0 [] 10 h [] ?_ ?_))
 ·intro z8 h;refine s1 [] [0] [(2,Ii 0)] ?_;cases h;exact rt rx
 intro z8 h;refine sk (sq (nE h fun zJ h=>bE h fun zA zW h=>r0 [iT 8 Fb zH.b zH.used zJ.1 zJ.2,iK 9 {} (A1 F (sub zH.b zH.used (lN zH.b)) zA zW)] [(3,Ii zA.1),(4,Ii zA.2.1),(5,Ii zA.2.2)] (s2 [] [] [] [] [(0,Vb 186 [Sb zH.b,Ii zH.used,Ii zA.2.2])] 1 (s2 [] [0] [] [] [(0,Vb 186 [Sb zH.b,Ii (zI (zH.used+zA.2.1)),Ii zA.2.2])] 1 (s0 [] [(2,Ii zA.1)] ?_)))));cases h;exact rt rx
theorem zAk (xH:Int) (r:Bool×Bool×Bool×Bool) (h:GW xH=some r):yS prog 131 [] [] [Ii xH] [] (.tuple [.bool r.1,.bool r.2.1,.bool r.2.2.1,.bool r.2.2.2]):=by
 refine tI Tryz.f131 ?_;unfold GW at h;refine sE [] [(0,Ii xH)] [] 0 (sq (am 2 ((xH==1)||((xH==3)||(xH==4))) ?_ ?_))
 ·rcases bft (xH==1) with zS | zS
  ·exact rm [iG 3 2,iH 5 Ht,iG 7 2,iH 9 Ht,iR 3 zS,iX 2,iA true] (ort zS)
  ·rcases bft (xH==3) with z0 | z0
   ·exact rm [iH 5 Hf,iG 7 2,iH 9 Ht,iR 3 zS,iR 3 z0] (orf zS (ort z0))
   ·exact rm [iH 5 Hf,iH 9 Hf,iR 3 zS,iR 3 z0] (orf zS (orf z0 rfl))
 refine s0 [] [(3,.bool (decide (xH>=4)))] (sq (am 4 ((xH==9)||(xH==11)) ?_ ?_))
 ·rcases bft (xH==9) with yE | yE
  ·exact rm [iG 3 2,iH 5 Ht,iR 3 yE] (ort yE)
  ·exact rm [iH 5 Hf,iR 3 yE] (orf yE rfl)
 refine sq (am 5 ((xH==5)||(xH==11)) ?_ ?_)
 ·rcases bft (xH==5) with yC | yC
  ·exact rm [iG 3 2,iH 5 Ht,iR 3 yC] (ort yC)
  ·exact rm [iH 5 Hf,iR 3 yC] (orf yC rfl)
 refine s0 [] [] ?_;cases h;exact rt rx
theorem zB3 (F:Nat) (zL:List (List Int)) (r:(List (List Int))) (h:HE F zL=some r):yS prog 163 [(.row 9 1 (Ms zL))] [] [.own 0 zL.length] [(.row 9 1 (Ms r))] (.tuple []):=by
 refine tI Tryz.f163 ?_;unfold HE at h;refine sE [] [(0,.own 0 zL.length),(2,Ii 0),(3,Ii (zI ((lN zL) - 1)))] [(0,Rb 9 1 (Ms zL))] 1 (bE h fun zE zJ h=>?_);refine xP (mk [] [(0,Rb 9 1 (Ms zE))] 1) ?_ ?_
 ·replace h:=zJ;refine yQ (id:=0) zk ?_;refine w0 [0] [] [(0,.own 0 zL.length),(2,Ii 0),(3,Ii (zI ((lN zL) - 1)))] [(0,Rb 9 1 (Ms zL))] ?_;refine wD (fun n st=>∃ (zQ:Int),∃ (jK:Int),∃ (zK:List (List Int)),st=mk [(0,.own 0 zK.length),(2,Ii zQ),(3,Ii jK)] [(0,Rb 9 1 (Ms zK))] 1/\r6 F n zQ jK zK=some zE) F zk ⟨_,_,_,rfl,h⟩ ?_ ?_
  ·rintro _ ⟨_,_,_,_,h⟩;exact wC (h:(none:Option (List (List Int)))=some zE)
  rintro z5 _ ⟨zQ,jK,zK,rfl,h⟩;replace h:H7 F (r6 F z5) zQ jK zK=some zE:=h;unfold H7 at h;refine sq (c0 [] 9 h [] ?_ ?_)
  rotate_left
  ·intro z8 h;refine wB (id:=0) zk ?_;cases h;exact ⟨rfl,(sI 1 [])⟩
  intro z8 h;refine sk (sq ?_);refine yQ (id:=1) zk ?_;refine bE h fun zH zW h=>bE h fun yO yU h=>bE h fun xE xB h=>bE h fun wI xR h=>r2 [iH 7 { av:=.str zH },iH 11 { av:=.str yO },iH 13 { av:=.str xE,l:=(Ms (zK.set zQ.toNat zH)) },iH 15 { av:=.str wI,l:=(Ms ((zK.set zQ.toNat zH).set jK.toNat yO)) },iC (qH zW:0<=jK),iC (by first | (simp;done) | simpa using qJ zW:jK<((zK.length:Nat):Int)),iC (qI zW:(Ms zK)[jK.toNat]?=some (.str zH)),iC (qH yU:0<=zQ),iC (by first | (simp;done) | simpa using qJ yU:zQ<((zK.length:Nat):Int)),iC (qI yU:(Ms zK)[zQ.toNat]?=some (.str yO)),iC (qH xB:0<=zQ),iC (by first | (simp;done) | simpa using qJ xB:zQ<((zK.length:Nat):Int)),iC (qI xB:(Ms zK)[zQ.toNat]?=some (.str xE)),iC (AF _ _ _:(Ms (zK.set zQ.toNat zH))=List.set (Ms zK) zQ.toNat (cK (.str xE) 0 [.str zH])),iC (qH xR:0<=jK),iC (by first | (simp;done) | simpa using qJ xR:jK<((zK.length:Nat):Int)),iC (qI xR:(Ms (zK.set zQ.toNat zH))[jK.toNat]?=some (.str wI)),iC (AF _ _ _:(Ms ((zK.set zQ.toNat zH).set jK.toNat yO))=List.set (Ms (zK.set zQ.toNat zH)) jK.toNat (cK (.str wI) 0 [.str yO]))] [] [] [] [(0,Rb 9 1 (Ms ((zK.set zQ.toNat zH).set jK.toNat yO)))] 1 (r0 [] [(2,Ii (zI (zQ+1))),(3,Ii (zI (jK - 1)))] ?_);exact ⟨_,(sw [0] [] [.a 0 (.own 0 (((zK.set zQ.toNat zH).set jK.toNat yO).length)),.s 2,.s 3] [.s 0] (ac (congrArg (AV.own _) (by first | (simp;done) | (simp;omega)):(.own 0 zK.length:AV)=.own 0 (((zK.set zQ.toNat zH).set jK.toNat yO).length)) an)),_,_,_,rfl,h⟩
 cases h;exact ⟨.inl rfl,zle rfl,zk⟩
theorem zFd (F:Nat) (zZ:List (List Int)) (z6:List zV) (zQ:Int) (r:(List (List Int))×Int) (h:AT F zZ z6 zQ=some r):yS prog 145 [] [] [Ss zZ,Sq 2 yI z6,Ii zQ] [.row 9 1 (Ms r.1)] (.tuple [.own 0 r.1.length,Ii r.2]):=by
 refine tI Tryz.f145 ?_;unfold AT at h;refine sE [iH 0 { id:=0,m:=1 }] [(0,Ss zZ),(1,Sq 2 yI z6),(2,Ii zQ)] [] 1 (sq ?_);refine yQ (id:=0) zk ?_;refine sq (bE h fun zA zJ h=>r0 [iK 2 {} (M6 F zZ z6 zA zJ)] [(9,.bool (zA != 0))] (ch 9 h ?_ ?_))
 ·intro z8 h;refine s2 [iH 0 { id:=1,m:=1 }] [0,1] [(6,.own 1 0),(7,Ii 1)] [] [(1,Rb 9 1 [])] 2 (wz [1] [] [6] [] [(6,.own 0 ((([]:List (List Int))).length)),(7,Ii 1)] [(0,Rb 9 1 [])] (ac (congrArg (AV.own _) (by first | (simp;done) | (simp;omega)):(.own 1 0:AV)=.own 1 ((([]:List (List Int))).length)) an) ?_);cases h;exact rt rx
 intro z8 h;refine sq ?_;refine xP (mk [(0,Ss zZ),(1,Sq 2 yI z6),(2,Ii zQ),(14,.bool (decide (zQ<(-1))||decide (zQ>=(lN z6))))] [] 0) ?_ ?_
 ·rcases bft (decide (zQ<(-1))) with z0 | z0
  ·refine r0 [iG 3 4,iH 7 Ht,iR 5 z0] [(14,.bool true)] ?_;exact ⟨rfl,(sw [] [] [.s 0,.s 1,.s 2,.a 14 (.bool (decide (zQ<(-1))||decide (zQ>=(lN z6))))] [] (ac (congrArg AV.bool (ort z0):(.bool true:AV)=.bool (decide (zQ<(-1))||decide (zQ>=(lN z6)))) an))⟩
  ·refine r0 [iH 7 Hf,iR 3 z0,iN 5 yI z6,iR 2 z0] [(14,.bool (decide (zQ>=(lN z6))))] ?_;exact ⟨rfl,(sw [] [] [.s 0,.s 1,.s 2,.a 14 (.bool (decide (zQ<(-1))||decide (zQ>=(lN z6))))] [] (ac (congrArg AV.bool (orf z0 rfl):(.bool (decide (zQ>=(lN z6))):AV)=.bool (decide (zQ<(-1))||decide (zQ>=(lN z6)))) an))⟩
 refine ch 14 h ?_ ?_
 ·intro yV h;refine s2 [iH 0 { id:=0,m:=1 }] [0,1] [(6,.own 0 0),(7,Ii 2)] [] [(0,Rb 9 1 [])] 1 (wz [0] [] [6] [] [(6,.own 0 ((([]:List (List Int))).length)),(7,Ii 2)] [(0,Rb 9 1 [])] (ac (congrArg (AV.own _) (by first | (simp;done) | (simp;omega)):(.own 0 0:AV)=.own 0 ((([]:List (List Int))).length)) an) ?_);cases h;exact rt rx
 intro yV h;refine sk (s2 [iH 0 { id:=0,m:=1 }] [] [(8,.own 0 0)] [] [(0,Rb 9 1 [])] 1 (sq (bE h fun zE zW h=>?_)));refine xP (mk [(8,.own 0 zE.length)] [(0,Rb 9 1 (Ms zE))] 1) ?_ ?_
 ·replace h:=zW;refine yQ (id:=1) zk ?_;refine w0 [0] [] [(0,Ss zZ),(1,Sq 2 yI z6),(2,Ii zQ),(8,.own 0 0)] [(0,Rb 9 1 [])] ?_;refine wD (fun n st=>∃ (y9:Int),∃ (zK:List (List Int)),st=mk [(0,Ss zZ),(1,Sq 2 yI z6),(2,Ii y9),(8,.own 0 zK.length)] [(0,Rb 9 1 (Ms zK))] 1/\GU F zZ z6 n y9 zK=some zE) F zk ⟨_,_,rfl,h⟩ ?_ ?_
  ·rintro _ ⟨_,_,_,h⟩;exact wC (h:(none:Option (List (List Int)))=some zE)
  rintro z5 _ ⟨y9,zK,rfl,h⟩;replace h:lE F zZ z6 (GU F zZ z6 z5) y9 zK=some zE:=h;unfold lE at h;refine sq (c0 [] 24 h [] ?_ ?_)
  rotate_left
  ·intro xG h;refine wB (id:=1) zk ?_;cases h;exact ⟨rfl,(sI 1 [8])⟩
  intro xG h;refine sk (sq ?_);refine yQ (id:=2) zk ?_;refine bE h fun zH yU h=>bE h fun yO xB h=>nE h fun xR h=>r2 [iH 9 { id:=1 },iF 4 yI yU,iC (by decide:(0:Int)<=(1:Int)),iC (by decide:1<((2:Nat):Int)),iF 7 AV.str xB,iM AV.str zK,iA 1,iP 10 2 AV.str zK [yO] 16 xR] [] [(8,.own 2 (((zK++[yO])).length))] [0] [(2,Rb 9 1 (Ms (zK++[yO])))] 3 (bE h fun xE wA h=>r0 [iF 2 yI wA,i0,iC (by decide:0<((2:Nat):Int))] [(2,Ii xE.c0)] ?_);exact ⟨_,(sJ [2] [0,1,2,8]),_,_,rfl,h⟩
 refine sq (bE h fun zC wS h=>nE h fun vB h=>r2 [iK 1 { ids:=[0] } (zB3 F zE zC wS)] [] [] [] [(0,Rb 9 1 (Ms zC))] 1 (s1 [] [8] [(6,.own 0 zE.length),(7,Ii 0)] (wz [0] [] [6] [] [(6,.own 0 zC.length),(7,Ii 0)] [(0,Rb 9 1 (Ms zC))] (ac (congrArg (AV.own _) vB.symm:(.own 0 zE.length:AV)=.own 0 zC.length) an) ?_)));cases h;exact rt rx
theorem zFV (r:(List vS)) (h:C4=some r):yS prog 167 [] [] [] [.row 193 9 (Mp fU r)] (.own 0 r.length):=by
 refine tI Tryz.f167 ?_;unfold C4 at h;refine sE [iH 0 { id:=0,m:=1 }] [] [] 1 (s2 [iH 13 { id:=1 }] [] [(0,.own 1 13)] [] [(1,Rb 193 9 (Mp fU [zL4,zL8,zL5,zL7,NE,ME,L4,zL9,zL6,M9,M8,OY,LN]))] 2 (wz [1] [] [0] [] [(0,.own 0 (([zL4,zL8,zL5,zL7,NE,ME,L4,zL9,zL6,M9,M8,OY,LN]).length))] [(0,Rb 193 9 (Mp fU [zL4,zL8,zL5,zL7,NE,ME,L4,zL9,zL6,M9,M8,OY,LN]))] (ac (congrArg (AV.own _) (by first | (simp;done) | (simp;omega)):(.own 1 13:AV)=.own 1 (([zL4,zL8,zL5,zL7,NE,ME,L4,zL9,zL6,M9,M8,OY,LN]).length)) an) ?_));cases h;exact rt rx
theorem zIl (xH:Int) (r:vS×Bool) (h:HK xH=some r):yS prog 152 [] [] [Ii xH] [] (.tuple [fU r.1,.bool r.2]):=by
 refine tI Tryz.f152 ?_;unfold HK at h;refine sE [iH 0 { id:=0 }] [(0,Ii xH),(2,Pp 0)] [(0,Vb 193 [.str ([]:List Int),.bool false,.bool false,.bool false,.bool false,Ii 0,Ii 0,Ii 0,Ii 0])] 1 (sq (bE h fun zA zJ h=>r2 [iK 0 { ids:=[1] } (zFV zA zJ)] [] [(4,.own 1 zA.length)] [] [(1,Rb 193 9 (Mp fU zA))] 2 (sq (ad 13 h ?_ ?_ ?_))))
 ·rcases bft (decide (xH<1)) with zS | zS
  ·exact rm [iG 3 4,iH 7 Ht,iR 5 zS] (ort zS)
  ·exact rm [iH 7 Hf,iR 5 zS] (orf zS rfl)
 ·intro z8 h;refine s2 [] [4] [(3,.bool false)] [1] [] 2 ?_;cases h;exact rt rx
 intro z8 h;refine sk (sq (bE h fun zH zW h=>r2 [iH 3 { av:=fU zH },iC (qH zW:0<=xH),iC (by first | (simp;done) | simpa using qJ zW:xH<((zA.length:Nat):Int)),iC (qI zW:(Mp fU zA)[xH.toNat]?=some (fU zH))] [4] [(3,.bool true)] [1] [(0,Vb 193 (KX zH))] 2 ?_));cases h;exact rt rx
theorem Z8 (F:Nat) (zO:List (List Int)) (r:Int) (h:AG F zO=some r):yS prog 156 [] [] [Ss zO] [] (Ii r):=by
 refine tI Tryz.f156 ?_;unfold AG at h;refine sE [] [(0,Ss zO)] [] 0 (sq (c0 [iN 1 AV.str zO] 8 h [] ?_ ?_))
 ·intro z8 h;refine s1 [] [0] [(2,Ii 7)] ?_;cases h;exact rt rx
 intro z8 h;refine sk (sq (s1 [iN 1 AV.str zO] [0] [(9,Ss zO),(10,Ii (lN zO)),(11,Ii 0)] (bE h fun zE zJ h=>?_)));refine vL (K1:=kS prog zE 0 (fun q0=>mk [] [] 0) Tryz.f156 (fun q1=>[]) fun q1=>Ii q1) ?_ ?_
 ·replace h:=zJ;refine yQ (id:=0) zk ?_;refine w0 [] [] [(9,Ss zO),(10,Ii (lN zO)),(11,Ii 0)] [] ?_;refine wD (fun n st=>∃ (zP:Int),st=mk [(9,Ss zO),(10,Ii (lN zO)),(11,Ii zP)] [] 0/\J2 F zO n zP=some zE) F zk ⟨_,rfl,h⟩ ?_ ?_
  ·rintro _ ⟨_,_,h⟩;exact wC (h:(none:Option (Unit⊕Int))=some zE)
  rintro z5 _ ⟨zP,rfl,h⟩;replace h:JH F zO (J2 F zO z5) zP=some zE:=h;unfold JH at h;refine s0 [] [(12,.bool (decide (zP<(lN zO))))] (sq (ch 12 h ?_ ?_))
  rotate_left
  ·intro yV h;refine wB (id:=0) zk ?_;cases h;exact ⟨rfl,(sI 0 [])⟩
  intro yV h;refine sk (sq ?_);refine yQ (id:=1) zk ?_;refine sq (bE h fun zH zW h=>r0 [iF 0 AV.str zW] [(4,.str zH)] (sq (bE h fun zA yU h=>r0 [iK 1 {} (G5 F zH zA yU)] [(5,Ii zA)] (c0 [] 18 h [] ?_ ?_))))
  rotate_left
  ·intro xG h;refine sk (r0 [] [(11,Ii (zI (zP+1)))] ?_);exact ⟨_,(sI 0 [9,10,11]),_,rfl,h⟩
  intro xG h;refine s1 [] [9] [(2,Ii zA)] ?_;cases h;exact rt ry
 intro e st1 hk;rcases zE with zX | xJ
 rotate_left
 ·obtain ⟨rfl,hf⟩:=hk;cases h;exact ⟨st1,Sub.refl _ _,.inr rfl,hf⟩
 obtain ⟨rfl,hs⟩:=hk;refine ⟨_,hs,?_⟩;refine s0 [] [(2,Ii 0)] ?_;cases h;exact rt rx
theorem zDy (F:Nat) (f_1:vS) (zY:xD) (r:Int) (h:DV F f_1 zY=some r):yS prog 153 [] [] [fU f_1,x9 zY] [] (Ii r):=by
 refine tI Tryz.f153 ?_;unfold DV at h;refine sE [iH 0 { id:=0 },iH 1 { id:=1 }] [(2,Pp 0),(3,Pp 1)] [(0,Vb 193 (KX f_1)),(1,Vb 112 (u7 zY))] 2 (sq (s2 [] [2] [(6,.bool f_1.name)] [0] [] 2 (ch 6 h ?_ ?_)))
 ·intro z8 h;refine sq (bE h fun zA zJ h=>r2 [iK 2 {} (G5 F zY.Name zA zJ)] [3] [(4,Ii zA)] [1] [] 2 ?_);cases h;exact rt rx
 intro z8 h;refine sk (sq (bE h fun zC zW h=>r2 [iK 2 {} (Z8 F zY.Stack zC zW)] [3] [(4,Ii zC)] [1] [] 2 ?_));cases h;exact rt rx
theorem O8 (F:Nat) (zY:xD) (r:Int) (h:gU F zY=some r):yS prog 128 [] [] [x9 zY] [] (Ii r):=by
 refine tI Tryz.f128 ?_;unfold gU at h;refine sE [iH 0 { id:=0 }] [(1,Pp 0)] [(0,Vb 112 (u7 zY))] 1 (sq (ad 13 h ?_ ?_ ?_))
 ·rcases bft (decide (zY.At<0)) with zS | zS
  ·exact rm [iG 4 3,iH 7 Ht,iR 4 zS] (ort zS)
  ·exact rm [iH 7 Hf,iR 4 zS] (orf zS rfl)
 ·intro z8 h;refine s2 [] [1] [(2,Ii 2)] [0] [] 1 ?_;cases h;exact rt rx
 intro z8 h;refine sk (sq (bE h fun zA zJ h=>r2 [iH 6 { id:=1 },iK 2 {} (zIl zY.Kind zA zJ)] [] [(3,Pp 1),(4,.bool zA.2)] [] [(1,Vb 193 (KX zA.1))] 2 (sq (sq (bE h fun zN zW h=>?_)))));refine xP (mk [(1,Pp 0),(3,Pp 1),(62,.bool zN)] [(0,Vb 112 (u7 zY)),(1,Vb 193 (KX zA.1))] 2) ?_ ?_
 ·replace h:=zW;rcases bft (!zA.2) with z0 | z0
  ·replace h:=xN z0 h;refine r0 [iG 3 4,iH 10 Hg,iH 11 Ht,iG 13 4,iH 20 Hg,iH 21 Ht,iG 23 4,iH 30 Hg,iH 31 Ht,iG 33 4,iH 41 Hg,iH 42 Ht,iR 6 z0,iX 5,iA true,iX 5,iA true,iX 5,iA true] [(62,.bool true)] ?_;cases h;exact ⟨rfl,(sI 2 [1,3,62])⟩
  ·replace h:=xO z0 h;rcases bft (!zA.1.name) with yE | yE
   ·replace h:=xN yE h;rcases bft (!(zY.Name==([]:List Int))) with yC | yC
    ·replace h:=xN yC h;refine r0 [iH 10 Ht,iH 11 Hf,iG 13 4,iH 20 Hg,iH 21 Ht,iG 23 4,iH 30 Hg,iH 31 Ht,iG 33 4,iH 41 Hg,iH 42 Ht,iR 4 z0,iR 3 yE,iC z0,iC yE,iC z0,iR 6 yC,iX 5,iA true,iX 5,iA true] [(62,.bool true)] ?_;cases h;exact ⟨rfl,(sI 2 [1,3,62])⟩
    ·replace h:=xO yC h;rcases bft (!zA.1.n) with x6 | x6
     ·replace h:=xN x6 h;rcases bft (zY.N != 0) with wJ | wJ
      ·replace h:=xN wJ h;refine r0 [iH 10 Ht,iH 11 Hf,iH 20 Ht,iH 21 Hf,iG 23 4,iH 30 Hg,iH 31 Ht,iG 33 4,iH 41 Hg,iH 42 Ht,iR 4 z0,iR 3 yE,iC z0,iC yE,iC z0,iR 4 yC,iR 3 x6,iC yC,iC x6,iC yC,iR 6 wJ,iX 5,iA true] [(62,.bool true)] ?_;cases h;exact ⟨rfl,(sI 2 [1,3,62])⟩
      ·replace h:=xO wJ h;rcases bft (!zA.1.m) with wN | wN
       ·replace h:=xN wN h;rcases bft (zY.M != 0) with wK | wK
        ·replace h:=xN wK h;refine r0 [iH 10 Ht,iH 11 Hf,iH 20 Ht,iH 21 Hf,iH 30 Ht,iH 31 Hf,iG 33 4,iH 41 Hg,iH 42 Ht,iR 4 z0,iR 3 yE,iC z0,iC yE,iC z0,iR 4 yC,iR 3 x6,iC yC,iC x6,iC yC,iR 4 wJ,iR 3 wN,iC wJ,iC wN,iC wJ,iR 6 wK] [(62,.bool true)] ?_;cases h;exact ⟨rfl,(sI 2 [1,3,62])⟩
        ·replace h:=xO wK h;rcases bft (!zA.1.stack) with v4 | v4
         ·replace h:=xN v4 h;refine r0 [iH 10 Ht,iH 11 Hf,iH 20 Ht,iH 21 Hf,iH 30 Ht,iH 31 Hf,iH 41 Ht,iH 42 Hf,iR 4 z0,iR 3 yE,iC z0,iC yE,iC z0,iR 4 yC,iR 3 x6,iC yC,iC x6,iC yC,iR 4 wJ,iR 3 wN,iC wJ,iC wN,iC wJ,iR 4 wK,iR 3 v4,iN 39 AV.str zY.Stack,iC v4,iC wK,iC v4,iC wK] [(62,.bool (decide ((lN zY.Stack)>0)))] ?_;cases h;exact ⟨rfl,(sI 2 [1,3,62])⟩
         ·replace h:=xO v4 h;refine r0 [iH 10 Ht,iH 11 Hf,iH 20 Ht,iH 21 Hf,iH 30 Ht,iH 31 Hf,iG 37 4,iH 41 Hf,iH 42 Hf,iR 4 z0,iR 3 yE,iC z0,iC yE,iC z0,iR 4 yC,iR 3 x6,iC yC,iC x6,iC yC,iR 4 wJ,iR 3 wN,iC wJ,iC wN,iC wJ,iR 4 wK,iR 4 v4,iC wK,iC v4,iC wK] [(62,.bool false)] ?_;cases h;exact ⟨rfl,(sI 2 [1,3,62])⟩
       ·replace h:=xO wN h;rcases bft (!zA.1.stack) with vA | vA
        ·replace h:=xN vA h;refine r0 [iH 10 Ht,iH 11 Hf,iH 20 Ht,iH 21 Hf,iG 27 3,iH 30 Hf,iH 31 Hf,iH 41 Ht,iH 42 Hf,iR 4 z0,iR 3 yE,iC z0,iC yE,iC z0,iR 4 yC,iR 3 x6,iC yC,iC x6,iC yC,iR 4 wJ,iR 3 wN,iC wJ,iC wN,iC wJ,iQ 4 false,iR 3 vA,iN 39 AV.str zY.Stack,iC vA,iA false,iC vA,iA false] [(62,.bool (decide ((lN zY.Stack)>0)))] ?_;cases h;exact ⟨rfl,(sI 2 [1,3,62])⟩
        ·replace h:=xO vA h;refine r0 [iH 10 Ht,iH 11 Hf,iH 20 Ht,iH 21 Hf,iG 27 3,iH 30 Hf,iH 31 Hf,iG 37 4,iH 41 Hf,iH 42 Hf,iR 4 z0,iR 3 yE,iC z0,iC yE,iC z0,iR 4 yC,iR 3 x6,iC yC,iC x6,iC yC,iR 4 wJ,iR 3 wN,iC wJ,iC wN,iC wJ,iQ 4 false,iR 4 vA,iA false,iC vA,iA false] [(62,.bool false)] ?_;cases h;exact ⟨rfl,(sI 2 [1,3,62])⟩
     ·replace h:=xO x6 h;rcases bft (!zA.1.m) with wG | wG
      ·replace h:=xN wG h;rcases bft (zY.M != 0) with wP | wP
       ·replace h:=xN wP h;refine r0 [iH 10 Ht,iH 11 Hf,iG 17 3,iH 20 Hf,iH 21 Hf,iH 30 Ht,iH 31 Hf,iG 33 4,iH 41 Hg,iH 42 Ht,iR 4 z0,iR 3 yE,iC z0,iC yE,iC z0,iR 4 yC,iR 3 x6,iC yC,iC x6,iC yC,iQ 4 false,iR 3 wG,iA false,iC wG,iA false,iR 6 wP] [(62,.bool true)] ?_;cases h;exact ⟨rfl,(sI 2 [1,3,62])⟩
       ·replace h:=xO wP h;rcases bft (!zA.1.stack) with wW | wW
        ·replace h:=xN wW h;refine r0 [iH 10 Ht,iH 11 Hf,iG 17 3,iH 20 Hf,iH 21 Hf,iH 30 Ht,iH 31 Hf,iH 41 Ht,iH 42 Hf,iR 4 z0,iR 3 yE,iC z0,iC yE,iC z0,iR 4 yC,iR 3 x6,iC yC,iC x6,iC yC,iQ 4 false,iR 3 wG,iA false,iC wG,iA false,iR 4 wP,iR 3 wW,iN 39 AV.str zY.Stack,iC wW,iC wP,iC wW,iC wP] [(62,.bool (decide ((lN zY.Stack)>0)))] ?_;cases h;exact ⟨rfl,(sI 2 [1,3,62])⟩
        ·replace h:=xO wW h;refine r0 [iH 10 Ht,iH 11 Hf,iG 17 3,iH 20 Hf,iH 21 Hf,iH 30 Ht,iH 31 Hf,iG 37 4,iH 41 Hf,iH 42 Hf,iR 4 z0,iR 3 yE,iC z0,iC yE,iC z0,iR 4 yC,iR 3 x6,iC yC,iC x6,iC yC,iQ 4 false,iR 3 wG,iA false,iC wG,iA false,iR 4 wP,iR 4 wW,iC wP,iC wW,iC wP] [(62,.bool false)] ?_;cases h;exact ⟨rfl,(sI 2 [1,3,62])⟩
      ·replace h:=xO wG h;rcases bft (!zA.1.stack) with uI | uI
       ·replace h:=xN uI h;refine r0 [iH 10 Ht,iH 11 Hf,iG 17 3,iH 20 Hf,iH 21 Hf,iG 27 3,iH 30 Hf,iH 31 Hf,iH 41 Ht,iH 42 Hf,iR 4 z0,iR 3 yE,iC z0,iC yE,iC z0,iR 4 yC,iR 3 x6,iC yC,iC x6,iC yC,iQ 4 false,iR 3 wG,iA false,iC wG,iQ 5 false,iR 3 uI,iN 39 AV.str zY.Stack,iC uI,iA false,iC uI,iA false] [(62,.bool (decide ((lN zY.Stack)>0)))] ?_;cases h;exact ⟨rfl,(sI 2 [1,3,62])⟩
       ·replace h:=xO uI h;refine r0 [iH 10 Ht,iH 11 Hf,iG 17 3,iH 20 Hf,iH 21 Hf,iG 27 3,iH 30 Hf,iH 31 Hf,iG 37 4,iH 41 Hf,iH 42 Hf,iR 4 z0,iR 3 yE,iC z0,iC yE,iC z0,iR 4 yC,iR 3 x6,iC yC,iC x6,iC yC,iQ 4 false,iR 3 wG,iA false,iC wG,iQ 5 false,iR 4 uI,iA false,iC uI,iA false] [(62,.bool false)] ?_;cases h;exact ⟨rfl,(sI 2 [1,3,62])⟩
   ·replace h:=xO yE h;rcases bft (!zA.1.n) with v5 | v5
    ·replace h:=xN v5 h;rcases bft (zY.N != 0) with u6 | u6
     ·replace h:=xN u6 h;refine r0 [iG 7 3,iH 10 Hf,iH 11 Hf,iH 20 Ht,iH 21 Hf,iG 23 4,iH 30 Hg,iH 31 Ht,iG 33 4,iH 41 Hg,iH 42 Ht,iR 4 z0,iR 3 yE,iC z0,iC yE,iC z0,iQ 4 false,iR 3 v5,iA false,iC v5,iA false,iR 6 u6,iX 5,iA true] [(62,.bool true)] ?_;cases h;exact ⟨rfl,(sI 2 [1,3,62])⟩
     ·replace h:=xO u6 h;rcases bft (!zA.1.m) with q9 | q9
      ·replace h:=xN q9 h;rcases bft (zY.M != 0) with kI | kI
       ·replace h:=xN kI h;refine r0 [iG 7 3,iH 10 Hf,iH 11 Hf,iH 20 Ht,iH 21 Hf,iH 30 Ht,iH 31 Hf,iG 33 4,iH 41 Hg,iH 42 Ht,iR 4 z0,iR 3 yE,iC z0,iC yE,iC z0,iQ 4 false,iR 3 v5,iA false,iC v5,iA false,iR 4 u6,iR 3 q9,iC u6,iC q9,iC u6,iR 6 kI] [(62,.bool true)] ?_;cases h;exact ⟨rfl,(sI 2 [1,3,62])⟩
       ·replace h:=xO kI h;rcases bft (!zA.1.stack) with pX | pX
        ·replace h:=xN pX h;refine r0 [iG 7 3,iH 10 Hf,iH 11 Hf,iH 20 Ht,iH 21 Hf,iH 30 Ht,iH 31 Hf,iH 41 Ht,iH 42 Hf,iR 4 z0,iR 3 yE,iC z0,iC yE,iC z0,iQ 4 false,iR 3 v5,iA false,iC v5,iA false,iR 4 u6,iR 3 q9,iC u6,iC q9,iC u6,iR 4 kI,iR 3 pX,iN 39 AV.str zY.Stack,iC pX,iC kI,iC pX,iC kI] [(62,.bool (decide ((lN zY.Stack)>0)))] ?_;cases h;exact ⟨rfl,(sI 2 [1,3,62])⟩
        ·replace h:=xO pX h;refine r0 [iG 7 3,iH 10 Hf,iH 11 Hf,iH 20 Ht,iH 21 Hf,iH 30 Ht,iH 31 Hf,iG 37 4,iH 41 Hf,iH 42 Hf,iR 4 z0,iR 3 yE,iC z0,iC yE,iC z0,iQ 4 false,iR 3 v5,iA false,iC v5,iA false,iR 4 u6,iR 3 q9,iC u6,iC q9,iC u6,iR 4 kI,iR 4 pX,iC kI,iC pX,iC kI] [(62,.bool false)] ?_;cases h;exact ⟨rfl,(sI 2 [1,3,62])⟩
      ·replace h:=xO q9 h;rcases bft (!zA.1.stack) with pY | pY
       ·replace h:=xN pY h;refine r0 [iG 7 3,iH 10 Hf,iH 11 Hf,iH 20 Ht,iH 21 Hf,iG 27 3,iH 30 Hf,iH 31 Hf,iH 41 Ht,iH 42 Hf,iR 4 z0,iR 3 yE,iC z0,iC yE,iC z0,iQ 4 false,iR 3 v5,iA false,iC v5,iA false,iR 4 u6,iR 3 q9,iC u6,iC q9,iC u6,iQ 4 false,iR 3 pY,iN 39 AV.str zY.Stack,iC pY,iA false,iC pY,iA false] [(62,.bool (decide ((lN zY.Stack)>0)))] ?_;cases h;exact ⟨rfl,(sI 2 [1,3,62])⟩
       ·replace h:=xO pY h;refine r0 [iG 7 3,iH 10 Hf,iH 11 Hf,iH 20 Ht,iH 21 Hf,iG 27 3,iH 30 Hf,iH 31 Hf,iG 37 4,iH 41 Hf,iH 42 Hf,iR 4 z0,iR 3 yE,iC z0,iC yE,iC z0,iQ 4 false,iR 3 v5,iA false,iC v5,iA false,iR 4 u6,iR 3 q9,iC u6,iC q9,iC u6,iQ 4 false,iR 4 pY,iA false,iC pY,iA false] [(62,.bool false)] ?_;cases h;exact ⟨rfl,(sI 2 [1,3,62])⟩
    ·replace h:=xO v5 h;rcases bft (!zA.1.m) with tQ | tQ
     ·replace h:=xN tQ h;rcases bft (zY.M != 0) with qV | qV
      ·replace h:=xN qV h;refine r0 [iG 7 3,iH 10 Hf,iH 11 Hf,iG 17 3,iH 20 Hf,iH 21 Hf,iH 30 Ht,iH 31 Hf,iG 33 4,iH 41 Hg,iH 42 Ht,iR 4 z0,iR 3 yE,iC z0,iC yE,iC z0,iQ 4 false,iR 3 v5,iA false,iC v5,iQ 5 false,iR 3 tQ,iA false,iC tQ,iA false,iR 6 qV] [(62,.bool true)] ?_;cases h;exact ⟨rfl,(sI 2 [1,3,62])⟩
      ·replace h:=xO qV h;rcases bft (!zA.1.stack) with qW | qW
       ·replace h:=xN qW h;refine r0 [iG 7 3,iH 10 Hf,iH 11 Hf,iG 17 3,iH 20 Hf,iH 21 Hf,iH 30 Ht,iH 31 Hf,iH 41 Ht,iH 42 Hf,iR 4 z0,iR 3 yE,iC z0,iC yE,iC z0,iQ 4 false,iR 3 v5,iA false,iC v5,iQ 5 false,iR 3 tQ,iA false,iC tQ,iA false,iR 4 qV,iR 3 qW,iN 39 AV.str zY.Stack,iC qW,iC qV,iC qW,iC qV] [(62,.bool (decide ((lN zY.Stack)>0)))] ?_;cases h;exact ⟨rfl,(sI 2 [1,3,62])⟩
       ·replace h:=xO qW h;refine r0 [iG 7 3,iH 10 Hf,iH 11 Hf,iG 17 3,iH 20 Hf,iH 21 Hf,iH 30 Ht,iH 31 Hf,iG 37 4,iH 41 Hf,iH 42 Hf,iR 4 z0,iR 3 yE,iC z0,iC yE,iC z0,iQ 4 false,iR 3 v5,iA false,iC v5,iQ 5 false,iR 3 tQ,iA false,iC tQ,iA false,iR 4 qV,iR 4 qW,iC qV,iC qW,iC qV] [(62,.bool false)] ?_;cases h;exact ⟨rfl,(sI 2 [1,3,62])⟩
     ·replace h:=xO tQ h;rcases bft (!zA.1.stack) with jF | jF
      ·replace h:=xN jF h;refine r0 [iG 7 3,iH 10 Hf,iH 11 Hf,iG 17 3,iH 20 Hf,iH 21 Hf,iG 27 3,iH 30 Hf,iH 31 Hf,iH 41 Ht,iH 42 Hf,iR 4 z0,iR 3 yE,iC z0,iC yE,iC z0,iQ 4 false,iR 3 v5,iA false,iC v5,iQ 5 false,iR 3 tQ,iA false,iC tQ,iQ 5 false,iR 3 jF,iN 39 AV.str zY.Stack,iC jF,iA false,iC jF,iA false] [(62,.bool (decide ((lN zY.Stack)>0)))] ?_;cases h;exact ⟨rfl,(sI 2 [1,3,62])⟩
      ·replace h:=xO jF h;refine r0 [iG 7 3,iH 10 Hf,iH 11 Hf,iG 17 3,iH 20 Hf,iH 21 Hf,iG 27 3,iH 30 Hf,iH 31 Hf,iG 37 4,iH 41 Hf,iH 42 Hf,iR 4 z0,iR 3 yE,iC z0,iC yE,iC z0,iQ 4 false,iR 3 v5,iA false,iC v5,iQ 5 false,iR 3 tQ,iA false,iC tQ,iQ 5 false,iR 4 jF,iA false,iC jF,iA false] [(62,.bool false)] ?_;cases h;exact ⟨rfl,(sI 2 [1,3,62])⟩
 refine ch 62 h ?_ ?_
 ·intro yV h;refine s2 [] [1,3] [(2,Ii 1)] [0,1] [] 2 ?_;cases h;exact rt rx
 intro yV h;refine sk (sq (sq (bE h fun zC yU h=>r0 [iK 2 {} (zDy F zA.1 zY zC yU)] [(5,Ii zC)] (c0 [] 67 h [] ?_ ?_))))
 ·intro xG h;refine s2 [] [1,3] [(2,Ii zC)] [0,1] [] 2 ?_;cases h;exact rt rx
 intro xG h;refine sk (sq ?_);refine yQ (id:=0) zk ?_;refine ad 69 h ?_ ?_ ?_
 ·rcases Bool.eq_false_or_eq_true zA.1.n with pZ | pZ
  ·rcases bft (decide (zY.N<zA.1.least)) with aZ | aZ
   ·exact rm [iG 9 5,iH 14 Ht,iH 15 Ht,iR 6 pZ,iR 5 aZ,iC pZ,iC aZ,iC pZ] (w9 pZ (ort aZ))
   ·exact rm [iH 14 Hf,iH 15 Ht,iR 6 pZ,iR 5 aZ,iC pZ,iC aZ,iC pZ] (w9 pZ (orf aZ rfl))
  ·exact rm [iG 3 6,iH 14 Hg,iH 15 Hf,iR 8 pZ] (uN pZ)
 ·intro wR h;refine s2 [] [1,3] [(2,Ii 2)] [0,1] [] 2 ?_;cases h;exact rt rx
 intro wR h;refine ad 86 h ?_ ?_ ?_
 ·rcases bft (zY.Kind==9) with rM | rM
  ·rcases bft (zY.N != 2) with gg_28 | gg_28
   ·exact rm [iH 7 Ht,iH 12 Ht,iR 4 rM,iR 4 gg_28] (w9 rM (w9 gg_28 rfl))
   ·exact rm [iH 7 Ht,iG 9 3,iH 12 Hf,iR 4 rM,iR 4 gg_28] (w9 rM (uN gg_28))
  ·exact rm [iG 4 3,iH 7 Hf,iG 9 3,iH 12 Hf,iR 4 rM,iZ,iZ,iZ,iA false] (uN rM)
 ·intro vR h;refine s2 [] [1,3] [(2,Ii 1)] [0,1] [] 2 ?_;cases h;exact rt rx
 intro vR h;refine sq ?_;refine xP (mk [(100,.bool (zA.1.m&&(bif decide (zY.M<zA.1.mLeast) then ((zY.Kind != 9)||(zY.N==2)) else (decide (zY.M>zA.1.mMost)&&((zY.Kind != 9)||(zY.N==2))))))] [] 0) ?_ ?_
 ·rcases Bool.eq_false_or_eq_true zA.1.m with j5 | j5
  ·rcases bft (decide (zY.M<zA.1.mLeast)) with nM | nM
   ·rcases bft (zY.Kind != 9) with rN | rN
    ·refine r2 [iG 9 5,iH 14 Ht,iH 15 Ht,iG 21 3,iH 24 Ht,iH 25 Ht,iR 6 j5,iR 5 nM,iC j5,iC nM,iC j5,iQ 4 true,iR 3 rN,iA true,iC rN,iA true] [1,3] [(100,.bool true)] [0,1] [] 2 ?_;exact ⟨rfl,(sw [] [] [.a 100 (.bool (zA.1.m&&(bif decide (zY.M<zA.1.mLeast) then ((zY.Kind != 9)||(zY.N==2)) else (decide (zY.M>zA.1.mMost)&&((zY.Kind != 9)||(zY.N==2))))))] [] (ac (congrArg AV.bool (w9 j5 (ctr nM (ort rN))):(.bool true:AV)=.bool (zA.1.m&&(bif decide (zY.M<zA.1.mLeast) then ((zY.Kind != 9)||(zY.N==2)) else (decide (zY.M>zA.1.mMost)&&((zY.Kind != 9)||(zY.N==2)))))) an))⟩
    ·refine r2 [iG 9 5,iH 14 Ht,iH 15 Ht,iH 24 Hf,iH 25 Ht,iR 6 j5,iR 5 nM,iC j5,iC nM,iC j5,iQ 4 true,iR 3 rN,iA true,iC rN,iA true] [1,3] [(100,.bool (zY.N==2))] [0,1] [] 2 ?_;exact ⟨rfl,(sw [] [] [.a 100 (.bool (zA.1.m&&(bif decide (zY.M<zA.1.mLeast) then ((zY.Kind != 9)||(zY.N==2)) else (decide (zY.M>zA.1.mMost)&&((zY.Kind != 9)||(zY.N==2))))))] [] (ac (congrArg AV.bool (w9 j5 (ctr nM (orf rN rfl))):(.bool (zY.N==2):AV)=.bool (zA.1.m&&(bif decide (zY.M<zA.1.mLeast) then ((zY.Kind != 9)||(zY.N==2)) else (decide (zY.M>zA.1.mMost)&&((zY.Kind != 9)||(zY.N==2)))))) an))⟩
   ·rcases bft (decide (zY.M>zA.1.mMost)) with cC | cC
    ·rcases bft (zY.Kind != 9) with rO | rO
     ·refine r2 [iH 14 Hf,iH 15 Ht,iG 21 3,iH 24 Ht,iH 25 Ht,iR 6 j5,iR 5 nM,iC j5,iC nM,iC j5,iR 4 cC,iR 3 rO,iC cC,iC rO,iC cC] [1,3] [(100,.bool true)] [0,1] [] 2 ?_;exact ⟨rfl,(sw [] [] [.a 100 (.bool (zA.1.m&&(bif decide (zY.M<zA.1.mLeast) then ((zY.Kind != 9)||(zY.N==2)) else (decide (zY.M>zA.1.mMost)&&((zY.Kind != 9)||(zY.N==2))))))] [] (ac (congrArg AV.bool (w9 j5 (cfr nM (w9 cC (ort rO)))):(.bool true:AV)=.bool (zA.1.m&&(bif decide (zY.M<zA.1.mLeast) then ((zY.Kind != 9)||(zY.N==2)) else (decide (zY.M>zA.1.mMost)&&((zY.Kind != 9)||(zY.N==2)))))) an))⟩
     ·refine r2 [iH 14 Hf,iH 15 Ht,iH 24 Hf,iH 25 Ht,iR 6 j5,iR 5 nM,iC j5,iC nM,iC j5,iR 4 cC,iR 3 rO,iC cC,iC rO,iC cC] [1,3] [(100,.bool (zY.N==2))] [0,1] [] 2 ?_;exact ⟨rfl,(sw [] [] [.a 100 (.bool (zA.1.m&&(bif decide (zY.M<zA.1.mLeast) then ((zY.Kind != 9)||(zY.N==2)) else (decide (zY.M>zA.1.mMost)&&((zY.Kind != 9)||(zY.N==2))))))] [] (ac (congrArg AV.bool (w9 j5 (cfr nM (w9 cC (orf rO rfl)))):(.bool (zY.N==2):AV)=.bool (zA.1.m&&(bif decide (zY.M<zA.1.mLeast) then ((zY.Kind != 9)||(zY.N==2)) else (decide (zY.M>zA.1.mMost)&&((zY.Kind != 9)||(zY.N==2)))))) an))⟩
    ·refine r2 [iH 14 Hf,iH 15 Ht,iG 17 4,iH 24 Hg,iH 25 Hf,iR 6 j5,iR 5 nM,iC j5,iC nM,iC j5,iR 6 cC] [1,3] [(100,.bool false)] [0,1] [] 2 ?_;exact ⟨rfl,(sw [] [] [.a 100 (.bool (zA.1.m&&(bif decide (zY.M<zA.1.mLeast) then ((zY.Kind != 9)||(zY.N==2)) else (decide (zY.M>zA.1.mMost)&&((zY.Kind != 9)||(zY.N==2))))))] [] (ac (congrArg AV.bool (w9 j5 (cfr nM (uN cC))):(.bool false:AV)=.bool (zA.1.m&&(bif decide (zY.M<zA.1.mLeast) then ((zY.Kind != 9)||(zY.N==2)) else (decide (zY.M>zA.1.mMost)&&((zY.Kind != 9)||(zY.N==2)))))) an))⟩
  ·refine r2 [iG 3 6,iH 14 Hg,iH 15 Hf,iG 17 4,iH 24 Hg,iH 25 Hf,iR 8 j5,iZ,iZ,iZ,iZ,iZ,iA false] [1,3] [(100,.bool false)] [0,1] [] 2 ?_;exact ⟨rfl,(sw [] [] [.a 100 (.bool (zA.1.m&&(bif decide (zY.M<zA.1.mLeast) then ((zY.Kind != 9)||(zY.N==2)) else (decide (zY.M>zA.1.mMost)&&((zY.Kind != 9)||(zY.N==2))))))] [] (ac (congrArg AV.bool (uN j5):(.bool false:AV)=.bool (zA.1.m&&(bif decide (zY.M<zA.1.mLeast) then ((zY.Kind != 9)||(zY.N==2)) else (decide (zY.M>zA.1.mMost)&&((zY.Kind != 9)||(zY.N==2)))))) an))⟩
 refine ch 100 h ?_ ?_
 ·intro uO h;refine s0 [] [(2,Ii 2)] ?_;cases h;exact rt rx
 intro uO h;refine sk (s0 [] [(2,Ii 0)] ?_);cases h;exact rt rx
theorem zHS (F:Nat) (zZ:List (List Int)) (z6:List zV) (zF:List Int) (r:xD×Int×Int) (h:GZ F zZ z6 zF=some r):yS prog 116 [] [] [Ss zZ,Sq 2 yI z6,Sb zF] [] (.tuple [x9 r.1,Ii r.2.1,Ii r.2.2]):=by
 refine tI Tryz.f116 ?_;unfold GZ at h;refine sE [iH 0 { id:=0 }] [(0,Ss zZ),(1,Sq 2 yI z6),(2,Sb zF),(6,Pp 0)] [(0,pS)] 1 (sq (sq (bE h fun zA zJ h=>r0 [iK 2 {} (M6 F zZ z6 zA zJ)] [(21,.bool (zA != 0))] (ch 21 h ?_ ?_))))
 ·intro z8 h;refine s1 [] [0,1,2] [(7,Ii 0),(8,Ii 1)] (wz [0] [] [] [0] [(6,Pp 0),(7,Ii 0),(8,Ii 1)] [(0,Vb 112 (u7 zL2))] (ar 112 (ar true (ar (Ii 0) (ar (Ii 0) (ar (.str ([]:List Int):AV) (ar (Ii 0) (ar (Ii 0) (ar ([]:List AV) an)))))))) ?_);cases h;exact rt rx
 intro z8 h;refine sk (s2 [iH 2 { id:=1 }] [2] [(9,Pp 1)] [] [(1,Vb 186 [Sb zF,Ii 0,Ii 0])] 2 (sq (bE h fun zC zW h=>r2 [iJ 1 { ids:=[1] } [Pp 1] (AM F (⟨zF,0,0⟩:pE) zC zW)] [] [(10,Ii zC.1)] [] [(1,Vb 186 (dU zC.2))] 2 (sq (bE h fun zM yU h=>r2 [iH 4 { id:=2 },iJ 2 { ids:=[1] } [Pp 1] (AM F zC.2 zM yU)] [] [(11,Pp 2)] [] [(1,Vb 186 (dU zM.2)),(2,Vb 112 [Ii zM.1,Ii zC.1,.str ([]:List Int),Ii 0,Ii 0,.nilsl])] 3 (sq (sq (am 44 ((zM.2.fault==0)&&(decide (zC.1<1)||decide (zC.1>12))) ?_ ?_))))))))
 ·rcases bft (zM.2.fault==0) with zS | zS
  ·rcases bft (decide (zC.1<1)) with z0 | z0
   ·exact rm [iG 9 2,iH 11 Ht,iH 12 Ht,iR 3 zS,iR 2 z0,iC zS,iC z0,iC zS] (w9 zS (ort z0))
   ·exact rm [iH 11 Hf,iH 12 Ht,iR 3 zS,iR 2 z0,iC zS,iC z0,iC zS] (w9 zS (orf z0 rfl))
  ·exact rm [iG 6 3,iH 11 Hg,iH 12 Hf,iR 5 zS] (uN zS)
 refine bE h fun zE xB h=>?_;refine xP (mk [(0,Ss zZ),(1,Sq 2 yI z6),(6,Pp 0),(9,Pp 1),(11,Pp 2)] [(0,pS),(1,Vb 186 [Sb zM.2.b,Ii zM.2.used,Ii zE]),(2,Vb 112 [Ii zM.1,Ii zC.1,.str ([]:List Int),Ii 0,Ii 0,.nilsl])] 3) ?_ ?_
 ·replace h:=xB;refine ch 44 h ?_ ?_
  ·intro yV h;refine r2 [] [] [] [] [(1,Vb 186 [Sb zM.2.b,Ii zM.2.used,Ii 10])] 3 ?_;cases h;exact ⟨rfl,(sI 3 [0,1,6,9,11])⟩
  intro yV h;refine sk ?_;cases h;exact ⟨rfl,(sI 3 [0,1,6,9,11])⟩
 refine sq (bE h fun zT xR h=>r0 [iK 2 {} (zAk zC.1 zT xR)] [(12,.bool zT.1),(13,.bool zT.2.1),(14,.bool zT.2.2.1),(15,.bool zT.2.2.2)] (s0 [] [(16,Ii 0),(17,Ii (-1))] (sq (s0 [] [(56,.bool zT.1)] (bE h fun zR wA h=>?_)))));refine xP (mk [(0,Ss zZ),(1,Sq 2 yI z6),(6,Pp 0),(9,Pp 1),(11,Pp 2),(12,.bool zT.1),(13,.bool zT.2.1),(14,.bool zT.2.2.1),(15,.bool zT.2.2.2),(16,Ii zR.1),(17,Ii (-1))] [(0,pS),(1,Vb 186 [Sb zR.2.1,Ii zR.2.2.1,Ii zR.2.2.2]),(2,Vb 112 [Ii zM.1,Ii zC.1,.str ([]:List Int),Ii 0,Ii 0,.nilsl])] 3) ?_ ?_
 ·replace h:=wA;refine ch 56 h ?_ ?_
  rotate_left
  ·intro xG h;refine sk ?_;cases h;exact ⟨rfl,(sI 3 [0,1,6,9,11,12,13,14,15,16,17])⟩
  intro xG h;refine bE h fun zU wS h=>r2 [iJ 1 { ids:=[1] } [Pp 1] (AM F (⟨zM.2.b,zM.2.used,zE⟩:pE) zU wS)] [] [(16,Ii zU.1)] [] [(1,Vb 186 (dU zU.2))] 3 ?_;cases h;exact ⟨rfl,(sI 3 [0,1,6,9,11,12,13,14,15,16,17])⟩
 refine sq (s0 [] [(59,.bool zT.2.1)] (bE h fun yK vB h=>?_));refine xP (mk [(0,Ss zZ),(1,Sq 2 yI z6),(6,Pp 0),(9,Pp 1),(11,Pp 2),(12,.bool zT.1),(14,.bool zT.2.2.1),(15,.bool zT.2.2.2),(16,Ii zR.1),(17,Ii (-1))] [(0,pS),(1,Vb 186 [Sb yK.1,Ii yK.2.1,Ii yK.2.2.1]),(2,Vb 112 [Ii zM.1,Ii zC.1,.str ([]:List Int),Ii yK.2.2.2,Ii 0,.nilsl])] 3) ?_ ?_
 ·replace h:=vB;refine ch 59 h ?_ ?_
  rotate_left
  ·intro wR h;refine sk ?_;cases h;exact ⟨rfl,(sI 3 [0,1,6,9,11,12,14,15,16,17])⟩
  intro wR h;refine bE h fun yF vM h=>r2 [iJ 1 { ids:=[1] } [Pp 1] (AM F (⟨zR.2.1,zR.2.2.1,zR.2.2.2⟩:pE) yF vM)] [] [] [] [(1,Vb 186 (dU yF.2)),(2,Vb 112 [Ii zM.1,Ii zC.1,.str ([]:List Int),Ii yF.1,Ii 0,.nilsl])] 3 ?_;cases h;exact ⟨rfl,(sI 3 [0,1,6,9,11,12,14,15,16,17])⟩
 refine sq (s0 [] [(63,.bool zT.2.2.1)] (bE h fun xW v7 h=>?_));refine xP (mk [(0,Ss zZ),(1,Sq 2 yI z6),(6,Pp 0),(9,Pp 1),(11,Pp 2),(12,.bool zT.1),(15,.bool zT.2.2.2),(16,Ii zR.1),(17,Ii (-1))] [(0,pS),(1,Vb 186 [Sb xW.1,Ii xW.2.1,Ii xW.2.2.1]),(2,Vb 112 [Ii zM.1,Ii zC.1,.str ([]:List Int),Ii yK.2.2.2,Ii xW.2.2.2,.nilsl])] 3) ?_ ?_
 ·replace h:=v7;refine ch 63 h ?_ ?_
  rotate_left
  ·intro vR h;refine sk ?_;cases h;exact ⟨rfl,(sI 3 [0,1,6,9,11,12,15,16,17])⟩
  intro vR h;refine bE h fun yY uB h=>r2 [iJ 1 { ids:=[1] } [Pp 1] (AM F (⟨yK.1,yK.2.1,yK.2.2.1⟩:pE) yY uB)] [] [] [] [(1,Vb 186 (dU yY.2)),(2,Vb 112 [Ii zM.1,Ii zC.1,.str ([]:List Int),Ii yK.2.2.2,Ii yY.1,.nilsl])] 3 ?_;cases h;exact ⟨rfl,(sI 3 [0,1,6,9,11,12,15,16,17])⟩
 refine sq (s0 [] [(67,.bool zT.2.2.2)] (bE h fun vZ uX h=>?_));refine xP (mk [(0,Ss zZ),(1,Sq 2 yI z6),(6,Pp 0),(9,Pp 1),(11,Pp 2),(12,.bool zT.1),(16,Ii zR.1),(17,Ii vZ.1)] [(0,pS),(1,Vb 186 [Sb vZ.2.1,Ii vZ.2.2.1,Ii vZ.2.2.2]),(2,Vb 112 [Ii zM.1,Ii zC.1,.str ([]:List Int),Ii yK.2.2.2,Ii xW.2.2.2,.nilsl])] 3) ?_ ?_
 ·replace h:=uX;refine ch 67 h ?_ ?_
  rotate_left
  ·intro uO h;refine sk ?_;cases h;exact ⟨rfl,(sI 3 [0,1,6,9,11,12,16,17])⟩
  intro uO h;refine bE h fun yH u5 h=>r2 [iJ 1 { ids:=[1] } [Pp 1] (AM F (⟨xW.1,xW.2.1,xW.2.2.1⟩:pE) yH u5)] [] [(17,Ii yH.1)] [] [(1,Vb 186 (dU yH.2))] 3 ?_;cases h;exact ⟨rfl,(sI 3 [0,1,6,9,11,12,16,17])⟩
 refine sq (bE h fun o_6 uP h=>?_);refine vL (K1:=kS prog o_6 0 (fun q0=>mk [(0,Ss zZ),(1,Sq 2 yI z6),(6,Pp 0),(9,Pp 1),(11,Pp 2),(12,.bool zT.1),(16,Ii zR.1),(17,Ii vZ.1)] [(0,pS),(1,Vb 186 [Sb vZ.2.1,Ii vZ.2.2.1,Ii vZ.2.2.2]),(2,Vb 112 [Ii zM.1,Ii zC.1,.str ([]:List Int),Ii yK.2.2.2,Ii xW.2.2.2,.nilsl])] 3) Tryz.f116 (fun q1=>[]) fun q1=>.tuple [x9 q1.1,Ii q1.2.1,Ii q1.2.2]) ?_ ?_
 ·replace h:=uP;refine yQ (id:=0) zk ?_;refine c0 [] 70 h [] ?_ ?_
  ·intro tJ h;refine s2 [] [0,1,9,11] [(7,Ii 0),(8,Ii vZ.2.2.2)] [1,2] [] 3 (wz [0] [] [] [0] [(6,Pp 0),(7,Ii 0),(8,Ii vZ.2.2.2)] [(0,Vb 112 (u7 zL2))] (ar 112 (ar true (ar (Ii 0) (ar (Ii 0) (ar (.str ([]:List Int):AV) (ar (Ii 0) (ar (Ii 0) (ar ([]:List AV) an)))))))) ?_);cases h;exact rt ry
  intro tJ h;refine sq (ad 81 h ?_ ?_ ?_)
  ·rcases Bool.eq_false_or_eq_true zT.1 with wJ | wJ
   ·rcases bft (decide (zR.1<0)) with wN | wN
    ·exact rm [iG 5 4,iH 9 Ht,iH 10 Ht,iR 3 wJ,iR 4 wN,iC wJ,iC wN,iC wJ] (w9 wJ (ort wN))
    ·exact rm [iH 9 Hf,iH 10 Ht,iR 3 wJ,iR 3 wN,iN 7 AV.str zZ,iC wN,iC wJ,iC wN,iC wJ] (w9 wJ (orf wN rfl))
   ·exact rm [iG 2 3,iH 9 Hg,iH 10 Hf,iR 5 wJ] (uN wJ)
  ·intro qU h;refine sk (cd 81 (zT.1&&(decide (zR.1<0)||decide (zR.1>=(lN zZ)))) ?_ ?_)
   rotate_left
   ·intro hg;exact Bool.noConfusion (qU.symm.trans hg)
   intro _;refine s2 [] [0,1,9,11] [(7,Ii 0),(8,Ii 2)] [1,2] [] 3 (wz [0] [] [] [0] [(6,Pp 0),(7,Ii 0),(8,Ii 2)] [(0,Vb 112 (u7 zL2))] (ar 112 (ar true (ar (Ii 0) (ar (Ii 0) (ar (.str ([]:List Int):AV) (ar (Ii 0) (ar (Ii 0) (ar ([]:List AV) an)))))))) ?_);cases h;exact rt ry
  intro qU h;refine xP (mk [(0,Ss zZ),(1,Sq 2 yI z6),(6,Pp 0),(9,Pp 1),(11,Pp 2),(12,.bool zT.1),(16,Ii zR.1),(17,Ii vZ.1),(81,.bool (decide (vZ.1<(-1))||decide (vZ.1>=(lN z6))))] [(0,pS),(1,Vb 186 [Sb vZ.2.1,Ii vZ.2.2.1,Ii vZ.2.2.2]),(2,Vb 112 [Ii zM.1,Ii zC.1,.str ([]:List Int),Ii yK.2.2.2,Ii xW.2.2.2,.nilsl])] 3) ?_ ?_
  ·rcases bft (decide (vZ.1<(-1))) with wK | wK
   ·refine r0 [iG 3 4,iH 7 Ht,iR 5 wK] [(81,.bool true)] ?_;exact ⟨rfl,(sw [0,1,2] [] [.s 0,.s 1,.s 6,.s 9,.s 11,.s 12,.s 16,.s 17,.a 81 (.bool (decide (vZ.1<(-1))||decide (vZ.1>=(lN z6))))] [.s 0,.s 1,.s 2] (ac (congrArg AV.bool (ort wK):(.bool true:AV)=.bool (decide (vZ.1<(-1))||decide (vZ.1>=(lN z6)))) an))⟩
   ·refine r0 [iH 7 Hf,iR 3 wK,iN 5 yI z6,iR 2 wK] [(81,.bool (decide (vZ.1>=(lN z6))))] ?_;exact ⟨rfl,(sw [0,1,2] [] [.s 0,.s 1,.s 6,.s 9,.s 11,.s 12,.s 16,.s 17,.a 81 (.bool (decide (vZ.1<(-1))||decide (vZ.1>=(lN z6))))] [.s 0,.s 1,.s 2] (ac (congrArg AV.bool (orf wK rfl):(.bool (decide (vZ.1>=(lN z6))):AV)=.bool (decide (vZ.1<(-1))||decide (vZ.1>=(lN z6)))) an))⟩
  refine ch 81 h ?_ ?_
  rotate_left
  ·intro a8 h;refine sk ?_;cases h;exact ⟨rfl,(sI 3 [0,1,6,9,11,12,16,17])⟩
  intro a8 h;refine s2 [] [0,1,9,11] [(7,Ii 0),(8,Ii 2)] [1,2] [] 3 (wz [0] [] [] [0] [(6,Pp 0),(7,Ii 0),(8,Ii 2)] [(0,Vb 112 (u7 zL2))] (ar 112 (ar true (ar (Ii 0) (ar (Ii 0) (ar (.str ([]:List Int):AV) (ar (Ii 0) (ar (Ii 0) (ar ([]:List AV) an)))))))) ?_);cases h;exact rt ry
 intro e st1 hk;rcases o_6 with zX | xJ
 rotate_left
 ·obtain ⟨rfl,hf⟩:=hk;cases h;exact ⟨st1,Sub.refl _ _,.inr rfl,hf⟩
 obtain ⟨rfl,hs⟩:=hk;refine ⟨_,hs,?_⟩;refine sq (s0 [] [(102,.bool zT.1)] (bE h fun dK t7 h=>?_));refine xP (mk [(0,Ss zZ),(1,Sq 2 yI z6),(6,Pp 0),(9,Pp 1),(11,Pp 2),(17,Ii vZ.1)] [(0,pS),(1,Vb 186 [Sb vZ.2.1,Ii vZ.2.2.1,Ii vZ.2.2.2]),(2,Vb 112 [Ii zM.1,Ii zC.1,.str dK,Ii yK.2.2.2,Ii xW.2.2.2,.nilsl])] 3) ?_ ?_
 ·replace h:=t7;refine ch 102 h ?_ ?_
  rotate_left
  ·intro cD h;refine sk ?_;cases h;exact ⟨rfl,(sI 3 [0,1,6,9,11,17])⟩
  intro cD h;refine bE h fun zH t6 h=>r2 [iF 2 AV.str t6] [] [] [] [(2,Vb 112 [Ii zM.1,Ii zC.1,.str zH,Ii yK.2.2.2,Ii xW.2.2.2,.nilsl])] 3 ?_;cases h;exact ⟨rfl,(sI 3 [0,1,6,9,11,17])⟩
 refine sq (bE h fun yR jE h=>r2 [iK 3 { ids:=[3] } (zFd F zZ z6 vZ.1 yR jE)] [0,1] [] [] [(2,Vb 112 [Ii zM.1,Ii zC.1,.str dK,Ii yK.2.2.2,Ii xW.2.2.2,.own 3 yR.1.length]),(3,Rb 9 1 (Ms yR.1))] 4 (sq (sq (bE h fun y8 jD h=>r0 [iM AV.str yR.1,iL 1 { lend:=[3] } [.agg [Ii zM.1,Ii zC.1,.str dK,Ii yK.2.2.2,Ii xW.2.2.2,Ss yR.1]] (O8 F (⟨zM.1,zC.1,dK,yK.2.2.2,xW.2.2.2,yR.1⟩:xD) y8 jD) ⟨rfl,rfl,rfl,rfl,rfl,rfl,rfl,rfl,trivial⟩] [(118,.bool (y8 != 0))] (ch 118 h ?_ ?_)))))
 ·intro fY h;refine s2 [] [9,11] [(7,Ii 0),(8,Ii 10)] [1,2,3] [] 4 (wz [0] [] [] [0] [(6,Pp 0),(7,Ii 0),(8,Ii 10)] [(0,Vb 112 (u7 zL2))] (ar 112 (ar true (ar (Ii 0) (ar (Ii 0) (ar (.str ([]:List Int):AV) (ar (Ii 0) (ar (Ii 0) (ar ([]:List AV) an)))))))) ?_);cases h;exact rt rx
 intro fY h;refine sk (s2 [] [9,11] [(7,Ii vZ.2.2.1),(8,Ii 0)] [1,2] [(0,Vb 112 [Ii zM.1,Ii zC.1,.str dK,Ii yK.2.2.2,Ii xW.2.2.2,.own 3 yR.1.length])] 4 (wz [0] [3] [] [0] [(6,Pp 0),(7,Ii vZ.2.2.1),(8,Ii 0)] [(0,Vb 112 (u7 (⟨zM.1,zC.1,dK,yK.2.2.2,xW.2.2.2,yR.1⟩:xD)))] (ar 112 (ar true (ac (by first | (simp;done) | (simp;omega):yR.1.length=((List.map AV.str yR.1)).length) (ar (Ii zM.1) (ar (Ii zC.1) (ar (.str dK:AV) (ar (Ii yK.2.2.2) (ar (Ii xW.2.2.2) (ar 1 (ar (Ms yR.1) (ar true an))))))))))) ?_));cases h;exact rt rx
theorem zCx (F:Nat) (zO:List xD) (r:Int) (h:D3 F zO=some r):yS prog 89 [] [] [Sq 6 x9 zO] [] (Ii r):=by
 refine tI Tryz.f89 ?_;unfold D3 at h;refine sE [] [(0,Sq 6 x9 zO)] [] 0 (sq (s0 [iN 1 x9 zO] [(6,Sq 6 x9 zO),(7,Ii (lN zO)),(8,Ii 0)] (bE h fun zE zJ h=>?_)));refine vL (K1:=kS prog zE 0 (fun q0=>mk [] [] 0) Tryz.f89 (fun q1=>[]) fun q1=>Ii q1) ?_ ?_
 ·replace h:=zJ;refine yQ (id:=0) zk ?_;refine w0 [] [] [(0,Sq 6 x9 zO),(6,Sq 6 x9 zO),(7,Ii (lN zO)),(8,Ii 0)] [] ?_;refine wD (fun n st=>∃ (zP:Int),st=mk [(0,Sq 6 x9 zO),(6,Sq 6 x9 zO),(7,Ii (lN zO)),(8,Ii zP)] [] 0/\DD F zO n zP=some zE) F zk ⟨_,rfl,h⟩ ?_ ?_
  ·rintro _ ⟨_,_,h⟩;exact wC (h:(none:Option (Unit⊕Int))=some zE)
  rintro z5 _ ⟨zP,rfl,h⟩;replace h:EN F zO (DD F zO z5) zP=some zE:=h;unfold EN at h;refine s0 [] [(9,.bool (decide (zP<(lN zO))))] (sq (ch 9 h ?_ ?_))
  rotate_left
  ·intro z8 h;refine wB (id:=0) zk ?_;cases h;exact ⟨rfl,(sI 0 [])⟩
  intro z8 h;refine sk (sq ?_);refine yQ (id:=1) zk ?_;refine sq (bE h fun zH zW h=>r2 [iH 3 { id:=0 },iF 1 x9 zW] [] [(3,Ii zP),(4,Pp 0)] [] [(0,Vb 112 (u7 zH))] 1 (sq (sq (bE h fun zA yU h=>r0 [iK 1 {} (O8 F zH zA yU)] [(5,Ii zA)] (c0 [] 16 h [] ?_ ?_)))))
  ·intro yV h;refine s2 [] [0,6,4] [(2,Ii zA)] [0] [] 1 ?_;cases h;exact rt ry
  intro yV h;refine sk (sq (bE h fun zN xR h=>?_));refine xP (mk [(0,Sq 6 x9 zO),(6,Sq 6 x9 zO),(7,Ii (lN zO)),(8,Ii zP),(30,.bool zN)] [] 0) ?_ ?_
  ·replace h:=xR;rcases bft (decide (zP>0)) with yC | yC
   ·replace h:=xN yC h;refine bE h fun yO xB h=>r1 [iH 12 Ht,iR 6 yC,iF 8 x9 xB,iR 4 yC] [4] [(21,Pp 0),(22,Ii zH.At),(23,Sq 6 x9 zO),(24,Ii zP),(25,Ii (zI (zP - 1))),(26,.ref (x9 yO)),(27,.ref (Ii yO.At)),(28,Ii yO.At),(29,.bool (decide (zH.At<yO.At))),(30,.bool (decide (zH.At<yO.At)))] ?_;cases h;exact ⟨rfl,(sI 0 [0,6,7,8,30])⟩
   ·replace h:=xO yC h;refine r2 [iG 3 9,iH 12 Hf,iR 10 yC] [4] [(21,.tuple []),(22,.tuple []),(23,.tuple []),(24,.tuple []),(25,.tuple []),(26,.tuple []),(27,.tuple []),(28,.tuple []),(29,.tuple []),(30,.bool false)] [0] [] 1 ?_;cases h;exact ⟨rfl,(sI 0 [0,6,7,8,30])⟩
  refine ch 30 h ?_ ?_
  rotate_left
  ·intro xG h;refine sk (r0 [] [(8,Ii (zI (zP+1)))] ?_);exact ⟨_,(sI 0 [0,6,7,8]),_,rfl,h⟩
  intro xG h;refine s1 [] [0,6] [(2,Ii 11)] ?_;cases h;exact rt ry
 intro e st1 hk;rcases zE with zX | xJ
 rotate_left
 ·obtain ⟨rfl,hf⟩:=hk;cases h;exact ⟨st1,Sub.refl _ _,.inr rfl,hf⟩
 obtain ⟨rfl,hs⟩:=hk;refine ⟨_,hs,?_⟩;refine s0 [] [(2,Ii 0)] ?_;cases h;exact rt rx
theorem TP (F:Nat) (zN:z7) (r:Int) (h:gE F zN=some r):yS prog 47 [] [] [yG zN] [] (Ii r):=by
 refine tI Tryz.f47 ?_;unfold gE at h;refine sE [iH 0 { id:=0 }] [(1,Pp 0)] [(0,Vb 56 (wU zN))] 1 (sq (s2 [iH 6 { id:=1 }] [] [(11,.own 1 3),(12,Ii ((3:Nat):Int)),(13,Ii 0)] [] [(1,Rb 3 1 (Mi [zN.Thread,zN.Serial,zN.Lost]))] 2 (bE h fun zE zJ h=>?_)));refine vL (K1:=kS prog zE 0 (fun q0=>mk [(1,Pp 0)] [(0,Vb 56 (wU zN))] 1) Tryz.f47 (fun q1=>[]) fun q1=>Ii q1) ?_ ?_
 ·replace h:=zJ;refine yQ (id:=0) zk ?_;refine wz [0,1] [] [11] [] [(1,Pp 0),(11,.own 1 (([zN.Thread,zN.Serial,zN.Lost]).length)),(12,Ii ((3:Nat):Int)),(13,Ii 0)] [(0,Vb 56 (wU zN)),(1,Rb 3 1 (Mi [zN.Thread,zN.Serial,zN.Lost]))] (ac (congrArg (AV.own _) (by first | (simp;done) | (simp;omega)):(.own 1 3:AV)=.own 1 (([zN.Thread,zN.Serial,zN.Lost]).length)) an) ?_;refine wD (fun n st=>∃ (zP:Int),st=mk [(1,Pp 0),(11,.own 1 (([zN.Thread,zN.Serial,zN.Lost]).length)),(12,Ii ((3:Nat):Int)),(13,Ii zP)] [(0,Vb 56 (wU zN)),(1,Rb 3 1 (Mi [zN.Thread,zN.Serial,zN.Lost]))] 2/\H5 F zN n zP=some zE) F zk ⟨_,rfl,h⟩ ?_ ?_
  ·rintro _ ⟨_,_,h⟩;exact wC (h:(none:Option (Unit⊕Int))=some zE)
  rintro z5 _ ⟨zP,rfl,h⟩;replace h:dV F zN (H5 F zN z5) zP=some zE:=h;unfold dV at h;refine s0 [] [(14,.bool (decide (zP<((3:Nat):Int))))] (sq (ch 14 h ?_ ?_))
  rotate_left
  ·intro z8 h;refine wB (id:=0) zk ?_;cases h;exact ⟨rfl,(sI 1 [1])⟩
  intro z8 h;refine sk (sq ?_);refine yQ (id:=1) zk ?_;refine sq (bE h fun zH zW h=>r0 [iH 1 { av:=Ii zH },iC (qH zW:0<=zP),iC (by first | (simp;done) | simpa using qJ zW:zP<((([zN.Thread,zN.Serial,zN.Lost]).length:Nat):Int)),iC (qI zW:(Mi [zN.Thread,zN.Serial,zN.Lost])[zP.toNat]?=some (Ii zH))] [(4,Ii zH)] (ad 22 h ?_ ?_ ?_))
  ·rcases bft (decide (zH<0)) with yC | yC
   ·exact rm [iG 3 2,iH 5 Ht,iR 3 yC] (ort yC)
   ·exact rm [iH 5 Hf,iR 3 yC] (orf yC rfl)
  rotate_left
  ·intro yV h;refine sk (r0 [] [(13,Ii (zI (zP+1)))] ?_);exact ⟨_,(sI 2 [1,11,12,13]),_,rfl,h⟩
  intro yV h;refine s2 [] [1,11] [(2,Ii 2)] [0,1] [] 2 ?_;cases h;exact rt ry
 intro e st1 hk;rcases zE with zX | xJ
 rotate_left
 ·obtain ⟨rfl,hf⟩:=hk;cases h;exact ⟨st1,Sub.refl _ _,.inr rfl,hf⟩
 obtain ⟨rfl,hs⟩:=hk;refine ⟨_,hs,?_⟩;refine sq ?_;refine yQ (id:=2) zk ?_;refine sq (s0 [] [(24,.bool (decide (zN.Lost>zN.Serial)))] (bE h fun zR yU h=>?_));refine xP (mk [(1,Pp 0),(24,.bool zR)] [(0,Vb 56 (wU zN))] 1) ?_ ?_
 ·replace h:=yU;refine ch 24 h ?_ ?_
  ·intro xG h;refine sk ?_;cases h;exact ⟨rfl,(sI 1 [1,24])⟩
  intro xG h;refine r0 [iN 4 x9 zN.Events] [(24,.bool (decide ((zI (zN.Serial+(lN zN.Events)))>1000000000000000)))] ?_;cases h;exact ⟨rfl,(sI 1 [1,24])⟩
 refine ch 24 h ?_ ?_
 ·intro wR h;refine s2 [] [1] [(2,Ii 2)] [0] [] 1 ?_;cases h;exact rt rx
 intro wR h;refine c0 [iN 2 x9 zN.Events] 37 h [] ?_ ?_
 ·intro vR h;refine s2 [] [1] [(2,Ii 8)] [0] [] 1 ?_;cases h;exact rt rx
 intro vR h;refine c0 [iN 2 x9 zN.Events] 42 h [] ?_ ?_
 ·intro uO h;refine s2 [] [1] [(2,Ii 7)] [0] [] 1 ?_;cases h;exact rt rx
 intro uO h;refine sk (sq (bE h fun zA xB h=>r2 [iK 2 {} (zCx F zN.Events zA xB)] [1] [(2,Ii zA)] [0] [] 1 ?_));cases h;exact rt rx
theorem zFo (F:Nat) (zL:List (List Int)) (y0:List Int) (r:Int) (h:JJ F zL y0=some r):yS prog 154 [] [] [Ss zL,.str y0] [] (Ii r):=by
 refine tI Tryz.f154 ?_;unfold JJ at h;refine sE [] [(0,Ss zL),(1,.str y0)] [] 0 (sq (s0 [iN 1 AV.str zL] [(7,Ii (lN zL)),(8,Ii 0)] (bE h fun zE zJ h=>?_)));refine vL (K1:=kS prog zE 0 (fun q0=>mk [] [] 0) Tryz.f154 (fun q1=>[]) fun q1=>Ii q1) ?_ ?_
 ·replace h:=zJ;refine yQ (id:=0) zk ?_;refine w0 [] [] [(0,Ss zL),(1,.str y0),(7,Ii (lN zL)),(8,Ii 0)] [] ?_;refine wD (fun n st=>∃ (zP:Int),st=mk [(0,Ss zL),(1,.str y0),(7,Ii (lN zL)),(8,Ii zP)] [] 0/\HV F zL y0 n zP=some zE) F zk ⟨_,rfl,h⟩ ?_ ?_
  ·rintro _ ⟨_,_,h⟩;exact wC (h:(none:Option (Unit⊕Int))=some zE)
  rintro z5 _ ⟨zP,rfl,h⟩;replace h:mP F zL y0 (HV F zL y0 z5) zP=some zE:=h;unfold mP at h;refine s0 [] [(9,.bool (decide (zP<(lN zL))))] (sq (ch 9 h ?_ ?_))
  rotate_left
  ·intro z8 h;refine wB (id:=0) zk ?_;cases h;exact ⟨rfl,(sI 0 [])⟩
  intro z8 h;refine sk (sq ?_);refine yQ (id:=1) zk ?_;refine s0 [] [(5,Ii zP)] (sq (bE h fun zH zW h=>r0 [iF 3 AV.str zW] [(16,.bool (y0==zH))] (ch 16 h ?_ ?_)))
  rotate_left
  ·intro yV h;refine sk (r0 [] [(8,Ii (zI (zP+1)))] ?_);exact ⟨_,(sI 0 [0,1,7,8]),_,rfl,h⟩
  intro yV h;refine s1 [] [0] [(4,Ii zP)] ?_;cases h;exact rt ry
 intro e st1 hk;rcases zE with zX | xJ
 rotate_left
 ·obtain ⟨rfl,hf⟩:=hk;cases h;exact ⟨st1,Sub.refl _ _,.inr rfl,hf⟩
 obtain ⟨rfl,hs⟩:=hk;refine ⟨_,hs,?_⟩;refine s0 [] [(4,Ii (-1))] ?_;cases h;exact rt rx
theorem zGy (zL:List (List Int)) (r:(List (List Int))) (h:OX zL=some r):yS prog 155 [] [] [Ss zL] [.row 9 1 (Ms r)] (.own 0 r.length):=by
 refine tI Tryz.f155 ?_;unfold OX at h;refine sE [iH 0 { id:=0,m:=1 }] [(0,Ss zL)] [] 1 (sq (s0 [] [(4,.nb (Ms zL))] ?_));refine GS (t:=4) (l:=(Ms zL)) zk zk ?_ ?_
 ·intro zW;replace zW:=List.map_eq_nil_iff.1 zW;replace h:=Eq.trans (show (some [])=((need (((([]:List (List Int))).length+zL.length) * 16<=140737488355328)).bind fun _ =>
 some ([]++zL)) from by simp [zW,need]) h
  refine sE [iH 0 { id:=1,m:=1 }] [(2,.own 1 0)] [(1,Rb 9 1 [])] 2 (wz [1] [] [2] [] [(2,.own 0 ((([]:List (List Int))).length))] [(0,Rb 9 1 [])] (ac (congrArg (AV.own _) (by first | (simp;done) | (simp;omega)):(.own 1 0:AV)=.own 1 ((([]:List (List Int))).length)) an) ?_);cases h;exact rt rx
 refine sk (sq (nE h fun zJ h=>rE [iH 0 { id:=1 },iH 2 { id:=2,l:=(Ms ([]++zL)),n:=(([]++zL)).length },iA 0,iC trivial,iC (by simp:(List.map AV.str ([]++zL))=[]++(List.map AV.str zL)),iC (by simp:(([]++zL)).length=((List.map AV.str ([]++zL))).length),iC (by first | (simp;done) | simpa using zJ:(([]:List AV).length+((List.map AV.str zL):List AV).length) * 16<=140737488355328)] [(2,.own 2 ((([]++zL)).length))] [(2,Rb 9 1 (Ms ([]++zL)))] 3 (w0 [2] [] [(2,.own 0 ((([]++zL)).length))] [(0,Rb 9 1 (Ms ([]++zL)))] ?_)));cases h;exact rt rx
theorem zAr (F:Nat) (zZ:List (List Int)) (zL:List Int) (r:Int×(List (List Int))×Int) (h:rW F zZ zL=some r):yS prog 132 [] [] [Ss zZ,.str zL] [] (.tuple [Ii r.1,Ss r.2.1,Ii r.2.2]):=by
 refine tI Tryz.f132 ?_;unfold rW at h;refine sE [] [(0,Ss zZ),(1,.str zL)] [] 0 (sq (sq (bE h fun zA zJ h=>r0 [iK 1 {} (G5 F zL zA zJ)] [(7,Ii zA)] (c0 [] 12 h [] ?_ ?_))))
 ·intro z8 h;refine s1 [] [0] [(4,Ii 0),(5,Ss zZ),(6,Ii zA)] ?_;cases h;exact rt rx
 intro z8 h;refine sk (sq (sq (bE h fun zC zW h=>r0 [iK 2 {} (zFo F zZ zL zC zW)] [(8,Ii zC)] (c0 [] 19 h [] ?_ ?_))))
 ·intro yV h;refine s1 [] [0] [(4,Ii zC),(5,Ss zZ),(6,Ii 0)] ?_;cases h;exact rt rx
 intro yV h;refine sk (sq (c0 [iN 1 AV.str zZ] 24 h [] ?_ ?_))
 ·intro xG h;refine s1 [] [0] [(4,Ii 0),(5,Ss zZ),(6,Ii 6)] ?_;cases h;exact rt rx
 intro xG h;refine sk (sq (bE h fun zM yU h=>nE h fun xB h=>r2 [iH 5 { id:=1 },iN 1 AV.str zZ,iK 3 { ids:=[0] } (zGy zZ zM yU),iM AV.str zM,iA 1,iP 6 2 AV.str zM [zL] 16 xB] [0] [(4,Ii (lN zZ)),(5,.own 2 (((zM++[zL])).length)),(6,Ii 0)] [] [(2,Rb 9 1 (Ms (zM++[zL])))] 3 (wz [] [2] [5] [] [(4,Ii (lN zZ)),(5,Ss (zM++[zL])),(6,Ii 0)] [] (ac (by first | (simp;done) | (simp;omega):((zM++[zL])).length=((List.map AV.str (zM++[zL]))).length) (ar 1 (ar ((Ms (zM++[zL])):List AV) (ar true an)))) ?_)));cases h;exact rt rx
theorem zGk (zL:List zV) (r:(List zV)) (h:OO zL=some r):yS prog 157 [] [] [Sq 2 yI zL] [.row 144 2 (Mp yI r)] (.own 0 r.length):=by
 refine tI Tryz.f157 ?_;unfold OO at h;refine sE [iH 0 { id:=0,m:=1 }] [(0,Sq 2 yI zL)] [] 1 (sq (s0 [] [(4,.nb (Mp yI zL))] ?_));refine GS (t:=4) (l:=(Mp yI zL)) zk zk ?_ ?_
 ·intro zW;replace zW:=List.map_eq_nil_iff.1 zW;replace h:=Eq.trans (show (some [])=((need (((([]:List zV)).length+zL.length) * 16<=140737488355328)).bind fun _ =>
 some ([]++zL)) from by simp [zW,need]) h
  refine sE [iH 0 { id:=1,m:=1 }] [(2,.own 1 0)] [(1,Rb 144 2 [])] 2 (wz [1] [] [2] [] [(2,.own 0 ((([]:List zV)).length))] [(0,Rb 144 2 [])] (ac (congrArg (AV.own _) (by first | (simp;done) | (simp;omega)):(.own 1 0:AV)=.own 1 ((([]:List zV)).length)) an) ?_);cases h;exact rt rx
 refine sk (sq (nE h fun zJ h=>rE [iH 0 { id:=1 },iH 2 { id:=2,l:=(Mp yI ([]++zL)),n:=(([]++zL)).length },iA 0,iC trivial,iC (by simp:(List.map yI ([]++zL))=[]++(List.map yI zL)),iC (by simp:(([]++zL)).length=((List.map yI ([]++zL))).length),iC (by first | (simp;done) | simpa using zJ:(([]:List AV).length+((List.map yI zL):List AV).length) * 16<=140737488355328)] [(2,.own 2 ((([]++zL)).length))] [(2,Rb 144 2 (Mp yI ([]++zL)))] 3 (w0 [2] [] [(2,.own 0 ((([]++zL)).length))] [(0,Rb 144 2 (Mp yI ([]++zL)))] ?_)));cases h;exact rt rx
theorem zD1 (F:Nat) (zL:List zV) (y0:zV) (r:Int) (h:H2 F zL y0=some r):yS prog 158 [] [] [Sq 2 yI zL,.agg [Ii y0.c0,Ii y0.c1]] [] (Ii r):=by
 refine tI Tryz.f158 ?_;unfold H2 at h;refine sE [iH 0 { id:=0 }] [(0,Sq 2 yI zL),(3,Pp 0)] [(0,Vb 144 [Ii y0.c0,Ii y0.c1])] 1 (sq (s0 [iN 1 yI zL] [(7,Ii (lN zL)),(8,Ii 0)] (bE h fun zE zJ h=>?_)));refine vL (K1:=kS prog zE 0 (fun q0=>mk [] [] 0) Tryz.f158 (fun q1=>[]) fun q1=>Ii q1) ?_ ?_
 ·replace h:=zJ;refine yQ (id:=0) zk ?_;refine w0 [0] [] [(0,Sq 2 yI zL),(3,Pp 0),(7,Ii (lN zL)),(8,Ii 0)] [(0,Vb 144 [Ii y0.c0,Ii y0.c1])] ?_;refine wD (fun n st=>∃ (zP:Int),st=mk [(0,Sq 2 yI zL),(3,Pp 0),(7,Ii (lN zL)),(8,Ii zP)] [(0,Vb 144 [Ii y0.c0,Ii y0.c1])] 1/\JQ F zL y0 n zP=some zE) F zk ⟨_,rfl,h⟩ ?_ ?_
  ·rintro _ ⟨_,_,h⟩;exact wC (h:(none:Option (Unit⊕Int))=some zE)
  rintro z5 _ ⟨zP,rfl,h⟩;replace h:oI F zL y0 (JQ F zL y0 z5) zP=some zE:=h;unfold oI at h;refine s0 [] [(9,.bool (decide (zP<(lN zL))))] (sq (ch 9 h ?_ ?_))
  rotate_left
  ·intro z8 h;refine wB (id:=0) zk ?_;cases h;exact ⟨rfl,(sI 0 [])⟩
  intro z8 h;refine sk (sq ?_);refine yQ (id:=1) zk ?_;refine s0 [] [(5,Ii zP)] (sq (bE h fun zH zW h=>r0 [iH 5 { b:=(decide (y0=zH)),mks:=[.int .i64,.int .i64] },iF 3 yI zW,iC (WR:nD prog 144 [.int .i64,.int .i64]),iC (CP (f:=yI) OV y0 zH:((decide (y0=zH))=true↔AV.agg [Ii y0.c0,Ii y0.c1]=AV.agg [Ii zH.c0,Ii zH.c1]))] [(16,.bool (decide (y0=zH)))] (ch 16 h ?_ ?_)))
  rotate_left
  ·intro yV h;refine sk (r0 [] [(8,Ii (zI (zP+1)))] ?_);exact ⟨_,(sI 1 [0,3,7,8]),_,rfl,h⟩
  intro yV h;refine s2 [] [0,3] [(4,Ii zP)] [0] [] 1 ?_;cases h;exact rt ry
 intro e st1 hk;rcases zE with zX | xJ
 rotate_left
 ·obtain ⟨rfl,hf⟩:=hk;cases h;exact ⟨st1,Sub.refl _ _,.inr rfl,hf⟩
 obtain ⟨rfl,hs⟩:=hk;refine ⟨_,hs,?_⟩;refine s0 [] [(4,Ii (-1))] ?_;cases h;exact rt rx
theorem zHw (F:Nat) (zZ:List (List Int)) (z6:List zV) (zO:List (List Int)) (r:Int×(List (List Int))×(List zV)×Int) (h:CF F zZ z6 zO=some r):yS prog 133 [] [] [Ss zZ,Sq 2 yI z6,Ss zO] [] (.tuple [Ii r.1,Ss r.2.1,Sq 2 yI r.2.2.1,Ii r.2.2.2]):=by
 refine tI Tryz.f133 ?_;unfold CF at h;refine sE [] [(0,Ss zZ),(1,Sq 2 yI z6),(2,Ss zO)] [] 0 (sq (sq (bE h fun zA zJ h=>r0 [iK 1 {} (Z8 F zO zA zJ)] [(10,Ii zA)] (c0 [] 23 h [] ?_ ?_))))
 ·intro z8 h;refine s1 [] [0,1,2] [(6,Ii 0),(7,Ss zZ),(8,Sq 2 yI z6),(9,Ii zA)] ?_;cases h;exact rt rx
 intro z8 h;refine sk (sq (bE h fun zC zW h=>r2 [iK 2 { ids:=[0] } (zGk z6 zC zW)] [] [(11,Ii (-1)),(12,Ss zZ),(13,.own 0 zC.length)] [] [(0,Rb 144 2 (Mp yI zC))] 1 (sq (s1 [iN 1 AV.str zO] [2] [(30,Ss zO),(31,Ii (lN zO)),(32,Ii 0)] (bE h fun zE yU h=>?_)))));refine vL (K1:=kS prog zE 0 (fun q0=>mk [(11,Ii q0.1),(12,Ss q0.2.1),(13,.own 0 q0.2.2.length)] [(0,Rb 144 2 (Mp yI q0.2.2))] 1) Tryz.f133 (fun q1=>[]) fun q1=>.tuple [Ii q1.1,Ss q1.2.1,Sq 2 yI q1.2.2.1,Ii q1.2.2.2]) ?_ ?_
 ·replace h:=yU;refine yQ (id:=0) zk ?_;refine w0 [0] [] [(0,Ss zZ),(1,Sq 2 yI z6),(11,Ii (-1)),(12,Ss zZ),(13,.own 0 zC.length),(30,Ss zO),(31,Ii (lN zO)),(32,Ii 0)] [(0,Rb 144 2 (Mp yI zC))] ?_;refine wD (fun n st=>∃ (xU:Int),∃ (z5:List (List Int)),∃ (zP:Int),∃ (zK:List zV),st=mk [(0,Ss zZ),(1,Sq 2 yI z6),(11,Ii xU),(12,Ss z5),(13,.own 0 zK.length),(30,Ss zO),(31,Ii (lN zO)),(32,Ii zP)] [(0,Rb 144 2 (Mp yI zK))] 1/\CA F zZ z6 zO n xU z5 zP zK=some zE) F zk ⟨_,_,_,_,rfl,h⟩ ?_ ?_
  ·rintro _ ⟨_,_,_,_,_,h⟩;exact wC (h:(none:Option ((Int×(List (List Int))×(List zV))⊕(Int×(List (List Int))×(List zV)×Int)))=some zE)
  rintro uA _ ⟨xU,z5,zP,zK,rfl,h⟩;replace h:E5 F zZ z6 zO (CA F zZ z6 zO uA) xU z5 zP zK=some zE:=h;unfold E5 at h;refine s0 [] [(33,.bool (decide (zP<(lN zO))))] (sq (ch 33 h ?_ ?_))
  rotate_left
  ·intro yV h;refine wB (id:=0) zk ?_;cases h;exact ⟨rfl,(sI 1 [11,12,13])⟩
  intro yV h;refine sk (sq ?_);refine yQ (id:=1) zk ?_;refine sq (bE h fun zH xB h=>r0 [iF 0 AV.str xB] [(15,.str zH)] (sq (bE h fun zM xR h=>r1 [iK 2 {} (zAr F z5 zH zM xR)] [12] [(16,Ii zM.1),(17,Ss zM.2.1),(18,Ii zM.2.2)] (sq (c0 [] 44 h [] ?_ ?_)))))
  ·intro xG h;refine s2 [] [0,1,13,30,17] [(6,Ii 0),(7,Ss zZ),(8,Sq 2 yI z6),(9,Ii zM.2.2)] [0] [] 1 ?_;cases h;exact rt ry
  intro xG h;refine sk (s1 [] [17] [(12,Ss zM.2.1)] (s2 [iH 3 { id:=1 }] [] [(19,Pp 1)] [] [(1,Vb 144 [Ii xU,Ii zM.1])] 2 (sq (sq (bE h fun zT wA h=>r0 [iM yI zK,iL 2 { lend:=[0] } [Sq 2 yI zK,.agg [Ii xU,Ii zM.1]] (zD1 F zK (⟨xU,zM.1⟩:zV) zT wA) ⟨rfl,rfl,rfl,rfl,rfl,trivial⟩] [(11,Ii zT)] (c0 [] 56 h [] ?_ ?_))))))
  ·intro wR h;refine wB (id:=1) zk ?_;refine rE [] [(0,Ss zZ),(1,Sq 2 yI z6),(11,Ii zT),(12,Ss zM.2.1),(13,.own 0 zK.length),(30,Ss zO),(31,Ii (lN zO)),(32,Ii (zI (zP+1)))] [(0,Rb 144 2 (Mp yI zK))] 2 ?_;exact ⟨_,(sI 1 [0,1,11,12,13,30,31,32]),_,_,_,_,rfl,h⟩
  intro wR h;refine sk (sq (c0 [] 59 h [] ?_ ?_))
  ·intro vR h;refine s2 [] [0,1,13,30,12,19] [(6,Ii 0),(7,Ss zZ),(8,Sq 2 yI z6),(9,Ii 6)] [0,1] [] 2 ?_;cases h;exact rt ry
  intro vR h;refine sk (s0 [] [(11,Ii (lN zK))] (nE h fun wS h=>r2 [iH 2 { id:=2 },iM yI zK,iC (by first | (simp;done) | (simp;omega):1=((List.map yI [(⟨xU,zM.1⟩:zV)])).length),iP 3 3 yI zK [(⟨xU,zM.1⟩:zV)] 16 wS] [19] [(13,.own 3 (((zK++[(⟨xU,zM.1⟩:zV)])).length))] [0,1] [(3,Rb 144 2 (Mp yI (zK++[(⟨xU,zM.1⟩:zV)])))] 4 (r0 [] [(32,Ii (zI (zP+1)))] ?_)));exact ⟨_,(sJ [3] [0,1,11,12,13,30,31,32]),_,_,_,_,rfl,h⟩
 intro e st1 hk;rcases zE with zX | xJ
 rotate_left
 ·obtain ⟨rfl,hf⟩:=hk;cases h;exact ⟨st1,Sub.refl _ _,.inr rfl,hf⟩
 obtain ⟨rfl,hs⟩:=hk;refine ⟨_,hs,?_⟩;refine s1 [] [12,13] [(6,Ii zX.1),(7,Ss zX.2.1),(8,.own 0 zX.2.2.length),(9,Ii 0)] (wz [] [0] [8] [] [(6,Ii zX.1),(7,Ss zX.2.1),(8,Sq 2 yI zX.2.2),(9,Ii 0)] [] (ac (by first | (simp;done) | (simp;omega):zX.2.2.length=((List.map yI zX.2.2)).length) (ar 2 (ar ((Mp yI zX.2.2):List AV) (ar true an)))) ?_);cases h;exact rt rx
end Go.Ab
