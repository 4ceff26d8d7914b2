/- Lemmas. No conditions but those that they name. -/
import Derived.Test.YtcejcgalbcnjnaaGreatPtx4
namespace Go.Ab
open Go Go.Proofs
set_option linter.unusedVariables false
theorem zEY (F:Nat) (zE:z6) (r:yR×Int) (h:bX F zE=some r):y9 prog 17 [] [] [pT zE] [] (.tuple [bif (r.2 != 0) then .nilp else .ref (jZ r.1),Ii r.2]):=by
 refine tI Tryz.f17 ?_;unfold bX at h;refine sE [iH 0 { id:=0 }] [(1,Pp 0)] [(qI zE)] 1 (sq (bE h fun zA zN h=>bc h ?_ ?_))
 ·intro pE h;refine r2 [iK 1 {} (zL4 F zE zA zN pE)] [1] [(4,.nilp),(5,Ii zA.2)] [0] [] 1 (sq (s0 [] [(24,.bool (zA.2 != 0))] (cd 24 (zA.2 != 0) ?_ ?_)))
  rotate_left
  ·intro hg;exact Bool.noConfusion (pE.symm.trans hg)
  intro _;refine s1 [] [4] [(2,.nilp),(3,Ii zA.2)] ?_;cases h;rw [pE];exact rt rx
 intro pE h;refine r2 [iK 1 { ids:=[1,2,3,4,5] } (zKK F zE zA zN pE)] [1] [(4,Pp 1),(5,Ii zA.2)] [0] [(1,Vb 90 [Sq 3 yZ zA.1.l.Xc.Xd,Sq 2 yV zA.1.l.Xc.Xi,Sq 5 yQ zA.1.l.Xc.Xl,Sq 4 yE zA.1.l.Xa,.own 2 zA.1.ids.length,.mp 3,.own 4 zA.1.Xm.length,.own 5 zA.1.next.length]),(2,Rb 48 2 (Mp wG zA.1.ids)),(3,.live (.map true zC4 (List.map tX (jL zA)))),(4,Rb 52 6 (Mp yL zA.1.Xm)),(5,Rb 24 1 (List.map (fun _=>AV.nilsl) zA.1.next))] 6 (sq (s0 [] [(24,.bool (zA.2 != 0))] (cd 24 (zA.2 != 0) ?_ ?_)))
 ·intro hg;exact Bool.noConfusion (pE.symm.trans hg)
 intro _;refine sk (sq (wz [1,3,5] [2,4] [] [0] [(4,Pp 0)] [(0,Vb 90 [Sq 3 yZ zA.1.l.Xc.Xd,Sq 2 yV zA.1.l.Xc.Xi,Sq 5 yQ zA.1.l.Xc.Xl,Sq 4 yE zA.1.l.Xa,Sq 2 wG zA.1.ids,.mp 1,Sq 6 yL zA.1.Xm,.own 2 zA.1.next.length]),(1,.live (.map true zC4 (List.map tX (jL zA)))),(2,Rb 24 1 (List.map (fun _=>AV.nilsl) zA.1.next))] (ar 90 (ar true (ac (sp:zA.1.ids.length=((List.map wG zA.1.ids)).length) (ac (sp:zA.1.Xm.length=((List.map yL zA.1.Xm)).length) (ar 3 (ar ((Mp yZ zA.1.l.Xc.Xd):List AV) (ar true (ar 2 (ar ((Mp yV zA.1.l.Xc.Xi):List AV) (ar true (ar 5 (ar ((Mp yQ zA.1.l.Xc.Xl):List AV) (ar true (ar 4 (ar ((Mp yE zA.1.l.Xa):List AV) (ar true (ar 2 (ar ((Mp wG zA.1.ids):List AV) (ar true (ar (.mp 3:AV) (ar 6 (ar ((Mp yL zA.1.Xm):List AV) (ar true (ar (.own 5 zA.1.next.length:AV) an)))))))))))))))))))))))) ?_));refine wX (zFO 1 zk) ?_;refine w0 [0,2] [] [(4,Pp 0)] [(0,Vb 90 [Sq 3 yZ zA.1.l.Xc.Xd,Sq 2 yV zA.1.l.Xc.Xi,Sq 5 yQ zA.1.l.Xc.Xl,Sq 4 yE zA.1.l.Xa,Sq 2 wG zA.1.ids,.fm ((some (jL zA))).isNone (List.map tX (((some (jL zA))).getD [])),Sq 6 yL zA.1.Xm,.own 1 zA.1.next.length]),(1,Rb 24 1 (List.map (fun _=>AV.nilsl) zA.1.next))] ?_;refine zFs (t:=90) (tn:=24) 1 0 zA.1.next.length [Sq 3 yZ zA.1.l.Xc.Xd,Sq 2 yV zA.1.l.Xc.Xi,Sq 5 yQ zA.1.l.Xc.Xl,Sq 4 yE zA.1.l.Xa,Sq 2 wG zA.1.ids,.fm ((some (jL zA))).isNone (List.map tX (((some (jL zA))).getD [])),Sq 6 yL zA.1.Xm] [] 3 1 (List.map nxI (List.map (fun _=>kR) zA.1.next)) zk (zOB _) zk zk zk (zI3 _) ?_;intro p;refine wX (zMx 0 [4] zk) ?_;refine w0 [2] [] [(4,.ref (.agg [Sq 3 yZ zA.1.l.Xc.Xd,Sq 2 yV zA.1.l.Xc.Xi,Sq 5 yQ zA.1.l.Xc.Xl,Sq 4 yE zA.1.l.Xa,Sq 2 wG zA.1.ids,.fm ((some (jL zA))).isNone (List.map tX (((some (jL zA))).getD [])),Sq 6 yL zA.1.Xm,.rawp p zA.1.next.length]))] [(0,.live (.fam (.hpx (NR p 24 1 false 3 1 (List.map nxI (List.map (fun _=>kR) zA.1.next)) []))))] ?_;obtain ⟨zJ,zW,h⟩:=M7 h;replace zW:=GO zW;refine wz [0] [] [4] [0] [(4,.ref (zC0 zJ p))] [(0,.live (.fam (.hpx (pS p zJ))))] (ac (show (.ref (.agg [Sq 3 yZ zA.1.l.Xc.Xd,Sq 2 yV zA.1.l.Xc.Xi,Sq 5 yQ zA.1.l.Xc.Xl,Sq 4 yE zA.1.l.Xa,Sq 2 wG zA.1.ids,.fm ((some (zA.1.at_.getD []))).isNone (List.map (mpE wG (AV.int .i64)) (((some (zA.1.at_.getD []))).getD [])),Sq 6 yL zA.1.Xm,.rawp p zA.1.next.length]):AV)=.ref (.agg [Sq 3 yZ zJ.l.Xc.Xd,Sq 2 yV zJ.l.Xc.Xi,Sq 5 yQ zJ.l.Xc.Xl,Sq 4 yE zJ.l.Xa,Sq 2 wG zJ.ids,.fm zJ.at_.isNone (List.map (mpE wG (AV.int .i64)) (zJ.at_.getD [])),Sq 6 yL zJ.Xm,.rawp p zJ.next.length]) from (by subst zW;simp)) (ac (show Fam.hpx (NR p 24 1 false 3 1 (List.map nxI (List.map (fun _=>kR) zA.1.next)) [])=Fam.hpx (pS p zJ) from (by subst zW;rfl)) an)) (bE h fun GW yP h=>nE h fun wF h=>?_);obtain ⟨u9,xQ,h⟩:=M7 h;replace xQ:=GO xQ;refine SR (Q:=NR p 24 1 false 3 1 (List.map nxI zJ.next) []) 0 zk (fun H_1 wU=>rE [iH 1 { x:=true,dep:=true,n:=0,hq:=NR p 24 1 false 3 1 (pL GW) [],av:=.tuple [] },iC (zG1 F p H_1 zJ GW yP wU)] [(4,.ref (zC0 zJ p))] [(lL p GW)] 1 (wz [0] [] [4] [0] [(4,.ref (zC0 u9 p))] [(0,.live (.fam (.hpx (pS p u9))))] (ac (show (.ref (.agg [Sq 3 yZ zJ.l.Xc.Xd,Sq 2 yV zJ.l.Xc.Xi,Sq 5 yQ zJ.l.Xc.Xl,Sq 4 yE zJ.l.Xa,Sq 2 wG zJ.ids,.fm zJ.at_.isNone (List.map (mpE wG (AV.int .i64)) (zJ.at_.getD [])),Sq 6 yL zJ.Xm,.rawp p zJ.next.length]):AV)=.ref (.agg [Sq 3 yZ u9.l.Xc.Xd,Sq 2 yV u9.l.Xc.Xi,Sq 5 yQ u9.l.Xc.Xl,Sq 4 yE u9.l.Xa,Sq 2 wG u9.ids,.fm u9.at_.isNone (List.map (mpE wG (AV.int .i64)) (u9.at_.getD [])),Sq 6 yL u9.Xm,.rawp p u9.next.length]) from (by subst xQ;simp only [wF])) (ac (show Fam.hpx (fN p GW)=Fam.hpx (pS p u9) from (by subst xQ;rfl)) an)) (sq (bE h fun GX w4 h=>nE h fun vU h=>?_))));obtain ⟨vS,vA,h⟩:=M7 h;replace vA:=GO vA;refine SR (Q:=NR p 24 1 false 3 1 (List.map nxI u9.next) []) 0 zk (fun H_2 vN=>rE [iH 1 { x:=true,dep:=true,n:=0,hq:=NR p 24 1 false 3 1 (pL GX) [],av:=.tuple [] },iC (zN9 F p H_2 u9 GX w4 vN)] [(4,.ref (zC0 u9 p))] [(lL p GX)] 1 ?_);refine zHK vU.symm [Sq 3 yZ u9.l.Xc.Xd,Sq 2 yV u9.l.Xc.Xi,Sq 5 yQ u9.l.Xc.Xl,Sq 4 yE u9.l.Xa,Sq 2 wG u9.ids,.fm u9.at_.isNone (List.map tX (u9.at_.getD [])),Sq 6 yL u9.Xm] ?_;refine wz [] [] [4] [] [(4,.ref (jZ vS))] [] (ac (show (.ref (.agg ([.sl false 3 (Mp yZ u9.l.Xc.Xd),.sl false 2 (Mp yV u9.l.Xc.Xi),.sl false 5 (Mp yQ u9.l.Xc.Xl),.sl false 4 (Mp yE u9.l.Xa),.sl false 2 (Mp wG u9.ids),.fm u9.at_.isNone (List.map tX (u9.at_.getD [])),.sl false 6 (Mp yL u9.Xm)]++[.sl false 1 (GX.map slI)])):AV)=.ref (jZ vS) from (by subst vA;rfl)) an) (sq (nE h fun uK h=>r2 [iH 5 { id:=0,l:=(Mi (List.replicate (aI vS) 0)),m:=vS.ids.length,n:=vS.ids.length },iN 4 wG vS.ids,iQ 2 (lN vS.ids),iC (yI _:(aI vS)<=(aI vS)),iC uK,iC (D8:(Mi (List.replicate (aI vS) 0))=List.replicate (aI vS) (Ii 0))] [] [(6,.own 0 (aI vS))] [] [(0,Rb 3 1 (Mi (List.replicate (aI vS) 0)))] 1 (sq (s0 [iN 4 zC1 vS.next] [(39,.sl false 1 (List.map zC1 vS.next)),(40,Ii (lN vS.next)),(41,Ii 0)] (bE h fun zF tP h=>?_)))));refine xG (mk [(4,.ref (jZ vS)),(6,.own 0 (xH zF))] [(qG zF)] 1) ?_ ?_
 ·replace h:=tP;refine ab 0 (wz [0] [] [6] [] _ _ (ac (congrArg (AV.own _) k8.symm:(.own 0 (aI vS):AV)=.own 0 (((List.replicate (aI vS) (0:Int))).length)) an) (xW (fun n st=>∃ (zD:Int),∃ (zC:List Int),st=mk [(4,.ref (jZ vS)),(6,.own 0 (xH zC)),(39,.sl false 1 (List.map zC1 vS.next)),(40,Ii (lN vS.next)),(41,Ii zD)] [(qG zC)] 1/\LD F vS n zD zC=some zF) F zk ⟨_,_,rfl,h⟩ (fun _ ⟨_,_,_,h⟩=>xS h) ?_));rintro yD _ ⟨zD,zC,rfl,h⟩;rw [LD,TZ] at h;refine s0 [] [(42,.bool (decide (zD<(lN vS.next))))] (sq (ch 42 h (fun zM h=>sk (sq (ab 1 (sq (bE h fun zB jI h=>r0 [iF 0 zC1 jI] [(8,.sl false 1 (Mi zB))] (s1 [iN 1 Fi zB] [8] [(45,.sl false 1 (Mi zB)),(46,Ii (lN zB)),(47,Ii 0)] (bE h fun zT kO h=>?_))))))) (fun _ h=>by cases h;exact ae 0 ⟨rfl,sZ⟩)));refine xG (mk [(4,.ref (jZ vS)),(6,.own 0 (xH zT)),(39,.sl false 1 (List.map zC1 vS.next)),(40,Ii (lN vS.next)),(41,Ii zD)] [(qG zT)] 1) ?_ ?_
  ·replace h:=kO;refine ab 2 (w0 [0] [] _ _ (xW (fun n st=>∃ (zK:Int),∃ (zH:List Int),st=mk [(4,.ref (jZ vS)),(6,.own 0 (xH zH)),(39,.sl false 1 (List.map zC1 vS.next)),(40,Ii (lN vS.next)),(41,Ii zD),(45,.sl false 1 (Mi zB)),(46,Ii (lN zB)),(47,Ii zK)] [(qG zH)] 1/\N7 F zB n zK zH=some zT) F zk ⟨_,_,rfl,h⟩ (fun _ ⟨_,_,_,h⟩=>xS h) ?_));rintro vY _ ⟨zK,zH,rfl,h⟩;rw [N7,YC] at h;refine s0 [] [(48,.bool (decide (zK<(lN zB))))] (sq (ch 48 h (fun yU h=>sk (sq (ab 3 (sq (bE h fun zI jK h=>r0 [iF 0 Fi jK] [(10,Ii zI)] (bE h fun z5 jJ h=>bE h fun zZ kP h=>r2 [iH 6 { av:=Ii zZ,l:=(Mi (zH.set zI.toNat (zC8 z5))) },iO 3 Fi jJ,iV Fi kP,iC (bR _ _ _:(Mi (zH.set zI.toNat (zC8 z5)))=List.set (Mi zH) zI.toNat (kV (Ii zZ) 0 [Ii (zC8 z5)]))] [] [] [] [(0,Rb 3 1 (Mi (zH.set zI.toNat (zC8 z5))))] 1 (r0 [] [(47,Ii (zC8 zK))] ?_))))))) (fun _ h=>by cases h;exact ae 2 ⟨rfl,sZ⟩)));exact ⟨_,(sw [0] [] [.s 4,.a 6 (.own 0 ((zH.set zI.toNat (zC8 z5)).length)),.s 39,.s 40,.s 41,.s 45,.s 46,.s 47] [.s 0] (ac (congrArg (AV.own _) (by first | (simp;done) | (simp;omega)):(dK zH)=.own 0 ((zH.set zI.toNat (zC8 z5)).length)) an)),_,_,rfl,h⟩
  refine r0 [] [(41,Ii (zC8 zD))] ?_;exact ⟨_,sZ,_,_,rfl,h⟩
 refine s2 [iH 0 { id:=1,m:=1 }] [] [(11,.own 1 0)] [] [(1,Rb 3 1 [])] 2 (sq (s0 [] [(59,.own 0 (xH zF)),(60,Ii (lN zF)),(61,Ii 0)] (bE h fun yH kQ h=>?_)));refine xG (mk [(4,.ref (jZ vS)),(6,.own 0 (xH zF)),(11,.own 1 (xH yH))] [(qG zF),(1,Rb 3 1 (Mi yH))] 2) ?_ ?_
 ·replace h:=kQ;refine ab 4 (w0 [0,1] [] _ _ (xW (fun n st=>∃ (zS:Int),∃ (zX:List Int),st=mk [(4,.ref (jZ vS)),(6,.own 0 (xH zF)),(11,.own 1 (xH zX)),(59,.own 0 (xH zF)),(60,Ii (lN zF)),(61,Ii zS)] [(qG zF),(1,Rb 3 1 (Mi zX))] 2/\HU F zF n zS zX=some yH) F zk ⟨_,_,rfl,h⟩ (fun _ ⟨_,_,_,h⟩=>xS h) ?_));rintro iI _ ⟨zS,zX,rfl,h⟩;rw [HU,T7] at h;refine s0 [] [(62,.bool (decide (zS<(lN zF))))] (sq (ch 62 h (fun w9 h=>sk (sq (ab 5 (sq (bE h fun xZ nX h=>r0 [iO 2 Fi nX] [(12,Ii zS),(13,Ii xZ)] (c0 [] 67 h [] ?_ ?_)))))) (fun _ h=>by cases h;exact ae 4 ⟨rfl,sZ⟩)))
  rotate_left
  ·intro v5 h;refine sk (r0 [] [(61,Ii (zC8 zS))] ?_);exact ⟨_,sZ,_,_,rfl,h⟩
  intro v5 h;refine nE h fun bH h=>r2 [iH 2 { id:=2 },iM Fi zX,iA 1,iP 3 3 Fi zX (uV zS) 8 bH] [] [(11,.own 3 (oY zX zS))] [1] [(3,Rb 3 1 (Mi (zX++(uV zS))))] 4 (r0 [] [(61,Ii (zC8 zS))] ?_);exact ⟨_,(sY [0,3]),_,_,rfl,h⟩
 refine s0 [] [(14,Ii 0)] (sq (bE h fun uB aS h=>?_));refine xG (mk [(4,.ref (jZ vS)),(14,Ii uB)] [] 0) ?_ ?_
 ·replace h:=aS;refine ab 6 (w0 [0,1] [] _ _ (xW (fun n st=>∃ (mI:Int),∃ (xB:List Int),∃ (vE:List Int),st=mk [(4,.ref (jZ vS)),(6,.own 0 (xH xB)),(11,.own 1 (xH vE)),(14,Ii mI)] [(qG xB),(1,Rb 3 1 (Mi vE))] 2/\LO F vS n mI xB vE=some uB) F zk ⟨_,_,_,rfl,h⟩ (fun _ ⟨_,_,_,_,h⟩=>xS h) ?_));rintro n_4 _ ⟨mI,xB,vE,rfl,h⟩;rw [LO,VV] at h;refine sq (c0 [] 75 h [] ?_ ?_)
  rotate_left
  ·intro uN h;refine ae 6 ?_;cases h;exact ⟨rfl,sZ⟩
  intro uN h;refine sk (sq (ab 7 (sq (bE h fun xP fW h=>r0 [iO 2 Fi fW] [(15,Ii xP)] (sq (nE h fun fX h=>r2 [iH 1 { id:=2,l:=(Mi (vE.drop 1)),m:=(vE.length - 1),n:=1,x:=true },iA (1:Int),iC fX,iM Fi vE,iC (by simp:(List.map (AV.int .i64) (vE.drop 1))=((List.map (AV.int .i64) vE):List AV).drop 1),iC (rfl:(vE.length - 1)=(xH vE) - 1)] [] [(11,.own 2 (vE.length - 1))] [1] [(2,Rb 3 1 (Mi (vE.drop 1)))] 3 (sq (bE h fun w8 mL h=>r0 [iF 5 zC1 mL,iN 7 Fi w8] [(89,.sl false 1 (Mi w8)),(90,Ii (lN w8)),(91,Ii 0)] (bE h fun nA BA h=>?_)))))))));refine xG (mk [(4,.ref (jZ vS)),(6,.own 0 nA.1.length),(11,.own 1 nA.2.length),(14,Ii mI)] [(0,Rb 3 1 (Mi nA.1)),(1,Rb 3 1 (Mi nA.2))] 2) ?_ ?_
  ·replace h:=BA;refine ab 8 (wz [0,2] [] [11] [] _ _ (ac (congrArg (AV.own _) (by first | (simp;done) | (simp;omega)):(.own 2 (vE.length - 1):AV)=.own 2 (((vE.drop 1)).length)) an) (xW (fun n st=>∃ (uW:Int),∃ (uR:List Int),∃ (j5:List Int),st=mk [(4,.ref (jZ vS)),(6,.own 0 (xH uR)),(11,.own 1 (xH j5)),(14,Ii mI),(89,.sl false 1 (Mi w8)),(90,Ii (lN w8)),(91,Ii uW)] [(qG uR),(1,Rb 3 1 (Mi j5))] 2/\KD F w8 n uW uR j5=some nA) F zk ⟨_,_,_,rfl,h⟩ (fun _ ⟨_,_,_,_,h⟩=>xS h) ?_));rintro n_5 _ ⟨uW,uR,j5,rfl,h⟩;rw [KD,VR] at h;refine s0 [] [(92,.bool (decide (uW<(lN w8))))] (sq (ch 92 h (fun t9 h=>sk (sq (ab 9 (sq (bE h fun wY iU h=>r0 [iF 0 Fi iU] [(17,Ii wY)] (sq (bE h fun vR BB h=>bE h fun qZ G3 h=>r2 [iH 6 { av:=Ii qZ,l:=(Mi (uR.set wY.toNat (jM vR))) },iO 3 Fi BB,iV Fi G3,iC (bR _ _ _:(Mi (uR.set wY.toNat (jM vR)))=List.set (Mi uR) wY.toNat (kV (Ii qZ) 0 [Ii (jM vR)]))] [] [] [] [(0,Rb 3 1 (Mi (uR.set wY.toNat (jM vR))))] 2 (sq (bE h fun j4 BC h=>r0 [iH 3 { av:=Ii j4 },iC (qE BC:0<=wY),iC (by first | (simp;done) | simpa using aG BC:wY<((uR.length:Nat):Int)),iC (aD BC:(Mi (uR.set wY.toNat (jM vR)))[wY.toNat]?=some (Ii j4))] [(105,.bool (j4==0))] (ch 105 h ?_ ?_)))))))))) (fun _ h=>by cases h;exact ae 8 ⟨rfl,sZ⟩)))
   rotate_left
   ·intro cI h;refine sk (r0 [] [(91,Ii (zC8 uW))] ?_);exact ⟨_,(sw [0,1] [] [.s 4,.a 6 (.own 0 ((uR.set wY.toNat (jM vR)).length)),.s 11,.s 14,.s 89,.s 90,.s 91] [.s 0,.s 1] (ac (congrArg (AV.own _) (by first | (simp;done) | (simp;omega)):(dK uR)=.own 0 ((uR.set wY.toNat (jM vR)).length)) an)),_,_,_,rfl,h⟩
   intro cI h;refine nE h fun h_30 h=>r2 [iH 2 { id:=2 },iM Fi j5,iA 1,iP 3 3 Fi j5 (uV wY) 8 h_30] [] [(11,.own 3 (oY j5 wY))] [1] [(3,Rb 3 1 (Mi (j5++(uV wY))))] 4 (r0 [] [(91,Ii (zC8 uW))] ?_);exact ⟨_,(sw [0,3] [] [.s 4,.a 6 (.own 0 ((uR.set wY.toNat (jM vR)).length)),.s 11,.s 14,.s 89,.s 90,.s 91] [.s 0,.s 1] (ac (congrArg (AV.own _) (by first | (simp;done) | (simp;omega)):(dK uR)=.own 0 ((uR.set wY.toNat (jM vR)).length)) an)),_,_,_,rfl,h⟩
  refine r0 [] [(14,Ii (zC8 mI))] ?_;exact ⟨_,sZ,_,_,_,rfl,h⟩
 refine sq (c0 [iN 5 wG vS.ids] 117 h [] ?_ ?_)
 ·intro rD h;refine s1 [] [4] [(2,.nilp),(3,Ii 13)] ?_;cases h;exact rt rx
 intro rD h;refine sk (s1 [] [4] [(2,.ref (jZ vS)),(3,Ii 0)] ?_);cases h;exact rt rx
theorem Y2 (F:Nat) (zE:z6) (r:yR×Int) (h:bX F zE=some r) (he:(r.2 != 0)=true):y9 prog 17 [] [] [pT zE] [] (.tuple [.nilp,Ii r.2]):=by
 have z:=zEY F zE r h;rw [he] at z;exact z
theorem zAA (F:Nat) (zE:z6) (r:yR×Int) (h:bX F zE=some r) (he:(r.2 != 0)=false):y9 prog 17 [] [] [pT zE] [] (.tuple [.ref (jZ r.1),Ii r.2]):=by
 have z:=zEY F zE r h;rw [he] at z;exact z
theorem zIB (F:Nat) (zE:z6) (r:Int) (h:XF F zE=some r):y9 prog 51 [] [] [pT zE] [] (Ii r):=by
 refine tI Tryz.f51 ?_;unfold XF at h;refine sE [iH 0 { id:=0 }] [(1,Pp 0)] [(qI zE)] 1 (sq (bE h fun zA zN h=>bc h ?_ ?_))
 ·intro pE h;refine r2 [iK 1 {} (Y2 F zE zA zN pE)] [1] [(4,Ii zA.2)] [0] [] 1 (s0 [] [(2,Ii zA.2)] ?_);cases h;exact rt rx
 intro pE h;refine r2 [iK 1 {} (zAA F zE zA zN pE)] [1] [(4,Ii zA.2)] [0] [] 1 (s0 [] [(2,Ii zA.2)] ?_);cases h;exact rt rx
theorem zMu (zB:yW) (zQ:Int) (r:Bool) (h:U6 zB zQ=some r):y9 prog 69 [(a9 zQ)] [] [yV zB,Pp 0] [(a9 zQ)] (.bool r):=by
 refine tI Tryz.f69 ?_;unfold U6 at h;refine sE [iH 0 { id:=1 }] E7 [(0,Vb 3 [Ii zQ]),(1,Vb 62 (o6 zB))] 2 (s2 [] [1,2] [(3,.bool (zB.Id==zQ))] [1] [] 2 ?_);cases h;exact rt rx
theorem zMy (F:Nat) (z7:List yW) (zP:Int) (r:Int) (h:SH F z7 zP=some r):y9 prog 92 [(a9 zP)] [] [Sq 2 yV z7,.fn 69 [Pp 0]] [(a9 zP)] (Ii r):=by
 refine tI Tryz.f92 ?_;unfold SH at h;refine sE [] [(pG z7),(1,.fn 69 [Pp 0])] [(0,Vb 3 [Ii zP])] 1 (sq (s0 [iN 1 yV z7] [(7,Ii (lN z7)),(8,Ii 0)] (bE h fun zF zN h=>cv zF (fun q0=>mk [] [(0,Vb 3 [Ii zP])] 1) Tryz.f92 (fun q1=>[(a9 zP)]) (fun q1=>Ii q1) ?_ ?_ (by rintro _ rfl _ hf;cases h;exact ⟨.inr rfl,hf⟩))))
 ·replace h:=zN;refine ab 0 (w0 [0] [] _ _ (xW (fun n st=>∃ (zD:Int),st=mk [(pG z7),(1,.fn 69 [Pp 0]),(7,Ii (lN z7)),(8,Ii zD)] [(0,Vb 3 [Ii zP])] 1/\OG F z7 zP n zD=some zF) F zk ⟨_,rfl,h⟩ (fun _ ⟨_,_,h⟩=>xS h) ?_));rintro yD _ ⟨zD,rfl,h⟩;rw [OG,WV] at h;refine s0 [] [(9,.bool (decide (zD<(lN z7))))] (sq (ch 9 h (fun zM h=>sk (sq (ab 1 (s0 [] [(5,Ii zD)] (sq (bE h fun zB zW h=>bE h fun zA yP h=>r0 [iF 3 yV zW,iK 5 { ids:=[0] } (zMu zB zP zA yP)] [(16,.bool zA)] (ch 16 h ?_ ?_))))))) (fun _ h=>by cases h;exact ae 0 ⟨rfl,sZ⟩)))
  rotate_left
  ·intro yU h;refine sk (r0 [] [(8,Ii (zC8 zD))] ?_);exact ⟨_,sZ,_,rfl,h⟩
  intro yU h;refine s1 [] [0,1] [(4,Ii zD)] ?_;cases h;exact rt ry
 rintro z8 rfl;refine s0 [] [(4,Ii (-1))] ?_;cases h;exact rt rx
theorem zOx (F:Nat) (z7:List yW) (zP:Int) (r:Bool) (h:QY F z7 zP=some r):y9 prog 63 [(a9 zP)] [] [Sq 2 yV z7,.fn 69 [Pp 0]] [(a9 zP)] (.bool r):=by
 refine tI Tryz.f63 ?_;unfold QY at h;refine sE [] [(pG z7),(1,.fn 69 [Pp 0])] [(0,Vb 3 [Ii zP])] 1 (sq (bE h fun zA zN h=>r1 [iK 2 { ids:=[0] } (zMy F z7 zP zA zN)] [0,1] [(4,.bool (decide (zA>=0)))] ?_));cases h;exact rt rx
theorem zJW (F:Nat) (zE:List xO) (r:(List xO)) (h:NT F zE=some r):y9 prog 95 [] [] [Sq 5 yQ zE] [.row 67 5 (Mp yQ r)] (.own 0 r.length):=by
 refine tI Tryz.f95 ?_;unfold NT at h;refine sE [iH 0 { id:=0,m:=1 }] [(0,Sq 5 yQ zE)] [] 1 (s2 [iH 0 { id:=1,m:=1 }] [] [(3,.own 1 0)] [] [(1,Rb 67 5 [])] 2 (sq (s0 [iN 1 yQ zE] [(9,Sq 5 yQ zE),(10,Ii (lN zE)),(11,Ii 0)] (bE h fun zF zN h=>?_))));refine xG (mk [(3,.own 0 zF.length)] [(AO zF)] 1) ?_ ?_
 ·replace h:=zN;refine ab 0 (w0 [1] [] _ _ (xW (fun n st=>∃ (zD:Int),∃ (zC:List xO),st=mk [(0,Sq 5 yQ zE),(3,.own 0 zC.length),(9,Sq 5 yQ zE),(10,Ii (lN zE)),(11,Ii zD)] [(AO zC)] 1/\RI F zE n zD zC=some zF) F zk ⟨_,_,rfl,h⟩ (fun _ ⟨_,_,_,h⟩=>xS h) ?_));rintro yD _ ⟨zD,zC,rfl,h⟩;rw [RI,YB] at h;refine s0 [] [(12,.bool (decide (zD<(lN zE))))] (sq (ch 12 h (fun zM h=>sk (sq (ab 1 (sq (bE h fun zB zW h=>r2 [iH 3 { id:=1 },iF 1 yQ zW] [] [(4,Ii zD),(5,Pp 1)] [] [(1,Vb 67 (cN zB))] 2 (s0 [] [oL] (sq (sq (nE h fun yP h=>r0 [iS 2 yQ zE 0 zD (by decide) yP.1 yP.2,iN 3 yQ (sub zE 0 zD)] [(18,Sq 5 yQ (sub zE 0 zD)),(19,Ii (lN (sub zE 0 zD))),(20,Ii 0)] (bE h fun zT xQ h=>?_)))))))))) (fun _ h=>by cases h;exact ae 0 ⟨rfl,sZ⟩)));refine xG (mk [(0,Sq 5 yQ zE),(3,.own 0 zC.length),(5,Pp 1),(6,.bool zT),(9,Sq 5 yQ zE),(10,Ii (lN zE)),(11,Ii zD)] [(AO zC),(1,Vb 67 (cN zB))] 2) ?_ ?_
  ·replace h:=xQ;refine ab 2 (w0 [0,1] [] _ _ (xW (fun n st=>∃ (dQ:Bool),∃ (zK:Int),st=mk [(0,Sq 5 yQ zE),(3,.own 0 zC.length),(5,Pp 1),(6,.bool dQ),(9,Sq 5 yQ zE),(10,Ii (lN zE)),(11,Ii zD),(18,Sq 5 yQ (sub zE 0 zD)),(19,Ii (lN (sub zE 0 zD))),(20,Ii zK)] [(AO zC),(1,Vb 67 (cN zB))] 2/\O2 F zE zD zB n dQ zK=some zT) F zk ⟨_,_,rfl,h⟩ (fun _ ⟨_,_,_,h⟩=>xS h) ?_));rintro vY _ ⟨dQ,zK,rfl,h⟩;rw [O2,WF] at h;refine s0 [] [(21,.bool (decide (zK<(lN (sub zE 0 zD)))))] (sq (ch 21 h (fun yU h=>sk (sq (ab 3 (sq (bE h fun zI wF h=>r2 [iH 2 { id:=2 },iF 0 yQ wF] [] [(8,Pp 2)] [] [(2,Vb 67 (cN zI))] 3 ?_))))) (fun _ h=>by cases h;exact ae 2 ⟨rfl,sZ⟩)));refine xG (mk [(0,Sq 5 yQ zE),(3,.own 0 zC.length),(5,Pp 1),(6,.bool (dQ||(decide (zB=zI)))),(9,Sq 5 yQ zE),(10,Ii (lN zE)),(11,Ii zD),(18,Sq 5 yQ (sub zE 0 zD)),(19,Ii (lN (sub zE 0 zD))),(20,Ii zK)] [(AO zC),(1,Vb 67 (cN zB))] 2) ?_ ?_
   ·rcases M8 dQ with nV | nV
    ·refine r2 [iG 2 3,iH 5 Ht,iR 4 nV] [] [(6,.bool true)] [2] [] 3 ?_;exact ⟨rfl,(sw [0,1] [] [.s 0,.s 3,.s 5,.a 6 (.bool (dQ||(decide (zB=zI)))),.s 9,.s 10,.s 11,.s 18,.s 19,.s 20] [.s 0,.s 1] (ac (congrArg AV.bool (ort nV):mP=.bool (dQ||(decide (zB=zI)))) an))⟩
    ·refine r2 [iH 4 { b:=(decide (zB=zI)),mks:=WR },iH 5 Hf,iR 3 nV,iC (zFI:bD prog 67 WR),iC (D5 (f:=yQ) zEK zB zI:((decide (zB=zI))=true↔AV.agg (TX zB)=AV.agg (TX zI))),iC nV] [] [(6,.bool (decide (zB=zI)))] [2] [] 3 ?_;exact ⟨rfl,(sw [0,1] [] [.s 0,.s 3,.s 5,.a 6 (.bool (dQ||(decide (zB=zI)))),.s 9,.s 10,.s 11,.s 18,.s 19,.s 20] [.s 0,.s 1] (ac (congrArg AV.bool (orf nV rfl):(.bool (decide (zB=zI)):AV)=.bool (dQ||(decide (zB=zI)))) an))⟩
   refine r0 [] [(20,Ii (zC8 zK))] ?_;exact ⟨_,sZ,_,_,rfl,h⟩
  refine c0 [] 32 h [] ?_ ?_
  rotate_left
  ·intro w9 h;refine sk (r2 [] [] [(11,Ii (zC8 zD))] [1] [] 2 ?_);exact ⟨_,sZ,_,_,rfl,h⟩
  intro w9 h;refine nE h fun wU h=>r2 [iH 2 { id:=2 },iM yQ zC,iA 1,iP 3 3 yQ zC [zB] 40 wU] [5] [(3,.own 3 (((zC++[zB])).length))] [0,1] [(3,Rb 67 5 (Mp yQ (zC++[zB])))] 4 (r0 [] [(11,Ii (zC8 zD))] ?_);exact ⟨_,(sY [3]),_,_,rfl,h⟩
 refine s1 [] [3] [(2,.own 0 zF.length)] ?_;cases h;exact rt rx
theorem zKN (F:Nat) (yM:List yW) (zE:List xO) (xL:Int) (r:Bool) (h:L5 F yM zE xL=some r):y9 prog 70 [] [] [Sq 2 yV yM,Sq 5 yQ zE,Ii xL] [] (.bool r):=by
 refine tI Tryz.f70 ?_;unfold L5 at h;refine sE [] [(pG yM),(1,Sq 5 yQ zE),(2,Ii xL)] [] 0 (sq (sq (bE h fun yC yP h=>?_)));refine xG (mk [(pG yM),(1,Sq 5 yQ zE),(2,Ii xL),(19,.bool yC)] [] 0) ?_ ?_
 ·replace h:=yP;refine bE h fun zA zN h=>bc h ?_ ?_
  ·intro yA h;refine r0 [iG 5 4,iH 9 Ht,iK 2 {} (UT F yM zE zA zN),iR 5 yA] [(19,.bool true)] ?_;cases h;exact ⟨rfl,sZ⟩
  ·intro yA h;refine bE h fun zL zW h=>r0 [iH 9 Hf,iK 2 {} (UT F yM zE zA zN),iR 3 yA,iK 7 {} (SP F yM xL zL zW),iR 2 yA] [(19,.bool (decide (zL<0)))] ?_;cases h;exact ⟨rfl,sZ⟩
 refine ch 19 h ?_ ?_
 ·intro zM h;refine s1 [] [0,1] [oL] ?_;cases h;exact rt rx
 intro zM h;refine sk (sq (bE h fun yK xQ h=>r2 [iK 1 { ids:=[0] } (zJW F zE yK xQ)] [] [(1,.own 0 yK.length)] [] [(AO yK)] 1 (sq (nE h fun wF h=>r2 [iH 0 { id:=1,mag:=false,mks:=[.int .i64] },iH 1 { es:=(List.map kD (xC ([]:List (Int×Bool)) 0 true)) },iC (tJ:wW prog 3 false [.int .i64]),iC (aO (f:=(AV.int .i64)) (g:=AV.bool) t5 ([]:List (Int×Bool)) 0 true:jS [] (Ii 0) (.bool true) (List.map kD (xC ([]:List (Int×Bool)) 0 true))),iC (aV (f:=(AV.int .i64)) (g:=AV.bool) (l:=([]:List (Int×Bool))) wF:([]:List (AV×AV)).length<maxLen)] [] [(7,.mp 1)] [] [(1,.live (.map false [.int .i64] (List.map kD (xC ([]:List (Int×Bool)) 0 true))))] 2 (sq (s1 [iN 1 yV yM] [0] [(25,Ii (lN yM)),(26,Ii 0)] (bE h fun zF wU h=>?_)))))));refine xG (mk [(2,Ii xL),(7,.mp 0)] [(0,.live (NN zF))] 1) ?_ ?_
 ·replace h:=wU;refine ab 0 (w0 [0,1] [] _ _ (xW (fun n st=>∃ (zD:Int),∃ (zC:List (Int×Bool)),st=mk [(1,.own 0 yK.length),(2,Ii xL),(7,.mp 1),(25,Ii (lN yM)),(26,Ii zD)] [(AO yK),(1,.live (NN zC))] 2/\N5 F yM yK n zD zC=some zF) F zk ⟨_,_,rfl,h⟩ (fun _ ⟨_,_,_,h⟩=>xS h) ?_));rintro yD _ ⟨zD,zC,rfl,h⟩;rw [N5,S1] at h;refine s0 [] [(27,.bool (decide (zD<(lN yM))))] (sq (ch 27 h (fun yU h=>sk (sq (ab 1 (s0 [] [(28,.own 0 yK.length),(29,Ii (lN yK)),(30,Ii 0)] (bE h fun zT w4 h=>?_))))) (fun _ h=>by cases h;exact ae 0 ⟨rfl,(sY [1])⟩)));refine xG (mk [(1,.own 0 yK.length),(2,Ii xL),(7,.mp 1),(25,Ii (lN yM)),(26,Ii zD)] [(AO yK),(1,.live (NN zT))] 2) ?_ ?_
  ·replace h:=w4;refine ab 2 (w0 [0,1] [] _ _ (xW (fun n st=>∃ (zK:Int),∃ (zH:List (Int×Bool)),st=mk [(1,.own 0 yK.length),(2,Ii xL),(7,.mp 1),(25,Ii (lN yM)),(26,Ii zD),(28,.own 0 yK.length),(29,Ii (lN yK)),(30,Ii zK)] [(AO yK),(1,.live (NN zH))] 2/\RJ F yK n zK zH=some zT) F zk ⟨_,_,rfl,h⟩ (fun _ ⟨_,_,_,h⟩=>xS h) ?_));rintro vY _ ⟨zK,zH,rfl,h⟩;rw [RJ,XG] at h;refine s0 [] [(31,.bool (decide (zK<(lN yK))))] (sq (ch 31 h (fun w9 h=>sk (sq (ab 3 (sq (bE h fun zB vA h=>r2 [iH 2 { id:=2 },iO 1 yQ vA] [] [(9,Pp 2)] [] [(2,Vb 67 (cN zB))] 3 (ad 43 h ?_ ?_ ?_)))))) (fun _ h=>by cases h;exact ae 2 ⟨rfl,sZ⟩)))
   ·rcases bft ((zV zH zB.A).getD false) with kM | kM
    ·exact rm [iH 3 { av:=(.bool ((zV zH zB.A).getD false)),k:=(zV zH zB.A).isSome },iG 5 4,iH 9 Ht,iC (tJ:wW prog 3 false [.int .i64]),iC (kB (f:=(AV.int .i64)) (g:=AV.bool) t5 zH zB.A false:u0 (List.map kD zH) (Ii zB.A) (.bool false) (.bool ((zV zH zB.A).getD false)) (zV zH zB.A).isSome),iR 5 kM] (ort kM)
    ·exact rm [iH 3 { av:=(.bool ((zV zH zB.A).getD false)),k:=(zV zH zB.A).isSome },iH 8 { av:=(.bool ((zV zH zB.B).getD false)),k:=(zV zH zB.B).isSome },iH 9 Hf,iC (tJ:wW prog 3 false [.int .i64]),iC (kB (f:=(AV.int .i64)) (g:=AV.bool) t5 zH zB.A false:u0 (List.map kD zH) (Ii zB.A) (.bool false) (.bool ((zV zH zB.A).getD false)) (zV zH zB.A).isSome),iR 4 kM,iC (tJ:wW prog 3 false [.int .i64]),iC (kB (f:=(AV.int .i64)) (g:=AV.bool) t5 zH zB.B false:u0 (List.map kD zH) (Ii zB.B) (.bool false) (.bool ((zV zH zB.B).getD false)) (zV zH zB.B).isSome),iC kM] (orf kM rfl)
   rotate_left
   ·intro v5 h;refine sk (r2 [] [] [(30,Ii (zC8 zK))] [2] [] 3 ?_);exact ⟨_,sZ,_,_,rfl,h⟩
   intro v5 h;refine nE h fun vU h=>nE h fun vN h=>r2 [iH 6 { es:=(List.map kD (xC zH zB.A true)) },iH 7 { es:=(List.map kD (xC (xC zH zB.A true) zB.B true)) },iC (tJ:wW prog 3 false [.int .i64]),iC (aO (f:=(AV.int .i64)) (g:=AV.bool) t5 zH zB.A true:jS (List.map kD zH) (Ii zB.A) (.bool true) (List.map kD (xC zH zB.A true))),iC (aV (f:=(AV.int .i64)) (g:=AV.bool) (l:=zH) vU:((List.map kD zH):List (AV×AV)).length<maxLen),iC (tJ:wW prog 3 false [.int .i64]),iC (aO (f:=(AV.int .i64)) (g:=AV.bool) t5 (xC zH zB.A true) zB.B true:jS (List.map kD (xC zH zB.A true)) (Ii zB.B) (.bool true) (List.map kD (xC (xC zH zB.A true) zB.B true))),iC (aV (f:=(AV.int .i64)) (g:=AV.bool) (l:=(xC zH zB.A true)) vN:((List.map kD (xC zH zB.A true)):List (AV×AV)).length<maxLen)] [9] [] [2] [(1,.live (.map false [.int .i64] (List.map kD (xC (xC zH zB.A true) zB.B true))))] 3 (r0 [] [(30,Ii (zC8 zK))] ?_);exact ⟨_,sZ,_,_,rfl,h⟩
  refine r0 [] [(26,Ii (zC8 zD))] ?_;exact ⟨_,sZ,_,_,rfl,h⟩
 refine s2 [iH 2 { av:=(.bool ((zV zF xL).getD false)),k:=(zV zF xL).isSome },iC (tJ:wW prog 3 false [.int .i64]),iC (kB (f:=(AV.int .i64)) (g:=AV.bool) t5 zF xL false:u0 (List.map kD zF) (Ii xL) (.bool false) (.bool ((zV zF xL).getD false)) (zV zF xL).isSome)] [7] [(6,.bool ((zV zF xL).getD false))] [0] [] 1 ?_;cases h;exact rt rx
theorem zOL (F:Nat) (zE:List xO) (xL:Int) (r:(List Int)) (h:QE F zE xL=some r):y9 prog 96 [] [] [Sq 5 yQ zE,Ii xL] [.row 3 1 (Mi r)] (.own 0 r.length):=by
 refine tI Tryz.f96 ?_;unfold QE at h;refine sE [iH 0 { id:=0,m:=1 }] [(0,Sq 5 yQ zE),(1,Ii xL)] [] 1 (s2 [iH 0 { id:=1,m:=1 }] [] [(5,.own 1 0)] [] [(1,Rb 3 1 [])] 2 (sq (s1 [iN 1 yQ zE] [0] [(8,Sq 5 yQ zE),(9,Ii (lN zE)),(10,Ii 0)] (bE h fun zF zN h=>?_))));refine xG (mk [(5,.own 0 (xH zF))] [(qG zF)] 1) ?_ ?_
 ·replace h:=zN;refine ab 0 (w0 [1] [] _ _ (xW (fun n st=>∃ (zD:Int),∃ (zC:List Int),st=mk [(1,Ii xL),(5,.own 0 (xH zC)),(8,Sq 5 yQ zE),(9,Ii (lN zE)),(10,Ii zD)] [(qG zC)] 1/\MR F zE xL n zD zC=some zF) F zk ⟨_,_,rfl,h⟩ (fun _ ⟨_,_,_,h⟩=>xS h) ?_));rintro yD _ ⟨zD,zC,rfl,h⟩;rw [MR,W7] at h;refine s0 [] [(11,.bool (decide (zD<(lN zE))))] (sq (ch 11 h (fun zM h=>sk (sq (ab 1 (sq (bE h fun zB zW h=>r2 [iH 2 { id:=1 },iF 0 yQ zW] [] [(7,Pp 1)] [] [(1,Vb 67 (cN zB))] 2 (sq (s0 [] [(17,.bool (zB.A==xL))] (bE h fun zT yP h=>?_)))))))) (fun _ h=>by cases h;exact ae 0 ⟨rfl,sZ⟩)));refine xG (mk [(1,Ii xL),(5,.own 0 (xH zT)),(7,Pp 1),(8,Sq 5 yQ zE),(9,Ii (lN zE)),(10,Ii zD)] [(qG zT),(1,Vb 67 (cN zB))] 2) ?_ ?_
  ·replace h:=yP;refine ch 17 h ?_ ?_
   rotate_left
   ·intro yU h;refine sk ?_;cases h;exact ⟨rfl,sZ⟩
   intro yU h;refine nE h fun xQ h=>r2 [iH 3 { id:=2 },iM Fi zC,iA 1,iP 4 3 Fi zC [zB.Xw] 8 xQ] [] [(5,.own 3 (((zC++[zB.Xw])).length))] [0] [(3,Rb 3 1 (Mi (zC++[zB.Xw])))] 4 ?_;cases h;exact ⟨rfl,(sY [3,1])⟩
  refine c0 [] 26 h [] ?_ ?_
  rotate_left
  ·intro w9 h;refine sk (r2 [] [] [(10,Ii (zC8 zD))] [1] [] 2 ?_);exact ⟨_,sZ,_,_,rfl,h⟩
  intro w9 h;refine nE h fun wF h=>r2 [iH 7 { id:=2 },iM Fi zT,iA 2,iP 8 3 Fi zT [zB.Xp.Lo,zB.Xp.Hi] 8 wF] [7] [(5,.own 3 (((zT++[zB.Xp.Lo,zB.Xp.Hi])).length))] [0,1] [(3,Rb 3 1 (Mi (zT++[zB.Xp.Lo,zB.Xp.Hi])))] 4 (r0 [] [(10,Ii (zC8 zD))] ?_);exact ⟨_,(sY [3]),_,_,rfl,h⟩
 refine sq (bE h fun zA wU h=>nE h fun w4 h=>r2 [iK 1 { ids:=[0] } (zAT zF zA wU)] [] [] [] [(qG zA)] 1 (sq (bE h fun zL vA h=>r2 [iH 1 { av:=.own 0 (xH zL),gids:=[0],giv:=[(.row 3 1 (Mi zA))],ids:=[1],l:=[.own 0 (xH zF)],post:=[(.row 3 1 (Mi zL))] },iA ([.own 0 (xH zF)]:List AV),iA [Rb 3 1 (Mi zA)],iC (WY (args':=[.own 0 (xH zA)]) (zFC zA zL vA) rfl ⟨(congrArg (AV.own _) w4.symm),trivial⟩:y9 prog 37 [] [(.row 3 1 (Mi zA))] [.own 0 (xH zF)] [(.row 3 1 (Mi zL))] (.own 0 (xH zL)))] [5] [(4,.own 1 (xH zL))] [0] [(1,Rb 3 1 (Mi zL))] 2 (w0 [1] [] [(4,.own 0 (xH zL))] [(qG zL)] ?_))));cases h;exact rt rx
theorem zKt (F:Nat) (z7:List Int) (zQ:Int) (r:Int) (h:W2 F z7 zQ=some r):y9 prog 112 [] [] [.sl false 1 (Mi z7),Ii zQ] [] (Ii r):=by
 refine tI Tryz.f112 ?_;unfold W2 at h;refine sE [] [(0,.sl false 1 (Mi z7)),(1,Ii zQ)] [] 0 (sq (s0 [iN 1 Fi z7] [(7,Ii (lN z7)),(8,Ii 0)] (bE h fun zF zN h=>cv zF (fun q0=>mk [] [] 0) Tryz.f112 (fun q1=>[]) (fun q1=>Ii q1) ?_ ?_ (by rintro _ rfl _ hf;cases h;exact ⟨.inr rfl,hf⟩))))
 ·replace h:=zN;refine ab 0 (w0 [] [] _ _ (xW (fun n st=>∃ (zD:Int),st=mk [(0,.sl false 1 (Mi z7)),(1,Ii zQ),(7,Ii (lN z7)),(8,Ii zD)] [] 0/\RV F z7 zQ n zD=some zF) F zk ⟨_,rfl,h⟩ (fun _ ⟨_,_,h⟩=>xS h) ?_));rintro yD _ ⟨zD,rfl,h⟩;rw [RV,T9] at h;refine s0 [] [(9,.bool (decide (zD<(lN z7))))] (sq (ch 9 h (fun zM h=>sk (sq (ab 1 (s0 [] [(5,Ii zD)] (sq (bE h fun zB zW h=>r0 [iF 3 Fi zW] [(16,.bool (zQ==zB))] (ch 16 h ?_ ?_))))))) (fun _ h=>by cases h;exact ae 0 ⟨rfl,sZ⟩)))
  rotate_left
  ·intro yU h;refine sk (r0 [] [(8,Ii (zC8 zD))] ?_);exact ⟨_,sZ,_,rfl,h⟩
  intro yU h;refine s1 [] [0] [(4,Ii zD)] ?_;cases h;exact rt ry
 rintro z8 rfl;refine s0 [] [(4,Ii (-1))] ?_;cases h;exact rt rx
theorem zHW (F:Nat) (z7:List Int) (zQ:Int) (r:Bool) (h:NO F z7 zQ=some r):y9 prog 97 [] [] [.sl false 1 (Mi z7),Ii zQ] [] (.bool r):=by
 refine tI Tryz.f97 ?_;unfold NO at h;refine sE [] [(0,.sl false 1 (Mi z7)),(1,Ii zQ)] [] 0 (sq (bE h fun zA zN h=>r1 [iK 2 {} (zKt F z7 zQ zA zN)] [0] [(4,.bool (decide (zA>=0)))] ?_));cases h;exact rt rx
theorem zFv (z7:List Int) (r:(List Int)) (h:LQ z7=some r):y9 prog 27 [] [] [.sl false 1 (Mi z7)] [.row 3 1 (Mi r)] (.own 0 r.length):=by
 refine tI Tryz.f27 ?_;unfold LQ at h;refine sE [iH 0 { id:=0,m:=1 }] [(0,.sl false 1 (Mi z7))] [] 1 (sq (s0 [] [(4,.nb (Mi z7))] ?_));refine zEL (t:=4) (l:=(Mi z7)) zk zk ?_ ?_
 ·intro zW;replace zW:=YW.1 zW;replace h:=Eq.trans (show (some [])=((need ((kR.length+z7.length) * 8<=140737488355328)).bind fun _ =>
 some ([]++z7)) from by simp [zW,need]) h
  refine sE [iH 0 { id:=1,m:=1 }] [(2,.own 1 0)] [(1,Rb 3 1 [])] 2 (wz [1] [] [2] [] [(2,.own 0 kR.length)] [(0,Rb 3 1 [])] (ac (congrArg (AV.own _) (by first | (simp;done) | (simp;omega)):(.own 1 0:AV)=.own 1 kR.length) an) ?_);cases h;exact rt rx
 refine sk (sq (nE h fun zN h=>rE [iH 0 { id:=1 },iH 2 { id:=2,l:=(Mi ([]++z7)),n:=(([]++z7)).length },iA 0,iC trivial,iC (by simp:(List.map (AV.int .i64) ([]++z7))=[]++(List.map (AV.int .i64) z7)),iC (by simp:(([]++z7)).length=((List.map (AV.int .i64) ([]++z7))).length),iC (by first | (simp;done) | simpa using zN:(([]:List AV).length+((List.map (AV.int .i64) z7):List AV).length) * 8<=140737488355328)] [(2,.own 2 ((([]++z7)).length))] [(2,Rb 3 1 (Mi ([]++z7)))] 3 (w0 [2] [] [(2,.own 0 ((([]++z7)).length))] [(0,Rb 3 1 (Mi ([]++z7)))] ?_)));cases h;exact rt rx
theorem LC (zM:vX) (pO:Int) (vM:Int) (r:Int×(List (vF×Int))) (h:gK zM pO vM=some r):y9 prog 73 [(dW zM),(zC2 zM),(fH zM)] [] [Pp 0,Ii pO,Ii vM] [(dW zM),(nG r),(fH zM)] (Ii r.1):=by
 refine tI Tryz.f73 ?_;unfold gK at h;refine sE [] [(0,Pp 0),(1,Ii pO),(2,Ii vM)] [(0,Vb 177 (iB zM)),(1,.live (zC2 zM)),(AM zM)] 3 (s0 [iH 7 { av:=(Ii ((zV (qJ zM) (⟨pO,vM⟩:vF)).getD 0)),k:=(zV (qJ zM) (⟨pO,vM⟩:vF)).isSome },iC (zF9:wW prog 186 true zC4),iC (kB (f:=mX) (g:=(AV.int .i64)) zCQ (qJ zM) (⟨pO,vM⟩:vF) 0:u0 (List.map fP (qJ zM)) (.agg [Ii pO,Ii vM]) (Ii 0) (Ii ((zV (qJ zM) (⟨pO,vM⟩:vF)).getD 0)) (zV (qJ zM) (⟨pO,vM⟩:vF)).isSome)] [(7,Ii ((zV (qJ zM) (⟨pO,vM⟩:vF)).getD 0)),(8,.bool ((zV (qJ zM) (⟨pO,vM⟩:vF)).isSome))] (sq (c0 [] 21 h [] ?_ ?_)))
 rotate_left
 ·intro yU h;refine sk (s1 [] [0] [(6,Ii ((zV (qJ zM) (⟨pO,vM⟩:vF)).getD 0))] ?_);cases h;exact rt rx
 intro yU h;refine s0 [iH 4 { n:=(qJ zM).length },iC (congrArg Nat.cast (vL _):(((List.map fP (qJ zM)):List (AV×AV)).length:Int)=(lN (qJ zM)))] [(7,Ii (nO zM))] (nE h fun zN h=>r2 [iH 8 { es:=(List.map fP (xC (qJ zM) (⟨pO,vM⟩:vF) (nO zM))) },iC (zF9:wW prog 186 true zC4),iC (aO (f:=mX) (g:=(AV.int .i64)) zCQ (qJ zM) (⟨pO,vM⟩:vF) (nO zM):jS (List.map fP (qJ zM)) (.agg [Ii pO,Ii vM]) (Ii (nO zM)) (List.map fP (xC (qJ zM) (⟨pO,vM⟩:vF) (nO zM)))),iC (aV (f:=mX) (g:=(AV.int .i64)) (l:=zM.Yb.getD []) zN:((List.map fP (qJ zM)):List (AV×AV)).length<maxLen)] [0] [] [] [(1,.live (.map true zC4 (List.map fP (xC (qJ zM) (⟨pO,vM⟩:vF) (nO zM)))))] 3 (s0 [] [(6,Ii (nO zM))] ?_));cases h;exact rt rx
theorem zED (zM:vX) (fS:Int) (fT:Int) (fU:wZ) (r:(List xD)) (h:JR zM fS fT fU=some r):y9 prog 98 [(dW zM),(zC2 zM)] [(fH zM)] [Pp 0,Ii fS,Ii fT,kT fU] [(.var 177 (gR r)),(zC2 zM),(.row 183 3 (Mp tF r))] (.tuple []):=by
 refine ZS (fn:=Go.Proofs.Tryz.f98) (code:=BO Go.Proofs.Tryz.f98) zk zk (zle zk) ?_;unfold JR at h;refine zAP ?_;refine sE [iH 0 { id:=3 }] [(0,Pp 0),(1,Ii fS),(2,Ii fT),(7,Pp 3)] [(0,Vb 177 (iB zM)),(1,.live (zC2 zM)),(AM zM),(3,Vb 54 (bJ fU))] 4 (nE h fun zN h=>r2 [iH 16 { id:=4 },iM tF zM.Xj,iA 2,iP 17 5 tF zM.Xj (ML fS fT fU) 24 zN] [0,7] [] [2,3] [(0,Vb 177 [.mp 1,.own 5 (((zM.Xj++(ML fS fT fU))).length)]),(5,Rb 183 3 (Mp tF (zM.Xj++(ML fS fT fU))))] 6 ?_);cases h;exact ⟨_,(mF [0,1,5] [] [] [.s 0,.s 1,.s 2] (sl2:=[]) (bx2:=[(0,Vb 177 [.mp 1,.own 2 (((zM.Xj++(ML fS fT fU))).length)]),(1,.live (zC2 zM)),(2,Rb 183 3 (Mp tF (zM.Xj++(ML fS fT fU))))]) zk an),.inl rfl,zle rfl,zk⟩
theorem gM (yD:Int) (r:Bool) (h:dY yD=some r):y9 prog 34 [] [] [Ii yD] [] (.bool r):=by
 refine tI Tryz.f34 ?_;unfold dY at h;refine sE [] [(0,Ii yD)] [] 0 (sq (am 2 (decide (yD>=(-1000000000000000))&&decide (yD<=oV)) ?_ ?_))
 ·rcases bft (decide (yD>=(-1000000000000000))) with yA | yA
  ·exact rm [iH 5 Ht,iR 3 yA] (nD yA rfl)
  ·exact rm [iG 3 2,iH 5 Hf,iR 3 yA] (gA yA)
 cases h;exact rt rx
theorem zFB (yD:Int) (r:Int×Bool) (h:HI yD=some r):y9 prog 128 [] [] [Ii yD] [] (.tuple [.int .u64 r.1,.bool r.2]):=by
 refine tI Tryz.f128 ?_;unfold HI at h;refine sE [] [(0,Ii yD)] [] 0 (sq (c0 [] 5 h [] ?_ ?_))
 ·intro zM h;refine s0 [] [(2,.int .u64 (z9 (zG (0 - yD)))),(3,.bool true)] ?_;cases h;exact rt rx
 intro zM h;refine sk (s0 [] [(2,.int .u64 (z9 yD)),gW] ?_);cases h;exact rt rx
theorem zCj (zB:Int) (xE:Int) (r:Int×Int) (h:KX zB xE=some r):y9 prog 124 [] [] [.int .u64 zB,.int .u64 xE] [] (.tuple [.int .u64 r.1,.int .u64 r.2]):=by
 refine tI Tryz.f124 ?_;unfold KX at h;refine sE [] [(0,.int .u64 zB),(1,.int .u64 xE)] [] 0 (s0 [] [(6,.int .u64 (tS .u64 zB rR))] (s0 [iC (by decide:(0:Int)<=(32:Int))] [(7,.int .u64 (xX .u64 zB 32))] (s0 [] [(8,.int .u64 (tS .u64 xE rR))] (s0 [iC (by decide:(0:Int)<=(32:Int))] [(9,.int .u64 (xX .u64 xE 32))] (s0 [] [(10,.int .u64 (z9 ((tS .u64 zB rR) * (tS .u64 xE rR))))] (s0 [iC (by decide:(0:Int)<=(32:Int))] [(11,.int .u64 (KI zB xE))] (s0 [] [(12,.int .u64 (tS .u64 (KI zB xE) rR))] (s0 [iC (by decide:(0:Int)<=(32:Int))] [(13,.int .u64 (xX .u64 (KI zB xE) 32))] (s0 [] [(12,.int .u64 (z9 ((tS .u64 (KI zB xE) rR)+(z9 ((tS .u64 zB rR) * (xX .u64 xE 32))))))] (s0 [iC (by decide:(0:Int)<=(32:Int))] [(4,.int .u64 (z9 ((z9 ((z9 ((xX .u64 zB 32) * (xX .u64 xE 32)))+(xX .u64 (KI zB xE) 32)))+(xX .u64 (z9 ((tS .u64 (KI zB xE) rR)+(z9 ((tS .u64 zB rR) * (xX .u64 xE 32))))) 32))))] (s0 [] [(5,.int .u64 (z9 (zB * xE)))] ?_)))))))))));cases h;exact rt rx
theorem zGr (zB:Int) (r:Int) (h:YS zB=some r):y9 prog 86 [] [] [.int .u64 zB] [] (Ii r):=by
 refine tI Tryz.f86 ?_;unfold YS at h;refine sE [] [(0,.int .u64 zB),(2,Ii 0)] [] 0 (sq (s0 [] [(4,.bool (decide (zB>=4294967296)))] (bE h fun zF zN h=>?_)));refine xG (mk [(0,.int .u64 zF.1),(2,Ii zF.2)] [] 0) ?_ ?_
 ·replace h:=zN;refine ch 4 h ?_ ?_
  rotate_left
  ·intro zM h;refine sk ?_;cases h;exact ⟨rfl,sZ⟩
  intro zM h;refine s0 [iC (by decide:(0:Int)<=(32:Int))] [(0,.int .u64 (xX .u64 zB 32))] (r0 [] [(2,Ii 32)] ?_);cases h;exact ⟨rfl,sZ⟩
 refine sq (s0 [] [(8,.bool (decide (zF.1>=65536)))] (bE h fun zT zW h=>?_));refine xG (mk [(0,.int .u64 zT.1),(2,Ii zT.2)] [] 0) ?_ ?_
 ·replace h:=zW;refine ch 8 h ?_ ?_
  rotate_left
  ·intro yU h;refine sk ?_;cases h;exact ⟨rfl,sZ⟩
  intro yU h;refine s0 [iC (by decide:(0:Int)<=(16:Int))] [(0,.int .u64 (xX .u64 zF.1 16))] (r0 [] [(2,Ii (zG (zF.2+16)))] ?_);cases h;exact ⟨rfl,sZ⟩
 refine sq (s0 [] [(14,.bool (decide (zT.1>=256)))] (bE h fun yH yP h=>?_));refine xG (mk [(0,.int .u64 yH.1),(2,Ii yH.2)] [] 0) ?_ ?_
 ·replace h:=yP;refine ch 14 h ?_ ?_
  rotate_left
  ·intro w9 h;refine sk ?_;cases h;exact ⟨rfl,sZ⟩
  intro w9 h;refine s0 [iC (by decide:(0:Int)<=(8:Int))] [(0,.int .u64 (xX .u64 zT.1 8))] (r0 [] [(2,Ii (zG (zT.2+8)))] ?_);cases h;exact ⟨rfl,sZ⟩
 refine sq (bE h fun zP xQ h=>r0 [iH 3 { z:=zP },iC xQ] [(2,Ii (zG (yH.2+(zG zP))))] ?_);cases h;exact rt rx
theorem zOG (zB:Int) (r:Int) (h:zA6 zB=some r):y9 prog 131 [] [] [.int .u64 zB] [] (Ii r):=by
 refine tI Tryz.f131 ?_;unfold zA6 at h;refine sE [] [(0,.int .u64 zB)] [] 0 (sq (bE h fun zA zN h=>r0 [iK 1 {} (zGr zB zA zN)] [(2,Ii (zG (64 - zA)))] ?_));cases h;exact rt rx
theorem zKx (F:Nat) (qS:Int) (vP:Int) (xE:Int) (r:Int×Int) (h:VC F qS vP xE=some r):y9 prog 129 [] [] [.int .u64 qS,.int .u64 vP,.int .u64 xE] [] (.tuple [.int .u64 r.1,.int .u64 r.2]):=by
 refine tI Tryz.f129 ?_;unfold VC at h;refine sE [] [(0,.int .u64 qS),(1,.int .u64 vP),(2,.int .u64 xE)] [] 0 (sq (s0 [] [(20,.bool (xE==0))] (bE h fun zF zN h=>?_)));refine xG (mk [(0,.int .u64 qS),(1,.int .u64 vP),(2,.int .u64 xE)] [] 0) ?_ ?_
 ·replace h:=zN;refine ch 20 h ?_ ?_
  ·intro zM h;exact xS h
  intro zM h;refine sk ?_;cases h;exact ⟨rfl,sZ⟩
 refine sq (s0 [] [(24,.bool (decide (xE<=qS)))] (bE h fun zT zW h=>?_));refine xG (mk [(0,.int .u64 qS),(1,.int .u64 vP),(2,.int .u64 xE)] [] 0) ?_ ?_
 ·replace h:=zW;refine ch 24 h ?_ ?_
  ·intro yU h;exact xS h
  intro yU h;refine sk ?_;cases h;exact ⟨rfl,sZ⟩
 refine sq (c0 [] 27 h [] ?_ ?_)
 ·intro w9 h;refine sq (nE h fun yP h=>nE h fun xQ h=>r0 [iC yP,iC xQ] [(6,.int .u64 (pV .u64 vP xE)),(7,.int .u64 (dZ vP xE))] ?_);cases h;exact rt rx
 intro w9 h;refine sk (sq (bE h fun zA wF h=>r0 [iK 1 {} (zOG xE zA wF)] [(8,.int .u64 (z9 zA))] (sq (nE h fun wU h=>r0 [iC wU] [(2,.int .u64 (uD .u64 xE (z9 zA)))] (s0 [iC (by decide:(0:Int)<=(32:Int))] [(9,.int .u64 (cU xE zA))] (s0 [] [(10,.int .u64 (oC xE zA))] (sq (nE h fun w4 h=>nE h fun vA h=>r0 [iC w4,iC vA] [(11,.int .u64 (KW qS zA vP))] (sq (nE h fun vU h=>r0 [iC vU] [(12,.int .u64 (uD .u64 vP (z9 zA)))] (s0 [iC (by decide:(0:Int)<=(32:Int))] [(13,.int .u64 (cU vP zA))] (s0 [] [(14,.int .u64 (oC vP zA))] (sq (nE h fun vN h=>r0 [iC vN] [(15,.int .u64 (pV .u64 (KW qS zA vP) (cU xE zA)))] (s0 [] [(16,.int .u64 (z9 ((KW qS zA vP) - (z9 ((pV .u64 (KW qS zA vP) (cU xE zA)) * (cU xE zA))))))] (sq (bE h fun yH uK h=>?_)))))))))))))))));refine xG (mk [(2,.int .u64 (uD .u64 xE (z9 zA))),(8,.int .u64 (z9 zA)),(9,.int .u64 (cU xE zA)),(10,.int .u64 (oC xE zA)),(11,.int .u64 (KW qS zA vP)),(13,.int .u64 (cU vP zA)),(14,.int .u64 (oC vP zA)),(15,.int .u64 yH)] [] 0) ?_ ?_
 ·replace h:=uK;refine ab 0 (w0 [] [] _ _ (xW (fun n st=>∃ (q1_1:Int),∃ (rA:Int),st=mk [(2,.int .u64 (uD .u64 xE (z9 zA))),(8,.int .u64 (z9 zA)),(9,.int .u64 (cU xE zA)),(10,.int .u64 (oC xE zA)),(11,.int .u64 (KW qS zA vP)),(13,.int .u64 (cU vP zA)),(14,.int .u64 (oC vP zA)),(15,.int .u64 q1_1),(16,.int .u64 rA)] [] 0/\US F vP xE zA n q1_1 rA=some yH) F zk ⟨_,_,rfl,h⟩ (fun _ ⟨_,_,_,h⟩=>xS h) ?_));rintro yD _ ⟨q1_1,rA,rfl,h⟩;rw [US,zFn] at h;refine sq (ad 78 h ?_ ?_ ?_)
  ·rcases bft (decide (q1_1>=4294967296)) with wJ | wJ
   ·exact rm [iG 3 8,iH 11 Ht,iR 9 wJ] (ort wJ)
   ·exact rm [iH 11 Hf,iR 9 wJ] (orf wJ rfl)
  rotate_left
  ·intro v5 h;refine ae 0 ?_;cases h;exact ⟨rfl,sZ⟩
  intro v5 h;refine sk (ab 1 (s0 [] [(15,.int .u64 (z9 (q1_1 - 1)))] (s0 [] [(16,.int .u64 (z9 (rA+(cU xE zA))))] (c0 [] 85 h [] ?_ ?_))))
  rotate_left
  ·intro uN h;refine sk ?_;exact ⟨_,sZ,_,_,rfl,h⟩
  intro uN h;refine ae 0 ?_;cases h;exact ⟨rfl,sZ⟩
 refine s0 [] [(17,.int .u64 (ED qS zA vP yH xE))] (sq (nE h fun tP h=>r0 [iC tP] [(18,.int .u64 (pV .u64 (ED qS zA vP yH xE) (cU xE zA)))] (s0 [] [(16,.int .u64 (z9 ((ED qS zA vP yH xE) - (z9 ((pV .u64 (ED qS zA vP yH xE) (cU xE zA)) * (cU xE zA))))))] (sq (bE h fun uB jI h=>?_)))));refine xG (mk [(2,.int .u64 (uD .u64 xE (z9 zA))),(8,.int .u64 (z9 zA)),(14,.int .u64 (oC vP zA)),(15,.int .u64 yH),(17,.int .u64 (ED qS zA vP yH xE)),(18,.int .u64 uB)] [] 0) ?_ ?_
 ·replace h:=jI;refine ab 2 (w0 [] [] _ _ (xW (fun n st=>∃ (rB:Int),∃ (q0_1:Int),st=mk [(2,.int .u64 (uD .u64 xE (z9 zA))),(8,.int .u64 (z9 zA)),(9,.int .u64 (cU xE zA)),(10,.int .u64 (oC xE zA)),(14,.int .u64 (oC vP zA)),(15,.int .u64 yH),(16,.int .u64 rB),(17,.int .u64 (ED qS zA vP yH xE)),(18,.int .u64 q0_1)] [] 0/\S7 F vP xE zA n rB q0_1=some uB) F zk ⟨_,_,rfl,h⟩ (fun _ ⟨_,_,_,h⟩=>xS h) ?_));rintro vY _ ⟨rB,q0_1,rfl,h⟩;rw [S7,zEr] at h;refine sq (ad 113 h ?_ ?_ ?_)
  ·rcases bft (decide (q0_1>=4294967296)) with tO | tO
   ·exact rm [iG 3 8,iH 11 Ht,iR 9 tO] (ort tO)
   ·exact rm [iH 11 Hf,iR 9 tO] (orf tO rfl)
  rotate_left
  ·intro t9 h;refine ae 2 ?_;cases h;exact ⟨rfl,sZ⟩
  intro t9 h;refine sk (ab 3 (s0 [] [(18,.int .u64 (z9 (q0_1 - 1)))] (s0 [] [(16,.int .u64 (z9 (rB+(cU xE zA))))] (c0 [] 120 h [] ?_ ?_))))
  rotate_left
  ·intro cI h;refine sk ?_;exact ⟨_,sZ,_,_,rfl,h⟩
  intro cI h;refine ae 2 ?_;cases h;exact ⟨rfl,sZ⟩
 refine sq (nE h fun kO h=>r0 [iC kO] [(6,.int .u64 (z9 ((z9 (yH * 4294967296))+uB))),(7,.int .u64 (xX .u64 (z9 ((z9 ((z9 ((ED qS zA vP yH xE) * 4294967296))+(oC vP zA))) - (z9 (uB * (uD .u64 xE (z9 zA)))))) (z9 zA)))] ?_);cases h;exact rt rx
theorem zFo (F:Nat) (zQ:Int) (zU:Int) (zP:Int) (r:Int×Int×Bool×Bool) (h:HP F zQ zU zP=some r):y9 prog 121 [] [] [Ii zQ,Ii zU,Ii zP] [] (.tuple [.int .u64 r.1,.int .u64 r.2.1,.bool r.2.2.1,.bool r.2.2.2]):=by
 refine tI Tryz.f121 ?_;unfold HP at h;refine sE [] [(0,Ii zQ),(1,Ii zU),(2,Ii zP)] [] 0 (sq (sq (bE h fun yC xQ h=>?_)));refine xG (mk [(0,Ii zQ),(1,Ii zU),(2,Ii zP),(32,.bool yC)] [] 0) ?_ ?_
 ·replace h:=xQ;refine bE h fun zA zN h=>bc h ?_ ?_
  ·intro yA h;refine r0 [iG 4 3,iH 7 Ht,iG 9 2,iH 11 Ht,iG 13 3,iH 16 Ht,iK 1 {} (gM zQ zA zN),iR 4 yA,iX 2,iA true,iX 3,iA true] [(32,.bool true)] ?_;cases h;exact ⟨rfl,sZ⟩
  ·intro yA h;refine bE h fun zL zW h=>bc h ?_ ?_
   ·intro yG h;refine r0 [iH 7 Hf,iG 9 2,iH 11 Ht,iG 13 3,iH 16 Ht,iK 1 {} (gM zQ zA zN),iR 2 yA,iK 5 {} (gM zU zL zW),iR 2 yA,iR 3 yG,iX 3,iA true] [(32,.bool true)] ?_;cases h;exact ⟨rfl,sZ⟩
   ·intro yG h;refine bc h ?_ ?_
    ·intro xF h;refine r0 [iH 7 Hf,iH 11 Hf,iG 13 3,iH 16 Ht,iK 1 {} (gM zQ zA zN),iR 2 yA,iK 5 {} (gM zU zL zW),iR 2 yA,iR 3 yG,iR 4 xF] [(32,.bool true)] ?_;cases h;exact ⟨rfl,sZ⟩
    ·intro xF h;refine bE h fun yK yP h=>r0 [iH 7 Hf,iH 11 Hf,iH 16 Hf,iK 1 {} (gM zQ zA zN),iR 2 yA,iK 5 {} (gM zU zL zW),iR 2 yA,iR 3 yG,iR 2 xF,iK 14 {} (gM zP yK yP),iR 2 xF] [(32,.bool (!yK))] ?_;cases h;exact ⟨rfl,sZ⟩
 refine ch 32 h ?_ ?_
 ·intro zM h;refine s0 [] [(6,.int .u64 0),(7,.int .u64 0),(8,.bool false),(9,.bool false)] ?_;cases h;exact rt rx
 intro zM h;refine sk (sq (bE h fun yY wF h=>r0 [iK 1 {} (zFB zQ yY wF)] [(10,.int .u64 yY.1),(11,.bool yY.2)] (sq (bE h fun vG wU h=>r0 [iK 1 {} (zFB zU vG wU)] [(12,.int .u64 vG.1),(13,.bool vG.2)] (sq (bE h fun uC w4 h=>r0 [iK 2 {} (zCj yY.1 vG.1 uC w4)] [(14,.int .u64 uC.1),(15,.int .u64 uC.2)] (sq (c0 [] 52 h [] ?_ ?_))))))))
 ·intro yU h;refine s0 [] [(6,.int .u64 0),(7,.int .u64 0),(8,.bool false),(9,.bool false)] ?_;cases h;exact rt rx
 intro yU h;refine sk (sq (bE h fun t8 vA h=>r0 [iK 4 {} (zKx F uC.1 uC.2 (z9 zP) t8 vA)] [(6,.int .u64 t8.1),(7,.int .u64 t8.2)] (s0 [] [(8,.bool (!(yY.2==vG.2))),(9,.bool (decide (t8.1<=oV)))] ?_)));cases h;exact rt rx
theorem zEa (yD:Int) (ok_1:Bool) (r:Int×Bool) (h:LS yD ok_1=some r):y9 prog 122 [] [] [Ii yD,.bool ok_1] [] (.tuple [Ii r.1,.bool r.2]):=by
 refine tI Tryz.f122 ?_;unfold LS at h;refine sE [] [(0,Ii yD),(1,.bool ok_1)] [] 0 (sq (sq (bE h fun yC zW h=>?_)));refine xG (mk [(0,Ii yD),(12,.bool yC)] [] 0) ?_ ?_
 ·replace h:=zW;refine bc h ?_ ?_
  ·intro yA h;refine r0 [iG 3 3,iH 6 Ht,iR 4 yA] [(12,.bool true)] ?_;cases h;exact ⟨rfl,sZ⟩
  ·intro yA h;refine bE h fun zA zN h=>r0 [iH 6 Hf,iR 2 yA,iK 4 {} (gM yD zA zN),iR 2 yA] [(12,.bool (!zA))] ?_;cases h;exact ⟨rfl,sZ⟩
 refine ch 12 h ?_ ?_
 ·intro zM h;refine s0 [] [(4,Ii 0),oF] ?_;cases h;exact rt rx
 intro zM h;refine sk (s0 [] [(4,Ii yD),(5,.bool true)] ?_);cases h;exact rt rx
theorem zOT (F:Nat) (zQ:Int) (zU:Int) (zP:Int) (r:Int×Bool) (h:VB F zQ zU zP=some r):y9 prog 113 [] [] [Ii zQ,Ii zU,Ii zP] [] (.tuple [Ii r.1,.bool r.2]):=by
 refine tI Tryz.f113 ?_;unfold VB at h;refine sE [] [(0,Ii zQ),(1,Ii zU),(2,Ii zP)] [] 0 (sq (bE h fun zA zN h=>r0 [iK 3 {} (zFo F zQ zU zP zA zN)] [(8,.int .u64 zA.1),(9,.int .u64 zA.2.1),(10,.bool zA.2.2.1),(11,.bool zA.2.2.2)] (s0 [] [(12,Ii (zG zA.1))] (sq (s0 [] [(24,.bool zA.2.2.1)] (bE h fun zF zW h=>?_))))));refine xG (mk [(11,.bool zA.2.2.2),(12,Ii zF)] [] 0) ?_ ?_
 ·replace h:=zW;refine ch 24 h ?_ ?_
  rotate_left
  ·intro zM h;refine sk ?_;cases h;exact ⟨rfl,sZ⟩
  intro zM h;refine s0 [] [(12,Ii (zG (0 - (zG zA.1))))] (c0 [] 28 h [] ?_ ?_)
  ·intro yU h;refine r0 [] [(12,Ii (zG ((zG (0 - (zG zA.1))) - 1)))] ?_;cases h;exact ⟨rfl,sZ⟩
  intro yU h;refine sk ?_;cases h;exact ⟨rfl,sZ⟩
 refine sq (bE h fun zL yP h=>r0 [iK 2 {} (zEa zF zA.2.2.2 zL yP)] [(6,Ii zL.1),(7,.bool zL.2)] ?_);cases h;exact rt rx
theorem zMH (F:Nat) (zQ:Int) (zU:Int) (zP:Int) (r:Int×Bool) (h:TW F zQ zU zP=some r):y9 prog 114 [] [] [Ii zQ,Ii zU,Ii zP] [] (.tuple [Ii r.1,.bool r.2]):=by
 refine tI Tryz.f114 ?_;unfold TW at h;refine sE [] [(0,Ii zQ),(1,Ii zU),(2,Ii zP)] [] 0 (sq (bE h fun zA zN h=>r0 [iK 3 {} (zFo F zQ zU zP zA zN)] [(8,.int .u64 zA.1),(9,.int .u64 zA.2.1),(10,.bool zA.2.2.1),(11,.bool zA.2.2.2)] (s0 [] [(12,Ii (zG zA.1))] (sq (s0 [] [(24,.bool zA.2.2.1)] (bE h fun zF zW h=>?_))))));refine xG (mk [(11,.bool zA.2.2.2),(12,Ii zF)] [] 0) ?_ ?_
 ·replace h:=zW;refine ch 24 h ?_ ?_
  ·intro zM h;refine r0 [] [(12,Ii (zG (0 - (zG zA.1))))] ?_;cases h;exact ⟨rfl,sZ⟩
  intro zM h;refine c0 [] 28 h [] ?_ ?_
  ·intro yU h;refine r0 [] [(12,Ii (zG ((zG zA.1)+1)))] ?_;cases h;exact ⟨rfl,sZ⟩
  intro yU h;refine sk ?_;cases h;exact ⟨rfl,sZ⟩
 refine sq (bE h fun zL yP h=>r0 [iK 2 {} (zEa zF zA.2.2.2 zL yP)] [(6,Ii zL.1),(7,.bool zL.2)] ?_);cases h;exact rt rx
theorem zHu (F:Nat) (yM:Int) (dR:Int) (r:wZ×Bool) (h:EW F yM dR=some r):y9 prog 99 [] [] [Ii yM,Ii dR] [] (.tuple [kT r.1,.bool r.2]):=by
 induction F generalizing yM dR r with
 | zero=>cases h
 | succ F ih =>
  refine tI Tryz.f99 ?_;unfold EW at h;refine sE [iH 0 { id:=0 }] [(0,Ii yM),(1,Ii dR),(4,Pp 0)] [(0,Vb 54 [Ii 0,Ii 0])] 1 (sq (ad 25 h ?_ ?_ ?_))
  ·rcases bft (decide (yM<(-1000000000000))) with yA | yA
   ·exact rm [iG 3 2,iH 5 Ht,iG 7 2,iH 9 Ht,iG 11 2,iH 13 Ht,iR 3 yA,iX 2,iA true,iX 2,iA true] (ort yA)
   ·rcases bft (decide (yM>1000000000000)) with yG | yG
    ·exact rm [iH 5 Hf,iG 7 2,iH 9 Ht,iG 11 2,iH 13 Ht,iR 3 yA,iR 3 yG,iX 2,iA true] (orf yA (ort yG))
    ·rcases bft (decide (dR<0)) with xF | xF
     ·exact rm [iH 5 Hf,iH 9 Hf,iG 11 2,iH 13 Ht,iR 3 yA,iR 3 yG,iR 3 xF] (orf yA (orf yG (ort xF)))
     ·exact rm [iH 5 Hf,iH 9 Hf,iH 13 Hf,iR 3 yA,iR 3 yG,iR 3 xF] (orf yA (orf yG (orf xF rfl)))
  ·intro zM h;refine s0 [] [oF] ?_;cases h;exact rt rx
  intro zM h;refine sk (sq (c0 [] 28 h [] ?_ ?_))
  ·intro yU h;refine sq (bE h fun zA zN h=>r2 [iH 7 { id:=1 },iK 3 {} (ih (zG (0 - yM)) dR zA zN)] [] [(6,Pp 1)] [] [(1,Vb 54 (bJ zA.1))] 2 (s2 [] [6] [(5,.bool true)] [1] [(0,Vb 54 [Ii (zG (0 - zA.1.Hi)),Ii (zG (0 - zA.1.Lo))])] 2 ?_));cases h;exact rt rx
  intro yU h;refine sk (sq (bE h fun zL zW h=>r0 [iK 3 {} (zOT F yM (zG (1000000 - dR)) 1000000 zL zW)] [(8,Ii zL.1)] (sq (bE h fun yK yP h=>r0 [iK 3 {} (zMH F yM (zG (1000000+dR)) 1000000 yK yP)] [(10,Ii yK.1)] (s2 [] [] [(5,.bool true)] [] [(0,Vb 54 [Ii zL.1,Ii yK.1])] 1 ?_)))));cases h;exact rt rx
end Go.Ab
