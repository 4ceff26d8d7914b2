/- Printed: the typed Lean functions of the Go functions, or the proofs that the Go functions meet them. No conditions but those that the theorems name. -/
import Derived.Test.YtoeengmnmhhpgaaGreatP15zx6
namespace Go.Ab
open Go Go.Proofs
set_option linter.unusedVariables false
theorem zAo (zG:yD) (zJ:yB) (r:Bool) (h:NJ zG zJ=some r):yS prog 11 [] [] [xV zG,qO zJ] [] (.bool r):=by
 refine tI Tryz.f11 ?_;unfold NJ at h;refine sE [iH 0 { id:=0 },iH 1 { id:=1 }] [(2,Pp 0),(3,Pp 1)] [(0,Vb 36 (yM zG)),(1,Vb 28 (wL zJ))] 2 (sq ?_);refine xP (mk [(4,.bool (zB1 zG zJ))] [] 0) ?_ ?_
 ·rcases bft (decide ((lN zG.Data)<=4000)) with zS | zS
  ·rcases bft (decide (zG.Size<=20000)) with z0 | z0
   ·rcases bft (decide ((lN zJ.Threads)<=70)) with yE | yE
    ·rcases bft (decide ((lN zJ.Domains)<=10)) with yC | yC
     ·refine r2 [iH 8 Ht,iH 14 Ht,iH 20 Ht,iH 26 Ht,iN 2 Fb zG.Data,iR 4 zS,iR 3 z0,iN 12 yJ zJ.Threads,iR 2 z0,iR 3 yE,iN 18 yA zJ.Domains,iR 2 yE,iR 3 yC,iN 24 z9 zJ.Snaps,iR 2 yC] [2,3] [(4,.bool (decide ((lN zJ.Snaps)<=20)))] [0,1] [] 2 ?_;exact ⟨rfl,(sw [] [] [.a 4 (.bool (zB1 zG zJ))] [] (ac (congrArg AV.bool (w9 zS (w9 z0 (w9 yE (w9 yC rfl)))):(.bool (decide ((lN zJ.Snaps)<=20)):AV)=.bool (zB1 zG zJ)) an))⟩
     ·refine r2 [iH 8 Ht,iH 14 Ht,iH 20 Ht,iG 22 4,iH 26 Hf,iN 2 Fb zG.Data,iR 4 zS,iR 3 z0,iN 12 yJ zJ.Threads,iR 2 z0,iR 3 yE,iN 18 yA zJ.Domains,iR 2 yE,iR 5 yC] [2,3] [(4,.bool false)] [0,1] [] 2 ?_;exact ⟨rfl,(sw [] [] [.a 4 (.bool (zB1 zG zJ))] [] (ac (congrArg AV.bool (w9 zS (w9 z0 (w9 yE (uN yC)))):(.bool false:AV)=.bool (zB1 zG zJ)) an))⟩
    ·refine r2 [iH 8 Ht,iH 14 Ht,iG 16 4,iH 20 Hf,iG 22 4,iH 26 Hf,iN 2 Fb zG.Data,iR 4 zS,iR 3 z0,iN 12 yJ zJ.Threads,iR 2 z0,iR 5 yE,iZ,iZ,iZ,iZ,iA false] [2,3] [(4,.bool false)] [0,1] [] 2 ?_;exact ⟨rfl,(sw [] [] [.a 4 (.bool (zB1 zG zJ))] [] (ac (congrArg AV.bool (w9 zS (w9 z0 (uN yE))):(.bool false:AV)=.bool (zB1 zG zJ)) an))⟩
   ·refine r2 [iH 8 Ht,iG 10 4,iH 14 Hf,iG 16 4,iH 20 Hf,iG 22 4,iH 26 Hf,iN 2 Fb zG.Data,iR 4 zS,iR 5 z0,iZ,iZ,iZ,iZ,iA false,iZ,iZ,iZ,iZ,iA false] [2,3] [(4,.bool false)] [0,1] [] 2 ?_;exact ⟨rfl,(sw [] [] [.a 4 (.bool (zB1 zG zJ))] [] (ac (congrArg AV.bool (w9 zS (uN z0)):(.bool false:AV)=.bool (zB1 zG zJ)) an))⟩
  ·refine r2 [iG 5 3,iH 8 Hf,iG 10 4,iH 14 Hf,iG 16 4,iH 20 Hf,iG 22 4,iH 26 Hf,iN 2 Fb zG.Data,iR 4 zS,iZ,iZ,iZ,iZ,iA false,iZ,iZ,iZ,iZ,iA false,iZ,iZ,iZ,iZ,iA false] [2,3] [(4,.bool false)] [0,1] [] 2 ?_;exact ⟨rfl,(sw [] [] [.a 4 (.bool (zB1 zG zJ))] [] (ac (congrArg AV.bool (uN zS):(.bool false:AV)=.bool (zB1 zG zJ)) an))⟩
 cases h;exact rt rx
theorem zF6 (F:Nat) (zO:List jP) (r:Bool) (h:H4 F zO=some r):yS prog 12 [] [] [Sq 2 j8 zO] [] (.bool r):=by
 refine tI Tryz.f12 ?_;unfold H4 at h;refine sE [] [(0,Sq 2 j8 zO)] [] 0 (sq (s0 [iN 1 j8 zO] [(7,Sq 2 j8 zO),(8,Ii (lN zO)),(9,Ii 0)] (bE h fun zE zJ h=>?_)));refine vL (K1:=kS prog zE 0 (fun q0=>mk [(0,Sq 2 j8 zO)] [] 0) Tryz.f12 (fun q1=>[]) fun q1=>.bool q1) ?_ ?_
 ·replace h:=zJ;refine yQ (id:=0) zk ?_;refine w0 [] [] [(0,Sq 2 j8 zO),(7,Sq 2 j8 zO),(8,Ii (lN zO)),(9,Ii 0)] [] ?_;refine wD (fun n st=>∃ (zP:Int),st=mk [(0,Sq 2 j8 zO),(7,Sq 2 j8 zO),(8,Ii (lN zO)),(9,Ii zP)] [] 0/\BL F zO n zP=some zE) F zk ⟨_,rfl,h⟩ ?_ ?_
  ·rintro _ ⟨_,_,h⟩;exact wC (h:(none:Option (Unit⊕Bool))=some zE)
  rintro z5 _ ⟨zP,rfl,h⟩;replace h:oK F zO (BL F zO z5) zP=some zE:=h;unfold oK at h;refine s0 [] [(10,.bool (decide (zP<(lN zO))))] (sq (ch 10 h ?_ ?_))
  rotate_left
  ·intro z8 h;refine wB (id:=0) zk ?_;cases h;exact ⟨rfl,(sI 0 [0])⟩
  intro z8 h;refine sk (sq ?_);refine yQ (id:=1) zk ?_;refine sq (bE h fun zH zW h=>r2 [iH 2 { id:=0 },iF 0 j8 zW] [] [(4,Pp 0)] [] [(0,Vb 38 (bM zH))] 1 (sq (ad 22 h ?_ ?_ ?_)))
  ·rcases bft (decide ((lN zH.Snaps)>10)) with yC | yC
   ·exact rm [iG 5 4,iH 9 Ht,iN 2 z9 zH.Snaps,iR 5 yC] (ort yC)
   ·exact rm [iH 9 Hf,iN 2 z9 zH.Snaps,iR 3 yC,iN 7 yG zH.Packets,iR 2 yC] (orf yC rfl)
  ·intro yV h;refine s2 [] [0,7,4] [(2,.bool false)] [0] [] 1 ?_;cases h;exact rt ry
  intro yV h;refine sk (s2 [iN 2 yG zH.Packets] [4] [(24,Sq 4 yG zH.Packets),(25,Ii (lN zH.Packets)),(26,Ii 0)] [0] [] 1 (bE h fun zR yU h=>?_));refine vL (K1:=kS prog zR 0 (fun q0=>mk [(0,Sq 2 j8 zO),(7,Sq 2 j8 zO),(8,Ii (lN zO)),(9,Ii zP)] [] 0) Tryz.f12 (fun q1=>[]) fun q1=>.bool q1) ?_ ?_
  ·replace h:=yU;refine yQ (id:=2) zk ?_;refine w0 [] [] [(0,Sq 2 j8 zO),(7,Sq 2 j8 zO),(8,Ii (lN zO)),(9,Ii zP),(24,Sq 4 yG zH.Packets),(25,Ii (lN zH.Packets)),(26,Ii 0)] [] ?_;refine wD (fun n st=>∃ (wE:Int),st=mk [(0,Sq 2 j8 zO),(7,Sq 2 j8 zO),(8,Ii (lN zO)),(9,Ii zP),(24,Sq 4 yG zH.Packets),(25,Ii (lN zH.Packets)),(26,Ii wE)] [] 0/\EW F zH n wE=some zR) F zk ⟨_,rfl,h⟩ ?_ ?_
   ·rintro _ ⟨_,_,h⟩;exact wC (h:(none:Option (Unit⊕Bool))=some zR)
   rintro uA _ ⟨wE,rfl,h⟩;replace h:H3 F zH (EW F zH uA) wE=some zR:=h;unfold H3 at h;refine s0 [] [(27,.bool (decide (wE<(lN zH.Packets))))] (sq (ch 27 h ?_ ?_))
   rotate_left
   ·intro xG h;refine wB (id:=2) zk ?_;cases h;exact ⟨rfl,(sI 0 [0,7,8,9])⟩
   intro xG h;refine sk (sq ?_);refine yQ (id:=3) zk ?_;refine sq (bE h fun yO xB h=>r2 [iH 2 { id:=0 },iF 0 yG xB] [] [(6,Pp 0)] [] [(0,Vb 56 (wU yO))] 1 (s2 [iN 2 x9 yO.Events] [6] [(33,.bool (decide ((lN yO.Events)>60)))] [0] [] 1 (ch 33 h ?_ ?_)))
   rotate_left
   ·intro wR h;refine sk (r0 [] [(26,Ii (zI (wE+1)))] ?_);exact ⟨_,(sI 0 [0,7,8,9,24,25,26]),_,rfl,h⟩
   intro wR h;refine s1 [] [0,7,24] [(2,.bool false)] ?_;cases h;exact rt ry
  intro e st1 hk;rcases zR with zX | xJ
  rotate_left
  ·obtain ⟨rfl,hf⟩:=hk;cases h;exact ⟨_,Sub.refl _ _,rfl,hf⟩
  obtain ⟨rfl,hs⟩:=hk;refine ⟨_,hs,?_⟩;refine r0 [] [(9,Ii (zI (zP+1)))] ?_;exact ⟨_,(sI 0 [0,7,8,9]),_,rfl,h⟩
 intro e st1 hk;rcases zE with vQ | t3
 rotate_left
 ·obtain ⟨rfl,hf⟩:=hk;cases h;exact ⟨st1,Sub.refl _ _,.inr rfl,hf⟩
 obtain ⟨rfl,hs⟩:=hk;refine ⟨_,hs,?_⟩;refine s1 [iN 1 j8 zO] [0] [(2,.bool (decide ((lN zO)<=6)))] ?_;cases h;exact rt rx
theorem M5 (zG:yD) (r:Int) (h:lH zG=some r):yS prog 42 [] [] [xV zG] [] (Ii r):=by
 refine tI Tryz.f42 ?_;unfold lH at h;refine sE [iH 0 { id:=0 }] [(1,Pp 0)] [(0,Vb 36 (yM zG))] 1 (sq (sq ?_));refine xP (mk [(41,.bool (zB0 zG))] [] 0) ?_ ?_
 ·rcases bft (decide (zG.Size<1)) with zS | zS
  ·refine r2 [iG 4 3,iH 7 Ht,iG 9 6,iH 15 Ht,iG 17 3,iH 20 Ht,iG 22 6,iH 28 Ht,iG 30 3,iH 33 Ht,iG 35 3,iH 38 Ht,iR 4 zS,iX 6,iA true,iX 3,iA true,iX 6,iA true,iX 3,iA true,iX 3,iA true] [1] [(41,.bool true)] [0] [] 1 ?_;exact ⟨rfl,(sw [] [] [.a 41 (.bool (zB0 zG))] [] (ac (congrArg AV.bool (ort zS):(.bool true:AV)=.bool (zB0 zG)) an))⟩
  ·rcases bft (decide (zG.Size>1048576)) with z0 | z0
   ·refine r2 [iH 7 Hf,iG 9 6,iH 15 Ht,iG 17 3,iH 20 Ht,iG 22 6,iH 28 Ht,iG 30 3,iH 33 Ht,iG 35 3,iH 38 Ht,iR 4 zS,iR 7 z0,iX 3,iA true,iX 6,iA true,iX 3,iA true,iX 3,iA true] [1] [(41,.bool true)] [0] [] 1 ?_;exact ⟨rfl,(sw [] [] [.a 41 (.bool (zB0 zG))] [] (ac (congrArg AV.bool (orf zS (ort z0)):(.bool true:AV)=.bool (zB0 zG)) an))⟩
   ·rcases bft (decide ((lN zG.Data)>zG.Size)) with yE | yE
    ·refine r2 [iH 7 Hf,iH 15 Hf,iG 17 3,iH 20 Ht,iG 22 6,iH 28 Ht,iG 30 3,iH 33 Ht,iG 35 3,iH 38 Ht,iR 4 zS,iR 3 z0,iN 11 Fb zG.Data,iR 4 z0,iR 4 yE,iX 6,iA true,iX 3,iA true,iX 3,iA true] [1] [(41,.bool true)] [0] [] 1 ?_;exact ⟨rfl,(sw [] [] [.a 41 (.bool (zB0 zG))] [] (ac (congrArg AV.bool (orf zS (orf z0 (ort yE))):(.bool true:AV)=.bool (zB0 zG)) an))⟩
    ·rcases bft (decide (zG.Durable<0)) with yC | yC
     ·refine r2 [iH 7 Hf,iH 15 Hf,iH 20 Hf,iG 22 6,iH 28 Ht,iG 30 3,iH 33 Ht,iG 35 3,iH 38 Ht,iR 4 zS,iR 3 z0,iN 11 Fb zG.Data,iR 4 z0,iR 4 yE,iR 7 yC,iX 3,iA true,iX 3,iA true] [1] [(41,.bool true)] [0] [] 1 ?_;exact ⟨rfl,(sw [] [] [.a 41 (.bool (zB0 zG))] [] (ac (congrArg AV.bool (orf zS (orf z0 (orf yE (ort yC)))):(.bool true:AV)=.bool (zB0 zG)) an))⟩
     ·rcases bft (decide (zG.Durable>(lN zG.Data))) with x6 | x6
      ·refine r2 [iH 7 Hf,iH 15 Hf,iH 20 Hf,iH 28 Hf,iG 30 3,iH 33 Ht,iG 35 3,iH 38 Ht,iR 4 zS,iR 3 z0,iN 11 Fb zG.Data,iR 4 z0,iR 4 yE,iR 5 yC,iN 26 Fb zG.Data,iR 2 yC,iR 4 x6,iX 3,iA true] [1] [(41,.bool true)] [0] [] 1 ?_;exact ⟨rfl,(sw [] [] [.a 41 (.bool (zB0 zG))] [] (ac (congrArg AV.bool (orf zS (orf z0 (orf yE (orf yC (ort x6))))):(.bool true:AV)=.bool (zB0 zG)) an))⟩
      ·rcases bft (decide (zG.Left<(-1))) with wJ | wJ
       ·refine r2 [iH 7 Hf,iH 15 Hf,iH 20 Hf,iH 28 Hf,iH 33 Hf,iG 35 3,iH 38 Ht,iR 4 zS,iR 3 z0,iN 11 Fb zG.Data,iR 4 z0,iR 4 yE,iR 5 yC,iN 26 Fb zG.Data,iR 2 yC,iR 4 x6,iR 4 wJ] [1] [(41,.bool true)] [0] [] 1 ?_;exact ⟨rfl,(sw [] [] [.a 41 (.bool (zB0 zG))] [] (ac (congrArg AV.bool (orf zS (orf z0 (orf yE (orf yC (orf x6 (ort wJ)))))):(.bool true:AV)=.bool (zB0 zG)) an))⟩
       ·refine r2 [iH 7 Hf,iH 15 Hf,iH 20 Hf,iH 28 Hf,iH 33 Hf,iH 38 Hf,iR 4 zS,iR 3 z0,iN 11 Fb zG.Data,iR 4 z0,iR 4 yE,iR 5 yC,iN 26 Fb zG.Data,iR 2 yC,iR 4 x6,iR 4 wJ] [1] [(41,.bool (decide (zG.Left>1048576)))] [0] [] 1 ?_;exact ⟨rfl,(sw [] [] [.a 41 (.bool (zB0 zG))] [] (ac (congrArg AV.bool (orf zS (orf z0 (orf yE (orf yC (orf x6 (orf wJ rfl)))))):(.bool (decide (zG.Left>1048576)):AV)=.bool (zB0 zG)) an))⟩
 refine ch 41 h ?_ ?_
 ·intro z8 h;refine s0 [] [(2,Ii 2)] ?_;cases h;exact rt rx
 intro z8 h;refine sk (s0 [] [(2,Ii 0)] ?_);cases h;exact rt rx
theorem XF (F:Nat) (zF:List Int) (zL:yZ) (r:(List Int)) (h:B1 F zF zL=some r):yS prog 51 [] [] [Sb zF,z9 zL] [.row 5 1 (Mb r)] (.own 0 r.length):=by
 refine tI Tryz.f51 ?_;unfold B1 at h;refine sE [iH 0 { id:=0 },iH 1 { id:=1,m:=1 }] [(0,Sb zF),(3,Pp 0)] [(0,Vb 76 (pL zL))] 2 (sq (bE h fun zA zJ h=>r2 [iK 3 { ids:=[2] } (jO F zF zL.A zA zJ)] [] [(0,.own 2 zA.length)] [] [(2,Rb 5 1 (Mb zA))] 3 (sq (bE h fun zC zW h=>r2 [iM Fb zA,iK 3 { frz:=[2],ids:=[3] } (jO F zA zL.AtA zC zW)] [] [(0,.own 3 zC.length)] [2] [(3,Rb 5 1 (Mb zC))] 4 (sq (bE h fun zM yU h=>r2 [iM Fb zC,iK 3 { frz:=[3],ids:=[4] } (jO F zC zL.B zM yU)] [] [(0,.own 4 zM.length)] [3] [(4,Rb 5 1 (Mb zM))] 5 (sq (bE h fun zT xB h=>r2 [iM Fb zM,iK 4 { frz:=[4],ids:=[5] } (jO F zM zL.AtB.Lo zT xB)] [] [(0,.own 5 zT.length)] [4] [(5,Rb 5 1 (Mb zT))] 6 (sq (bE h fun zU xR h=>r2 [iM Fb zT,iK 4 { frz:=[5],ids:=[6] } (jO F zT zL.AtB.Hi zU xR)] [0,3] [(4,.own 6 zU.length)] [0,5] [(6,Rb 5 1 (Mb zU))] 7 (w0 [6] [] [(4,.own 0 zU.length)] [(0,Rb 5 1 (Mb zU))] ?_)))))))))));cases h;exact rt rx
theorem zHl (F:Nat) (zJ:yB) (r:(List Int)) (h:GK F zJ=some r):yS prog 44 [] [] [qO zJ] [.row 5 1 (Mb r)] (.own 0 r.length):=by
 refine tI Tryz.f44 ?_;unfold GK at h;refine sE [iH 0 { id:=0 },iH 1 { id:=1,m:=1 }] [(1,Pp 0)] [(0,Vb 28 (wL zJ))] 2 (sq (bE h fun zA zW h=>r2 [iN 2 yJ zJ.Threads,iL 3 { ids:=[2] } [.nilsl,Ii (lN zJ.Threads)] (jO F [] (lN zJ.Threads) zA zW) ⟨rfl,rfl,trivial⟩] [] [(3,.own 2 zA.length)] [] [(2,Rb 5 1 (Mb zA))] 3 (sq (s0 [] [(4,Ii 0)] (bE h fun zE yU h=>?_)))));refine xP (mk [(1,Pp 0),(3,.own 1 zE.length)] [(0,Vb 28 (wL zJ)),(1,Rb 5 1 (Mb zE))] 2) ?_ ?_
 ·replace h:=yU;refine yQ (id:=0) zk ?_;refine w0 [0,2] [] [(1,Pp 0),(3,.own 1 zA.length),(4,Ii 0)] [(0,Vb 28 (wL zJ)),(1,Rb 5 1 (Mb zA))] ?_;refine wD (fun n st=>∃ (zQ:Int),∃ (zK:List Int),st=mk [(1,Pp 0),(3,.own 1 zK.length),(4,Ii zQ)] [(0,Vb 28 (wL zJ)),(1,Rb 5 1 (Mb zK))] 2/\oR F zJ n zQ zK=some zE) F zk ⟨_,_,rfl,h⟩ ?_ ?_
  ·rintro _ ⟨_,_,_,h⟩;exact wC (h:(none:Option (List Int))=some zE)
  rintro z5 _ ⟨zQ,zK,rfl,h⟩;replace h:EK F zJ (oR F zJ z5) zQ zK=some zE:=h;unfold EK at h;refine sq (c0 [iN 3 yJ zJ.Threads] 15 h [] ?_ ?_)
  rotate_left
  ·intro z8 h;refine wB (id:=0) zk ?_;cases h;exact ⟨rfl,(sI 2 [1,3])⟩
  intro z8 h;refine sk (sq ?_);refine yQ (id:=1) zk ?_;refine sq (bE h fun zH xB h=>bE h fun zC xR h=>r2 [iF 4 yJ xB,iM Fb zK,iK 7 { frz:=[1],ids:=[2] } (jO F zK zH.Id zC xR)] [] [(3,.own 2 zC.length)] [1] [(2,Rb 5 1 (Mb zC))] 3 (sq (bE h fun yO wA h=>bE h fun zM wS h=>r2 [iF 4 yJ wA,iM Fb zC,iK 7 { frz:=[2],ids:=[3] } (YR F zC yO.Name zM wS)] [] [(3,.own 3 zM.length)] [2] [(3,Rb 5 1 (Mb zM))] 4 (bE h fun xE vB h=>bE h fun zT vM h=>r2 [iF 4 yJ vB,iM Fb zM,iK 7 { frz:=[3],ids:=[4] } (jO F zM xE.Domain zT vM)] [] [(3,.own 4 zT.length)] [3] [(4,Rb 5 1 (Mb zT))] 5 (r0 [] [(4,Ii (zI (zQ+1)))] ?_)))));exact ⟨_,(sJ [0,4] [1,3,4]),_,_,rfl,h⟩
 refine sq (bE h fun zU v7 h=>r2 [iN 3 yA zJ.Domains,iM Fb zE,iK 4 { frz:=[1],ids:=[2] } (jO F zE (lN zJ.Domains) zU v7)] [] [(3,.own 2 zU.length)] [1] [(2,Rb 5 1 (Mb zU))] 3 (sq (s0 [] [(5,Ii 0)] (bE h fun zR uB h=>?_))));refine xP (mk [(1,Pp 0),(3,.own 1 zR.length)] [(0,Vb 28 (wL zJ)),(1,Rb 5 1 (Mb zR))] 2) ?_ ?_
 ·replace h:=uB;refine yQ (id:=2) zk ?_;refine w0 [0,2] [] [(1,Pp 0),(3,.own 1 zU.length),(5,Ii 0)] [(0,Vb 28 (wL zJ)),(1,Rb 5 1 (Mb zU))] ?_;refine wD (fun n st=>∃ (y9:Int),∃ (z4:List Int),st=mk [(1,Pp 0),(3,.own 1 z4.length),(5,Ii y9)] [(0,Vb 28 (wL zJ)),(1,Rb 5 1 (Mb z4))] 2/\AZ F zJ n y9 z4=some zR) F zk ⟨_,_,rfl,h⟩ ?_ ?_
  ·rintro _ ⟨_,_,_,h⟩;exact wC (h:(none:Option (List Int))=some zR)
  rintro uA _ ⟨y9,z4,rfl,h⟩;replace h:GO F zJ (AZ F zJ uA) y9 z4=some zR:=h;unfold GO at h;refine sq (c0 [iN 3 yA zJ.Domains] 51 h [] ?_ ?_)
  rotate_left
  ·intro yV h;refine wB (id:=2) zk ?_;cases h;exact ⟨rfl,(sI 2 [1,3])⟩
  intro yV h;refine sk (sq ?_);refine yQ (id:=3) zk ?_;refine sq (bE h fun wI uX h=>bE h fun yF u5 h=>r2 [iF 4 yA uX,iM Fb z4,iK 7 { frz:=[1],ids:=[2] } (jO F z4 wI.Id yF u5)] [] [(3,.own 2 yF.length)] [1] [(2,Rb 5 1 (Mb yF))] 3 (bE h fun vG uP h=>bE h fun yY t7 h=>r2 [iF 4 yA uP,iM Fb yF,iK 7 { frz:=[2],ids:=[3] } (jO F yF vG.Ppm yY t7)] [] [(3,.own 3 yY.length)] [2] [(3,Rb 5 1 (Mb yY))] 4 (r0 [] [(5,Ii (zI (y9+1)))] ?_)));exact ⟨_,(sJ [0,3] [1,3,5]),_,_,rfl,h⟩
 refine sq (bE h fun yH t6 h=>r2 [iN 3 z9 zJ.Snaps,iM Fb zR,iK 4 { frz:=[1],ids:=[2] } (jO F zR (lN zJ.Snaps) yH t6)] [] [(3,.own 2 yH.length)] [1] [(2,Rb 5 1 (Mb yH))] 3 (sq (s0 [] [(6,Ii 0)] (bE h fun yK jE h=>?_))));refine xP (mk [(3,.own 0 yK.length)] [(0,Rb 5 1 (Mb yK))] 1) ?_ ?_
 ·replace h:=jE;refine yQ (id:=4) zk ?_;refine w0 [0,2] [] [(1,Pp 0),(3,.own 1 yH.length),(6,Ii 0)] [(0,Vb 28 (wL zJ)),(1,Rb 5 1 (Mb yH))] ?_;refine wD (fun n st=>∃ (wQ:Int),∃ (yL:List Int),st=mk [(1,Pp 0),(3,.own 1 yL.length),(6,Ii wQ)] [(0,Vb 28 (wL zJ)),(1,Rb 5 1 (Mb yL))] 2/\CE F zJ n wQ yL=some yK) F zk ⟨_,_,rfl,h⟩ ?_ ?_
  ·rintro _ ⟨_,_,_,h⟩;exact wC (h:(none:Option (List Int))=some yK)
  rintro t5 _ ⟨wQ,yL,rfl,h⟩;replace h:KP F zJ (CE F zJ t5) wQ yL=some yK:=h;unfold KP at h;refine sq (c0 [iN 3 z9 zJ.Snaps] 79 h [] ?_ ?_)
  rotate_left
  ·intro xG h;refine wB (id:=4) zk ?_;cases h;exact ⟨rfl,(sJ [1] [3])⟩
  intro xG h;refine sk (sq ?_);refine yQ (id:=5) zk ?_;refine bE h fun uV jD h=>bE h fun yR p7 h=>r2 [iF 4 z9 jD,iM Fb yL,iK 6 { frz:=[1],ids:=[2] } (XF F yL uV yR p7)] [] [(3,.own 2 yR.length)] [1] [(2,Rb 5 1 (Mb yR))] 3 (r0 [] [(6,Ii (zI (wQ+1)))] ?_);exact ⟨_,(sJ [0,2] [1,3,6]),_,_,rfl,h⟩
 refine s1 [] [3] [(2,.own 0 yK.length)] ?_;cases h;exact rt rx
theorem N0 (F:Nat) (t4:Int) (zF:List Int) (r:(List Int)) (h:gX F t4 zF=some r):yS prog 23 [] [] [Iu t4,Sb zF] [.row 5 1 (Mb r)] (.own 0 r.length):=by
 refine tI Tryz.f23 ?_;unfold gX at h;refine sE [iH 0 { id:=0,m:=1 }] [(0,Iu t4),(1,Sb zF)] [] 1 (sq (nE h fun zJ h=>r2 [iH 1 { id:=1 },iA 1,iC trivial,iP 3 2 Fb [t4] zF 1 zJ] [] [(5,.own 2 ((([t4]++zF)).length))] [] [(2,Rb 5 1 (Mb ([t4]++zF)))] 3 (s2 [iH 1 { id:=3 }] [] [(6,.own 3 1)] [] [(3,Rb 5 1 (Mb [t4]))] 4 (sq (bE h fun zA zW h=>r2 [iN 2 Fb zF,iA 1,iK 3 { frz:=[3],ids:=[4] } (jO F [t4] (lN zF) zA zW)] [] [(6,.own 4 zA.length)] [3] [(4,Rb 5 1 (Mb zA))] 5 (sq (bE h fun zC yU h=>bE h fun zM xB h=>r2 [iM Fb ([t4]++zF),iK 2 { frz:=[2] } (zA9 F ([t4]++zF) zC yU),iM Fb zA,iK 3 { frz:=[4],ids:=[5] } (jO F zA zC zM xB)] [5] [(6,.own 5 zM.length)] [2,4] [(5,Rb 5 1 (Mb zM))] 6 (sq (nE h fun xR h=>r2 [iM Fb zM,iC trivial,iP 2 6 Fb zM zF 1 xR] [1,6] [(4,.own 6 (((zM++zF)).length))] [5] [(6,Rb 5 1 (Mb (zM++zF)))] 7 (w0 [6] [] [(4,.own 0 (((zM++zF)).length))] [(0,Rb 5 1 (Mb (zM++zF)))] ?_))))))))));cases h;exact rt rx
theorem RG (zG:yD) (r:yD×Int) (h:rI zG=some r):yS prog 98 [] [] [xV zG] [] (.tuple [xV r.1,Ii r.2]):=by
 refine tI Tryz.f98 ?_;unfold rI at h;refine sE [iH 0 { id:=0 },iH 1 { id:=1 }] [(1,Pp 0),(2,Pp 1)] [(0,Vb 36 (yM zG)),(1,uL)] 2 (sq (bE h fun zA zJ h=>r0 [iK 1 {} (M5 zG zA zJ)] [(4,Ii zA)] (sq (c0 [] 8 h [] ?_ ?_))))
 ·intro z8 h;refine s2 [] [1] [(3,Ii zA)] [0] [] 2 (wz [1] [] [] [0] [(2,Pp 0),(3,Ii zA)] [(0,Vb 36 (yM zL0))] (ar 36 (ar true (ar (Ii 0) (ar ([]:List AV) (ar (Ii 0) (ar (Ii 0) (ar (.bool false:AV) an))))))) ?_);cases h;exact rt rx
 intro z8 h;refine sk (sq (c0 [] 12 h [] ?_ ?_))
 ·intro yV h;refine s2 [] [1] [(3,Ii 19)] [0] [(1,Vb 36 (yM zG))] 2 (w0 [1] [] [(2,Pp 0),(3,Ii 19)] [(0,Vb 36 (yM zG))] ?_);cases h;exact rt rx
 intro yV h;refine sk (s2 [] [1] [(3,Ii 0)] [0] [(1,Vb 36 (yM zG))] 2 (w0 [1] [] [(2,Pp 0),(3,Ii 0)] [(0,Vb 36 (yM zG))] ?_));cases h;exact rt rx
theorem zGz (zG:yD) (zF:List Int) (r:yD×Int) (h:E6 zG zF=some r):yS prog 85 [] [] [xV zG,Sb zF] [] (.tuple [xV r.1,Ii r.2]):=by
 refine tI Tryz.f85 ?_;unfold E6 at h;refine sE [iH 0 { id:=0 },iH 1 { id:=1 }] [(1,Sb zF),(2,Pp 0),(4,Pp 1)] [(0,Vb 36 (yM zG)),(1,uL)] 2 (sq (bE h fun zA zJ h=>r2 [iK 1 {} (RG zG zA zJ)] [] [(6,Ii zA.2)] [] [(0,Vb 36 (yM zA.1))] 2 (sq (c0 [] 14 h [] ?_ ?_))))
 ·intro z8 h;refine s2 [] [1,2] [(5,Ii zA.2)] [0] [(1,Vb 36 (yM zA.1))] 2 (w0 [1] [] [(4,Pp 0),(5,Ii zA.2)] [(0,Vb 36 (yM zA.1))] ?_);cases h;exact rt rx
 intro z8 h;refine sk (sq (c0 [iN 2 Fb zA.1.Data,iN 4 Fb zF] 25 h [] ?_ ?_))
 ·intro yV h;refine s2 [] [1,2] [(5,Ii 6)] [0] [] 2 (wz [1] [] [] [0] [(4,Pp 0),(5,Ii 6)] [(0,Vb 36 (yM zL0))] (ar 36 (ar true (ar (Ii 0) (ar ([]:List AV) (ar (Ii 0) (ar (Ii 0) (ar (.bool false:AV) an))))))) ?_);cases h;exact rt rx
 intro yV h;refine sk (sq (am 7 (decide (zA.1.Left>=0)&&decide (zA.1.Left<(lN zF))) ?_ ?_))
 ·rcases bft (decide (zA.1.Left>=0)) with zS | zS
  ·exact rm [iH 9 Ht,iR 4 zS,iN 7 Fb zF,iR 2 zS] (w9 zS rfl)
  ·exact rm [iG 4 5,iH 9 Hf,iR 6 zS] (uN zS)
 refine sq (s0 [] [(37,.bool (decide (zA.1.Left>=0)&&decide (zA.1.Left<(lN zF))))] (bE h fun zE zW h=>?_));refine xP (mk [(1,Sb zE),(2,Pp 0),(4,Pp 1),(7,.bool (decide (zA.1.Left>=0)&&decide (zA.1.Left<(lN zF))))] [(0,Vb 36 (yM zA.1)),(1,uL)] 2) ?_ ?_
 ·replace h:=zW;refine ch 37 h ?_ ?_
  rotate_left
  ·intro xG h;refine sk ?_;cases h;exact ⟨rfl,(sI 2 [1,2,4,7])⟩
  intro xG h;refine nE h fun yU h=>r0 [iS 3 Fb zF 0 zA.1.Left (by decide) yU.1 yU.2] [(1,Sb (sub zF 0 zA.1.Left))] ?_;cases h;exact ⟨rfl,(sI 2 [1,2,4,7])⟩
 refine sq (nE h fun xB h=>nE h fun xR h=>r2 [iH 0 { id:=2 },iH 3 { id:=3,l:=(Mb ([]++zA.1.Data)),n:=(([]++zA.1.Data)).length },iA 0,iC trivial,iC (by simp:(List.map (AV.int .u8) ([]++zA.1.Data))=[]++(List.map (AV.int .u8) zA.1.Data)),iC (by simp:(([]++zA.1.Data)).length=((List.map (AV.int .u8) ([]++zA.1.Data))).length),iC (by first | (simp;done) | simpa using xB:(([]:List AV).length+((List.map (AV.int .u8) zA.1.Data):List AV).length) * 1<=140737488355328),iM Fb ([]++zA.1.Data),iC trivial,iP 5 4 Fb ([]++zA.1.Data) zE 1 xR] [] [] [] [(0,Vb 36 [Ii zA.1.Size,.own 4 (((([]++zA.1.Data)++zE)).length),Ii zA.1.Durable,Ii zA.1.Left,.bool zA.1.Down]),(4,Rb 5 1 (Mb (([]++zA.1.Data)++zE)))] 5 (sq (s0 [] [(51,.bool (decide (zA.1.Left>=0)))] (bE h fun zR wA h=>?_))));refine xP (mk [(2,Pp 0),(4,Pp 2),(7,.bool (decide (zA.1.Left>=0)&&decide (zA.1.Left<(lN zF))))] [(0,Vb 36 [Ii zA.1.Size,.own 1 (((([]++zA.1.Data)++zE)).length),Ii zA.1.Durable,Ii zR,.bool zA.1.Down]),(1,Rb 5 1 (Mb (([]++zA.1.Data)++zE))),(2,uL)] 3) ?_ ?_
 ·replace h:=wA;refine ch 51 h ?_ ?_
  ·intro wR h;refine r2 [iN 3 Fb zE] [1] [] [] [(0,Vb 36 [Ii zA.1.Size,.own 4 (((([]++zA.1.Data)++zE)).length),Ii zA.1.Durable,Ii (zI (zA.1.Left - (lN zE))),.bool zA.1.Down])] 5 ?_;cases h;exact ⟨rfl,(sJ [0,4,1] [2,4,7])⟩
  intro wR h;refine sk ?_;cases h;exact ⟨rfl,(sJ [0,4,1] [2,4,7])⟩
 refine sq (c0 [] 58 h [] ?_ ?_)
 rotate_left
 ·intro vR h;refine sk (s2 [] [2] [(5,Ii 0)] [0] [(2,Vb 36 [Ii zA.1.Size,.own 1 (((([]++zA.1.Data)++zE)).length),Ii zA.1.Durable,Ii zR,.bool zA.1.Down])] 3 (wz [2] [1] [] [0] [(4,Pp 0),(5,Ii 0)] [(0,Vb 36 (yM (⟨zA.1.Size,(([]++zA.1.Data)++zE),zA.1.Durable,zR,zA.1.Down⟩:yD)))] (ar 36 (ar true (ac (by first | (simp;done) | (simp;omega):((([]++zA.1.Data)++zE)).length=((List.map (AV.int .u8) (([]++zA.1.Data)++zE))).length) (ar (Ii zA.1.Size) (ar 1 (ar (Mb (([]++zA.1.Data)++zE)) (ar true (ar (Ii zA.1.Durable) (ar (Ii zR) (ar (.bool zA.1.Down:AV) an)))))))))) ?_));cases h;exact rt rx
 intro vR h;refine s2 [] [] [] [] [(0,Vb 36 [Ii zA.1.Size,.own 1 (((([]++zA.1.Data)++zE)).length),Ii zA.1.Durable,Ii zR,.bool true])] 3 (s2 [] [2] [(5,Ii 19)] [0] [(2,Vb 36 [Ii zA.1.Size,.own 1 (((([]++zA.1.Data)++zE)).length),Ii zA.1.Durable,Ii zR,.bool true])] 3 (wz [2] [1] [] [0] [(4,Pp 0),(5,Ii 19)] [(0,Vb 36 (yM (⟨zA.1.Size,(([]++zA.1.Data)++zE),zA.1.Durable,zR,true⟩:yD)))] (ar 36 (ar true (ac (by first | (simp;done) | (simp;omega):((([]++zA.1.Data)++zE)).length=((List.map (AV.int .u8) (([]++zA.1.Data)++zE))).length) (ar (Ii zA.1.Size) (ar 1 (ar (Mb (([]++zA.1.Data)++zE)) (ar true (ar (Ii zA.1.Durable) (ar (Ii zR) (ar (.bool true:AV) an)))))))))) ?_));cases h;exact rt rx
theorem zAa (zG:yD) (r:yD×Int) (h:r9 zG=some r):yS prog 57 [] [] [xV zG] [] (.tuple [xV r.1,Ii r.2]):=by
 refine tI Tryz.f57 ?_;unfold r9 at h;refine sE [iH 0 { id:=0 },iH 1 { id:=1 }] [(1,Pp 0),(2,Pp 1)] [(0,Vb 36 (yM zG)),(1,uL)] 2 (sq (bE h fun zA zJ h=>r2 [iK 1 {} (RG zG zA zJ)] [] [(4,Ii zA.2)] [] [(0,Vb 36 (yM zA.1))] 2 (sq (c0 [] 11 h [] ?_ ?_))))
 ·intro z8 h;refine s2 [] [1] [(3,Ii zA.2)] [0] [(1,Vb 36 (yM zA.1))] 2 (w0 [1] [] [(2,Pp 0),(3,Ii zA.2)] [(0,Vb 36 (yM zA.1))] ?_);cases h;exact rt rx
 intro z8 h;refine sk (sq (c0 [] 16 h [] ?_ ?_))
 ·intro yV h;refine s2 [] [] [] [] [(0,Vb 36 [Ii zA.1.Size,Sb zA.1.Data,Ii zA.1.Durable,Ii zA.1.Left,.bool true])] 2 (s2 [] [1] [(3,Ii 19)] [0] [(1,Vb 36 [Ii zA.1.Size,Sb zA.1.Data,Ii zA.1.Durable,Ii zA.1.Left,.bool true])] 2 (w0 [1] [] [(2,Pp 0),(3,Ii 19)] [(0,Vb 36 (yM (⟨zA.1.Size,zA.1.Data,zA.1.Durable,zA.1.Left,true⟩:yD)))] ?_));cases h;exact rt rx
 intro yV h;refine sk (s2 [iN 2 Fb zA.1.Data] [] [] [] [(0,Vb 36 [Ii zA.1.Size,Sb zA.1.Data,Ii (lN zA.1.Data),Ii zA.1.Left,.bool zA.1.Down])] 2 (s2 [] [1] [(3,Ii 0)] [0] [(1,Vb 36 [Ii zA.1.Size,Sb zA.1.Data,Ii (lN zA.1.Data),Ii zA.1.Left,.bool zA.1.Down])] 2 (w0 [1] [] [(2,Pp 0),(3,Ii 0)] [(0,Vb 36 (yM (⟨zA.1.Size,zA.1.Data,(lN zA.1.Data),zA.1.Left,zA.1.Down⟩:yD)))] ?_)));cases h;exact rt rx
theorem YW (F:Nat) (zG:yD) (zO:List (List Int)) (r:yD×Int) (h:oT F zG zO=some r):yS prog 43 [] [] [xV zG,.sl false 1 (List.map zMb zO)] [] (.tuple [xV r.1,Ii r.2]):=by
 refine tI Tryz.f43 ?_;unfold oT at h;refine sE [iH 0 { id:=0 },iH 1 { id:=1 }] [(1,.sl false 1 (List.map zMb zO)),(2,Pp 0),(4,Pp 1)] [(0,Vb 36 (yM zG)),(1,uL)] 2 (sq (s0 [] [(6,Ii 0)] (bE h fun zE zJ h=>?_)));refine vL (K1:=kS prog zE 0 (fun q0=>mk [(2,Pp 0),(4,Pp 1)] [(0,Vb 36 [Ii q0.1,Sb q0.2.1,Ii q0.2.2.1,Ii q0.2.2.2.1,.bool q0.2.2.2.2]),(1,uL)] 2) Tryz.f43 (fun q1=>[]) fun q1=>.tuple [xV q1.1,Ii q1.2]) ?_ ?_
 ·replace h:=zJ;refine yQ (id:=0) zk ?_;refine w0 [0,1] [] [(1,.sl false 1 (List.map zMb zO)),(2,Pp 0),(4,Pp 1),(6,Ii 0)] [(0,Vb 36 (yM zG)),(1,uL)] ?_;refine wD (fun n st=>∃ (zQ:Int),∃ (zB:Int),∃ (y5:List Int),∃ (y6:Int),∃ (yW:Int),∃ (xC:Bool),st=mk [(1,.sl false 1 (List.map zMb zO)),(2,Pp 0),(4,Pp 1),(6,Ii zQ)] [(0,Vb 36 [Ii zB,.sl false 1 (Mb y5),Ii y6,Ii yW,.bool xC]),(1,uL)] 2/\K9 F zO n zQ zB y5 y6 yW xC=some zE) F zk ⟨_,_,_,_,_,_,rfl,h⟩ ?_ ?_
  ·rintro _ ⟨_,_,_,_,_,_,_,h⟩;exact wC (h:(none:Option ((Int×(List Int)×Int×Int×Bool)⊕(yD×Int)))=some zE)
  rintro z5 _ ⟨zQ,zB,y5,y6,yW,xC,rfl,h⟩;replace h:EZ F zO (K9 F zO z5) zQ zB y5 y6 yW xC=some zE:=h;unfold EZ at h;refine sq (c0 [iN 2 zMb zO] 12 h [] ?_ ?_)
  rotate_left
  ·intro z8 h;refine wB (id:=0) zk ?_;cases h;exact ⟨rfl,(sI 2 [2,4])⟩
  intro z8 h;refine sk (sq ?_);refine yQ (id:=1) zk ?_;refine sq (bE h fun zH zW h=>bE h fun zA yU h=>r2 [iH 9 { id:=2 },iF 3 zMb zW,iL 5 {} [.agg [Ii zB,.sl false 1 (Mb y5),Ii y6,Ii yW,.bool xC],.sl false 1 (Mb zH)] (zGz (⟨zB,y5,y6,yW,xC⟩:yD) zH zA yU) ⟨rfl,rfl,rfl,rfl,rfl,rfl,rfl,rfl,rfl,rfl,trivial⟩] [] [(7,Pp 2),(8,Ii zA.2)] [] [(2,Vb 36 (yM zA.1))] 3 (sq (c0 [] 25 h [] ?_ ?_)))
  rotate_left
  ·intro yV h;refine sk (r2 [] [7] [] [2] [(0,Vb 36 (yM zA.1))] 3 (r0 [] [(6,Ii (zI (zQ+1)))] ?_));exact ⟨_,(sI 2 [1,2,4,6]),_,_,_,_,_,_,rfl,h⟩
  intro yV h;refine s2 [] [1,2,7] [(5,Ii zA.2)] [0,2] [(1,Vb 36 (yM zA.1))] 3 (w0 [1] [] [(4,Pp 0),(5,Ii zA.2)] [(0,Vb 36 (yM zA.1))] ?_);cases h;exact rt ry
 intro e st1 hk;rcases zE with zX | xJ
 rotate_left
 ·obtain ⟨rfl,hf⟩:=hk;cases h;exact ⟨st1,Sub.refl _ _,.inr rfl,hf⟩
 obtain ⟨rfl,hs⟩:=hk;refine ⟨_,hs,?_⟩;refine sq (bE h fun zC xB h=>r2 [iL 1 {} [.agg [Ii zX.1,Sb zX.2.1,Ii zX.2.2.1,Ii zX.2.2.2.1,.bool zX.2.2.2.2]] (zAa (⟨zX.1,zX.2.1,zX.2.2.1,zX.2.2.2.1,zX.2.2.2.2⟩:yD) zC xB) ⟨rfl,rfl,rfl,rfl,rfl,rfl,rfl,trivial⟩] [2] [(5,Ii zC.2)] [0] [(1,Vb 36 (yM zC.1))] 2 (w0 [1] [] [(4,Pp 0),(5,Ii zC.2)] [(0,Vb 36 (yM zC.1))] ?_));cases h;exact rt rx
theorem zDV (F:Nat) (zG:yD) (zJ:yB) (r:yD×Int) (h:KW F zG zJ=some r):yS prog 14 [] [] [xV zG,qO zJ] [] (.tuple [xV r.1,Ii r.2]):=by
 refine tI Tryz.f14 ?_;unfold KW at h;refine sE [iH 0 { id:=0 },iH 1 { id:=1 },iH 2 { id:=2 }] [(2,Pp 0),(3,Pp 1),(4,Pp 2)] [(0,Vb 36 (yM zG)),(1,Vb 28 (wL zJ)),(2,uL)] 3 (sq (bE h fun zA zW h=>r0 [iK 1 {} (M5 zG zA zW)] [(6,Ii zA)] (sq (c0 [] 10 h [] ?_ ?_))))
 ·intro z8 h;refine s2 [] [2,3] [(5,Ii zA)] [0,1] [] 3 (wz [2] [] [] [0] [(4,Pp 0),(5,Ii zA)] [(0,Vb 36 (yM zL0))] (ar 36 (ar true (ar (Ii 0) (ar ([]:List AV) (ar (Ii 0) (ar (Ii 0) (ar (.bool false:AV) an))))))) ?_);cases h;exact rt rx
 intro z8 h;refine sk (sq (c0 [iN 2 Fb zG.Data] 16 h [] ?_ ?_))
 ·intro yV h;refine s2 [] [2,3] [(5,Ii 18)] [0,1] [] 3 (wz [2] [] [] [0] [(4,Pp 0),(5,Ii 18)] [(0,Vb 36 (yM zL0))] (ar 36 (ar true (ar (Ii 0) (ar ([]:List AV) (ar (Ii 0) (ar (Ii 0) (ar (.bool false:AV) an))))))) ?_);cases h;exact rt rx
 intro yV h;refine sk (sq (bE h fun zC yU h=>r0 [iK 1 {} (WC F zJ zC yU)] [(6,Ii zC)] (sq (c0 [] 21 h [] ?_ ?_))))
 ·intro xG h;refine s2 [] [2,3] [(5,Ii zC)] [0,1] [] 3 (wz [2] [] [] [0] [(4,Pp 0),(5,Ii zC)] [(0,Vb 36 (yM zL0))] (ar 36 (ar true (ar (Ii 0) (ar ([]:List AV) (ar (Ii 0) (ar (Ii 0) (ar (.bool false:AV) an))))))) ?_);cases h;exact rt rx
 intro xG h;refine sk (sq (bE h fun zM xB h=>bE h fun zT xR h=>bE h fun zU wA h=>r2 [iH 4 { frz:=[4],id:=5 },iK 2 { ids:=[3] } (zHl F zJ zM xB),iM Fb zM,iK 3 { frz:=[3],ids:=[4] } (N0 F 72 zM zT xR),iM Fb zT,iC (by first | (simp;done) | (simp;omega):1=((List.map zMb [zT])).length),iK 5 { frz:=[5] } (YW F zG [zT] zU wA)] [2,3] [(5,Ii zU.2)] [0,1] [(2,Vb 36 (yM zU.1))] 6 (w0 [2] [] [(4,Pp 0),(5,Ii zU.2)] [(0,Vb 36 (yM zU.1))] ?_)));cases h;exact rt rx
theorem MV (y0:yD) (zF:yD) (r:Bool) (h:oZ y0 zF=some r):yS prog 15 [] [] [xV y0,xV zF] [] (.bool r):=by
 refine tI Tryz.f15 ?_;unfold oZ at h;refine sE [iH 0 { id:=0 },iH 1 { id:=1 }] [(2,Pp 0),(3,Pp 1)] [(0,Vb 36 (yM y0)),(1,Vb 36 (yM zF))] 2 (sq ?_);refine xP (mk [(4,.bool (zB2 y0 zF))] [] 0) ?_ ?_
 ·rcases bft (y0.Size==zF.Size) with zS | zS
  ·rcases bft (y0.Durable==zF.Durable) with z0 | z0
   ·rcases bft (y0.Left==zF.Left) with yE | yE
    ·rcases bft (y0.Down==zF.Down) with yC | yC
     ·refine r2 [iH 11 Ht,iH 18 Ht,iH 25 Ht,iH 29 { s:=y0.Data },iH 32 { s:=zF.Data },iH 34 Ht,iR 6 zS,iR 6 z0,iR 6 yE,iR 3 yC,iC (rfl:(Mb y0.Data)=List.map (AV.int .u8) y0.Data),iR 3 yC,iC (rfl:(Mb zF.Data)=List.map (AV.int .u8) zF.Data),iR 2 yC] [2,3] [(4,.bool (y0.Data==zF.Data))] [0,1] [] 2 ?_;exact ⟨rfl,(sw [] [] [.a 4 (.bool (zB2 y0 zF))] [] (ac (congrArg AV.bool (w9 zS (w9 z0 (w9 yE (w9 yC rfl)))):(.bool (y0.Data==zF.Data):AV)=.bool (zB2 y0 zF)) an))⟩
     ·refine r2 [iH 11 Ht,iH 18 Ht,iH 25 Ht,iG 27 7,iH 34 Hf,iR 6 zS,iR 6 z0,iR 6 yE,iR 8 yC] [2,3] [(4,.bool false)] [0,1] [] 2 ?_;exact ⟨rfl,(sw [] [] [.a 4 (.bool (zB2 y0 zF))] [] (ac (congrArg AV.bool (w9 zS (w9 z0 (w9 yE (uN yC)))):(.bool false:AV)=.bool (zB2 y0 zF)) an))⟩
    ·refine r2 [iH 11 Ht,iH 18 Ht,iG 20 5,iH 25 Hf,iG 27 7,iH 34 Hf,iR 6 zS,iR 6 z0,iR 6 yE,iZ,iZ,iZ,iZ,iZ,iZ,iZ,iA false] [2,3] [(4,.bool false)] [0,1] [] 2 ?_;exact ⟨rfl,(sw [] [] [.a 4 (.bool (zB2 y0 zF))] [] (ac (congrArg AV.bool (w9 zS (w9 z0 (uN yE))):(.bool false:AV)=.bool (zB2 y0 zF)) an))⟩
   ·refine r2 [iH 11 Ht,iG 13 5,iH 18 Hf,iG 20 5,iH 25 Hf,iG 27 7,iH 34 Hf,iR 6 zS,iR 6 z0,iZ,iZ,iZ,iZ,iZ,iA false,iZ,iZ,iZ,iZ,iZ,iZ,iZ,iA false] [2,3] [(4,.bool false)] [0,1] [] 2 ?_;exact ⟨rfl,(sw [] [] [.a 4 (.bool (zB2 y0 zF))] [] (ac (congrArg AV.bool (w9 zS (uN z0)):(.bool false:AV)=.bool (zB2 y0 zF)) an))⟩
  ·refine r2 [iG 6 5,iH 11 Hf,iG 13 5,iH 18 Hf,iG 20 5,iH 25 Hf,iG 27 7,iH 34 Hf,iR 6 zS,iZ,iZ,iZ,iZ,iZ,iA false,iZ,iZ,iZ,iZ,iZ,iA false,iZ,iZ,iZ,iZ,iZ,iZ,iZ,iA false] [2,3] [(4,.bool false)] [0,1] [] 2 ?_;exact ⟨rfl,(sw [] [] [.a 4 (.bool (zB2 y0 zF))] [] (ac (congrArg AV.bool (uN zS):(.bool false:AV)=.bool (zB2 y0 zF)) an))⟩
 cases h;exact rt rx
theorem zIN (F:Nat) (zG:yD) (wZ:List yZ) (zO:List z7) (r:yD×Int) (h:JI F zG wZ zO=some r):yS prog 17 [] [] [xV zG,Sq 5 z9 wZ,Sq 4 yG zO] [] (.tuple [xV r.1,Ii r.2]):=by
 refine tI Tryz.f17 ?_;unfold JI at h;refine sE [iH 0 { id:=0 },iH 1 { id:=1 }] [(1,Sq 5 z9 wZ),(2,Sq 4 yG zO),(3,Pp 0),(6,Pp 1)] [(0,Vb 36 (yM zG)),(1,uL)] 2 (sq (bE h fun zA zJ h=>r0 [iK 1 {} (M5 zG zA zJ)] [(8,Ii zA)] (sq (c0 [] 23 h [] ?_ ?_))))
 ·intro z8 h;refine s2 [] [1,2,3] [(7,Ii zA)] [0] [] 2 (wz [1] [] [] [0] [(6,Pp 0),(7,Ii zA)] [(0,Vb 36 (yM zL0))] (ar 36 (ar true (ar (Ii 0) (ar ([]:List AV) (ar (Ii 0) (ar (Ii 0) (ar (.bool false:AV) an))))))) ?_);cases h;exact rt rx
 intro z8 h;refine sk (sq (c0 [] 27 h [] ?_ ?_))
 ·intro yV h;refine s2 [] [1,2,3] [(7,Ii 19)] [0] [(1,Vb 36 (yM zG))] 2 (w0 [1] [] [(6,Pp 0),(7,Ii 19)] [(0,Vb 36 (yM zG))] ?_);cases h;exact rt rx
 intro yV h;refine sk (sq (bE h fun zC zW h=>r2 [iH 7 { id:=3 },iK 2 { ids:=[2] } (YU F zG.Data zC zW)] [] [(9,Pp 3),(10,.own 2 zC.2.1.length),(11,Ii zC.2.2)] [] [(2,Rb 56 4 (Mp yG zC.2.1)),(3,Vb 28 (wL zC.1))] 4 (sq (sq ?_))));refine xP (mk [(1,Sq 5 z9 wZ),(2,Sq 4 yG zO),(3,Pp 0),(6,Pp 1),(9,Pp 2),(10,.own 3 zC.2.1.length),(44,.bool ((zC.2.2==0)||(zC.2.2 != (lN zG.Data))))] [(0,Vb 36 (yM zG)),(1,uL),(2,Vb 28 (wL zC.1)),(3,Rb 56 4 (Mp yG zC.2.1))] 4) ?_ ?_
 ·rcases bft (zC.2.2==0) with zS | zS
  ·refine r0 [iG 3 5,iH 8 Ht,iR 6 zS] [(44,.bool true)] ?_;exact ⟨rfl,(sw [0,1,3,2] [] [.s 1,.s 2,.s 3,.s 6,.s 9,.s 10,.a 44 (.bool ((zC.2.2==0)||(zC.2.2 != (lN zG.Data))))] [.s 0,.s 1,.s 2,.s 3] (ac (congrArg AV.bool (ort zS):(.bool true:AV)=.bool ((zC.2.2==0)||(zC.2.2 != (lN zG.Data)))) an))⟩
  ·refine r0 [iH 8 Hf,iR 4 zS,iN 6 Fb zG.Data,iR 2 zS] [(44,.bool (zC.2.2 != (lN zG.Data)))] ?_;exact ⟨rfl,(sw [0,1,3,2] [] [.s 1,.s 2,.s 3,.s 6,.s 9,.s 10,.a 44 (.bool ((zC.2.2==0)||(zC.2.2 != (lN zG.Data))))] [.s 0,.s 1,.s 2,.s 3] (ac (congrArg AV.bool (orf zS rfl):(.bool (zC.2.2 != (lN zG.Data)):AV)=.bool ((zC.2.2==0)||(zC.2.2 != (lN zG.Data)))) an))⟩
 refine ch 44 h ?_ ?_
 ·intro xG h;refine s2 [] [1,2,3,9,10] [(7,Ii 18)] [0,2,3] [] 4 (wz [1] [] [] [0] [(6,Pp 0),(7,Ii 18)] [(0,Vb 36 (yM zL0))] (ar 36 (ar true (ar (Ii 0) (ar ([]:List AV) (ar (Ii 0) (ar (Ii 0) (ar (.bool false:AV) an))))))) ?_);cases h;exact rt rx
 intro xG h;refine sk (sq (nE h fun yU h=>nE h fun xB h=>r2 [iH 0 { id:=4 },iH 3 { id:=5,l:=(Mp z9 ([]++zC.1.Snaps)),n:=(([]++zC.1.Snaps)).length },iA 0,iC trivial,iC (by simp:(List.map z9 ([]++zC.1.Snaps))=[]++(List.map z9 zC.1.Snaps)),iC (by simp:(([]++zC.1.Snaps)).length=((List.map z9 ([]++zC.1.Snaps))).length),iC (by first | (simp;done) | simpa using yU:(([]:List AV).length+((List.map z9 zC.1.Snaps):List AV).length) * 40<=140737488355328),iM z9 ([]++zC.1.Snaps),iC trivial,iP 5 6 z9 ([]++zC.1.Snaps) wZ 40 xB] [] [(12,.own 6 (((([]++zC.1.Snaps)++wZ)).length))] [] [(6,Rb 76 5 (Mp z9 (([]++zC.1.Snaps)++wZ)))] 7 (sq (bE h fun zM xR h=>r2 [iM z9 (([]++zC.1.Snaps)++wZ),iK 3 { frz:=[6] } (GD F zC.1.Domains (([]++zC.1.Snaps)++wZ) zM xR)] [12] [(8,Ii zM)] [6] [] 7 (sq (c0 [] 57 h [] ?_ ?_))))))
 ·intro wR h;refine s2 [] [1,2,3,9,10] [(7,Ii zM)] [0,2,3] [] 7 (wz [1] [] [] [0] [(6,Pp 0),(7,Ii zM)] [(0,Vb 36 (yM zL0))] (ar 36 (ar true (ar (Ii 0) (ar ([]:List AV) (ar (Ii 0) (ar (Ii 0) (ar (.bool false:AV) an))))))) ?_);cases h;exact rt rx
 intro wR h;refine sk (s2 [iH 0 { id:=7,m:=1 }] [] [(13,.own 7 0)] [] [(7,Rb 22 1 [])] 8 (sq (s0 [] [(14,Ii 0)] (bE h fun zE wA h=>?_))));refine xP (mk [(2,.sl false 4 (Mp yG zO)),(3,Pp 0),(6,Pp 1),(9,Pp 2),(10,.own 3 zC.2.1.length),(13,.own 4 zE.length)] [(0,Vb 36 (yM zG)),(1,uL),(2,Vb 28 (wL zC.1)),(3,Rb 56 4 (Mp yG zC.2.1)),(4,Rb 22 1 (List.map zMb zE))] 5) ?_ ?_
 ·replace h:=wA;refine yQ (id:=0) zk ?_;refine w0 [0,1,2,3,7] [] [(1,Sq 5 z9 wZ),(2,Sq 4 yG zO),(3,Pp 0),(6,Pp 1),(9,Pp 2),(10,.own 3 zC.2.1.length),(13,.own 4 0),(14,Ii 0)] [(0,Vb 36 (yM zG)),(1,uL),(2,Vb 28 (wL zC.1)),(3,Rb 56 4 (Mp yG zC.2.1)),(4,Rb 22 1 [])] ?_;refine wD (fun n st=>∃ (zQ:Int),∃ (zK:List (List Int)),st=mk [(1,.sl false 5 (Mp z9 wZ)),(2,.sl false 4 (Mp yG zO)),(3,Pp 0),(6,Pp 1),(9,Pp 2),(10,.own 3 zC.2.1.length),(13,.own 4 zK.length),(14,Ii zQ)] [(0,Vb 36 (yM zG)),(1,uL),(2,Vb 28 (wL zC.1)),(3,Rb 56 4 (Mp yG zC.2.1)),(4,Rb 22 1 (List.map zMb zK))] 5/\HH F wZ n zQ zK=some zE) F zk ⟨_,_,rfl,h⟩ ?_ ?_
  ·rintro _ ⟨_,_,_,h⟩;exact wC (h:(none:Option (List (List Int)))=some zE)
  rintro z5 _ ⟨zQ,zK,rfl,h⟩;replace h:EU F wZ (HH F wZ z5) zQ zK=some zE:=h;unfold EU at h;refine sq (c0 [iN 2 z9 wZ] 63 h [] ?_ ?_)
  rotate_left
  ·intro vR h;refine wB (id:=0) zk ?_;cases h;exact ⟨rfl,(sI 5 [2,3,6,9,10,13])⟩
  intro vR h;refine sk (sq ?_);refine yQ (id:=1) zk ?_;refine bE h fun zH wS h=>bE h fun zT vB h=>bE h fun zU vM h=>nE h fun v7 h=>r2 [iH 7 { frz:=[6],id:=7 },iF 3 z9 wS,iL 5 { ids:=[5] } [.nilsl,z9 zH] (XF F [] zH zT vB) ⟨rfl,rfl,rfl,rfl,rfl,rfl,trivial⟩,iM Fb zT,iK 6 { frz:=[5],ids:=[6] } (N0 F 83 zT zU vM),iM Fb zU,iM zMb zK,iC (by first | (simp;done) | (simp;omega):1=((List.map zMb [zU])).length),iP 8 8 zMb zK [zU] 24 v7] [] [(13,.own 8 (((zK++[zU])).length))] [4] [(8,Rb 22 1 (List.map zMb (zK++[zU])))] 9 (r0 [] [(14,Ii (zI (zQ+1)))] ?_);exact ⟨_,(sJ [0,1,2,3,8] [1,2,3,6,9,10,13,14]),_,_,rfl,h⟩
 refine sq (s0 [] [(15,Ii 0)] (bE h fun zR uB h=>?_));refine vL (K1:=kS prog zR 0 (fun q0=>mk [(3,Pp 0),(6,Pp 1),(10,.own 2 q0.1.length),(13,.own 3 q0.2.length)] [(0,Vb 36 (yM zG)),(1,uL),(2,Rb 56 4 (Mp yG q0.1)),(3,Rb 22 1 (List.map zMb q0.2))] 4) Tryz.f17 (fun q1=>[]) fun q1=>.tuple [xV q1.1,Ii q1.2]) ?_ ?_
 ·replace h:=uB;refine yQ (id:=2) zk ?_;refine w0 [0,1,2,3,4] [] [(2,.sl false 4 (Mp yG zO)),(3,Pp 0),(6,Pp 1),(9,Pp 2),(10,.own 3 zC.2.1.length),(13,.own 4 zE.length),(15,Ii 0)] [(0,Vb 36 (yM zG)),(1,uL),(2,Vb 28 (wL zC.1)),(3,Rb 56 4 (Mp yG zC.2.1)),(4,Rb 22 1 (List.map zMb zE))] ?_;refine wD (fun n st=>∃ (y9:Int),∃ (z4:List z7),∃ (yL:List (List Int)),st=mk [(2,.sl false 4 (Mp yG zO)),(3,Pp 0),(6,Pp 1),(9,Pp 2),(10,.own 3 z4.length),(13,.own 4 yL.length),(15,Ii y9)] [(0,Vb 36 (yM zG)),(1,uL),(2,Vb 28 (wL zC.1)),(3,Rb 56 4 (Mp yG z4)),(4,Rb 22 1 (List.map zMb yL))] 5/\HP F zO zC n y9 z4 yL=some zR) F zk ⟨_,_,_,rfl,h⟩ ?_ ?_
  ·rintro _ ⟨_,_,_,_,h⟩;exact wC (h:(none:Option (((List z7)×(List (List Int)))⊕(yD×Int)))=some zR)
  rintro uA _ ⟨y9,z4,yL,rfl,h⟩;replace h:KT F zO zC (HP F zO zC uA) y9 z4 yL=some zR:=h;unfold KT at h;refine sq (c0 [iN 2 yG zO] 78 h [] ?_ ?_)
  rotate_left
  ·intro uO h;refine wB (id:=2) zk ?_;cases h;exact ⟨rfl,(sJ [0,1,3,4] [3,6,10,13])⟩
  intro uO h;refine sk (sq ?_);refine yQ (id:=3) zk ?_;refine sq (bE h fun yO uX h=>bE h fun yF u5 h=>r0 [iF 2 yG uX,iK 4 {} (QL F yO yF u5)] [(8,Ii yF)] (sq (c0 [] 87 h [] ?_ ?_)))
  ·intro tJ h;refine s2 [] [2,3,9,10,13] [(7,Ii yF)] [0,2,3,4] [] 5 (wz [1] [] [] [0] [(6,Pp 0),(7,Ii yF)] [(0,Vb 36 (yM zL0))] (ar 36 (ar true (ar (Ii 0) (ar ([]:List AV) (ar (Ii 0) (ar (Ii 0) (ar (.bool false:AV) an))))))) ?_);cases h;exact rt ry
  intro tJ h;refine sk (sq (sq (bE h fun xE uP h=>bE h fun yY t7 h=>r0 [iF 3 yG uP,iK 6 {} (L2 F zC.1 xE.Thread yY t7)] [(97,.bool (!yY))] (ch 97 h ?_ ?_))))
  ·intro qU h;refine s2 [] [2,3,9,10,13] [(7,Ii 5)] [0,2,3,4] [] 5 (wz [1] [] [] [0] [(6,Pp 0),(7,Ii 5)] [(0,Vb 36 (yM zL0))] (ar 36 (ar true (ar (Ii 0) (ar ([]:List AV) (ar (Ii 0) (ar (Ii 0) (ar (.bool false:AV) an))))))) ?_);cases h;exact rt ry
  intro qU h;refine sk (sq (sq (bE h fun wI t6 h=>bE h fun yH jE h=>r0 [iF 3 yG t6,iM yG z4,iK 5 { lend:=[3] } (SS F z4 wI yH jE)] [(105,.bool (!yH))] (ch 105 h ?_ ?_))))
  ·intro a8 h;refine s2 [] [2,3,9,10,13] [(7,Ii 11)] [0,2,3,4] [] 5 (wz [1] [] [] [0] [(6,Pp 0),(7,Ii 11)] [(0,Vb 36 (yM zL0))] (ar 36 (ar true (ar (Ii 0) (ar ([]:List AV) (ar (Ii 0) (ar (Ii 0) (ar (.bool false:AV) an))))))) ?_);cases h;exact rt ry
  intro a8 h;refine sk (sq (bE h fun vG jD h=>nE h fun p7 h=>r2 [iH 5 { id:=5 },iF 3 yG jD,iM yG z4,iA 1,iP 6 6 yG z4 [vG] 48 p7] [] [(10,.own 6 (((z4++[vG])).length))] [3] [(6,Rb 56 4 (Mp yG (z4++[vG])))] 7 (sq (bE h fun uV fZ h=>bE h fun yR h_21 h=>r2 [iF 2 yG fZ,iK 4 { ids:=[7] } (W2 F uV yR h_21)] [] [(16,.own 7 yR.1.length),(17,Ii yR.2)] [] [(7,Rb 5 1 (Mb yR.1))] 8 (sq (c0 [] 123 h [] ?_ ?_))))))
  ·intro cD h;refine s2 [] [2,3,9,10,13,16] [(7,Ii yR.2)] [0,2,4,6,7] [] 8 (wz [1] [] [] [0] [(6,Pp 0),(7,Ii yR.2)] [(0,Vb 36 (yM zL0))] (ar 36 (ar true (ar (Ii 0) (ar ([]:List AV) (ar (Ii 0) (ar (Ii 0) (ar (.bool false:AV) an))))))) ?_);cases h;exact rt ry
  intro cD h;refine sk (bE h fun y8 rP h=>nE h fun h_23 h=>r2 [iH 3 { frz:=[8],id:=9 },iM Fb yR.1,iK 2 { frz:=[7],ids:=[8] } (N0 F 80 yR.1 y8 rP),iM Fb y8,iM zMb yL,iC (by first | (simp;done) | (simp;omega):1=((List.map zMb [y8])).length),iP 4 10 zMb yL [y8] 24 h_23] [16] [(13,.own 10 (((yL++[y8])).length))] [4,7] [(10,Rb 22 1 (List.map zMb (yL++[y8])))] 11 (r0 [] [(15,Ii (zI (y9+1)))] ?_));exact ⟨_,(sJ [0,1,2,6,10] [2,3,6,9,10,13,15]),_,_,_,rfl,h⟩
 intro e st1 hk;rcases zR with zX | xJ
 rotate_left
 ·obtain ⟨rfl,hf⟩:=hk;cases h;exact ⟨st1,Sub.refl _ _,.inr rfl,hf⟩
 obtain ⟨rfl,hs⟩:=hk;refine ⟨_,hs,?_⟩;refine sq (sq (bE h fun wM rQ h=>r2 [iM yG zX.1,iK 1 { frz:=[2] } (XD F zX.1 wM rQ)] [10] [(133,.bool (decide (wM>20000)))] [2] [] 4 (ch 133 h ?_ ?_)))
 ·intro fY h;refine s2 [] [3,13] [(7,Ii 7)] [0,3] [] 4 (wz [1] [] [] [0] [(6,Pp 0),(7,Ii 7)] [(0,Vb 36 (yM zL0))] (ar 36 (ar true (ar (Ii 0) (ar ([]:List AV) (ar (Ii 0) (ar (Ii 0) (ar (.bool false:AV) an))))))) ?_);cases h;exact rt rx
 intro fY h;refine sk (sq (c0 [] 137 h [] ?_ ?_))
 ·intro g_12 h;refine s2 [] [3,13] [(7,Ii 0)] [0,3] [(1,Vb 36 (yM zG))] 4 (w0 [1] [] [(6,Pp 0),(7,Ii 0)] [(0,Vb 36 (yM zG))] ?_);cases h;exact rt rx
 intro g_12 h;refine sk (sq (bE h fun vT h_25 h=>nE h fun h_26 h=>r2 [iH 2 { frz:=[4],id:=5 },iL 1 { ids:=[4] } [Iu 70,.nilsl] (N0 F 70 [] vT h_25) ⟨rfl,rfl,trivial⟩,iM Fb vT,iM zMb zX.2,iC (by first | (simp;done) | (simp;omega):1=((List.map zMb [vT])).length),iP 3 6 zMb zX.2 [vT] 24 h_26] [] [(13,.own 6 (((zX.2++[vT])).length))] [3] [(6,Rb 22 1 (List.map zMb (zX.2++[vT])))] 7 (s0 [iN 2 Fb zG.Data] [(18,Ii (lN zG.Data))] (sq (s0 [] [(19,Ii 0)] (bE h fun yK h_27 h=>?_))))));refine xP (mk [(3,Pp 0),(6,Pp 1),(13,.own 2 (((zX.2++[vT])).length)),(18,Ii yK)] [(0,Vb 36 (yM zG)),(1,uL),(2,Rb 22 1 (List.map zMb (zX.2++[vT])))] 3) ?_ ?_
 ·replace h:=h_27;refine yQ (id:=4) zk ?_;refine w0 [0,1,6] [] [(3,Pp 0),(6,Pp 1),(13,.own 2 (((zX.2++[vT])).length)),(18,Ii (lN zG.Data)),(19,Ii 0)] [(0,Vb 36 (yM zG)),(1,uL),(2,Rb 22 1 (List.map zMb (zX.2++[vT])))] ?_;refine wD (fun n st=>∃ (wV:Int),∃ (wQ:Int),st=mk [(3,Pp 0),(6,Pp 1),(13,.own 2 (((zX.2++[vT])).length)),(18,Ii wV),(19,Ii wQ)] [(0,Vb 36 (yM zG)),(1,uL),(2,Rb 22 1 (List.map zMb (zX.2++[vT])))] 3/\K7 F zX vT n wV wQ=some yK) F zk ⟨_,_,rfl,h⟩ ?_ ?_
  ·rintro _ ⟨_,_,_,h⟩;exact wC (h:(none:Option Int)=some yK)
  rintro t5 _ ⟨wV,wQ,rfl,h⟩;replace h:KC F zX vT (K7 F zX vT t5) wV wQ=some yK:=h;unfold KC at h;refine sq (c0 [] 149 h [] ?_ ?_)
  rotate_left
  ·intro g_13 h;refine wB (id:=4) zk ?_;cases h;exact ⟨rfl,(sI 3 [3,6,13,18])⟩
  intro g_13 h;refine sk (sq ?_);refine yQ (id:=5) zk ?_;refine bE h fun nL h_28 h=>r0 [iH 4 { av:=.sl false 1 (Mb nL) },iC (qH h_28:0<=wQ),iC (by first | (simp;done) | simpa using qJ h_28:wQ<((((zX.2++[vT])).length:Nat):Int)),iC (qI h_28:(List.map zMb (zX.2++[vT]))[wQ.toNat]?=some (.sl false 1 (Mb nL))),iN 5 Fb nL] [(18,Ii (zI (wV+(lN nL))))] (r0 [] [(19,Ii (zI (wQ+1)))] ?_);exact ⟨_,(sI 3 [3,6,13,18,19]),_,_,rfl,h⟩
 refine sq (c0 [] 162 h [] ?_ ?_)
 ·intro g_14 h;refine s2 [] [3,13] [(7,Ii 6)] [0,2] [] 3 (wz [1] [] [] [0] [(6,Pp 0),(7,Ii 6)] [(0,Vb 36 (yM zL0))] (ar 36 (ar true (ar (Ii 0) (ar ([]:List AV) (ar (Ii 0) (ar (Ii 0) (ar (.bool false:AV) an))))))) ?_);cases h;exact rt rx
 intro g_14 h;refine sk (sq (bE h fun qF h_29 h=>r2 [iM zMb (zX.2++[vT]),iK 2 { frz:=[2] } (YW F zG (zX.2++[vT]) qF h_29)] [3,13] [(7,Ii qF.2)] [0,2] [(1,Vb 36 (yM qF.1))] 3 (w0 [1] [] [(6,Pp 0),(7,Ii qF.2)] [(0,Vb 36 (yM qF.1))] ?_)));cases h;exact rt rx
theorem zHN (zG:yD) (z5:Int) (r:yD×Int) (h:JE zG z5=some r):yS prog 56 [] [] [xV zG,Ii z5] [] (.tuple [xV r.1,Ii r.2]):=by
 refine tI Tryz.f56 ?_;unfold JE at h;refine sE [iH 0 { id:=0 },iH 1 { id:=1 }] [(1,Ii z5),(2,Pp 0),(4,Pp 1)] [(0,Vb 36 (yM zG)),(1,uL)] 2 (sq (bE h fun zA zJ h=>r2 [iK 1 {} (RG zG zA zJ)] [] [(6,Ii zA.2)] [] [(0,Vb 36 (yM zA.1))] 2 (sq (c0 [] 13 h [] ?_ ?_))))
 ·intro z8 h;refine s2 [] [2] [(5,Ii zA.2)] [0] [(1,Vb 36 (yM zA.1))] 2 (w0 [1] [] [(4,Pp 0),(5,Ii zA.2)] [(0,Vb 36 (yM zA.1))] ?_);cases h;exact rt rx
 intro z8 h;refine sk (sq (ad 24 h ?_ ?_ ?_))
 ·rcases bft (decide (z5<0)) with zS | zS
  ·exact rm [iG 3 5,iH 8 Ht,iR 6 zS] (ort zS)
  ·exact rm [iH 8 Hf,iR 4 zS,iN 6 Fb zA.1.Data,iR 2 zS] (orf zS rfl)
 ·intro yV h;refine s2 [] [2] [(5,Ii 2)] [0] [] 2 (wz [1] [] [] [0] [(4,Pp 0),(5,Ii 2)] [(0,Vb 36 (yM zL0))] (ar 36 (ar true (ar (Ii 0) (ar ([]:List AV) (ar (Ii 0) (ar (Ii 0) (ar (.bool false:AV) an))))))) ?_);cases h;exact rt rx
 intro yV h;refine sk (sq (nE h fun zW h=>nE h fun yU h=>r2 [iH 0 { id:=2 },iH 5 { id:=3,l:=(Mb ([]++(sub zA.1.Data 0 z5))),n:=(([]++(sub zA.1.Data 0 z5))).length },iS 4 Fb zA.1.Data 0 z5 (by decide) zW.1 zW.2,iA 0,iC trivial,iC (by simp:(List.map (AV.int .u8) ([]++(sub zA.1.Data 0 z5)))=[]++(List.map (AV.int .u8) (sub zA.1.Data 0 z5))),iC (by simp:(([]++(sub zA.1.Data 0 z5))).length=((List.map (AV.int .u8) ([]++(sub zA.1.Data 0 z5)))).length),iC (by first | (simp;done) | simpa using yU:(([]:List AV).length+((List.map (AV.int .u8) (sub zA.1.Data 0 z5)):List AV).length) * 1<=140737488355328)] [] [] [] [(0,Vb 36 [Ii zA.1.Size,.own 3 ((([]++(sub zA.1.Data 0 z5))).length),Ii zA.1.Durable,Ii zA.1.Left,.bool zA.1.Down]),(3,Rb 5 1 (Mb ([]++(sub zA.1.Data 0 z5))))] 4 (s2 [] [] [] [] [(0,Vb 36 [Ii zA.1.Size,.own 3 ((([]++(sub zA.1.Data 0 z5))).length),Ii (n7 zA.1.Durable z5),Ii zA.1.Left,.bool zA.1.Down])] 4 (s2 [] [2] [(5,Ii 0)] [0] [(1,Vb 36 [Ii zA.1.Size,.own 3 ((([]++(sub zA.1.Data 0 z5))).length),Ii (n7 zA.1.Durable z5),Ii zA.1.Left,.bool zA.1.Down])] 4 (wz [1] [3] [] [0] [(4,Pp 0),(5,Ii 0)] [(0,Vb 36 (yM (⟨zA.1.Size,([]++(sub zA.1.Data 0 z5)),n7 zA.1.Durable z5,zA.1.Left,zA.1.Down⟩:yD)))] (ar 36 (ar true (ac (by first | (simp;done) | (simp;omega):(([]++(sub zA.1.Data 0 z5))).length=((List.map (AV.int .u8) ([]++(sub zA.1.Data 0 z5)))).length) (ar (Ii zA.1.Size) (ar 1 (ar (Mb ([]++(sub zA.1.Data 0 z5))) (ar true (ar (Ii (n7 zA.1.Durable z5)) (ar (Ii zA.1.Left) (ar (.bool zA.1.Down:AV) an)))))))))) ?_)))));cases h;exact rt rx
theorem zFX (F:Nat) (zG:yD) (r:yD×Int) (h:JG F zG=some r):yS prog 19 [] [] [xV zG] [] (.tuple [xV r.1,Ii r.2]):=by
 refine tI Tryz.f19 ?_;unfold JG at h;refine sE [iH 0 { id:=0 },iH 1 { id:=1 }] [(1,Pp 0),(2,Pp 1)] [(0,Vb 36 (yM zG)),(1,uL)] 2 (sq (bE h fun zA zJ h=>r0 [iK 1 {} (M5 zG zA zJ)] [(4,Ii zA)] (sq (c0 [] 13 h [] ?_ ?_))))
 ·intro z8 h;refine s2 [] [1] [(3,Ii zA)] [0] [] 2 (wz [1] [] [] [0] [(2,Pp 0),(3,Ii zA)] [(0,Vb 36 (yM zL0))] (ar 36 (ar true (ar (Ii 0) (ar ([]:List AV) (ar (Ii 0) (ar (Ii 0) (ar (.bool false:AV) an))))))) ?_);cases h;exact rt rx
 intro z8 h;refine sk (sq (c0 [] 17 h [] ?_ ?_))
 ·intro yV h;refine s2 [] [1] [(3,Ii 19)] [0] [(1,Vb 36 (yM zG))] 2 (w0 [1] [] [(2,Pp 0),(3,Ii 19)] [(0,Vb 36 (yM zG))] ?_);cases h;exact rt rx
 intro yV h;refine sk (sq (bE h fun zC zW h=>r2 [iH 7 { id:=3 },iK 2 { ids:=[2] } (YU F zG.Data zC zW)] [] [(7,Ii zC.2.2)] [] [] 4 (sq (c0 [] 27 h [] ?_ ?_))))
 ·intro xG h;refine s2 [] [1] [(3,Ii 10)] [0] [] 4 (wz [1] [] [] [0] [(2,Pp 0),(3,Ii 10)] [(0,Vb 36 (yM zL0))] (ar 36 (ar true (ar (Ii 0) (ar ([]:List AV) (ar (Ii 0) (ar (Ii 0) (ar (.bool false:AV) an))))))) ?_);cases h;exact rt rx
 intro xG h;refine sk (sq (bE h fun zM yU h=>r2 [iH 6 { id:=4 },iK 2 {} (zHN zG zC.2.2 zM yU)] [1] [(8,Pp 4)] [0] [(4,Vb 36 (yM zM.1))] 5 (sq (bE h fun zT xB h=>r2 [iK 1 {} (zAa zM.1 zT xB)] [8] [(3,Ii zT.2)] [4] [(1,Vb 36 (yM zT.1))] 5 (w0 [1] [] [(2,Pp 0),(3,Ii zT.2)] [(0,Vb 36 (yM zT.1))] ?_)))));cases h;exact rt rx
end Go.Ab
