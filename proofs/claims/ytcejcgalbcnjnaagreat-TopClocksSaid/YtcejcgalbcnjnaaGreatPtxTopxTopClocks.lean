/- Lemmas. No conditions but those that they name. -/
import Derived.Test.YtcejcgalbcnjnaaGreatPtx7
namespace Go.Ab
open Go Go.Proofs
set_option linter.unusedVariables false
theorem zIT (F:Nat) (zJ:uL) (r:Bool) (h:AN F zJ=some r):y9 prog 3 [] [] [NP zJ] [] (.bool r):=by
 refine tI Tryz.f3 ?_;unfold AN at h;refine sE [iH 0 { id:=0 }] [(1,Pp 0)] [(aC zJ)] 1 (sq (bE h fun zA zN h=>r2 [iH 5 { id:=1 },iK 1 {} (zCR F zJ zA zN)] [] [(3,Pp 1),(4,.bool zA.2)] [] [(1,Vb 36 (cD zA.1))] 2 (sq (c0 [] 23 h [] ?_ ?_))))
 ·intro zM h;refine sq (bE h fun zL zW h=>r2 [iK 0 {} (zAf F zL zW)] [1,3] [(2,.bool zL)] [0,1] [] 2 ?_);cases h;exact rt rx
 intro zM h;refine sk (sq (s0 [iN 2 Fi zJ.Xd] [(26,.sl false 1 (Mi zJ.Xd)),(27,Ii (lN zJ.Xd)),(28,Ii 0)] (bE h fun zF yP h=>cv zF (fun q0=>mk [(1,Pp 0),(3,Pp 1)] [(aC zJ),(1,Vb 36 (cD zA.1))] 2) Tryz.f3 (fun q1=>[]) (fun q1=>.bool q1) ?_ ?_ (by rintro _ rfl _ hf;cases h;exact ⟨.inr rfl,hf⟩))))
 ·replace h:=yP;refine ab 0 (w0 [0,1] [] _ _ (xW (fun n st=>∃ (zD:Int),st=mk [(1,Pp 0),(3,Pp 1),(26,.sl false 1 (Mi zJ.Xd)),(27,Ii (lN zJ.Xd)),(28,Ii zD)] [(aC zJ),(1,Vb 36 (cD zA.1))] 2/\LM F zJ n zD=some zF) F zk ⟨_,rfl,h⟩ (fun _ ⟨_,_,h⟩=>xS h) ?_));rintro yD _ ⟨zD,rfl,h⟩;rw [LM,TO] at h;refine s0 [] [(29,.bool (decide (zD<(lN zJ.Xd))))] (sq (ch 29 h (fun yU h=>sk (sq (ab 1 (sq (bE h fun zB xQ h=>r0 [iF 0 Fi xQ] [(6,Ii zB)] (s0 [] [(7,.bool (zB==0))] (sq (s0 [iN 2 cR zJ.Seen] [(35,Sq 4 cR zJ.Seen),(36,Ii (lN zJ.Seen)),(37,Ii 0)] (bE h fun zT wF h=>?_))))))))) (fun _ h=>by cases h;exact ae 0 ⟨rfl,sZ⟩)));refine xG (mk [(1,Pp 0),(3,Pp 1),(7,.bool zT),(26,.sl false 1 (Mi zJ.Xd)),(27,Ii (lN zJ.Xd)),(28,Ii zD)] [(aC zJ),(1,Vb 36 (cD zA.1))] 2) ?_ ?_
  ·replace h:=wF;refine ab 2 (w0 [0,1] [] _ _ (xW (fun n st=>∃ (dT:Bool),∃ (zK:Int),st=mk [(1,Pp 0),(3,Pp 1),(6,Ii zB),(7,.bool dT),(26,.sl false 1 (Mi zJ.Xd)),(27,Ii (lN zJ.Xd)),(28,Ii zD),(35,Sq 4 cR zJ.Seen),(36,Ii (lN zJ.Seen)),(37,Ii zK)] [(aC zJ),(1,Vb 36 (cD zA.1))] 2/\NL F zJ zB n dT zK=some zT) F zk ⟨_,_,rfl,h⟩ (fun _ ⟨_,_,_,h⟩=>xS h) ?_));rintro vY _ ⟨dT,zK,rfl,h⟩;rw [NL,XX] at h;refine s0 [] [(38,.bool (decide (zK<(lN zJ.Seen))))] (sq (ch 38 h (fun w9 h=>sk (sq (ab 3 (sq (bE h fun zI wU h=>r2 [iH 2 { id:=2 },iF 0 cR wU] [] [(9,Pp 2)] [] [(2,Vb 41 (zBM zI))] 3 ?_))))) (fun _ h=>by cases h;exact ae 2 ⟨rfl,sZ⟩)));refine xG (mk [(1,Pp 0),(3,Pp 1),(6,Ii zB),(7,.bool (dT||(GJ zI zB))),(26,.sl false 1 (Mi zJ.Xd)),(27,Ii (lN zJ.Xd)),(28,Ii zD),(35,Sq 4 cR zJ.Seen),(36,Ii (lN zJ.Seen)),(37,Ii zK)] [(aC zJ),(1,Vb 36 (cD zA.1))] 2) ?_ ?_
   ·rcases M8 dT with uZ | uZ
    ·refine r2 [iG 2 5,iH 7 Ht,iR 6 uZ] [] [(7,.bool true)] [2] [] 3 ?_;exact ⟨rfl,(sw [0,1] [] [.s 1,.s 3,.s 6,.a 7 (.bool (dT||(GJ zI zB))),.s 26,.s 27,.s 28,.s 35,.s 36,.s 37] [.s 0,.s 1] (ac (congrArg AV.bool (ort uZ):mP=.bool (dT||(GJ zI zB))) an))⟩
    ·refine r0 [iH 7 Hf,iR 6 uZ] [(7,.bool (GJ zI zB))] ?_;exact ⟨rfl,(sw [0,1] [] [.s 1,.s 3,.s 6,.a 7 (.bool (dT||(GJ zI zB))),.s 26,.s 27,.s 28,.s 35,.s 36,.s 37] [.s 0,.s 1] (ac (congrArg AV.bool (orf uZ rfl):(.bool (GJ zI zB):AV)=.bool (dT||(GJ zI zB))) an))⟩
   refine r0 [] [(37,Ii (zC8 zK))] ?_;exact ⟨_,sZ,_,_,rfl,h⟩
  refine c0 [] 51 h [] ?_ ?_
  rotate_left
  ·intro v5 h;refine sk (r0 [] [(28,Ii (zC8 zD))] ?_);exact ⟨_,sZ,_,rfl,h⟩
  intro v5 h;refine sq (bE h fun yK w4 h=>r2 [iK 0 {} (zAf F yK w4)] [1,3,26] [(2,.bool yK)] [0,1] [] 2 ?_);cases h;exact rt ry
 rintro z8 rfl;refine sq (bE h fun yY vA h=>r2 [iK 1 { ids:=[2] } (zD6 F zA.1 yY vA)] [] [(10,.own 2 (qP yY)),(11,Ii yY.2)] [] [(2,Rb 56 10 (Mp yS yY.1))] 3 (sq (sq (bE h fun yC vN h=>?_))));refine xG (mk [(1,Pp 0),(3,Pp 1),(10,.own 2 (qP yY)),(66,.bool yC)] [(aC zJ),(1,Vb 36 (cD zA.1)),(2,Rb 56 10 (Mp yS yY.1))] 3) ?_ ?_
 ·replace h:=vN;refine bc h ?_ ?_
  ·intro kM h;refine r0 [iG 3 4,iH 7 Ht,iR 5 kM] [(66,.bool true)] ?_;cases h;exact ⟨rfl,sZ⟩
  ·intro kM h;refine bE h fun vG vU h=>r0 [iH 7 Hf,iR 3 kM,iM yS yY.1,iK 5 { lend:=[2] } (zID F zA.1 yY.1 vG vU),iR 2 kM] [(66,.bool (!vG))] ?_;cases h;exact ⟨rfl,sZ⟩
 refine ch 66 h ?_ ?_
 ·intro uN h;refine s2 [] [1,3,10] [(2,.bool false)] [0,1,2] [] 3 ?_;cases h;exact rt rx
 intro uN h;refine sk (sq (s0 [] [(67,.own 2 (qP yY)),(68,Ii (lN yY.1)),(69,Ii 0)] (bE h fun yH uK h=>cv yH (fun q0=>mk [] [] 0) Tryz.f3 (fun q1=>[]) (fun q1=>.bool q1) ?_ ?_ (by rintro _ rfl _ hf;cases h;exact ⟨.inr rfl,hf⟩))))
 ·replace h:=uK;refine ab 4 (w0 [0,1,2] [] _ _ (xW (fun n st=>∃ (zS:Int),st=mk [(1,Pp 0),(3,Pp 1),(10,.own 2 (qP yY)),(67,.own 2 (qP yY)),(68,Ii (lN yY.1)),(69,Ii zS)] [(aC zJ),(1,Vb 36 (cD zA.1)),(2,Rb 56 10 (Mp yS yY.1))] 3/\LA F zJ zA yY n zS=some yH) F zk ⟨_,rfl,h⟩ (fun _ ⟨_,_,h⟩=>xS h) ?_));rintro iI _ ⟨zS,rfl,h⟩;rw [LA,WN] at h;refine s0 [] [(70,.bool (decide (zS<(lN yY.1))))] (sq (ch 70 h (fun t9 h=>sk (sq (ab 5 (sq (bE h fun z5 tP h=>r2 [iH 3 { id:=3 },iO 2 yS tP] [] [(12,Ii zS),(13,Pp 3)] [] [(3,Vb 56 (iW z5))] 4 (sq (sq (bE h fun nT kO h=>?_)))))))) (fun _ h=>by cases h;exact ae 4 ⟨rfl,sZ⟩)));refine xG (mk [(1,Pp 0),(3,Pp 1),(10,.own 2 (qP yY)),(12,Ii zS),(13,Pp 3),(67,.own 2 (qP yY)),(68,Ii (lN yY.1)),(69,Ii zS),(106,.bool nT)] [(aC zJ),(1,Vb 36 (cD zA.1)),(2,Rb 56 10 (Mp yS yY.1)),(3,Vb 56 (iW z5))] 4) ?_ ?_
  ·replace h:=kO;refine bc h ?_ ?_
   ·intro qA h;refine r0 [iG 5 7,iH 12 Ht,iG 14 4,iH 18 Ht,iG 20 12,iH 32 Ht,iR 8 qA,iX 4,iA true,iX 12,iA true] [(106,.bool true)] ?_;cases h;exact ⟨rfl,sZ⟩
   ·intro qA h;refine bc h ?_ ?_
    ·intro pQ h;refine r0 [iH 12 Hf,iG 14 4,iH 18 Ht,iG 20 12,iH 32 Ht,iR 6 qA,iN 10 zC1 zJ.At,iR 2 qA,iR 5 pQ,iX 12,iA true] [(106,.bool true)] ?_;cases h;exact ⟨rfl,sZ⟩
    ·intro pQ h;refine bc h ?_ ?_
     ·intro tU h;refine r0 [iH 12 Hf,iH 18 Hf,iG 20 12,iH 32 Ht,iR 6 qA,iN 10 zC1 zJ.At,iR 2 qA,iR 5 pQ,iR 13 tU] [(106,.bool true)] ?_;cases h;exact ⟨rfl,sZ⟩
     ·intro tU h;refine bE h fun zZ jI h=>r0 [iH 12 Hf,iH 18 Hf,iH 32 Hf,iR 6 qA,iN 10 zC1 zJ.At,iR 2 qA,iR 5 pQ,iR 9 tU,iF 28 zC1 jI,iR 2 tU,iN 30 Fi zZ,iR 2 tU] [(106,.bool (decide (z5.Id.Xf>=(lN zZ))))] ?_;cases h;exact ⟨rfl,sZ⟩
  refine ch 106 h ?_ ?_
  ·intro cI h;refine s2 [] [1,3,10,13,67] [(2,.bool false)] [0,1,2,3] [] 4 ?_;cases h;exact rt ry
  intro cI h;refine sk (sq (bE h fun uC jK h=>r0 [iK 7 {} (zAE zJ z5.Id.Xb z5.Id.Xf uC jK)] [(14,Ii uC)] (sq (ad 126 h ?_ ?_ ?_))))
  ·rcases bft (decide (uC<z5.Xk.Lo)) with nW | nW
   ·exact rm [iG 6 5,iH 11 Ht,iR 6 nW] (ort nW)
   ·exact rm [iH 11 Hf,iR 6 nW] (orf nW rfl)
  ·intro rD h;refine s2 [] [1,3,10,13,67] [(2,.bool false)] [0,1,2,3] [] 4 ?_;cases h;exact rt ry
  intro rD h;refine sk (c0 [] 128 h [] ?_ ?_)
  rotate_left
  ·intro g_9 h;refine sk (r2 [] [] [(69,Ii (zC8 zS))] [3] [] 4 ?_);exact ⟨_,sZ,_,rfl,h⟩
  intro g_9 h;refine sq (bE h fun xZ jJ h=>bE h fun t8 kP h=>r2 [iO 8 yS jJ,iK 9 {} (zKp F zA.1 z5.Id xZ.Id t8 kP)] [13] [(15,.bool t8.1)] [3] [] 4 (c0 [] 142 h [] ?_ ?_))
  rotate_left
  ·intro g_10 h;refine sk (r0 [] [(69,Ii (zC8 zS))] ?_);exact ⟨_,sZ,_,rfl,h⟩
  intro g_10 h;refine s2 [] [1,3,10,67] [(2,.bool false)] [0,1,2] [] 4 ?_;cases h;exact rt ry
 rintro wC rfl;refine sq (bE h fun kJ kQ h=>r0 [iK 0 {} (zAf F kJ kQ)] [(2,.bool kJ)] ?_);cases h;exact rt rx
end Go.Ab
