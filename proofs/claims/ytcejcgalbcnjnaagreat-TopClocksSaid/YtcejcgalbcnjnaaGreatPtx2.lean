/- Lemmas. No conditions but those that they name. -/
import Derived.Test.YtcejcgalbcnjnaaGreatPtx1
namespace Go.Ab
open Go Go.Proofs
set_option linter.unusedVariables false
theorem zFf (F:Nat) (s1_1:List xO) (s2_1:List xO) (r:Bool) (h:OK F s1_1 s2_1=some r):y9 prog 47 [] [] [Sq 5 yQ s1_1,Sq 5 yQ s2_1] [] (.bool r):=by
 refine tI Tryz.f47 ?_;unfold OK at h;refine sE [] [(0,Sq 5 yQ s1_1),(1,Sq 5 yQ s2_1)] [] 0 (sq (c0 [iN 1 yQ s1_1,iN 3 yQ s2_1] 10 h [] ?_ ?_))
 ·intro zM h;refine s1 [] [0,1] jP ?_;cases h;exact rt rx
 intro zM h;refine sk (sq (s0 [iN 1 yQ s1_1] [(12,Ii (lN s1_1)),(13,Ii 0)] (bE h fun zF zN h=>cv zF (fun q0=>mk [] [] 0) Tryz.f47 (fun q1=>[]) (fun q1=>.bool q1) ?_ ?_ (by rintro _ rfl _ hf;cases h;exact ⟨.inr rfl,hf⟩))))
 ·replace h:=zN;refine ab 0 (w0 [] [] _ _ (xW (fun n st=>∃ (zD:Int),st=mk [(0,Sq 5 yQ s1_1),(1,Sq 5 yQ s2_1),(12,Ii (lN s1_1)),(13,Ii zD)] [] 0/\R4 F s1_1 s2_1 n zD=some zF) F zk ⟨_,rfl,h⟩ (fun _ ⟨_,_,h⟩=>xS h) ?_));rintro yD _ ⟨zD,rfl,h⟩;rw [R4,JK] at h;refine s0 [] [(14,.bool (decide (zD<(lN s1_1))))] (sq (ch 14 h (fun yU h=>sk (sq (ab 1 (s0 [] [(5,Ii zD)] (sq (bE h fun zB zW h=>bE h fun zI yP h=>r0 [iH 8 { b:=(decide (zB=zI)),mks:=WR },iF 2 yQ zW,iF 6 yQ yP,iC (zFI:bD prog 67 WR),iC (D5 (f:=yQ) zEK zB zI:((decide (zB=zI))=true↔AV.agg (TX zB)=AV.agg (TX zI)))] [(24,.bool (!(decide (zB=zI))))] (ch 24 h ?_ ?_))))))) (fun _ h=>by cases h;exact ae 0 ⟨rfl,sZ⟩)))
  rotate_left
  ·intro w9 h;refine sk (r0 [] [(13,Ii (zC8 zD))] ?_);exact ⟨_,sZ,_,rfl,h⟩
  intro w9 h;refine s1 [] [0,1] jP ?_;cases h;exact rt ry
 rintro z8 rfl;refine s0 [] [(4,.bool true)] ?_;cases h;exact rt rx
theorem zOO (F:Nat) (s1_1:List (List Int)) (s2_1:List (List Int)) (r:Bool) (h:OU F s1_1 s2_1=some r):y9 prog 22 [] [] [Ss s1_1,Ss s2_1] [] (.bool r):=by
 refine tI Tryz.f22 ?_;unfold OU at h;refine sE [] [(0,Ss s1_1),(1,Ss s2_1)] [] 0 (sq (c0 [iN 1 AV.str s1_1,iN 3 AV.str s2_1] 10 h [] ?_ ?_))
 ·intro zM h;refine s1 [] [0,1] jP ?_;cases h;exact rt rx
 intro zM h;refine sk (sq (s0 [iN 1 AV.str s1_1] [(12,Ii (lN s1_1)),(13,Ii 0)] (bE h fun zF zN h=>cv zF (fun q0=>mk [] [] 0) Tryz.f22 (fun q1=>[]) (fun q1=>.bool q1) ?_ ?_ (by rintro _ rfl _ hf;cases h;exact ⟨.inr rfl,hf⟩))))
 ·replace h:=zN;refine ab 0 (w0 [] [] _ _ (xW (fun n st=>∃ (zD:Int),st=mk [(0,Ss s1_1),(1,Ss s2_1),(12,Ii (lN s1_1)),(13,Ii zD)] [] 0/\QV F s1_1 s2_1 n zD=some zF) F zk ⟨_,rfl,h⟩ (fun _ ⟨_,_,h⟩=>xS h) ?_));rintro yD _ ⟨zD,rfl,h⟩;rw [QV,H8] at h;refine s0 [] [(14,.bool (decide (zD<(lN s1_1))))] (sq (ch 14 h (fun yU h=>sk (sq (ab 1 (s0 [] [(5,Ii zD)] (sq (bE h fun zB zW h=>bE h fun zI yP h=>r0 [iF 2 AV.str zW,iF 6 AV.str yP] [(24,.bool (!(zB==zI)))] (ch 24 h ?_ ?_))))))) (fun _ h=>by cases h;exact ae 0 ⟨rfl,sZ⟩)))
  rotate_left
  ·intro w9 h;refine sk (r0 [] [(13,Ii (zC8 zD))] ?_);exact ⟨_,sZ,_,rfl,h⟩
  intro w9 h;refine s1 [] [0,1] jP ?_;cases h;exact rt ry
 rintro z8 rfl;refine s0 [] [(4,.bool true)] ?_;cases h;exact rt rx
theorem zFK (F:Nat) (zQ:y8) (zU:y8) (r:Bool) (h:EK F zQ zU=some r):y9 prog 14 [] [] [yL zQ,yL zU] [] (.bool r):=by
 refine tI Tryz.f14 ?_;unfold EK at h;refine sE [iH 0 { id:=0 },iH 1 { id:=1 }] C2 [(0,Vb 52 (aP zQ)),(1,Vb 52 (aP zU))] 2 (sq (bE h fun yC zW h=>?_));refine xG (mk [(4,.bool yC)] [] 0) ?_ ?_
 ·replace h:=zW;refine bc h ?_ ?_
  ·intro yA h;refine bc h ?_ ?_
   ·intro yG h;refine bc h ?_ ?_
    ·intro xF h;refine bc h ?_ ?_
     ·intro wJ h;refine bc h ?_ ?_
      ·intro tE h;refine bE h fun zA zN h=>r2 [iH 11 Ht,iH 18 Ht,iH 25 Ht,iH 32 Ht,iH 39 Ht,iR 6 yA,iR 6 yG,iR 6 xF,iR 6 wJ,iR 5 tE,iK 38 {} (zOO F zQ.Xs zU.Xs zA zN),iC tE] [] [(4,.bool zA)] [0,1] [] 2 ?_;cases h;exact ⟨rfl,sZ⟩
      ·intro tE h;refine r2 [iH 11 Ht,iH 18 Ht,iH 25 Ht,iH 32 Ht,iG 34 5,iH 39 Hf,iR 6 yA,iR 6 yG,iR 6 xF,iR 6 wJ,iR 6 tE] [] jP [0,1] [] 2 ?_;cases h;exact ⟨rfl,sZ⟩
     ·intro wJ h;refine r2 [iH 11 Ht,iH 18 Ht,iH 25 Ht,iG 27 5,iH 32 Hf,iG 34 5,iH 39 Hf,iR 6 yA,iR 6 yG,iR 6 xF,iR 6 wJ,iZ,iZ,iZ,iZ,iZ,iA false] [] jP [0,1] [] 2 ?_;cases h;exact ⟨rfl,sZ⟩
    ·intro xF h;refine r2 [iH 11 Ht,iH 18 Ht,iG 20 5,iH 25 Hf,iG 27 5,iH 32 Hf,iG 34 5,iH 39 Hf,iR 6 yA,iR 6 yG,iR 6 xF,iZ,iZ,iZ,iZ,iZ,iA false,iZ,iZ,iZ,iZ,iZ,iA false] [] jP [0,1] [] 2 ?_;cases h;exact ⟨rfl,sZ⟩
   ·intro yG h;refine r2 [iH 11 Ht,iG 13 5,iH 18 Hf,iG 20 5,iH 25 Hf,iG 27 5,iH 32 Hf,iG 34 5,iH 39 Hf,iR 6 yA,iR 6 yG,iZ,iZ,iZ,iZ,iZ,iA false,iZ,iZ,iZ,iZ,iZ,iA false,iZ,iZ,iZ,iZ,iZ,iA false] [] jP [0,1] [] 2 ?_;cases h;exact ⟨rfl,sZ⟩
  ·intro yA h;refine r2 [iG 6 5,iH 11 Hf,iG 13 5,iH 18 Hf,iG 20 5,iH 25 Hf,iG 27 5,iH 32 Hf,iG 34 5,iH 39 Hf,iR 6 yA,iZ,iZ,iZ,iZ,iZ,iA false,iZ,iZ,iZ,iZ,iZ,iA false,iZ,iZ,iZ,iZ,iZ,iA false,iZ,iZ,iZ,iZ,iZ,iA false] [] jP [0,1] [] 2 ?_;cases h;exact ⟨rfl,sZ⟩
 cases h;exact rt rx
theorem zM8 (F:Nat) (s1_1:List y8) (s2_1:List y8) (r:Bool) (h:XU F s1_1 s2_1=some r):y9 prog 68 [] [] [Sq 6 yL s1_1,Sq 6 yL s2_1,.fn 14 []] [] (.bool r):=by
 refine tI Tryz.f68 ?_;unfold XU at h;refine sE [] [(0,Sq 6 yL s1_1),(1,Sq 6 yL s2_1),(2,.fn 14 [])] [] 0 (sq (c0 [iN 1 yL s1_1,iN 3 yL s2_1] 14 h [] ?_ ?_))
 ·intro zM h;refine s1 [] [0,1,2] [oL] ?_;cases h;exact rt rx
 intro zM h;refine sk (sq (s1 [iN 1 yL s1_1] [0] [(15,Sq 6 yL s1_1),(16,Ii (lN s1_1)),(17,Ii 0)] (bE h fun zF zN h=>cv zF (fun q0=>mk [] [] 0) Tryz.f68 (fun q1=>[]) (fun q1=>.bool q1) ?_ ?_ (by rintro _ rfl _ hf;cases h;exact ⟨.inr rfl,hf⟩))))
 ·replace h:=zN;refine ab 0 (w0 [] [] _ _ (xW (fun n st=>∃ (zD:Int),st=mk [(1,Sq 6 yL s2_1),(2,.fn 14 []),(15,Sq 6 yL s1_1),(16,Ii (lN s1_1)),(17,Ii zD)] [] 0/\MC F s1_1 s2_1 n zD=some zF) F zk ⟨_,rfl,h⟩ (fun _ ⟨_,_,h⟩=>xS h) ?_));rintro yD _ ⟨zD,rfl,h⟩;rw [MC,JU] at h;refine s0 [] [(18,.bool (decide (zD<(lN s1_1))))] (sq (ch 18 h (fun yU h=>sk (sq (ab 1 (sq (bE h fun zB zW h=>r2 [iH 3 { id:=0 },iF 1 yL zW] [] [(7,Ii zD),(8,Pp 0)] [] [(0,Vb 52 (aP zB))] 1 (sq (bE h fun zI yP h=>r2 [iH 4 { id:=1 },iF 2 yL yP] [] [(9,Pp 1)] [] [(1,Vb 52 (aP zI))] 2 (sq (bE h fun zA xQ h=>r2 [iK 3 {} (zFK F zB zI zA xQ)] [8,9] [(30,.bool (!zA))] [0,1] [] 2 (ch 30 h ?_ ?_)))))))))) (fun _ h=>by cases h;exact ae 0 ⟨rfl,sZ⟩)))
  rotate_left
  ·intro w9 h;refine sk (r0 [] [(17,Ii (zC8 zD))] ?_);exact ⟨_,sZ,_,rfl,h⟩
  intro w9 h;refine s1 [] [1,2,15] [oL] ?_;cases h;exact rt ry
 rintro z8 rfl;refine s0 [] [(6,.bool true)] ?_;cases h;exact rt rx
theorem zHL (F:Nat) (zQ:zO) (zU:zO) (r:Bool) (h:OR F zQ zU=some r):y9 prog 50 [] [] [yE zQ,yE zU] [] (.bool r):=by
 refine tI Tryz.f50 ?_;unfold OR at h;refine sE [iH 0 { id:=0 },iH 1 { id:=1 }] C2 [(0,Vb 72 (jF zQ)),(1,Vb 72 (jF zU))] 2 (sq (bE h fun yC zW h=>?_));refine xG (mk [(4,.bool yC)] [] 0) ?_ ?_
 ·replace h:=zW;refine bc h ?_ ?_
  ·intro yA h;refine bc h ?_ ?_
   ·intro yG h;refine bc h ?_ ?_
    ·intro xF h;refine bE h fun zA zN h=>r2 [iH 11 Ht,iH 18 Ht,iH 25 Ht,iR 6 yA,iR 6 yG,iR 5 xF,iK 24 {} (zM8 F zQ.Xe zU.Xe zA zN),iC xF] [] [(4,.bool zA)] [0,1] [] 2 ?_;cases h;exact ⟨rfl,sZ⟩
    ·intro xF h;refine r2 [iH 11 Ht,iH 18 Ht,iG 20 5,iH 25 Hf,iR 6 yA,iR 6 yG,iR 6 xF] [] jP [0,1] [] 2 ?_;cases h;exact ⟨rfl,sZ⟩
   ·intro yG h;refine r2 [iH 11 Ht,iG 13 5,iH 18 Hf,iG 20 5,iH 25 Hf,iR 6 yA,iR 6 yG,iZ,iZ,iZ,iZ,iZ,iA false] [] jP [0,1] [] 2 ?_;cases h;exact ⟨rfl,sZ⟩
  ·intro yA h;refine r2 [iG 6 5,iH 11 Hf,iG 13 5,iH 18 Hf,iG 20 5,iH 25 Hf,iR 6 yA,iZ,iZ,iZ,iZ,iZ,iA false,iZ,iZ,iZ,iZ,iZ,iA false] [] jP [0,1] [] 2 ?_;cases h;exact ⟨rfl,sZ⟩
 cases h;exact rt rx
theorem zLg (F:Nat) (yC:zO) (z8:zO) (r:Bool) (h:UA F yC z8=some r):y9 prog 49 [] [] [yE yC,yE z8] [] (.bool r):=by
 refine tI Tryz.f49 ?_;unfold UA at h;refine sE [iH 0 { id:=0 },iH 1 { id:=1 }] C2 [(0,Vb 72 (jF yC)),(1,Vb 72 (jF z8))] 2 (sq (bE h fun zA zN h=>r2 [iK 2 {} (zHL F yC z8 zA zN)] [2,3] [(4,.bool zA)] [0,1] [] 2 ?_));cases h;exact rt rx
theorem zPb (F:Nat) (s1_1:List zO) (s2_1:List zO) (r:Bool) (h:L4 F s1_1 s2_1=some r):y9 prog 48 [] [] [Sq 4 yE s1_1,Sq 4 yE s2_1,.fn 49 []] [] (.bool r):=by
 refine tI Tryz.f48 ?_;unfold L4 at h;refine sE [] [(0,Sq 4 yE s1_1),(1,Sq 4 yE s2_1),(2,.fn 49 [])] [] 0 (sq (c0 [iN 1 yE s1_1,iN 3 yE s2_1] 14 h [] ?_ ?_))
 ·intro zM h;refine s1 [] [0,1,2] [oL] ?_;cases h;exact rt rx
 intro zM h;refine sk (sq (s1 [iN 1 yE s1_1] [0] [(15,Sq 4 yE s1_1),(16,Ii (lN s1_1)),(17,Ii 0)] (bE h fun zF zN h=>cv zF (fun q0=>mk [] [] 0) Tryz.f48 (fun q1=>[]) (fun q1=>.bool q1) ?_ ?_ (by rintro _ rfl _ hf;cases h;exact ⟨.inr rfl,hf⟩))))
 ·replace h:=zN;refine ab 0 (w0 [] [] _ _ (xW (fun n st=>∃ (zD:Int),st=mk [(1,Sq 4 yE s2_1),(2,.fn 49 []),(15,Sq 4 yE s1_1),(16,Ii (lN s1_1)),(17,Ii zD)] [] 0/\L3 F s1_1 s2_1 n zD=some zF) F zk ⟨_,rfl,h⟩ (fun _ ⟨_,_,h⟩=>xS h) ?_));rintro yD _ ⟨zD,rfl,h⟩;rw [L3,HJ] at h;refine s0 [] [(18,.bool (decide (zD<(lN s1_1))))] (sq (ch 18 h (fun yU h=>sk (sq (ab 1 (sq (bE h fun zB zW h=>r2 [iH 3 { id:=0 },iF 1 yE zW] [] [(7,Ii zD),(8,Pp 0)] [] [(0,Vb 72 (jF zB))] 1 (sq (bE h fun zI yP h=>r2 [iH 4 { id:=1 },iF 2 yE yP] [] [(9,Pp 1)] [] [(1,Vb 72 (jF zI))] 2 (sq (bE h fun zA xQ h=>r2 [iK 3 {} (zLg F zB zI zA xQ)] [8,9] [(30,.bool (!zA))] [0,1] [] 2 (ch 30 h ?_ ?_)))))))))) (fun _ h=>by cases h;exact ae 0 ⟨rfl,sZ⟩)))
  rotate_left
  ·intro w9 h;refine sk (r0 [] [(17,Ii (zC8 zD))] ?_);exact ⟨_,sZ,_,rfl,h⟩
  intro w9 h;refine s1 [] [1,2,15] [oL] ?_;cases h;exact rt ry
 rintro z8 rfl;refine s0 [] [(6,.bool true)] ?_;cases h;exact rt rx
theorem zOo (F:Nat) (zQ:z6) (zU:z6) (r:Bool) (h:RP F zQ zU=some r):y9 prog 29 [] [] [pT zQ,pT zU] [] (.bool r):=by
 refine tI Tryz.f29 ?_;unfold RP at h;refine sE [iH 0 { id:=0 },iH 1 { id:=1 }] C2 [(qI zQ),(1,Vb 36 (cD zU))] 2 (s2 [iH 4 { id:=2 },iH 5 { id:=3 }] [] [(5,Pp 2),(6,Pp 3)] [] [(2,Vb 33 (VU zQ.Xc)),(3,Vb 33 (VU zU.Xc))] 4 (sq (bE h fun yC wF h=>?_)));refine xG (mk [(4,.bool yC)] [] 0) ?_ ?_
 ·replace h:=wF;refine bE h fun zA zN h=>bc h ?_ ?_
  ·intro yA h;refine bE h fun zL zW h=>bc h ?_ ?_
   ·intro yG h;refine bE h fun yK yP h=>bc h ?_ ?_
    ·intro xF h;refine bE h fun yY xQ h=>r2 [iH 11 Ht,iH 18 Ht,iH 25 Ht,iK 4 {} (S3 F zQ.Xc.Xd zU.Xc.Xd zA zN),iR 5 yA,iK 10 {} (zBn F zQ.Xc.Xi zU.Xc.Xi zL zW),iC yA,iR 5 yG,iK 17 {} (zFf F zQ.Xc.Xl zU.Xc.Xl yK yP),iC yG,iR 5 xF,iK 24 {} (zPb F zQ.Xa zU.Xa yY xQ),iC xF] [] [(4,.bool yY)] [0,1,2,3] [] 4 ?_;cases h;exact ⟨rfl,sZ⟩
    ·intro xF h;refine r2 [iH 11 Ht,iH 18 Ht,iG 20 5,iH 25 Hf,iK 4 {} (S3 F zQ.Xc.Xd zU.Xc.Xd zA zN),iR 5 yA,iK 10 {} (zBn F zQ.Xc.Xi zU.Xc.Xi zL zW),iC yA,iR 5 yG,iK 17 {} (zFf F zQ.Xc.Xl zU.Xc.Xl yK yP),iC yG,iR 6 xF] [] jP [0,1,2,3] [] 4 ?_;cases h;exact ⟨rfl,sZ⟩
   ·intro yG h;refine r2 [iH 11 Ht,iG 13 5,iH 18 Hf,iG 20 5,iH 25 Hf,iK 4 {} (S3 F zQ.Xc.Xd zU.Xc.Xd zA zN),iR 5 yA,iK 10 {} (zBn F zQ.Xc.Xi zU.Xc.Xi zL zW),iC yA,iR 6 yG,iZ,iZ,iZ,iZ,iZ,iA false] [] jP [0,1,2,3] [] 4 ?_;cases h;exact ⟨rfl,sZ⟩
  ·intro yA h;refine r2 [iG 6 5,iH 11 Hf,iG 13 5,iH 18 Hf,iG 20 5,iH 25 Hf,iK 4 {} (S3 F zQ.Xc.Xd zU.Xc.Xd zA zN),iR 6 yA,iZ,iZ,iZ,iZ,iZ,iA false,iZ,iZ,iZ,iZ,iZ,iA false] [] jP [0,1,2,3] [] 4 ?_;cases h;exact ⟨rfl,sZ⟩
 cases h;exact rt rx
theorem ST (F:Nat) (zE:z6) (r:Int) (h:rV F zE=some r):y9 prog 19 [] [] [pT zE] [] (Ii r):=by
 refine tI Tryz.f19 ?_;unfold rV at h;refine sE [iH 0 { id:=0 }] [(1,Pp 0)] [(qI zE)] 1 (sq (bE h fun zA zN h=>r2 [iH 8 { id:=1 },iK 4 {} (zGQ F zE.Xc zE.Xa zA zN)] [] [(3,Pp 1),(4,Ii zA.2)] [] [(1,Vb 36 (cD zA.1))] 2 (sq (sq (bE h fun yC yP h=>?_)))));refine xG (mk [(4,Ii zA.2),(20,.bool yC)] [] 0) ?_ ?_
 ·replace h:=yP;refine bc h ?_ ?_
  ·intro yA h;refine bE h fun zL zW h=>r2 [iH 7 Ht,iR 3 yA,iK 5 {} (zOo F zA.1 zE zL zW),iR 2 yA] [] [(20,.bool (!zL))] [0,1] [] 2 ?_;cases h;exact ⟨rfl,sZ⟩
  ·intro yA h;refine r2 [iG 3 4,iH 7 Hf,iR 5 yA] [] [(20,.bool false)] [0,1] [] 2 ?_;cases h;exact ⟨rfl,sZ⟩
 refine ch 20 h ?_ ?_
 ·intro zM h;refine s0 [] [(2,Ii 10)] ?_;cases h;exact rt rx
 intro zM h;refine sk (s0 [] [(2,Ii zA.2)] ?_);cases h;exact rt rx
theorem QD (x:zO):x.Xe.length=(pkI x).r.length:=by simp [pkI]
theorem zNn (F:Nat) (p:zY) (H:List (Option wH)) (zJ:uL) (zE:z6) (r:z6×Bool) (h:W5 F zJ zE=some r) (hH:NR p 72 4 true 52 6 (List.map pkI zE.Xa) [] H):CN prog 11 [NP zJ,.agg (zC7 zE p)] H (fun _=>True) (.tuple (oH r)):=by
 refine ZJ (fn:=Go.Proofs.Tryz.f11) (code:=BO Go.Proofs.Tryz.f11) zk zk (zle zk) ?_;refine wX (UX 0 (pins:=[]) (NR p 72 4 true 52 6 (List.map pkI zE.Xa) []) zk hH) ?_;refine zAP ?_;unfold W5 at h;refine sE [iH 0 { id:=1 },iH 1 { id:=2 },iH 2 { id:=3 }] [(2,Pp 1),(3,Pp 2),(4,Pp 3)] [(0,.live (.fam (.hpx (NR p 72 4 true 52 6 (List.map pkI zE.Xa) [])))),(1,Vb 28 (kG zJ)),(2,Vb 36 (zC7 zE p)),(3,Vb 36 j7)] 4 (sq (s0 [iN 2 gO zJ.Xq] [(13,Sq 4 gO zJ.Xq),(14,Ii (lN zJ.Xq)),(15,Ii 0)] (bE h fun zF zN h=>?_)));refine BP (K1:=(fun e st'=>match zF with | (.inl q0)=>e=.normal/\Sub 0 st' (mk [(3,Pp 1),(4,Pp 2)] [(CP p q0),(1,Vb 36 (zC7 zE p)),(2,Vb 36 j7)] 3) | (.inr q1)=>e=.ret/\zBo prog Go.Proofs.Tryz.f11 (.tuple (oH q1)) st')) ?_ ?_
 ·replace h:=zN;refine ab 0 (w0 [0,1,2,3] [] _ _ (xW (fun n st=>∃ (zD:Int),∃ (zC:List zO),st=mk [(2,Pp 1),(3,Pp 2),(4,Pp 3),(13,Sq 4 gO zJ.Xq),(14,Ii (lN zJ.Xq)),(15,Ii zD)] [(CP p zC),(1,Vb 28 (kG zJ)),(2,Vb 36 (zC7 zE p)),(3,Vb 36 j7)] 4/\LP F zJ zE n zD zC=some zF) F zk ⟨_,_,rfl,h⟩ (fun _ ⟨_,_,_,h⟩=>xS h) ?_));rintro yD _ ⟨zD,zC,rfl,h⟩;rw [LP,X1] at h;refine s0 [] [(16,.bool (decide (zD<(lN zJ.Xq))))] (sq (ch 16 h (fun zM h=>sk (sq (ab 1 (sq (bE h fun zB zW h=>r2 [iH 3 { id:=4 },iF 1 gO zW] [] [(6,Ii zD),(7,Pp 4)] [] [(4,Vb 94 (BL zB))] 5 (sq (sq (bE h fun yC wF h=>?_)))))))) (fun _ h=>by cases h;exact ae 0 ⟨rfl,(sY [0,2,3])⟩)));refine xG (mk [(2,Pp 1),(3,Pp 2),(4,Pp 3),(6,Ii zD),(7,Pp 4),(13,Sq 4 gO zJ.Xq),(14,Ii (lN zJ.Xq)),(15,Ii zD),(84,.bool yC)] [(CP p zC),(1,Vb 28 (kG zJ)),(2,Vb 36 (zC7 zE p)),(3,Vb 36 j7),(4,Vb 94 (BL zB))] 5) ?_ ?_
  ·replace h:=wF;refine bc h ?_ ?_
   ·intro pC h;refine r0 [iG 4 3,iH 7 Ht,iG 9 6,iH 15 Ht,iG 17 6,iH 23 Ht,iG 25 5,iH 30 Ht,iG 32 3,iH 35 Ht,iG 37 3,iH 40 Ht,iG 42 10,iH 52 Ht,iG 54 10,iH 64 Ht,iR 4 pC,iX 6,iA true,iX 6,iA true,iX 5,iA true,iX 3,iA true,iX 3,iA true,iX 10,iA true,iX 10,iA true] BH ?_;cases h;exact ⟨rfl,sZ⟩
   ·intro pC h;refine bc h ?_ ?_
    ·intro j9 h;refine r0 [iH 7 Hf,iG 9 6,iH 15 Ht,iG 17 6,iH 23 Ht,iG 25 5,iH 30 Ht,iG 32 3,iH 35 Ht,iG 37 3,iH 40 Ht,iG 42 10,iH 52 Ht,iG 54 10,iH 64 Ht,iR 4 pC,iR 7 j9,iX 6,iA true,iX 5,iA true,iX 3,iA true,iX 3,iA true,iX 10,iA true,iX 10,iA true] BH ?_;cases h;exact ⟨rfl,sZ⟩
    ·intro j9 h;refine bc h ?_ ?_
     ·intro pD h;refine r0 [iH 7 Hf,iH 15 Hf,iG 17 6,iH 23 Ht,iG 25 5,iH 30 Ht,iG 32 3,iH 35 Ht,iG 37 3,iH 40 Ht,iG 42 10,iH 52 Ht,iG 54 10,iH 64 Ht,iR 4 pC,iR 5 j9,iN 13 zC1 zJ.At,iR 2 j9,iR 7 pD,iX 5,iA true,iX 3,iA true,iX 3,iA true,iX 10,iA true,iX 10,iA true] BH ?_;cases h;exact ⟨rfl,sZ⟩
     ·intro pD h;refine bc h ?_ ?_
      ·intro fV h;refine r0 [iH 7 Hf,iH 15 Hf,iH 23 Hf,iG 25 5,iH 30 Ht,iG 32 3,iH 35 Ht,iG 37 3,iH 40 Ht,iG 42 10,iH 52 Ht,iG 54 10,iH 64 Ht,iR 4 pC,iR 5 j9,iN 13 zC1 zJ.At,iR 2 j9,iR 5 pD,iN 21 zC1 zJ.At,iR 2 pD,iR 6 fV,iX 3,iA true,iX 3,iA true,iX 10,iA true,iX 10,iA true] BH ?_;cases h;exact ⟨rfl,sZ⟩
      ·intro fV h;refine bc h ?_ ?_
       ·intro qM h;refine r0 [iH 7 Hf,iH 15 Hf,iH 23 Hf,iH 30 Hf,iG 32 3,iH 35 Ht,iG 37 3,iH 40 Ht,iG 42 10,iH 52 Ht,iG 54 10,iH 64 Ht,iR 4 pC,iR 5 j9,iN 13 zC1 zJ.At,iR 2 j9,iR 5 pD,iN 21 zC1 zJ.At,iR 2 pD,iR 6 fV,iR 4 qM,iX 3,iA true,iX 10,iA true,iX 10,iA true] BH ?_;cases h;exact ⟨rfl,sZ⟩
       ·intro qM h;refine bc h ?_ ?_
        ·intro qA h;refine r0 [iH 7 Hf,iH 15 Hf,iH 23 Hf,iH 30 Hf,iH 35 Hf,iG 37 3,iH 40 Ht,iG 42 10,iH 52 Ht,iG 54 10,iH 64 Ht,iR 4 pC,iR 5 j9,iN 13 zC1 zJ.At,iR 2 j9,iR 5 pD,iN 21 zC1 zJ.At,iR 2 pD,iR 6 fV,iR 4 qM,iR 4 qA,iX 10,iA true,iX 10,iA true] BH ?_;cases h;exact ⟨rfl,sZ⟩
        ·intro qA h;refine bc h ?_ ?_
         ·intro pQ h;refine r0 [iH 7 Hf,iH 15 Hf,iH 23 Hf,iH 30 Hf,iH 35 Hf,iH 40 Hf,iG 42 10,iH 52 Ht,iG 54 10,iH 64 Ht,iR 4 pC,iR 5 j9,iN 13 zC1 zJ.At,iR 2 j9,iR 5 pD,iN 21 zC1 zJ.At,iR 2 pD,iR 6 fV,iR 4 qM,iR 4 qA,iR 11 pQ,iX 10,iA true] BH ?_;cases h;exact ⟨rfl,sZ⟩
         ·intro pQ h;refine bE h fun zI yP h=>bc h ?_ ?_
          ·intro tU h;refine r0 [iH 7 Hf,iH 15 Hf,iH 23 Hf,iH 30 Hf,iH 35 Hf,iH 40 Hf,iH 52 Hf,iG 54 10,iH 64 Ht,iR 4 pC,iR 5 j9,iN 13 zC1 zJ.At,iR 2 j9,iR 5 pD,iN 21 zC1 zJ.At,iR 2 pD,iR 6 fV,iR 4 qM,iR 4 qA,iR 7 pQ,iF 48 zC1 yP,iR 2 pQ,iN 50 Fi zI,iR 2 pQ,iR 11 tU] BH ?_;cases h;exact ⟨rfl,sZ⟩
          ·intro tU h;refine bE h fun z5 xQ h=>r0 [iH 7 Hf,iH 15 Hf,iH 23 Hf,iH 30 Hf,iH 35 Hf,iH 40 Hf,iH 52 Hf,iH 64 Hf,iR 4 pC,iR 5 j9,iN 13 zC1 zJ.At,iR 2 j9,iR 5 pD,iN 21 zC1 zJ.At,iR 2 pD,iR 6 fV,iR 4 qM,iR 4 qA,iR 7 pQ,iF 48 zC1 yP,iR 2 pQ,iN 50 Fi zI,iR 2 pQ,iR 7 tU,iF 60 zC1 xQ,iR 2 tU,iN 62 Fi z5,iR 2 tU] [(84,.bool (decide (zB.Xy>=(lN z5))))] ?_;cases h;exact ⟨rfl,sZ⟩
  refine ch 84 h ?_ ?_
  ·intro yU h;refine sq (nE h fun wU h=>w0 [0,2,3] [] [(3,Pp 1),(4,Pp 2)] [(CP p zC),(1,Vb 36 (zC7 zE p)),(2,Vb 36 j7)] ?_);refine N3 (f:=pkI) (e:=yE) (xs:=zC) (p:=p) (tn:=72) (osz:=4) (ti:=52) (sz:=6) (t:=36) (fun _=>rfl) 0 1 zE.Xa.length (RN zE) [] zk zk wU.symm ?_;refine w0 [1,2] [] [(3,Pp 0),(4,Pp 1)] [(0,Vb 36 (EL zE zC)),(1,Vb 36 j7)] (r2 [] [3] [oF] [0] [(1,Vb 36 (EL zE zC))] 2 (w0 [1] [] [(4,Pp 0),oF] (Z9 zE zC) (rt ?_)));cases h;exact ⟨rfl,QB ⟨zle rfl,zk⟩ zk zk zk⟩
  intro yU h;refine sk (sq (sq (bE h fun zA w4 h=>bE h fun zL vA h=>r0 [iK 5 {} (zAE zJ zB.From zB.Xo zA w4),iK 11 {} (zAE zJ zB.To zB.Xy zL vA)] [(98,.bool (decide (zA>=zL)))] (ch 98 h ?_ ?_))))
  ·intro w9 h;refine sq (nE h fun vU h=>w0 [0,2,3] [] [(3,Pp 1),(4,Pp 2)] [(CP p zC),(1,Vb 36 (zC7 zE p)),(2,Vb 36 j7)] ?_);refine N3 (f:=pkI) (e:=yE) (xs:=zC) (p:=p) (tn:=72) (osz:=4) (ti:=52) (sz:=6) (t:=36) (fun _=>rfl) 0 1 zE.Xa.length (RN zE) [] zk zk vU.symm ?_;refine w0 [1,2] [] [(3,Pp 0),(4,Pp 1)] [(0,Vb 36 (EL zE zC)),(1,Vb 36 j7)] (r2 [] [3] [oF] [0] [(1,Vb 36 (EL zE zC))] 2 (w0 [1] [] [(4,Pp 0),oF] (Z9 zE zC) (rt ?_)));cases h;exact ⟨rfl,QB ⟨zle rfl,zk⟩ zk zk zk⟩
  intro w9 h;refine sk (s0 [] [(102,Ii (pF zE)),(103,Ii 0)] (bE h fun zT vN h=>?_));refine BP (K1:=(fun e st'=>match zT with | (.inl q0)=>e=.normal/\Sub 0 st' (mk [(2,Pp 1),(3,Pp 2),(4,Pp 3),(13,Sq 4 gO zJ.Xq),(14,Ii (lN zJ.Xq)),(15,Ii zD)] [(CP p q0),(1,Vb 28 (kG zJ)),(2,Vb 36 (zC7 zE p)),(3,Vb 36 j7)] 4) | (.inr q1)=>e=.ret/\zBo prog Go.Proofs.Tryz.f11 (.tuple (oH q1)) st')) ?_ ?_
  ·replace h:=vN;refine ab 2 (w0 [0,1,2,3,4] [] _ _ (xW (fun n st=>∃ (zK:Int),∃ (zH:List zO),st=mk [(2,Pp 1),(3,Pp 2),(4,Pp 3),(6,Ii zD),(7,Pp 4),(13,Sq 4 gO zJ.Xq),(14,Ii (lN zJ.Xq)),(15,Ii zD),(102,Ii (pF zE)),(103,Ii zK)] [(CP p zH),(1,Vb 28 (kG zJ)),(2,Vb 36 (zC7 zE p)),(3,Vb 36 j7),(4,Vb 94 (BL zB))] 5/\HB F zE zD zB n zK zH=some zT) F zk ⟨_,_,rfl,h⟩ (fun _ ⟨_,_,_,h⟩=>xS h) ?_));rintro vY _ ⟨zK,zH,rfl,h⟩;rw [HB,WP] at h;refine s0 [] [(104,.bool (decide (zK<(pF zE))))] (sq (ch 104 h (fun v5 h=>sk (sq (ab 3 (s0 [] [(8,Ii zK)] (sq (bE h fun zZ uK h=>?_)))))) (fun _ h=>by cases h;exact ae 2 ⟨rfl,sZ⟩)));refine GU (f:=pkI) (p:=p) (tn:=72) (osz:=4) (ag:=true) (ti:=52) (sz:=6) (tl:=[]) (rows:=zH) 0 zZ.Xe.length uK (QD _) zk zk zk (fun P_1 z8 tP=>nE h fun jI h=>rE [iH 1 { pk:=(some (0,5)) },iC (by simp:(5,p)∈[(6,z8),(5,p)]),iC (qE uK:0<=zK),iC jI] [(2,Pp 1),(3,Pp 2),(4,Pp 3),(6,Ii zD),(7,Pp 4),(9,.ptr 5 4 zK.toNat 0),(13,Sq 4 gO zJ.Xq),(14,Ii (lN zJ.Xq)),(15,Ii zD),(102,Ii (pF zE)),(103,Ii zK)] [(0,.live (.fam (.hp (nrG 52 6 P_1 (List.map pkI zH) zK.toNat []) [(6,z8),(5,p)]))),(1,Vb 28 (kG zJ)),(2,Vb 36 (zC7 zE p)),(3,Vb 36 j7),(4,Vb 94 (BL zB)),(5,.live (.rowI 72 4 (aW P_1 zH) true zK.toNat [Ii zZ.Xb,Ii zZ.Xf,Ii zZ.Xh,.own 6 zZ.Xe.length])),(6,Rb 52 6 (Mp yL zZ.Xe))] 7 (s0 [] [(10,Ii zB.Xo),(11,Ii 6)] (sq (c0 [iH 3 { x:=true },iA zK.toNat,iA true] 118 h [] ?_ ?_))))
   ·intro uN h;refine r0 [] [(10,Ii zB.Xy),(11,Ii 7)] (sq (sq (bE h fun xZ kO h=>r0 [iH 3 { x:=true },iA zK.toNat,iA true,iO 7 yL kO] [(136,.bool (xZ.Xg != 3))] (ch 136 h ?_ ?_))))
    rotate_left
    ·intro t9 h;refine sk (bE h fun xP jJ h=>bE h fun w8 kP h=>r2 [iH 3 { x:=true },iH 8 { x:=true },iH 17 { av:=yL w8,l:=((Mp yL zZ.Xe)).set zB.Xy.toNat (.agg (NQ xP zD)) },iA zK.toNat,iA true,iA zK.toNat,iA true,iO 12 yL jJ,iV yL kP,iC (rfl:((Mp yL zZ.Xe)).set zB.Xy.toNat (.agg (NQ xP zD))=List.set (Mp yL zZ.Xe) zB.Xy.toNat (kV (yL w8) 0 (NQ xP zD)))] [9] [] [] [(6,Rb 52 6 (((Mp yL zZ.Xe)).set zB.Xy.toNat (.agg (NQ xP zD))))] 7 ?_);refine wX (zEB (f:=yL) (e:=52) (sz:=6) (xs:=zZ.Xe) (i:=zB.Xy.toNat) (new:=(⟨xP.At,7,kR,zD,0,[]⟩:y8)) (a:=.agg (NQ xP zD)) 6 zk (ac rfl (ac rfl (ac rfl (ac rfl (ac rfl (ac rfl an)))))) zk) ?_;refine wX (lA (f:=pkI) (p:=p) (tn:=72) (osz:=4) (ag:=true) (ti:=52) (sz:=6) (tl:=[]) (rows:=zH) (i:=zK) (P:=P_1) (pins:=[(6,z8),(5,p)]) 0 5 6 zZ.Xe.length (⟨zZ.Xb,zZ.Xf,zZ.Xh,zZ.Xe.set zB.Xy.toNat (⟨xP.At,7,kR,zD,0,[]⟩:y8)⟩:zO) (by simp [pkI]) uK tP zk (by simp) zk zk zk ⟨rfl,rfl⟩) ?_;refine rE [] (zAW zD zJ zE zK) [(0,.live (.fam (.hpx (NR p 72 4 true 52 6 (List.map pkI (zH.set zK.toNat (⟨zZ.Xb,zZ.Xf,zZ.Xh,zZ.Xe.set zB.Xy.toNat (⟨xP.At,7,kR,zD,0,[]⟩:y8)⟩:zO))) [])))),(1,Vb 28 (kG zJ)),(2,Vb 36 (zC7 zE p)),(3,Vb 36 j7),(4,Vb 94 (BL zB))] 7 ?_;exact ⟨_,sZ,_,_,rfl,h⟩
    intro t9 h;refine sq ?_;refine wX (lA (f:=pkI) (p:=p) (tn:=72) (osz:=4) (ag:=true) (ti:=52) (sz:=6) (tl:=[]) (rows:=zH) (i:=zK) (P:=P_1) (pins:=[(6,z8),(5,p)]) 0 5 6 zZ.Xe.length (fK zZ) (QD _) uK tP zk (by simp) zk zk zk ⟨rfl,rfl⟩) ?_;refine nE h fun jK h=>w0 [0,2,3] [] [(3,Pp 1),(4,Pp 2)] [(0,.live (.fam (.hpx (NR p 72 4 true 52 6 (List.map pkI (zH.set zK.toNat (fK zZ))) [])))),(1,Vb 36 (zC7 zE p)),(2,Vb 36 j7)] ?_;refine N3 (f:=pkI) (e:=yE) (xs:=(zH.set zK.toNat (fK zZ))) (p:=p) (tn:=72) (osz:=4) (ti:=52) (sz:=6) (t:=36) (fun _=>rfl) 0 1 zE.Xa.length (RN zE) [] zk zk jK.symm ?_;refine w0 [1,2] [] [(3,Pp 0),(4,Pp 1)] [(0,Vb 36 (TL zE zH zK zZ)),(1,Vb 36 j7)] (r2 [] [3] [oF] [0] [(1,Vb 36 (TL zE zH zK zZ))] 2 (w0 [1] [] [(4,Pp 0),oF] (zEO zE zH zK zZ) (rt ?_)));cases h;exact ⟨rfl,QB ⟨zle rfl,zk⟩ zk zk zk⟩
   intro uN h;refine c0 [iH 3 { x:=true },iA zK.toNat,iA true] 127 h [] ?_ ?_
   ·intro cI h;refine ae 3 ?_;refine wX (lA (f:=pkI) (p:=p) (tn:=72) (osz:=4) (ag:=true) (ti:=52) (sz:=6) (tl:=[]) (rows:=zH) (i:=zK) (P:=P_1) (pins:=[(6,z8),(5,p)]) 0 5 6 zZ.Xe.length (fK zZ) (QD _) uK tP zk (by simp) zk zk zk ⟨rfl,rfl⟩) ?_;refine rE [] (zAW zD zJ zE zK) [(0,.live (.fam (.hpx (NR p 72 4 true 52 6 (List.map pkI (zH.set zK.toNat (fK zZ))) [])))),(1,Vb 28 (kG zJ)),(2,Vb 36 (zC7 zE p)),(3,Vb 36 j7),(4,Vb 94 (BL zB))] 7 ?_;exact ⟨_,sZ,_,_,rfl,h⟩
   intro cI h;refine sk (sq (sq (bE h fun wY kQ h=>r0 [iH 3 { x:=true },iA zK.toNat,iA true,iO 7 yL kQ] [(136,.bool (wY.Xg != 3))] (ch 136 h ?_ ?_))))
   rotate_left
   ·intro rD h;refine sk (bE h fun vR bH h=>bE h fun qZ aS h=>r2 [iH 3 { x:=true },iH 8 { x:=true },iH 17 { av:=yL qZ,l:=((Mp yL zZ.Xe)).set zB.Xo.toNat (.agg (O8 vR zD)) },iA zK.toNat,iA true,iA zK.toNat,iA true,iO 12 yL bH,iV yL aS,iC (rfl:((Mp yL zZ.Xe)).set zB.Xo.toNat (.agg (O8 vR zD))=List.set (Mp yL zZ.Xe) zB.Xo.toNat (kV (yL qZ) 0 (O8 vR zD)))] [9] [] [] [(6,Rb 52 6 (((Mp yL zZ.Xe)).set zB.Xo.toNat (.agg (O8 vR zD))))] 7 ?_);refine wX (zEB (f:=yL) (e:=52) (sz:=6) (xs:=zZ.Xe) (i:=zB.Xo.toNat) (new:=(⟨vR.At,6,kR,zD,0,[]⟩:y8)) (a:=.agg (O8 vR zD)) 6 zk (ac rfl (ac rfl (ac rfl (ac rfl (ac rfl (ac rfl an)))))) zk) ?_;refine wX (lA (f:=pkI) (p:=p) (tn:=72) (osz:=4) (ag:=true) (ti:=52) (sz:=6) (tl:=[]) (rows:=zH) (i:=zK) (P:=P_1) (pins:=[(6,z8),(5,p)]) 0 5 6 zZ.Xe.length (⟨zZ.Xb,zZ.Xf,zZ.Xh,zZ.Xe.set zB.Xo.toNat (⟨vR.At,6,kR,zD,0,[]⟩:y8)⟩:zO) (by simp [pkI]) uK tP zk (by simp) zk zk zk ⟨rfl,rfl⟩) ?_;refine rE [] (zAW zD zJ zE zK) [(0,.live (.fam (.hpx (NR p 72 4 true 52 6 (List.map pkI (zH.set zK.toNat (⟨zZ.Xb,zZ.Xf,zZ.Xh,zZ.Xe.set zB.Xo.toNat (⟨vR.At,6,kR,zD,0,[]⟩:y8)⟩:zO))) [])))),(1,Vb 28 (kG zJ)),(2,Vb 36 (zC7 zE p)),(3,Vb 36 j7),(4,Vb 94 (BL zB))] 7 ?_;exact ⟨_,sZ,_,_,rfl,h⟩
   intro rD h;refine sq ?_;refine wX (lA (f:=pkI) (p:=p) (tn:=72) (osz:=4) (ag:=true) (ti:=52) (sz:=6) (tl:=[]) (rows:=zH) (i:=zK) (P:=P_1) (pins:=[(6,z8),(5,p)]) 0 5 6 zZ.Xe.length (fK zZ) (QD _) uK tP zk (by simp) zk zk zk ⟨rfl,rfl⟩) ?_;refine nE h fun nX h=>w0 [0,2,3] [] [(3,Pp 1),(4,Pp 2)] [(0,.live (.fam (.hpx (NR p 72 4 true 52 6 (List.map pkI (zH.set zK.toNat (fK zZ))) [])))),(1,Vb 36 (zC7 zE p)),(2,Vb 36 j7)] ?_;refine N3 (f:=pkI) (e:=yE) (xs:=(zH.set zK.toNat (fK zZ))) (p:=p) (tn:=72) (osz:=4) (ti:=52) (sz:=6) (t:=36) (fun _=>rfl) 0 1 zE.Xa.length (RN zE) [] zk zk nX.symm ?_;refine w0 [1,2] [] [(3,Pp 0),(4,Pp 1)] [(0,Vb 36 (TL zE zH zK zZ)),(1,Vb 36 j7)] (r2 [] [3] [oF] [0] [(1,Vb 36 (TL zE zH zK zZ))] 2 (w0 [1] [] [(4,Pp 0),oF] (zEO zE zH zK zZ) (rt ?_)));cases h;exact ⟨rfl,QB ⟨zle rfl,zk⟩ zk zk zk⟩
  intro e st1 hk;rcases zT with wK | wC
  rotate_left
  ·obtain ⟨rfl,hf⟩:=hk;cases h;exact ⟨_,Sub.refl _ _,rfl,hf⟩
  obtain ⟨rfl,hs⟩:=hk;refine ⟨_,hs,?_⟩;refine r0 [] [(15,Ii (zC8 zD))] ?_;exact ⟨_,sZ,_,_,rfl,h⟩
 intro e st1 hk;rcases zF with jW | u7
 rotate_left
 ·obtain ⟨rfl,hf⟩:=hk;cases h;exact ⟨st1,Sub.refl _ _,hf⟩
 obtain ⟨rfl,hs⟩:=hk;refine ⟨_,hs,?_⟩;refine sq (nE h fun fW h=>w0 [0,1,2] [] [(3,Pp 1),(4,Pp 2)] [(CP p jW),(1,Vb 36 (zC7 zE p)),(2,Vb 36 j7)] ?_);refine N3 (f:=pkI) (e:=yE) (xs:=jW) (p:=p) (tn:=72) (osz:=4) (ti:=52) (sz:=6) (t:=36) (fun _=>rfl) 0 1 zE.Xa.length (RN zE) [] zk zk fW.symm ?_;refine w0 [1,2] [] [(3,Pp 0),(4,Pp 1)] [(0,Vb 36 (EL zE jW)),(1,Vb 36 j7)] (bE h fun yK fX h=>r2 [iL 2 {} [.agg (EL zE jW)] (ST F (⟨zE.Xc,jW⟩:z6) yK fX) ⟨rfl,rfl,rfl,rfl,rfl,rfl,rfl,rfl,rfl,rfl,rfl,rfl,trivial⟩] [3] [(5,.bool (yK==0))] [0] [(1,Vb 36 (EL zE jW))] 2 (w0 [1] [] [(4,Pp 0),(5,.bool (yK==0))] (Z9 zE jW) (rt ?_)));cases h;exact QB ⟨zle rfl,zk⟩ zk zk zk
end Go.Ab
