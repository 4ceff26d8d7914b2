/- Printed: the typed Lean functions of the Go functions, or the proofs that the Go functions meet them. No conditions but those that the theorems name. -/
import Derived.Test.YtoeengmnmhhpgaaGreatP15zx4
namespace Go.Ab
open Go
set_option linter.unusedVariables false
theorem TE (F:Nat) (zE:List (Int)) (r:Int×(List (Int))×Int) (h:A9 F zE=some r):yR prog 30 [] [] [Sb zE] [] (.tuple [Iu r.1,Sb r.2.1,Ii r.2.2]):=by
 refine tI Go.Proofs.Tryz.f30 ?_;unfold A9 at h;refine sE [] [(0,Sb zE)] [] 0 (sq (c0 [iN 1 Fb zE] 12 h [] ?_ ?_))
 ·intro yC h;refine s1 [] [0] [(2,Iu 0),(3,.nilsl),(4,Ii 0)] (wz [] [] [3] [] [(2,Iu 0),(3,.sl false 1 []),(4,Ii 0)] [] (ar ([]:List AV) an) ?_);cases h;exact rt rx
 intro yC h;refine sk (sq (nE h fun zL h=>r2 [iH 3 { id:=0 },iT 1 Fb zE (1:Int) (by decide) zL] [] [(5,Pp 0)] [] [(0,Vb 72 [Sb (sub zE (1:Int) (lN (zE))),.bool false])] 1 (sq (bE h fun zA zX h=>r2 [iK 1 { ids:=[0] } (aQ F (⟨sub zE (1:Int) (lN (zE)),false⟩:v5) zA zX)] [] [(6,Ii zA.1)] [] [(0,Vb 72 (tM zA.2))] 1 (sq (bE h fun zC yQ h=>r2 [iK 1 { ids:=[0] } (aQ F zA.2 zC yQ)] [] [(7,Ii zC.1)] [] [(0,Vb 72 (tM zC.2))] 1 (sq (ad 37 h ?_ ?_ ?_))))))))
 ·rcases Bool.eq_false_or_eq_true zC.2.Bad with yE | yE
  ·exact rm [iG 5 2,iH 7 Ht,iG 9 7,iH 16 Ht,iR 3 yE,iX 7,iA true] (ort yE)
  ·rcases bft (decide (zA.1<(0:Int))) with yK | yK
   ·exact rm [iH 7 Hf,iG 9 7,iH 16 Ht,iR 3 yE,iR 8 yK] (orf yE (ort yK))
   ·exact rm [iH 7 Hf,iH 16 Hf,iR 3 yE,iR 6 yK,iN 14 Fb zC.2.B,iR 2 yK] (orf yE (orf yK rfl))
 ·intro yY h;refine s2 [] [0,5] [(2,Iu 0),(3,.nilsl),(4,Ii 0)] [0] [] 1 (wz [] [] [3] [] [(2,Iu 0),(3,.sl false 1 []),(4,Ii 0)] [] (ar ([]:List AV) an) ?_);cases h;exact rt rx
 intro yY h;refine sk (sq (nE h fun y9 h=>r0 [iS 5 Fb zC.2.B (0:Int) zA.1 (by decide) y9.1 y9.2] [(8,Sb (sub zC.2.B (0:Int) zA.1))] (sq (bE h fun zH xS h=>nE h fun wA h=>r2 [iH 3 { id:=1 },iH 5 { id:=2,l:=(Mb (([zH]:List Int)++(sub zC.2.B (0:Int) zA.1))),n:=((([zH]:List Int)++(sub zC.2.B (0:Int) zA.1))).length },iF 1 Fb xS,iA 1,iC trivial,iC (uE _ _:(Mb (([zH]:List Int)++(sub zC.2.B (0:Int) zA.1)))=(Mb ([zH]:List Int))++(Mb (sub zC.2.B (0:Int) zA.1))),iC (by simp:((([zH]:List Int)++(sub zC.2.B (0:Int) zA.1))).length=((List.map (AV.int .u8) (([zH]:List Int)++(sub zC.2.B (0:Int) zA.1)))).length),iC (by first | (simp;done) | simpa using wA:(((List.map (AV.int .u8) ([zH]:List Int)):List AV).length+((List.map (AV.int .u8) (sub zC.2.B (0:Int) zA.1)):List AV).length) * 1≤140737488355328)] [] [(9,.own 2 (((([zH]:List Int)++(sub zC.2.B (0:Int) zA.1))).length))] [] [(2,Rb 5 1 (Mb (([zH]:List Int)++(sub zC.2.B (0:Int) zA.1))))] 3 (sq (sq (bE h fun zJ wP h=>r2 [iM Fb (([zH]:List Int)++(sub zC.2.B (0:Int) zA.1)),iK 1 { frz:=[2] } (zBH F (([zH]:List Int)++(sub zC.2.B (0:Int) zA.1)) zJ wP)] [9] [(53,.bool (zJ != zC.1))] [2] [] 3 (ch 53 h ?_ ?_))))))))
 ·intro xF h;refine s2 [] [0,5,8] [(2,Iu 0),(3,.nilsl),(4,Ii 0)] [0] [] 3 (wz [] [] [3] [] [(2,Iu 0),(3,.sl false 1 []),(4,Ii 0)] [] (ar ([]:List AV) an) ?_);cases h;exact rt rx
 intro xF h;refine sk (sq (bE h fun yH vA h=>r2 [iF 1 Fb vA,iN 5 Fb zE,iN 10 Fb zC.2.B] [0,5,8] [(2,Iu yH),(3,Sb (sub zC.2.B (0:Int) zA.1)),(4,Ii (zG ((zG ((lN (zE)) - (lN (zC.2.B))))+zA.1)))] [0] [] 3 ?_));cases h;exact rt rx
theorem SM (F:Nat) (zH:v5) (tA:Int) (r:Int×v5) (h:lW F zH tA=some r):yR prog 75 [(.var 72 (tM zH))] [] [Pp 0,Ii tA] [(.var 72 (tM r.2))] (Ii r.1):=by
 refine tI Go.Proofs.Tryz.f75 ?_;unfold lW at h;refine sE [] [(0,Pp 0),(1,Ii tA)] [(0,Vb 72 (tM zH))] 1 (sq (bE h fun zA zL h=>r2 [iK 1 { ids:=[0] } (aQ F zH zA zL)] [] [(5,Ii zA.1)] [] [(0,Vb 72 (tM zA.2))] 1 (sq (ad 14 h ?_ ?_ ?_))))
 ·rcases bft (decide (zA.1<(0:Int))) with zT | zT
  ·exact rm [iG 3 3,iH 6 Ht,iR 4 zT] (ort zT)
  ·exact rm [iH 6 Hf,iR 4 zT] (orf zT rfl)
 rotate_left
 ·intro yC h;refine sk (s1 [] [0] [(4,Ii zA.1)] ?_);cases h;exact rt rx
 intro yC h;refine s2 [] [0] [] [] [(0,Vb 72 [Sb zA.2.B,.bool true])] 1 (s0 [] [(4,Ii 0)] ?_);cases h;exact rt rx
theorem U6 (F:Nat) (zE:List (Int)) (tA:Int) (r:(List Int)×Int×Int) (h:AZ F zE tA=some r):yR prog 118 [] [] [Sb zE,Ii tA] [] (.tuple [.str r.1,Ii r.2.1,Ii r.2.2]):=by
 refine tI Go.Proofs.Tryz.f118 ?_;unfold AZ at h;refine sE [] [(0,Sb zE),(1,Ii tA)] [] 0 (sq (bE h fun zA zL h=>r0 [iK 1 {} (L8 F zE zA zL)] [(7,Ii zA.1),(8,Ii zA.2.1),(9,Ii zA.2.2)] (sq ?_)));refine yN (id:=0) zk ?_;refine c0 [] 16 h [] ?_ ?_
 ·intro yC h;refine s1 [] [0] [(4,.str ([]:List Int)),(5,Ii 0),(6,Ii zA.2.2)] ?_;cases h;exact rt rx
 intro yC h;refine c0 [] 20 h [] ?_ ?_
 ·intro yY h;refine s1 [] [0] [(4,.str ([]:List Int)),(5,Ii 0),(6,Ii 10)] ?_;cases h;exact rt rx
 intro yY h;refine c0 [] 23 h [] ?_ ?_
 ·intro xF h;refine s1 [] [0] [(4,.str ([]:List Int)),(5,Ii 0),(6,Ii 7)] ?_;cases h;exact rt rx
 intro xF h;refine c0 [iN 2 Fb zE] 27 h [] ?_ ?_
 ·intro wV h;refine s1 [] [0] [(4,.str ([]:List Int)),(5,Ii 0),(6,Ii 8)] ?_;cases h;exact rt rx
 intro wV h;refine sk (sq (nE h fun zX h=>r1 [iH 6 { s:=sub zE zA.2.1 (zG (zA.2.1+zA.1)) },iS 5 Fb zE zA.2.1 (zG (zA.2.1+zA.1)) zX.1 zX.2.1 zX.2.2,iC (rfl:(Mb (sub zE zA.2.1 (zG (zA.2.1+zA.1))))=List.map (AV.int .u8) (sub zE zA.2.1 (zG (zA.2.1+zA.1))))] [0] [(4,.str (sub zE zA.2.1 (zG (zA.2.1+zA.1)))),(5,Ii (zG (zA.2.1+zA.1))),(6,Ii 0)] ?_));cases h;exact rt rx
theorem zCQ (F:Nat) (zH:v5) (r:(List Int)×v5) (h:EL F zH=some r):yR prog 76 [(.var 72 (tM zH))] [] [Pp 0] [(.var 72 (tM r.2))] (.str r.1):=by
 refine tI Go.Proofs.Tryz.f76 ?_;unfold EL at h;refine sE [] [(0,Pp 0)] [(0,Vb 72 (tM zH))] 1 (sq (bE h fun zA zL h=>r0 [iK 4 {} (U6 F zH.B (40:Int) zA zL)] [(3,.str zA.1),(4,Ii zA.2.1),(5,Ii zA.2.2)] (sq (c0 [] 16 h [] ?_ ?_))))
 ·intro yC h;refine s2 [] [0] [] [] [(0,Vb 72 [Sb zH.B,.bool true])] 1 (s0 [] [(2,.str ([]:List Int))] ?_);cases h;exact rt rx
 intro yC h;refine sk (sq (nE h fun zX h=>r2 [iT 6 Fb zH.B zA.2.1 zX.1 zX.2] [0] [] [] [(0,Vb 72 [Sb (sub zH.B zA.2.1 (lN (zH.B))),.bool zH.Bad])] 1 (s0 [] [(2,.str zA.1)] ?_)));cases h;exact rt rx
theorem WC (F:Nat) (zH:v5) (r:yU×v5) (h:rO F zH=some r):yR prog 32 [(.var 72 (tM zH))] [] [Pp 0] [(.var 72 (tM r.2))] (z6 r.1):=by
 refine tI Go.Proofs.Tryz.f32 ?_;unfold rO at h;refine sE [iH 0 { id:=1 }] [(0,Pp 0),(2,Pp 1)] [(0,Vb 72 (tM zH)),(1,Vb 76 [Ii 0,Ii 0,Ii 0,Ii 0,Ii 0])] 2 (sq (bE h fun zA zL h=>r2 [iH 3 { id:=2 },iK 1 { ids:=[0] } (aQ F zH zA zL)] [] [(3,Pp 2)] [] [(0,Vb 72 (tM zA.2)),(2,Vb 76 [Ii zA.1,Ii 0,Ii 0,Ii 0,Ii 0])] 3 (sq (bE h fun zC zX h=>r2 [iK 1 { ids:=[0] } (aQ F zA.2 zC zX)] [] [] [] [(0,Vb 72 (tM zC.2)),(2,Vb 76 [Ii zA.1,Ii zC.1,Ii 0,Ii 0,Ii 0])] 3 (sq (bE h fun zJ yQ h=>r2 [iK 1 { ids:=[0] } (aQ F zC.2 zJ yQ)] [] [] [] [(0,Vb 72 (tM zJ.2)),(2,Vb 76 [Ii zA.1,Ii zC.1,Ii zJ.1,Ii 0,Ii 0])] 3 (sq (bE h fun zS y9 h=>r2 [iK 1 { ids:=[0] } (aQ F zJ.2 zS y9)] [] [] [] [(0,Vb 72 (tM zS.2)),(2,Vb 76 [Ii zA.1,Ii zC.1,Ii zJ.1,Ii zS.1,Ii 0])] 3 (sq (bE h fun zV xS h=>r2 [iK 1 { ids:=[0] } (aQ F zS.2 zV xS)] [0] [] [] [(0,Vb 72 (tM zV.2)),(2,Vb 76 [Ii zA.1,Ii zC.1,Ii zJ.1,Ii zS.1,Ii zV.1])] 3 (s2 [] [3] [] [2] [(1,Vb 76 [Ii zA.1,Ii zC.1,Ii zJ.1,Ii zS.1,Ii zV.1])] 3 ?_)))))))))));cases h;exact rt rx
theorem zGg (F:Nat) (zB:Int) (r:Bool) (h:DD F zB=some r):yR prog 140 [] [] [Iu zB] [] (.bool r):=by
 refine tI Go.Proofs.Tryz.f140 ?_;unfold DD at h;refine sE [] [(0,Iu zB)] [] 0 (sq (ad 26 h ?_ ?_ ?_))
 ·rcases bft (decide (zB≥(97:Int))) with zT | zT
  ·rcases bft (decide (zB≤(122:Int))) with z4 | z4
   ·exact rm [iH 5 Ht,iG 7 3,iH 12 Hg,iH 13 Ht,iG 15 3,iH 20 Hg,iH 21 Ht,iR 3 zT,iR 5 z4,iX 4,iA true] (ctr zT (ort z4))
   ·rcases bft (decide (zB≥(65:Int))) with yE | yE
    ·rcases bft (decide (zB≤(90:Int))) with yK | yK
     ·exact rm [iH 5 Ht,iH 12 Ht,iH 13 Hf,iG 15 3,iH 20 Hg,iH 21 Ht,iR 3 zT,iR 3 z4,iR 2 yE,iC z4,iC yE,iC z4,iR 5 yK] (ctr zT (orf z4 (ctr yE (ort yK))))
     ·rcases bft (decide (zB≥(48:Int))) with xX | xX
      ·exact rm [iH 5 Ht,iH 12 Ht,iH 13 Hf,iH 20 Ht,iH 21 Hf,iR 3 zT,iR 3 z4,iR 2 yE,iC z4,iC yE,iC z4,iR 3 yK,iR 2 xX,iC yK,iC xX,iC yK] (ctr zT (orf z4 (ctr yE (orf yK (v9 xX rfl)))))
      ·exact rm [iH 5 Ht,iH 12 Ht,iH 13 Hf,iG 18 2,iH 20 Hf,iH 21 Hf,iR 3 zT,iR 3 z4,iR 2 yE,iC z4,iC yE,iC z4,iR 3 yK,iR 2 xX,iC yK,iC xX,iC yK] (ctr zT (orf z4 (ctr yE (orf yK (u5 xX)))))
    ·rcases bft (decide (zB≥(48:Int))) with wI | wI
     ·exact rm [iH 5 Ht,iG 10 2,iH 12 Hf,iH 13 Hf,iH 20 Ht,iH 21 Hf,iR 3 zT,iR 3 z4,iR 2 yE,iC z4,iC yE,iC z4,iQ 3 false,iR 2 wI,iA false,iC wI,iA false] (ctr zT (orf z4 (cfr yE (v9 wI rfl))))
     ·exact rm [iH 5 Ht,iG 10 2,iH 12 Hf,iH 13 Hf,iG 18 2,iH 20 Hf,iH 21 Hf,iR 3 zT,iR 3 z4,iR 2 yE,iC z4,iC yE,iC z4,iQ 3 false,iR 2 wI,iA false,iC wI,iA false] (ctr zT (orf z4 (cfr yE (u5 wI))))
  ·rcases bft (decide (zB≥(65:Int))) with wH | wH
   ·rcases bft (decide (zB≤(90:Int))) with wD | wD
    ·exact rm [iG 3 2,iH 5 Hf,iH 12 Ht,iH 13 Hf,iG 15 3,iH 20 Hg,iH 21 Ht,iR 3 zT,iQ 3 false,iR 2 wH,iA false,iC wH,iA false,iR 5 wD] (cfr zT (ctr wH (ort wD)))
    ·rcases bft (decide (zB≥(48:Int))) with vS | vS
     ·exact rm [iG 3 2,iH 5 Hf,iH 12 Ht,iH 13 Hf,iH 20 Ht,iH 21 Hf,iR 3 zT,iQ 3 false,iR 2 wH,iA false,iC wH,iA false,iR 3 wD,iR 2 vS,iC wD,iC vS,iC wD] (cfr zT (ctr wH (orf wD (v9 vS rfl))))
     ·exact rm [iG 3 2,iH 5 Hf,iH 12 Ht,iH 13 Hf,iG 18 2,iH 20 Hf,iH 21 Hf,iR 3 zT,iQ 3 false,iR 2 wH,iA false,iC wH,iA false,iR 3 wD,iR 2 vS,iC wD,iC vS,iC wD] (cfr zT (ctr wH (orf wD (u5 vS))))
   ·rcases bft (decide (zB≥(48:Int))) with wU | wU
    ·exact rm [iG 3 2,iH 5 Hf,iG 10 2,iH 12 Hf,iH 13 Hf,iH 20 Ht,iH 21 Hf,iR 3 zT,iQ 3 false,iR 2 wH,iA false,iC wH,iQ 4 false,iR 2 wU,iA false,iC wU,iA false] (cfr zT (cfr wH (v9 wU rfl)))
    ·exact rm [iG 3 2,iH 5 Hf,iG 10 2,iH 12 Hf,iH 13 Hf,iG 18 2,iH 20 Hf,iH 21 Hf,iR 3 zT,iQ 3 false,iR 2 wH,iA false,iC wH,iQ 4 false,iR 2 wU,iA false,iC wU,iA false] (cfr zT (cfr wH (u5 wU)))
 ·intro yC h;refine s0 [] [(2,.bool true)] ?_;cases h;exact rt rx
 intro yC h;refine sk (s0 [] [(3,.str ([95,46,58,47,60,62,36,42,126,45]:List Int))] (sq (s0 [] [(4,Ii 0)] (bE h fun zD zL h=>?_))));refine vD (K1:=(fun e st'=>match zD with | (.inl q0)=>e=.normal∧Sub 0 st' (mk [] [] 0) | (.inr q1)=>e=.ret∧vE prog Go.Proofs.Tryz.f140 0 [] (.bool q1) st')) ?_ ?_
 ·replace h:=zL;refine yN (id:=0) zk ?_;refine w0 [] [] [(0,Iu zB),(3,.str ([95,46,58,47,60,62,36,42,126,45]:List Int)),(4,Ii 0)] [] ?_;refine wC (fun n st=>∃ (zP:Int),st=mk [(0,Iu zB),(3,.str ([95,46,58,47,60,62,36,42,126,45]:List Int)),(4,Ii zP)] [] 0∧fT F zB n zP=some zD) F zk ⟨_,rfl,h⟩ ?_ ?_
  ·rintro _ ⟨_,_,h⟩;exact wB (h:(none:Option (Unit⊕Bool))=some zD)
  rintro z7 _ ⟨zP,rfl,h⟩;replace h:mL F zB (fT F zB z7) zP=some zD:=h;unfold mL at h;refine sq (c0 [] 30 h [] ?_ ?_)
  rotate_left
  ·intro yY h;refine x8 (id:=0) zk ?_;cases h;exact ⟨rfl,(sw [] [] [] [] an)⟩
  intro yY h;refine sk (sq ?_);refine yN (id:=1) zk ?_;refine sq (bE h fun y5 zX h=>r0 [iH 2 { z:=y5 },iC zX] [(37,.bool (y5==zB))] (ch 37 h ?_ ?_))
  rotate_left
  ·intro xF h;refine sk (r0 [] [(4,Ii (zG (zP+(1:Int))))] ?_);exact ⟨_,(sw [] [] [.s 0,.s 3,.s 4] [] an),_,rfl,h⟩
  intro xF h;refine s0 [] [(2,.bool true)] ?_;cases h;exact rt ry
 intro e st1 hk;rcases zD with zZ | xD
 rotate_left
 ·obtain ⟨rfl,hf⟩:=hk;cases h;exact ⟨st1,Sub.refl _ _,.inr rfl,hf⟩
 obtain ⟨rfl,hs⟩:=hk;refine ⟨_,hs,?_⟩;refine s0 [] [(2,.bool false)] ?_;cases h;exact rt rx
theorem E7 (F:Nat) (zI:List Int) (r:Int) (h:cZ F zI=some r):yR prog 101 [] [] [.str zI] [] (Ii r):=by
 refine tI Go.Proofs.Tryz.f101 ?_;unfold cZ at h;refine sE [] [(0,.str zI)] [] 0 (sq (ad 11 h ?_ ?_ ?_))
 ·rcases bft (decide ((lN (zI))<(1:Int))) with zT | zT
  ·exact rm [iG 4 3,iH 7 Ht,iR 4 zT] (ort zT)
  ·exact rm [iH 7 Hf,iR 4 zT] (orf zT rfl)
 ·intro yC h;refine s0 [] [(2,Ii 3)] ?_;cases h;exact rt rx
 intro yC h;refine sk (sq (s0 [] [(3,Ii 0)] (bE h fun zD zL h=>?_)));refine vD (K1:=(fun e st'=>match zD with | (.inl q0)=>e=.normal∧Sub 0 st' (mk [] [] 0) | (.inr q1)=>e=.ret∧vE prog Go.Proofs.Tryz.f101 0 [] (Ii q1) st')) ?_ ?_
 ·replace h:=zL;refine yN (id:=0) zk ?_;refine w0 [] [] [(0,.str zI),(3,Ii 0)] [] ?_;refine wC (fun n st=>∃ (zP:Int),st=mk [(0,.str zI),(3,Ii zP)] [] 0∧CV F zI n zP=some zD) F zk ⟨_,rfl,h⟩ ?_ ?_
  ·rintro _ ⟨_,_,h⟩;exact wB (h:(none:Option (Unit⊕Int))=some zD)
  rintro z7 _ ⟨zP,rfl,h⟩;replace h:D3 F zI (CV F zI z7) zP=some zD:=h;unfold D3 at h;refine sq (c0 [] 15 h [] ?_ ?_)
  rotate_left
  ·intro yY h;refine x8 (id:=0) zk ?_;cases h;exact ⟨rfl,(sw [] [] [] [] an)⟩
  intro yY h;refine sk (sq ?_);refine yN (id:=1) zk ?_;refine sq (bE h fun zB zX h=>bE h fun zA yQ h=>r0 [iH 2 { z:=zB },iC zX,iK 3 {} (zGg F zB zA yQ)] [(22,.bool (!zA))] (ch 22 h ?_ ?_))
  rotate_left
  ·intro xF h;refine sk (r0 [] [(3,Ii (zG (zP+(1:Int))))] ?_);exact ⟨_,(sw [] [] [.s 0,.s 3] [] an),_,rfl,h⟩
  intro xF h;refine s0 [] [(2,Ii 3)] ?_;cases h;exact rt ry
 intro e st1 hk;rcases zD with zZ | xD
 rotate_left
 ·obtain ⟨rfl,hf⟩:=hk;cases h;exact ⟨st1,Sub.refl _ _,.inr rfl,hf⟩
 obtain ⟨rfl,hs⟩:=hk;refine ⟨_,hs,?_⟩;refine s0 [] [(2,Ii 0)] ?_;cases h;exact rt rx
theorem ZG (F:Nat) (tE:y7) (r:Int) (h:HJ F tE=some r):yR prog 61 [] [] [yD tE] [] (Ii r):=by
 refine tI Go.Proofs.Tryz.f61 ?_;unfold HJ at h;refine sE [iH 0 { id:=0 }] [(1,Pp 0)] [(0,Vb 85 (jE tE))] 1 (sq (ad 20 h ?_ ?_ ?_))
 ·rcases bft (decide (tE.Id<(0:Int))) with zT | zT
  ·exact rm [iG 4 3,iH 7 Ht,iG 9 3,iH 12 Ht,iG 14 3,iH 17 Ht,iR 4 zT,iX 3,iA true,iX 3,iA true] (ort zT)
  ·rcases bft (decide (tE.Id>(1000000000000000:Int))) with z4 | z4
   ·exact rm [iH 7 Hf,iG 9 3,iH 12 Ht,iG 14 3,iH 17 Ht,iR 4 zT,iR 4 z4,iX 3,iA true] (orf zT (ort z4))
   ·rcases bft (decide (tE.Domain<(0:Int))) with yE | yE
    ·exact rm [iH 7 Hf,iH 12 Hf,iG 14 3,iH 17 Ht,iR 4 zT,iR 4 z4,iR 4 yE] (orf zT (orf z4 (ort yE)))
    ·exact rm [iH 7 Hf,iH 12 Hf,iH 17 Hf,iR 4 zT,iR 4 z4,iR 4 yE] (orf zT (orf z4 (orf yE rfl)))
 ·intro yC h;refine s2 [] [1] [(2,Ii 2)] [0] [] 1 ?_;cases h;exact rt rx
 intro yC h;refine sk (sq (bE h fun zA zL h=>r2 [iK 2 {} (E7 F tE.Name zA zL)] [1] [(2,Ii zA)] [0] [] 1 ?_));cases h;exact rt rx
theorem DR (F:Nat) (zN:List (yS)) (t4:Int) (r:Int) (h:fD F zN t4=some r):yR prog 77 [] [] [Sq 2 z5 zN,Ii t4] [] (Ii r):=by
 refine tI Go.Proofs.Tryz.f77 ?_;unfold fD at h;refine sE [] [(0,Sq 2 z5 zN),(1,Ii t4)] [] 0 (sq (s0 [] [(5,Ii 0)] (bE h fun zD zL h=>?_)));refine vD (K1:=(fun e st'=>match zD with | (.inl q0)=>e=.normal∧Sub 0 st' (mk [] [] 0) | (.inr q1)=>e=.ret∧vE prog Go.Proofs.Tryz.f77 0 [] (Ii q1) st')) ?_ ?_
 ·replace h:=zL;refine yN (id:=0) zk ?_;refine w0 [] [] [(0,Sq 2 z5 zN),(1,Ii t4),(5,Ii 0)] [] ?_;refine wC (fun n st=>∃ (zP:Int),st=mk [(0,Sq 2 z5 zN),(1,Ii t4),(5,Ii zP)] [] 0∧EE F zN t4 n zP=some zD) F zk ⟨_,rfl,h⟩ ?_ ?_
  ·rintro _ ⟨_,_,h⟩;exact wB (h:(none:Option (Unit⊕Int))=some zD)
  rintro z7 _ ⟨zP,rfl,h⟩;replace h:lJ F zN t4 (EE F zN t4 z7) zP=some zD:=h;unfold lJ at h;refine sq (c0 [iN 2 z5 zN] 9 h [] ?_ ?_)
  rotate_left
  ·intro yC h;refine x8 (id:=0) zk ?_;cases h;exact ⟨rfl,(sw [] [] [] [] an)⟩
  intro yC h;refine sk (sq ?_);refine yN (id:=1) zk ?_;refine sq (bE h fun zH zX h=>r0 [iF 2 z5 zX] [(18,.bool (zH.Id==t4))] (ch 18 h ?_ ?_))
  rotate_left
  ·intro yY h;refine sk (r0 [] [(5,Ii (zG (zP+(1:Int))))] ?_);exact ⟨_,(sw [] [] [.s 0,.s 1,.s 5] [] an),_,rfl,h⟩
  intro yY h;refine s1 [] [0] [(4,Ii zP)] ?_;cases h;exact rt ry
 intro e st1 hk;rcases zD with zZ | xD
 rotate_left
 ·obtain ⟨rfl,hf⟩:=hk;cases h;exact ⟨st1,Sub.refl _ _,.inr rfl,hf⟩
 obtain ⟨rfl,hs⟩:=hk;refine ⟨_,hs,?_⟩;refine s0 [] [(4,Ii (-1))] ?_;cases h;exact rt rx
theorem cW (z7:Int) (r:Bool) (h:BG z7=some r):yR prog 119 [] [] [Ii z7] [] (.bool r):=by
 refine tI Go.Proofs.Tryz.f119 ?_;unfold BG at h;refine sE [] [(0,Ii z7)] [] 0 (sq (am 2 (decide (z7≥(0:Int))&&decide (z7≤(1000000000000:Int))) ?_ ?_))
 ·rcases bft (decide (z7≥(0:Int))) with zT | zT
  ·exact rm [iH 5 Ht,iR 3 zT] (v9 zT rfl)
  ·exact rm [iG 3 2,iH 5 Hf,iR 3 zT] (u5 zT)
 cases h;exact rt rx
theorem zAu (F:Nat) (zN:List (yS)) (zH:yU) (r:Int) (h:G1 F zN zH=some r):yR prog 78 [] [] [Sq 2 z5 zN,z6 zH] [] (Ii r):=by
 refine tI Go.Proofs.Tryz.f78 ?_;unfold G1 at h;refine sE [iH 0 { id:=0 }] [(0,Sq 2 z5 zN),(3,Pp 0)] [(0,Vb 76 (kY zH))] 1 (sq ?_);refine yN (id:=0) zk ?_;refine sq (bE h fun zK yQ h=>?_);refine xR (mk [(3,Pp 0),(5,.bool zK)] [(0,Vb 76 (kY zH))] 1) ?_ ?_
 ·replace h:=yQ;refine bE h fun zA zL h=>?_;rcases bft (decide (zA<(0:Int))) with zT | zT
  ·replace h:=xK zT h;refine r1 [iG 6 5,iH 11 Ht,iK 3 {} (DR F zN zH.A zA zL),iR 6 zT] [0] [(5,.bool true)] ?_;cases h;exact ⟨rfl,(sw [0] [] [.s 3,.s 5] [.s 0] an)⟩
  ·replace h:=xJ zT h;refine bE h fun zC zX h=>r1 [iH 11 Hf,iK 3 {} (DR F zN zH.A zA zL),iR 4 zT,iK 9 {} (DR F zN zH.B zC zX),iR 2 zT] [0] [(5,.bool (decide (zC<(0:Int))))] ?_;cases h;exact ⟨rfl,(sw [0] [] [.s 3,.s 5] [.s 0] an)⟩
 refine ch 5 h ?_ ?_
 ·intro yC h;refine s2 [] [3] [(4,Ii 5)] [0] [] 1 ?_;cases h;exact rt rx
 intro yC h;refine c0 [] 18 h [] ?_ ?_
 ·intro yY h;refine s2 [] [3] [(4,Ii 1)] [0] [] 1 ?_;cases h;exact rt rx
 intro yY h;refine sq (bE h fun u3 wP h=>?_);refine xR (mk [(24,.bool u3)] [] 0) ?_ ?_
 ·replace h:=wP;refine bE h fun zJ y9 h=>?_;rcases bft (!zJ) with z4 | z4
  ·replace h:=xK z4 h;refine r2 [iG 5 5,iH 10 Ht,iG 12 5,iH 17 Ht,iG 19 7,iH 26 Ht,iK 2 {} (cW zH.AtA zJ y9),iR 6 z4,iX 5,iA true,iX 7,iA true] [3] [(24,.bool true)] [0] [] 1 ?_;cases h;exact ⟨rfl,(sw [] [] [.s 24] [] an)⟩
  ·replace h:=xJ z4 h;refine bE h fun zS xS h=>?_;rcases bft (!zS) with yE | yE
   ·replace h:=xK yE h;refine r2 [iH 10 Hf,iG 12 5,iH 17 Ht,iG 19 7,iH 26 Ht,iK 2 {} (cW zH.AtA zJ y9),iR 4 z4,iK 8 {} (cW zH.AtB.Lo zS xS),iR 2 z4,iR 6 yE,iX 7,iA true] [3] [(24,.bool true)] [0] [] 1 ?_;cases h;exact ⟨rfl,(sw [] [] [.s 24] [] an)⟩
   ·replace h:=xJ yE h;refine bE h fun zV wA h=>?_;rcases bft (!zV) with yK | yK
    ·replace h:=xK yK h;refine r2 [iH 10 Hf,iH 17 Hf,iG 19 7,iH 26 Ht,iK 2 {} (cW zH.AtA zJ y9),iR 4 z4,iK 8 {} (cW zH.AtB.Lo zS xS),iR 2 z4,iR 4 yE,iK 15 {} (cW zH.AtB.Hi zV wA),iR 2 yE,iR 8 yK] [3] [(24,.bool true)] [0] [] 1 ?_;cases h;exact ⟨rfl,(sw [] [] [.s 24] [] an)⟩
    ·replace h:=xJ yK h;refine r2 [iH 10 Hf,iH 17 Hf,iH 26 Hf,iK 2 {} (cW zH.AtA zJ y9),iR 4 z4,iK 8 {} (cW zH.AtB.Lo zS xS),iR 2 z4,iR 4 yE,iK 15 {} (cW zH.AtB.Hi zV wA),iR 2 yE,iR 8 yK] [3] [(24,.bool (decide (zH.AtB.Lo>zH.AtB.Hi)))] [0] [] 1 ?_;cases h;exact ⟨rfl,(sw [] [] [.s 24] [] an)⟩
 refine ch 24 h ?_ ?_
 ·intro xF h;refine s0 [] [(4,Ii 2)] ?_;cases h;exact rt rx
 intro xF h;refine sk (s0 [] [(4,Ii 0)] ?_);cases h;exact rt rx
theorem LQ (F:Nat) (zN:List (yS)) (zO:List (yU)) (r:Int) (h:iU F zN zO=some r):yR prog 33 [] [] [Sq 2 z5 zN,Sq 5 z6 zO] [] (Ii r):=by
 refine tI Go.Proofs.Tryz.f33 ?_;unfold iU at h;refine sE [] [(0,Sq 2 z5 zN),(1,Sq 5 z6 zO)] [] 0 (sq ?_);refine yN (id:=0) zk ?_;refine c0 [iN 1 z5 zN] 8 h [] ?_ ?_
 ·intro yC h;refine s1 [] [0,1] [(4,Ii 8)] ?_;cases h;exact rt rx
 intro yC h;refine ad 12 h ?_ ?_ ?_
 ·rcases bft (decide ((lN (zN))>(8:Int))) with zT | zT
  ·exact rm [iG 4 3,iH 7 Ht,iN 1 z5 zN,iR 4 zT] (ort zT)
  ·exact rm [iH 7 Hf,iN 1 z5 zN,iR 2 zT,iN 5 z6 zO,iR 2 zT] (orf zT rfl)
 ·intro yY h;refine s1 [] [0,1] [(4,Ii 7)] ?_;cases h;exact rt rx
 intro yY h;refine sq (bE h fun zK yQ h=>?_);refine xR (mk [(0,Sq 2 z5 zN),(1,Sq 5 z6 zO),(21,.bool zK)] [] 0) ?_ ?_
 ·replace h:=yQ;refine bE h fun zH zL h=>?_;rcases bft (zH.Id != (0:Int)) with z4 | z4
  ·replace h:=xK z4 h;refine r0 [iG 6 5,iH 11 Ht,iF 1 z5 zL,iR 6 z4] [(21,.bool true)] ?_;cases h;exact ⟨rfl,(sw [] [] [.s 0,.s 1,.s 21] [] an)⟩
  ·replace h:=xJ z4 h;refine bE h fun yH zX h=>r0 [iH 11 Hf,iF 1 z5 zL,iR 2 z4,iF 7 z5 zX,iR 4 z4] [(21,.bool (yH.Ppm != (0:Int)))] ?_;cases h;exact ⟨rfl,(sw [] [] [.s 0,.s 1,.s 21] [] an)⟩
 refine ch 21 h ?_ ?_
 ·intro xF h;refine s1 [] [0,1] [(4,Ii 10)] ?_;cases h;exact rt rx
 intro xF h;refine sk (sq (s0 [] [(5,Ii 0)] (bE h fun zD y9 h=>?_)));refine vD (K1:=(fun e st'=>match zD with | (.inl q0)=>e=.normal∧Sub 0 st' (mk [(0,Sq 2 z5 zN),(1,Sq 5 z6 zO)] [] 0) | (.inr q1)=>e=.ret∧vE prog Go.Proofs.Tryz.f33 0 [] (Ii q1) st')) ?_ ?_
 ·replace h:=y9;refine yN (id:=1) zk ?_;refine w0 [] [] [(0,Sq 2 z5 zN),(1,Sq 5 z6 zO),(5,Ii 0)] [] ?_;refine wC (fun n st=>∃ (zP:Int),st=mk [(0,Sq 2 z5 zN),(1,Sq 5 z6 zO),(5,Ii zP)] [] 0∧DJ F zN n zP=some zD) F zk ⟨_,rfl,h⟩ ?_ ?_
  ·rintro _ ⟨_,_,h⟩;exact wB (h:(none:Option (Unit⊕Int))=some zD)
  rintro z7 _ ⟨zP,rfl,h⟩;replace h:mC F zN (DJ F zN z7) zP=some zD:=h;unfold mC at h;refine sq (c0 [iN 2 z5 zN] 37 h [] ?_ ?_)
  rotate_left
  ·intro wV h;refine x8 (id:=1) zk ?_;cases h;exact ⟨rfl,(sw [] [] [.s 0,.s 1] [] an)⟩
  intro wV h;refine sk (sq ?_);refine yN (id:=2) zk ?_;refine sq (sq (bE h fun u3 vN h=>?_));refine xR (mk [(0,Sq 2 z5 zN),(1,Sq 5 z6 zO),(5,Ii zP),(69,.bool u3)] [] 0) ?_ ?_
  ·replace h:=vN;refine bE h fun xA xS h=>?_;rcases bft (decide (xA.Id<(0:Int))) with wL | wL
   ·replace h:=xK wL h;refine r0 [iG 7 6,iH 13 Ht,iG 15 6,iH 21 Ht,iG 23 6,iH 29 Ht,iF 2 z5 xS,iR 7 wL,iX 6,iA true,iX 6,iA true] [(47,.tuple []),(48,.tuple []),(49,.tuple []),(50,.tuple []),(51,.tuple []),(52,.tuple []),(55,.tuple []),(56,.tuple []),(57,.tuple []),(58,.tuple []),(59,.tuple []),(60,.tuple []),(63,.tuple []),(64,.tuple []),(65,.tuple []),(66,.tuple []),(67,.tuple []),(68,.tuple []),(69,.bool true)] ?_;cases h;exact ⟨rfl,(sw [] [] [.s 0,.s 1,.s 5,.s 69] [] an)⟩
   ·replace h:=xJ wL h;refine bE h fun wM wA h=>?_;rcases bft (decide (wM.Id≥(8:Int))) with wO | wO
    ·replace h:=xK wO h;refine r0 [iH 13 Hf,iG 15 6,iH 21 Ht,iG 23 6,iH 29 Ht,iF 2 z5 xS,iR 3 wL,iF 9 z5 wA,iR 4 wL,iR 7 wO,iX 6,iA true] [(47,Sq 2 z5 zN),(48,Ii zP),(49,.ref (z5 wM)),(50,.ref (Ii wM.Id)),(51,Ii wM.Id),(52,.bool (decide (wM.Id≥(8:Int)))),(55,.tuple []),(56,.tuple []),(57,.tuple []),(58,.tuple []),(59,.tuple []),(60,.tuple []),(63,.tuple []),(64,.tuple []),(65,.tuple []),(66,.tuple []),(67,.tuple []),(68,.tuple []),(69,.bool true)] ?_;cases h;exact ⟨rfl,(sw [] [] [.s 0,.s 1,.s 5,.s 69] [] an)⟩
    ·replace h:=xJ wO h;refine bE h fun vL wP h=>?_;rcases bft (decide (vL.Ppm<(0:Int))) with uA | uA
     ·replace h:=xK uA h;refine r0 [iH 13 Hf,iH 21 Hf,iG 23 6,iH 29 Ht,iF 2 z5 xS,iR 3 wL,iF 9 z5 wA,iR 4 wL,iR 3 wO,iF 17 z5 wP,iR 4 wO,iR 7 uA] [(47,Sq 2 z5 zN),(48,Ii zP),(49,.ref (z5 wM)),(50,.ref (Ii wM.Id)),(51,Ii wM.Id),(52,.bool (decide (wM.Id≥(8:Int)))),(55,Sq 2 z5 zN),(56,Ii zP),(57,.ref (z5 vL)),(58,.ref (Ii vL.Ppm)),(59,Ii vL.Ppm),(60,.bool (decide (vL.Ppm<(0:Int)))),(63,.tuple []),(64,.tuple []),(65,.tuple []),(66,.tuple []),(67,.tuple []),(68,.tuple []),(69,.bool true)] ?_;cases h;exact ⟨rfl,(sw [] [] [.s 0,.s 1,.s 5,.s 69] [] an)⟩
     ·replace h:=xJ uA h;refine bE h fun tN vA h=>r0 [iH 13 Hf,iH 21 Hf,iH 29 Hf,iF 2 z5 xS,iR 3 wL,iF 9 z5 wA,iR 4 wL,iR 3 wO,iF 17 z5 wP,iR 4 wO,iR 3 uA,iF 25 z5 vA,iR 4 uA] [(47,Sq 2 z5 zN),(48,Ii zP),(49,.ref (z5 wM)),(50,.ref (Ii wM.Id)),(51,Ii wM.Id),(52,.bool (decide (wM.Id≥(8:Int)))),(55,Sq 2 z5 zN),(56,Ii zP),(57,.ref (z5 vL)),(58,.ref (Ii vL.Ppm)),(59,Ii vL.Ppm),(60,.bool (decide (vL.Ppm<(0:Int)))),(63,Sq 2 z5 zN),(64,Ii zP),(65,.ref (z5 tN)),(66,.ref (Ii tN.Ppm)),(67,Ii tN.Ppm),(68,.bool (decide (tN.Ppm>(10000:Int)))),(69,.bool (decide (tN.Ppm>(10000:Int))))] ?_;cases h;exact ⟨rfl,(sw [] [] [.s 0,.s 1,.s 5,.s 69] [] an)⟩
  refine ch 69 h ?_ ?_
  ·intro vM h;refine s1 [] [0,1] [(4,Ii 2)] ?_;cases h;exact rt ry
  intro vM h;refine sk (sq (bE h fun dY uG h=>bE h fun zA uJ h=>r0 [iF 3 z5 uG,iK 6 {} (DR F zN dY.Id zA uJ)] [(78,.bool (decide (zA<zP)))] (ch 78 h ?_ ?_)))
  rotate_left
  ·intro uM h;refine sk (r0 [] [(5,Ii (zG (zP+(1:Int))))] ?_);exact ⟨_,(sw [] [] [.s 0,.s 1,.s 5] [] an),_,rfl,h⟩
  intro uM h;refine s1 [] [0,1] [(4,Ii 4)] ?_;cases h;exact rt ry
 intro e st1 hk;rcases zD with zZ | xD
 rotate_left
 ·obtain ⟨rfl,hf⟩:=hk;cases h;exact ⟨st1,Sub.refl _ _,.inr rfl,hf⟩
 obtain ⟨rfl,hs⟩:=hk;refine ⟨_,hs,?_⟩;refine sq (s0 [] [(6,Ii 0)] (bE h fun zR tB h=>?_));refine vD (K1:=(fun e st'=>match zR with | (.inl q0)=>e=.normal∧Sub 0 st' (mk [] [] 0) | (.inr q1)=>e=.ret∧vE prog Go.Proofs.Tryz.f33 0 [] (Ii q1) st')) ?_ ?_
 ·replace h:=tB;refine yN (id:=3) zk ?_;refine w0 [] [] [(0,Sq 2 z5 zN),(1,Sq 5 z6 zO),(6,Ii 0)] [] ?_;refine wC (fun n st=>∃ (xH:Int),st=mk [(0,Sq 2 z5 zN),(1,Sq 5 z6 zO),(6,Ii xH)] [] 0∧HX F zN zO n xH=some zR) F zk ⟨_,rfl,h⟩ ?_ ?_
  ·rintro _ ⟨_,_,h⟩;exact wB (h:(none:Option (Unit⊕Int))=some zR)
  rintro uI _ ⟨xH,rfl,h⟩;replace h:lZ F zN zO (HX F zN zO uI) xH=some zR:=h;unfold lZ at h;refine sq (c0 [iN 2 z6 zO] 82 h [] ?_ ?_)
  rotate_left
  ·intro tO h;refine x8 (id:=3) zk ?_;cases h;exact ⟨rfl,(sw [] [] [] [] an)⟩
  intro tO h;refine sk (sq ?_);refine yN (id:=4) zk ?_;refine sq (bE h fun gO tP h=>bE h fun zC uY h=>r0 [iF 3 z6 tP,iK 5 {} (zAu F zN gO zC uY)] [(7,Ii zC)] (c0 [] 92 h [] ?_ ?_))
  rotate_left
  ·intro qR h;refine sk (r0 [] [(6,Ii (zG (xH+(1:Int))))] ?_);exact ⟨_,(sw [] [] [.s 0,.s 1,.s 6] [] an),_,rfl,h⟩
  intro qR h;refine s1 [] [0,1] [(4,Ii zC)] ?_;cases h;exact rt ry
 intro e st1 hk;rcases zR with vG | t5
 rotate_left
 ·obtain ⟨rfl,hf⟩:=hk;cases h;exact ⟨st1,Sub.refl _ _,.inr rfl,hf⟩
 obtain ⟨rfl,hs⟩:=hk;refine ⟨_,hs,?_⟩;refine s0 [] [(4,Ii 0)] ?_;cases h;exact rt rx
theorem zFQ (F:Nat) (zN:List (yS)) (t4:Int) (r:Int×Bool) (h:HR F zN t4=some r):yR prog 62 [] [] [Sq 2 z5 zN,Ii t4] [] (.tuple [Ii r.1,.bool r.2]):=by
 refine tI Go.Proofs.Tryz.f62 ?_;unfold HR at h;refine sE [] [(0,Sq 2 z5 zN),(1,Ii t4)] [] 0 (sq (bE h fun zA zL h=>r0 [iK 2 {} (DR F zN t4 zA zL)] [(6,Ii zA)] (sq (sq (bE h fun zK yQ h=>?_)))));refine xR (mk [(0,Sq 2 z5 zN),(6,Ii zA),(16,.bool zK)] [] 0) ?_ ?_
 ·replace h:=yQ;refine bE h fun zC zX h=>?_;rcases bft (zC != (0:Int)) with zT | zT
  ·replace h:=xK zT h;refine r0 [iG 4 2,iH 6 Ht,iL 1 {} [Sq 2 z5 zN,.nilsl] (LQ F zN [] zC zX) ⟨rfl,rfl,rfl,rfl,trivial⟩,iR 3 zT] [(16,.bool true)] ?_;cases h;exact ⟨rfl,(sw [] [] [.s 0,.s 6,.s 16] [] an)⟩
  ·replace h:=xJ zT h;refine r0 [iH 6 Hf,iL 1 {} [Sq 2 z5 zN,.nilsl] (LQ F zN [] zC zX) ⟨rfl,rfl,rfl,rfl,trivial⟩,iR 3 zT] [(16,.bool (decide (zA<(0:Int))))] ?_;cases h;exact ⟨rfl,(sw [] [] [.s 0,.s 6,.s 16] [] an)⟩
 refine ch 16 h ?_ ?_
 ·intro yC h;refine s1 [] [0] [(4,Ii 0),(5,.bool false)] ?_;cases h;exact rt rx
 intro yC h;refine sk (sq (bE h fun zH y9 h=>r1 [iF 2 z5 y9] [0] [(4,Ii zH.Ppm),(5,.bool true)] ?_));cases h;exact rt rx
theorem Y6 (F:Nat) (zL:yF) (r:Int) (h:HV F zL=some r):yR prog 21 [] [] [u7 zL] [] (Ii r):=by
 refine tI Go.Proofs.Tryz.f21 ?_;unfold HV at h;refine sE [iH 0 { id:=0 }] [(1,Pp 0)] [(0,Vb 28 (w6 zL))] 1 (sq (c0 [iN 2 yD zL.Threads] 13 h [] ?_ ?_))
 ·intro yC h;refine s2 [] [1] [(2,Ii 8)] [0] [] 1 ?_;cases h;exact rt rx
 intro yC h;refine sk (sq (c0 [iN 2 yD zL.Threads] 17 h [] ?_ ?_))
 ·intro yY h;refine s2 [] [1] [(2,Ii 7)] [0] [] 1 ?_;cases h;exact rt rx
 intro yY h;refine sk (sq (s0 [] [(3,Ii 0)] (bE h fun zD zX h=>?_)));refine vD (K1:=(fun e st'=>match zD with | (.inl q0)=>e=.normal∧Sub 0 st' (mk [(1,Pp 0)] [(0,Vb 28 (w6 zL))] 1) | (.inr q1)=>e=.ret∧vE prog Go.Proofs.Tryz.f21 0 [] (Ii q1) st')) ?_ ?_
 ·replace h:=zX;refine yN (id:=0) zk ?_;refine w0 [0] [] [(1,Pp 0),(3,Ii 0)] [(0,Vb 28 (w6 zL))] ?_;refine wC (fun n st=>∃ (zP:Int),st=mk [(1,Pp 0),(3,Ii zP)] [(0,Vb 28 (w6 zL))] 1∧H2 F zL n zP=some zD) F zk ⟨_,rfl,h⟩ ?_ ?_
  ·rintro _ ⟨_,_,h⟩;exact wB (h:(none:Option (Unit⊕Int))=some zD)
  rintro z7 _ ⟨zP,rfl,h⟩;replace h:oD F zL (H2 F zL z7) zP=some zD:=h;unfold oD at h;refine sq (c0 [iN 3 yD zL.Threads] 22 h [] ?_ ?_)
  rotate_left
  ·intro xF h;refine x8 (id:=0) zk ?_;cases h;exact ⟨rfl,(sw [0] [] [.s 1] [.s 0] an)⟩
  intro xF h;refine sk (sq ?_);refine yN (id:=1) zk ?_;refine sq (bE h fun zH yQ h=>bE h fun zA y9 h=>r0 [iF 3 yD yQ,iK 5 {} (ZG F zH zA y9)] [(4,Ii zA)] (sq (c0 [] 32 h [] ?_ ?_)))
  ·intro wV h;refine s2 [] [1] [(2,Ii zA)] [0] [] 1 ?_;cases h;exact rt ry
  intro wV h;refine sk (s0 [] [(5,Ii 0)] (bE h fun zR xS h=>?_));refine vD (K1:=(fun e st'=>match zR with | (.inl q0)=>e=.normal∧Sub 0 st' (mk [(1,Pp 0),(3,Ii zP)] [(0,Vb 28 (w6 zL))] 1) | (.inr q1)=>e=.ret∧vE prog Go.Proofs.Tryz.f21 0 [] (Ii q1) st')) ?_ ?_
  ·replace h:=xS;refine yN (id:=2) zk ?_;refine w0 [0] [] [(1,Pp 0),(3,Ii zP),(5,Ii 0)] [(0,Vb 28 (w6 zL))] ?_;refine wC (fun n st=>∃ (xC:Int),st=mk [(1,Pp 0),(3,Ii zP),(5,Ii xC)] [(0,Vb 28 (w6 zL))] 1∧CC F zL zP n xC=some zR) F zk ⟨_,rfl,h⟩ ?_ ?_
   ·rintro _ ⟨_,_,h⟩;exact wB (h:(none:Option (Unit⊕Int))=some zR)
   rintro uI _ ⟨xC,rfl,h⟩;replace h:mX F zL zP (CC F zL zP uI) xC=some zR:=h;unfold mX at h;refine sq (c0 [] 36 h [] ?_ ?_)
   rotate_left
   ·intro vM h;refine x8 (id:=2) zk ?_;cases h;exact ⟨rfl,(sw [0] [] [.s 1,.s 3] [.s 0] an)⟩
   intro vM h;refine sk (sq ?_);refine yN (id:=3) zk ?_;refine sq (bE h fun yH wA h=>bE h fun xA wP h=>r0 [iF 3 yD wA,iF 9 yD wP] [(51,.bool (yH.Id==xA.Id))] (ch 51 h ?_ ?_))
   rotate_left
   ·intro uM h;refine sk (r0 [] [(5,Ii (zG (xC+(1:Int))))] ?_);exact ⟨_,(sw [0] [] [.s 1,.s 3,.s 5] [.s 0] an),_,rfl,h⟩
   intro uM h;refine s2 [] [1] [(2,Ii 4)] [0] [] 1 ?_;cases h;exact rt ry
  intro e st1 hk;rcases zR with zZ | xD
  rotate_left
  ·obtain ⟨rfl,hf⟩:=hk;cases h;exact ⟨_,Sub.refl _ _,rfl,hf⟩
  obtain ⟨rfl,hs⟩:=hk;refine ⟨_,hs,?_⟩;refine r0 [] [(3,Ii (zG (zP+(1:Int))))] ?_;exact ⟨_,(sw [0] [] [.s 1,.s 3] [.s 0] an),_,rfl,h⟩
 intro e st1 hk;rcases zD with vG | t5
 rotate_left
 ·obtain ⟨rfl,hf⟩:=hk;cases h;exact ⟨st1,Sub.refl _ _,.inr rfl,hf⟩
 obtain ⟨rfl,hs⟩:=hk;refine ⟨_,hs,?_⟩;refine sq (bE h fun zC vA h=>r0 [iK 4 {} (LQ F zL.Domains zL.Snaps zC vA)] [(6,Ii zC)] (sq (c0 [] 58 h [] ?_ ?_)))
 ·intro tO h;refine s2 [] [1] [(2,Ii zC)] [0] [] 1 ?_;cases h;exact rt rx
 intro tO h;refine sk (sq (s0 [] [(7,Ii 0)] (bE h fun yL vN h=>?_)));refine vD (K1:=(fun e st'=>match yL with | (.inl q0)=>e=.normal∧Sub 0 st' (mk [] [] 0) | (.inr q1)=>e=.ret∧vE prog Go.Proofs.Tryz.f21 0 [] (Ii q1) st')) ?_ ?_
 ·replace h:=vN;refine yN (id:=4) zk ?_;refine w0 [0] [] [(1,Pp 0),(7,Ii 0)] [(0,Vb 28 (w6 zL))] ?_;refine wC (fun n st=>∃ (xH:Int),st=mk [(1,Pp 0),(7,Ii xH)] [(0,Vb 28 (w6 zL))] 1∧BX F zL n xH=some yL) F zk ⟨_,rfl,h⟩ ?_ ?_
  ·rintro _ ⟨_,_,h⟩;exact wB (h:(none:Option (Unit⊕Int))=some yL)
  rintro qC _ ⟨xH,rfl,h⟩;replace h:iO F zL (BX F zL qC) xH=some yL:=h;unfold iO at h;refine sq (c0 [iN 3 yD zL.Threads] 64 h [] ?_ ?_)
  rotate_left
  ·intro qR h;refine x8 (id:=4) zk ?_;cases h;exact ⟨rfl,(sw [] [] [] [] an)⟩
  intro qR h;refine sk (sq ?_);refine yN (id:=5) zk ?_;refine sq (bE h fun wM uG h=>bE h fun zJ uJ h=>r0 [iF 5 yD uG,iK 8 {} (zFQ F zL.Domains wM.Domain zJ uJ)] [(9,.bool zJ.2)] (c0 [] 80 h [] ?_ ?_))
  rotate_left
  ·intro bK h;refine sk (r0 [] [(7,Ii (zG (xH+(1:Int))))] ?_);exact ⟨_,(sw [0] [] [.s 1,.s 7] [.s 0] an),_,rfl,h⟩
  intro bK h;refine s2 [] [1] [(2,Ii 5)] [0] [] 1 ?_;cases h;exact rt ry
 intro e st1 hk;rcases yL with q_5 | q_6
 rotate_left
 ·obtain ⟨rfl,hf⟩:=hk;cases h;exact ⟨st1,Sub.refl _ _,.inr rfl,hf⟩
 obtain ⟨rfl,hs⟩:=hk;refine ⟨_,hs,?_⟩;refine s0 [] [(2,Ii 0)] ?_;cases h;exact rt rx
theorem Z6 (F:Nat) (zE:List (Int)) (r:yF×Bool) (h:C9 F zE=some r):yR prog 31 [] [] [Sb zE] [] (.tuple [u7 r.1,.bool r.2]):=by
 refine tI Go.Proofs.Tryz.f31 ?_;unfold C9 at h;refine sE [iH 0 { id:=0 }] [(0,Sb zE),(2,Pp 0)] [(0,p8)] 1 ?_;refine tT (qV 0 0 1 85 3 zk) ?_;refine tT (qV 0 1 2 87 2 zk) ?_;refine tT (qV 0 2 3 76 5 zk) ?_;refine w0 [0,1,2,3] [] [(0,Sb zE),(2,Pp 0)] [(0,qW),(1,Rb 85 3 []),(2,Rb 87 2 []),(3,Rb 76 5 [])] (s2 [iH 2 { id:=4 }] [0] [(4,Pp 4)] [] [(4,Vb 72 [Sb zE,.bool false])] 5 (s2 [iH 0 { id:=5 }] [] [(5,Pp 5)] [] [(5,p8)] 6 ?_));refine tT (qV 5 0 6 85 3 zk) ?_;refine tT (qV 5 1 7 87 2 zk) ?_;refine tT (qV 5 2 8 76 5 zk) ?_;refine w0 [0,1,2,3,4,5,6,7,8] [] [(2,Pp 0),(4,Pp 4),(5,Pp 5)] [(0,qW),(1,Rb 85 3 []),(2,Rb 87 2 []),(3,Rb 76 5 []),(4,Vb 72 [Sb zE,.bool false]),(5,Vb 28 [.own 6 0,.own 7 0,.own 8 0]),(6,Rb 85 3 []),(7,Rb 87 2 []),(8,Rb 76 5 [])] (sq (bE h fun zA zL h=>r2 [iJ 1 { ids:=[4] } ([Pp 4,Ii 64]:List AV) (SM F (⟨zE,false⟩:v5) (64:Int) zA zL)] [] [(6,Ii zA.1)] [] [(4,Vb 72 (tM zA.2))] 9 (sq (s0 [] [(7,Ii 0)] (bE h fun zD zX h=>?_)))));refine xR (mk [(2,Pp 0),(4,Pp 4),(5,Pp 5)] [(0,qW),(1,Rb 85 3 []),(2,Rb 87 2 []),(3,Rb 76 5 []),(4,Vb 72 [Sb zD.1,.bool zD.2.1]),(5,Vb 28 [.own 6 ((zD.2.2).length),.own 7 0,.own 8 0]),(6,Rb 85 3 (Mp yD zD.2.2)),(7,Rb 87 2 []),(8,Rb 76 5 [])] 9) ?_ ?_
 ·replace h:=zX;refine yN (id:=0) zk ?_;refine w0 [0,1,2,3,4,5,6,7,8] [] [(2,Pp 0),(4,Pp 4),(5,Pp 5),(6,Ii zA.1),(7,Ii 0)] [(0,qW),(1,Rb 85 3 []),(2,Rb 87 2 []),(3,Rb 76 5 []),(4,Vb 72 (tM zA.2)),(5,Vb 28 [.own 6 0,.own 7 0,.own 8 0]),(6,Rb 85 3 []),(7,Rb 87 2 []),(8,Rb 76 5 [])] ?_;refine wC (fun n st=>∃ (zP:Int),∃ (zB:List Int),∃ (y5:Bool),∃ (zF:List y7),st=mk [(2,Pp 0),(4,Pp 4),(5,Pp 5),(6,Ii zA.1),(7,Ii zP)] [(0,qW),(1,Rb 85 3 []),(2,Rb 87 2 []),(3,Rb 76 5 []),(4,Vb 72 [Sb zB,.bool y5]),(5,Vb 28 [.own 6 ((zF).length),.own 7 0,.own 8 0]),(6,Rb 85 3 (Mp yD zF)),(7,Rb 87 2 []),(8,Rb 76 5 [])] 9∧AN F zA n zP zB y5 zF=some zD) F zk ⟨_,_,_,_,rfl,h⟩ ?_ ?_
  ·rintro _ ⟨_,_,_,_,_,h⟩;exact wB (h:(none:Option ((List Int)×Bool×(List y7)))=some zD)
  rintro z7 _ ⟨zP,zB,y5,zF,rfl,h⟩;replace h:oG F zA (AN F zA z7) zP zB y5 zF=some zD:=h;unfold oG at h;refine sq (ad 26 h ?_ ?_ ?_)
  ·rcases bft (decide (zP<zA.1)) with yK | yK
   ·exact rm [iH 9 Ht,iR 6 yK] (v9 yK rfl)
   ·exact rm [iG 4 5,iH 9 Hf,iR 6 yK] (u5 yK)
  rotate_left
  ·intro yC h;refine x8 (id:=0) zk ?_;cases h;exact ⟨rfl,(sw [0,1,2,3,4,5,6,7,8] [] [.s 2,.s 4,.s 5] [.s 0,.s 1,.s 2,.s 3,.s 4,.s 5,.s 6,.s 7,.s 8] an)⟩
  intro yC h;refine sk (sq ?_);refine yN (id:=1) zk ?_;refine sq (bE h fun zC yQ h=>r2 [iH 3 { id:=9 },iJ 1 { ids:=[4] } ([Pp 4]:List AV) (aQ F (⟨zB,y5⟩:v5) zC yQ)] [] [(8,Pp 9)] [] [(4,Vb 72 (tM zC.2)),(9,Vb 85 [Ii zC.1,.str ([]:List Int),Ii 0])] 10 (sq (bE h fun zJ y9 h=>r2 [iJ 1 { ids:=[4] } ([Pp 4]:List AV) (zCQ F zC.2 zJ y9)] [] [] [] [(4,Vb 72 (tM zJ.2)),(9,Vb 85 [Ii zC.1,.str zJ.1,Ii 0])] 10 (sq (bE h fun zS xS h=>r2 [iJ 1 { ids:=[4] } ([Pp 4]:List AV) (aQ F zJ.2 zS xS)] [] [] [] [(4,Vb 72 (tM zS.2)),(9,Vb 85 [Ii zC.1,.str zJ.1,Ii zS.1])] 10 (nE h fun wA h=>r2 [iH 3 { id:=10 },iH 4 { id:=11,l:=(Mp yD (zF++([(⟨zC.1,zJ.1,zS.1⟩:y7)]:List y7))),n:=((zF++([(⟨zC.1,zJ.1,zS.1⟩:y7)]:List y7))).length },iM yD zF,iC (by first | (simp;done) | (simp;omega):1=((List.map yD ([(⟨zC.1,zJ.1,zS.1⟩:y7)]:List y7))).length),iC (uE _ _:(Mp yD (zF++([(⟨zC.1,zJ.1,zS.1⟩:y7)]:List y7)))=(Mp yD zF)++(Mp yD ([(⟨zC.1,zJ.1,zS.1⟩:y7)]:List y7))),iC (by simp:((zF++([(⟨zC.1,zJ.1,zS.1⟩:y7)]:List y7))).length=((List.map yD (zF++([(⟨zC.1,zJ.1,zS.1⟩:y7)]:List y7)))).length),iC (by first | (simp;done) | simpa using wA:(((List.map yD zF):List AV).length+((List.map yD ([(⟨zC.1,zJ.1,zS.1⟩:y7)]:List y7)):List AV).length) * 32≤140737488355328)] [8] [] [6,9] [(5,Vb 28 [.own 11 (((zF++([(⟨zC.1,zJ.1,zS.1⟩:y7)]:List y7))).length),.own 7 0,.own 8 0]),(11,Rb 85 3 (Mp yD (zF++([(⟨zC.1,zJ.1,zS.1⟩:y7)]:List y7))))] 12 (r0 [] [(7,Ii (zG (zP+(1:Int))))] ?_)))))));exact ⟨_,(sw [0,1,2,3,4,5,11,7,8] [] [.s 2,.s 4,.s 5,.s 6,.s 7] [.s 0,.s 1,.s 2,.s 3,.s 4,.s 5,.s 6,.s 7,.s 8] an),_,_,_,_,rfl,h⟩
 refine sq (bE h fun zV wP h=>r2 [iJ 1 { ids:=[4] } ([Pp 4,Ii 8]:List AV) (SM F (⟨zD.1,zD.2.1⟩:v5) (8:Int) zV wP)] [] [(6,Ii zV.1)] [] [(4,Vb 72 (tM zV.2))] 9 (sq (s0 [] [(9,Ii 0)] (bE h fun zR vA h=>?_))));refine xR (mk [(2,Pp 0),(4,Pp 4),(5,Pp 5)] [(0,qW),(1,Rb 85 3 []),(2,Rb 87 2 []),(3,Rb 76 5 []),(4,Vb 72 [Sb zR.1,.bool zR.2.1]),(5,Vb 28 [.own 6 ((zD.2.2).length),.own 7 ((zR.2.2).length),.own 8 0]),(6,Rb 85 3 (Mp yD zD.2.2)),(7,Rb 87 2 (Mp z5 zR.2.2)),(8,Rb 76 5 [])] 9) ?_ ?_
 ·replace h:=vA;refine yN (id:=2) zk ?_;refine w0 [0,1,2,3,4,5,6,7,8] [] [(2,Pp 0),(4,Pp 4),(5,Pp 5),(6,Ii zV.1),(9,Ii 0)] [(0,qW),(1,Rb 85 3 []),(2,Rb 87 2 []),(3,Rb 76 5 []),(4,Vb 72 (tM zV.2)),(5,Vb 28 [.own 6 ((zD.2.2).length),.own 7 0,.own 8 0]),(6,Rb 85 3 (Mp yD zD.2.2)),(7,Rb 87 2 []),(8,Rb 76 5 [])] ?_;refine wC (fun n st=>∃ (xH:Int),∃ (y6:List Int),∃ (yX:Bool),∃ (zY:List yS),st=mk [(2,Pp 0),(4,Pp 4),(5,Pp 5),(6,Ii zV.1),(9,Ii xH)] [(0,qW),(1,Rb 85 3 []),(2,Rb 87 2 []),(3,Rb 76 5 []),(4,Vb 72 [Sb y6,.bool yX]),(5,Vb 28 [.own 6 ((zD.2.2).length),.own 7 ((zY).length),.own 8 0]),(6,Rb 85 3 (Mp yD zD.2.2)),(7,Rb 87 2 (Mp z5 zY)),(8,Rb 76 5 [])] 9∧BK F zV n xH y6 yX zY=some zR) F zk ⟨_,_,_,_,rfl,h⟩ ?_ ?_
  ·rintro _ ⟨_,_,_,_,_,h⟩;exact wB (h:(none:Option ((List Int)×Bool×(List yS)))=some zR)
  rintro uI _ ⟨xH,y6,yX,zY,rfl,h⟩;replace h:mH F zV (BK F zV uI) xH y6 yX zY=some zR:=h;unfold mH at h;refine sq (ad 55 h ?_ ?_ ?_)
  ·rcases bft (decide (xH<zV.1)) with wD | wD
   ·exact rm [iH 9 Ht,iR 6 wD] (v9 wD rfl)
   ·exact rm [iG 4 5,iH 9 Hf,iR 6 wD] (u5 wD)
  rotate_left
  ·intro yY h;refine x8 (id:=2) zk ?_;cases h;exact ⟨rfl,(sw [0,1,2,3,4,5,6,7,8] [] [.s 2,.s 4,.s 5] [.s 0,.s 1,.s 2,.s 3,.s 4,.s 5,.s 6,.s 7,.s 8] an)⟩
  intro yY h;refine sk (sq ?_);refine yN (id:=3) zk ?_;refine sq (bE h fun yA vN h=>r2 [iH 3 { id:=9 },iJ 1 { ids:=[4] } ([Pp 4]:List AV) (aQ F (⟨y6,yX⟩:v5) yA vN)] [] [(10,Pp 9)] [] [(4,Vb 72 (tM yA.2)),(9,Vb 87 [Ii yA.1,Ii 0])] 10 (sq (bE h fun yV uG h=>r2 [iJ 1 { ids:=[4] } ([Pp 4]:List AV) (aQ F yA.2 yV uG)] [] [] [] [(4,Vb 72 (tM yV.2)),(9,Vb 87 [Ii yA.1,Ii yV.1])] 10 (nE h fun uJ h=>r2 [iH 3 { id:=10 },iH 4 { id:=11,l:=(Mp z5 (zY++([(⟨yA.1,yV.1⟩:yS)]:List yS))),n:=((zY++([(⟨yA.1,yV.1⟩:yS)]:List yS))).length },iM z5 zY,iC (by first | (simp;done) | (simp;omega):1=((List.map z5 ([(⟨yA.1,yV.1⟩:yS)]:List yS))).length),iC (uE _ _:(Mp z5 (zY++([(⟨yA.1,yV.1⟩:yS)]:List yS)))=(Mp z5 zY)++(Mp z5 ([(⟨yA.1,yV.1⟩:yS)]:List yS))),iC (by simp:((zY++([(⟨yA.1,yV.1⟩:yS)]:List yS))).length=((List.map z5 (zY++([(⟨yA.1,yV.1⟩:yS)]:List yS)))).length),iC (by first | (simp;done) | simpa using uJ:(((List.map z5 zY):List AV).length+((List.map z5 ([(⟨yA.1,yV.1⟩:yS)]:List yS)):List AV).length) * 16≤140737488355328)] [10] [] [7,9] [(5,Vb 28 [.own 6 ((zD.2.2).length),.own 11 (((zY++([(⟨yA.1,yV.1⟩:yS)]:List yS))).length),.own 8 0]),(11,Rb 87 2 (Mp z5 (zY++([(⟨yA.1,yV.1⟩:yS)]:List yS))))] 12 (r0 [] [(9,Ii (zG (xH+(1:Int))))] ?_)))));exact ⟨_,(sw [0,1,2,3,4,5,6,11,8] [] [.s 2,.s 4,.s 5,.s 6,.s 9] [.s 0,.s 1,.s 2,.s 3,.s 4,.s 5,.s 6,.s 7,.s 8] an),_,_,_,_,rfl,h⟩
 refine sq (bE h fun yI tB h=>r2 [iJ 1 { ids:=[4] } ([Pp 4,Ii 200]:List AV) (SM F (⟨zR.1,zR.2.1⟩:v5) (200:Int) yI tB)] [] [(6,Ii yI.1)] [] [(4,Vb 72 (tM yI.2))] 9 (sq (s0 [] [(11,Ii 0)] (bE h fun yL tP h=>?_))));refine xR (mk [(2,Pp 0),(4,Pp 4),(5,Pp 5)] [(0,qW),(1,Rb 85 3 []),(2,Rb 87 2 []),(3,Rb 76 5 []),(4,Vb 72 [Sb yL.1,.bool yL.2.1]),(5,Vb 28 [.own 6 ((zD.2.2).length),.own 7 ((zR.2.2).length),.own 8 ((yL.2.2).length)]),(6,Rb 85 3 (Mp yD zD.2.2)),(7,Rb 87 2 (Mp z5 zR.2.2)),(8,Rb 76 5 (Mp z6 yL.2.2))] 9) ?_ ?_
 ·replace h:=tP;refine yN (id:=4) zk ?_;refine w0 [0,1,2,3,4,5,6,7,8] [] [(2,Pp 0),(4,Pp 4),(5,Pp 5),(6,Ii yI.1),(11,Ii 0)] [(0,qW),(1,Rb 85 3 []),(2,Rb 87 2 []),(3,Rb 76 5 []),(4,Vb 72 (tM yI.2)),(5,Vb 28 [.own 6 ((zD.2.2).length),.own 7 ((zR.2.2).length),.own 8 0]),(6,Rb 85 3 (Mp yD zD.2.2)),(7,Rb 87 2 (Mp z5 zR.2.2)),(8,Rb 76 5 [])] ?_;refine wC (fun n st=>∃ (vY:Int),∃ (xB:List Int),∃ (xE:Bool),∃ (yG:List yU),st=mk [(2,Pp 0),(4,Pp 4),(5,Pp 5),(6,Ii yI.1),(11,Ii vY)] [(0,qW),(1,Rb 85 3 []),(2,Rb 87 2 []),(3,Rb 76 5 []),(4,Vb 72 [Sb xB,.bool xE]),(5,Vb 28 [.own 6 ((zD.2.2).length),.own 7 ((zR.2.2).length),.own 8 ((yG).length)]),(6,Rb 85 3 (Mp yD zD.2.2)),(7,Rb 87 2 (Mp z5 zR.2.2)),(8,Rb 76 5 (Mp z6 yG))] 9∧rJ F yI n vY xB xE yG=some yL) F zk ⟨_,_,_,_,rfl,h⟩ ?_ ?_
  ·rintro _ ⟨_,_,_,_,_,h⟩;exact wB (h:(none:Option ((List Int)×Bool×(List yU)))=some yL)
  rintro qC _ ⟨vY,xB,xE,yG,rfl,h⟩;replace h:lC F yI (rJ F yI qC) vY xB xE yG=some yL:=h;unfold lC at h;refine sq (ad 81 h ?_ ?_ ?_)
  ·rcases bft (decide (vY<yI.1)) with wL | wL
   ·exact rm [iH 9 Ht,iR 6 wL] (v9 wL rfl)
   ·exact rm [iG 4 5,iH 9 Hf,iR 6 wL] (u5 wL)
  rotate_left
  ·intro xF h;refine x8 (id:=4) zk ?_;cases h;exact ⟨rfl,(sw [0,1,2,3,4,5,6,7,8] [] [.s 2,.s 4,.s 5] [.s 0,.s 1,.s 2,.s 3,.s 4,.s 5,.s 6,.s 7,.s 8] an)⟩
  intro xF h;refine sk (sq ?_);refine yN (id:=5) zk ?_;refine bE h fun yO uY h=>nE h fun qS h=>r2 [iH 4 { id:=9 },iH 5 { id:=10,l:=(Mp z6 (yG++([yO.1]:List yU))),n:=((yG++([yO.1]:List yU))).length },iJ 3 { ids:=[4] } ([Pp 4]:List AV) (WC F (⟨xB,xE⟩:v5) yO uY),iM z6 yG,iA 1,iC (uE _ _:(Mp z6 (yG++([yO.1]:List yU)))=(Mp z6 yG)++(Mp z6 ([yO.1]:List yU))),iC (by simp:((yG++([yO.1]:List yU))).length=((List.map z6 (yG++([yO.1]:List yU)))).length),iC (by first | (simp;done) | simpa using qS:(((List.map z6 yG):List AV).length+((List.map z6 ([yO.1]:List yU)):List AV).length) * 40≤140737488355328)] [] [] [8] [(4,Vb 72 (tM yO.2)),(5,Vb 28 [.own 6 ((zD.2.2).length),.own 7 ((zR.2.2).length),.own 10 (((yG++([yO.1]:List yU))).length)]),(10,Rb 76 5 (Mp z6 (yG++([yO.1]:List yU))))] 11 (r0 [] [(11,Ii (zG (vY+(1:Int))))] ?_);exact ⟨_,(sw [0,1,2,3,4,5,6,7,10] [] [.s 2,.s 4,.s 5,.s 6,.s 11] [.s 0,.s 1,.s 2,.s 3,.s 4,.s 5,.s 6,.s 7,.s 8] an),_,_,_,_,rfl,h⟩
 refine sq (bE h fun zK kC h=>?_);refine xR (mk [(2,Pp 0),(3,.bool zK)] [(0,Vb 28 [.own 1 ((zD.2.2).length),.own 2 ((zR.2.2).length),.own 3 ((yL.2.2).length)]),(1,Rb 85 3 (Mp yD zD.2.2)),(2,Rb 87 2 (Mp z5 zR.2.2)),(3,Rb 76 5 (Mp z6 yL.2.2))] 4) ?_ ?_
 ·replace h:=kC;rcases bft (!yL.2.1) with wO | wO
  ·replace h:=xK wO h;rcases bft ((lN (yL.1))==(0:Int)) with uA | uA
   ·replace h:=xK uA h;refine bE h fun xL qT h=>r2 [iH 13 Ht,iH 18 Ht,iR 5 wO,iN 11 Fb yL.1,iR 2 wO,iR 2 uA,iM yD zD.2.2,iM z5 zR.2.2,iM z6 yL.2.2,iL 16 { lend:=[6,7,8] } [.agg [Sq 3 yD zD.2.2,Sq 2 z5 zR.2.2,Sq 5 z6 yL.2.2]] (Y6 F (⟨zD.2.2,zR.2.2,yL.2.2⟩:yF) xL qT) ⟨rfl,rfl,rfl,rfl,rfl,rfl,rfl,rfl,rfl,trivial⟩,iR 2 uA] [4,5] [(3,.bool (xL==(0:Int)))] [1,2,3,4,5] [(0,Vb 28 [.own 6 ((zD.2.2).length),.own 7 ((zR.2.2).length),.own 8 ((yL.2.2).length)])] 9 ?_;cases h;exact ⟨rfl,(sw [0,6,7,8] [] [.s 2,.s 3] [.s 0,.s 1,.s 2,.s 3] an)⟩
   ·replace h:=xJ uA h;refine r2 [iH 13 Ht,iG 15 3,iH 18 Hf,iR 5 wO,iN 11 Fb yL.1,iR 2 wO,iR 4 uA] [4,5] [(3,.bool false)] [1,2,3,4,5] [(0,Vb 28 [.own 6 ((zD.2.2).length),.own 7 ((zR.2.2).length),.own 8 ((yL.2.2).length)])] 9 ?_;cases h;exact ⟨rfl,(sw [0,6,7,8] [] [.s 2,.s 3] [.s 0,.s 1,.s 2,.s 3] an)⟩
  ·replace h:=xJ wO h;refine r2 [iG 7 6,iH 13 Hf,iG 15 3,iH 18 Hf,iR 7 wO,iZ,iZ,iZ,iA false] [4,5] [(3,.bool false)] [1,2,3,4,5] [(0,Vb 28 [.own 6 ((zD.2.2).length),.own 7 ((zR.2.2).length),.own 8 ((yL.2.2).length)])] 9 ?_;cases h;exact ⟨rfl,(sw [0,6,7,8] [] [.s 2,.s 3] [.s 0,.s 1,.s 2,.s 3] an)⟩
 refine wz [0] [1,2,3] [] [0] [(2,Pp 0),(3,.bool zK)] [(0,Vb 28 (w6 (⟨zD.2.2,zR.2.2,yL.2.2⟩:yF)))] (ar 28 (ar true (ac (by first | (simp;done) | (simp;omega):(zD.2.2).length=((List.map yD zD.2.2)).length) (ac (by first | (simp;done) | (simp;omega):(zR.2.2).length=((List.map z5 zR.2.2)).length) (ac (by first | (simp;done) | (simp;omega):(yL.2.2).length=((List.map z6 yL.2.2)).length) (ar 3 (ar (Mp yD zD.2.2) (ar true (ar 2 (ar (Mp z5 zR.2.2) (ar true (ar 5 (ar (Mp z6 yL.2.2) (ar true an)))))))))))))) ?_;cases h;exact rt rx
theorem BV (F:Nat) (zB:vP) (r:Int×vP) (h:aL F zB=some r):yR prog 120 [(.var 124 (u6 zB))] [] [Pp 0] [(.var 124 (u6 r.2))] (Ii r.1):=by
 refine tI Go.Proofs.Tryz.f120 ?_;unfold aL at h;refine sE [] [(0,Pp 0)] [(0,Vb 124 (u6 zB))] 1 (sq (c0 [] 10 h [] ?_ ?_))
 ·intro yC h;refine s1 [] [0] [(2,Ii 0)] ?_;cases h;exact rt rx
 intro yC h;refine sk (sq (nE h fun zL h=>bE h fun zA zX h=>r0 [iT 8 Fb zB.B zB.At zL.1 zL.2,iK 9 {} (L8 F (sub zB.B zB.At (lN (zB.B))) zA zX)] [(3,Ii zA.1),(4,Ii zA.2.1),(5,Ii zA.2.2)] (s2 [] [] [] [] [(0,Vb 124 [Sb zB.B,Ii (zG (zB.At+zA.2.1)),Ii zB.E])] 1 (s2 [] [0] [] [] [(0,Vb 124 [Sb zB.B,Ii (zG (zB.At+zA.2.1)),Ii zA.2.2])] 1 (s0 [] [(2,Ii zA.1)] ?_)))));cases h;exact rt rx
theorem R4 (F:Nat) (zB:vP) (tA:Int) (r:Int×vP) (h:bW F zB tA=some r):yR prog 121 [(.var 124 (u6 zB))] [] [Pp 0,Ii tA] [(.var 124 (u6 r.2))] (Ii r.1):=by
 refine tI Go.Proofs.Tryz.f121 ?_;unfold bW at h;refine sE [] [(0,Pp 0),(1,Ii tA)] [(0,Vb 124 (u6 zB))] 1 (sq (bE h fun zA zL h=>r2 [iK 1 { ids:=[0] } (BV F zB zA zL)] [] [(5,Ii zA.1)] [] [(0,Vb 124 (u6 zA.2))] 1 (sq ?_)));refine yN (id:=0) zk ?_;refine c0 [] 8 h [] ?_ ?_
 ·intro yC h;refine s1 [] [0] [(4,Ii 0)] ?_;cases h;exact rt rx
 intro yC h;refine c0 [] 14 h [] ?_ ?_
 ·intro yY h;refine s2 [] [0] [] [] [(0,Vb 124 [Sb zA.2.B,Ii zA.2.At,Ii 10])] 1 (s0 [] [(4,Ii 0)] ?_);cases h;exact rt rx
 intro yY h;refine c0 [] 20 h [] ?_ ?_
 rotate_left
 ·intro xF h;refine sk (s1 [] [0] [(4,Ii zA.1)] ?_);cases h;exact rt rx
 intro xF h;refine s2 [] [0] [] [] [(0,Vb 124 [Sb zA.2.B,Ii zA.2.At,Ii 7])] 1 (s0 [] [(4,Ii 0)] ?_);cases h;exact rt rx
theorem zAm (F:Nat) (zB:vP) (r:(List Int)×vP) (h:HD F zB=some r):yR prog 122 [(.var 124 (u6 zB))] [] [Pp 0] [(.var 124 (u6 r.2))] (.str r.1):=by
 refine tI Go.Proofs.Tryz.f122 ?_;unfold HD at h;refine sE [] [(0,Pp 0)] [(0,Vb 124 (u6 zB))] 1 (sq (c0 [] 10 h [] ?_ ?_))
 ·intro yC h;refine s1 [] [0] [(2,.str ([]:List Int))] ?_;cases h;exact rt rx
 intro yC h;refine sk (sq (nE h fun zL h=>bE h fun zA zX h=>r0 [iT 8 Fb zB.B zB.At zL.1 zL.2,iK 9 {} (U6 F (sub zB.B zB.At (lN (zB.B))) (40:Int) zA zX)] [(3,.str zA.1),(4,Ii zA.2.1),(5,Ii zA.2.2)] (s2 [] [] [] [] [(0,Vb 124 [Sb zB.B,Ii (zG (zB.At+zA.2.1)),Ii zB.E])] 1 (s2 [] [0] [] [] [(0,Vb 124 [Sb zB.B,Ii (zG (zB.At+zA.2.1)),Ii zA.2.2])] 1 (s0 [] [(2,.str zA.1)] ?_)))));cases h;exact rt rx
theorem WK (F:Nat) (zO:List (List Int)) (zI:List Int) (r:Int) (h:rK F zO zI=some r):yR prog 147 [] [] [Ss zO,.str zI] [] (Ii r):=by
 refine tI Go.Proofs.Tryz.f147 ?_;unfold rK at h;refine sE [] [(0,Ss zO),(1,.str zI)] [] 0 (sq (s0 [] [(5,Ii 0)] (bE h fun zD zL h=>?_)));refine vD (K1:=(fun e st'=>match zD with | (.inl q0)=>e=.normal∧Sub 0 st' (mk [] [] 0) | (.inr q1)=>e=.ret∧vE prog Go.Proofs.Tryz.f147 0 [] (Ii q1) st')) ?_ ?_
 ·replace h:=zL;refine yN (id:=0) zk ?_;refine w0 [] [] [(0,Ss zO),(1,.str zI),(5,Ii 0)] [] ?_;refine wC (fun n st=>∃ (zP:Int),st=mk [(0,Ss zO),(1,.str zI),(5,Ii zP)] [] 0∧E6 F zO zI n zP=some zD) F zk ⟨_,rfl,h⟩ ?_ ?_
  ·rintro _ ⟨_,_,h⟩;exact wB (h:(none:Option (Unit⊕Int))=some zD)
  rintro z7 _ ⟨zP,rfl,h⟩;replace h:gT F zO zI (E6 F zO zI z7) zP=some zD:=h;unfold gT at h;refine sq (c0 [iN 2 AV.str zO] 9 h [] ?_ ?_)
  rotate_left
  ·intro yC h;refine x8 (id:=0) zk ?_;cases h;exact ⟨rfl,(sw [] [] [] [] an)⟩
  intro yC h;refine sk (sq ?_);refine yN (id:=1) zk ?_;refine sq (bE h fun zH zX h=>r0 [iF 2 AV.str zX] [(17,.bool (zH==zI))] (ch 17 h ?_ ?_))
  rotate_left
  ·intro yY h;refine sk (r0 [] [(5,Ii (zG (zP+(1:Int))))] ?_);exact ⟨_,(sw [] [] [.s 0,.s 1,.s 5] [] an),_,rfl,h⟩
  intro yY h;refine s1 [] [0] [(4,Ii zP)] ?_;cases h;exact rt ry
 intro e st1 hk;rcases zD with zZ | xD
 rotate_left
 ·obtain ⟨rfl,hf⟩:=hk;cases h;exact ⟨st1,Sub.refl _ _,.inr rfl,hf⟩
 obtain ⟨rfl,hs⟩:=hk;refine ⟨_,hs,?_⟩;refine s0 [] [(4,Ii (-1))] ?_;cases h;exact rt rx
theorem UJ (F:Nat) (zO:List (zQ)) (zK:zQ) (r:Int) (h:BO F zO zK=some r):yR prog 148 [] [] [Sq 2 yB zO,.agg [Ii zK.c0,Ii zK.c1]] [] (Ii r):=by
 refine tI Go.Proofs.Tryz.f148 ?_;unfold BO at h;refine sE [iH 0 { id:=0 }] [(0,Sq 2 yB zO),(3,Pp 0)] [(0,Vb 144 [Ii zK.c0,Ii zK.c1])] 1 (sq (s0 [] [(5,Ii 0)] (bE h fun zD zL h=>?_)));refine vD (K1:=(fun e st'=>match zD with | (.inl q0)=>e=.normal∧Sub 0 st' (mk [] [] 0) | (.inr q1)=>e=.ret∧vE prog Go.Proofs.Tryz.f148 0 [] (Ii q1) st')) ?_ ?_
 ·replace h:=zL;refine yN (id:=0) zk ?_;refine w0 [0] [] [(0,Sq 2 yB zO),(3,Pp 0),(5,Ii 0)] [(0,Vb 144 [Ii zK.c0,Ii zK.c1])] ?_;refine wC (fun n st=>∃ (zP:Int),st=mk [(0,Sq 2 yB zO),(3,Pp 0),(5,Ii zP)] [(0,Vb 144 [Ii zK.c0,Ii zK.c1])] 1∧E4 F zO zK n zP=some zD) F zk ⟨_,rfl,h⟩ ?_ ?_
  ·rintro _ ⟨_,_,h⟩;exact wB (h:(none:Option (Unit⊕Int))=some zD)
  rintro z7 _ ⟨zP,rfl,h⟩;replace h:lT F zO zK (E4 F zO zK z7) zP=some zD:=h;unfold lT at h;refine sq (c0 [iN 2 yB zO] 9 h [] ?_ ?_)
  rotate_left
  ·intro yC h;refine x8 (id:=0) zk ?_;cases h;exact ⟨rfl,(sw [] [] [] [] an)⟩
  intro yC h;refine sk (sq ?_);refine yN (id:=1) zk ?_;refine sq (bE h fun zH zX h=>r0 [iH 5 { b:=(decide (zH=zK)),mks:=[.int .i64,.int .i64] },iF 2 yB zX,iC (W2:pJ prog 144 [.int .i64,.int .i64]),iC (o4 (f:=yB) LE zH zK:((decide (zH=zK))=true↔AV.agg [Ii zH.c0,Ii zH.c1]=AV.agg [Ii zK.c0,Ii zK.c1]))] [(17,.bool (decide (zH=zK)))] (ch 17 h ?_ ?_))
  rotate_left
  ·intro yY h;refine sk (r0 [] [(5,Ii (zG (zP+(1:Int))))] ?_);exact ⟨_,(sw [0] [] [.s 0,.s 3,.s 5] [.s 0] an),_,rfl,h⟩
  intro yY h;refine s2 [] [0,3] [(4,Ii zP)] [0] [] 1 ?_;cases h;exact rt ry
 intro e st1 hk;rcases zD with zZ | xD
 rotate_left
 ·obtain ⟨rfl,hf⟩:=hk;cases h;exact ⟨st1,Sub.refl _ _,.inr rfl,hf⟩
 obtain ⟨rfl,hs⟩:=hk;refine ⟨_,hs,?_⟩;refine s0 [] [(4,Ii (-1))] ?_;cases h;exact rt rx
theorem YS (F:Nat) (z0:List (zQ)) (zP:Int) (r:Int) (h:LG F z0 zP=some r):yR prog 149 [] [] [Sq 2 yB z0,Ii zP] [] (Ii r):=by
 refine tI Go.Proofs.Tryz.f149 ?_;unfold LG at h;refine sE [] [(0,Sq 2 yB z0),(1,Ii zP)] [] 0 (s0 [] [(5,Ii 0)] (sq (bE h fun zD zL h=>?_)));refine xR (mk [(5,Ii zD)] [] 0) ?_ ?_
 ·replace h:=zL;refine yN (id:=0) zk ?_;refine w0 [] [] [(0,Sq 2 yB z0),(1,Ii zP),(5,Ii 0)] [] ?_;refine wC (fun n st=>∃ (xH:Int),∃ (z7:Int),st=mk [(0,Sq 2 yB z0),(1,Ii xH),(5,Ii z7)] [] 0∧BM F z0 n xH z7=some zD) F zk ⟨_,_,rfl,h⟩ ?_ ?_
  ·rintro _ ⟨_,_,_,h⟩;exact wB (h:(none:Option Int)=some zD)
  rintro uI _ ⟨xH,z7,rfl,h⟩;replace h:l8 F z0 (BM F z0 uI) xH z7=some zD:=h;unfold l8 at h;refine sq (c0 [] 7 h [] ?_ ?_)
  rotate_left
  ·intro yC h;refine x8 (id:=0) zk ?_;cases h;exact ⟨rfl,(sw [] [] [.s 5] [] an)⟩
  intro yC h;refine sk ?_;refine yN (id:=1) zk ?_;refine s0 [] [(5,Ii (zG (z7+(1:Int))))] (bE h fun zH zX h=>r0 [iF 2 yB zX,i0,iC (by decide:(0:Int)<((2:Nat):Int))] [(1,Ii zH.c0)] ?_);exact ⟨_,(sw [] [] [.s 0,.s 1,.s 5] [] an),_,_,rfl,h⟩
 refine s0 [] [(4,Ii zD)] ?_;cases h;exact rt rx
theorem MJ (F:Nat) (zW:List (List Int)) (z0:List (zQ)) (r:Int) (h:nS F zW z0=some r):yR prog 123 [] [] [Ss zW,Sq 2 yB z0] [] (Ii r):=by
 refine tI Go.Proofs.Tryz.f123 ?_;unfold nS at h;refine sE [] [(0,Ss zW),(1,Sq 2 yB z0)] [] 0 (sq (ad 15 h ?_ ?_ ?_))
 ·rcases bft (decide ((lN (zW))>(1000:Int))) with zT | zT
  ·exact rm [iG 4 3,iH 7 Ht,iN 1 AV.str zW,iR 4 zT] (ort zT)
  ·exact rm [iH 7 Hf,iN 1 AV.str zW,iR 2 zT,iN 5 yB z0,iR 2 zT] (orf zT rfl)
 ·intro yC h;refine s1 [] [0,1] [(4,Ii 7)] ?_;cases h;exact rt rx
 intro yC h;refine sk (sq (s0 [] [(5,Ii 0)] (bE h fun zD zL h=>?_)));refine vD (K1:=(fun e st'=>match zD with | (.inl q0)=>e=.normal∧Sub 0 st' (mk [(0,Ss zW),(1,Sq 2 yB z0)] [] 0) | (.inr q1)=>e=.ret∧vE prog Go.Proofs.Tryz.f123 0 [] (Ii q1) st')) ?_ ?_
 ·replace h:=zL;refine yN (id:=0) zk ?_;refine w0 [] [] [(0,Ss zW),(1,Sq 2 yB z0),(5,Ii 0)] [] ?_;refine wC (fun n st=>∃ (zP:Int),st=mk [(0,Ss zW),(1,Sq 2 yB z0),(5,Ii zP)] [] 0∧o5 F zW n zP=some zD) F zk ⟨_,rfl,h⟩ ?_ ?_
  ·rintro _ ⟨_,_,h⟩;exact wB (h:(none:Option (Unit⊕Int))=some zD)
  rintro z7 _ ⟨zP,rfl,h⟩;replace h:gS F zW (o5 F zW z7) zP=some zD:=h;unfold gS at h;refine sq (c0 [iN 2 AV.str zW] 19 h [] ?_ ?_)
  rotate_left
  ·intro yY h;refine x8 (id:=0) zk ?_;cases h;exact ⟨rfl,(sw [] [] [.s 0,.s 1] [] an)⟩
  intro yY h;refine sk (sq ?_);refine yN (id:=1) zk ?_;refine sq (sq (bE h fun zH zX h=>bE h fun zA yQ h=>r0 [iF 2 AV.str zX,iK 4 {} (E7 F zH zA yQ)] [(27,.bool (zA != (0:Int)))] (ch 27 h ?_ ?_)))
  ·intro xF h;refine s1 [] [0,1] [(4,Ii 3)] ?_;cases h;exact rt ry
  intro xF h;refine sk (sq (nE h fun y9 h=>bE h fun yH xS h=>bE h fun zC wA h=>r0 [iS 2 AV.str zW (0:Int) zP (by decide) y9.1 y9.2,iF 5 AV.str xS,iK 7 {} (WK F (sub zW (0:Int) zP) yH zC wA)] [(36,.bool (decide (zC≥(0:Int))))] (ch 36 h ?_ ?_)))
  rotate_left
  ·intro wV h;refine sk (r0 [] [(5,Ii (zG (zP+(1:Int))))] ?_);exact ⟨_,(sw [] [] [.s 0,.s 1,.s 5] [] an),_,rfl,h⟩
  intro wV h;refine s1 [] [0,1] [(4,Ii 4)] ?_;cases h;exact rt ry
 intro e st1 hk;rcases zD with zZ | xD
 rotate_left
 ·obtain ⟨rfl,hf⟩:=hk;cases h;exact ⟨st1,Sub.refl _ _,.inr rfl,hf⟩
 obtain ⟨rfl,hs⟩:=hk;refine ⟨_,hs,?_⟩;refine sq (s0 [] [(6,Ii 0)] (bE h fun zR wP h=>?_));refine vD (K1:=(fun e st'=>match zR with | (.inl q0)=>e=.normal∧Sub 0 st' (mk [] [] 0) | (.inr q1)=>e=.ret∧vE prog Go.Proofs.Tryz.f123 0 [] (Ii q1) st')) ?_ ?_
 ·replace h:=wP;refine yN (id:=2) zk ?_;refine w0 [] [] [(0,Ss zW),(1,Sq 2 yB z0),(6,Ii 0)] [] ?_;refine wC (fun n st=>∃ (xH:Int),st=mk [(0,Ss zW),(1,Sq 2 yB z0),(6,Ii xH)] [] 0∧B8 F zW z0 n xH=some zR) F zk ⟨_,rfl,h⟩ ?_ ?_
  ·rintro _ ⟨_,_,h⟩;exact wB (h:(none:Option (Unit⊕Int))=some zR)
  rintro uI _ ⟨xH,rfl,h⟩;replace h:DS F zW z0 (B8 F zW z0 uI) xH=some zR:=h;unfold DS at h;refine sq (c0 [iN 2 yB z0] 40 h [] ?_ ?_)
  rotate_left
  ·intro vM h;refine x8 (id:=2) zk ?_;cases h;exact ⟨rfl,(sw [] [] [] [] an)⟩
  intro vM h;refine sk (sq ?_);refine yN (id:=3) zk ?_;refine sq (bE h fun xA vA h=>r2 [iH 4 { id:=0 },iF 2 yB vA] [] [(7,Pp 0)] [] [(0,Vb 144 [Ii xA.c0,Ii xA.c1])] 1 (sq (ad 67 h ?_ ?_ ?_)))
  ·rcases bft (decide (xA.c0<(-1:Int))) with x9 | x9
   ·exact rm [iG 4 4,iH 8 Ht,iG 10 3,iH 13 Ht,iG 15 5,iH 20 Ht,i0,iC (by decide:(0:Int)<((2:Nat):Int)),iR 5 x9,iX 3,iA true,iX 5,iA true] (ort x9)
   ·rcases bft (decide (xA.c0≥xH)) with wL | wL
    ·exact rm [iH 8 Hf,iG 10 3,iH 13 Ht,iG 15 5,iH 20 Ht,i0,iC (by decide:(0:Int)<((2:Nat):Int)),iC x9,i0,iC (by decide:(0:Int)<((2:Nat):Int)),iR 4 x9,iR 4 wL,iX 5,iA true] (orf x9 (ort wL))
    ·rcases bft (decide (xA.c1<(0:Int))) with wO | wO
     ·exact rm [iH 8 Hf,iH 13 Hf,iG 15 5,iH 20 Ht,i0,iC (by decide:(0:Int)<((2:Nat):Int)),iC x9,i0,iC (by decide:(0:Int)<((2:Nat):Int)),iR 4 x9,iC wL,iC (by decide:(0:Int)≤(1:Int)),iC (by decide:(1:Int)<((2:Nat):Int)),iR 3 wL,iR 6 wO] (orf x9 (orf wL (ort wO)))
     ·exact rm [iH 8 Hf,iH 13 Hf,iH 20 Hf,i0,iC (by decide:(0:Int)<((2:Nat):Int)),iC x9,i0,iC (by decide:(0:Int)<((2:Nat):Int)),iR 4 x9,iC wL,iC (by decide:(0:Int)≤(1:Int)),iC (by decide:(1:Int)<((2:Nat):Int)),iR 3 wL,iC wO,iC (by decide:(0:Int)≤(1:Int)),iC (by decide:(1:Int)<((2:Nat):Int)),iR 3 wO,iN 18 AV.str zW,iR 2 wO] (orf x9 (orf wL (orf wO rfl)))
  ·intro uM h;refine s2 [] [0,1,7] [(4,Ii 2)] [0] [] 1 ?_;cases h;exact rt ry
  intro uM h;refine sk (sq (sq (nE h fun vN h=>bE h fun zJ uG h=>r2 [iS 2 yB z0 (0:Int) xH (by decide) vN.1 vN.2,iK 4 {} (UJ F (sub z0 (0:Int) xH) xA zJ uG)] [7] [(73,.bool (decide (zJ≥(0:Int))))] [0] [] 1 (ch 73 h ?_ ?_))))
  ·intro tO h;refine s1 [] [0,1] [(4,Ii 4)] ?_;cases h;exact rt ry
  intro tO h;refine sk (sq (bE h fun zS uJ h=>r0 [iK 2 {} (YS F z0 xH zS uJ)] [(77,.bool (decide (zS>(32:Int))))] (ch 77 h ?_ ?_)))
  rotate_left
  ·intro qR h;refine sk (r0 [] [(6,Ii (zG (xH+(1:Int))))] ?_);exact ⟨_,(sw [] [] [.s 0,.s 1,.s 6] [] an),_,rfl,h⟩
  intro qR h;refine s1 [] [0,1] [(4,Ii 7)] ?_;cases h;exact rt ry
 intro e st1 hk;rcases zR with vG | t5
 rotate_left
 ·obtain ⟨rfl,hf⟩:=hk;cases h;exact ⟨st1,Sub.refl _ _,.inr rfl,hf⟩
 obtain ⟨rfl,hs⟩:=hk;refine ⟨_,hs,?_⟩;refine s0 [] [(4,Ii 0)] ?_;cases h;exact rt rx
theorem XL (F:Nat) (zE:List (Int)) (nC:Int) (r:(List (Int))×Int×Int) (h:gV F zE nC=some r):yR prog 164 [] [] [Sb zE,Ii nC] [.row 3 1 (Mi r.1)] (.tuple [.own 0 ((r.1).length),Ii r.2.1,Ii r.2.2]):=by
 refine tI Go.Proofs.Tryz.f164 ?_;unfold gV at h;refine sE [iH 0 { id:=0,m:=1 }] [(0,Sb zE),(1,Ii nC)] [] 1 (s2 [iH 0 { id:=1,m:=1 }] [] [(7,.own 1 0)] [] [(1,Rb 3 1 [])] 2 (s0 [] [(8,Ii 0)] (sq (s0 [] [(9,Ii 0)] (bE h fun zD zL h=>?_)))));refine vD (K1:=(fun e st'=>match zD with | (.inl q0)=>e=.normal∧Sub 0 st' (mk [(7,.own 0 ((q0.2).length)),(8,Ii q0.1)] [(0,Rb 3 1 (Mi q0.2))] 1) | (.inr q1)=>e=.ret∧vE prog Go.Proofs.Tryz.f164 0 [.row 3 1 (Mi q1.1)] (.tuple [.own 0 ((q1.1).length),Ii q1.2.1,Ii q1.2.2]) st')) ?_ ?_
 ·replace h:=zL;refine yN (id:=0) zk ?_;refine w0 [1] [] [(0,Sb zE),(1,Ii nC),(7,.own 0 0),(8,Ii 0),(9,Ii 0)] [(0,Rb 3 1 [])] ?_;refine wC (fun n st=>∃ (xI:Int),∃ (zP:Int),∃ (zF:List Int),st=mk [(0,Sb zE),(1,Ii nC),(7,.own 0 ((zF).length)),(8,Ii xI),(9,Ii zP)] [(0,Rb 3 1 (Mi zF))] 1∧o7 F zE nC n xI zP zF=some zD) F zk ⟨_,_,_,rfl,h⟩ ?_ ?_
  ·rintro _ ⟨_,_,_,_,h⟩;exact wB (h:(none:Option ((Int×(List Int))⊕((List (Int))×Int×Int)))=some zD)
  rintro z7 _ ⟨xI,zP,zF,rfl,h⟩;replace h:mI F zE nC (o7 F zE nC z7) xI zP zF=some zD:=h;unfold mI at h;refine sq (c0 [] 15 h [] ?_ ?_)
  rotate_left
  ·intro yC h;refine x8 (id:=0) zk ?_;cases h;exact ⟨rfl,(sw [0] [] [.s 7,.s 8] [.s 0] an)⟩
  intro yC h;refine sk (sq ?_);refine yN (id:=1) zk ?_;refine sq (nE h fun zX h=>bE h fun zA yQ h=>r0 [iT 2 Fb zE xI zX.1 zX.2,iK 3 {} (L8 F (sub zE xI (lN (zE))) zA yQ)] [(10,Ii zA.1),(11,Ii zA.2.1),(12,Ii zA.2.2)] (sq (c0 [] 27 h [] ?_ ?_)))
  ·intro yY h;refine s2 [iH 1 { id:=1,m:=1 }] [0,7] [(4,.own 1 0),(5,Ii 0),(6,Ii zA.2.2)] [0] [(1,Rb 3 1 [])] 2 (wz [1] [] [4] [] [(4,.own 0 ((([]:List Int)).length)),(5,Ii 0),(6,Ii zA.2.2)] [(0,Rb 3 1 [])] (ac (congrArg (AV.own _) (by first | (simp;done) | (simp;omega)):(.own 1 0:AV)=.own 1 ((([]:List Int)).length)) an) ?_);cases h;exact rt ry
  intro yY h;refine sk (sq (nE h fun y9 h=>r2 [iH 2 { id:=1 },iH 3 { id:=2,l:=(Mi (zF++([zA.1]:List Int))),n:=((zF++([zA.1]:List Int))).length },iM Fi zF,iA 1,iC (uE _ _:(Mi (zF++([zA.1]:List Int)))=(Mi zF)++(Mi ([zA.1]:List Int))),iC (by simp:((zF++([zA.1]:List Int))).length=((List.map (AV.int .i64) (zF++([zA.1]:List Int)))).length),iC (by first | (simp;done) | simpa using y9:(((List.map (AV.int .i64) zF):List AV).length+((List.map (AV.int .i64) ([zA.1]:List Int)):List AV).length) * 8≤140737488355328)] [] [(7,.own 2 (((zF++([zA.1]:List Int))).length))] [0] [(2,Rb 3 1 (Mi (zF++([zA.1]:List Int))))] 3 (r0 [] [(8,Ii (zG (xI+zA.2.1)))] (r0 [] [(9,Ii (zG (zP+(1:Int))))] ?_))));exact ⟨_,(sw [2] [] [.s 0,.s 1,.s 7,.s 8,.s 9] [.s 0] an),_,_,_,rfl,h⟩
 intro e st1 hk;rcases zD with zZ | xD
 rotate_left
 ·obtain ⟨rfl,hf⟩:=hk;cases h;exact ⟨st1,Sub.refl _ _,.inr rfl,hf⟩
 obtain ⟨rfl,hs⟩:=hk;refine ⟨_,hs,?_⟩;refine s1 [] [7] [(4,.own 0 ((zZ.2).length)),(5,Ii zZ.1),(6,Ii 0)] ?_;cases h;exact rt rx
theorem TL (xC:Int) (r:Bool×Bool×Bool×Bool) (h:rR xC=some r):yR prog 135 [] [] [Ii xC] [] (.tuple [.bool r.1,.bool r.2.1,.bool r.2.2.1,.bool r.2.2.2]):=by
 refine tI Go.Proofs.Tryz.f135 ?_;unfold rR at h;refine sE [] [(0,Ii xC)] [] 0 (sq (s0 [] [(6,Ii xC)] ?_));refine yN (id:=0) zk ?_;refine sq (s0 [] [(7,.bool (xC==(1:Int)))] (bE h fun zD zL h=>?_));refine xR (mk [(6,Ii xC),(7,.bool zD)] [] 0) ?_ ?_
 ·replace h:=zL;refine ch 7 h ?_ ?_
  ·intro yC h;refine sk ?_;cases h;exact ⟨rfl,(sw [] [] [.s 6,.s 7] [] an)⟩
  intro yC h;refine r0 [] [(7,.bool (xC==(3:Int)))] ?_;cases h;exact ⟨rfl,(sw [] [] [.s 6,.s 7] [] an)⟩
 refine ch 7 h ?_ ?_
 ·intro yY h;refine s0 [] [(2,.bool true),(3,.bool false),(4,.bool false),(5,.bool false)] ?_;cases h;exact rt rx
 intro yY h;refine c0 [] 10 h [] ?_ ?_
 ·intro xF h;refine s0 [] [(2,.bool true),(3,.bool true),(4,.bool false),(5,.bool false)] ?_;cases h;exact rt rx
 intro xF h;refine c0 [] 12 h [] ?_ ?_
 ·intro wV h;refine s0 [] [(2,.bool false),(3,.bool true),(4,.bool false),(5,.bool true)] ?_;cases h;exact rt rx
 intro wV h;refine sq (s0 [] [(14,.bool (xC==(6:Int)))] (bE h fun zR zX h=>?_));refine xR (mk [(6,Ii xC),(14,.bool zR)] [] 0) ?_ ?_
 ·replace h:=zX;refine ch 14 h ?_ ?_
  ·intro vM h;refine sk ?_;cases h;exact ⟨rfl,(sw [] [] [.s 6,.s 14] [] an)⟩
  intro vM h;refine c0 [] 14 h [] ?_ ?_
  ·intro uM h;refine sk ?_;cases h;exact ⟨rfl,(sw [] [] [.s 6,.s 14] [] an)⟩
  intro uM h;refine c0 [] 14 h [] ?_ ?_
  ·intro tO h;refine sk ?_;cases h;exact ⟨rfl,(sw [] [] [.s 6,.s 14] [] an)⟩
  intro tO h;refine c0 [] 14 h [] ?_ ?_
  ·intro qR h;refine sk ?_;cases h;exact ⟨rfl,(sw [] [] [.s 6,.s 14] [] an)⟩
  intro qR h;refine r0 [] [(14,.bool (xC==(12:Int)))] ?_;cases h;exact ⟨rfl,(sw [] [] [.s 6,.s 14] [] an)⟩
 refine ch 14 h ?_ ?_
 ·intro bK h;refine s0 [] [(2,.bool false),(3,.bool true),(4,.bool false),(5,.bool false)] ?_;cases h;exact rt rx
 intro bK h;refine c0 [] 20 h [] ?_ ?_
 ·intro d7 h;refine s0 [] [(2,.bool false),(3,.bool true),(4,.bool true),(5,.bool false)] ?_;cases h;exact rt rx
 intro d7 h;refine c0 [] 22 h [] ?_ ?_
 ·intro oU h;refine s0 [] [(2,.bool false),(3,.bool true),(4,.bool true),(5,.bool true)] ?_;cases h;exact rt rx
 intro oU h;refine sk (s0 [] [(2,.bool false),(3,.bool false),(4,.bool false),(5,.bool false)] ?_);cases h;exact rt rx
theorem L6 (zE:Bool) (r:Int) (h:lK zE=some r):yR prog 165 [] [] [.bool zE] [] (Ii r):=by
 refine tI Go.Proofs.Tryz.f165 ?_;unfold lK at h;refine sE [] [(0,.bool zE)] [] 0 (sq (c0 [] 3 h [] ?_ ?_))
 ·intro yC h;refine s0 [] [(2,Ii 1)] ?_;cases h;exact rt rx
 intro yC h;refine sk (s0 [] [(2,Ii 0)] ?_);cases h;exact rt rx
theorem zFN (F:Nat) (zW:List (List Int)) (z0:List (zQ)) (zP:Int) (r:(List (List Int))×Int) (h:EQ F zW z0 zP=some r):yR prog 166 [] [] [Ss zW,Sq 2 yB z0,Ii zP] [] (.tuple [Ss r.1,Ii r.2]):=by
 refine tI Go.Proofs.Tryz.f166 ?_;unfold EQ at h;refine sE [] [(0,Ss zW),(1,Sq 2 yB z0),(2,Ii zP)] [] 0 (sq (sq (bE h fun zA zL h=>r0 [iK 2 {} (MJ F zW z0 zA zL)] [(12,.bool (zA != (0:Int)))] (ch 12 h ?_ ?_))))
 ·intro yC h;refine s1 [] [0,1] [(6,.nilsl),(7,Ii 1)] (wz [] [] [6] [] [(6,.sl false 1 []),(7,Ii 1)] [] (ar ([]:List AV) an) ?_);cases h;exact rt rx
 intro yC h;refine sk (sq (ad 20 h ?_ ?_ ?_))
 ·rcases bft (decide (zP<(-1:Int))) with z4 | z4
  ·exact rm [iG 3 4,iH 7 Ht,iR 5 z4] (ort z4)
  ·exact rm [iH 7 Hf,iR 3 z4,iN 5 yB z0,iR 2 z4] (orf z4 rfl)
 ·intro yY h;refine s1 [] [0,1] [(6,.nilsl),(7,Ii 2)] (wz [] [] [6] [] [(6,.sl false 1 []),(7,Ii 2)] [] (ar ([]:List AV) an) ?_);cases h;exact rt rx
 intro yY h;refine sk (s0 [] [(8,.nilsl)] (sq (bE h fun zD zX h=>?_)));refine xR (mk [(8,Ss zD)] [] 0) ?_ ?_
 ·replace h:=zX;refine yN (id:=0) zk ?_;refine wz [] [] [8] [] [(0,Ss zW),(1,Sq 2 yB z0),(2,Ii zP),(8,.sl false 1 [])] [] (ar ([]:List AV) an) ?_;refine wC (fun n st=>∃ (xH:Int),∃ (zO:List (List Int)),st=mk [(0,Ss zW),(1,Sq 2 yB z0),(2,Ii xH),(8,Ss zO)] [] 0∧DG F zW z0 n xH zO=some zD) F zk ⟨_,_,rfl,h⟩ ?_ ?_
  ·rintro _ ⟨_,_,_,h⟩;exact wB (h:(none:Option (List (List Int)))=some zD)
  rintro z7 _ ⟨xH,zO,rfl,h⟩;replace h:mV F zW z0 (DG F zW z0 z7) xH zO=some zD:=h;unfold mV at h;refine sq (c0 [] 22 h [] ?_ ?_)
  rotate_left
  ·intro xF h;refine x8 (id:=0) zk ?_;cases h;exact ⟨rfl,(sw [] [] [.s 8] [] an)⟩
  intro xF h;refine sk ?_;refine yN (id:=1) zk ?_;refine sq (bE h fun zH yQ h=>bE h fun yH y9 h=>nE h fun xS h=>r2 [iH 8 { id:=0 },iH 10 { id:=1,l:=(Ms (([yH]:List (List Int))++zO)),n:=((([yH]:List (List Int))++zO)).length },iF 3 yB yQ,iC (by decide:(0:Int)≤(1:Int)),iC (by decide:(1:Int)<((2:Nat):Int)),iF 6 AV.str y9,iA 1,iC trivial,iC (uE _ _:(Ms (([yH]:List (List Int))++zO))=(Ms ([yH]:List (List Int)))++(Ms zO)),iC (by simp:((([yH]:List (List Int))++zO)).length=((List.map AV.str (([yH]:List (List Int))++zO))).length),iC (by first | (simp;done) | simpa using xS:(((List.map AV.str ([yH]:List (List Int))):List AV).length+((List.map AV.str zO):List AV).length) * 16≤140737488355328)] [] [(8,.own 1 (((([yH]:List (List Int))++zO)).length))] [] [(1,Rb 9 1 (Ms (([yH]:List (List Int))++zO)))] 2 (bE h fun xA wA h=>r0 [iF 2 yB wA,i0,iC (by decide:(0:Int)<((2:Nat):Int))] [(2,Ii xA.c0)] ?_));exact ⟨_,(Sub.trans (f0 [] [1] [.s 0,.s 1,.s 2,.a 8 (Ss (([yH]:List (List Int))++zO))] [] (sl2:=[(0,Ss zW),(1,Sq 2 yB z0),(2,Ii xA.c0),(8,Ss (([yH]:List (List Int))++zO))]) (bx2:=[]) zk (ac (by first | (simp;done) | (simp;omega):((([yH]:List (List Int))++zO)).length=((List.map AV.str (([yH]:List (List Int))++zO))).length) (ar 1 (ar ((Ms (([yH]:List (List Int))++zO)):List AV) (ac (rfl:(!false||false)=true) an))))) (sw [] [] [.s 0,.s 1,.s 2,.s 8] [] an)),_,_,rfl,h⟩
 refine s1 [] [8] [(6,Ss zD),(7,Ii 0)] ?_;cases h;exact rt rx
theorem zEa (xC:Int) (r:Bool×Bool×Bool×Bool) (h:LD xC=some r):yR prog 159 [] [] [Ii xC] [] (.tuple [.bool r.1,.bool r.2.1,.bool r.2.2.1,.bool r.2.2.2]):=by
 refine tI Go.Proofs.Tryz.f159 ?_;unfold LD at h;refine sE [] [(0,Ii xC)] [] 0 (sq (am 6 ((xC==(1:Int))||((xC==(3:Int))||(xC==(4:Int)))) ?_ ?_))
 ·rcases bft (xC==(1:Int)) with zT | zT
  ·exact rm [iG 3 2,iH 5 Ht,iG 7 2,iH 9 Ht,iR 3 zT,iX 2,iA true] (ort zT)
  ·rcases bft (xC==(3:Int)) with z4 | z4
   ·exact rm [iH 5 Hf,iG 7 2,iH 9 Ht,iR 3 zT,iR 3 z4] (orf zT (ort z4))
   ·exact rm [iH 5 Hf,iH 9 Hf,iR 3 zT,iR 3 z4] (orf zT (orf z4 rfl))
 refine s0 [] [(7,.bool (decide (xC≥(4:Int))))] (sq (am 8 ((xC==(9:Int))||(xC==(11:Int))) ?_ ?_))
 ·rcases bft (xC==(9:Int)) with yE | yE
  ·exact rm [iG 3 2,iH 5 Ht,iR 3 yE] (ort yE)
  ·exact rm [iH 5 Hf,iR 3 yE] (orf yE rfl)
 refine sq (am 9 ((xC==(5:Int))||(xC==(11:Int))) ?_ ?_)
 ·rcases bft (xC==(5:Int)) with yK | yK
  ·exact rm [iG 3 2,iH 5 Ht,iR 3 yK] (ort yK)
  ·exact rm [iH 5 Hf,iR 3 yK] (orf yK rfl)
 refine s0 [] [(2,.bool ((xC==(1:Int))||((xC==(3:Int))||(xC==(4:Int))))),(3,.bool (decide (xC≥(4:Int)))),(4,.bool ((xC==(9:Int))||(xC==(11:Int)))),(5,.bool ((xC==(5:Int))||(xC==(11:Int))))] ?_;cases h;exact rt rx
theorem WI (F:Nat) (zO:List (List Int)) (r:Int) (h:BC F zO=some r):yR prog 160 [] [] [Ss zO] [] (Ii r):=by
 refine tI Go.Proofs.Tryz.f160 ?_;unfold BC at h;refine sE [] [(0,Ss zO)] [] 0 (sq (c0 [iN 1 AV.str zO] 6 h [] ?_ ?_))
 ·intro yC h;refine s1 [] [0] [(2,Ii 7)] ?_;cases h;exact rt rx
 intro yC h;refine sk (sq (s0 [] [(3,Ii 0)] (bE h fun zD zL h=>?_)));refine vD (K1:=(fun e st'=>match zD with | (.inl q0)=>e=.normal∧Sub 0 st' (mk [] [] 0) | (.inr q1)=>e=.ret∧vE prog Go.Proofs.Tryz.f160 0 [] (Ii q1) st')) ?_ ?_
 ·replace h:=zL;refine yN (id:=0) zk ?_;refine w0 [] [] [(0,Ss zO),(3,Ii 0)] [] ?_;refine wC (fun n st=>∃ (zP:Int),st=mk [(0,Ss zO),(3,Ii zP)] [] 0∧G8 F zO n zP=some zD) F zk ⟨_,rfl,h⟩ ?_ ?_
  ·rintro _ ⟨_,_,h⟩;exact wB (h:(none:Option (Unit⊕Int))=some zD)
  rintro z7 _ ⟨zP,rfl,h⟩;replace h:GP F zO (G8 F zO z7) zP=some zD:=h;unfold GP at h;refine sq (c0 [iN 2 AV.str zO] 10 h [] ?_ ?_)
  rotate_left
  ·intro yY h;refine x8 (id:=0) zk ?_;cases h;exact ⟨rfl,(sw [] [] [] [] an)⟩
  intro yY h;refine sk (sq ?_);refine yN (id:=1) zk ?_;refine sq (bE h fun zH zX h=>bE h fun zA yQ h=>r0 [iF 2 AV.str zX,iK 4 {} (E7 F zH zA yQ)] [(18,.bool (zA != (0:Int)))] (ch 18 h ?_ ?_))
  rotate_left
  ·intro xF h;refine sk (r0 [] [(3,Ii (zG (zP+(1:Int))))] ?_);exact ⟨_,(sw [] [] [.s 0,.s 3] [] an),_,rfl,h⟩
  intro xF h;refine s1 [] [0] [(2,Ii 3)] ?_;cases h;exact rt ry
 intro e st1 hk;rcases zD with zZ | xD
 rotate_left
 ·obtain ⟨rfl,hf⟩:=hk;cases h;exact ⟨st1,Sub.refl _ _,.inr rfl,hf⟩
 obtain ⟨rfl,hs⟩:=hk;refine ⟨_,hs,?_⟩;refine s0 [] [(2,Ii 0)] ?_;cases h;exact rt rx
theorem i6 (z7:Int) (low_1:Int) (high_1:Int) (r:Int) (h:bD z7 low_1 high_1=some r):yR prog 168 [] [] [Ii z7,Ii low_1,Ii high_1] [] (Ii r):=by
 refine tI Go.Proofs.Tryz.f168 ?_;unfold bD at h;refine sE [] [(0,Ii z7),(1,Ii low_1),(2,Ii high_1)] [] 0 (sq (ad 14 h ?_ ?_ ?_))
 ·rcases bft (decide (z7<low_1)) with zT | zT
  ·exact rm [iG 4 3,iH 7 Ht,iR 4 zT] (ort zT)
  ·exact rm [iH 7 Hf,iR 4 zT] (orf zT rfl)
 ·intro yC h;refine s0 [] [(6,Ii 2)] ?_;cases h;exact rt rx
 intro yC h;refine sk (s0 [] [(6,Ii 0)] ?_);cases h;exact rt rx
theorem zDD (zU:yW) (r:Int) (h:EI zU=some r):yR prog 161 [] [] [xN zU] [] (Ii r):=by
 refine tI Go.Proofs.Tryz.f161 ?_;unfold EI at h;refine sE [iH 0 { id:=0 }] [(1,Pp 0)] [(0,Vb 112 (uQ zU))] 1 (sq (s0 [] [(6,Ii zU.Kind)] (bE h fun zD zL h=>?_)));refine vD (K1:=(fun e st'=>match zD with | (.inl q0)=>e=.normal∧Sub 0 st' (mk [(1,Pp 0)] [(0,Vb 112 (uQ zU))] 1) | (.inr q1)=>e=.ret∧vE prog Go.Proofs.Tryz.f161 0 [] (Ii q1) st')) ?_ ?_
 ·replace h:=zL;refine yN (id:=0) zk ?_;refine sq (s0 [] [(7,.bool (zU.Kind==(1:Int)))] (bE h fun zR zX h=>?_));refine xR (mk [(1,Pp 0),(6,Ii zU.Kind),(7,.bool zR)] [(0,Vb 112 (uQ zU))] 1) ?_ ?_
  ·replace h:=zX;refine ch 7 h ?_ ?_
   ·intro yC h;refine sk ?_;cases h;exact ⟨rfl,(sw [0] [] [.s 1,.s 6,.s 7] [.s 0] an)⟩
   intro yC h;refine c0 [] 7 h [] ?_ ?_
   ·intro yY h;refine sk ?_;cases h;exact ⟨rfl,(sw [0] [] [.s 1,.s 6,.s 7] [.s 0] an)⟩
   intro yY h;refine r0 [] [(7,.bool (zU.Kind==(3:Int)))] ?_;cases h;exact ⟨rfl,(sw [0] [] [.s 1,.s 6,.s 7] [.s 0] an)⟩
  refine ch 7 h ?_ ?_
  ·intro xF h;refine s2 [] [1] [(2,Ii 0)] [0] [] 1 ?_;cases h;exact rt ry
  intro xF h;refine c0 [] 11 h [] ?_ ?_
  ·intro wV h;refine sq (bE h fun zA yQ h=>r2 [iK 2 {} (i6 zU.N (-1000000000000000:Int) (1000000000000000:Int) zA yQ)] [1] [(2,Ii zA)] [0] [] 1 ?_);cases h;exact rt ry
  intro wV h;refine c0 [] 16 h [] ?_ ?_
  ·intro vM h;refine sq (bE h fun zC y9 h=>r2 [iK 2 {} (i6 zU.N (1:Int) (1000000000000:Int) zC y9)] [1] [(2,Ii zC)] [0] [] 1 ?_);cases h;exact rt ry
  intro vM h;refine c0 [] 21 h [] ?_ ?_
  ·intro uM h;refine sq (bE h fun zJ xS h=>r2 [iK 2 {} (i6 zU.N (0:Int) (63:Int) zJ xS)] [1] [(2,Ii zJ)] [0] [] 1 ?_);cases h;exact rt ry
  intro uM h;refine c0 [] 26 h [] ?_ ?_
  rotate_left
  ·intro tO h;refine sk ?_;cases h;exact ⟨rfl,(sw [0] [] [.s 1] [.s 0] an)⟩
  intro tO h;refine sq (bE h fun zS wA h=>r0 [iK 2 {} (i6 zU.N (0:Int) (3:Int) zS wA)] [(3,Ii zS)] (sq (ad 37 h ?_ ?_ ?_)))
  ·rcases bft (zS==(0:Int)) with yE | yE
   ·exact rm [iH 6 Ht,iR 4 yE] (v9 yE rfl)
   ·exact rm [iG 3 3,iH 6 Hf,iR 4 yE] (u5 yE)
  ·intro qR h;refine sq (bE h fun zV wP h=>r2 [iK 2 {} (i6 zU.M (0:Int) (1000000000000000:Int) zV wP)] [1] [(2,Ii zV)] [0] [] 1 ?_);cases h;exact rt ry
  intro qR h;refine sk (sq (sq ?_));refine xR (mk [(3,Ii zS),(47,.bool ((zS==(0:Int))&&(zU.M != (0:Int))))] [] 0) ?_ ?_
  ·rcases bft (zS==(0:Int)) with yK | yK
   ·refine r2 [iH 6 Ht,iR 4 yK] [1] [(47,.bool (zU.M != (0:Int)))] [0] [] 1 ?_;exact ⟨rfl,(sw [] [] [.s 3,.a 47 (.bool ((zS==(0:Int))&&(zU.M != (0:Int))))] [] (ac (congrArg AV.bool (v9 yK rfl):(.bool (zU.M != (0:Int)):AV)=.bool ((zS==(0:Int))&&(zU.M != (0:Int)))) an))⟩
   ·refine r2 [iG 3 3,iH 6 Hf,iR 4 yK] [1] [(47,.bool false)] [0] [] 1 ?_;exact ⟨rfl,(sw [] [] [.s 3,.a 47 (.bool ((zS==(0:Int))&&(zU.M != (0:Int))))] [] (ac (congrArg AV.bool (u5 yK):(.bool false:AV)=.bool ((zS==(0:Int))&&(zU.M != (0:Int)))) an))⟩
  refine ch 47 h ?_ ?_
  ·intro bK h;refine s0 [] [(2,Ii 1)] ?_;cases h;exact rt ry
  intro bK h;refine sk (s0 [] [(2,Ii zS)] ?_);cases h;exact rt ry
 intro e st1 hk;rcases zD with zZ | xD
 rotate_left
 ·obtain ⟨rfl,hf⟩:=hk;cases h;exact ⟨st1,Sub.refl _ _,.inr rfl,hf⟩
 obtain ⟨rfl,hs⟩:=hk;refine ⟨_,hs,?_⟩;refine sq (bE h fun yA vA h=>r0 [iK 2 {} (i6 zU.N (0:Int) (1000000000000000:Int) yA vA)] [(4,Ii yA)] (sq (ad 58 h ?_ ?_ ?_)))
 ·rcases bft (yA==(0:Int)) with xX | xX
  ·exact rm [iH 6 Ht,iR 4 xX] (v9 xX rfl)
  ·exact rm [iG 3 3,iH 6 Hf,iR 4 xX] (u5 xX)
 ·intro d7 h;refine sq (bE h fun yV vN h=>r2 [iK 2 {} (i6 zU.M (1:Int) (1000000000000:Int) yV vN)] [1] [(2,Ii yV)] [0] [] 1 ?_);cases h;exact rt rx
 intro d7 h;refine sk (s2 [] [1] [(2,Ii yA)] [0] [] 1 ?_);cases h;exact rt rx
theorem N9 (F:Nat) (zU:yW) (r:Int) (h:gL F zU=some r):yR prog 134 [] [] [xN zU] [] (Ii r):=by
 refine tI Go.Proofs.Tryz.f134 ?_;unfold gL at h;refine sE [iH 0 { id:=0 }] [(1,Pp 0)] [(0,Vb 112 (uQ zU))] 1 (sq (ad 15 h ?_ ?_ ?_))
 ·rcases bft (decide (zU.At<(0:Int))) with zT | zT
  ·exact rm [iG 4 3,iH 7 Ht,iR 4 zT] (ort zT)
  ·exact rm [iH 7 Hf,iR 4 zT] (orf zT rfl)
 ·intro yC h;refine s2 [] [1] [(2,Ii 2)] [0] [] 1 ?_;cases h;exact rt rx
 intro yC h;refine sk (sq (ad 23 h ?_ ?_ ?_))
 ·rcases bft (decide (zU.Kind<(1:Int))) with z4 | z4
  ·exact rm [iG 4 3,iH 7 Ht,iR 4 z4] (ort z4)
  ·exact rm [iH 7 Hf,iR 4 z4] (orf z4 rfl)
 ·intro yY h;refine s2 [] [1] [(2,Ii 1)] [0] [] 1 ?_;cases h;exact rt rx
 intro yY h;refine sk (sq (bE h fun zA zL h=>r0 [iK 2 {} (zEa zU.Kind zA zL)] [(3,.bool zA.1),(4,.bool zA.2.1),(5,.bool zA.2.2.1),(6,.bool zA.2.2.2)] (sq (sq (bE h fun zK zX h=>?_)))));refine xR (mk [(1,Pp 0),(3,.bool zA.1),(6,.bool zA.2.2.2),(66,.bool zK)] [(0,Vb 112 (uQ zU))] 1) ?_ ?_
 ·replace h:=zX;rcases bft (!zA.1) with yE | yE
  ·replace h:=xK yE h;rcases bft (!(zU.Name==([]:List Int))) with yK | yK
   ·replace h:=xK yK h;refine r0 [iH 6 Ht,iG 8 3,iH 14 Hg,iH 15 Ht,iG 17 3,iH 23 Hg,iH 24 Ht,iG 26 3,iH 33 Hg,iH 34 Ht,iR 4 yE,iR 5 yK,iX 4,iA true,iX 4,iA true] [(66,.bool true)] ?_;cases h;exact ⟨rfl,(sw [0] [] [.s 1,.s 3,.s 6,.s 66] [.s 0] an)⟩
   ·replace h:=xJ yK h;rcases bft (!zA.2.1) with xX | xX
    ·replace h:=xK xX h;rcases bft (zU.N != (0:Int)) with wI | wI
     ·replace h:=xK wI h;refine r0 [iH 6 Ht,iH 14 Ht,iH 15 Hf,iG 17 3,iH 23 Hg,iH 24 Ht,iG 26 3,iH 33 Hg,iH 34 Ht,iR 4 yE,iR 3 yK,iR 3 xX,iC yK,iC xX,iC yK,iR 5 wI,iX 4,iA true] [(66,.bool true)] ?_;cases h;exact ⟨rfl,(sw [0] [] [.s 1,.s 3,.s 6,.s 66] [.s 0] an)⟩
     ·replace h:=xJ wI h;rcases bft (!zA.2.2.1) with wH | wH
      ·replace h:=xK wH h;rcases bft (zU.M != (0:Int)) with wD | wD
       ·replace h:=xK wD h;refine r0 [iH 6 Ht,iH 14 Ht,iH 15 Hf,iH 23 Ht,iH 24 Hf,iG 26 3,iH 33 Hg,iH 34 Ht,iR 4 yE,iR 3 yK,iR 3 xX,iC yK,iC xX,iC yK,iR 3 wI,iR 3 wH,iC wI,iC wH,iC wI,iR 5 wD] [(66,.bool true)] ?_;cases h;exact ⟨rfl,(sw [0] [] [.s 1,.s 3,.s 6,.s 66] [.s 0] an)⟩
       ·replace h:=xJ wD h;rcases bft (!zA.2.2.2) with vS | vS
        ·replace h:=xK vS h;refine r0 [iH 6 Ht,iH 14 Ht,iH 15 Hf,iH 23 Ht,iH 24 Hf,iH 33 Ht,iH 34 Hf,iR 4 yE,iR 3 yK,iR 3 xX,iC yK,iC xX,iC yK,iR 3 wI,iR 3 wH,iC wI,iC wH,iC wI,iR 3 wD,iR 3 vS,iN 31 AV.str zU.Stack,iC vS,iC wD,iC vS,iC wD] [(66,.bool (decide ((lN (zU.Stack))>(0:Int))))] ?_;cases h;exact ⟨rfl,(sw [0] [] [.s 1,.s 3,.s 6,.s 66] [.s 0] an)⟩
        ·replace h:=xJ vS h;refine r0 [iH 6 Ht,iH 14 Ht,iH 15 Hf,iH 23 Ht,iH 24 Hf,iG 29 4,iH 33 Hf,iH 34 Hf,iR 4 yE,iR 3 yK,iR 3 xX,iC yK,iC xX,iC yK,iR 3 wI,iR 3 wH,iC wI,iC wH,iC wI,iR 3 wD,iR 4 vS,iC wD,iC vS,iC wD] [(66,.bool false)] ?_;cases h;exact ⟨rfl,(sw [0] [] [.s 1,.s 3,.s 6,.s 66] [.s 0] an)⟩
      ·replace h:=xJ wH h;rcases bft (!zA.2.2.2) with wU | wU
       ·replace h:=xK wU h;refine r0 [iH 6 Ht,iH 14 Ht,iH 15 Hf,iG 20 3,iH 23 Hf,iH 24 Hf,iH 33 Ht,iH 34 Hf,iR 4 yE,iR 3 yK,iR 3 xX,iC yK,iC xX,iC yK,iR 3 wI,iR 3 wH,iC wI,iC wH,iC wI,iQ 3 false,iR 3 wU,iN 31 AV.str zU.Stack,iC wU,iA false,iC wU,iA false] [(66,.bool (decide ((lN (zU.Stack))>(0:Int))))] ?_;cases h;exact ⟨rfl,(sw [0] [] [.s 1,.s 3,.s 6,.s 66] [.s 0] an)⟩
       ·replace h:=xJ wU h;refine r0 [iH 6 Ht,iH 14 Ht,iH 15 Hf,iG 20 3,iH 23 Hf,iH 24 Hf,iG 29 4,iH 33 Hf,iH 34 Hf,iR 4 yE,iR 3 yK,iR 3 xX,iC yK,iC xX,iC yK,iR 3 wI,iR 3 wH,iC wI,iC wH,iC wI,iQ 3 false,iR 4 wU,iA false,iC wU,iA false] [(66,.bool false)] ?_;cases h;exact ⟨rfl,(sw [0] [] [.s 1,.s 3,.s 6,.s 66] [.s 0] an)⟩
    ·replace h:=xJ xX h;rcases bft (!zA.2.2.1) with x9 | x9
     ·replace h:=xK x9 h;rcases bft (zU.M != (0:Int)) with wL | wL
      ·replace h:=xK wL h;refine r0 [iH 6 Ht,iG 11 3,iH 14 Hf,iH 15 Hf,iH 23 Ht,iH 24 Hf,iG 26 3,iH 33 Hg,iH 34 Ht,iR 4 yE,iR 3 yK,iR 3 xX,iC yK,iC xX,iC yK,iQ 3 false,iR 3 x9,iA false,iC x9,iA false,iR 5 wL] [(66,.bool true)] ?_;cases h;exact ⟨rfl,(sw [0] [] [.s 1,.s 3,.s 6,.s 66] [.s 0] an)⟩
      ·replace h:=xJ wL h;rcases bft (!zA.2.2.2) with wO | wO
       ·replace h:=xK wO h;refine r0 [iH 6 Ht,iG 11 3,iH 14 Hf,iH 15 Hf,iH 23 Ht,iH 24 Hf,iH 33 Ht,iH 34 Hf,iR 4 yE,iR 3 yK,iR 3 xX,iC yK,iC xX,iC yK,iQ 3 false,iR 3 x9,iA false,iC x9,iA false,iR 3 wL,iR 3 wO,iN 31 AV.str zU.Stack,iC wO,iC wL,iC wO,iC wL] [(66,.bool (decide ((lN (zU.Stack))>(0:Int))))] ?_;cases h;exact ⟨rfl,(sw [0] [] [.s 1,.s 3,.s 6,.s 66] [.s 0] an)⟩
       ·replace h:=xJ wO h;refine r0 [iH 6 Ht,iG 11 3,iH 14 Hf,iH 15 Hf,iH 23 Ht,iH 24 Hf,iG 29 4,iH 33 Hf,iH 34 Hf,iR 4 yE,iR 3 yK,iR 3 xX,iC yK,iC xX,iC yK,iQ 3 false,iR 3 x9,iA false,iC x9,iA false,iR 3 wL,iR 4 wO,iC wL,iC wO,iC wL] [(66,.bool false)] ?_;cases h;exact ⟨rfl,(sw [0] [] [.s 1,.s 3,.s 6,.s 66] [.s 0] an)⟩
     ·replace h:=xJ x9 h;rcases bft (!zA.2.2.2) with uA | uA
      ·replace h:=xK uA h;refine r0 [iH 6 Ht,iG 11 3,iH 14 Hf,iH 15 Hf,iG 20 3,iH 23 Hf,iH 24 Hf,iH 33 Ht,iH 34 Hf,iR 4 yE,iR 3 yK,iR 3 xX,iC yK,iC xX,iC yK,iQ 3 false,iR 3 x9,iA false,iC x9,iQ 4 false,iR 3 uA,iN 31 AV.str zU.Stack,iC uA,iA false,iC uA,iA false] [(66,.bool (decide ((lN (zU.Stack))>(0:Int))))] ?_;cases h;exact ⟨rfl,(sw [0] [] [.s 1,.s 3,.s 6,.s 66] [.s 0] an)⟩
      ·replace h:=xJ uA h;refine r0 [iH 6 Ht,iG 11 3,iH 14 Hf,iH 15 Hf,iG 20 3,iH 23 Hf,iH 24 Hf,iG 29 4,iH 33 Hf,iH 34 Hf,iR 4 yE,iR 3 yK,iR 3 xX,iC yK,iC xX,iC yK,iQ 3 false,iR 3 x9,iA false,iC x9,iQ 4 false,iR 4 uA,iA false,iC uA,iA false] [(66,.bool false)] ?_;cases h;exact ⟨rfl,(sw [0] [] [.s 1,.s 3,.s 6,.s 66] [.s 0] an)⟩
  ·replace h:=xJ yE h;rcases bft (!zA.2.1) with vT | vT
   ·replace h:=xK vT h;rcases bft (zU.N != (0:Int)) with uT | uT
    ·replace h:=xK uT h;refine r0 [iG 3 3,iH 6 Hf,iH 14 Ht,iH 15 Hf,iG 17 3,iH 23 Hg,iH 24 Ht,iG 26 3,iH 33 Hg,iH 34 Ht,iR 4 yE,iQ 3 false,iR 3 vT,iA false,iC vT,iA false,iR 5 uT,iX 4,iA true] [(66,.bool true)] ?_;cases h;exact ⟨rfl,(sw [0] [] [.s 1,.s 3,.s 6,.s 66] [.s 0] an)⟩
    ·replace h:=xJ uT h;rcases bft (!zA.2.2.1) with qO | qO
     ·replace h:=xK qO h;rcases bft (zU.M != (0:Int)) with jY | jY
      ·replace h:=xK jY h;refine r0 [iG 3 3,iH 6 Hf,iH 14 Ht,iH 15 Hf,iH 23 Ht,iH 24 Hf,iG 26 3,iH 33 Hg,iH 34 Ht,iR 4 yE,iQ 3 false,iR 3 vT,iA false,iC vT,iA false,iR 3 uT,iR 3 qO,iC uT,iC qO,iC uT,iR 5 jY] [(66,.bool true)] ?_;cases h;exact ⟨rfl,(sw [0] [] [.s 1,.s 3,.s 6,.s 66] [.s 0] an)⟩
      ·replace h:=xJ jY h;rcases bft (!zA.2.2.2) with pD | pD
       ·replace h:=xK pD h;refine r0 [iG 3 3,iH 6 Hf,iH 14 Ht,iH 15 Hf,iH 23 Ht,iH 24 Hf,iH 33 Ht,iH 34 Hf,iR 4 yE,iQ 3 false,iR 3 vT,iA false,iC vT,iA false,iR 3 uT,iR 3 qO,iC uT,iC qO,iC uT,iR 3 jY,iR 3 pD,iN 31 AV.str zU.Stack,iC pD,iC jY,iC pD,iC jY] [(66,.bool (decide ((lN (zU.Stack))>(0:Int))))] ?_;cases h;exact ⟨rfl,(sw [0] [] [.s 1,.s 3,.s 6,.s 66] [.s 0] an)⟩
       ·replace h:=xJ pD h;refine r0 [iG 3 3,iH 6 Hf,iH 14 Ht,iH 15 Hf,iH 23 Ht,iH 24 Hf,iG 29 4,iH 33 Hf,iH 34 Hf,iR 4 yE,iQ 3 false,iR 3 vT,iA false,iC vT,iA false,iR 3 uT,iR 3 qO,iC uT,iC qO,iC uT,iR 3 jY,iR 4 pD,iC jY,iC pD,iC jY] [(66,.bool false)] ?_;cases h;exact ⟨rfl,(sw [0] [] [.s 1,.s 3,.s 6,.s 66] [.s 0] an)⟩
     ·replace h:=xJ qO h;rcases bft (!zA.2.2.2) with pE | pE
      ·replace h:=xK pE h;refine r0 [iG 3 3,iH 6 Hf,iH 14 Ht,iH 15 Hf,iG 20 3,iH 23 Hf,iH 24 Hf,iH 33 Ht,iH 34 Hf,iR 4 yE,iQ 3 false,iR 3 vT,iA false,iC vT,iA false,iR 3 uT,iR 3 qO,iC uT,iC qO,iC uT,iQ 3 false,iR 3 pE,iN 31 AV.str zU.Stack,iC pE,iA false,iC pE,iA false] [(66,.bool (decide ((lN (zU.Stack))>(0:Int))))] ?_;cases h;exact ⟨rfl,(sw [0] [] [.s 1,.s 3,.s 6,.s 66] [.s 0] an)⟩
      ·replace h:=xJ pE h;refine r0 [iG 3 3,iH 6 Hf,iH 14 Ht,iH 15 Hf,iG 20 3,iH 23 Hf,iH 24 Hf,iG 29 4,iH 33 Hf,iH 34 Hf,iR 4 yE,iQ 3 false,iR 3 vT,iA false,iC vT,iA false,iR 3 uT,iR 3 qO,iC uT,iC qO,iC uT,iQ 3 false,iR 4 pE,iA false,iC pE,iA false] [(66,.bool false)] ?_;cases h;exact ⟨rfl,(sw [0] [] [.s 1,.s 3,.s 6,.s 66] [.s 0] an)⟩
   ·replace h:=xJ vT h;rcases bft (!zA.2.2.1) with tG | tG
    ·replace h:=xK tG h;rcases bft (zU.M != (0:Int)) with qG | qG
     ·replace h:=xK qG h;refine r0 [iG 3 3,iH 6 Hf,iG 11 3,iH 14 Hf,iH 15 Hf,iH 23 Ht,iH 24 Hf,iG 26 3,iH 33 Hg,iH 34 Ht,iR 4 yE,iQ 3 false,iR 3 vT,iA false,iC vT,iQ 4 false,iR 3 tG,iA false,iC tG,iA false,iR 5 qG] [(66,.bool true)] ?_;cases h;exact ⟨rfl,(sw [0] [] [.s 1,.s 3,.s 6,.s 66] [.s 0] an)⟩
     ·replace h:=xJ qG h;rcases bft (!zA.2.2.2) with qH | qH
      ·replace h:=xK qH h;refine r0 [iG 3 3,iH 6 Hf,iG 11 3,iH 14 Hf,iH 15 Hf,iH 23 Ht,iH 24 Hf,iH 33 Ht,iH 34 Hf,iR 4 yE,iQ 3 false,iR 3 vT,iA false,iC vT,iQ 4 false,iR 3 tG,iA false,iC tG,iA false,iR 3 qG,iR 3 qH,iN 31 AV.str zU.Stack,iC qH,iC qG,iC qH,iC qG] [(66,.bool (decide ((lN (zU.Stack))>(0:Int))))] ?_;cases h;exact ⟨rfl,(sw [0] [] [.s 1,.s 3,.s 6,.s 66] [.s 0] an)⟩
      ·replace h:=xJ qH h;refine r0 [iG 3 3,iH 6 Hf,iG 11 3,iH 14 Hf,iH 15 Hf,iH 23 Ht,iH 24 Hf,iG 29 4,iH 33 Hf,iH 34 Hf,iR 4 yE,iQ 3 false,iR 3 vT,iA false,iC vT,iQ 4 false,iR 3 tG,iA false,iC tG,iA false,iR 3 qG,iR 4 qH,iC qG,iC qH,iC qG] [(66,.bool false)] ?_;cases h;exact ⟨rfl,(sw [0] [] [.s 1,.s 3,.s 6,.s 66] [.s 0] an)⟩
    ·replace h:=xJ tG h;rcases bft (!zA.2.2.2) with qU | qU
     ·replace h:=xK qU h;refine r0 [iG 3 3,iH 6 Hf,iG 11 3,iH 14 Hf,iH 15 Hf,iG 20 3,iH 23 Hf,iH 24 Hf,iH 33 Ht,iH 34 Hf,iR 4 yE,iQ 3 false,iR 3 vT,iA false,iC vT,iQ 4 false,iR 3 tG,iA false,iC tG,iQ 4 false,iR 3 qU,iN 31 AV.str zU.Stack,iC qU,iA false,iC qU,iA false] [(66,.bool (decide ((lN (zU.Stack))>(0:Int))))] ?_;cases h;exact ⟨rfl,(sw [0] [] [.s 1,.s 3,.s 6,.s 66] [.s 0] an)⟩
     ·replace h:=xJ qU h;refine r0 [iG 3 3,iH 6 Hf,iG 11 3,iH 14 Hf,iH 15 Hf,iG 20 3,iH 23 Hf,iH 24 Hf,iG 29 4,iH 33 Hf,iH 34 Hf,iR 4 yE,iQ 3 false,iR 3 vT,iA false,iC vT,iQ 4 false,iR 3 tG,iA false,iC tG,iQ 4 false,iR 4 qU,iA false,iC qU,iA false] [(66,.bool false)] ?_;cases h;exact ⟨rfl,(sw [0] [] [.s 1,.s 3,.s 6,.s 66] [.s 0] an)⟩
 refine ch 66 h ?_ ?_
 ·intro xF h;refine s2 [] [1] [(2,Ii 1)] [0] [] 1 ?_;cases h;exact rt rx
 intro xF h;refine sk (s0 [] [(7,Ii 0)] (sq (s0 [] [(67,.bool zA.1)] (bE h fun zD yQ h=>?_))));refine xR (mk [(1,Pp 0),(6,.bool zA.2.2.2),(7,Ii zD)] [(0,Vb 112 (uQ zU))] 1) ?_ ?_
 ·replace h:=yQ;refine ch 67 h ?_ ?_
  rotate_left
  ·intro wV h;refine sk ?_;cases h;exact ⟨rfl,(sw [0] [] [.s 1,.s 6,.s 7] [.s 0] an)⟩
  intro wV h;refine bE h fun zC y9 h=>r0 [iK 2 {} (E7 F zU.Name zC y9)] [(7,Ii zC)] ?_;cases h;exact ⟨rfl,(sw [0] [] [.s 1,.s 6,.s 7] [.s 0] an)⟩
 refine sq (s0 [] [(71,.bool zA.2.2.2)] (bE h fun zR xS h=>?_));refine xR (mk [(1,Pp 0),(7,Ii zR)] [(0,Vb 112 (uQ zU))] 1) ?_ ?_
 ·replace h:=xS;refine ch 71 h ?_ ?_
  rotate_left
  ·intro vM h;refine sk ?_;cases h;exact ⟨rfl,(sw [0] [] [.s 1,.s 7] [.s 0] an)⟩
  intro vM h;refine bE h fun zJ wA h=>r0 [iK 2 {} (WI F zU.Stack zJ wA)] [(7,Ii zJ)] ?_;cases h;exact ⟨rfl,(sw [0] [] [.s 1,.s 7] [.s 0] an)⟩
 refine sq (c0 [] 76 h [] ?_ ?_)
 ·intro uM h;refine s2 [] [1] [(2,Ii zR)] [0] [] 1 ?_;cases h;exact rt rx
 intro uM h;refine sk (sq (bE h fun zS wP h=>r2 [iK 1 {} (zDD zU zS wP)] [1] [(2,Ii zS)] [0] [] 1 ?_));cases h;exact rt rx
end Go.Ab
