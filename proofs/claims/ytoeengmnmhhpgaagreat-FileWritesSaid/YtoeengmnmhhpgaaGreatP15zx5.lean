/- Printed: the typed Lean functions of the Go functions, or the proofs that the Go functions meet them. No conditions but those that the theorems name. -/
import Derived.Test.YtoeengmnmhhpgaaGreatP15zx4
namespace Go.Ab
open Go Go.Proofs
set_option linter.unusedVariables false
theorem VH (F:Nat) (zF:List Int) (r:Int×(List Int)×Int) (h:C6 F zF=some r):yS prog 30 [] [] [Sb zF] [] (.tuple [Iu r.1,Sb r.2.1,Ii r.2.2]):=by
 refine tI Tryz.f30 ?_;unfold C6 at h;refine sE [] [(0,Sb zF)] [] 0 (sq (c0 [iN 1 Fb zF] 12 h [] ?_ ?_))
 ·intro z8 h;refine s1 [] [0] [(2,Iu 0),(3,.nilsl),(4,Ii 0)] (wz [] [] [3] [] [(2,Iu 0),(3,.sl false 1 []),(4,Ii 0)] [] (ar ([]:List AV) an) ?_);cases h;exact rt rx
 intro z8 h;refine sk (sq (nE h fun zJ h=>r2 [iH 3 { id:=0 },iT 1 Fb zF 1 (by decide) zJ] [] [(5,Pp 0)] [] [(0,Vb 72 [Sb (sub zF 1 (lN zF)),.bool false])] 1 (sq (bE h fun zA zW h=>r2 [iK 1 { ids:=[0] } (a9 F (⟨sub zF 1 (lN zF),false⟩:uE) zA zW)] [] [(6,Ii zA.1)] [] [(0,Vb 72 (tU zA.2))] 1 (sq (bE h fun zC yU h=>r2 [iK 1 { ids:=[0] } (a9 F zA.2 zC yU)] [] [(7,Ii zC.1)] [] [(0,Vb 72 (tU zC.2))] 1 (sq (ad 37 h ?_ ?_ ?_))))))))
 ·rcases Bool.eq_false_or_eq_true zC.2.Bad with yE | yE
  ·exact rm [iG 5 2,iH 7 Ht,iG 9 7,iH 16 Ht,iR 3 yE,iX 7,iA true] (ort yE)
  ·rcases bft (decide (zA.1<0)) with yC | yC
   ·exact rm [iH 7 Hf,iG 9 7,iH 16 Ht,iR 3 yE,iR 8 yC] (orf yE (ort yC))
   ·exact rm [iH 7 Hf,iH 16 Hf,iR 3 yE,iR 6 yC,iN 14 Fb zC.2.B,iR 2 yC] (orf yE (orf yC rfl))
 ·intro yV h;refine s2 [] [0,5] [(2,Iu 0),(3,.nilsl),(4,Ii 0)] [0] [] 1 (wz [] [] [3] [] [(2,Iu 0),(3,.sl false 1 []),(4,Ii 0)] [] (ar ([]:List AV) an) ?_);cases h;exact rt rx
 intro yV h;refine sk (sq (nE h fun xB h=>r0 [iS 5 Fb zC.2.B 0 zA.1 (by decide) xB.1 xB.2] [(8,Sb (sub zC.2.B 0 zA.1))] (sq (bE h fun zH xR h=>nE h fun wA h=>r2 [iH 3 { id:=1 },iF 1 Fb xR,iA 1,iC trivial,iP 5 2 Fb [zH] (sub zC.2.B 0 zA.1) 1 wA] [] [(9,.own 2 ((([zH]++(sub zC.2.B 0 zA.1))).length))] [] [(2,Rb 5 1 (Mb ([zH]++(sub zC.2.B 0 zA.1))))] 3 (sq (sq (bE h fun zM wS h=>r2 [iM Fb ([zH]++(sub zC.2.B 0 zA.1)),iK 1 { frz:=[2] } (zA9 F ([zH]++(sub zC.2.B 0 zA.1)) zM wS)] [9] [(53,.bool (zM != zC.1))] [2] [] 3 (ch 53 h ?_ ?_))))))))
 ·intro xG h;refine s2 [] [0,5,8] [(2,Iu 0),(3,.nilsl),(4,Ii 0)] [0] [] 3 (wz [] [] [3] [] [(2,Iu 0),(3,.sl false 1 []),(4,Ii 0)] [] (ar ([]:List AV) an) ?_);cases h;exact rt rx
 intro xG h;refine sk (sq (bE h fun yO vB h=>r2 [iF 1 Fb vB,iN 5 Fb zF,iN 10 Fb zC.2.B] [0,5,8] [(2,Iu yO),(3,Sb (sub zC.2.B 0 zA.1)),(4,Ii (zI ((zI ((lN zF) - (lN zC.2.B)))+zA.1)))] [0] [] 3 ?_));cases h;exact rt rx
theorem TG (F:Nat) (zH:uE) (tH:Int) (r:Int×uE) (h:mX F zH tH=some r):yS prog 75 [(.var 72 (tU zH))] [] [Pp 0,Ii tH] [(.var 72 (tU r.2))] (Ii r.1):=by
 refine tI Tryz.f75 ?_;unfold mX at h;refine sE [] [(0,Pp 0),(1,Ii tH)] [(0,Vb 72 (tU zH))] 1 (sq (bE h fun zA zJ h=>r2 [iK 1 { ids:=[0] } (a9 F zH zA zJ)] [] [(5,Ii zA.1)] [] [(0,Vb 72 (tU zA.2))] 1 (sq (ad 14 h ?_ ?_ ?_))))
 ·rcases bft (decide (zA.1<0)) with zS | zS
  ·exact rm [iG 3 3,iH 6 Ht,iR 4 zS] (ort zS)
  ·exact rm [iH 6 Hf,iR 4 zS] (orf zS rfl)
 rotate_left
 ·intro z8 h;refine sk (s1 [] [0] [(4,Ii zA.1)] ?_);cases h;exact rt rx
 intro z8 h;refine s2 [] [0] [] [] [(0,Vb 72 [Sb zA.2.B,.bool true])] 1 (s0 [] [(4,Ii 0)] ?_);cases h;exact rt rx
theorem Z1 (F:Nat) (zF:List Int) (tH:Int) (r:(List Int)×Int×Int) (h:CL F zF tH=some r):yS prog 118 [] [] [Sb zF,Ii tH] [] (.tuple [.str r.1,Ii r.2.1,Ii r.2.2]):=by
 refine tI Tryz.f118 ?_;unfold CL at h;refine sE [] [(0,Sb zF),(1,Ii tH)] [] 0 (sq (bE h fun zA zJ h=>r0 [iK 1 {} (MT F zF zA zJ)] [(7,Ii zA.1),(8,Ii zA.2.1),(9,Ii zA.2.2)] (sq ?_)));refine yQ (id:=0) zk ?_;refine c0 [] 16 h [] ?_ ?_
 ·intro z8 h;refine s1 [] [0] [(4,.str ([]:List Int)),(5,Ii 0),(6,Ii zA.2.2)] ?_;cases h;exact rt rx
 intro z8 h;refine c0 [] 20 h [] ?_ ?_
 ·intro yV h;refine s1 [] [0] [(4,.str ([]:List Int)),(5,Ii 0),(6,Ii 10)] ?_;cases h;exact rt rx
 intro yV h;refine c0 [] 23 h [] ?_ ?_
 ·intro xG h;refine s1 [] [0] [(4,.str ([]:List Int)),(5,Ii 0),(6,Ii 7)] ?_;cases h;exact rt rx
 intro xG h;refine c0 [iN 2 Fb zF] 27 h [] ?_ ?_
 ·intro wR h;refine s1 [] [0] [(4,.str ([]:List Int)),(5,Ii 0),(6,Ii 8)] ?_;cases h;exact rt rx
 intro wR h;refine sk (sq (nE h fun zW h=>r1 [iH 6 { s:=sub zF zA.2.1 (zI (zA.2.1+zA.1)) },iS 5 Fb zF zA.2.1 (zI (zA.2.1+zA.1)) zW.1 zW.2.1 zW.2.2,iC (rfl:(Mb (sub zF zA.2.1 (zI (zA.2.1+zA.1))))=List.map (AV.int .u8) (sub zF zA.2.1 (zI (zA.2.1+zA.1))))] [0] [(4,.str (sub zF zA.2.1 (zI (zA.2.1+zA.1)))),(5,Ii (zI (zA.2.1+zA.1))),(6,Ii 0)] ?_));cases h;exact rt rx
theorem zH8 (F:Nat) (zH:uE) (r:(List Int)×uE) (h:D6 F zH=some r):yS prog 76 [(.var 72 (tU zH))] [] [Pp 0] [(.var 72 (tU r.2))] (.str r.1):=by
 refine tI Tryz.f76 ?_;unfold D6 at h;refine sE [] [(0,Pp 0)] [(0,Vb 72 (tU zH))] 1 (sq (bE h fun zA zJ h=>r0 [iK 4 {} (Z1 F zH.B 40 zA zJ)] [(3,.str zA.1),(4,Ii zA.2.1),(5,Ii zA.2.2)] (sq (c0 [] 16 h [] ?_ ?_))))
 ·intro z8 h;refine s2 [] [0] [] [] [(0,Vb 72 [Sb zH.B,.bool true])] 1 (s0 [] [(2,.str ([]:List Int))] ?_);cases h;exact rt rx
 intro z8 h;refine sk (sq (nE h fun zW h=>r2 [iT 6 Fb zH.B zA.2.1 zW.1 zW.2] [0] [] [] [(0,Vb 72 [Sb (sub zH.B zA.2.1 (lN zH.B)),.bool zH.Bad])] 1 (s0 [] [(2,.str zA.1)] ?_)));cases h;exact rt rx
theorem Y2 (F:Nat) (zH:uE) (r:yZ×uE) (h:BY F zH=some r):yS prog 32 [(.var 72 (tU zH))] [] [Pp 0] [(.var 72 (tU r.2))] (z9 r.1):=by
 refine tI Tryz.f32 ?_;unfold BY at h;refine sE [iH 0 { id:=1 }] [(0,Pp 0),(2,Pp 1)] [(0,Vb 72 (tU zH)),(1,Vb 76 [Ii 0,Ii 0,Ii 0,Ii 0,Ii 0])] 2 (sq (bE h fun zA zJ h=>r2 [iH 3 { id:=2 },iK 1 { ids:=[0] } (a9 F zH zA zJ)] [] [(3,Pp 2)] [] [(0,Vb 72 (tU zA.2)),(2,Vb 76 [Ii zA.1,Ii 0,Ii 0,Ii 0,Ii 0])] 3 (sq (bE h fun zC zW h=>r2 [iK 1 { ids:=[0] } (a9 F zA.2 zC zW)] [] [] [] [(0,Vb 72 (tU zC.2)),(2,Vb 76 [Ii zA.1,Ii zC.1,Ii 0,Ii 0,Ii 0])] 3 (sq (bE h fun zM yU h=>r2 [iK 1 { ids:=[0] } (a9 F zC.2 zM yU)] [] [] [] [(0,Vb 72 (tU zM.2)),(2,Vb 76 [Ii zA.1,Ii zC.1,Ii zM.1,Ii 0,Ii 0])] 3 (sq (bE h fun zT xB h=>r2 [iK 1 { ids:=[0] } (a9 F zM.2 zT xB)] [] [] [] [(0,Vb 72 (tU zT.2)),(2,Vb 76 [Ii zA.1,Ii zC.1,Ii zM.1,Ii zT.1,Ii 0])] 3 (sq (bE h fun zU xR h=>r2 [iK 1 { ids:=[0] } (a9 F zT.2 zU xR)] [0] [] [] [(0,Vb 72 (tU zU.2)),(2,Vb 76 [Ii zA.1,Ii zC.1,Ii zM.1,Ii zT.1,Ii zU.1])] 3 (s2 [] [3] [] [2] [(1,Vb 76 [Ii zA.1,Ii zC.1,Ii zM.1,Ii zT.1,Ii zU.1])] 3 ?_)))))))))));cases h;exact rt rx
theorem zFA (F:Nat) (zB:Int) (r:Bool) (h:KK F zB=some r):yS prog 140 [] [] [Iu zB] [] (.bool r):=by
 refine tI Tryz.f140 ?_;unfold KK at h;refine sE [] [(0,Iu zB)] [] 0 (sq (ad 26 h ?_ ?_ ?_))
 ·rcases bft (decide (zB>=97)) with zS | zS
  ·rcases bft (decide (zB<=122)) with z0 | z0
   ·exact rm [iH 5 Ht,iG 7 3,iH 12 Hg,iH 13 Ht,iG 15 3,iH 20 Hg,iH 21 Ht,iR 3 zS,iR 5 z0,iX 4,iA true] (ctr zS (ort z0))
   ·rcases bft (decide (zB>=65)) with yE | yE
    ·rcases bft (decide (zB<=90)) with yC | yC
     ·exact rm [iH 5 Ht,iH 12 Ht,iH 13 Hf,iG 15 3,iH 20 Hg,iH 21 Ht,iR 3 zS,iR 3 z0,iR 2 yE,iC z0,iC yE,iC z0,iR 5 yC] (ctr zS (orf z0 (ctr yE (ort yC))))
     ·rcases bft (decide (zB>=48)) with x6 | x6
      ·exact rm [iH 5 Ht,iH 12 Ht,iH 13 Hf,iH 20 Ht,iH 21 Hf,iR 3 zS,iR 3 z0,iR 2 yE,iC z0,iC yE,iC z0,iR 3 yC,iR 2 x6,iC yC,iC x6,iC yC] (ctr zS (orf z0 (ctr yE (orf yC (w9 x6 rfl)))))
      ·exact rm [iH 5 Ht,iH 12 Ht,iH 13 Hf,iG 18 2,iH 20 Hf,iH 21 Hf,iR 3 zS,iR 3 z0,iR 2 yE,iC z0,iC yE,iC z0,iR 3 yC,iR 2 x6,iC yC,iC x6,iC yC] (ctr zS (orf z0 (ctr yE (orf yC (uN x6)))))
    ·rcases bft (decide (zB>=48)) with wJ | wJ
     ·exact rm [iH 5 Ht,iG 10 2,iH 12 Hf,iH 13 Hf,iH 20 Ht,iH 21 Hf,iR 3 zS,iR 3 z0,iR 2 yE,iC z0,iC yE,iC z0,iQ 3 false,iR 2 wJ,iA false,iC wJ,iA false] (ctr zS (orf z0 (cfr yE (w9 wJ rfl))))
     ·exact rm [iH 5 Ht,iG 10 2,iH 12 Hf,iH 13 Hf,iG 18 2,iH 20 Hf,iH 21 Hf,iR 3 zS,iR 3 z0,iR 2 yE,iC z0,iC yE,iC z0,iQ 3 false,iR 2 wJ,iA false,iC wJ,iA false] (ctr zS (orf z0 (cfr yE (uN wJ))))
  ·rcases bft (decide (zB>=65)) with wN | wN
   ·rcases bft (decide (zB<=90)) with wK | wK
    ·exact rm [iG 3 2,iH 5 Hf,iH 12 Ht,iH 13 Hf,iG 15 3,iH 20 Hg,iH 21 Ht,iR 3 zS,iQ 3 false,iR 2 wN,iA false,iC wN,iA false,iR 5 wK] (cfr zS (ctr wN (ort wK)))
    ·rcases bft (decide (zB>=48)) with v4 | v4
     ·exact rm [iG 3 2,iH 5 Hf,iH 12 Ht,iH 13 Hf,iH 20 Ht,iH 21 Hf,iR 3 zS,iQ 3 false,iR 2 wN,iA false,iC wN,iA false,iR 3 wK,iR 2 v4,iC wK,iC v4,iC wK] (cfr zS (ctr wN (orf wK (w9 v4 rfl))))
     ·exact rm [iG 3 2,iH 5 Hf,iH 12 Ht,iH 13 Hf,iG 18 2,iH 20 Hf,iH 21 Hf,iR 3 zS,iQ 3 false,iR 2 wN,iA false,iC wN,iA false,iR 3 wK,iR 2 v4,iC wK,iC v4,iC wK] (cfr zS (ctr wN (orf wK (uN v4))))
   ·rcases bft (decide (zB>=48)) with vA | vA
    ·exact rm [iG 3 2,iH 5 Hf,iG 10 2,iH 12 Hf,iH 13 Hf,iH 20 Ht,iH 21 Hf,iR 3 zS,iQ 3 false,iR 2 wN,iA false,iC wN,iQ 4 false,iR 2 vA,iA false,iC vA,iA false] (cfr zS (cfr wN (w9 vA rfl)))
    ·exact rm [iG 3 2,iH 5 Hf,iG 10 2,iH 12 Hf,iH 13 Hf,iG 18 2,iH 20 Hf,iH 21 Hf,iR 3 zS,iQ 3 false,iR 2 wN,iA false,iC wN,iQ 4 false,iR 2 vA,iA false,iC vA,iA false] (cfr zS (cfr wN (uN vA)))
 ·intro z8 h;refine s0 [] [(2,.bool true)] ?_;cases h;exact rt rx
 intro z8 h;refine sk (s0 [] [(3,.str ([95,46,58,47,60,62,36,42,126,45]:List Int))] (sq (s0 [] [(4,Ii 0)] (bE h fun zE zJ h=>?_))));refine vL (K1:=kS prog zE 0 (fun q0=>mk [] [] 0) Tryz.f140 (fun q1=>[]) fun q1=>.bool q1) ?_ ?_
 ·replace h:=zJ;refine yQ (id:=0) zk ?_;refine w0 [] [] [(0,Iu zB),(3,.str ([95,46,58,47,60,62,36,42,126,45]:List Int)),(4,Ii 0)] [] ?_;refine wD (fun n st=>∃ (zQ:Int),st=mk [(0,Iu zB),(3,.str ([95,46,58,47,60,62,36,42,126,45]:List Int)),(4,Ii zQ)] [] 0/\g9 F zB n zQ=some zE) F zk ⟨_,rfl,h⟩ ?_ ?_
  ·rintro _ ⟨_,_,h⟩;exact wC (h:(none:Option (Unit⊕Bool))=some zE)
  rintro z5 _ ⟨zQ,rfl,h⟩;replace h:oW F zB (g9 F zB z5) zQ=some zE:=h;unfold oW at h;refine sq (c0 [] 30 h [] ?_ ?_)
  rotate_left
  ·intro yV h;refine wB (id:=0) zk ?_;cases h;exact ⟨rfl,(sI 0 [])⟩
  intro yV h;refine sk (sq ?_);refine yQ (id:=1) zk ?_;refine sq (bE h fun y5 zW h=>r0 [iH 2 { z:=y5 },iC zW] [(37,.bool (y5==zB))] (ch 37 h ?_ ?_))
  rotate_left
  ·intro xG h;refine sk (r0 [] [(4,Ii (zI (zQ+1)))] ?_);exact ⟨_,(sI 0 [0,3,4]),_,rfl,h⟩
  intro xG h;refine s0 [] [(2,.bool true)] ?_;cases h;exact rt ry
 intro e st1 hk;rcases zE with zX | xJ
 rotate_left
 ·obtain ⟨rfl,hf⟩:=hk;cases h;exact ⟨st1,Sub.refl _ _,.inr rfl,hf⟩
 obtain ⟨rfl,hs⟩:=hk;refine ⟨_,hs,?_⟩;refine s0 [] [(2,.bool false)] ?_;cases h;exact rt rx
theorem GN (F:Nat) (zL:List Int) (r:Int) (h:fV F zL=some r):yS prog 101 [] [] [.str zL] [] (Ii r):=by
 refine tI Tryz.f101 ?_;unfold fV at h;refine sE [] [(0,.str zL)] [] 0 (sq (ad 11 h ?_ ?_ ?_))
 ·rcases bft (decide ((lN zL)<1)) with zS | zS
  ·exact rm [iG 4 3,iH 7 Ht,iR 4 zS] (ort zS)
  ·exact rm [iH 7 Hf,iR 4 zS] (orf zS rfl)
 ·intro z8 h;refine s0 [] [(2,Ii 3)] ?_;cases h;exact rt rx
 intro z8 h;refine sk (sq (s0 [] [(3,Ii 0)] (bE h fun zE zJ h=>?_)));refine vL (K1:=kS prog zE 0 (fun q0=>mk [] [] 0) Tryz.f101 (fun q1=>[]) fun q1=>Ii q1) ?_ ?_
 ·replace h:=zJ;refine yQ (id:=0) zk ?_;refine w0 [] [] [(0,.str zL),(3,Ii 0)] [] ?_;refine wD (fun n st=>∃ (zQ:Int),st=mk [(0,.str zL),(3,Ii zQ)] [] 0/\EL F zL n zQ=some zE) F zk ⟨_,rfl,h⟩ ?_ ?_
  ·rintro _ ⟨_,_,h⟩;exact wC (h:(none:Option (Unit⊕Int))=some zE)
  rintro z5 _ ⟨zQ,rfl,h⟩;replace h:JX F zL (EL F zL z5) zQ=some zE:=h;unfold JX at h;refine sq (c0 [] 15 h [] ?_ ?_)
  rotate_left
  ·intro yV h;refine wB (id:=0) zk ?_;cases h;exact ⟨rfl,(sI 0 [])⟩
  intro yV h;refine sk (sq ?_);refine yQ (id:=1) zk ?_;refine sq (bE h fun zB zW h=>bE h fun zA yU h=>r0 [iH 2 { z:=zB },iC zW,iK 3 {} (zFA F zB zA yU)] [(22,.bool (!zA))] (ch 22 h ?_ ?_))
  rotate_left
  ·intro xG h;refine sk (r0 [] [(3,Ii (zI (zQ+1)))] ?_);exact ⟨_,(sI 0 [0,3]),_,rfl,h⟩
  intro xG h;refine s0 [] [(2,Ii 3)] ?_;cases h;exact rt ry
 intro e st1 hk;rcases zE with zX | xJ
 rotate_left
 ·obtain ⟨rfl,hf⟩:=hk;cases h;exact ⟨st1,Sub.refl _ _,.inr rfl,hf⟩
 obtain ⟨rfl,hs⟩:=hk;refine ⟨_,hs,?_⟩;refine s0 [] [(2,Ii 0)] ?_;cases h;exact rt rx
theorem zBm (F:Nat) (tO:xI) (r:Int) (h:KQ F tO=some r):yS prog 61 [] [] [yJ tO] [] (Ii r):=by
 refine tI Tryz.f61 ?_;unfold KQ at h;refine sE [iH 0 { id:=0 }] [(1,Pp 0)] [(0,Vb 85 (jZ tO))] 1 (sq (ad 20 h ?_ ?_ ?_))
 ·rcases bft (decide (tO.Id<0)) with zS | zS
  ·exact rm [iG 4 3,iH 7 Ht,iG 9 3,iH 12 Ht,iG 14 3,iH 17 Ht,iR 4 zS,iX 3,iA true,iX 3,iA true] (ort zS)
  ·rcases bft (decide (tO.Id>1000000000000000)) with z0 | z0
   ·exact rm [iH 7 Hf,iG 9 3,iH 12 Ht,iG 14 3,iH 17 Ht,iR 4 zS,iR 4 z0,iX 3,iA true] (orf zS (ort z0))
   ·rcases bft (decide (tO.Domain<0)) with yE | yE
    ·exact rm [iH 7 Hf,iH 12 Hf,iG 14 3,iH 17 Ht,iR 4 zS,iR 4 z0,iR 4 yE] (orf zS (orf z0 (ort yE)))
    ·exact rm [iH 7 Hf,iH 12 Hf,iH 17 Hf,iR 4 zS,iR 4 z0,iR 4 yE] (orf zS (orf z0 (orf yE rfl)))
 ·intro z8 h;refine s2 [] [1] [(2,Ii 2)] [0] [] 1 ?_;cases h;exact rt rx
 intro z8 h;refine sk (sq (bE h fun zA zJ h=>r2 [iK 2 {} (GN F tO.Name zA zJ)] [1] [(2,Ii zA)] [0] [] 1 ?_));cases h;exact rt rx
theorem J9 (F:Nat) (zG:List xA) (qL:Int) (r:Int) (h:gJ F zG qL=some r):yS prog 77 [] [] [Sq 2 yA zG,Ii qL] [] (Ii r):=by
 refine tI Tryz.f77 ?_;unfold gJ at h;refine sE [] [(0,Sq 2 yA zG),(1,Ii qL)] [] 0 (sq (s0 [] [(5,Ii 0)] (bE h fun zE zJ h=>?_)));refine vL (K1:=kS prog zE 0 (fun q0=>mk [] [] 0) Tryz.f77 (fun q1=>[]) fun q1=>Ii q1) ?_ ?_
 ·replace h:=zJ;refine yQ (id:=0) zk ?_;refine w0 [] [] [(0,Sq 2 yA zG),(1,Ii qL),(5,Ii 0)] [] ?_;refine wD (fun n st=>∃ (zQ:Int),st=mk [(0,Sq 2 yA zG),(1,Ii qL),(5,Ii zQ)] [] 0/\K5 F zG qL n zQ=some zE) F zk ⟨_,rfl,h⟩ ?_ ?_
  ·rintro _ ⟨_,_,h⟩;exact wC (h:(none:Option (Unit⊕Int))=some zE)
  rintro z5 _ ⟨zQ,rfl,h⟩;replace h:m4 F zG qL (K5 F zG qL z5) zQ=some zE:=h;unfold m4 at h;refine sq (c0 [iN 2 yA zG] 9 h [] ?_ ?_)
  rotate_left
  ·intro z8 h;refine wB (id:=0) zk ?_;cases h;exact ⟨rfl,(sI 0 [])⟩
  intro z8 h;refine sk (sq ?_);refine yQ (id:=1) zk ?_;refine sq (bE h fun zH zW h=>r0 [iF 2 yA zW] [(18,.bool (zH.Id==qL))] (ch 18 h ?_ ?_))
  rotate_left
  ·intro yV h;refine sk (r0 [] [(5,Ii (zI (zQ+1)))] ?_);exact ⟨_,(sI 0 [0,1,5]),_,rfl,h⟩
  intro yV h;refine s1 [] [0] [(4,Ii zQ)] ?_;cases h;exact rt ry
 intro e st1 hk;rcases zE with zX | xJ
 rotate_left
 ·obtain ⟨rfl,hf⟩:=hk;cases h;exact ⟨st1,Sub.refl _ _,.inr rfl,hf⟩
 obtain ⟨rfl,hs⟩:=hk;refine ⟨_,hs,?_⟩;refine s0 [] [(4,Ii (-1))] ?_;cases h;exact rt rx
theorem fW (z5:Int) (r:Bool) (h:CG z5=some r):yS prog 119 [] [] [Ii z5] [] (.bool r):=by
 refine tI Tryz.f119 ?_;unfold CG at h;refine sE [] [(0,Ii z5)] [] 0 (sq (am 2 (decide (z5>=0)&&decide (z5<=1000000000000)) ?_ ?_))
 ·rcases bft (decide (z5>=0)) with zS | zS
  ·exact rm [iH 5 Ht,iR 3 zS] (w9 zS rfl)
  ·exact rm [iG 3 2,iH 5 Hf,iR 3 zS] (uN zS)
 cases h;exact rt rx
theorem zFh (F:Nat) (zG:List xA) (zH:yZ) (r:Int) (h:K2 F zG zH=some r):yS prog 78 [] [] [Sq 2 yA zG,z9 zH] [] (Ii r):=by
 refine tI Tryz.f78 ?_;unfold K2 at h;refine sE [iH 0 { id:=0 }] [(0,Sq 2 yA zG),(3,Pp 0)] [(0,Vb 76 (pL zH))] 1 (sq ?_);refine yQ (id:=0) zk ?_;refine sq (bE h fun zN yU h=>?_);refine xP (mk [(3,Pp 0),(5,.bool zN)] [(0,Vb 76 (pL zH))] 1) ?_ ?_
 ·replace h:=yU;refine bE h fun zA zJ h=>?_;rcases bft (decide (zA<0)) with zS | zS
  ·replace h:=xN zS h;refine r1 [iG 6 5,iH 11 Ht,iK 3 {} (J9 F zG zH.A zA zJ),iR 6 zS] [0] [(5,.bool true)] ?_;cases h;exact ⟨rfl,(sI 1 [3,5])⟩
  ·replace h:=xO zS h;refine bE h fun zC zW h=>r1 [iH 11 Hf,iK 3 {} (J9 F zG zH.A zA zJ),iR 4 zS,iK 9 {} (J9 F zG zH.B zC zW),iR 2 zS] [0] [(5,.bool (decide (zC<0)))] ?_;cases h;exact ⟨rfl,(sI 1 [3,5])⟩
 refine ch 5 h ?_ ?_
 ·intro z8 h;refine s2 [] [3] [(4,Ii 5)] [0] [] 1 ?_;cases h;exact rt rx
 intro z8 h;refine c0 [] 18 h [] ?_ ?_
 ·intro yV h;refine s2 [] [3] [(4,Ii 1)] [0] [] 1 ?_;cases h;exact rt rx
 intro yV h;refine sq (bE h fun uW wS h=>?_);refine xP (mk [(24,.bool uW)] [] 0) ?_ ?_
 ·replace h:=wS;refine bE h fun zM xB h=>?_;rcases bft (!zM) with z0 | z0
  ·replace h:=xN z0 h;refine r2 [iG 5 5,iH 10 Ht,iG 12 5,iH 17 Ht,iG 19 7,iH 26 Ht,iK 2 {} (fW zH.AtA zM xB),iR 6 z0,iX 5,iA true,iX 7,iA true] [3] [(24,.bool true)] [0] [] 1 ?_;cases h;exact ⟨rfl,(sI 0 [24])⟩
  ·replace h:=xO z0 h;refine bE h fun zT xR h=>?_;rcases bft (!zT) with yE | yE
   ·replace h:=xN yE h;refine r2 [iH 10 Hf,iG 12 5,iH 17 Ht,iG 19 7,iH 26 Ht,iK 2 {} (fW zH.AtA zM xB),iR 4 z0,iK 8 {} (fW zH.AtB.Lo zT xR),iR 2 z0,iR 6 yE,iX 7,iA true] [3] [(24,.bool true)] [0] [] 1 ?_;cases h;exact ⟨rfl,(sI 0 [24])⟩
   ·replace h:=xO yE h;refine bE h fun zU wA h=>?_;rcases bft (!zU) with yC | yC
    ·replace h:=xN yC h;refine r2 [iH 10 Hf,iH 17 Hf,iG 19 7,iH 26 Ht,iK 2 {} (fW zH.AtA zM xB),iR 4 z0,iK 8 {} (fW zH.AtB.Lo zT xR),iR 2 z0,iR 4 yE,iK 15 {} (fW zH.AtB.Hi zU wA),iR 2 yE,iR 8 yC] [3] [(24,.bool true)] [0] [] 1 ?_;cases h;exact ⟨rfl,(sI 0 [24])⟩
    ·replace h:=xO yC h;refine r2 [iH 10 Hf,iH 17 Hf,iH 26 Hf,iK 2 {} (fW zH.AtA zM xB),iR 4 z0,iK 8 {} (fW zH.AtB.Lo zT xR),iR 2 z0,iR 4 yE,iK 15 {} (fW zH.AtB.Hi zU wA),iR 2 yE,iR 8 yC] [3] [(24,.bool (decide (zH.AtB.Lo>zH.AtB.Hi)))] [0] [] 1 ?_;cases h;exact ⟨rfl,(sI 0 [24])⟩
 refine ch 24 h ?_ ?_
 ·intro xG h;refine s0 [] [(4,Ii 2)] ?_;cases h;exact rt rx
 intro xG h;refine sk (s0 [] [(4,Ii 0)] ?_);cases h;exact rt rx
theorem GD (F:Nat) (zG:List xA) (zO:List yZ) (r:Int) (h:g7 F zG zO=some r):yS prog 33 [] [] [Sq 2 yA zG,Sq 5 z9 zO] [] (Ii r):=by
 refine tI Tryz.f33 ?_;unfold g7 at h;refine sE [] [(0,Sq 2 yA zG),(1,Sq 5 z9 zO)] [] 0 (sq ?_);refine yQ (id:=0) zk ?_;refine c0 [iN 1 yA zG] 8 h [] ?_ ?_
 ·intro z8 h;refine s1 [] [0,1] [(4,Ii 8)] ?_;cases h;exact rt rx
 intro z8 h;refine ad 12 h ?_ ?_ ?_
 ·rcases bft (decide ((lN zG)>8)) with zS | zS
  ·exact rm [iG 4 3,iH 7 Ht,iN 1 yA zG,iR 4 zS] (ort zS)
  ·exact rm [iH 7 Hf,iN 1 yA zG,iR 2 zS,iN 5 z9 zO,iR 2 zS] (orf zS rfl)
 ·intro yV h;refine s1 [] [0,1] [(4,Ii 7)] ?_;cases h;exact rt rx
 intro yV h;refine sq (bE h fun zN yU h=>?_);refine xP (mk [(0,Sq 2 yA zG),(1,Sq 5 z9 zO),(21,.bool zN)] [] 0) ?_ ?_
 ·replace h:=yU;refine bE h fun zH zJ h=>?_;rcases bft (zH.Id != 0) with z0 | z0
  ·replace h:=xN z0 h;refine r0 [iG 6 5,iH 11 Ht,iF 1 yA zJ,iR 6 z0] [(21,.bool true)] ?_;cases h;exact ⟨rfl,(sI 0 [0,1,21])⟩
  ·replace h:=xO z0 h;refine bE h fun yO zW h=>r0 [iH 11 Hf,iF 1 yA zJ,iR 2 z0,iF 7 yA zW,iR 4 z0] [(21,.bool (yO.Ppm != 0))] ?_;cases h;exact ⟨rfl,(sI 0 [0,1,21])⟩
 refine ch 21 h ?_ ?_
 ·intro xG h;refine s1 [] [0,1] [(4,Ii 10)] ?_;cases h;exact rt rx
 intro xG h;refine sk (sq (s0 [] [(5,Ii 0)] (bE h fun zE xB h=>?_)));refine vL (K1:=kS prog zE 0 (fun q0=>mk [(0,Sq 2 yA zG),(1,Sq 5 z9 zO)] [] 0) Tryz.f33 (fun q1=>[]) fun q1=>Ii q1) ?_ ?_
 ·replace h:=xB;refine yQ (id:=1) zk ?_;refine w0 [] [] [(0,Sq 2 yA zG),(1,Sq 5 z9 zO),(5,Ii 0)] [] ?_;refine wD (fun n st=>∃ (zQ:Int),st=mk [(0,Sq 2 yA zG),(1,Sq 5 z9 zO),(5,Ii zQ)] [] 0/\J5 F zG n zQ=some zE) F zk ⟨_,rfl,h⟩ ?_ ?_
  ·rintro _ ⟨_,_,h⟩;exact wC (h:(none:Option (Unit⊕Int))=some zE)
  rintro z5 _ ⟨zQ,rfl,h⟩;replace h:m8 F zG (J5 F zG z5) zQ=some zE:=h;unfold m8 at h;refine sq (c0 [iN 2 yA zG] 37 h [] ?_ ?_)
  rotate_left
  ·intro wR h;refine wB (id:=1) zk ?_;cases h;exact ⟨rfl,(sI 0 [0,1])⟩
  intro wR h;refine sk (sq ?_);refine yQ (id:=2) zk ?_;refine sq (sq (bE h fun uW vM h=>?_));refine xP (mk [(0,Sq 2 yA zG),(1,Sq 5 z9 zO),(5,Ii zQ),(69,.bool uW)] [] 0) ?_ ?_
  ·replace h:=vM;refine bE h fun xE xR h=>?_;rcases bft (decide (xE.Id<0)) with wP | wP
   ·replace h:=xN wP h;refine r0 [iG 7 6,iH 13 Ht,iG 15 6,iH 21 Ht,iG 23 6,iH 29 Ht,iF 2 yA xR,iR 7 wP,iX 6,iA true,iX 6,iA true] [(47,.tuple []),(48,.tuple []),(49,.tuple []),(50,.tuple []),(51,.tuple []),(52,.tuple []),(55,.tuple []),(56,.tuple []),(57,.tuple []),(58,.tuple []),(59,.tuple []),(60,.tuple []),(63,.tuple []),(64,.tuple []),(65,.tuple []),(66,.tuple []),(67,.tuple []),(68,.tuple []),(69,.bool true)] ?_;cases h;exact ⟨rfl,(sI 0 [0,1,5,69])⟩
   ·replace h:=xO wP h;refine bE h fun wI wA h=>?_;rcases bft (decide (wI.Id>=8)) with wW | wW
    ·replace h:=xN wW h;refine r0 [iH 13 Hf,iG 15 6,iH 21 Ht,iG 23 6,iH 29 Ht,iF 2 yA xR,iR 3 wP,iF 9 yA wA,iR 4 wP,iR 7 wW,iX 6,iA true] [(47,Sq 2 yA zG),(48,Ii zQ),(49,.ref (yA wI)),(50,.ref (Ii wI.Id)),(51,Ii wI.Id),(52,.bool (decide (wI.Id>=8))),(55,.tuple []),(56,.tuple []),(57,.tuple []),(58,.tuple []),(59,.tuple []),(60,.tuple []),(63,.tuple []),(64,.tuple []),(65,.tuple []),(66,.tuple []),(67,.tuple []),(68,.tuple []),(69,.bool true)] ?_;cases h;exact ⟨rfl,(sI 0 [0,1,5,69])⟩
    ·replace h:=xO wW h;refine bE h fun vG wS h=>?_;rcases bft (decide (vG.Ppm<0)) with uI | uI
     ·replace h:=xN uI h;refine r0 [iH 13 Hf,iH 21 Hf,iG 23 6,iH 29 Ht,iF 2 yA xR,iR 3 wP,iF 9 yA wA,iR 4 wP,iR 3 wW,iF 17 yA wS,iR 4 wW,iR 7 uI] [(47,Sq 2 yA zG),(48,Ii zQ),(49,.ref (yA wI)),(50,.ref (Ii wI.Id)),(51,Ii wI.Id),(52,.bool (decide (wI.Id>=8))),(55,Sq 2 yA zG),(56,Ii zQ),(57,.ref (yA vG)),(58,.ref (Ii vG.Ppm)),(59,Ii vG.Ppm),(60,.bool (decide (vG.Ppm<0))),(63,.tuple []),(64,.tuple []),(65,.tuple []),(66,.tuple []),(67,.tuple []),(68,.tuple []),(69,.bool true)] ?_;cases h;exact ⟨rfl,(sI 0 [0,1,5,69])⟩
     ·replace h:=xO uI h;refine bE h fun uV vB h=>r0 [iH 13 Hf,iH 21 Hf,iH 29 Hf,iF 2 yA xR,iR 3 wP,iF 9 yA wA,iR 4 wP,iR 3 wW,iF 17 yA wS,iR 4 wW,iR 3 uI,iF 25 yA vB,iR 4 uI] [(47,Sq 2 yA zG),(48,Ii zQ),(49,.ref (yA wI)),(50,.ref (Ii wI.Id)),(51,Ii wI.Id),(52,.bool (decide (wI.Id>=8))),(55,Sq 2 yA zG),(56,Ii zQ),(57,.ref (yA vG)),(58,.ref (Ii vG.Ppm)),(59,Ii vG.Ppm),(60,.bool (decide (vG.Ppm<0))),(63,Sq 2 yA zG),(64,Ii zQ),(65,.ref (yA uV)),(66,.ref (Ii uV.Ppm)),(67,Ii uV.Ppm),(68,.bool (decide (uV.Ppm>10000))),(69,.bool (decide (uV.Ppm>10000)))] ?_;cases h;exact ⟨rfl,(sI 0 [0,1,5,69])⟩
  refine ch 69 h ?_ ?_
  ·intro vR h;refine s1 [] [0,1] [(4,Ii 2)] ?_;cases h;exact rt ry
  intro vR h;refine sk (sq (bE h fun nL v7 h=>bE h fun zA uB h=>r0 [iF 3 yA v7,iK 6 {} (J9 F zG nL.Id zA uB)] [(78,.bool (decide (zA<zQ)))] (ch 78 h ?_ ?_)))
  rotate_left
  ·intro uO h;refine sk (r0 [] [(5,Ii (zI (zQ+1)))] ?_);exact ⟨_,(sI 0 [0,1,5]),_,rfl,h⟩
  intro uO h;refine s1 [] [0,1] [(4,Ii 4)] ?_;cases h;exact rt ry
 intro e st1 hk;rcases zE with zX | xJ
 rotate_left
 ·obtain ⟨rfl,hf⟩:=hk;cases h;exact ⟨st1,Sub.refl _ _,.inr rfl,hf⟩
 obtain ⟨rfl,hs⟩:=hk;refine ⟨_,hs,?_⟩;refine sq (s0 [] [(6,Ii 0)] (bE h fun zR uX h=>?_));refine vL (K1:=kS prog zR 0 (fun q0=>mk [] [] 0) Tryz.f33 (fun q1=>[]) fun q1=>Ii q1) ?_ ?_
 ·replace h:=uX;refine yQ (id:=3) zk ?_;refine w0 [] [] [(0,Sq 2 yA zG),(1,Sq 5 z9 zO),(6,Ii 0)] [] ?_;refine wD (fun n st=>∃ (y9:Int),st=mk [(0,Sq 2 yA zG),(1,Sq 5 z9 zO),(6,Ii y9)] [] 0/\J3 F zG zO n y9=some zR) F zk ⟨_,rfl,h⟩ ?_ ?_
  ·rintro _ ⟨_,_,h⟩;exact wC (h:(none:Option (Unit⊕Int))=some zR)
  rintro uA _ ⟨y9,rfl,h⟩;replace h:oV F zG zO (J3 F zG zO uA) y9=some zR:=h;unfold oV at h;refine sq (c0 [iN 2 z9 zO] 82 h [] ?_ ?_)
  rotate_left
  ·intro tJ h;refine wB (id:=3) zk ?_;cases h;exact ⟨rfl,(sI 0 [])⟩
  intro tJ h;refine sk (sq ?_);refine yQ (id:=4) zk ?_;refine sq (bE h fun lA u5 h=>bE h fun zC uP h=>r0 [iF 3 z9 u5,iK 5 {} (zFh F zG lA zC uP)] [(7,Ii zC)] (c0 [] 92 h [] ?_ ?_))
  rotate_left
  ·intro qU h;refine sk (r0 [] [(6,Ii (zI (y9+1)))] ?_);exact ⟨_,(sI 0 [0,1,6]),_,rfl,h⟩
  intro qU h;refine s1 [] [0,1] [(4,Ii zC)] ?_;cases h;exact rt ry
 intro e st1 hk;rcases zR with vQ | t3
 rotate_left
 ·obtain ⟨rfl,hf⟩:=hk;cases h;exact ⟨st1,Sub.refl _ _,.inr rfl,hf⟩
 obtain ⟨rfl,hs⟩:=hk;refine ⟨_,hs,?_⟩;refine s0 [] [(4,Ii 0)] ?_;cases h;exact rt rx
theorem zD7 (F:Nat) (zG:List xA) (qL:Int) (r:Int×Bool) (h:G6 F zG qL=some r):yS prog 62 [] [] [Sq 2 yA zG,Ii qL] [] (.tuple [Ii r.1,.bool r.2]):=by
 refine tI Tryz.f62 ?_;unfold G6 at h;refine sE [] [(0,Sq 2 yA zG),(1,Ii qL)] [] 0 (sq (bE h fun zA zJ h=>r0 [iK 2 {} (J9 F zG qL zA zJ)] [(6,Ii zA)] (sq (sq (bE h fun zN yU h=>?_)))));refine xP (mk [(0,Sq 2 yA zG),(6,Ii zA),(16,.bool zN)] [] 0) ?_ ?_
 ·replace h:=yU;refine bE h fun zC zW h=>?_;rcases bft (zC != 0) with zS | zS
  ·replace h:=xN zS h;refine r0 [iG 4 2,iH 6 Ht,iL 1 {} [Sq 2 yA zG,.nilsl] (GD F zG [] zC zW) ⟨rfl,rfl,rfl,rfl,trivial⟩,iR 3 zS] [(16,.bool true)] ?_;cases h;exact ⟨rfl,(sI 0 [0,6,16])⟩
  ·replace h:=xO zS h;refine r0 [iH 6 Hf,iL 1 {} [Sq 2 yA zG,.nilsl] (GD F zG [] zC zW) ⟨rfl,rfl,rfl,rfl,trivial⟩,iR 3 zS] [(16,.bool (decide (zA<0)))] ?_;cases h;exact ⟨rfl,(sI 0 [0,6,16])⟩
 refine ch 16 h ?_ ?_
 ·intro z8 h;refine s1 [] [0] [(4,Ii 0),(5,.bool false)] ?_;cases h;exact rt rx
 intro z8 h;refine sk (sq (bE h fun zH xB h=>r1 [iF 2 yA xB] [0] [(4,Ii zH.Ppm),(5,.bool true)] ?_));cases h;exact rt rx
theorem WC (F:Nat) (zJ:yB) (r:Int) (h:DP F zJ=some r):yS prog 21 [] [] [qO zJ] [] (Ii r):=by
 refine tI Tryz.f21 ?_;unfold DP at h;refine sE [iH 0 { id:=0 }] [(1,Pp 0)] [(0,Vb 28 (wL zJ))] 1 (sq (c0 [iN 2 yJ zJ.Threads] 13 h [] ?_ ?_))
 ·intro z8 h;refine s2 [] [1] [(2,Ii 8)] [0] [] 1 ?_;cases h;exact rt rx
 intro z8 h;refine sk (sq (c0 [iN 2 yJ zJ.Threads] 17 h [] ?_ ?_))
 ·intro yV h;refine s2 [] [1] [(2,Ii 7)] [0] [] 1 ?_;cases h;exact rt rx
 intro yV h;refine sk (sq (s0 [] [(3,Ii 0)] (bE h fun zE zW h=>?_)));refine vL (K1:=kS prog zE 0 (fun q0=>mk [(1,Pp 0)] [(0,Vb 28 (wL zJ))] 1) Tryz.f21 (fun q1=>[]) fun q1=>Ii q1) ?_ ?_
 ·replace h:=zW;refine yQ (id:=0) zk ?_;refine w0 [0] [] [(1,Pp 0),(3,Ii 0)] [(0,Vb 28 (wL zJ))] ?_;refine wD (fun n st=>∃ (zQ:Int),st=mk [(1,Pp 0),(3,Ii zQ)] [(0,Vb 28 (wL zJ))] 1/\JB F zJ n zQ=some zE) F zk ⟨_,rfl,h⟩ ?_ ?_
  ·rintro _ ⟨_,_,h⟩;exact wC (h:(none:Option (Unit⊕Int))=some zE)
  rintro z5 _ ⟨zQ,rfl,h⟩;replace h:o4 F zJ (JB F zJ z5) zQ=some zE:=h;unfold o4 at h;refine sq (c0 [iN 3 yJ zJ.Threads] 22 h [] ?_ ?_)
  rotate_left
  ·intro xG h;refine wB (id:=0) zk ?_;cases h;exact ⟨rfl,(sI 1 [1])⟩
  intro xG h;refine sk (sq ?_);refine yQ (id:=1) zk ?_;refine sq (bE h fun zH yU h=>bE h fun zA xB h=>r0 [iF 3 yJ yU,iK 5 {} (zBm F zH zA xB)] [(4,Ii zA)] (sq (c0 [] 32 h [] ?_ ?_)))
  ·intro wR h;refine s2 [] [1] [(2,Ii zA)] [0] [] 1 ?_;cases h;exact rt ry
  intro wR h;refine sk (s0 [] [(5,Ii 0)] (bE h fun zR xR h=>?_));refine vL (K1:=kS prog zR 0 (fun q0=>mk [(1,Pp 0),(3,Ii zQ)] [(0,Vb 28 (wL zJ))] 1) Tryz.f21 (fun q1=>[]) fun q1=>Ii q1) ?_ ?_
  ·replace h:=xR;refine yQ (id:=2) zk ?_;refine w0 [0] [] [(1,Pp 0),(3,Ii zQ),(5,Ii 0)] [(0,Vb 28 (wL zJ))] ?_;refine wD (fun n st=>∃ (xH:Int),st=mk [(1,Pp 0),(3,Ii zQ),(5,Ii xH)] [(0,Vb 28 (wL zJ))] 1/\B2 F zJ zQ n xH=some zR) F zk ⟨_,rfl,h⟩ ?_ ?_
   ·rintro _ ⟨_,_,h⟩;exact wC (h:(none:Option (Unit⊕Int))=some zR)
   rintro uA _ ⟨xH,rfl,h⟩;replace h:lR F zJ zQ (B2 F zJ zQ uA) xH=some zR:=h;unfold lR at h;refine sq (c0 [] 36 h [] ?_ ?_)
   rotate_left
   ·intro vR h;refine wB (id:=2) zk ?_;cases h;exact ⟨rfl,(sI 1 [1,3])⟩
   intro vR h;refine sk (sq ?_);refine yQ (id:=3) zk ?_;refine sq (bE h fun yO wA h=>bE h fun xE wS h=>r0 [iF 3 yJ wA,iF 9 yJ wS] [(51,.bool (yO.Id==xE.Id))] (ch 51 h ?_ ?_))
   rotate_left
   ·intro uO h;refine sk (r0 [] [(5,Ii (zI (xH+1)))] ?_);exact ⟨_,(sI 1 [1,3,5]),_,rfl,h⟩
   intro uO h;refine s2 [] [1] [(2,Ii 4)] [0] [] 1 ?_;cases h;exact rt ry
  intro e st1 hk;rcases zR with zX | xJ
  rotate_left
  ·obtain ⟨rfl,hf⟩:=hk;cases h;exact ⟨_,Sub.refl _ _,rfl,hf⟩
  obtain ⟨rfl,hs⟩:=hk;refine ⟨_,hs,?_⟩;refine r0 [] [(3,Ii (zI (zQ+1)))] ?_;exact ⟨_,(sI 1 [1,3]),_,rfl,h⟩
 intro e st1 hk;rcases zE with vQ | t3
 rotate_left
 ·obtain ⟨rfl,hf⟩:=hk;cases h;exact ⟨st1,Sub.refl _ _,.inr rfl,hf⟩
 obtain ⟨rfl,hs⟩:=hk;refine ⟨_,hs,?_⟩;refine sq (bE h fun zC vB h=>r0 [iK 4 {} (GD F zJ.Domains zJ.Snaps zC vB)] [(6,Ii zC)] (sq (c0 [] 58 h [] ?_ ?_)))
 ·intro tJ h;refine s2 [] [1] [(2,Ii zC)] [0] [] 1 ?_;cases h;exact rt rx
 intro tJ h;refine sk (sq (s0 [] [(7,Ii 0)] (bE h fun yK vM h=>?_)));refine vL (K1:=kS prog yK 0 (fun q0=>mk [] [] 0) Tryz.f21 (fun q1=>[]) fun q1=>Ii q1) ?_ ?_
 ·replace h:=vM;refine yQ (id:=4) zk ?_;refine w0 [0] [] [(1,Pp 0),(7,Ii 0)] [(0,Vb 28 (wL zJ))] ?_;refine wD (fun n st=>∃ (y9:Int),st=mk [(1,Pp 0),(7,Ii y9)] [(0,Vb 28 (wL zJ))] 1/\AH F zJ n y9=some yK) F zk ⟨_,rfl,h⟩ ?_ ?_
  ·rintro _ ⟨_,_,h⟩;exact wC (h:(none:Option (Unit⊕Int))=some yK)
  rintro t5 _ ⟨y9,rfl,h⟩;replace h:lW F zJ (AH F zJ t5) y9=some yK:=h;unfold lW at h;refine sq (c0 [iN 3 yJ zJ.Threads] 64 h [] ?_ ?_)
  rotate_left
  ·intro qU h;refine wB (id:=4) zk ?_;cases h;exact ⟨rfl,(sI 0 [])⟩
  intro qU h;refine sk (sq ?_);refine yQ (id:=5) zk ?_;refine sq (bE h fun wI v7 h=>bE h fun zM uB h=>r0 [iF 5 yJ v7,iK 8 {} (zD7 F zJ.Domains wI.Domain zM uB)] [(9,.bool zM.2)] (c0 [] 80 h [] ?_ ?_))
  rotate_left
  ·intro a8 h;refine sk (r0 [] [(7,Ii (zI (y9+1)))] ?_);exact ⟨_,(sI 1 [1,7]),_,rfl,h⟩
  intro a8 h;refine s2 [] [1] [(2,Ii 5)] [0] [] 1 ?_;cases h;exact rt ry
 intro e st1 hk;rcases yK with q_5 | q_6
 rotate_left
 ·obtain ⟨rfl,hf⟩:=hk;cases h;exact ⟨st1,Sub.refl _ _,.inr rfl,hf⟩
 obtain ⟨rfl,hs⟩:=hk;refine ⟨_,hs,?_⟩;refine s0 [] [(2,Ii 0)] ?_;cases h;exact rt rx
theorem zEr (F:Nat) (zF:List Int) (r:yB×Bool) (h:KH F zF=some r):yS prog 31 [] [] [Sb zF] [] (.tuple [qO r.1,.bool r.2]):=by
 refine tI Tryz.f31 ?_;unfold KH at h;refine sE [iH 0 { id:=0 }] [(0,Sb zF),(2,Pp 0)] [(0,nT)] 1 ?_;refine qB (jH 0 0 1 85 3 zk) ?_;refine qB (jH 0 1 2 87 2 zk) ?_;refine qB (jH 0 2 3 76 5 zk) ?_;refine w0 [0,1,2,3] [] [(0,Sb zF),(2,Pp 0)] [(0,jG),(1,Rb 85 3 []),(2,Rb 87 2 []),(3,Rb 76 5 [])] (s2 [iH 2 { id:=4 }] [0] [(4,Pp 4)] [] [(4,Vb 72 [Sb zF,.bool false])] 5 (s2 [iH 0 { id:=5 }] [] [(5,Pp 5)] [] [(5,nT)] 6 ?_));refine qB (jH 5 0 6 85 3 zk) ?_;refine qB (jH 5 1 7 87 2 zk) ?_;refine qB (jH 5 2 8 76 5 zk) ?_;refine w0 [0,1,2,3,4,5,6,7,8] [] [(2,Pp 0),(4,Pp 4),(5,Pp 5)] [(0,jG),(1,Rb 85 3 []),(2,Rb 87 2 []),(3,Rb 76 5 []),(4,Vb 72 [Sb zF,.bool false]),(5,Vb 28 [.own 6 0,.own 7 0,.own 8 0]),(6,Rb 85 3 []),(7,Rb 87 2 []),(8,Rb 76 5 [])] (sq (bE h fun zA zJ h=>r2 [iJ 1 { ids:=[4] } [Pp 4,Ii 64] (TG F (⟨zF,false⟩:uE) 64 zA zJ)] [] [(6,Ii zA.1)] [] [(4,Vb 72 (tU zA.2))] 9 (sq (s0 [] [(7,Ii 0)] (bE h fun zE zW h=>?_)))));refine xP (mk [(2,Pp 0),(4,Pp 4),(5,Pp 5)] [(0,jG),(1,Rb 85 3 []),(2,Rb 87 2 []),(3,Rb 76 5 []),(4,Vb 72 [Sb zE.1,.bool zE.2.1]),(5,Vb 28 [.own 6 zE.2.2.length,.own 7 0,.own 8 0]),(6,Rb 85 3 (Mp yJ zE.2.2)),(7,Rb 87 2 []),(8,Rb 76 5 [])] 9) ?_ ?_
 ·replace h:=zW;refine yQ (id:=0) zk ?_;refine w0 [0,1,2,3,4,5,6,7,8] [] [(2,Pp 0),(4,Pp 4),(5,Pp 5),(6,Ii zA.1),(7,Ii 0)] [(0,jG),(1,Rb 85 3 []),(2,Rb 87 2 []),(3,Rb 76 5 []),(4,Vb 72 (tU zA.2)),(5,Vb 28 [.own 6 0,.own 7 0,.own 8 0]),(6,Rb 85 3 []),(7,Rb 87 2 []),(8,Rb 76 5 [])] ?_;refine wD (fun n st=>∃ (zQ:Int),∃ (zB:List Int),∃ (y5:Bool),∃ (zK:List xI),st=mk [(2,Pp 0),(4,Pp 4),(5,Pp 5),(6,Ii zA.1),(7,Ii zQ)] [(0,jG),(1,Rb 85 3 []),(2,Rb 87 2 []),(3,Rb 76 5 []),(4,Vb 72 [Sb zB,.bool y5]),(5,Vb 28 [.own 6 zK.length,.own 7 0,.own 8 0]),(6,Rb 85 3 (Mp yJ zK)),(7,Rb 87 2 []),(8,Rb 76 5 [])] 9/\BD F zA n zQ zB y5 zK=some zE) F zk ⟨_,_,_,_,rfl,h⟩ ?_ ?_
  ·rintro _ ⟨_,_,_,_,_,h⟩;exact wC (h:(none:Option ((List Int)×Bool×(List xI)))=some zE)
  rintro z5 _ ⟨zQ,zB,y5,zK,rfl,h⟩;replace h:m3 F zA (BD F zA z5) zQ zB y5 zK=some zE:=h;unfold m3 at h;refine sq (ad 26 h ?_ ?_ ?_)
  ·rcases bft (decide (zQ<zA.1)) with yC | yC
   ·exact rm [iH 9 Ht,iR 6 yC] (w9 yC rfl)
   ·exact rm [iG 4 5,iH 9 Hf,iR 6 yC] (uN yC)
  rotate_left
  ·intro z8 h;refine wB (id:=0) zk ?_;cases h;exact ⟨rfl,(sI 9 [2,4,5])⟩
  intro z8 h;refine sk (sq ?_);refine yQ (id:=1) zk ?_;refine sq (bE h fun zC yU h=>r2 [iH 3 { id:=9 },iJ 1 { ids:=[4] } [Pp 4] (a9 F (⟨zB,y5⟩:uE) zC yU)] [] [(8,Pp 9)] [] [(4,Vb 72 (tU zC.2)),(9,Vb 85 [Ii zC.1,.str ([]:List Int),Ii 0])] 10 (sq (bE h fun zM xB h=>r2 [iJ 1 { ids:=[4] } [Pp 4] (zH8 F zC.2 zM xB)] [] [] [] [(4,Vb 72 (tU zM.2)),(9,Vb 85 [Ii zC.1,.str zM.1,Ii 0])] 10 (sq (bE h fun zT xR h=>r2 [iJ 1 { ids:=[4] } [Pp 4] (a9 F zM.2 zT xR)] [] [] [] [(4,Vb 72 (tU zT.2)),(9,Vb 85 [Ii zC.1,.str zM.1,Ii zT.1])] 10 (nE h fun wA h=>r2 [iH 3 { id:=10 },iM yJ zK,iC (by first | (simp;done) | (simp;omega):1=((List.map yJ [(⟨zC.1,zM.1,zT.1⟩:xI)])).length),iP 4 11 yJ zK [(⟨zC.1,zM.1,zT.1⟩:xI)] 32 wA] [8] [] [6,9] [(5,Vb 28 [.own 11 (((zK++[(⟨zC.1,zM.1,zT.1⟩:xI)])).length),.own 7 0,.own 8 0]),(11,Rb 85 3 (Mp yJ (zK++[(⟨zC.1,zM.1,zT.1⟩:xI)])))] 12 (r0 [] [(7,Ii (zI (zQ+1)))] ?_)))))));exact ⟨_,(sJ [0,1,2,3,4,5,11,7,8] [2,4,5,6,7]),_,_,_,_,rfl,h⟩
 refine sq (bE h fun zU wS h=>r2 [iJ 1 { ids:=[4] } [Pp 4,Ii 8] (TG F (⟨zE.1,zE.2.1⟩:uE) 8 zU wS)] [] [(6,Ii zU.1)] [] [(4,Vb 72 (tU zU.2))] 9 (sq (s0 [] [(9,Ii 0)] (bE h fun zR vB h=>?_))));refine xP (mk [(2,Pp 0),(4,Pp 4),(5,Pp 5)] [(0,jG),(1,Rb 85 3 []),(2,Rb 87 2 []),(3,Rb 76 5 []),(4,Vb 72 [Sb zR.1,.bool zR.2.1]),(5,Vb 28 [.own 6 zE.2.2.length,.own 7 zR.2.2.length,.own 8 0]),(6,Rb 85 3 (Mp yJ zE.2.2)),(7,Rb 87 2 (Mp yA zR.2.2)),(8,Rb 76 5 [])] 9) ?_ ?_
 ·replace h:=vB;refine yQ (id:=2) zk ?_;refine w0 [0,1,2,3,4,5,6,7,8] [] [(2,Pp 0),(4,Pp 4),(5,Pp 5),(6,Ii zU.1),(9,Ii 0)] [(0,jG),(1,Rb 85 3 []),(2,Rb 87 2 []),(3,Rb 76 5 []),(4,Vb 72 (tU zU.2)),(5,Vb 28 [.own 6 zE.2.2.length,.own 7 0,.own 8 0]),(6,Rb 85 3 (Mp yJ zE.2.2)),(7,Rb 87 2 []),(8,Rb 76 5 [])] ?_;refine wD (fun n st=>∃ (y9:Int),∃ (y6:List Int),∃ (yW:Bool),∃ (z4:List xA),st=mk [(2,Pp 0),(4,Pp 4),(5,Pp 5),(6,Ii zU.1),(9,Ii y9)] [(0,jG),(1,Rb 85 3 []),(2,Rb 87 2 []),(3,Rb 76 5 []),(4,Vb 72 [Sb y6,.bool yW]),(5,Vb 28 [.own 6 zE.2.2.length,.own 7 z4.length,.own 8 0]),(6,Rb 85 3 (Mp yJ zE.2.2)),(7,Rb 87 2 (Mp yA z4)),(8,Rb 76 5 [])] 9/\CD F zU n y9 y6 yW z4=some zR) F zk ⟨_,_,_,_,rfl,h⟩ ?_ ?_
  ·rintro _ ⟨_,_,_,_,_,h⟩;exact wC (h:(none:Option ((List Int)×Bool×(List xA)))=some zR)
  rintro uA _ ⟨y9,y6,yW,z4,rfl,h⟩;replace h:o3 F zU (CD F zU uA) y9 y6 yW z4=some zR:=h;unfold o3 at h;refine sq (ad 55 h ?_ ?_ ?_)
  ·rcases bft (decide (y9<zU.1)) with wK | wK
   ·exact rm [iH 9 Ht,iR 6 wK] (w9 wK rfl)
   ·exact rm [iG 4 5,iH 9 Hf,iR 6 wK] (uN wK)
  rotate_left
  ·intro yV h;refine wB (id:=2) zk ?_;cases h;exact ⟨rfl,(sI 9 [2,4,5])⟩
  intro yV h;refine sk (sq ?_);refine yQ (id:=3) zk ?_;refine sq (bE h fun yF vM h=>r2 [iH 3 { id:=9 },iJ 1 { ids:=[4] } [Pp 4] (a9 F (⟨y6,yW⟩:uE) yF vM)] [] [(10,Pp 9)] [] [(4,Vb 72 (tU yF.2)),(9,Vb 87 [Ii yF.1,Ii 0])] 10 (sq (bE h fun yY v7 h=>r2 [iJ 1 { ids:=[4] } [Pp 4] (a9 F yF.2 yY v7)] [] [] [] [(4,Vb 72 (tU yY.2)),(9,Vb 87 [Ii yF.1,Ii yY.1])] 10 (nE h fun uB h=>r2 [iH 3 { id:=10 },iM yA z4,iC (by first | (simp;done) | (simp;omega):1=((List.map yA [(⟨yF.1,yY.1⟩:xA)])).length),iP 4 11 yA z4 [(⟨yF.1,yY.1⟩:xA)] 16 uB] [10] [] [7,9] [(5,Vb 28 [.own 6 zE.2.2.length,.own 11 (((z4++[(⟨yF.1,yY.1⟩:xA)])).length),.own 8 0]),(11,Rb 87 2 (Mp yA (z4++[(⟨yF.1,yY.1⟩:xA)])))] 12 (r0 [] [(9,Ii (zI (y9+1)))] ?_)))));exact ⟨_,(sJ [0,1,2,3,4,5,6,11,8] [2,4,5,6,9]),_,_,_,_,rfl,h⟩
 refine sq (bE h fun yH uX h=>r2 [iJ 1 { ids:=[4] } [Pp 4,Ii 200] (TG F (⟨zR.1,zR.2.1⟩:uE) 200 yH uX)] [] [(6,Ii yH.1)] [] [(4,Vb 72 (tU yH.2))] 9 (sq (s0 [] [(11,Ii 0)] (bE h fun yK u5 h=>?_))));refine xP (mk [(2,Pp 0),(4,Pp 4),(5,Pp 5)] [(0,jG),(1,Rb 85 3 []),(2,Rb 87 2 []),(3,Rb 76 5 []),(4,Vb 72 [Sb yK.1,.bool yK.2.1]),(5,Vb 28 [.own 6 zE.2.2.length,.own 7 zR.2.2.length,.own 8 yK.2.2.length]),(6,Rb 85 3 (Mp yJ zE.2.2)),(7,Rb 87 2 (Mp yA zR.2.2)),(8,Rb 76 5 (Mp z9 yK.2.2))] 9) ?_ ?_
 ·replace h:=u5;refine yQ (id:=4) zk ?_;refine w0 [0,1,2,3,4,5,6,7,8] [] [(2,Pp 0),(4,Pp 4),(5,Pp 5),(6,Ii yH.1),(11,Ii 0)] [(0,jG),(1,Rb 85 3 []),(2,Rb 87 2 []),(3,Rb 76 5 []),(4,Vb 72 (tU yH.2)),(5,Vb 28 [.own 6 zE.2.2.length,.own 7 zR.2.2.length,.own 8 0]),(6,Rb 85 3 (Mp yJ zE.2.2)),(7,Rb 87 2 (Mp yA zR.2.2)),(8,Rb 76 5 [])] ?_;refine wD (fun n st=>∃ (wQ:Int),∃ (xC:List Int),∃ (xK:Bool),∃ (yL:List yZ),st=mk [(2,Pp 0),(4,Pp 4),(5,Pp 5),(6,Ii yH.1),(11,Ii wQ)] [(0,jG),(1,Rb 85 3 []),(2,Rb 87 2 []),(3,Rb 76 5 []),(4,Vb 72 [Sb xC,.bool xK]),(5,Vb 28 [.own 6 zE.2.2.length,.own 7 zR.2.2.length,.own 8 yL.length]),(6,Rb 85 3 (Mp yJ zE.2.2)),(7,Rb 87 2 (Mp yA zR.2.2)),(8,Rb 76 5 (Mp z9 yL))] 9/\AB F yH n wQ xC xK yL=some yK) F zk ⟨_,_,_,_,rfl,h⟩ ?_ ?_
  ·rintro _ ⟨_,_,_,_,_,h⟩;exact wC (h:(none:Option ((List Int)×Bool×(List yZ)))=some yK)
  rintro t5 _ ⟨wQ,xC,xK,yL,rfl,h⟩;replace h:oM F yH (AB F yH t5) wQ xC xK yL=some yK:=h;unfold oM at h;refine sq (ad 81 h ?_ ?_ ?_)
  ·rcases bft (decide (wQ<yH.1)) with wP | wP
   ·exact rm [iH 9 Ht,iR 6 wP] (w9 wP rfl)
   ·exact rm [iG 4 5,iH 9 Hf,iR 6 wP] (uN wP)
  rotate_left
  ·intro xG h;refine wB (id:=4) zk ?_;cases h;exact ⟨rfl,(sI 9 [2,4,5])⟩
  intro xG h;refine sk (sq ?_);refine yQ (id:=5) zk ?_;refine bE h fun yR uP h=>nE h fun t7 h=>r2 [iH 4 { id:=9 },iJ 3 { ids:=[4] } [Pp 4] (Y2 F (⟨xC,xK⟩:uE) yR uP),iM z9 yL,iA 1,iP 5 10 z9 yL [yR.1] 40 t7] [] [] [8] [(4,Vb 72 (tU yR.2)),(5,Vb 28 [.own 6 zE.2.2.length,.own 7 zR.2.2.length,.own 10 (((yL++[yR.1])).length)]),(10,Rb 76 5 (Mp z9 (yL++[yR.1])))] 11 (r0 [] [(11,Ii (zI (wQ+1)))] ?_);exact ⟨_,(sJ [0,1,2,3,4,5,6,7,10] [2,4,5,6,11]),_,_,_,_,rfl,h⟩
 refine sq (bE h fun zN jE h=>?_);refine xP (mk [(2,Pp 0),(3,.bool zN)] [(0,Vb 28 [.own 1 zE.2.2.length,.own 2 zR.2.2.length,.own 3 yK.2.2.length]),(1,Rb 85 3 (Mp yJ zE.2.2)),(2,Rb 87 2 (Mp yA zR.2.2)),(3,Rb 76 5 (Mp z9 yK.2.2))] 4) ?_ ?_
 ·replace h:=jE;rcases bft (!yK.2.1) with wW | wW
  ·replace h:=xN wW h;rcases bft ((lN yK.1)==0) with uI | uI
   ·replace h:=xN uI h;refine bE h fun y8 t6 h=>r2 [iH 13 Ht,iH 18 Ht,iR 5 wW,iN 11 Fb yK.1,iR 2 wW,iR 2 uI,iM yJ zE.2.2,iM yA zR.2.2,iM z9 yK.2.2,iL 16 { lend:=[6,7,8] } [.agg [Sq 3 yJ zE.2.2,Sq 2 yA zR.2.2,Sq 5 z9 yK.2.2]] (WC F (⟨zE.2.2,zR.2.2,yK.2.2⟩:yB) y8 t6) ⟨rfl,rfl,rfl,rfl,rfl,rfl,rfl,rfl,rfl,trivial⟩,iR 2 uI] [4,5] [(3,.bool (y8==0))] [1,2,3,4,5] [(0,Vb 28 [.own 6 zE.2.2.length,.own 7 zR.2.2.length,.own 8 yK.2.2.length])] 9 ?_;cases h;exact ⟨rfl,(sJ [0,6,7,8] [2,3])⟩
   ·replace h:=xO uI h;refine r2 [iH 13 Ht,iG 15 3,iH 18 Hf,iR 5 wW,iN 11 Fb yK.1,iR 2 wW,iR 4 uI] [4,5] [(3,.bool false)] [1,2,3,4,5] [(0,Vb 28 [.own 6 zE.2.2.length,.own 7 zR.2.2.length,.own 8 yK.2.2.length])] 9 ?_;cases h;exact ⟨rfl,(sJ [0,6,7,8] [2,3])⟩
  ·replace h:=xO wW h;refine r2 [iG 7 6,iH 13 Hf,iG 15 3,iH 18 Hf,iR 7 wW,iZ,iZ,iZ,iA false] [4,5] [(3,.bool false)] [1,2,3,4,5] [(0,Vb 28 [.own 6 zE.2.2.length,.own 7 zR.2.2.length,.own 8 yK.2.2.length])] 9 ?_;cases h;exact ⟨rfl,(sJ [0,6,7,8] [2,3])⟩
 refine wz [0] [1,2,3] [] [0] [(2,Pp 0),(3,.bool zN)] [(0,Vb 28 (wL (⟨zE.2.2,zR.2.2,yK.2.2⟩:yB)))] (ar 28 (ar true (ac (by first | (simp;done) | (simp;omega):zE.2.2.length=((List.map yJ zE.2.2)).length) (ac (by first | (simp;done) | (simp;omega):zR.2.2.length=((List.map yA zR.2.2)).length) (ac (by first | (simp;done) | (simp;omega):yK.2.2.length=((List.map z9 yK.2.2)).length) (ar 3 (ar (Mp yJ zE.2.2) (ar true (ar 2 (ar (Mp yA zR.2.2) (ar true (ar 5 (ar (Mp z9 yK.2.2) (ar true an)))))))))))))) ?_;cases h;exact rt rx
theorem DR (F:Nat) (zB:vY) (r:Int×vY) (h:bC F zB=some r):yS prog 120 [(.var 124 (tG zB))] [] [Pp 0] [(.var 124 (tG r.2))] (Ii r.1):=by
 refine tI Tryz.f120 ?_;unfold bC at h;refine sE [] [(0,Pp 0)] [(0,Vb 124 (tG zB))] 1 (sq (c0 [] 10 h [] ?_ ?_))
 ·intro z8 h;refine s1 [] [0] [(2,Ii 0)] ?_;cases h;exact rt rx
 intro z8 h;refine sk (sq (nE h fun zJ h=>bE h fun zA zW h=>r0 [iT 8 Fb zB.B zB.At zJ.1 zJ.2,iK 9 {} (MT F (sub zB.B zB.At (lN zB.B)) zA zW)] [(3,Ii zA.1),(4,Ii zA.2.1),(5,Ii zA.2.2)] (s2 [] [] [] [] [(0,Vb 124 [Sb zB.B,Ii (zI (zB.At+zA.2.1)),Ii zB.E])] 1 (s2 [] [0] [] [] [(0,Vb 124 [Sb zB.B,Ii (zI (zB.At+zA.2.1)),Ii zA.2.2])] 1 (s0 [] [(2,Ii zA.1)] ?_)))));cases h;exact rt rx
theorem Q4 (F:Nat) (zB:vY) (tH:Int) (r:Int×vY) (h:cL F zB tH=some r):yS prog 121 [(.var 124 (tG zB))] [] [Pp 0,Ii tH] [(.var 124 (tG r.2))] (Ii r.1):=by
 refine tI Tryz.f121 ?_;unfold cL at h;refine sE [] [(0,Pp 0),(1,Ii tH)] [(0,Vb 124 (tG zB))] 1 (sq (bE h fun zA zJ h=>r2 [iK 1 { ids:=[0] } (DR F zB zA zJ)] [] [(5,Ii zA.1)] [] [(0,Vb 124 (tG zA.2))] 1 (sq ?_)));refine yQ (id:=0) zk ?_;refine c0 [] 8 h [] ?_ ?_
 ·intro z8 h;refine s1 [] [0] [(4,Ii 0)] ?_;cases h;exact rt rx
 intro z8 h;refine c0 [] 14 h [] ?_ ?_
 ·intro yV h;refine s2 [] [0] [] [] [(0,Vb 124 [Sb zA.2.B,Ii zA.2.At,Ii 10])] 1 (s0 [] [(4,Ii 0)] ?_);cases h;exact rt rx
 intro yV h;refine c0 [] 20 h [] ?_ ?_
 rotate_left
 ·intro xG h;refine sk (s1 [] [0] [(4,Ii zA.1)] ?_);cases h;exact rt rx
 intro xG h;refine s2 [] [0] [] [] [(0,Vb 124 [Sb zA.2.B,Ii zA.2.At,Ii 7])] 1 (s0 [] [(4,Ii 0)] ?_);cases h;exact rt rx
theorem zCC (F:Nat) (zB:vY) (r:(List Int)×vY) (h:H8 F zB=some r):yS prog 122 [(.var 124 (tG zB))] [] [Pp 0] [(.var 124 (tG r.2))] (.str r.1):=by
 refine tI Tryz.f122 ?_;unfold H8 at h;refine sE [] [(0,Pp 0)] [(0,Vb 124 (tG zB))] 1 (sq (c0 [] 10 h [] ?_ ?_))
 ·intro z8 h;refine s1 [] [0] [(2,.str ([]:List Int))] ?_;cases h;exact rt rx
 intro z8 h;refine sk (sq (nE h fun zJ h=>bE h fun zA zW h=>r0 [iT 8 Fb zB.B zB.At zJ.1 zJ.2,iK 9 {} (Z1 F (sub zB.B zB.At (lN zB.B)) 40 zA zW)] [(3,.str zA.1),(4,Ii zA.2.1),(5,Ii zA.2.2)] (s2 [] [] [] [] [(0,Vb 124 [Sb zB.B,Ii (zI (zB.At+zA.2.1)),Ii zB.E])] 1 (s2 [] [0] [] [] [(0,Vb 124 [Sb zB.B,Ii (zI (zB.At+zA.2.1)),Ii zA.2.2])] 1 (s0 [] [(2,.str zA.1)] ?_)))));cases h;exact rt rx
theorem zA8 (F:Nat) (zO:List (List Int)) (zL:List Int) (r:Int) (h:AC F zO zL=some r):yS prog 147 [] [] [Ss zO,.str zL] [] (Ii r):=by
 refine tI Tryz.f147 ?_;unfold AC at h;refine sE [] [(0,Ss zO),(1,.str zL)] [] 0 (sq (s0 [] [(5,Ii 0)] (bE h fun zE zJ h=>?_)));refine vL (K1:=kS prog zE 0 (fun q0=>mk [] [] 0) Tryz.f147 (fun q1=>[]) fun q1=>Ii q1) ?_ ?_
 ·replace h:=zJ;refine yQ (id:=0) zk ?_;refine w0 [] [] [(0,Ss zO),(1,.str zL),(5,Ii 0)] [] ?_;refine wD (fun n st=>∃ (zQ:Int),st=mk [(0,Ss zO),(1,.str zL),(5,Ii zQ)] [] 0/\K4 F zO zL n zQ=some zE) F zk ⟨_,rfl,h⟩ ?_ ?_
  ·rintro _ ⟨_,_,h⟩;exact wC (h:(none:Option (Unit⊕Int))=some zE)
  rintro z5 _ ⟨zQ,rfl,h⟩;replace h:lK F zO zL (K4 F zO zL z5) zQ=some zE:=h;unfold lK at h;refine sq (c0 [iN 2 AV.str zO] 9 h [] ?_ ?_)
  rotate_left
  ·intro z8 h;refine wB (id:=0) zk ?_;cases h;exact ⟨rfl,(sI 0 [])⟩
  intro z8 h;refine sk (sq ?_);refine yQ (id:=1) zk ?_;refine sq (bE h fun zH zW h=>r0 [iF 2 AV.str zW] [(17,.bool (zH==zL))] (ch 17 h ?_ ?_))
  rotate_left
  ·intro yV h;refine sk (r0 [] [(5,Ii (zI (zQ+1)))] ?_);exact ⟨_,(sI 0 [0,1,5]),_,rfl,h⟩
  intro yV h;refine s1 [] [0] [(4,Ii zQ)] ?_;cases h;exact rt ry
 intro e st1 hk;rcases zE with zX | xJ
 rotate_left
 ·obtain ⟨rfl,hf⟩:=hk;cases h;exact ⟨st1,Sub.refl _ _,.inr rfl,hf⟩
 obtain ⟨rfl,hs⟩:=hk;refine ⟨_,hs,?_⟩;refine s0 [] [(4,Ii (-1))] ?_;cases h;exact rt rx
theorem YZ (F:Nat) (zO:List zV) (zN:zV) (r:Int) (h:DT F zO zN=some r):yS prog 148 [] [] [Sq 2 yI zO,.agg [Ii zN.c0,Ii zN.c1]] [] (Ii r):=by
 refine tI Tryz.f148 ?_;unfold DT at h;refine sE [iH 0 { id:=0 }] [(0,Sq 2 yI zO),(3,Pp 0)] [(0,Vb 144 [Ii zN.c0,Ii zN.c1])] 1 (sq (s0 [] [(5,Ii 0)] (bE h fun zE zJ h=>?_)));refine vL (K1:=kS prog zE 0 (fun q0=>mk [] [] 0) Tryz.f148 (fun q1=>[]) fun q1=>Ii q1) ?_ ?_
 ·replace h:=zJ;refine yQ (id:=0) zk ?_;refine w0 [0] [] [(0,Sq 2 yI zO),(3,Pp 0),(5,Ii 0)] [(0,Vb 144 [Ii zN.c0,Ii zN.c1])] ?_;refine wD (fun n st=>∃ (zQ:Int),st=mk [(0,Sq 2 yI zO),(3,Pp 0),(5,Ii zQ)] [(0,Vb 144 [Ii zN.c0,Ii zN.c1])] 1/\GY F zO zN n zQ=some zE) F zk ⟨_,rfl,h⟩ ?_ ?_
  ·rintro _ ⟨_,_,h⟩;exact wC (h:(none:Option (Unit⊕Int))=some zE)
  rintro z5 _ ⟨zQ,rfl,h⟩;replace h:mK F zO zN (GY F zO zN z5) zQ=some zE:=h;unfold mK at h;refine sq (c0 [iN 2 yI zO] 9 h [] ?_ ?_)
  rotate_left
  ·intro z8 h;refine wB (id:=0) zk ?_;cases h;exact ⟨rfl,(sI 0 [])⟩
  intro z8 h;refine sk (sq ?_);refine yQ (id:=1) zk ?_;refine sq (bE h fun zH zW h=>r0 [iH 5 { b:=(decide (zH=zN)),mks:=[.int .i64,.int .i64] },iF 2 yI zW,iC (WR:nD prog 144 [.int .i64,.int .i64]),iC (CP (f:=yI) OV zH zN:((decide (zH=zN))=true↔AV.agg [Ii zH.c0,Ii zH.c1]=AV.agg [Ii zN.c0,Ii zN.c1]))] [(17,.bool (decide (zH=zN)))] (ch 17 h ?_ ?_))
  rotate_left
  ·intro yV h;refine sk (r0 [] [(5,Ii (zI (zQ+1)))] ?_);exact ⟨_,(sI 1 [0,3,5]),_,rfl,h⟩
  intro yV h;refine s2 [] [0,3] [(4,Ii zQ)] [0] [] 1 ?_;cases h;exact rt ry
 intro e st1 hk;rcases zE with zX | xJ
 rotate_left
 ·obtain ⟨rfl,hf⟩:=hk;cases h;exact ⟨st1,Sub.refl _ _,.inr rfl,hf⟩
 obtain ⟨rfl,hs⟩:=hk;refine ⟨_,hs,?_⟩;refine s0 [] [(4,Ii (-1))] ?_;cases h;exact rt rx
theorem zCQ (F:Nat) (z6:List zV) (zQ:Int) (r:Int) (h:MG F z6 zQ=some r):yS prog 149 [] [] [Sq 2 yI z6,Ii zQ] [] (Ii r):=by
 refine tI Tryz.f149 ?_;unfold MG at h;refine sE [] [(0,Sq 2 yI z6),(1,Ii zQ)] [] 0 (s0 [] [(5,Ii 0)] (sq (bE h fun zE zJ h=>?_)));refine xP (mk [(5,Ii zE)] [] 0) ?_ ?_
 ·replace h:=zJ;refine yQ (id:=0) zk ?_;refine w0 [] [] [(0,Sq 2 yI z6),(1,Ii zQ),(5,Ii 0)] [] ?_;refine wD (fun n st=>∃ (y9:Int),∃ (z5:Int),st=mk [(0,Sq 2 yI z6),(1,Ii y9),(5,Ii z5)] [] 0/\DB F z6 n y9 z5=some zE) F zk ⟨_,_,rfl,h⟩ ?_ ?_
  ·rintro _ ⟨_,_,_,h⟩;exact wC (h:(none:Option Int)=some zE)
  rintro uA _ ⟨y9,z5,rfl,h⟩;replace h:mD F z6 (DB F z6 uA) y9 z5=some zE:=h;unfold mD at h;refine sq (c0 [] 7 h [] ?_ ?_)
  rotate_left
  ·intro z8 h;refine wB (id:=0) zk ?_;cases h;exact ⟨rfl,(sI 0 [5])⟩
  intro z8 h;refine sk ?_;refine yQ (id:=1) zk ?_;refine s0 [] [(5,Ii (zI (z5+1)))] (bE h fun zH zW h=>r0 [iF 2 yI zW,i0,iC (by decide:0<((2:Nat):Int))] [(1,Ii zH.c0)] ?_);exact ⟨_,(sI 0 [0,1,5]),_,_,rfl,h⟩
 refine s0 [] [(4,Ii zE)] ?_;cases h;exact rt rx
theorem NG (F:Nat) (zZ:List (List Int)) (z6:List zV) (r:Int) (h:aQ F zZ z6=some r):yS prog 123 [] [] [Ss zZ,Sq 2 yI z6] [] (Ii r):=by
 refine tI Tryz.f123 ?_;unfold aQ at h;refine sE [] [(0,Ss zZ),(1,Sq 2 yI z6)] [] 0 (sq (ad 15 h ?_ ?_ ?_))
 ·rcases bft (decide ((lN zZ)>1000)) with zS | zS
  ·exact rm [iG 4 3,iH 7 Ht,iN 1 AV.str zZ,iR 4 zS] (ort zS)
  ·exact rm [iH 7 Hf,iN 1 AV.str zZ,iR 2 zS,iN 5 yI z6,iR 2 zS] (orf zS rfl)
 ·intro z8 h;refine s1 [] [0,1] [(4,Ii 7)] ?_;cases h;exact rt rx
 intro z8 h;refine sk (sq (s0 [] [(5,Ii 0)] (bE h fun zE zJ h=>?_)));refine vL (K1:=kS prog zE 0 (fun q0=>mk [(0,Ss zZ),(1,Sq 2 yI z6)] [] 0) Tryz.f123 (fun q1=>[]) fun q1=>Ii q1) ?_ ?_
 ·replace h:=zJ;refine yQ (id:=0) zk ?_;refine w0 [] [] [(0,Ss zZ),(1,Sq 2 yI z6),(5,Ii 0)] [] ?_;refine wD (fun n st=>∃ (zQ:Int),st=mk [(0,Ss zZ),(1,Sq 2 yI z6),(5,Ii zQ)] [] 0/\CQ F zZ n zQ=some zE) F zk ⟨_,rfl,h⟩ ?_ ?_
  ·rintro _ ⟨_,_,h⟩;exact wC (h:(none:Option (Unit⊕Int))=some zE)
  rintro z5 _ ⟨zQ,rfl,h⟩;replace h:mA F zZ (CQ F zZ z5) zQ=some zE:=h;unfold mA at h;refine sq (c0 [iN 2 AV.str zZ] 19 h [] ?_ ?_)
  rotate_left
  ·intro yV h;refine wB (id:=0) zk ?_;cases h;exact ⟨rfl,(sI 0 [0,1])⟩
  intro yV h;refine sk (sq ?_);refine yQ (id:=1) zk ?_;refine sq (sq (bE h fun zH zW h=>bE h fun zA yU h=>r0 [iF 2 AV.str zW,iK 4 {} (GN F zH zA yU)] [(27,.bool (zA != 0))] (ch 27 h ?_ ?_)))
  ·intro xG h;refine s1 [] [0,1] [(4,Ii 3)] ?_;cases h;exact rt ry
  intro xG h;refine sk (sq (nE h fun xB h=>bE h fun yO xR h=>bE h fun zC wA h=>r0 [iS 2 AV.str zZ 0 zQ (by decide) xB.1 xB.2,iF 5 AV.str xR,iK 7 {} (zA8 F (sub zZ 0 zQ) yO zC wA)] [(36,.bool (decide (zC>=0)))] (ch 36 h ?_ ?_)))
  rotate_left
  ·intro wR h;refine sk (r0 [] [(5,Ii (zI (zQ+1)))] ?_);exact ⟨_,(sI 0 [0,1,5]),_,rfl,h⟩
  intro wR h;refine s1 [] [0,1] [(4,Ii 4)] ?_;cases h;exact rt ry
 intro e st1 hk;rcases zE with zX | xJ
 rotate_left
 ·obtain ⟨rfl,hf⟩:=hk;cases h;exact ⟨st1,Sub.refl _ _,.inr rfl,hf⟩
 obtain ⟨rfl,hs⟩:=hk;refine ⟨_,hs,?_⟩;refine sq (s0 [] [(6,Ii 0)] (bE h fun zR wS h=>?_));refine vL (K1:=kS prog zR 0 (fun q0=>mk [] [] 0) Tryz.f123 (fun q1=>[]) fun q1=>Ii q1) ?_ ?_
 ·replace h:=wS;refine yQ (id:=2) zk ?_;refine w0 [] [] [(0,Ss zZ),(1,Sq 2 yI z6),(6,Ii 0)] [] ?_;refine wD (fun n st=>∃ (y9:Int),st=mk [(0,Ss zZ),(1,Sq 2 yI z6),(6,Ii y9)] [] 0/\B4 F zZ z6 n y9=some zR) F zk ⟨_,rfl,h⟩ ?_ ?_
  ·rintro _ ⟨_,_,h⟩;exact wC (h:(none:Option (Unit⊕Int))=some zR)
  rintro uA _ ⟨y9,rfl,h⟩;replace h:GR F zZ z6 (B4 F zZ z6 uA) y9=some zR:=h;unfold GR at h;refine sq (c0 [iN 2 yI z6] 40 h [] ?_ ?_)
  rotate_left
  ·intro vR h;refine wB (id:=2) zk ?_;cases h;exact ⟨rfl,(sI 0 [])⟩
  intro vR h;refine sk (sq ?_);refine yQ (id:=3) zk ?_;refine sq (bE h fun xE vB h=>r2 [iH 4 { id:=0 },iF 2 yI vB] [] [(7,Pp 0)] [] [(0,Vb 144 [Ii xE.c0,Ii xE.c1])] 1 (sq (ad 67 h ?_ ?_ ?_)))
  ·rcases bft (decide (xE.c0<(-1))) with wG | wG
   ·exact rm [iG 4 4,iH 8 Ht,iG 10 3,iH 13 Ht,iG 15 5,iH 20 Ht,i0,iC (by decide:0<((2:Nat):Int)),iR 5 wG,iX 3,iA true,iX 5,iA true] (ort wG)
   ·rcases bft (decide (xE.c0>=y9)) with wP | wP
    ·exact rm [iH 8 Hf,iG 10 3,iH 13 Ht,iG 15 5,iH 20 Ht,i0,iC (by decide:0<((2:Nat):Int)),iC wG,i0,iC (by decide:0<((2:Nat):Int)),iR 4 wG,iR 4 wP,iX 5,iA true] (orf wG (ort wP))
    ·rcases bft (decide (xE.c1<0)) with wW | wW
     ·exact rm [iH 8 Hf,iH 13 Hf,iG 15 5,iH 20 Ht,i0,iC (by decide:0<((2:Nat):Int)),iC wG,i0,iC (by decide:0<((2:Nat):Int)),iR 4 wG,iC wP,iC (by decide:(0:Int)<=(1:Int)),iC (by decide:1<((2:Nat):Int)),iR 3 wP,iR 6 wW] (orf wG (orf wP (ort wW)))
     ·exact rm [iH 8 Hf,iH 13 Hf,iH 20 Hf,i0,iC (by decide:0<((2:Nat):Int)),iC wG,i0,iC (by decide:0<((2:Nat):Int)),iR 4 wG,iC wP,iC (by decide:(0:Int)<=(1:Int)),iC (by decide:1<((2:Nat):Int)),iR 3 wP,iC wW,iC (by decide:(0:Int)<=(1:Int)),iC (by decide:1<((2:Nat):Int)),iR 3 wW,iN 18 AV.str zZ,iR 2 wW] (orf wG (orf wP (orf wW rfl)))
  ·intro uO h;refine s2 [] [0,1,7] [(4,Ii 2)] [0] [] 1 ?_;cases h;exact rt ry
  intro uO h;refine sk (sq (sq (nE h fun vM h=>bE h fun zM v7 h=>r2 [iS 2 yI z6 0 y9 (by decide) vM.1 vM.2,iK 4 {} (YZ F (sub z6 0 y9) xE zM v7)] [7] [(73,.bool (decide (zM>=0)))] [0] [] 1 (ch 73 h ?_ ?_))))
  ·intro tJ h;refine s1 [] [0,1] [(4,Ii 4)] ?_;cases h;exact rt ry
  intro tJ h;refine sk (sq (bE h fun zT uB h=>r0 [iK 2 {} (zCQ F z6 y9 zT uB)] [(77,.bool (decide (zT>32)))] (ch 77 h ?_ ?_)))
  rotate_left
  ·intro qU h;refine sk (r0 [] [(6,Ii (zI (y9+1)))] ?_);exact ⟨_,(sI 0 [0,1,6]),_,rfl,h⟩
  intro qU h;refine s1 [] [0,1] [(4,Ii 7)] ?_;cases h;exact rt ry
 intro e st1 hk;rcases zR with vQ | t3
 rotate_left
 ·obtain ⟨rfl,hf⟩:=hk;cases h;exact ⟨st1,Sub.refl _ _,.inr rfl,hf⟩
 obtain ⟨rfl,hs⟩:=hk;refine ⟨_,hs,?_⟩;refine s0 [] [(4,Ii 0)] ?_;cases h;exact rt rx
theorem ZR (F:Nat) (zF:List Int) (nX:Int) (r:(List Int)×Int×Int) (h:mE F zF nX=some r):yS prog 164 [] [] [Sb zF,Ii nX] [.row 3 1 (Mi r.1)] (.tuple [.own 0 r.1.length,Ii r.2.1,Ii r.2.2]):=by
 refine tI Tryz.f164 ?_;unfold mE at h;refine sE [iH 0 { id:=0,m:=1 }] [(0,Sb zF),(1,Ii nX)] [] 1 (s2 [iH 0 { id:=1,m:=1 }] [] [(7,.own 1 0)] [] [(1,Rb 3 1 [])] 2 (s0 [] [(8,Ii 0)] (sq (s0 [] [(9,Ii 0)] (bE h fun zE zJ h=>?_)))));refine vL (K1:=kS prog zE 0 (fun q0=>mk [(7,.own 0 q0.2.length),(8,Ii q0.1)] [(0,Rb 3 1 (Mi q0.2))] 1) Tryz.f164 (fun q1=>[.row 3 1 (Mi q1.1)]) fun q1=>.tuple [.own 0 q1.1.length,Ii q1.2.1,Ii q1.2.2]) ?_ ?_
 ·replace h:=zJ;refine yQ (id:=0) zk ?_;refine w0 [1] [] [(0,Sb zF),(1,Ii nX),(7,.own 0 0),(8,Ii 0),(9,Ii 0)] [(0,Rb 3 1 [])] ?_;refine wD (fun n st=>∃ (xU:Int),∃ (zQ:Int),∃ (zK:List Int),st=mk [(0,Sb zF),(1,Ii nX),(7,.own 0 zK.length),(8,Ii xU),(9,Ii zQ)] [(0,Rb 3 1 (Mi zK))] 1/\AQ F zF nX n xU zQ zK=some zE) F zk ⟨_,_,_,rfl,h⟩ ?_ ?_
  ·rintro _ ⟨_,_,_,_,h⟩;exact wC (h:(none:Option ((Int×(List Int))⊕((List Int)×Int×Int)))=some zE)
  rintro z5 _ ⟨xU,zQ,zK,rfl,h⟩;replace h:l8 F zF nX (AQ F zF nX z5) xU zQ zK=some zE:=h;unfold l8 at h;refine sq (c0 [] 15 h [] ?_ ?_)
  rotate_left
  ·intro z8 h;refine wB (id:=0) zk ?_;cases h;exact ⟨rfl,(sI 1 [7,8])⟩
  intro z8 h;refine sk (sq ?_);refine yQ (id:=1) zk ?_;refine sq (nE h fun zW h=>bE h fun zA yU h=>r0 [iT 2 Fb zF xU zW.1 zW.2,iK 3 {} (MT F (sub zF xU (lN zF)) zA yU)] [(10,Ii zA.1),(11,Ii zA.2.1),(12,Ii zA.2.2)] (sq (c0 [] 27 h [] ?_ ?_)))
  ·intro yV h;refine s2 [iH 1 { id:=1,m:=1 }] [0,7] [(4,.own 1 0),(5,Ii 0),(6,Ii zA.2.2)] [0] [(1,Rb 3 1 [])] 2 (wz [1] [] [4] [] [(4,.own 0 ((([]:List Int)).length)),(5,Ii 0),(6,Ii zA.2.2)] [(0,Rb 3 1 [])] (ac (congrArg (AV.own _) (by first | (simp;done) | (simp;omega)):(.own 1 0:AV)=.own 1 ((([]:List Int)).length)) an) ?_);cases h;exact rt ry
  intro yV h;refine sk (sq (nE h fun xB h=>r2 [iH 2 { id:=1 },iM Fi zK,iA 1,iP 3 2 Fi zK [zA.1] 8 xB] [] [(7,.own 2 (((zK++[zA.1])).length))] [0] [(2,Rb 3 1 (Mi (zK++[zA.1])))] 3 (r0 [] [(8,Ii (zI (xU+zA.2.1)))] (r0 [] [(9,Ii (zI (zQ+1)))] ?_))));exact ⟨_,(sJ [2] [0,1,7,8,9]),_,_,_,rfl,h⟩
 intro e st1 hk;rcases zE with zX | xJ
 rotate_left
 ·obtain ⟨rfl,hf⟩:=hk;cases h;exact ⟨st1,Sub.refl _ _,.inr rfl,hf⟩
 obtain ⟨rfl,hs⟩:=hk;refine ⟨_,hs,?_⟩;refine s1 [] [7] [(4,.own 0 zX.2.length),(5,Ii zX.1),(6,Ii 0)] ?_;cases h;exact rt rx
theorem XC (xH:Int) (r:Bool×Bool×Bool×Bool) (h:DM xH=some r):yS prog 135 [] [] [Ii xH] [] (.tuple [.bool r.1,.bool r.2.1,.bool r.2.2.1,.bool r.2.2.2]):=by
 refine tI Tryz.f135 ?_;unfold DM at h;refine sE [] [(0,Ii xH)] [] 0 (sq (s0 [] [(6,Ii xH)] ?_));refine yQ (id:=0) zk ?_;refine sq (s0 [] [(7,.bool (xH==1))] (bE h fun zE zJ h=>?_));refine xP (mk [(6,Ii xH),(7,.bool zE)] [] 0) ?_ ?_
 ·replace h:=zJ;refine ch 7 h ?_ ?_
  ·intro z8 h;refine sk ?_;cases h;exact ⟨rfl,(sI 0 [6,7])⟩
  intro z8 h;refine r0 [] [(7,.bool (xH==3))] ?_;cases h;exact ⟨rfl,(sI 0 [6,7])⟩
 refine ch 7 h ?_ ?_
 ·intro yV h;refine s0 [] [(2,.bool true),(3,.bool false),(4,.bool false),(5,.bool false)] ?_;cases h;exact rt rx
 intro yV h;refine c0 [] 10 h [] ?_ ?_
 ·intro xG h;refine s0 [] [(2,.bool true),(3,.bool true),(4,.bool false),(5,.bool false)] ?_;cases h;exact rt rx
 intro xG h;refine c0 [] 12 h [] ?_ ?_
 ·intro wR h;refine s0 [] [(2,.bool false),(3,.bool true),(4,.bool false),(5,.bool true)] ?_;cases h;exact rt rx
 intro wR h;refine sq (s0 [] [(14,.bool (xH==6))] (bE h fun zR zW h=>?_));refine xP (mk [(6,Ii xH),(14,.bool zR)] [] 0) ?_ ?_
 ·replace h:=zW;refine ch 14 h ?_ ?_
  ·intro vR h;refine sk ?_;cases h;exact ⟨rfl,(sI 0 [6,14])⟩
  intro vR h;refine c0 [] 14 h [] ?_ ?_
  ·intro uO h;refine sk ?_;cases h;exact ⟨rfl,(sI 0 [6,14])⟩
  intro uO h;refine c0 [] 14 h [] ?_ ?_
  ·intro tJ h;refine sk ?_;cases h;exact ⟨rfl,(sI 0 [6,14])⟩
  intro tJ h;refine c0 [] 14 h [] ?_ ?_
  ·intro qU h;refine sk ?_;cases h;exact ⟨rfl,(sI 0 [6,14])⟩
  intro qU h;refine r0 [] [(14,.bool (xH==12))] ?_;cases h;exact ⟨rfl,(sI 0 [6,14])⟩
 refine ch 14 h ?_ ?_
 ·intro a8 h;refine s0 [] [(2,.bool false),(3,.bool true),(4,.bool false),(5,.bool false)] ?_;cases h;exact rt rx
 intro a8 h;refine c0 [] 20 h [] ?_ ?_
 ·intro cD h;refine s0 [] [(2,.bool false),(3,.bool true),(4,.bool true),(5,.bool false)] ?_;cases h;exact rt rx
 intro cD h;refine c0 [] 22 h [] ?_ ?_
 ·intro fY h;refine s0 [] [(2,.bool false),(3,.bool true),(4,.bool true),(5,.bool true)] ?_;cases h;exact rt rx
 intro fY h;refine sk (s0 [] [(2,.bool false),(3,.bool false),(4,.bool false),(5,.bool false)] ?_);cases h;exact rt rx
theorem NR (zF:Bool) (r:Int) (h:m7 zF=some r):yS prog 165 [] [] [.bool zF] [] (Ii r):=by
 refine tI Tryz.f165 ?_;unfold m7 at h;refine sE [] [(0,.bool zF)] [] 0 (sq (c0 [] 3 h [] ?_ ?_))
 ·intro z8 h;refine s0 [] [(2,Ii 1)] ?_;cases h;exact rt rx
 intro z8 h;refine sk (s0 [] [(2,Ii 0)] ?_);cases h;exact rt rx
theorem zFj (F:Nat) (zZ:List (List Int)) (z6:List zV) (zQ:Int) (r:(List (List Int))×Int) (h:JM F zZ z6 zQ=some r):yS prog 166 [] [] [Ss zZ,Sq 2 yI z6,Ii zQ] [] (.tuple [Ss r.1,Ii r.2]):=by
 refine tI Tryz.f166 ?_;unfold JM at h;refine sE [] [(0,Ss zZ),(1,Sq 2 yI z6),(2,Ii zQ)] [] 0 (sq (sq (bE h fun zA zJ h=>r0 [iK 2 {} (NG F zZ z6 zA zJ)] [(12,.bool (zA != 0))] (ch 12 h ?_ ?_))))
 ·intro z8 h;refine s1 [] [0,1] [(6,.nilsl),(7,Ii 1)] (wz [] [] [6] [] [(6,.sl false 1 []),(7,Ii 1)] [] (ar ([]:List AV) an) ?_);cases h;exact rt rx
 intro z8 h;refine sk (sq (ad 20 h ?_ ?_ ?_))
 ·rcases bft (decide (zQ<(-1))) with z0 | z0
  ·exact rm [iG 3 4,iH 7 Ht,iR 5 z0] (ort z0)
  ·exact rm [iH 7 Hf,iR 3 z0,iN 5 yI z6,iR 2 z0] (orf z0 rfl)
 ·intro yV h;refine s1 [] [0,1] [(6,.nilsl),(7,Ii 2)] (wz [] [] [6] [] [(6,.sl false 1 []),(7,Ii 2)] [] (ar ([]:List AV) an) ?_);cases h;exact rt rx
 intro yV h;refine sk (s0 [] [(8,.nilsl)] (sq (bE h fun zE zW h=>?_)));refine xP (mk [(8,Ss zE)] [] 0) ?_ ?_
 ·replace h:=zW;refine yQ (id:=0) zk ?_;refine wz [] [] [8] [] [(0,Ss zZ),(1,Sq 2 yI z6),(2,Ii zQ),(8,.sl false 1 [])] [] (ar ([]:List AV) an) ?_;refine wD (fun n st=>∃ (y9:Int),∃ (zO:List (List Int)),st=mk [(0,Ss zZ),(1,Sq 2 yI z6),(2,Ii y9),(8,Ss zO)] [] 0/\G8 F zZ z6 n y9 zO=some zE) F zk ⟨_,_,rfl,h⟩ ?_ ?_
  ·rintro _ ⟨_,_,_,h⟩;exact wC (h:(none:Option (List (List Int)))=some zE)
  rintro z5 _ ⟨y9,zO,rfl,h⟩;replace h:lT F zZ z6 (G8 F zZ z6 z5) y9 zO=some zE:=h;unfold lT at h;refine sq (c0 [] 22 h [] ?_ ?_)
  rotate_left
  ·intro xG h;refine wB (id:=0) zk ?_;cases h;exact ⟨rfl,(sI 0 [8])⟩
  intro xG h;refine sk ?_;refine yQ (id:=1) zk ?_;refine sq (bE h fun zH yU h=>bE h fun yO xB h=>nE h fun xR h=>r2 [iH 8 { id:=0 },iF 3 yI yU,iC (by decide:(0:Int)<=(1:Int)),iC (by decide:1<((2:Nat):Int)),iF 6 AV.str xB,iA 1,iC trivial,iP 10 1 AV.str [yO] zO 16 xR] [] [(8,.own 1 ((([yO]++zO)).length))] [] [(1,Rb 9 1 (Ms ([yO]++zO)))] 2 (bE h fun xE wA h=>r0 [iF 2 yI wA,i0,iC (by decide:0<((2:Nat):Int))] [(2,Ii xE.c0)] ?_));exact ⟨_,(Sub.trans (cX [] [1] [.s 0,.s 1,.s 2,.a 8 (Ss ([yO]++zO))] [] (sl2:=[(0,Ss zZ),(1,Sq 2 yI z6),(2,Ii xE.c0),(8,Ss ([yO]++zO))]) (bx2:=[]) zk (ac (by first | (simp;done) | (simp;omega):(([yO]++zO)).length=((List.map AV.str ([yO]++zO))).length) (ar 1 (ar ((Ms ([yO]++zO)):List AV) (ac (rfl:(!false||false)=true) an))))) (sI 0 [0,1,2,8])),_,_,rfl,h⟩
 refine s1 [] [8] [(6,Ss zE),(7,Ii 0)] ?_;cases h;exact rt rx
theorem zEG (xH:Int) (r:Bool×Bool×Bool×Bool) (h:MP xH=some r):yS prog 159 [] [] [Ii xH] [] (.tuple [.bool r.1,.bool r.2.1,.bool r.2.2.1,.bool r.2.2.2]):=by
 refine tI Tryz.f159 ?_;unfold MP at h;refine sE [] [(0,Ii xH)] [] 0 (sq (am 6 ((xH==1)||((xH==3)||(xH==4))) ?_ ?_))
 ·rcases bft (xH==1) with zS | zS
  ·exact rm [iG 3 2,iH 5 Ht,iG 7 2,iH 9 Ht,iR 3 zS,iX 2,iA true] (ort zS)
  ·rcases bft (xH==3) with z0 | z0
   ·exact rm [iH 5 Hf,iG 7 2,iH 9 Ht,iR 3 zS,iR 3 z0] (orf zS (ort z0))
   ·exact rm [iH 5 Hf,iH 9 Hf,iR 3 zS,iR 3 z0] (orf zS (orf z0 rfl))
 refine s0 [] [(7,.bool (decide (xH>=4)))] (sq (am 8 ((xH==9)||(xH==11)) ?_ ?_))
 ·rcases bft (xH==9) with yE | yE
  ·exact rm [iG 3 2,iH 5 Ht,iR 3 yE] (ort yE)
  ·exact rm [iH 5 Hf,iR 3 yE] (orf yE rfl)
 refine sq (am 9 ((xH==5)||(xH==11)) ?_ ?_)
 ·rcases bft (xH==5) with yC | yC
  ·exact rm [iG 3 2,iH 5 Ht,iR 3 yC] (ort yC)
  ·exact rm [iH 5 Hf,iR 3 yC] (orf yC rfl)
 refine s0 [] [(2,.bool ((xH==1)||((xH==3)||(xH==4)))),(3,.bool (decide (xH>=4))),(4,.bool ((xH==9)||(xH==11))),(5,.bool ((xH==5)||(xH==11)))] ?_;cases h;exact rt rx
theorem ZI (F:Nat) (zO:List (List Int)) (r:Int) (h:AE F zO=some r):yS prog 160 [] [] [Ss zO] [] (Ii r):=by
 refine tI Tryz.f160 ?_;unfold AE at h;refine sE [] [(0,Ss zO)] [] 0 (sq (c0 [iN 1 AV.str zO] 6 h [] ?_ ?_))
 ·intro z8 h;refine s1 [] [0] [(2,Ii 7)] ?_;cases h;exact rt rx
 intro z8 h;refine sk (sq (s0 [] [(3,Ii 0)] (bE h fun zE zJ h=>?_)));refine vL (K1:=kS prog zE 0 (fun q0=>mk [] [] 0) Tryz.f160 (fun q1=>[]) fun q1=>Ii q1) ?_ ?_
 ·replace h:=zJ;refine yQ (id:=0) zk ?_;refine w0 [] [] [(0,Ss zO),(3,Ii 0)] [] ?_;refine wD (fun n st=>∃ (zQ:Int),st=mk [(0,Ss zO),(3,Ii zQ)] [] 0/\E8 F zO n zQ=some zE) F zk ⟨_,rfl,h⟩ ?_ ?_
  ·rintro _ ⟨_,_,h⟩;exact wC (h:(none:Option (Unit⊕Int))=some zE)
  rintro z5 _ ⟨zQ,rfl,h⟩;replace h:EQ F zO (E8 F zO z5) zQ=some zE:=h;unfold EQ at h;refine sq (c0 [iN 2 AV.str zO] 10 h [] ?_ ?_)
  rotate_left
  ·intro yV h;refine wB (id:=0) zk ?_;cases h;exact ⟨rfl,(sI 0 [])⟩
  intro yV h;refine sk (sq ?_);refine yQ (id:=1) zk ?_;refine sq (bE h fun zH zW h=>bE h fun zA yU h=>r0 [iF 2 AV.str zW,iK 4 {} (GN F zH zA yU)] [(18,.bool (zA != 0))] (ch 18 h ?_ ?_))
  rotate_left
  ·intro xG h;refine sk (r0 [] [(3,Ii (zI (zQ+1)))] ?_);exact ⟨_,(sI 0 [0,3]),_,rfl,h⟩
  intro xG h;refine s1 [] [0] [(2,Ii 3)] ?_;cases h;exact rt ry
 intro e st1 hk;rcases zE with zX | xJ
 rotate_left
 ·obtain ⟨rfl,hf⟩:=hk;cases h;exact ⟨st1,Sub.refl _ _,.inr rfl,hf⟩
 obtain ⟨rfl,hs⟩:=hk;refine ⟨_,hs,?_⟩;refine s0 [] [(2,Ii 0)] ?_;cases h;exact rt rx
theorem mT (z5:Int) (low_1:Int) (high_1:Int) (r:Int) (h:bQ z5 low_1 high_1=some r):yS prog 168 [] [] [Ii z5,Ii low_1,Ii high_1] [] (Ii r):=by
 refine tI Tryz.f168 ?_;unfold bQ at h;refine sE [] [(0,Ii z5),(1,Ii low_1),(2,Ii high_1)] [] 0 (sq (ad 14 h ?_ ?_ ?_))
 ·rcases bft (decide (z5<low_1)) with zS | zS
  ·exact rm [iG 4 3,iH 7 Ht,iR 4 zS] (ort zS)
  ·exact rm [iH 7 Hf,iR 4 zS] (orf zS rfl)
 ·intro z8 h;refine s0 [] [(6,Ii 2)] ?_;cases h;exact rt rx
 intro z8 h;refine sk (s0 [] [(6,Ii 0)] ?_);cases h;exact rt rx
theorem zE1 (zY:xD) (r:Int) (h:E7 zY=some r):yS prog 161 [] [] [x9 zY] [] (Ii r):=by
 refine tI Tryz.f161 ?_;unfold E7 at h;refine sE [iH 0 { id:=0 }] [(1,Pp 0)] [(0,Vb 112 (u7 zY))] 1 (sq (s0 [] [(6,Ii zY.Kind)] (bE h fun zE zJ h=>?_)));refine vL (K1:=kS prog zE 0 (fun q0=>mk [(1,Pp 0)] [(0,Vb 112 (u7 zY))] 1) Tryz.f161 (fun q1=>[]) fun q1=>Ii q1) ?_ ?_
 ·replace h:=zJ;refine yQ (id:=0) zk ?_;refine sq (s0 [] [(7,.bool (zY.Kind==1))] (bE h fun zR zW h=>?_));refine xP (mk [(1,Pp 0),(6,Ii zY.Kind),(7,.bool zR)] [(0,Vb 112 (u7 zY))] 1) ?_ ?_
  ·replace h:=zW;refine ch 7 h ?_ ?_
   ·intro z8 h;refine sk ?_;cases h;exact ⟨rfl,(sI 1 [1,6,7])⟩
   intro z8 h;refine c0 [] 7 h [] ?_ ?_
   ·intro yV h;refine sk ?_;cases h;exact ⟨rfl,(sI 1 [1,6,7])⟩
   intro yV h;refine r0 [] [(7,.bool (zY.Kind==3))] ?_;cases h;exact ⟨rfl,(sI 1 [1,6,7])⟩
  refine ch 7 h ?_ ?_
  ·intro xG h;refine s2 [] [1] [(2,Ii 0)] [0] [] 1 ?_;cases h;exact rt ry
  intro xG h;refine c0 [] 11 h [] ?_ ?_
  ·intro wR h;refine sq (bE h fun zA yU h=>r2 [iK 2 {} (mT zY.N (-1000000000000000) 1000000000000000 zA yU)] [1] [(2,Ii zA)] [0] [] 1 ?_);cases h;exact rt ry
  intro wR h;refine c0 [] 16 h [] ?_ ?_
  ·intro vR h;refine sq (bE h fun zC xB h=>r2 [iK 2 {} (mT zY.N 1 1000000000000 zC xB)] [1] [(2,Ii zC)] [0] [] 1 ?_);cases h;exact rt ry
  intro vR h;refine c0 [] 21 h [] ?_ ?_
  ·intro uO h;refine sq (bE h fun zM xR h=>r2 [iK 2 {} (mT zY.N 0 63 zM xR)] [1] [(2,Ii zM)] [0] [] 1 ?_);cases h;exact rt ry
  intro uO h;refine c0 [] 26 h [] ?_ ?_
  rotate_left
  ·intro tJ h;refine sk ?_;cases h;exact ⟨rfl,(sI 1 [1])⟩
  intro tJ h;refine sq (bE h fun zT wA h=>r0 [iK 2 {} (mT zY.N 0 3 zT wA)] [(3,Ii zT)] (sq (ad 37 h ?_ ?_ ?_)))
  ·rcases bft (zT==0) with yE | yE
   ·exact rm [iH 6 Ht,iR 4 yE] (w9 yE rfl)
   ·exact rm [iG 3 3,iH 6 Hf,iR 4 yE] (uN yE)
  ·intro qU h;refine sq (bE h fun zU wS h=>r2 [iK 2 {} (mT zY.M 0 1000000000000000 zU wS)] [1] [(2,Ii zU)] [0] [] 1 ?_);cases h;exact rt ry
  intro qU h;refine sk (sq (sq ?_));refine xP (mk [(3,Ii zT),(47,.bool ((zT==0)&&(zY.M != 0)))] [] 0) ?_ ?_
  ·rcases bft (zT==0) with yC | yC
   ·refine r2 [iH 6 Ht,iR 4 yC] [1] [(47,.bool (zY.M != 0))] [0] [] 1 ?_;exact ⟨rfl,(sw [] [] [.s 3,.a 47 (.bool ((zT==0)&&(zY.M != 0)))] [] (ac (congrArg AV.bool (w9 yC rfl):(.bool (zY.M != 0):AV)=.bool ((zT==0)&&(zY.M != 0))) an))⟩
   ·refine r2 [iG 3 3,iH 6 Hf,iR 4 yC] [1] [(47,.bool false)] [0] [] 1 ?_;exact ⟨rfl,(sw [] [] [.s 3,.a 47 (.bool ((zT==0)&&(zY.M != 0)))] [] (ac (congrArg AV.bool (uN yC):(.bool false:AV)=.bool ((zT==0)&&(zY.M != 0))) an))⟩
  refine ch 47 h ?_ ?_
  ·intro a8 h;refine s0 [] [(2,Ii 1)] ?_;cases h;exact rt ry
  intro a8 h;refine sk (s0 [] [(2,Ii zT)] ?_);cases h;exact rt ry
 intro e st1 hk;rcases zE with zX | xJ
 rotate_left
 ·obtain ⟨rfl,hf⟩:=hk;cases h;exact ⟨st1,Sub.refl _ _,.inr rfl,hf⟩
 obtain ⟨rfl,hs⟩:=hk;refine ⟨_,hs,?_⟩;refine sq (bE h fun yF vB h=>r0 [iK 2 {} (mT zY.N 0 1000000000000000 yF vB)] [(4,Ii yF)] (sq (ad 58 h ?_ ?_ ?_)))
 ·rcases bft (yF==0) with x6 | x6
  ·exact rm [iH 6 Ht,iR 4 x6] (w9 x6 rfl)
  ·exact rm [iG 3 3,iH 6 Hf,iR 4 x6] (uN x6)
 ·intro cD h;refine sq (bE h fun yY vM h=>r2 [iK 2 {} (mT zY.M 1 1000000000000 yY vM)] [1] [(2,Ii yY)] [0] [] 1 ?_);cases h;exact rt rx
 intro cD h;refine sk (s2 [] [1] [(2,Ii yF)] [0] [] 1 ?_);cases h;exact rt rx
theorem T7 (F:Nat) (zY:xD) (r:Int) (h:iI F zY=some r):yS prog 134 [] [] [x9 zY] [] (Ii r):=by
 refine tI Tryz.f134 ?_;unfold iI at h;refine sE [iH 0 { id:=0 }] [(1,Pp 0)] [(0,Vb 112 (u7 zY))] 1 (sq (ad 15 h ?_ ?_ ?_))
 ·rcases bft (decide (zY.At<0)) with zS | zS
  ·exact rm [iG 4 3,iH 7 Ht,iR 4 zS] (ort zS)
  ·exact rm [iH 7 Hf,iR 4 zS] (orf zS rfl)
 ·intro z8 h;refine s2 [] [1] [(2,Ii 2)] [0] [] 1 ?_;cases h;exact rt rx
 intro z8 h;refine sk (sq (ad 23 h ?_ ?_ ?_))
 ·rcases bft (decide (zY.Kind<1)) with z0 | z0
  ·exact rm [iG 4 3,iH 7 Ht,iR 4 z0] (ort z0)
  ·exact rm [iH 7 Hf,iR 4 z0] (orf z0 rfl)
 ·intro yV h;refine s2 [] [1] [(2,Ii 1)] [0] [] 1 ?_;cases h;exact rt rx
 intro yV h;refine sk (sq (bE h fun zA zJ h=>r0 [iK 2 {} (zEG zY.Kind zA zJ)] [(3,.bool zA.1),(4,.bool zA.2.1),(5,.bool zA.2.2.1),(6,.bool zA.2.2.2)] (sq (sq (bE h fun zN zW h=>?_)))));refine xP (mk [(1,Pp 0),(3,.bool zA.1),(6,.bool zA.2.2.2),(66,.bool zN)] [(0,Vb 112 (u7 zY))] 1) ?_ ?_
 ·replace h:=zW;rcases bft (!zA.1) with yE | yE
  ·replace h:=xN yE h;rcases bft (!(zY.Name==([]:List Int))) with yC | yC
   ·replace h:=xN yC h;refine r0 [iH 6 Ht,iG 8 3,iH 14 Hg,iH 15 Ht,iG 17 3,iH 23 Hg,iH 24 Ht,iG 26 3,iH 33 Hg,iH 34 Ht,iR 4 yE,iR 5 yC,iX 4,iA true,iX 4,iA true] [(66,.bool true)] ?_;cases h;exact ⟨rfl,(sI 1 [1,3,6,66])⟩
   ·replace h:=xO yC h;rcases bft (!zA.2.1) with x6 | x6
    ·replace h:=xN x6 h;rcases bft (zY.N != 0) with wJ | wJ
     ·replace h:=xN wJ h;refine r0 [iH 6 Ht,iH 14 Ht,iH 15 Hf,iG 17 3,iH 23 Hg,iH 24 Ht,iG 26 3,iH 33 Hg,iH 34 Ht,iR 4 yE,iR 3 yC,iR 3 x6,iC yC,iC x6,iC yC,iR 5 wJ,iX 4,iA true] [(66,.bool true)] ?_;cases h;exact ⟨rfl,(sI 1 [1,3,6,66])⟩
     ·replace h:=xO wJ h;rcases bft (!zA.2.2.1) with wN | wN
      ·replace h:=xN wN h;rcases bft (zY.M != 0) with wK | wK
       ·replace h:=xN wK h;refine r0 [iH 6 Ht,iH 14 Ht,iH 15 Hf,iH 23 Ht,iH 24 Hf,iG 26 3,iH 33 Hg,iH 34 Ht,iR 4 yE,iR 3 yC,iR 3 x6,iC yC,iC x6,iC yC,iR 3 wJ,iR 3 wN,iC wJ,iC wN,iC wJ,iR 5 wK] [(66,.bool true)] ?_;cases h;exact ⟨rfl,(sI 1 [1,3,6,66])⟩
       ·replace h:=xO wK h;rcases bft (!zA.2.2.2) with v4 | v4
        ·replace h:=xN v4 h;refine r0 [iH 6 Ht,iH 14 Ht,iH 15 Hf,iH 23 Ht,iH 24 Hf,iH 33 Ht,iH 34 Hf,iR 4 yE,iR 3 yC,iR 3 x6,iC yC,iC x6,iC yC,iR 3 wJ,iR 3 wN,iC wJ,iC wN,iC wJ,iR 3 wK,iR 3 v4,iN 31 AV.str zY.Stack,iC v4,iC wK,iC v4,iC wK] [(66,.bool (decide ((lN zY.Stack)>0)))] ?_;cases h;exact ⟨rfl,(sI 1 [1,3,6,66])⟩
        ·replace h:=xO v4 h;refine r0 [iH 6 Ht,iH 14 Ht,iH 15 Hf,iH 23 Ht,iH 24 Hf,iG 29 4,iH 33 Hf,iH 34 Hf,iR 4 yE,iR 3 yC,iR 3 x6,iC yC,iC x6,iC yC,iR 3 wJ,iR 3 wN,iC wJ,iC wN,iC wJ,iR 3 wK,iR 4 v4,iC wK,iC v4,iC wK] [(66,.bool false)] ?_;cases h;exact ⟨rfl,(sI 1 [1,3,6,66])⟩
      ·replace h:=xO wN h;rcases bft (!zA.2.2.2) with vA | vA
       ·replace h:=xN vA h;refine r0 [iH 6 Ht,iH 14 Ht,iH 15 Hf,iG 20 3,iH 23 Hf,iH 24 Hf,iH 33 Ht,iH 34 Hf,iR 4 yE,iR 3 yC,iR 3 x6,iC yC,iC x6,iC yC,iR 3 wJ,iR 3 wN,iC wJ,iC wN,iC wJ,iQ 3 false,iR 3 vA,iN 31 AV.str zY.Stack,iC vA,iA false,iC vA,iA false] [(66,.bool (decide ((lN zY.Stack)>0)))] ?_;cases h;exact ⟨rfl,(sI 1 [1,3,6,66])⟩
       ·replace h:=xO vA h;refine r0 [iH 6 Ht,iH 14 Ht,iH 15 Hf,iG 20 3,iH 23 Hf,iH 24 Hf,iG 29 4,iH 33 Hf,iH 34 Hf,iR 4 yE,iR 3 yC,iR 3 x6,iC yC,iC x6,iC yC,iR 3 wJ,iR 3 wN,iC wJ,iC wN,iC wJ,iQ 3 false,iR 4 vA,iA false,iC vA,iA false] [(66,.bool false)] ?_;cases h;exact ⟨rfl,(sI 1 [1,3,6,66])⟩
    ·replace h:=xO x6 h;rcases bft (!zA.2.2.1) with wG | wG
     ·replace h:=xN wG h;rcases bft (zY.M != 0) with wP | wP
      ·replace h:=xN wP h;refine r0 [iH 6 Ht,iG 11 3,iH 14 Hf,iH 15 Hf,iH 23 Ht,iH 24 Hf,iG 26 3,iH 33 Hg,iH 34 Ht,iR 4 yE,iR 3 yC,iR 3 x6,iC yC,iC x6,iC yC,iQ 3 false,iR 3 wG,iA false,iC wG,iA false,iR 5 wP] [(66,.bool true)] ?_;cases h;exact ⟨rfl,(sI 1 [1,3,6,66])⟩
      ·replace h:=xO wP h;rcases bft (!zA.2.2.2) with wW | wW
       ·replace h:=xN wW h;refine r0 [iH 6 Ht,iG 11 3,iH 14 Hf,iH 15 Hf,iH 23 Ht,iH 24 Hf,iH 33 Ht,iH 34 Hf,iR 4 yE,iR 3 yC,iR 3 x6,iC yC,iC x6,iC yC,iQ 3 false,iR 3 wG,iA false,iC wG,iA false,iR 3 wP,iR 3 wW,iN 31 AV.str zY.Stack,iC wW,iC wP,iC wW,iC wP] [(66,.bool (decide ((lN zY.Stack)>0)))] ?_;cases h;exact ⟨rfl,(sI 1 [1,3,6,66])⟩
       ·replace h:=xO wW h;refine r0 [iH 6 Ht,iG 11 3,iH 14 Hf,iH 15 Hf,iH 23 Ht,iH 24 Hf,iG 29 4,iH 33 Hf,iH 34 Hf,iR 4 yE,iR 3 yC,iR 3 x6,iC yC,iC x6,iC yC,iQ 3 false,iR 3 wG,iA false,iC wG,iA false,iR 3 wP,iR 4 wW,iC wP,iC wW,iC wP] [(66,.bool false)] ?_;cases h;exact ⟨rfl,(sI 1 [1,3,6,66])⟩
     ·replace h:=xO wG h;rcases bft (!zA.2.2.2) with uI | uI
      ·replace h:=xN uI h;refine r0 [iH 6 Ht,iG 11 3,iH 14 Hf,iH 15 Hf,iG 20 3,iH 23 Hf,iH 24 Hf,iH 33 Ht,iH 34 Hf,iR 4 yE,iR 3 yC,iR 3 x6,iC yC,iC x6,iC yC,iQ 3 false,iR 3 wG,iA false,iC wG,iQ 4 false,iR 3 uI,iN 31 AV.str zY.Stack,iC uI,iA false,iC uI,iA false] [(66,.bool (decide ((lN zY.Stack)>0)))] ?_;cases h;exact ⟨rfl,(sI 1 [1,3,6,66])⟩
      ·replace h:=xO uI h;refine r0 [iH 6 Ht,iG 11 3,iH 14 Hf,iH 15 Hf,iG 20 3,iH 23 Hf,iH 24 Hf,iG 29 4,iH 33 Hf,iH 34 Hf,iR 4 yE,iR 3 yC,iR 3 x6,iC yC,iC x6,iC yC,iQ 3 false,iR 3 wG,iA false,iC wG,iQ 4 false,iR 4 uI,iA false,iC uI,iA false] [(66,.bool false)] ?_;cases h;exact ⟨rfl,(sI 1 [1,3,6,66])⟩
  ·replace h:=xO yE h;rcases bft (!zA.2.1) with v5 | v5
   ·replace h:=xN v5 h;rcases bft (zY.N != 0) with u6 | u6
    ·replace h:=xN u6 h;refine r0 [iG 3 3,iH 6 Hf,iH 14 Ht,iH 15 Hf,iG 17 3,iH 23 Hg,iH 24 Ht,iG 26 3,iH 33 Hg,iH 34 Ht,iR 4 yE,iQ 3 false,iR 3 v5,iA false,iC v5,iA false,iR 5 u6,iX 4,iA true] [(66,.bool true)] ?_;cases h;exact ⟨rfl,(sI 1 [1,3,6,66])⟩
    ·replace h:=xO u6 h;rcases bft (!zA.2.2.1) with q9 | q9
     ·replace h:=xN q9 h;rcases bft (zY.M != 0) with kI | kI
      ·replace h:=xN kI h;refine r0 [iG 3 3,iH 6 Hf,iH 14 Ht,iH 15 Hf,iH 23 Ht,iH 24 Hf,iG 26 3,iH 33 Hg,iH 34 Ht,iR 4 yE,iQ 3 false,iR 3 v5,iA false,iC v5,iA false,iR 3 u6,iR 3 q9,iC u6,iC q9,iC u6,iR 5 kI] [(66,.bool true)] ?_;cases h;exact ⟨rfl,(sI 1 [1,3,6,66])⟩
      ·replace h:=xO kI h;rcases bft (!zA.2.2.2) with pX | pX
       ·replace h:=xN pX h;refine r0 [iG 3 3,iH 6 Hf,iH 14 Ht,iH 15 Hf,iH 23 Ht,iH 24 Hf,iH 33 Ht,iH 34 Hf,iR 4 yE,iQ 3 false,iR 3 v5,iA false,iC v5,iA false,iR 3 u6,iR 3 q9,iC u6,iC q9,iC u6,iR 3 kI,iR 3 pX,iN 31 AV.str zY.Stack,iC pX,iC kI,iC pX,iC kI] [(66,.bool (decide ((lN zY.Stack)>0)))] ?_;cases h;exact ⟨rfl,(sI 1 [1,3,6,66])⟩
       ·replace h:=xO pX h;refine r0 [iG 3 3,iH 6 Hf,iH 14 Ht,iH 15 Hf,iH 23 Ht,iH 24 Hf,iG 29 4,iH 33 Hf,iH 34 Hf,iR 4 yE,iQ 3 false,iR 3 v5,iA false,iC v5,iA false,iR 3 u6,iR 3 q9,iC u6,iC q9,iC u6,iR 3 kI,iR 4 pX,iC kI,iC pX,iC kI] [(66,.bool false)] ?_;cases h;exact ⟨rfl,(sI 1 [1,3,6,66])⟩
     ·replace h:=xO q9 h;rcases bft (!zA.2.2.2) with pY | pY
      ·replace h:=xN pY h;refine r0 [iG 3 3,iH 6 Hf,iH 14 Ht,iH 15 Hf,iG 20 3,iH 23 Hf,iH 24 Hf,iH 33 Ht,iH 34 Hf,iR 4 yE,iQ 3 false,iR 3 v5,iA false,iC v5,iA false,iR 3 u6,iR 3 q9,iC u6,iC q9,iC u6,iQ 3 false,iR 3 pY,iN 31 AV.str zY.Stack,iC pY,iA false,iC pY,iA false] [(66,.bool (decide ((lN zY.Stack)>0)))] ?_;cases h;exact ⟨rfl,(sI 1 [1,3,6,66])⟩
      ·replace h:=xO pY h;refine r0 [iG 3 3,iH 6 Hf,iH 14 Ht,iH 15 Hf,iG 20 3,iH 23 Hf,iH 24 Hf,iG 29 4,iH 33 Hf,iH 34 Hf,iR 4 yE,iQ 3 false,iR 3 v5,iA false,iC v5,iA false,iR 3 u6,iR 3 q9,iC u6,iC q9,iC u6,iQ 3 false,iR 4 pY,iA false,iC pY,iA false] [(66,.bool false)] ?_;cases h;exact ⟨rfl,(sI 1 [1,3,6,66])⟩
   ·replace h:=xO v5 h;rcases bft (!zA.2.2.1) with tQ | tQ
    ·replace h:=xN tQ h;rcases bft (zY.M != 0) with qV | qV
     ·replace h:=xN qV h;refine r0 [iG 3 3,iH 6 Hf,iG 11 3,iH 14 Hf,iH 15 Hf,iH 23 Ht,iH 24 Hf,iG 26 3,iH 33 Hg,iH 34 Ht,iR 4 yE,iQ 3 false,iR 3 v5,iA false,iC v5,iQ 4 false,iR 3 tQ,iA false,iC tQ,iA false,iR 5 qV] [(66,.bool true)] ?_;cases h;exact ⟨rfl,(sI 1 [1,3,6,66])⟩
     ·replace h:=xO qV h;rcases bft (!zA.2.2.2) with qW | qW
      ·replace h:=xN qW h;refine r0 [iG 3 3,iH 6 Hf,iG 11 3,iH 14 Hf,iH 15 Hf,iH 23 Ht,iH 24 Hf,iH 33 Ht,iH 34 Hf,iR 4 yE,iQ 3 false,iR 3 v5,iA false,iC v5,iQ 4 false,iR 3 tQ,iA false,iC tQ,iA false,iR 3 qV,iR 3 qW,iN 31 AV.str zY.Stack,iC qW,iC qV,iC qW,iC qV] [(66,.bool (decide ((lN zY.Stack)>0)))] ?_;cases h;exact ⟨rfl,(sI 1 [1,3,6,66])⟩
      ·replace h:=xO qW h;refine r0 [iG 3 3,iH 6 Hf,iG 11 3,iH 14 Hf,iH 15 Hf,iH 23 Ht,iH 24 Hf,iG 29 4,iH 33 Hf,iH 34 Hf,iR 4 yE,iQ 3 false,iR 3 v5,iA false,iC v5,iQ 4 false,iR 3 tQ,iA false,iC tQ,iA false,iR 3 qV,iR 4 qW,iC qV,iC qW,iC qV] [(66,.bool false)] ?_;cases h;exact ⟨rfl,(sI 1 [1,3,6,66])⟩
    ·replace h:=xO tQ h;rcases bft (!zA.2.2.2) with jF | jF
     ·replace h:=xN jF h;refine r0 [iG 3 3,iH 6 Hf,iG 11 3,iH 14 Hf,iH 15 Hf,iG 20 3,iH 23 Hf,iH 24 Hf,iH 33 Ht,iH 34 Hf,iR 4 yE,iQ 3 false,iR 3 v5,iA false,iC v5,iQ 4 false,iR 3 tQ,iA false,iC tQ,iQ 4 false,iR 3 jF,iN 31 AV.str zY.Stack,iC jF,iA false,iC jF,iA false] [(66,.bool (decide ((lN zY.Stack)>0)))] ?_;cases h;exact ⟨rfl,(sI 1 [1,3,6,66])⟩
     ·replace h:=xO jF h;refine r0 [iG 3 3,iH 6 Hf,iG 11 3,iH 14 Hf,iH 15 Hf,iG 20 3,iH 23 Hf,iH 24 Hf,iG 29 4,iH 33 Hf,iH 34 Hf,iR 4 yE,iQ 3 false,iR 3 v5,iA false,iC v5,iQ 4 false,iR 3 tQ,iA false,iC tQ,iQ 4 false,iR 4 jF,iA false,iC jF,iA false] [(66,.bool false)] ?_;cases h;exact ⟨rfl,(sI 1 [1,3,6,66])⟩
 refine ch 66 h ?_ ?_
 ·intro xG h;refine s2 [] [1] [(2,Ii 1)] [0] [] 1 ?_;cases h;exact rt rx
 intro xG h;refine sk (s0 [] [(7,Ii 0)] (sq (s0 [] [(67,.bool zA.1)] (bE h fun zE yU h=>?_))));refine xP (mk [(1,Pp 0),(6,.bool zA.2.2.2),(7,Ii zE)] [(0,Vb 112 (u7 zY))] 1) ?_ ?_
 ·replace h:=yU;refine ch 67 h ?_ ?_
  rotate_left
  ·intro wR h;refine sk ?_;cases h;exact ⟨rfl,(sI 1 [1,6,7])⟩
  intro wR h;refine bE h fun zC xB h=>r0 [iK 2 {} (GN F zY.Name zC xB)] [(7,Ii zC)] ?_;cases h;exact ⟨rfl,(sI 1 [1,6,7])⟩
 refine sq (s0 [] [(71,.bool zA.2.2.2)] (bE h fun zR xR h=>?_));refine xP (mk [(1,Pp 0),(7,Ii zR)] [(0,Vb 112 (u7 zY))] 1) ?_ ?_
 ·replace h:=xR;refine ch 71 h ?_ ?_
  rotate_left
  ·intro vR h;refine sk ?_;cases h;exact ⟨rfl,(sI 1 [1,7])⟩
  intro vR h;refine bE h fun zM wA h=>r0 [iK 2 {} (ZI F zY.Stack zM wA)] [(7,Ii zM)] ?_;cases h;exact ⟨rfl,(sI 1 [1,7])⟩
 refine sq (c0 [] 76 h [] ?_ ?_)
 ·intro uO h;refine s2 [] [1] [(2,Ii zR)] [0] [] 1 ?_;cases h;exact rt rx
 intro uO h;refine sk (sq (bE h fun zT wS h=>r2 [iK 1 {} (zE1 zY zT wS)] [1] [(2,Ii zT)] [0] [] 1 ?_));cases h;exact rt rx
end Go.Ab
