/- Printed: the typed Lean functions of the Go functions, or the proofs that the Go functions meet them. No conditions but those that the theorems name. -/
import Derived.Test.YtoeengmnmhhpgaaGreatP15zx4
namespace Go.Ab
open Go
set_option linter.unusedVariables false
theorem S6 (F:Nat) (zB:Int) (r:Bool) (h:iY F zB=some r):yK prog 140 [] [] [Iu zB] [] (.bool r):=by
 refine tI Go.Proofs.Tryz.f140 ?_;unfold iY at h;refine sE [] [(0,Iu zB)] [] 0 (sq (ad 26 h ?_ ?_ ?_))
 ·rcases bft (decide (zB≥(97:Int))) with zO | zO
  ·rcases bft (decide (zB≤(122:Int))) with zP | zP
   ·exact rm [iH 5 Ht,iG 7 3,iH 12 Hg,iH 13 Ht,iG 15 3,iH 20 Hg,iH 21 Ht,iR 3 zO,iR 5 zP,iX 4,iA true] (ctr zO (ort zP))
   ·rcases bft (decide (zB≥(65:Int))) with z8 | z8
    ·rcases bft (decide (zB≤(90:Int))) with yJ | yJ
     ·exact rm [iH 5 Ht,iH 12 Ht,iH 13 Hf,iG 15 3,iH 20 Hg,iH 21 Ht,iR 3 zO,iR 3 zP,iR 2 z8,iC zP,iC z8,iC zP,iR 5 yJ] (ctr zO (orf zP (ctr z8 (ort yJ))))
     ·rcases bft (decide (zB≥(48:Int))) with x9 | x9
      ·exact rm [iH 5 Ht,iH 12 Ht,iH 13 Hf,iH 20 Ht,iH 21 Hf,iR 3 zO,iR 3 zP,iR 2 z8,iC zP,iC z8,iC zP,iR 3 yJ,iR 2 x9,iC yJ,iC x9,iC yJ] (ctr zO (orf zP (ctr z8 (orf yJ (vA x9 rfl)))))
      ·exact rm [iH 5 Ht,iH 12 Ht,iH 13 Hf,iG 18 2,iH 20 Hf,iH 21 Hf,iR 3 zO,iR 3 zP,iR 2 z8,iC zP,iC z8,iC zP,iR 3 yJ,iR 2 x9,iC yJ,iC x9,iC yJ] (ctr zO (orf zP (ctr z8 (orf yJ (uO x9)))))
    ·rcases bft (decide (zB≥(48:Int))) with x5 | x5
     ·exact rm [iH 5 Ht,iG 10 2,iH 12 Hf,iH 13 Hf,iH 20 Ht,iH 21 Hf,iR 3 zO,iR 3 zP,iR 2 z8,iC zP,iC z8,iC zP,iQ 3 false,iR 2 x5,iA false,iC x5,iA false] (ctr zO (orf zP (cfr z8 (vA x5 rfl))))
     ·exact rm [iH 5 Ht,iG 10 2,iH 12 Hf,iH 13 Hf,iG 18 2,iH 20 Hf,iH 21 Hf,iR 3 zO,iR 3 zP,iR 2 z8,iC zP,iC z8,iC zP,iQ 3 false,iR 2 x5,iA false,iC x5,iA false] (ctr zO (orf zP (cfr z8 (uO x5))))
  ·rcases bft (decide (zB≥(65:Int))) with xU | xU
   ·rcases bft (decide (zB≤(90:Int))) with xW | xW
    ·exact rm [iG 3 2,iH 5 Hf,iH 12 Ht,iH 13 Hf,iG 15 3,iH 20 Hg,iH 21 Ht,iR 3 zO,iQ 3 false,iR 2 xU,iA false,iC xU,iA false,iR 5 xW] (cfr zO (ctr xU (ort xW)))
    ·rcases bft (decide (zB≥(48:Int))) with w4 | w4
     ·exact rm [iG 3 2,iH 5 Hf,iH 12 Ht,iH 13 Hf,iH 20 Ht,iH 21 Hf,iR 3 zO,iQ 3 false,iR 2 xU,iA false,iC xU,iA false,iR 3 xW,iR 2 w4,iC xW,iC w4,iC xW] (cfr zO (ctr xU (orf xW (vA w4 rfl))))
     ·exact rm [iG 3 2,iH 5 Hf,iH 12 Ht,iH 13 Hf,iG 18 2,iH 20 Hf,iH 21 Hf,iR 3 zO,iQ 3 false,iR 2 xU,iA false,iC xU,iA false,iR 3 xW,iR 2 w4,iC xW,iC w4,iC xW] (cfr zO (ctr xU (orf xW (uO w4))))
   ·rcases bft (decide (zB≥(48:Int))) with wL | wL
    ·exact rm [iG 3 2,iH 5 Hf,iG 10 2,iH 12 Hf,iH 13 Hf,iH 20 Ht,iH 21 Hf,iR 3 zO,iQ 3 false,iR 2 xU,iA false,iC xU,iQ 4 false,iR 2 wL,iA false,iC wL,iA false] (cfr zO (cfr xU (vA wL rfl)))
    ·exact rm [iG 3 2,iH 5 Hf,iG 10 2,iH 12 Hf,iH 13 Hf,iG 18 2,iH 20 Hf,iH 21 Hf,iR 3 zO,iQ 3 false,iR 2 xU,iA false,iC xU,iQ 4 false,iR 2 wL,iA false,iC wL,iA false] (cfr zO (cfr xU (uO wL)))
 ·intro yC h;refine s0 [] [(2,.bool true)] ?_;cases h;exact rt rx
 intro yC h;refine sk (s0 [] [(3,.str ([95,46,58,47,60,62,36,42,126,45]:List Int))] (sq (s0 [] [(4,Ii 0)] (bE h fun zD zH h=>?_))));refine vG (K1:=(fun e st'=>match zD with | (.inl q0)=>e=.normal∧Sub 0 st' (mk [] [] 0) | (.inr q1)=>e=.ret∧vH prog Go.Proofs.Tryz.f140 0 [] (.bool q1) st')) ?_ ?_
 ·replace h:=zH;refine yR (id:=0) zk ?_;refine w0 [] [] [(0,Iu zB),(3,.str ([95,46,58,47,60,62,36,42,126,45]:List Int)),(4,Ii 0)] [] ?_;refine x8 (fun n st=>∃ (z5:Int),st=mk [(0,Iu zB),(3,.str ([95,46,58,47,60,62,36,42,126,45]:List Int)),(4,Ii z5)] [] 0∧nS F zB n z5=some zD) F zk ⟨_,rfl,h⟩ ?_ ?_
  ·rintro _ ⟨_,_,h⟩;exact x7 (h:(none:Option (Unit⊕Bool))=some zD)
  rintro z4 _ ⟨z5,rfl,h⟩;replace h:aG F zB (nS F zB z4) z5=some zD:=h;unfold aG at h;refine sq (c0 [] 30 h [] ?_ ?_)
  rotate_left
  ·intro y0 h;refine x4 (id:=0) zk ?_;cases h;exact ⟨rfl,(sw [] [] [] [] an)⟩
  intro y0 h;refine sk (sq ?_);refine yR (id:=1) zk ?_;refine sq (bE h fun yN zS h=>r0 [iH 2 { z:=yN },iC zS] [(37,.bool (yN==zB))] (ch 37 h ?_ ?_))
  rotate_left
  ·intro xH h;refine sk (r0 [] [(4,Ii (zI (z5+(1:Int))))] ?_);exact ⟨_,(sw [] [] [.s 0,.s 3,.s 4] [] an),_,rfl,h⟩
  intro xH h;refine s0 [] [(2,.bool true)] ?_;cases h;exact rt ry
 intro e st1 hk;rcases zD with z7 | xG
 rotate_left
 ·obtain ⟨rfl,hf⟩:=hk;cases h;exact ⟨st1,Sub.refl _ _,.inr rfl,hf⟩
 obtain ⟨rfl,hs⟩:=hk;refine ⟨_,hs,?_⟩;refine s0 [] [(2,.bool false)] ?_;cases h;exact rt rx

theorem M7 (F:Nat) (zE:List Int) (r:Int) (h:dH F zE=some r):yK prog 101 [] [] [.str zE] [] (Ii r):=by
 refine tI Go.Proofs.Tryz.f101 ?_;unfold dH at h;refine sE [] [(0,.str zE)] [] 0 (sq (ad 11 h ?_ ?_ ?_))
 ·rcases bft (decide ((lN (zE))<(1:Int))) with zO | zO
  ·exact rm [iG 4 3,iH 7 Ht,iR 4 zO] (ort zO)
  ·exact rm [iH 7 Hf,iR 4 zO] (orf zO rfl)
 ·intro yC h;refine s0 [] [(2,Ii 3)] ?_;cases h;exact rt rx
 intro yC h;refine sk (sq (s0 [] [(3,Ii 0)] (bE h fun zD zH h=>?_)));refine vG (K1:=(fun e st'=>match zD with | (.inl q0)=>e=.normal∧Sub 0 st' (mk [] [] 0) | (.inr q1)=>e=.ret∧vH prog Go.Proofs.Tryz.f101 0 [] (Ii q1) st')) ?_ ?_
 ·replace h:=zH;refine yR (id:=0) zk ?_;refine w0 [] [] [(0,.str zE),(3,Ii 0)] [] ?_;refine x8 (fun n st=>∃ (z5:Int),st=mk [(0,.str zE),(3,Ii z5)] [] 0∧g5 F zE n z5=some zD) F zk ⟨_,rfl,h⟩ ?_ ?_
  ·rintro _ ⟨_,_,h⟩;exact x7 (h:(none:Option (Unit⊕Int))=some zD)
  rintro z4 _ ⟨z5,rfl,h⟩;replace h:dZ F zE (g5 F zE z4) z5=some zD:=h;unfold dZ at h;refine sq (c0 [] 15 h [] ?_ ?_)
  rotate_left
  ·intro y0 h;refine x4 (id:=0) zk ?_;cases h;exact ⟨rfl,(sw [] [] [] [] an)⟩
  intro y0 h;refine sk (sq ?_);refine yR (id:=1) zk ?_;refine sq (bE h fun zB zS h=>bE h fun zA yU h=>r0 [iH 2 { z:=zB },iC zS,iK 3 {} (S6 F zB zA yU)] [(22,.bool (!zA))] (ch 22 h ?_ ?_))
  rotate_left
  ·intro xH h;refine sk (r0 [] [(3,Ii (zI (z5+(1:Int))))] ?_);exact ⟨_,(sw [] [] [.s 0,.s 3] [] an),_,rfl,h⟩
  intro xH h;refine s0 [] [(2,Ii 3)] ?_;cases h;exact rt ry
 intro e st1 hk;rcases zD with z7 | xG
 rotate_left
 ·obtain ⟨rfl,hf⟩:=hk;cases h;exact ⟨st1,Sub.refl _ _,.inr rfl,hf⟩
 obtain ⟨rfl,hs⟩:=hk;refine ⟨_,hs,?_⟩;refine s0 [] [(2,Ii 0)] ?_;cases h;exact rt rx

theorem RG (F:Nat) (vJ:y6) (r:Int) (h:iB F vJ=some r):yK prog 61 [] [] [zZ vJ] [] (Ii r):=by
 refine tI Go.Proofs.Tryz.f61 ?_;unfold iB at h;refine sE [iH 0 { id:=0 }] [(1,Pp 0)] [(0,Vb 85 (uN vJ))] 1 (sq (ad 20 h ?_ ?_ ?_))
 ·rcases bft (decide (vJ.Id<(0:Int))) with zO | zO
  ·exact rm [iG 4 3,iH 7 Ht,iG 9 3,iH 12 Ht,iG 14 3,iH 17 Ht,iR 4 zO,iX 3,iA true,iX 3,iA true] (ort zO)
  ·rcases bft (decide (vJ.Id>(1000000000000000:Int))) with zP | zP
   ·exact rm [iH 7 Hf,iG 9 3,iH 12 Ht,iG 14 3,iH 17 Ht,iR 4 zO,iR 4 zP,iX 3,iA true] (orf zO (ort zP))
   ·rcases bft (decide (vJ.Domain<(0:Int))) with z8 | z8
    ·exact rm [iH 7 Hf,iH 12 Hf,iG 14 3,iH 17 Ht,iR 4 zO,iR 4 zP,iR 4 z8] (orf zO (orf zP (ort z8)))
    ·exact rm [iH 7 Hf,iH 12 Hf,iH 17 Hf,iR 4 zO,iR 4 zP,iR 4 z8] (orf zO (orf zP (orf z8 rfl)))
 ·intro yC h;refine s2 [] [1] [(2,Ii 2)] [0] [] 1 ?_;cases h;exact rt rx
 intro yC h;refine sk (sq (bE h fun zA zH h=>r2 [iK 2 {} (M7 F vJ.Name zA zH)] [1] [(2,Ii zA)] [0] [] 1 ?_));cases h;exact rt rx

theorem gV (F:Nat) (zG:List (yQ)) (vZ:Int) (r:Int) (h:nC F zG vZ=some r):yK prog 77 [] [] [Sq 2 zR zG,Ii vZ] [] (Ii r):=by
 refine tI Go.Proofs.Tryz.f77 ?_;unfold nC at h;refine sE [] [(0,Sq 2 zR zG),(1,Ii vZ)] [] 0 (sq (s0 [] [(5,Ii 0)] (bE h fun zD zH h=>?_)));refine vG (K1:=(fun e st'=>match zD with | (.inl q0)=>e=.normal∧Sub 0 st' (mk [] [] 0) | (.inr q1)=>e=.ret∧vH prog Go.Proofs.Tryz.f77 0 [] (Ii q1) st')) ?_ ?_
 ·replace h:=zH;refine yR (id:=0) zk ?_;refine w0 [] [] [(0,Sq 2 zR zG),(1,Ii vZ),(5,Ii 0)] [] ?_;refine x8 (fun n st=>∃ (z5:Int),st=mk [(0,Sq 2 zR zG),(1,Ii vZ),(5,Ii z5)] [] 0∧fB F zG vZ n z5=some zD) F zk ⟨_,rfl,h⟩ ?_ ?_
  ·rintro _ ⟨_,_,h⟩;exact x7 (h:(none:Option (Unit⊕Int))=some zD)
  rintro z4 _ ⟨z5,rfl,h⟩;replace h:aM F zG vZ (fB F zG vZ z4) z5=some zD:=h;unfold aM at h;refine sq (c0 [iN 2 zR zG] 9 h [] ?_ ?_)
  rotate_left
  ·intro yC h;refine x4 (id:=0) zk ?_;cases h;exact ⟨rfl,(sw [] [] [] [] an)⟩
  intro yC h;refine sk (sq ?_);refine yR (id:=1) zk ?_;refine sq (bE h fun zK zS h=>r0 [iF 2 zR zS] [(18,.bool (zK.Id==vZ))] (ch 18 h ?_ ?_))
  rotate_left
  ·intro y0 h;refine sk (r0 [] [(5,Ii (zI (z5+(1:Int))))] ?_);exact ⟨_,(sw [] [] [.s 0,.s 1,.s 5] [] an),_,rfl,h⟩
  intro y0 h;refine s1 [] [0] [(4,Ii z5)] ?_;cases h;exact rt ry
 intro e st1 hk;rcases zD with z7 | xG
 rotate_left
 ·obtain ⟨rfl,hf⟩:=hk;cases h;exact ⟨st1,Sub.refl _ _,.inr rfl,hf⟩
 obtain ⟨rfl,hs⟩:=hk;refine ⟨_,hs,?_⟩;refine s0 [] [(4,Ii (-1))] ?_;cases h;exact rt rx

theorem pG (z4:Int) (r:Bool) (h:dC z4=some r):yK prog 119 [] [] [Ii z4] [] (.bool r):=by
 refine tI Go.Proofs.Tryz.f119 ?_;unfold dC at h;refine sE [] [(0,Ii z4)] [] 0 (sq (am 2 (decide (z4≥(0:Int))&&decide (z4≤(1000000000000:Int))) ?_ ?_))
 ·rcases bft (decide (z4≥(0:Int))) with zO | zO
  ·exact rm [iH 5 Ht,iR 3 zO] (vA zO rfl)
  ·exact rm [iG 3 2,iH 5 Hf,iR 3 zO] (uO zO)
 cases h;exact rt rx

theorem M3 (F:Nat) (zG:List (yQ)) (zK:y2) (r:Int) (h:gQ F zG zK=some r):yK prog 78 [] [] [Sq 2 zR zG,zW zK] [] (Ii r):=by
 refine tI Go.Proofs.Tryz.f78 ?_;unfold gQ at h;refine sE [iH 0 { id:=0 }] [(0,Sq 2 zR zG),(3,Pp 0)] [(0,Vb 76 (tV zK))] 1 (sq ?_);refine yR (id:=0) zk ?_;refine sq (bE h fun zM yU h=>?_);refine xL (mk [(3,Pp 0),(5,.bool zM)] [(0,Vb 76 (tV zK))] 1) ?_ ?_
 ·replace h:=yU;refine bE h fun zA zH h=>?_;rcases bft (decide (zA<(0:Int))) with zO | zO
  ·replace h:=xE zO h;refine r1 [iG 6 5,iH 11 Ht,iK 3 {} (gV F zG zK.A zA zH),iR 6 zO] [0] [(5,.bool true)] ?_;cases h;exact ⟨rfl,(sw [0] [] [.s 3,.s 5] [.s 0] an)⟩
  ·replace h:=xD zO h;refine bE h fun zF zS h=>r1 [iH 11 Hf,iK 3 {} (gV F zG zK.A zA zH),iR 4 zO,iK 9 {} (gV F zG zK.B zF zS),iR 2 zO] [0] [(5,.bool (decide (zF<(0:Int))))] ?_;cases h;exact ⟨rfl,(sw [0] [] [.s 3,.s 5] [.s 0] an)⟩
 refine ch 5 h ?_ ?_
 ·intro yC h;refine s2 [] [3] [(4,Ii 5)] [0] [] 1 ?_;cases h;exact rt rx
 intro yC h;refine c0 [] 18 h [] ?_ ?_
 ·intro y0 h;refine s2 [] [3] [(4,Ii 1)] [0] [] 1 ?_;cases h;exact rt rx
 intro y0 h;refine sq (bE h fun uJ wP h=>?_);refine xL (mk [(24,.bool uJ)] [] 0) ?_ ?_
 ·replace h:=wP;refine bE h fun zN xB h=>?_;rcases bft (!zN) with zP | zP
  ·replace h:=xE zP h;refine r2 [iG 5 5,iH 10 Ht,iG 12 5,iH 17 Ht,iG 19 7,iH 26 Ht,iK 2 {} (pG zK.AtA zN xB),iR 6 zP,iX 5,iA true,iX 7,iA true] [3] [(24,.bool true)] [0] [] 1 ?_;cases h;exact ⟨rfl,(sw [] [] [.s 24] [] an)⟩
  ·replace h:=xD zP h;refine bE h fun zV xJ h=>?_;rcases bft (!zV) with z8 | z8
   ·replace h:=xE z8 h;refine r2 [iH 10 Hf,iG 12 5,iH 17 Ht,iG 19 7,iH 26 Ht,iK 2 {} (pG zK.AtA zN xB),iR 4 zP,iK 8 {} (pG zK.AtB.Lo zV xJ),iR 2 zP,iR 6 z8,iX 7,iA true] [3] [(24,.bool true)] [0] [] 1 ?_;cases h;exact ⟨rfl,(sw [] [] [.s 24] [] an)⟩
   ·replace h:=xD z8 h;refine bE h fun zU x3 h=>?_;rcases bft (!zU) with yJ | yJ
    ·replace h:=xE yJ h;refine r2 [iH 10 Hf,iH 17 Hf,iG 19 7,iH 26 Ht,iK 2 {} (pG zK.AtA zN xB),iR 4 zP,iK 8 {} (pG zK.AtB.Lo zV xJ),iR 2 zP,iR 4 z8,iK 15 {} (pG zK.AtB.Hi zU x3),iR 2 z8,iR 8 yJ] [3] [(24,.bool true)] [0] [] 1 ?_;cases h;exact ⟨rfl,(sw [] [] [.s 24] [] an)⟩
    ·replace h:=xD yJ h;refine r2 [iH 10 Hf,iH 17 Hf,iH 26 Hf,iK 2 {} (pG zK.AtA zN xB),iR 4 zP,iK 8 {} (pG zK.AtB.Lo zV xJ),iR 2 zP,iR 4 z8,iK 15 {} (pG zK.AtB.Hi zU x3),iR 2 z8,iR 8 yJ] [3] [(24,.bool (decide (zK.AtB.Lo>zK.AtB.Hi)))] [0] [] 1 ?_;cases h;exact ⟨rfl,(sw [] [] [.s 24] [] an)⟩
 refine ch 24 h ?_ ?_
 ·intro xH h;refine s0 [] [(4,Ii 2)] ?_;cases h;exact rt rx
 intro xH h;refine sk (s0 [] [(4,Ii 0)] ?_);cases h;exact rt rx

theorem E9 (F:Nat) (zG:List (yQ)) (zQ:List (y2)) (r:Int) (h:cJ F zG zQ=some r):yK prog 33 [] [] [Sq 2 zR zG,Sq 5 zW zQ] [] (Ii r):=by
 refine tI Go.Proofs.Tryz.f33 ?_;unfold cJ at h;refine sE [] [(0,Sq 2 zR zG),(1,Sq 5 zW zQ)] [] 0 (sq ?_);refine yR (id:=0) zk ?_;refine c0 [iN 1 zR zG] 8 h [] ?_ ?_
 ·intro yC h;refine s1 [] [0,1] [(4,Ii 8)] ?_;cases h;exact rt rx
 intro yC h;refine ad 12 h ?_ ?_ ?_
 ·rcases bft (decide ((lN (zG))>(8:Int))) with zO | zO
  ·exact rm [iG 4 3,iH 7 Ht,iN 1 zR zG,iR 4 zO] (ort zO)
  ·exact rm [iH 7 Hf,iN 1 zR zG,iR 2 zO,iN 5 zW zQ,iR 2 zO] (orf zO rfl)
 ·intro y0 h;refine s1 [] [0,1] [(4,Ii 7)] ?_;cases h;exact rt rx
 intro y0 h;refine sq (bE h fun zM yU h=>?_);refine xL (mk [(0,Sq 2 zR zG),(1,Sq 5 zW zQ),(21,.bool zM)] [] 0) ?_ ?_
 ·replace h:=yU;refine bE h fun zK zH h=>?_;rcases bft (zK.Id != (0:Int)) with zP | zP
  ·replace h:=xE zP h;refine r0 [iG 6 5,iH 11 Ht,iF 1 zR zH,iR 6 zP] [(21,.bool true)] ?_;cases h;exact ⟨rfl,(sw [] [] [.s 0,.s 1,.s 21] [] an)⟩
  ·replace h:=xD zP h;refine bE h fun yA zS h=>r0 [iH 11 Hf,iF 1 zR zH,iR 2 zP,iF 7 zR zS,iR 4 zP] [(21,.bool (yA.Ppm != (0:Int)))] ?_;cases h;exact ⟨rfl,(sw [] [] [.s 0,.s 1,.s 21] [] an)⟩
 refine ch 21 h ?_ ?_
 ·intro xH h;refine s1 [] [0,1] [(4,Ii 10)] ?_;cases h;exact rt rx
 intro xH h;refine sk (sq (s0 [] [(5,Ii 0)] (bE h fun zD xB h=>?_)));refine vG (K1:=(fun e st'=>match zD with | (.inl q0)=>e=.normal∧Sub 0 st' (mk [(0,Sq 2 zR zG),(1,Sq 5 zW zQ)] [] 0) | (.inr q1)=>e=.ret∧vH prog Go.Proofs.Tryz.f33 0 [] (Ii q1) st')) ?_ ?_
 ·replace h:=xB;refine yR (id:=1) zk ?_;refine w0 [] [] [(0,Sq 2 zR zG),(1,Sq 5 zW zQ),(5,Ii 0)] [] ?_;refine x8 (fun n st=>∃ (z5:Int),st=mk [(0,Sq 2 zR zG),(1,Sq 5 zW zQ),(5,Ii z5)] [] 0∧fZ F zG n z5=some zD) F zk ⟨_,rfl,h⟩ ?_ ?_
  ·rintro _ ⟨_,_,h⟩;exact x7 (h:(none:Option (Unit⊕Int))=some zD)
  rintro z4 _ ⟨z5,rfl,h⟩;replace h:aB F zG (fZ F zG z4) z5=some zD:=h;unfold aB at h;refine sq (c0 [iN 2 zR zG] 37 h [] ?_ ?_)
  rotate_left
  ·intro w7 h;refine x4 (id:=1) zk ?_;cases h;exact ⟨rfl,(sw [] [] [.s 0,.s 1] [] an)⟩
  intro w7 h;refine sk (sq ?_);refine yR (id:=2) zk ?_;refine sq (sq (bE h fun uJ vF h=>?_));refine xL (mk [(0,Sq 2 zR zG),(1,Sq 5 zW zQ),(5,Ii z5),(69,.bool uJ)] [] 0) ?_ ?_
  ·replace h:=vF;refine bE h fun y9 xJ h=>?_;rcases bft (decide (y9.Id<(0:Int))) with wX | wX
   ·replace h:=xE wX h;refine r0 [iG 7 6,iH 13 Ht,iG 15 6,iH 21 Ht,iG 23 6,iH 29 Ht,iF 2 zR xJ,iR 7 wX,iX 6,iA true,iX 6,iA true] [(47,.tuple []),(48,.tuple []),(49,.tuple []),(50,.tuple []),(51,.tuple []),(52,.tuple []),(55,.tuple []),(56,.tuple []),(57,.tuple []),(58,.tuple []),(59,.tuple []),(60,.tuple []),(63,.tuple []),(64,.tuple []),(65,.tuple []),(66,.tuple []),(67,.tuple []),(68,.tuple []),(69,.bool true)] ?_;cases h;exact ⟨rfl,(sw [] [] [.s 0,.s 1,.s 5,.s 69] [] an)⟩
   ·replace h:=xD wX h;refine bE h fun wW x3 h=>?_;rcases bft (decide (wW.Id≥(8:Int))) with w5 | w5
    ·replace h:=xE w5 h;refine r0 [iH 13 Hf,iG 15 6,iH 21 Ht,iG 23 6,iH 29 Ht,iF 2 zR xJ,iR 3 wX,iF 9 zR x3,iR 4 wX,iR 7 w5,iX 6,iA true] [(47,Sq 2 zR zG),(48,Ii z5),(49,.ref (zR wW)),(50,.ref (Ii wW.Id)),(51,Ii wW.Id),(52,.bool (decide (wW.Id≥(8:Int)))),(55,.tuple []),(56,.tuple []),(57,.tuple []),(58,.tuple []),(59,.tuple []),(60,.tuple []),(63,.tuple []),(64,.tuple []),(65,.tuple []),(66,.tuple []),(67,.tuple []),(68,.tuple []),(69,.bool true)] ?_;cases h;exact ⟨rfl,(sw [] [] [.s 0,.s 1,.s 5,.s 69] [] an)⟩
    ·replace h:=xD w5 h;refine bE h fun uI wP h=>?_;rcases bft (decide (uI.Ppm<(0:Int))) with v3 | v3
     ·replace h:=xE v3 h;refine r0 [iH 13 Hf,iH 21 Hf,iG 23 6,iH 29 Ht,iF 2 zR xJ,iR 3 wX,iF 9 zR x3,iR 4 wX,iR 3 w5,iF 17 zR wP,iR 4 w5,iR 7 v3] [(47,Sq 2 zR zG),(48,Ii z5),(49,.ref (zR wW)),(50,.ref (Ii wW.Id)),(51,Ii wW.Id),(52,.bool (decide (wW.Id≥(8:Int)))),(55,Sq 2 zR zG),(56,Ii z5),(57,.ref (zR uI)),(58,.ref (Ii uI.Ppm)),(59,Ii uI.Ppm),(60,.bool (decide (uI.Ppm<(0:Int)))),(63,.tuple []),(64,.tuple []),(65,.tuple []),(66,.tuple []),(67,.tuple []),(68,.tuple []),(69,.bool true)] ?_;cases h;exact ⟨rfl,(sw [] [] [.s 0,.s 1,.s 5,.s 69] [] an)⟩
     ·replace h:=xD v3 h;refine bE h fun u2 w6 h=>r0 [iH 13 Hf,iH 21 Hf,iH 29 Hf,iF 2 zR xJ,iR 3 wX,iF 9 zR x3,iR 4 wX,iR 3 w5,iF 17 zR wP,iR 4 w5,iR 3 v3,iF 25 zR w6,iR 4 v3] [(47,Sq 2 zR zG),(48,Ii z5),(49,.ref (zR wW)),(50,.ref (Ii wW.Id)),(51,Ii wW.Id),(52,.bool (decide (wW.Id≥(8:Int)))),(55,Sq 2 zR zG),(56,Ii z5),(57,.ref (zR uI)),(58,.ref (Ii uI.Ppm)),(59,Ii uI.Ppm),(60,.bool (decide (uI.Ppm<(0:Int)))),(63,Sq 2 zR zG),(64,Ii z5),(65,.ref (zR u2)),(66,.ref (Ii u2.Ppm)),(67,Ii u2.Ppm),(68,.bool (decide (u2.Ppm>(10000:Int)))),(69,.bool (decide (u2.Ppm>(10000:Int))))] ?_;cases h;exact ⟨rfl,(sw [] [] [.s 0,.s 1,.s 5,.s 69] [] an)⟩
  refine ch 69 h ?_ ?_
  ·intro vM h;refine s1 [] [0,1] [(4,Ii 2)] ?_;cases h;exact rt ry
  intro vM h;refine sk (sq (bE h fun x_7 vN h=>bE h fun zA v7 h=>r0 [iF 3 zR vN,iK 6 {} (gV F zG x_7.Id zA v7)] [(78,.bool (decide (zA<z5)))] (ch 78 h ?_ ?_)))
  rotate_left
  ·intro v8 h;refine sk (r0 [] [(5,Ii (zI (z5+(1:Int))))] ?_);exact ⟨_,(sw [] [] [.s 0,.s 1,.s 5] [] an),_,rfl,h⟩
  intro v8 h;refine s1 [] [0,1] [(4,Ii 4)] ?_;cases h;exact rt ry
 intro e st1 hk;rcases zD with z7 | xG
 rotate_left
 ·obtain ⟨rfl,hf⟩:=hk;cases h;exact ⟨st1,Sub.refl _ _,.inr rfl,hf⟩
 obtain ⟨rfl,hs⟩:=hk;refine ⟨_,hs,?_⟩;refine sq (s0 [] [(6,Ii 0)] (bE h fun zT uR h=>?_));refine vG (K1:=(fun e st'=>match zT with | (.inl q0)=>e=.normal∧Sub 0 st' (mk [] [] 0) | (.inr q1)=>e=.ret∧vH prog Go.Proofs.Tryz.f33 0 [] (Ii q1) st')) ?_ ?_
 ·replace h:=uR;refine yR (id:=3) zk ?_;refine w0 [] [] [(0,Sq 2 zR zG),(1,Sq 5 zW zQ),(6,Ii 0)] [] ?_;refine x8 (fun n st=>∃ (wQ:Int),st=mk [(0,Sq 2 zR zG),(1,Sq 5 zW zQ),(6,Ii wQ)] [] 0∧f8 F zG zQ n wQ=some zT) F zk ⟨_,rfl,h⟩ ?_ ?_
  ·rintro _ ⟨_,_,h⟩;exact x7 (h:(none:Option (Unit⊕Int))=some zT)
  rintro uB _ ⟨wQ,rfl,h⟩;replace h:n4 F zG zQ (f8 F zG zQ uB) wQ=some zT:=h;unfold n4 at h;refine sq (c0 [iN 2 zW zQ] 82 h [] ?_ ?_)
  rotate_left
  ·intro u3 h;refine x4 (id:=3) zk ?_;cases h;exact ⟨rfl,(sw [] [] [] [] an)⟩
  intro u3 h;refine sk (sq ?_);refine yR (id:=4) zk ?_;refine sq (bE h fun x_8 tF h=>bE h fun zF uW h=>r0 [iF 3 zW tF,iK 5 {} (M3 F zG x_8 zF uW)] [(7,Ii zF)] (c0 [] 92 h [] ?_ ?_))
  rotate_left
  ·intro jA h;refine sk (r0 [] [(6,Ii (zI (wQ+(1:Int))))] ?_);exact ⟨_,(sw [] [] [.s 0,.s 1,.s 6] [] an),_,rfl,h⟩
  intro jA h;refine s1 [] [0,1] [(4,Ii zF)] ?_;cases h;exact rt ry
 intro e st1 hk;rcases zT with qS | q8
 rotate_left
 ·obtain ⟨rfl,hf⟩:=hk;cases h;exact ⟨st1,Sub.refl _ _,.inr rfl,hf⟩
 obtain ⟨rfl,hs⟩:=hk;refine ⟨_,hs,?_⟩;refine s0 [] [(4,Ii 0)] ?_;cases h;exact rt rx

theorem NW (F:Nat) (zG:List (yQ)) (vZ:Int) (r:Int×Bool) (h:fY F zG vZ=some r):yK prog 62 [] [] [Sq 2 zR zG,Ii vZ] [] (.tuple [Ii r.1,.bool r.2]):=by
 refine tI Go.Proofs.Tryz.f62 ?_;unfold fY at h;refine sE [] [(0,Sq 2 zR zG),(1,Ii vZ)] [] 0 (sq (bE h fun zA zH h=>r0 [iK 2 {} (gV F zG vZ zA zH)] [(6,Ii zA)] (sq (sq (bE h fun zM yU h=>?_)))));refine xL (mk [(0,Sq 2 zR zG),(6,Ii zA),(16,.bool zM)] [] 0) ?_ ?_
 ·replace h:=yU;refine bE h fun zF zS h=>?_;rcases bft (zF != (0:Int)) with zO | zO
  ·replace h:=xE zO h;refine r0 [iG 4 2,iH 6 Ht,iL 1 {} [Sq 2 zR zG,.nilsl] (E9 F zG [] zF zS) ⟨rfl,rfl,rfl,rfl,trivial⟩,iR 3 zO] [(16,.bool true)] ?_;cases h;exact ⟨rfl,(sw [] [] [.s 0,.s 6,.s 16] [] an)⟩
  ·replace h:=xD zO h;refine r0 [iH 6 Hf,iL 1 {} [Sq 2 zR zG,.nilsl] (E9 F zG [] zF zS) ⟨rfl,rfl,rfl,rfl,trivial⟩,iR 3 zO] [(16,.bool (decide (zA<(0:Int))))] ?_;cases h;exact ⟨rfl,(sw [] [] [.s 0,.s 6,.s 16] [] an)⟩
 refine ch 16 h ?_ ?_
 ·intro yC h;refine s1 [] [0] [(4,Ii 0),(5,.bool false)] ?_;cases h;exact rt rx
 intro yC h;refine sk (sq (bE h fun zK xB h=>r1 [iF 2 zR xB] [0] [(4,Ii zK.Ppm),(5,.bool true)] ?_));cases h;exact rt rx

theorem DN (F:Nat) (zH:z6) (r:Int) (h:fW F zH=some r):yK prog 21 [] [] [vC zH] [] (Ii r):=by
 refine tI Go.Proofs.Tryz.f21 ?_;unfold fW at h;refine sE [iH 0 { id:=0 }] [(1,Pp 0)] [(0,Vb 28 (wA zH))] 1 (sq (c0 [iN 2 zZ zH.Threads] 13 h [] ?_ ?_))
 ·intro yC h;refine s2 [] [1] [(2,Ii 8)] [0] [] 1 ?_;cases h;exact rt rx
 intro yC h;refine sk (sq (c0 [iN 2 zZ zH.Threads] 17 h [] ?_ ?_))
 ·intro y0 h;refine s2 [] [1] [(2,Ii 7)] [0] [] 1 ?_;cases h;exact rt rx
 intro y0 h;refine sk (sq (s0 [] [(3,Ii 0)] (bE h fun zD zS h=>?_)));refine vG (K1:=(fun e st'=>match zD with | (.inl q0)=>e=.normal∧Sub 0 st' (mk [(1,Pp 0)] [(0,Vb 28 (wA zH))] 1) | (.inr q1)=>e=.ret∧vH prog Go.Proofs.Tryz.f21 0 [] (Ii q1) st')) ?_ ?_
 ·replace h:=zS;refine yR (id:=0) zk ?_;refine w0 [0] [] [(1,Pp 0),(3,Ii 0)] [(0,Vb 28 (wA zH))] ?_;refine x8 (fun n st=>∃ (z5:Int),st=mk [(1,Pp 0),(3,Ii z5)] [(0,Vb 28 (wA zH))] 1∧d7 F zH n z5=some zD) F zk ⟨_,rfl,h⟩ ?_ ?_
  ·rintro _ ⟨_,_,h⟩;exact x7 (h:(none:Option (Unit⊕Int))=some zD)
  rintro z4 _ ⟨z5,rfl,h⟩;replace h:aX F zH (d7 F zH z4) z5=some zD:=h;unfold aX at h;refine sq (c0 [iN 3 zZ zH.Threads] 22 h [] ?_ ?_)
  rotate_left
  ·intro xH h;refine x4 (id:=0) zk ?_;cases h;exact ⟨rfl,(sw [0] [] [.s 1] [.s 0] an)⟩
  intro xH h;refine sk (sq ?_);refine yR (id:=1) zk ?_;refine sq (bE h fun zK yU h=>bE h fun zA xB h=>r0 [iF 3 zZ yU,iK 5 {} (RG F zK zA xB)] [(4,Ii zA)] (sq (c0 [] 32 h [] ?_ ?_)))
  ·intro w7 h;refine s2 [] [1] [(2,Ii zA)] [0] [] 1 ?_;cases h;exact rt ry
  intro w7 h;refine sk (s0 [] [(5,Ii 0)] (bE h fun zT xJ h=>?_));refine vG (K1:=(fun e st'=>match zT with | (.inl q0)=>e=.normal∧Sub 0 st' (mk [(1,Pp 0),(3,Ii z5)] [(0,Vb 28 (wA zH))] 1) | (.inr q1)=>e=.ret∧vH prog Go.Proofs.Tryz.f21 0 [] (Ii q1) st')) ?_ ?_
  ·replace h:=xJ;refine yR (id:=2) zk ?_;refine w0 [0] [] [(1,Pp 0),(3,Ii z5),(5,Ii 0)] [(0,Vb 28 (wA zH))] ?_;refine x8 (fun n st=>∃ (xY:Int),st=mk [(1,Pp 0),(3,Ii z5),(5,Ii xY)] [(0,Vb 28 (wA zH))] 1∧cC F zH z5 n xY=some zT) F zk ⟨_,rfl,h⟩ ?_ ?_
   ·rintro _ ⟨_,_,h⟩;exact x7 (h:(none:Option (Unit⊕Int))=some zT)
   rintro uB _ ⟨xY,rfl,h⟩;replace h:aY F zH z5 (cC F zH z5 uB) xY=some zT:=h;unfold aY at h;refine sq (c0 [] 36 h [] ?_ ?_)
   rotate_left
   ·intro vM h;refine x4 (id:=2) zk ?_;cases h;exact ⟨rfl,(sw [0] [] [.s 1,.s 3] [.s 0] an)⟩
   intro vM h;refine sk (sq ?_);refine yR (id:=3) zk ?_;refine sq (bE h fun yA x3 h=>bE h fun y9 wP h=>r0 [iF 3 zZ x3,iF 9 zZ wP] [(51,.bool (yA.Id==y9.Id))] (ch 51 h ?_ ?_))
   rotate_left
   ·intro v8 h;refine sk (r0 [] [(5,Ii (zI (xY+(1:Int))))] ?_);exact ⟨_,(sw [0] [] [.s 1,.s 3,.s 5] [.s 0] an),_,rfl,h⟩
   intro v8 h;refine s2 [] [1] [(2,Ii 4)] [0] [] 1 ?_;cases h;exact rt ry
  intro e st1 hk;rcases zT with z7 | xG
  rotate_left
  ·obtain ⟨rfl,hf⟩:=hk;cases h;exact ⟨_,Sub.refl _ _,rfl,hf⟩
  obtain ⟨rfl,hs⟩:=hk;refine ⟨_,hs,?_⟩;refine r0 [] [(3,Ii (zI (z5+(1:Int))))] ?_;exact ⟨_,(sw [0] [] [.s 1,.s 3] [.s 0] an),_,rfl,h⟩
 intro e st1 hk;rcases zD with qS | q8
 rotate_left
 ·obtain ⟨rfl,hf⟩:=hk;cases h;exact ⟨st1,Sub.refl _ _,.inr rfl,hf⟩
 obtain ⟨rfl,hs⟩:=hk;refine ⟨_,hs,?_⟩;refine sq (bE h fun zF w6 h=>r0 [iK 4 {} (E9 F zH.Domains zH.Snaps zF w6)] [(6,Ii zF)] (sq (c0 [] 58 h [] ?_ ?_)))
 ·intro u3 h;refine s2 [] [1] [(2,Ii zF)] [0] [] 1 ?_;cases h;exact rt rx
 intro u3 h;refine sk (sq (s0 [] [(7,Ii 0)] (bE h fun yS vF h=>?_)));refine vG (K1:=(fun e st'=>match yS with | (.inl q0)=>e=.normal∧Sub 0 st' (mk [] [] 0) | (.inr q1)=>e=.ret∧vH prog Go.Proofs.Tryz.f21 0 [] (Ii q1) st')) ?_ ?_
 ·replace h:=vF;refine yR (id:=4) zk ?_;refine w0 [0] [] [(1,Pp 0),(7,Ii 0)] [(0,Vb 28 (wA zH))] ?_;refine x8 (fun n st=>∃ (wQ:Int),st=mk [(1,Pp 0),(7,Ii wQ)] [(0,Vb 28 (wA zH))] 1∧cZ F zH n wQ=some yS) F zk ⟨_,rfl,h⟩ ?_ ?_
  ·rintro _ ⟨_,_,h⟩;exact x7 (h:(none:Option (Unit⊕Int))=some yS)
  rintro uQ _ ⟨wQ,rfl,h⟩;replace h:aC F zH (cZ F zH uQ) wQ=some yS:=h;unfold aC at h;refine sq (c0 [iN 3 zZ zH.Threads] 64 h [] ?_ ?_)
  rotate_left
  ·intro jA h;refine x4 (id:=4) zk ?_;cases h;exact ⟨rfl,(sw [] [] [] [] an)⟩
  intro jA h;refine sk (sq ?_);refine yR (id:=5) zk ?_;refine sq (bE h fun wW vN h=>bE h fun zN v7 h=>r0 [iF 5 zZ vN,iK 8 {} (NW F zH.Domains wW.Domain zN v7)] [(9,.bool zN.2)] (c0 [] 80 h [] ?_ ?_))
  rotate_left
  ·intro g_9 h;refine sk (r0 [] [(7,Ii (zI (wQ+(1:Int))))] ?_);exact ⟨_,(sw [0] [] [.s 1,.s 7] [.s 0] an),_,rfl,h⟩
  intro g_9 h;refine s2 [] [1] [(2,Ii 5)] [0] [] 1 ?_;cases h;exact rt ry
 intro e st1 hk;rcases yS with q_5 | q_6
 rotate_left
 ·obtain ⟨rfl,hf⟩:=hk;cases h;exact ⟨st1,Sub.refl _ _,.inr rfl,hf⟩
 obtain ⟨rfl,hs⟩:=hk;refine ⟨_,hs,?_⟩;refine s0 [] [(2,Ii 0)] ?_;cases h;exact rt rx

end Go.Ab
