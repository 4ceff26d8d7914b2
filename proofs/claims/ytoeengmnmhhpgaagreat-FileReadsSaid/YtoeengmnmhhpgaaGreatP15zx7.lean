/- Printed: the typed Lean functions of the Go functions, or the proofs that the Go functions meet them. No conditions but those that the theorems name. -/
import Derived.Test.YtoeengmnmhhpgaaGreatP15zx6
namespace Go.Ab
open Go
set_option linter.unusedVariables false
theorem zEV (F:Nat) (yJ:yW) (zE:yW) (r:Bool) (h:GA F yJ zE=some r):yR prog 81 [] [] [xN yJ,xN zE] [] (.bool r):=by
 refine tI Go.Proofs.Tryz.f81 ?_;unfold GA at h;refine sE [iH 0 { id:=0 },iH 1 { id:=1 }] [(2,Pp 0),(3,Pp 1)] [(0,Vb 112 (uQ yJ)),(1,Vb 112 (uQ zE))] 2 (sq (bE h fun zK zX h=>?_));refine xR (mk [(4,.bool zK)] [] 0) ?_ ?_
 ·replace h:=zX;rcases bft (yJ.At==zE.At) with zT | zT
  ·replace h:=xK zT h;rcases bft (yJ.Kind==zE.Kind) with z4 | z4
   ·replace h:=xK z4 h;rcases bft (yJ.Name==zE.Name) with yE | yE
    ·replace h:=xK yE h;rcases bft (yJ.N==zE.N) with yK | yK
     ·replace h:=xK yK h;rcases bft (yJ.M==zE.M) with xX | xX
      ·replace h:=xK xX h;refine bE h fun zA zL h=>r2 [iH 11 Ht,iH 18 Ht,iH 25 Ht,iH 32 Ht,iH 39 Ht,iR 6 zT,iR 6 z4,iR 6 yE,iR 6 yK,iR 5 xX,iK 38 {} (ZX F yJ.Stack zE.Stack zA zL),iC xX] [2,3] [(4,.bool zA)] [0,1] [] 2 ?_;cases h;exact ⟨rfl,(sw [] [] [.s 4] [] an)⟩
      ·replace h:=xJ xX h;refine r2 [iH 11 Ht,iH 18 Ht,iH 25 Ht,iH 32 Ht,iG 34 5,iH 39 Hf,iR 6 zT,iR 6 z4,iR 6 yE,iR 6 yK,iR 6 xX] [2,3] [(4,.bool false)] [0,1] [] 2 ?_;cases h;exact ⟨rfl,(sw [] [] [.s 4] [] an)⟩
     ·replace h:=xJ yK h;refine r2 [iH 11 Ht,iH 18 Ht,iH 25 Ht,iG 27 5,iH 32 Hf,iG 34 5,iH 39 Hf,iR 6 zT,iR 6 z4,iR 6 yE,iR 6 yK,iZ,iZ,iZ,iZ,iZ,iA false] [2,3] [(4,.bool false)] [0,1] [] 2 ?_;cases h;exact ⟨rfl,(sw [] [] [.s 4] [] an)⟩
    ·replace h:=xJ yE h;refine r2 [iH 11 Ht,iH 18 Ht,iG 20 5,iH 25 Hf,iG 27 5,iH 32 Hf,iG 34 5,iH 39 Hf,iR 6 zT,iR 6 z4,iR 6 yE,iZ,iZ,iZ,iZ,iZ,iA false,iZ,iZ,iZ,iZ,iZ,iA false] [2,3] [(4,.bool false)] [0,1] [] 2 ?_;cases h;exact ⟨rfl,(sw [] [] [.s 4] [] an)⟩
   ·replace h:=xJ z4 h;refine r2 [iH 11 Ht,iG 13 5,iH 18 Hf,iG 20 5,iH 25 Hf,iG 27 5,iH 32 Hf,iG 34 5,iH 39 Hf,iR 6 zT,iR 6 z4,iZ,iZ,iZ,iZ,iZ,iA false,iZ,iZ,iZ,iZ,iZ,iA false,iZ,iZ,iZ,iZ,iZ,iA false] [2,3] [(4,.bool false)] [0,1] [] 2 ?_;cases h;exact ⟨rfl,(sw [] [] [.s 4] [] an)⟩
  ·replace h:=xJ zT h;refine r2 [iG 6 5,iH 11 Hf,iG 13 5,iH 18 Hf,iG 20 5,iH 25 Hf,iG 27 5,iH 32 Hf,iG 34 5,iH 39 Hf,iR 6 zT,iZ,iZ,iZ,iZ,iZ,iA false,iZ,iZ,iZ,iZ,iZ,iA false,iZ,iZ,iZ,iZ,iZ,iA false,iZ,iZ,iZ,iZ,iZ,iA false] [2,3] [(4,.bool false)] [0,1] [] 2 ?_;cases h;exact ⟨rfl,(sw [] [] [.s 4] [] an)⟩
 cases h;exact rt rx
theorem zFL (F:Nat) (yJ:z8) (zE:z8) (r:Bool) (h:D4 F yJ zE=some r):yR prog 38 [] [] [z9 yJ,z9 zE] [] (.bool r):=by
 refine tI Go.Proofs.Tryz.f38 ?_;unfold D4 at h;refine sE [iH 0 { id:=0 },iH 1 { id:=1 }] [(2,Pp 0),(3,Pp 1)] [(0,Vb 56 (wG yJ)),(1,Vb 56 (wG zE))] 2 (sq (ad 33 h ?_ ?_ ?_))
 ·rcases bft (yJ.Thread != zE.Thread) with zT | zT
  ·exact rm [iG 6 5,iH 11 Ht,iG 13 5,iH 18 Ht,iG 20 7,iH 27 Ht,iR 6 zT,iX 5,iA true,iX 7,iA true] (ort zT)
  ·rcases bft (yJ.Serial != zE.Serial) with z4 | z4
   ·exact rm [iH 11 Hf,iG 13 5,iH 18 Ht,iG 20 7,iH 27 Ht,iR 6 zT,iR 6 z4,iX 7,iA true] (orf zT (ort z4))
   ·rcases bft (yJ.Lost != zE.Lost) with yE | yE
    ·exact rm [iH 11 Hf,iH 18 Hf,iG 20 7,iH 27 Ht,iR 6 zT,iR 6 z4,iR 8 yE] (orf zT (orf z4 (ort yE)))
    ·exact rm [iH 11 Hf,iH 18 Hf,iH 27 Hf,iR 6 zT,iR 6 z4,iR 3 yE,iN 22 xN yJ.Events,iR 3 yE,iN 25 xN zE.Events,iR 2 yE] (orf zT (orf z4 (orf yE rfl)))
 ·intro yC h;refine s2 [] [2,3] [(4,.bool false)] [0,1] [] 2 ?_;cases h;exact rt rx
 intro yC h;refine sk (sq (s0 [] [(5,Ii 0)] (bE h fun zD zL h=>?_)));refine vD (K1:=(fun e st'=>match zD with | (.inl q0)=>e=.normal∧Sub 0 st' (mk [] [] 0) | (.inr q1)=>e=.ret∧vE prog Go.Proofs.Tryz.f38 0 [] (.bool q1) st')) ?_ ?_
 ·replace h:=zL;refine yN (id:=0) zk ?_;refine w0 [0,1] [] [(2,Pp 0),(3,Pp 1),(5,Ii 0)] [(0,Vb 56 (wG yJ)),(1,Vb 56 (wG zE))] ?_;refine wC (fun n st=>∃ (zP:Int),st=mk [(2,Pp 0),(3,Pp 1),(5,Ii zP)] [(0,Vb 56 (wG yJ)),(1,Vb 56 (wG zE))] 2∧D6 F yJ zE n zP=some zD) F zk ⟨_,rfl,h⟩ ?_ ?_
  ·rintro _ ⟨_,_,h⟩;exact wB (h:(none:Option (Unit⊕Bool))=some zD)
  rintro z7 _ ⟨zP,rfl,h⟩;replace h:oE F yJ zE (D6 F yJ zE z7) zP=some zD:=h;unfold oE at h;refine sq (c0 [iN 3 xN yJ.Events] 38 h [] ?_ ?_)
  rotate_left
  ·intro yY h;refine x8 (id:=0) zk ?_;cases h;exact ⟨rfl,(sw [] [] [] [] an)⟩
  intro yY h;refine sk (sq ?_);refine yN (id:=1) zk ?_;refine sq (bE h fun zH zX h=>bE h fun yH yQ h=>bE h fun zA y9 h=>r0 [iF 3 xN zX,iF 8 xN yQ,iK 10 {} (zEV F zH yH zA y9)] [(52,.bool (!zA))] (ch 52 h ?_ ?_))
  rotate_left
  ·intro xF h;refine sk (r0 [] [(5,Ii (zG (zP+(1:Int))))] ?_);exact ⟨_,(sw [0,1] [] [.s 2,.s 3,.s 5] [.s 0,.s 1] an),_,rfl,h⟩
  intro xF h;refine s2 [] [2,3] [(4,.bool false)] [0,1] [] 2 ?_;cases h;exact rt ry
 intro e st1 hk;rcases zD with zZ | xD
 rotate_left
 ·obtain ⟨rfl,hf⟩:=hk;cases h;exact ⟨st1,Sub.refl _ _,.inr rfl,hf⟩
 obtain ⟨rfl,hs⟩:=hk;refine ⟨_,hs,?_⟩;refine s0 [] [(4,.bool true)] ?_;cases h;exact rt rx
theorem WX (F:Nat) (yJ:List (z8)) (zE:List (z8)) (r:Bool) (h:GC F yJ zE=some r):yR prog 10 [] [] [Sq 4 z9 yJ,Sq 4 z9 zE] [] (.bool r):=by
 refine tI Go.Proofs.Tryz.f10 ?_;unfold GC at h;refine sE [] [(0,Sq 4 z9 yJ),(1,Sq 4 z9 zE)] [] 0 (sq (c0 [iN 1 z9 yJ,iN 3 z9 zE] 10 h [] ?_ ?_))
 ·intro yC h;refine s1 [] [0,1] [(4,.bool false)] ?_;cases h;exact rt rx
 intro yC h;refine sk (sq (s0 [] [(5,Ii 0)] (bE h fun zD zL h=>?_)));refine vD (K1:=(fun e st'=>match zD with | (.inl q0)=>e=.normal∧Sub 0 st' (mk [] [] 0) | (.inr q1)=>e=.ret∧vE prog Go.Proofs.Tryz.f10 0 [] (.bool q1) st')) ?_ ?_
 ·replace h:=zL;refine yN (id:=0) zk ?_;refine w0 [] [] [(0,Sq 4 z9 yJ),(1,Sq 4 z9 zE),(5,Ii 0)] [] ?_;refine wC (fun n st=>∃ (zP:Int),st=mk [(0,Sq 4 z9 yJ),(1,Sq 4 z9 zE),(5,Ii zP)] [] 0∧HB F yJ zE n zP=some zD) F zk ⟨_,rfl,h⟩ ?_ ?_
  ·rintro _ ⟨_,_,h⟩;exact wB (h:(none:Option (Unit⊕Bool))=some zD)
  rintro z7 _ ⟨zP,rfl,h⟩;replace h:iW F yJ zE (HB F yJ zE z7) zP=some zD:=h;unfold iW at h;refine sq (c0 [iN 2 z9 yJ] 14 h [] ?_ ?_)
  rotate_left
  ·intro yY h;refine x8 (id:=0) zk ?_;cases h;exact ⟨rfl,(sw [] [] [] [] an)⟩
  intro yY h;refine sk (sq ?_);refine yN (id:=1) zk ?_;refine sq (bE h fun zH zX h=>bE h fun yH yQ h=>bE h fun zA y9 h=>r0 [iF 2 z9 zX,iF 6 z9 yQ,iK 8 {} (zFL F zH yH zA y9)] [(26,.bool (!zA))] (ch 26 h ?_ ?_))
  rotate_left
  ·intro xF h;refine sk (r0 [] [(5,Ii (zG (zP+(1:Int))))] ?_);exact ⟨_,(sw [] [] [.s 0,.s 1,.s 5] [] an),_,rfl,h⟩
  intro xF h;refine s1 [] [0,1] [(4,.bool false)] ?_;cases h;exact rt ry
 intro e st1 hk;rcases zD with zZ | xD
 rotate_left
 ·obtain ⟨rfl,hf⟩:=hk;cases h;exact ⟨st1,Sub.refl _ _,.inr rfl,hf⟩
 obtain ⟨rfl,hs⟩:=hk;refine ⟨_,hs,?_⟩;refine s0 [] [(4,.bool true)] ?_;cases h;exact rt rx
end Go.Ab
