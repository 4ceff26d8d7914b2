/- Printed: the typed Lean functions of the Go functions, or the proofs that the Go functions meet them. No conditions but those that the theorems name. -/
import Derived.Test.YtoeengmnmhhpgaaGreatP15zxD
import Derived.Test.YtoeengmnmhhpgaaGreatA42
import Derived.Test.YtoeengmnmhhpgaaGreatProg
namespace Go.Ab
open Go Go.Proofs
set_option linter.unusedVariables false
noncomputable abbrev prog:=Go.Proofs.Tryz.prog
theorem uU:prog.follows .mixedOrders=true:=by kernel_rfl
instance :Mx prog:=⟨uU⟩
theorem zDg:N5 prog 170:=⟨_,Go.Proofs.Tryz.func170,by kernel_rfl,by kernel_rfl,by kernel_rfl,zk⟩
theorem OJ:qY prog 3 false [.int .i64]:=zEk zk
theorem zB7:qY prog 87 true [.int .i64,.int .i64]:=LV zk zk zk zk
theorem U9:∀ a b:xA,yA a=yA b->a=b:=by
  intro a b h;cases a;cases b;simpa [yA,C5] using h
theorem zAS:nD prog 87 [.int .i64,.int .i64]:=L3 zB7 zk zk
def zFw:Go.Shelf.Ren:={ f:=fun n=>bif Nat.beq n 5 then 92 else 130,t:=fun n=>bif Nat.beq n 23 then 60 else bif Nat.beq n 25 then 3 else bif Nat.beq n 3 then 138 else bif Nat.beq n 20 then 20 else bif Nat.beq n 4 then 4 else n,g:=fun x=>x }
theorem X5 : Go.Proofs.SlLaysW.n5 prog zFw := ⟨by kernel_rfl, ⟨ "maps.Clone[map[int]tracebook/file.place,int,tracebook/file.place]", by kernel_rfl, zk⟩, by kernel_rfl, by kernel_rfl, fun w => by kernel_rfl, fun w => by kernel_rfl, fun w => by kernel_rfl, by kernel_rfl, fun w => by kernel_rfl, fun w => by kernel_rfl, fun w => by kernel_rfl, by kernel_rfl, fun w => by kernel_rfl, fun w => by kernel_rfl, fun w => by kernel_rfl⟩
theorem VT:qY prog 9 false [.str]:=zBF zk
theorem TK:qY prog 144 true [.int .i64,.int .i64]:=LV zk zk zk zk
theorem OV:∀ a b:zV,yI a=yI b->a=b:=by
  intro a b h;cases a;cases b;simpa [yI,zAA] using h
theorem WR:nD prog 144 [.int .i64,.int .i64]:=L3 TK zk zk
theorem zD3:qY prog 85 true [.int .i64,.str,.int .i64]:=LV zk zk zk zk
theorem zG5:∀ a b:xI,yJ a=yJ b->a=b:=by
  intro a b h;cases a;cases b;simpa [yJ,jZ] using h
theorem zHV:nD prog 85 [.int .i64,.str,.int .i64]:=L3 zD3 zk zk
theorem zIs:qY prog 76 true [.int .i64,.int .i64,.int .i64,.int .i64,.int .i64]:=LV zk zk zk zk
theorem zF2:∀ a b:yZ,z9 a=z9 b->a=b:=by
  rintro ⟨_,_,_,⟨_,_⟩⟩ ⟨_,_,_,⟨_,_⟩⟩ h
  simpa [z9,pL] using h
theorem zG7:nD prog 76 [.int .i64,.int .i64,.int .i64,.int .i64,.int .i64]:=L3 zIs zk zk
theorem zEF (wV:Int) (r:yD×Int) (h:Q7 wV=some r):yS prog 24 [] [] [Ii wV] [] (.tuple [xV r.1,Ii r.2]):=by
 refine tI Tryz.f24 ?_;unfold Q7 at h;refine sE [iH 0 { id:=0 }] [(0,Ii wV),(2,Pp 0)] [(0,uL)] 1 (sq (ad 9 h ?_ ?_ ?_))
 ·rcases bft (decide (wV<1)) with zS | zS
  ·exact rm [iG 3 2,iH 5 Ht,iR 3 zS] (ort zS)
  ·exact rm [iH 5 Hf,iR 3 zS] (orf zS rfl)
 ·intro z8 h;refine s0 [] [(3,Ii 2)] (wz [0] [] [] [0] [(2,Pp 0),(3,Ii 2)] [(0,Vb 36 (yM zL0))] (ar 36 (ar true (ar (Ii 0) (ar ([]:List AV) (ar (Ii 0) (ar (Ii 0) (ar (.bool false:AV) an))))))) ?_);cases h;exact rt rx
 intro z8 h;refine sk (s2 [] [] [(3,Ii 0)] [] [(0,Vb 36 [Ii wV,.nilsl,Ii 0,Ii (-1),.bool false])] 1 (wz [0] [] [] [0] [(2,Pp 0),(3,Ii 0)] [(0,Vb 36 (yM (⟨wV,[],0,(-1),false⟩:yD)))] (ar 36 (ar true (ar (Ii wV) (ar ([]:List AV) (ar (Ii 0) (ar (Ii (-1)) (ar (.bool false:AV) an))))))) ?_));cases h;exact rt rx
theorem JO (r:yB) (h:OD=some r):yS prog 25 [] [] [] [] (qO r):=by
 refine tI Tryz.f25 ?_;unfold OD at h;refine sE [iH 0 { id:=0 }] [(0,Pp 0)] [(0,nT)] 1 (s2 [iH 1 { id:=1 },iH 3 { id:=2 }] [] [] [] [(0,Vb 28 [.own 1 1,.own 2 1,.nilsl]),(1,Rb 85 3 (Mp yJ [(⟨1,([116,49]:List Int),0⟩:xI)])),(2,Rb 87 2 (Mp yA [(⟨0,0⟩:xA)]))] 3 (wz [0] [1,2] [] [0] [(0,Pp 0)] [(0,Vb 28 (wL (⟨[(⟨1,([116,49]:List Int),0⟩:xI)],[(⟨0,0⟩:xA)],[]⟩:yB)))] (ar 28 (ar true (ac (by first | (simp;done) | (simp;omega):1=((List.map yJ [(⟨1,([116,49]:List Int),0⟩:xI)])).length) (ac (by first | (simp;done) | (simp;omega):1=((List.map yA [(⟨0,0⟩:xA)])).length) (ar 3 (ar (Mp yJ [(⟨1,([116,49]:List Int),0⟩:xI)]) (ar true (ar 2 (ar (Mp yA [(⟨0,0⟩:xA)]) (ar true (ar ([]:List AV) an))))))))))) ?_));cases h;exact rt rx
theorem BO (zG:yD) (r:Int) (h:fJ zG=some r):yS prog 39 [] [] [xV zG] [] (Ii r):=by
 refine tI Tryz.f39 ?_;unfold fJ at h;refine sE [iH 0 { id:=0 }] [(1,Pp 0)] [(0,Vb 36 (yM zG))] 1 (sq (sq ?_));refine xP (mk [(41,.bool (zB0 zG))] [] 0) ?_ ?_
 ·rcases bft (decide (zG.Size<1)) with zS | zS
  ·refine r2 [iG 4 3,iH 7 Ht,iG 9 6,iH 15 Ht,iG 17 3,iH 20 Ht,iG 22 6,iH 28 Ht,iG 30 3,iH 33 Ht,iG 35 3,iH 38 Ht,iR 4 zS,iX 6,iA true,iX 3,iA true,iX 6,iA true,iX 3,iA true,iX 3,iA true] [1] [(41,.bool true)] [0] [] 1 ?_;exact ⟨rfl,(sw [] [] [.a 41 (.bool (zB0 zG))] [] (ac (congrArg AV.bool (ort zS):(.bool true:AV)=.bool (zB0 zG)) an))⟩
  ·rcases bft (decide (zG.Size>1048576)) with z0 | z0
   ·refine r2 [iH 7 Hf,iG 9 6,iH 15 Ht,iG 17 3,iH 20 Ht,iG 22 6,iH 28 Ht,iG 30 3,iH 33 Ht,iG 35 3,iH 38 Ht,iR 4 zS,iR 7 z0,iX 3,iA true,iX 6,iA true,iX 3,iA true,iX 3,iA true] [1] [(41,.bool true)] [0] [] 1 ?_;exact ⟨rfl,(sw [] [] [.a 41 (.bool (zB0 zG))] [] (ac (congrArg AV.bool (orf zS (ort z0)):(.bool true:AV)=.bool (zB0 zG)) an))⟩
   ·rcases bft (decide ((lN zG.Data)>zG.Size)) with yE | yE
    ·refine r2 [iH 7 Hf,iH 15 Hf,iG 17 3,iH 20 Ht,iG 22 6,iH 28 Ht,iG 30 3,iH 33 Ht,iG 35 3,iH 38 Ht,iR 4 zS,iR 3 z0,iN 11 Fb zG.Data,iR 4 z0,iR 4 yE,iX 6,iA true,iX 3,iA true,iX 3,iA true] [1] [(41,.bool true)] [0] [] 1 ?_;exact ⟨rfl,(sw [] [] [.a 41 (.bool (zB0 zG))] [] (ac (congrArg AV.bool (orf zS (orf z0 (ort yE))):(.bool true:AV)=.bool (zB0 zG)) an))⟩
    ·rcases bft (decide (zG.Durable<0)) with yC | yC
     ·refine r2 [iH 7 Hf,iH 15 Hf,iH 20 Hf,iG 22 6,iH 28 Ht,iG 30 3,iH 33 Ht,iG 35 3,iH 38 Ht,iR 4 zS,iR 3 z0,iN 11 Fb zG.Data,iR 4 z0,iR 4 yE,iR 7 yC,iX 3,iA true,iX 3,iA true] [1] [(41,.bool true)] [0] [] 1 ?_;exact ⟨rfl,(sw [] [] [.a 41 (.bool (zB0 zG))] [] (ac (congrArg AV.bool (orf zS (orf z0 (orf yE (ort yC)))):(.bool true:AV)=.bool (zB0 zG)) an))⟩
     ·rcases bft (decide (zG.Durable>(lN zG.Data))) with x6 | x6
      ·refine r2 [iH 7 Hf,iH 15 Hf,iH 20 Hf,iH 28 Hf,iG 30 3,iH 33 Ht,iG 35 3,iH 38 Ht,iR 4 zS,iR 3 z0,iN 11 Fb zG.Data,iR 4 z0,iR 4 yE,iR 5 yC,iN 26 Fb zG.Data,iR 2 yC,iR 4 x6,iX 3,iA true] [1] [(41,.bool true)] [0] [] 1 ?_;exact ⟨rfl,(sw [] [] [.a 41 (.bool (zB0 zG))] [] (ac (congrArg AV.bool (orf zS (orf z0 (orf yE (orf yC (ort x6))))):(.bool true:AV)=.bool (zB0 zG)) an))⟩
      ·rcases bft (decide (zG.Left<(-1))) with wJ | wJ
       ·refine r2 [iH 7 Hf,iH 15 Hf,iH 20 Hf,iH 28 Hf,iH 33 Hf,iG 35 3,iH 38 Ht,iR 4 zS,iR 3 z0,iN 11 Fb zG.Data,iR 4 z0,iR 4 yE,iR 5 yC,iN 26 Fb zG.Data,iR 2 yC,iR 4 x6,iR 4 wJ] [1] [(41,.bool true)] [0] [] 1 ?_;exact ⟨rfl,(sw [] [] [.a 41 (.bool (zB0 zG))] [] (ac (congrArg AV.bool (orf zS (orf z0 (orf yE (orf yC (orf x6 (ort wJ)))))):(.bool true:AV)=.bool (zB0 zG)) an))⟩
       ·refine r2 [iH 7 Hf,iH 15 Hf,iH 20 Hf,iH 28 Hf,iH 33 Hf,iH 38 Hf,iR 4 zS,iR 3 z0,iN 11 Fb zG.Data,iR 4 z0,iR 4 yE,iR 5 yC,iN 26 Fb zG.Data,iR 2 yC,iR 4 x6,iR 4 wJ] [1] [(41,.bool (decide (zG.Left>1048576)))] [0] [] 1 ?_;exact ⟨rfl,(sw [] [] [.a 41 (.bool (zB0 zG))] [] (ac (congrArg AV.bool (orf zS (orf z0 (orf yE (orf yC (orf x6 (orf wJ rfl)))))):(.bool (decide (zG.Left>1048576)):AV)=.bool (zB0 zG)) an))⟩
 refine ch 41 h ?_ ?_
 ·intro z8 h;refine s0 [] [(2,Ii 2)] ?_;cases h;exact rt rx
 intro z8 h;refine sk (s0 [] [(2,Ii 0)] ?_);cases h;exact rt rx
theorem zF4 (zL:List Int) (zB:Int) (r:Int) (h:M2 zL zB=some r):yS prog 169 [] [] [.str zL,Iu zB] [] (Ii r):=by
 refine tI Tryz.f169 ?_;unfold M2 at h;refine sE [] [(0,.str zL),(1,Iu zB)] [] 0 (s0 [iC (zDg:N5 prog 170)] [(4,Ii (pD zL zB))] ?_);cases h;exact rt rx
theorem gT (zL:List Int) (zB:Int) (r:Int) (h:bP zL zB=some r):yS prog 162 [] [] [.str zL,Iu zB] [] (Ii r):=by
 refine tI Tryz.f162 ?_;unfold bP at h;refine sE [] [(0,.str zL),(1,Iu zB)] [] 0 (sq (bE h fun zA zJ h=>r0 [iK 2 {} (zF4 zL zB zA zJ)] [(4,Ii zA)] ?_));cases h;exact rt rx
theorem zBQ (zB:Int) (r:Bool) (h:G4 zB=some r):yS prog 139 [] [] [Iu zB] [] (.bool r):=by
 refine tI Tryz.f139 ?_;unfold G4 at h;refine sE [] [(0,Iu zB)] [] 0 (sq (bE h fun zN zW h=>?_));refine xP (mk [(2,.bool zN)] [] 0) ?_ ?_
 ·replace h:=zW;rcases bft (decide (zB>=97)) with zS | zS
  ·replace h:=xN zS h;rcases bft (decide (zB<=122)) with z0 | z0
   ·replace h:=xN z0 h;refine r0 [iH 5 Ht,iG 7 3,iH 12 Hg,iH 13 Ht,iG 15 3,iH 20 Hg,iH 21 Ht,iG 23 3,iH 26 Ht,iR 3 zS,iR 5 z0,iX 4,iA true,iX 3,iA true] [(2,.bool true)] ?_;cases h;exact ⟨rfl,(sI 0 [2])⟩
   ·replace h:=xO z0 h;rcases bft (decide (zB>=65)) with yE | yE
    ·replace h:=xN yE h;rcases bft (decide (zB<=90)) with yC | yC
     ·replace h:=xN yC h;refine r0 [iH 5 Ht,iH 12 Ht,iH 13 Hf,iG 15 3,iH 20 Hg,iH 21 Ht,iG 23 3,iH 26 Ht,iR 3 zS,iR 3 z0,iR 2 yE,iC z0,iC yE,iC z0,iR 5 yC,iX 3,iA true] [(2,.bool true)] ?_;cases h;exact ⟨rfl,(sI 0 [2])⟩
     ·replace h:=xO yC h;rcases bft (decide (zB>=48)) with x6 | x6
      ·replace h:=xN x6 h;rcases bft (decide (zB<=57)) with wJ | wJ
       ·replace h:=xN wJ h;refine r0 [iH 5 Ht,iH 12 Ht,iH 13 Hf,iH 20 Ht,iH 21 Hf,iG 23 3,iH 26 Ht,iR 3 zS,iR 3 z0,iR 2 yE,iC z0,iC yE,iC z0,iR 3 yC,iR 2 x6,iC yC,iC x6,iC yC,iR 4 wJ] [(2,.bool true)] ?_;cases h;exact ⟨rfl,(sI 0 [2])⟩
       ·replace h:=xO wJ h;refine bE h fun zA zJ h=>r0 [iH 5 Ht,iH 12 Ht,iH 13 Hf,iH 20 Ht,iH 21 Hf,iH 26 Hf,iR 3 zS,iR 3 z0,iR 2 yE,iC z0,iC yE,iC z0,iR 3 yC,iR 2 x6,iC yC,iC x6,iC yC,iR 2 wJ,iK 24 {} (gT ([95,46,58,47,60,62,36,42,126,45]:List Int) zB zA zJ),iR 2 wJ] [(2,.bool (decide (zA>=0)))] ?_;cases h;exact ⟨rfl,(sI 0 [2])⟩
      ·replace h:=xO x6 h;refine bE h fun zA zJ h=>r0 [iH 5 Ht,iH 12 Ht,iH 13 Hf,iG 18 2,iH 20 Hf,iH 21 Hf,iH 26 Hf,iR 3 zS,iR 3 z0,iR 2 yE,iC z0,iC yE,iC z0,iR 3 yC,iR 2 x6,iC yC,iC x6,iC yC,iQ 2 false,iK 24 {} (gT ([95,46,58,47,60,62,36,42,126,45]:List Int) zB zA zJ),iQ 2 false] [(2,.bool (decide (zA>=0)))] ?_;cases h;exact ⟨rfl,(sI 0 [2])⟩
    ·replace h:=xO yE h;rcases bft (decide (zB>=48)) with wN | wN
     ·replace h:=xN wN h;rcases bft (decide (zB<=57)) with wK | wK
      ·replace h:=xN wK h;refine r0 [iH 5 Ht,iG 10 2,iH 12 Hf,iH 13 Hf,iH 20 Ht,iH 21 Hf,iG 23 3,iH 26 Ht,iR 3 zS,iR 3 z0,iR 2 yE,iC z0,iC yE,iC z0,iQ 3 false,iR 2 wN,iA false,iC wN,iA false,iR 4 wK] [(2,.bool true)] ?_;cases h;exact ⟨rfl,(sI 0 [2])⟩
      ·replace h:=xO wK h;refine bE h fun zA zJ h=>r0 [iH 5 Ht,iG 10 2,iH 12 Hf,iH 13 Hf,iH 20 Ht,iH 21 Hf,iH 26 Hf,iR 3 zS,iR 3 z0,iR 2 yE,iC z0,iC yE,iC z0,iQ 3 false,iR 2 wN,iA false,iC wN,iA false,iR 2 wK,iK 24 {} (gT ([95,46,58,47,60,62,36,42,126,45]:List Int) zB zA zJ),iR 2 wK] [(2,.bool (decide (zA>=0)))] ?_;cases h;exact ⟨rfl,(sI 0 [2])⟩
     ·replace h:=xO wN h;refine bE h fun zA zJ h=>r0 [iH 5 Ht,iG 10 2,iH 12 Hf,iH 13 Hf,iG 18 2,iH 20 Hf,iH 21 Hf,iH 26 Hf,iR 3 zS,iR 3 z0,iR 2 yE,iC z0,iC yE,iC z0,iQ 3 false,iR 2 wN,iA false,iC wN,iQ 3 false,iK 24 {} (gT ([95,46,58,47,60,62,36,42,126,45]:List Int) zB zA zJ),iQ 2 false] [(2,.bool (decide (zA>=0)))] ?_;cases h;exact ⟨rfl,(sI 0 [2])⟩
  ·replace h:=xO zS h;rcases bft (decide (zB>=65)) with v4 | v4
   ·replace h:=xN v4 h;rcases bft (decide (zB<=90)) with vA | vA
    ·replace h:=xN vA h;refine r0 [iG 3 2,iH 5 Hf,iH 12 Ht,iH 13 Hf,iG 15 3,iH 20 Hg,iH 21 Ht,iG 23 3,iH 26 Ht,iR 3 zS,iQ 3 false,iR 2 v4,iA false,iC v4,iA false,iR 5 vA,iX 3,iA true] [(2,.bool true)] ?_;cases h;exact ⟨rfl,(sI 0 [2])⟩
    ·replace h:=xO vA h;rcases bft (decide (zB>=48)) with wG | wG
     ·replace h:=xN wG h;rcases bft (decide (zB<=57)) with wP | wP
      ·replace h:=xN wP h;refine r0 [iG 3 2,iH 5 Hf,iH 12 Ht,iH 13 Hf,iH 20 Ht,iH 21 Hf,iG 23 3,iH 26 Ht,iR 3 zS,iQ 3 false,iR 2 v4,iA false,iC v4,iA false,iR 3 vA,iR 2 wG,iC vA,iC wG,iC vA,iR 4 wP] [(2,.bool true)] ?_;cases h;exact ⟨rfl,(sI 0 [2])⟩
      ·replace h:=xO wP h;refine bE h fun zA zJ h=>r0 [iG 3 2,iH 5 Hf,iH 12 Ht,iH 13 Hf,iH 20 Ht,iH 21 Hf,iH 26 Hf,iR 3 zS,iQ 3 false,iR 2 v4,iA false,iC v4,iA false,iR 3 vA,iR 2 wG,iC vA,iC wG,iC vA,iR 2 wP,iK 24 {} (gT ([95,46,58,47,60,62,36,42,126,45]:List Int) zB zA zJ),iR 2 wP] [(2,.bool (decide (zA>=0)))] ?_;cases h;exact ⟨rfl,(sI 0 [2])⟩
     ·replace h:=xO wG h;refine bE h fun zA zJ h=>r0 [iG 3 2,iH 5 Hf,iH 12 Ht,iH 13 Hf,iG 18 2,iH 20 Hf,iH 21 Hf,iH 26 Hf,iR 3 zS,iQ 3 false,iR 2 v4,iA false,iC v4,iA false,iR 3 vA,iR 2 wG,iC vA,iC wG,iC vA,iQ 2 false,iK 24 {} (gT ([95,46,58,47,60,62,36,42,126,45]:List Int) zB zA zJ),iQ 2 false] [(2,.bool (decide (zA>=0)))] ?_;cases h;exact ⟨rfl,(sI 0 [2])⟩
   ·replace h:=xO v4 h;rcases bft (decide (zB>=48)) with wW | wW
    ·replace h:=xN wW h;rcases bft (decide (zB<=57)) with uI | uI
     ·replace h:=xN uI h;refine r0 [iG 3 2,iH 5 Hf,iG 10 2,iH 12 Hf,iH 13 Hf,iH 20 Ht,iH 21 Hf,iG 23 3,iH 26 Ht,iR 3 zS,iQ 3 false,iR 2 v4,iA false,iC v4,iQ 4 false,iR 2 wW,iA false,iC wW,iA false,iR 4 uI] [(2,.bool true)] ?_;cases h;exact ⟨rfl,(sI 0 [2])⟩
     ·replace h:=xO uI h;refine bE h fun zA zJ h=>r0 [iG 3 2,iH 5 Hf,iG 10 2,iH 12 Hf,iH 13 Hf,iH 20 Ht,iH 21 Hf,iH 26 Hf,iR 3 zS,iQ 3 false,iR 2 v4,iA false,iC v4,iQ 4 false,iR 2 wW,iA false,iC wW,iA false,iR 2 uI,iK 24 {} (gT ([95,46,58,47,60,62,36,42,126,45]:List Int) zB zA zJ),iR 2 uI] [(2,.bool (decide (zA>=0)))] ?_;cases h;exact ⟨rfl,(sI 0 [2])⟩
    ·replace h:=xO wW h;refine bE h fun zA zJ h=>r0 [iG 3 2,iH 5 Hf,iG 10 2,iH 12 Hf,iH 13 Hf,iG 18 2,iH 20 Hf,iH 21 Hf,iH 26 Hf,iR 3 zS,iQ 3 false,iR 2 v4,iA false,iC v4,iQ 4 false,iR 2 wW,iA false,iC wW,iQ 3 false,iK 24 {} (gT ([95,46,58,47,60,62,36,42,126,45]:List Int) zB zA zJ),iQ 2 false] [(2,.bool (decide (zA>=0)))] ?_;cases h;exact ⟨rfl,(sI 0 [2])⟩
 cases h;exact rt rx
theorem G5 (F:Nat) (zL:List Int) (r:Int) (h:dY F zL=some r):yS prog 99 [] [] [.str zL] [] (Ii r):=by
 refine tI Tryz.f99 ?_;unfold dY at h;refine sE [] [(0,.str zL)] [] 0 (sq (ad 10 h ?_ ?_ ?_))
 ·rcases bft (zL==([]:List Int)) with zS | zS
  ·exact rm [iG 3 3,iH 6 Ht,iR 4 zS] (ort zS)
  ·exact rm [iH 6 Hf,iR 4 zS] (orf zS rfl)
 ·intro z8 h;refine s0 [] [(2,Ii 3)] ?_;cases h;exact rt rx
 intro z8 h;refine sk (sq (s0 [] [(12,Ii (lN zL)),(13,Ii 0)] (bE h fun zE zJ h=>?_)));refine vL (K1:=kS prog zE 0 (fun q0=>mk [] [] 0) Tryz.f99 (fun q1=>[]) fun q1=>Ii q1) ?_ ?_
 ·replace h:=zJ;refine yQ (id:=0) zk ?_;refine w0 [] [] [(0,.str zL),(12,Ii (lN zL)),(13,Ii 0)] [] ?_;refine wD (fun n st=>∃ (zP:Int),st=mk [(0,.str zL),(12,Ii (lN zL)),(13,Ii zP)] [] 0/\KY F zL n zP=some zE) F zk ⟨_,rfl,h⟩ ?_ ?_
  ·rintro _ ⟨_,_,h⟩;exact wC (h:(none:Option (Unit⊕Int))=some zE)
  rintro z5 _ ⟨zP,rfl,h⟩;replace h:K6 F zL (KY F zL z5) zP=some zE:=h;unfold K6 at h;refine s0 [] [(14,.bool (decide (zP<(lN zL))))] (sq (ch 14 h ?_ ?_))
  rotate_left
  ·intro yV h;refine wB (id:=0) zk ?_;cases h;exact ⟨rfl,(sI 0 [])⟩
  intro yV h;refine sk (sq ?_);refine yQ (id:=1) zk ?_;refine s0 [] [(3,Ii zP)] (sq (bE h fun zB zW h=>bE h fun zA yU h=>r0 [iH 2 { z:=zB },iC zW,iK 3 {} (zBQ zB zA yU)] [(20,.bool (!zA))] (ch 20 h ?_ ?_)))
  rotate_left
  ·intro xG h;refine sk (r0 [] [(13,Ii (zI (zP+1)))] ?_);exact ⟨_,(sI 0 [0,12,13]),_,rfl,h⟩
  intro xG h;refine s0 [] [(2,Ii 3)] ?_;cases h;exact rt ry
 intro e st1 hk;rcases zE with zX | xJ
 rotate_left
 ·obtain ⟨rfl,hf⟩:=hk;cases h;exact ⟨st1,Sub.refl _ _,.inr rfl,hf⟩
 obtain ⟨rfl,hs⟩:=hk;refine ⟨_,hs,?_⟩;refine s0 [] [(2,Ii 0)] ?_;cases h;exact rt rx
theorem zBt (F:Nat) (tO:xI) (r:Int) (h:HL F tO=some r):yS prog 58 [] [] [yJ tO] [] (Ii r):=by
 refine tI Tryz.f58 ?_;unfold HL at h;refine sE [iH 0 { id:=0 }] [(1,Pp 0)] [(0,Vb 85 (jZ tO))] 1 (sq (ad 20 h ?_ ?_ ?_))
 ·rcases bft (decide (tO.Id<0)) with zS | zS
  ·exact rm [iG 4 3,iH 7 Ht,iG 9 3,iH 12 Ht,iG 14 3,iH 17 Ht,iR 4 zS,iX 3,iA true,iX 3,iA true] (ort zS)
  ·rcases bft (decide (tO.Id>1000000000000000)) with z0 | z0
   ·exact rm [iH 7 Hf,iG 9 3,iH 12 Ht,iG 14 3,iH 17 Ht,iR 4 zS,iR 4 z0,iX 3,iA true] (orf zS (ort z0))
   ·rcases bft (decide (tO.Domain<0)) with yE | yE
    ·exact rm [iH 7 Hf,iH 12 Hf,iG 14 3,iH 17 Ht,iR 4 zS,iR 4 z0,iR 4 yE] (orf zS (orf z0 (ort yE)))
    ·exact rm [iH 7 Hf,iH 12 Hf,iH 17 Hf,iR 4 zS,iR 4 z0,iR 4 yE] (orf zS (orf z0 (orf yE rfl)))
 ·intro z8 h;refine s2 [] [1] [(2,Ii 2)] [0] [] 1 ?_;cases h;exact rt rx
 intro z8 h;refine sk (sq (bE h fun zA zJ h=>r2 [iK 2 {} (G5 F tO.Name zA zJ)] [1] [(2,Ii zA)] [0] [] 1 ?_));cases h;exact rt rx
theorem zGR (zH:xA) (y0:Int) (r:Bool) (h:OM zH y0=some r):yS prog 151 [(.var 3 [Ii y0])] [] [yA zH,Pp 0] [(.var 3 [Ii y0])] (.bool r):=by
 refine tI Tryz.f151 ?_;unfold OM at h;refine sE [iH 0 { id:=1 }] [(1,Pp 0),(2,Pp 1)] [(0,Vb 3 [Ii y0]),(1,Vb 87 (C5 zH))] 2 (s2 [] [1,2] [(3,.bool (zH.Id==y0))] [1] [] 2 ?_);cases h;exact rt rx
theorem zBO (F:Nat) (zL:List xA) (zB:Int) (r:Int) (h:JW F zL zB=some r):yS prog 100 [(.var 3 [Ii zB])] [] [Sq 2 yA zL,.fn 151 [Pp 0]] [(.var 3 [Ii zB])] (Ii r):=by
 refine tI Tryz.f100 ?_;unfold JW at h;refine sE [] [(0,Sq 2 yA zL),(1,.fn 151 [Pp 0])] [(0,Vb 3 [Ii zB])] 1 (sq (s0 [iN 1 yA zL] [(7,Ii (lN zL)),(8,Ii 0)] (bE h fun zE zJ h=>?_)));refine vL (K1:=kS prog zE 1 (fun q0=>mk [] [(0,Vb 3 [Ii zB])] 1) Tryz.f100 (fun q1=>[(.var 3 [Ii zB])]) fun q1=>Ii q1) ?_ ?_
 ·replace h:=zJ;refine yQ (id:=0) zk ?_;refine w0 [0] [] [(0,Sq 2 yA zL),(1,.fn 151 [Pp 0]),(7,Ii (lN zL)),(8,Ii 0)] [(0,Vb 3 [Ii zB])] ?_;refine wD (fun n st=>∃ (zP:Int),st=mk [(0,Sq 2 yA zL),(1,.fn 151 [Pp 0]),(7,Ii (lN zL)),(8,Ii zP)] [(0,Vb 3 [Ii zB])] 1/\ED F zL zB n zP=some zE) F zk ⟨_,rfl,h⟩ ?_ ?_
  ·rintro _ ⟨_,_,h⟩;exact wC (h:(none:Option (Unit⊕Int))=some zE)
  rintro z5 _ ⟨zP,rfl,h⟩;replace h:oH F zL zB (ED F zL zB z5) zP=some zE:=h;unfold oH at h;refine s0 [] [(9,.bool (decide (zP<(lN zL))))] (sq (ch 9 h ?_ ?_))
  rotate_left
  ·intro z8 h;refine wB (id:=0) zk ?_;cases h;exact ⟨rfl,(sI 1 [])⟩
  intro z8 h;refine sk (sq ?_);refine yQ (id:=1) zk ?_;refine s0 [] [(5,Ii zP)] (sq (bE h fun zH zW h=>bE h fun zA yU h=>r0 [iF 3 yA zW,iK 5 { ids:=[0] } (zGR zH zB zA yU)] [(16,.bool zA)] (ch 16 h ?_ ?_)))
  rotate_left
  ·intro yV h;refine sk (r0 [] [(8,Ii (zI (zP+1)))] ?_);exact ⟨_,(sI 1 [0,1,7,8]),_,rfl,h⟩
  intro yV h;refine s1 [] [0,1] [(4,Ii zP)] ?_;cases h;exact rt ry
 intro e st1 hk;rcases zE with zX | xJ
 rotate_left
 ·obtain ⟨rfl,hf⟩:=hk;cases h;exact ⟨st1,Sub.refl _ _,.inr rfl,hf⟩
 obtain ⟨rfl,hs⟩:=hk;refine ⟨_,hs,?_⟩;refine s0 [] [(4,Ii (-1))] ?_;cases h;exact rt rx
theorem UY (F:Nat) (zG:List xA) (qL:Int) (r:Int) (h:lS F zG qL=some r):yS prog 126 [] [] [Sq 2 yA zG,Ii qL] [] (Ii r):=by
 refine tI Tryz.f126 ?_;unfold lS at h;refine sE [iH 0 { id:=0 }] [(0,Sq 2 yA zG),(3,Pp 0)] [(0,Vb 3 [Ii qL])] 1 (sq (bE h fun zA zJ h=>r2 [iK 2 { ids:=[0] } (zBO F zG qL zA zJ)] [0,3] [(4,Ii zA)] [0] [] 1 ?_));cases h;exact rt rx
theorem zDx (F:Nat) (zG:List xA) (r:Int) (h:HM F zG=some r):yS prog 87 [] [] [Sq 2 yA zG] [] (Ii r):=by
 refine tI Tryz.f87 ?_;unfold HM at h;refine sE [] [(0,Sq 2 yA zG)] [] 0 (sq (s0 [iN 1 yA zG] [(5,Sq 2 yA zG),(6,Ii (lN zG)),(7,Ii 0)] (bE h fun zE zJ h=>?_)));refine vL (K1:=kS prog zE 0 (fun q0=>mk [] [] 0) Tryz.f87 (fun q1=>[]) fun q1=>Ii q1) ?_ ?_
 ·replace h:=zJ;refine yQ (id:=0) zk ?_;refine w0 [] [] [(0,Sq 2 yA zG),(5,Sq 2 yA zG),(6,Ii (lN zG)),(7,Ii 0)] [] ?_;refine wD (fun n st=>∃ (zP:Int),st=mk [(0,Sq 2 yA zG),(5,Sq 2 yA zG),(6,Ii (lN zG)),(7,Ii zP)] [] 0/\DX F zG n zP=some zE) F zk ⟨_,rfl,h⟩ ?_ ?_
  ·rintro _ ⟨_,_,h⟩;exact wC (h:(none:Option (Unit⊕Int))=some zE)
  rintro z5 _ ⟨zP,rfl,h⟩;replace h:mY F zG (DX F zG z5) zP=some zE:=h;unfold mY at h;refine s0 [] [(8,.bool (decide (zP<(lN zG))))] (sq (ch 8 h ?_ ?_))
  rotate_left
  ·intro z8 h;refine wB (id:=0) zk ?_;cases h;exact ⟨rfl,(sI 0 [])⟩
  intro z8 h;refine sk (sq ?_);refine yQ (id:=1) zk ?_;refine sq (bE h fun zH zW h=>r2 [iH 3 { id:=0 },iF 1 yA zW] [] [(3,Ii zP),(4,Pp 0)] [] [(0,Vb 87 (C5 zH))] 1 (sq (ad 29 h ?_ ?_ ?_)))
  ·rcases bft (decide (zH.Id<0)) with vA | vA
   ·exact rm [iG 4 3,iH 7 Ht,iG 9 3,iH 12 Ht,iG 14 3,iH 17 Ht,iR 4 vA,iX 3,iA true,iX 3,iA true] (ort vA)
   ·rcases bft (decide (zH.Id>=8)) with wG | wG
    ·exact rm [iH 7 Hf,iG 9 3,iH 12 Ht,iG 14 3,iH 17 Ht,iR 4 vA,iR 4 wG,iX 3,iA true] (orf vA (ort wG))
    ·rcases bft (decide (zH.Ppm<0)) with wP | wP
     ·exact rm [iH 7 Hf,iH 12 Hf,iG 14 3,iH 17 Ht,iR 4 vA,iR 4 wG,iR 4 wP] (orf vA (orf wG (ort wP)))
     ·exact rm [iH 7 Hf,iH 12 Hf,iH 17 Hf,iR 4 vA,iR 4 wG,iR 4 wP] (orf vA (orf wG (orf wP rfl)))
  ·intro yV h;refine s2 [] [0,5,4] [(2,Ii 2)] [0] [] 1 ?_;cases h;exact rt ry
  intro yV h;refine sk (sq (nE h fun yU h=>bE h fun zA xB h=>r2 [iS 2 yA zG 0 zP (by decide) yU.1 yU.2,iK 5 {} (UY F (sub zG 0 zP) zH.Id zA xB)] [4] [(36,.bool (decide (zA>=0)))] [0] [] 1 (ch 36 h ?_ ?_)))
  rotate_left
  ·intro xG h;refine sk (r0 [] [(7,Ii (zI (zP+1)))] ?_);exact ⟨_,(sI 0 [0,5,6,7]),_,rfl,h⟩
  intro xG h;refine s1 [] [0,5] [(2,Ii 4)] ?_;cases h;exact rt ry
 intro e st1 hk;rcases zE with zX | xJ
 rotate_left
 ·obtain ⟨rfl,hf⟩:=hk;cases h;exact ⟨st1,Sub.refl _ _,.inr rfl,hf⟩
 obtain ⟨rfl,hs⟩:=hk;refine ⟨_,hs,?_⟩;refine s0 [] [(2,Ii 0)] ?_;cases h;exact rt rx
theorem TR (z5:Int) (r:Bool) (h:C3 z5=some r):yS prog 127 [] [] [Ii z5] [] (.bool r):=by
 refine tI Tryz.f127 ?_;unfold C3 at h;refine sE [] [(0,Ii z5)] [] 0 (sq (am 2 (decide (z5>=0)&&decide (z5<=1000000000000)) ?_ ?_))
 ·rcases bft (decide (z5>=0)) with zS | zS
  ·exact rm [iH 5 Ht,iR 3 zS] (w9 zS rfl)
  ·exact rm [iG 3 2,iH 5 Hf,iR 3 zS] (uN zS)
 cases h;exact rt rx
theorem zIj (F:Nat) (zG:List xA) (zH:yZ) (r:Int) (h:D1 F zG zH=some r):yS prog 88 [] [] [Sq 2 yA zG,z9 zH] [] (Ii r):=by
 refine tI Tryz.f88 ?_;unfold D1 at h;refine sE [iH 0 { id:=0 }] [(0,Sq 2 yA zG),(3,Pp 0)] [(0,Vb 76 (pL zH))] 1 (sq ?_);refine yQ (id:=0) zk ?_;refine sq (sq (bE h fun zA zJ h=>r0 [iK 3 {} (UY F zG zH.A zA zJ)] [(5,.bool (decide (zA<0)))] (bE h fun zE zW h=>?_)));refine xP (mk [(3,Pp 0),(5,.bool zE)] [(0,Vb 76 (pL zH))] 1) ?_ ?_
 ·replace h:=zW;refine ch 5 h ?_ ?_
  ·intro z8 h;refine sk ?_;cases h;exact ⟨rfl,(sI 1 [3,5])⟩
  intro z8 h;refine bE h fun zC yU h=>r1 [iK 3 {} (UY F zG zH.B zC yU)] [0] [(5,.bool (decide (zC<0)))] ?_;cases h;exact ⟨rfl,(sI 1 [3,5])⟩
 refine ch 5 h ?_ ?_
 ·intro yV h;refine s2 [] [3] [(4,Ii 5)] [0] [] 1 ?_;cases h;exact rt rx
 intro yV h;refine c0 [] 16 h [] ?_ ?_
 ·intro xG h;refine s2 [] [3] [(4,Ii 1)] [0] [] 1 ?_;cases h;exact rt rx
 intro xG h;refine sq (sq (bE h fun zM xB h=>r0 [iK 2 {} (TR zH.AtA zM xB)] [(22,.bool (!zM))] (ch 22 h ?_ ?_)))
 ·intro wR h;refine sk (cd 22 (!zM) ?_ ?_)
  rotate_left
  ·intro hg;exact Bool.noConfusion (wR.symm.trans hg)
  intro _;refine s2 [] [3] [(4,Ii 2)] [0] [] 1 ?_;cases h;exact rt rx
 intro wR h;refine sq (bE h fun zT xR h=>r0 [iK 3 {} (TR zH.AtB.Lo zT xR)] [(22,.bool (!zT))] (ch 22 h ?_ ?_))
 ·intro vR h;refine sk (cd 22 (!zT) ?_ ?_)
  rotate_left
  ·intro hg;exact Bool.noConfusion (vR.symm.trans hg)
  intro _;refine s2 [] [3] [(4,Ii 2)] [0] [] 1 ?_;cases h;exact rt rx
 intro vR h;refine sq (bE h fun zU wA h=>r0 [iK 3 {} (TR zH.AtB.Hi zU wA)] [(22,.bool (!zU))] (ch 22 h ?_ ?_))
 ·intro uO h;refine sk (cd 22 (!zU) ?_ ?_)
  rotate_left
  ·intro hg;exact Bool.noConfusion (uO.symm.trans hg)
  intro _;refine s2 [] [3] [(4,Ii 2)] [0] [] 1 ?_;cases h;exact rt rx
 intro uO h;refine r2 [] [3] [(22,.bool (decide (zH.AtB.Lo>zH.AtB.Hi)))] [0] [] 1 (ch 22 h ?_ ?_)
 ·intro tJ h;refine s0 [] [(4,Ii 2)] ?_;cases h;exact rt rx
 intro tJ h;refine sk (s0 [] [(4,Ii 0)] ?_);cases h;exact rt rx
theorem TF (F:Nat) (zG:List xA) (zO:List yZ) (r:Int) (h:oQ F zG zO=some r):yS prog 46 [] [] [Sq 2 yA zG,Sq 5 z9 zO] [] (Ii r):=by
 refine tI Tryz.f46 ?_;unfold oQ at h;refine sE [] [(0,Sq 2 yA zG),(1,Sq 5 z9 zO)] [] 0 (sq (c0 [iN 1 yA zG] 11 h [] ?_ ?_))
 ·intro z8 h;refine s1 [] [0,1] [(4,Ii 8)] ?_;cases h;exact rt rx
 intro z8 h;refine sk (sq (ad 19 h ?_ ?_ ?_))
 ·rcases bft (decide ((lN zG)>8)) with zS | zS
  ·exact rm [iG 4 3,iH 7 Ht,iN 1 yA zG,iR 4 zS] (ort zS)
  ·exact rm [iH 7 Hf,iN 1 yA zG,iR 2 zS,iN 5 z9 zO,iR 2 zS] (orf zS rfl)
 ·intro yV h;refine s1 [] [0,1] [(4,Ii 7)] ?_;cases h;exact rt rx
 intro yV h;refine sk (sq (sq (bE h fun zH zJ h=>r0 [iH 4 { b:=(decide (zH=(⟨0,0⟩:xA))),mks:=[.int .i64,.int .i64] },iF 1 yA zJ,iC (zAS:nD prog 87 [.int .i64,.int .i64]),iC (CP (f:=yA) U9 zH (⟨0,0⟩:xA):((decide (zH=(⟨0,0⟩:xA)))=true↔AV.agg [Ii zH.Id,Ii zH.Ppm]=AV.agg [Ii 0,Ii 0]))] [(24,.bool (!(decide (zH=(⟨0,0⟩:xA)))))] (ch 24 h ?_ ?_))))
 ·intro xG h;refine s1 [] [0,1] [(4,Ii 10)] ?_;cases h;exact rt rx
 intro xG h;refine sk (sq (sq (bE h fun zA zW h=>r0 [iK 1 {} (zDx F zG zA zW)] [(5,Ii zA)] (c0 [] 28 h [] ?_ ?_))))
 ·intro wR h;refine s1 [] [0,1] [(4,Ii zA)] ?_;cases h;exact rt rx
 intro wR h;refine sk (sq (s1 [iN 1 z9 zO] [1] [(30,Sq 5 z9 zO),(31,Ii (lN zO)),(32,Ii 0)] (bE h fun zE yU h=>?_)));refine vL (K1:=kS prog zE 0 (fun q0=>mk [] [] 0) Tryz.f46 (fun q1=>[]) fun q1=>Ii q1) ?_ ?_
 ·replace h:=yU;refine yQ (id:=0) zk ?_;refine w0 [] [] [(0,Sq 2 yA zG),(30,Sq 5 z9 zO),(31,Ii (lN zO)),(32,Ii 0)] [] ?_;refine wD (fun n st=>∃ (zP:Int),st=mk [(0,Sq 2 yA zG),(30,Sq 5 z9 zO),(31,Ii (lN zO)),(32,Ii zP)] [] 0/\G2 F zG zO n zP=some zE) F zk ⟨_,rfl,h⟩ ?_ ?_
  ·rintro _ ⟨_,_,h⟩;exact wC (h:(none:Option (Unit⊕Int))=some zE)
  rintro z5 _ ⟨zP,rfl,h⟩;replace h:oX F zG zO (G2 F zG zO z5) zP=some zE:=h;unfold oX at h;refine s0 [] [(33,.bool (decide (zP<(lN zO))))] (sq (ch 33 h ?_ ?_))
  rotate_left
  ·intro vR h;refine wB (id:=0) zk ?_;cases h;exact ⟨rfl,(sI 0 [])⟩
  intro vR h;refine sk (sq ?_);refine yQ (id:=1) zk ?_;refine sq (bE h fun yO xB h=>r2 [iH 2 { id:=0 },iF 0 z9 xB] [] [(7,Pp 0)] [] [(0,Vb 76 (pL yO))] 1 (sq (bE h fun zC xR h=>r2 [iK 2 {} (zIj F zG yO zC xR)] [7] [(8,Ii zC)] [0] [] 1 (c0 [] 40 h [] ?_ ?_))))
  rotate_left
  ·intro uO h;refine sk (r0 [] [(32,Ii (zI (zP+1)))] ?_);exact ⟨_,(sI 0 [0,30,31,32]),_,rfl,h⟩
  intro uO h;refine s1 [] [0,30] [(4,Ii zC)] ?_;cases h;exact rt ry
 intro e st1 hk;rcases zE with zX | xJ
 rotate_left
 ·obtain ⟨rfl,hf⟩:=hk;cases h;exact ⟨st1,Sub.refl _ _,.inr rfl,hf⟩
 obtain ⟨rfl,hs⟩:=hk;refine ⟨_,hs,?_⟩;refine s0 [] [(4,Ii 0)] ?_;cases h;exact rt rx
theorem zBv (zG:xA) (y0:xI) (r:Bool) (h:OL zG y0=some r):yS prog 60 [(.var 85 (jZ y0))] [] [yA zG,Pp 0] [(.var 85 (jZ y0))] (.bool r):=by
 refine tI Tryz.f60 ?_;unfold OL at h;refine sE [iH 0 { id:=1 }] [(1,Pp 0),(2,Pp 1)] [(0,Vb 85 (jZ y0)),(1,Vb 87 (C5 zG))] 2 (s2 [] [1,2] [(3,.bool (zG.Id==y0.Domain))] [1] [] 2 ?_);cases h;exact rt rx
theorem zBK (F:Nat) (zL:List xA) (zB:xI) (r:Int) (h:G1 F zL zB=some r):yS prog 100 [(.var 85 (jZ zB))] [] [Sq 2 yA zL,.fn 60 [Pp 0]] [(.var 85 (jZ zB))] (Ii r):=by
 refine tI Tryz.f100 ?_;unfold G1 at h;refine sE [] [(0,Sq 2 yA zL),(1,.fn 60 [Pp 0])] [(0,Vb 85 (jZ zB))] 1 (sq (s0 [iN 1 yA zL] [(7,Ii (lN zL)),(8,Ii 0)] (bE h fun zE zJ h=>?_)));refine vL (K1:=kS prog zE 1 (fun q0=>mk [] [(0,Vb 85 (jZ zB))] 1) Tryz.f100 (fun q1=>[(.var 85 (jZ zB))]) fun q1=>Ii q1) ?_ ?_
 ·replace h:=zJ;refine yQ (id:=0) zk ?_;refine w0 [0] [] [(0,Sq 2 yA zL),(1,.fn 60 [Pp 0]),(7,Ii (lN zL)),(8,Ii 0)] [(0,Vb 85 (jZ zB))] ?_;refine wD (fun n st=>∃ (zP:Int),st=mk [(0,Sq 2 yA zL),(1,.fn 60 [Pp 0]),(7,Ii (lN zL)),(8,Ii zP)] [(0,Vb 85 (jZ zB))] 1/\EB F zL zB n zP=some zE) F zk ⟨_,rfl,h⟩ ?_ ?_
  ·rintro _ ⟨_,_,h⟩;exact wC (h:(none:Option (Unit⊕Int))=some zE)
  rintro z5 _ ⟨zP,rfl,h⟩;replace h:o8 F zL zB (EB F zL zB z5) zP=some zE:=h;unfold o8 at h;refine s0 [] [(9,.bool (decide (zP<(lN zL))))] (sq (ch 9 h ?_ ?_))
  rotate_left
  ·intro z8 h;refine wB (id:=0) zk ?_;cases h;exact ⟨rfl,(sI 1 [])⟩
  intro z8 h;refine sk (sq ?_);refine yQ (id:=1) zk ?_;refine s0 [] [(5,Ii zP)] (sq (bE h fun zH zW h=>bE h fun zA yU h=>r0 [iF 3 yA zW,iK 5 { ids:=[0] } (zBv zH zB zA yU)] [(16,.bool zA)] (ch 16 h ?_ ?_)))
  rotate_left
  ·intro yV h;refine sk (r0 [] [(8,Ii (zI (zP+1)))] ?_);exact ⟨_,(sI 1 [0,1,7,8]),_,rfl,h⟩
  intro yV h;refine s1 [] [0,1] [(4,Ii zP)] ?_;cases h;exact rt ry
 intro e st1 hk;rcases zE with zX | xJ
 rotate_left
 ·obtain ⟨rfl,hf⟩:=hk;cases h;exact ⟨st1,Sub.refl _ _,.inr rfl,hf⟩
 obtain ⟨rfl,hs⟩:=hk;refine ⟨_,hs,?_⟩;refine s0 [] [(4,Ii (-1))] ?_;cases h;exact rt rx
theorem zGH (F:Nat) (zL:List xA) (zB:xI) (r:Bool) (h:L1 F zL zB=some r):yS prog 59 [(.var 85 (jZ zB))] [] [Sq 2 yA zL,.fn 60 [Pp 0]] [(.var 85 (jZ zB))] (.bool r):=by
 refine tI Tryz.f59 ?_;unfold L1 at h;refine sE [] [(0,Sq 2 yA zL),(1,.fn 60 [Pp 0])] [(0,Vb 85 (jZ zB))] 1 (sq (bE h fun zA zJ h=>r1 [iK 2 { ids:=[0] } (zBK F zL zB zA zJ)] [0,1] [(4,.bool (decide (zA>=0)))] ?_));cases h;exact rt rx
theorem Y6 (F:Nat) (zJ:yB) (r:Int) (h:rA F zJ=some r):yS prog 20 [] [] [qO zJ] [] (Ii r):=by
 refine tI Tryz.f20 ?_;unfold rA at h;refine sE [iH 0 { id:=0 }] [(1,Pp 0)] [(0,Vb 28 (wL zJ))] 1 (sq ?_);refine yQ (id:=0) zk ?_;refine c0 [iN 2 yJ zJ.Threads] 10 h [] ?_ ?_
 ·intro z8 h;refine s2 [] [1] [(2,Ii 8)] [0] [] 1 ?_;cases h;exact rt rx
 intro z8 h;refine c0 [iN 2 yJ zJ.Threads] 15 h [] ?_ ?_
 ·intro yV h;refine s2 [] [1] [(2,Ii 7)] [0] [] 1 ?_;cases h;exact rt rx
 intro yV h;refine sk (s2 [iH 0 { id:=1,mag:=false,mks:=[.int .i64] }] [] [(3,.mp 1)] [] [(1,.live (.map false [.int .i64] []))] 2 (sq (s0 [iN 2 yJ zJ.Threads] [(22,Sq 3 yJ zJ.Threads),(23,Ii (lN zJ.Threads)),(24,Ii 0)] (bE h fun zE zW h=>?_))));refine vL (K1:=kS prog zE 0 (fun q0=>mk [(1,Pp 0)] [(0,Vb 28 (wL zJ))] 1) Tryz.f20 (fun q1=>[]) fun q1=>Ii q1) ?_ ?_
 ·replace h:=zW;refine yQ (id:=1) zk ?_;refine w0 [0,1] [] [(1,Pp 0),(3,.mp 1),(22,Sq 3 yJ zJ.Threads),(23,Ii (lN zJ.Threads)),(24,Ii 0)] [(0,Vb 28 (wL zJ)),(1,.live (.map false [.int .i64] []))] ?_;refine wD (fun n st=>∃ (zP:Int),∃ (zK:List (Int×Bool)),st=mk [(1,Pp 0),(3,.mp 1),(22,Sq 3 yJ zJ.Threads),(23,Ii (lN zJ.Threads)),(24,Ii zP)] [(0,Vb 28 (wL zJ)),(1,.live (.map false [.int .i64] (List.map (mpE (AV.int .i64) AV.bool) zK)))] 2/\C7 F zJ n zP zK=some zE) F zk ⟨_,_,rfl,h⟩ ?_ ?_
  ·rintro _ ⟨_,_,_,h⟩;exact wC (h:(none:Option (Unit⊕Int))=some zE)
  rintro z5 _ ⟨zP,zK,rfl,h⟩;replace h:HI F zJ (C7 F zJ z5) zP zK=some zE:=h;unfold HI at h;refine s0 [] [(25,.bool (decide (zP<(lN zJ.Threads))))] (sq (ch 25 h ?_ ?_))
  rotate_left
  ·intro xG h;refine wB (id:=1) zk ?_;cases h;exact ⟨rfl,(sI 1 [1])⟩
  intro xG h;refine sk (sq ?_);refine yQ (id:=2) zk ?_;refine sq (bE h fun zH yU h=>r2 [iH 2 { id:=2 },iF 0 yJ yU] [] [(5,Pp 2)] [] [(2,Vb 85 (jZ zH))] 3 (sq (sq (bE h fun zA xB h=>r0 [iK 1 {} (zBt F zH zA xB)] [(6,Ii zA)] (c0 [] 31 h [] ?_ ?_)))))
  ·intro wR h;refine s2 [] [1,3,22,5] [(2,Ii zA)] [0,1,2] [] 3 ?_;cases h;exact rt ry
  intro wR h;refine sk (sq (c0 [iH 3 { av:=(.bool ((uY zK zH.Id).getD false)),g:=(uY zK zH.Id).isSome },iC (OJ:qY prog 3 false [.int .i64]),iC (OA (f:=(AV.int .i64)) (g:=AV.bool) OF zK zH.Id false:fR (List.map (mpE (AV.int .i64) AV.bool) zK) (Ii zH.Id) (.bool false) (.bool ((uY zK zH.Id).getD false)) (uY zK zH.Id).isSome)] 36 h [] ?_ ?_))
  ·intro vR h;refine s2 [] [1,3,22,5] [(2,Ii 4)] [0,1,2] [] 3 ?_;cases h;exact rt ry
  intro vR h;refine sk (nE h fun xR h=>r2 [iH 3 { es:=(List.map (mpE (AV.int .i64) AV.bool) (w8 zK zH.Id true)) },iC (OJ:qY prog 3 false [.int .i64]),iC (NU (f:=(AV.int .i64)) (g:=AV.bool) OF zK zH.Id true:m6 (List.map (mpE (AV.int .i64) AV.bool) zK) (Ii zH.Id) (.bool true) (List.map (mpE (AV.int .i64) AV.bool) (w8 zK zH.Id true))),iC (MC (l:=zK) xR:((List.map (mpE (AV.int .i64) AV.bool) zK):List (AV×AV)).length<maxLen)] [5] [] [2] [(1,.live (.map false [.int .i64] (List.map (mpE (AV.int .i64) AV.bool) (w8 zK zH.Id true))))] 3 (r0 [] [(24,Ii (zI (zP+1)))] ?_));exact ⟨_,(sI 2 [1,3,22,23,24]),_,_,rfl,h⟩
 intro e st1 hk;rcases zE with zX | xJ
 rotate_left
 ·obtain ⟨rfl,hf⟩:=hk;cases h;exact ⟨st1,Sub.refl _ _,.inr rfl,hf⟩
 obtain ⟨rfl,hs⟩:=hk;refine ⟨_,hs,?_⟩;refine sq (sq (bE h fun zC wA h=>r0 [iK 4 {} (TF F zJ.Domains zJ.Snaps zC wA)] [(7,Ii zC)] (c0 [] 47 h [] ?_ ?_)))
 ·intro uO h;refine s2 [] [1] [(2,Ii zC)] [0] [] 1 ?_;cases h;exact rt rx
 intro uO h;refine sk (sq (s0 [iN 2 yJ zJ.Threads] [(50,Sq 3 yJ zJ.Threads),(51,Ii (lN zJ.Threads)),(52,Ii 0)] (bE h fun zR wS h=>?_)));refine vL (K1:=kS prog zR 0 (fun q0=>mk [] [] 0) Tryz.f20 (fun q1=>[]) fun q1=>Ii q1) ?_ ?_
 ·replace h:=wS;refine yQ (id:=3) zk ?_;refine w0 [0] [] [(1,Pp 0),(50,Sq 3 yJ zJ.Threads),(51,Ii (lN zJ.Threads)),(52,Ii 0)] [(0,Vb 28 (wL zJ))] ?_;refine wD (fun n st=>∃ (wE:Int),st=mk [(1,Pp 0),(50,Sq 3 yJ zJ.Threads),(51,Ii (lN zJ.Threads)),(52,Ii wE)] [(0,Vb 28 (wL zJ))] 1/\AN F zJ n wE=some zR) F zk ⟨_,rfl,h⟩ ?_ ?_
  ·rintro _ ⟨_,_,h⟩;exact wC (h:(none:Option (Unit⊕Int))=some zR)
  rintro uA _ ⟨wE,rfl,h⟩;replace h:oU F zJ (AN F zJ uA) wE=some zR:=h;unfold oU at h;refine s0 [] [(53,.bool (decide (wE<(lN zJ.Threads))))] (sq (ch 53 h ?_ ?_))
  rotate_left
  ·intro tJ h;refine wB (id:=3) zk ?_;cases h;exact ⟨rfl,(sI 0 [])⟩
  intro tJ h;refine sk (sq ?_);refine yQ (id:=4) zk ?_;refine sq (bE h fun yO vB h=>r2 [iH 2 { id:=1 },iF 0 yJ vB] [] [(9,Pp 1)] [] [(1,Vb 85 (jZ yO))] 2 (sq (bE h fun zM vM h=>r2 [iJ 3 { ids:=[1] } [Sq 2 yA zJ.Domains,.fn 60 [Pp 1]] (zGH F zJ.Domains yO zM vM)] [9] [(60,.bool (!zM))] [1] [] 2 (ch 60 h ?_ ?_))))
  rotate_left
  ·intro qU h;refine sk (r0 [] [(52,Ii (zI (wE+1)))] ?_);exact ⟨_,(sI 1 [1,50,51,52]),_,rfl,h⟩
  intro qU h;refine s2 [] [1,50] [(2,Ii 5)] [0] [] 2 ?_;cases h;exact rt ry
 intro e st1 hk;rcases zR with vQ | t3
 rotate_left
 ·obtain ⟨rfl,hf⟩:=hk;cases h;exact ⟨st1,Sub.refl _ _,.inr rfl,hf⟩
 obtain ⟨rfl,hs⟩:=hk;refine ⟨_,hs,?_⟩;refine s0 [] [(2,Ii 0)] ?_;cases h;exact rt rx
theorem zEY (z5:Int) (r:Int) (h:GV z5=some r):yS prog 102 [] [] [Ii z5] [] (.int .u64 r):=by
 refine tI Tryz.f102 ?_;unfold GV at h;refine sE [] [(0,Ii z5)] [] 0 (s0 [iC (by decide:(0:Int)<=(1:Int)),iC (by decide:(0:Int)<=(63:Int))] [(2,.int .u64 (tW .u64 (nV .u64 (v6 z5) 1) (v6 (jV .i64 z5 63))))] ?_);cases h;exact rt rx
theorem kX (F:Nat) (zF:List Int) (z5:Int) (r:(List Int)) (h:qT F zF z5=some r):yS prog 63 [] [] [Sb zF,Ii z5] [.row 5 1 (Mb r)] (.own 0 r.length):=by
 refine tI Tryz.f63 ?_;unfold qT at h;refine sE [iH 0 { id:=0,m:=1 }] [(0,Sb zF),(1,Ii z5)] [] 1 (s2 [iH 0 { b:=true,id:=1 }] [] [(5,Pp 1)] [] [(1,Rb 148 1 (Mb (List.replicate 10 0)))] 2 (s0 [] [(6,Ii 0)] (sq (sq (bE h fun zA zJ h=>r0 [iK 1 {} (zEY z5 zA zJ)] [(7,.int .u64 zA)] (bE h fun zE zW h=>?_))))));refine xP (mk [(0,Sb zF),(5,Pp 0),(6,Ii zE.1)] [(0,Rb 148 1 (Mb zE.2))] 1) ?_ ?_
 ·replace h:=zW;refine yQ (id:=0) zk ?_;refine w0 [1] [] [(0,Sb zF),(5,Pp 0),(6,Ii 0),(7,.int .u64 zA)] [(0,Rb 148 1 (Mb (List.replicate 10 0)))] ?_;refine wD (fun n st=>∃ (wV:Int),∃ (wH:Int),∃ (zK:List Int),st=mk [(0,Sb zF),(5,Pp 0),(6,Ii wV),(7,.int .u64 wH)] [(0,Rb 148 1 (Mb zK))] 1/\gO F n wV wH zK=some zE) F zk ⟨_,_,_,rfl,h⟩ ?_ ?_
  ·rintro _ ⟨_,_,_,_,h⟩;exact wC (h:(none:Option (Int×(List Int)))=some zE)
  rintro uA _ ⟨wV,wH,zK,rfl,h⟩;replace h:oJ F (gO F uA) wV wH zK=some zE:=h;unfold oJ at h;refine sq ?_;refine yQ (id:=1) zk ?_;refine sq (nE h fun yU h=>bE h fun zH xB h=>r2 [iH 4 Ht,iH 5 { av:=Iu zH,l:=(Mb (zK.set wV.toNat (tN (tT .u64 wH 127)))) },iC yU.1,iC yU.2,iC (RD xB:(Mb zK)[wV.toNat]?=some (Iu zH)),iC (AF _ _ _:(Mb (zK.set wV.toNat (tN (tT .u64 wH 127))))=List.set (Mb zK) wV.toNat (cK (Iu zH) 0 [Iu (tN (tT .u64 wH 127))]))] [] [] [] [(0,Rb 148 1 (Mb (zK.set wV.toNat (tN (tT .u64 wH 127)))))] 1 (s0 [] [(6,Ii (zI (wV+1)))] (sq (c0 [] 20 h [] ?_ ?_))))
  ·intro z8 h;refine wB (id:=0) zk ?_;cases h;exact ⟨rfl,(sI 1 [0,5,6])⟩
  intro z8 h;refine sk (nE h fun xR h=>bE h fun yO wA h=>nE h fun wS h=>bE h fun xE vB h=>r2 [iH 2 Ht,iH 3 { av:=Iu yO },iH 5 Ht,iH 6 { av:=Iu xE,l:=(Mb ((zK.set wV.toNat (tN (tT .u64 wH (127:Int)))).set ((zI ((zI (wV+1)) - (1:Int))).toNat) (ior .u8 yO 128))) },iC xR.1,iC xR.2,iC (RD wA:(Mb (zK.set wV.toNat (tN (tT .u64 wH 127))))[(zI ((zI (wV+1)) - (1:Int))).toNat]?=some (Iu yO)),iC wS.1,iC wS.2,iC (RD vB:(Mb (zK.set wV.toNat (tN (tT .u64 wH 127))))[(zI ((zI (wV+1)) - (1:Int))).toNat]?=some (Iu xE)),iC (AF _ _ _:(Mb ((zK.set wV.toNat (tN (tT .u64 wH (127:Int)))).set ((zI ((zI (wV+1)) - (1:Int))).toNat) (ior .u8 yO 128)))=List.set (Mb (zK.set wV.toNat (tN (tT .u64 wH 127)))) ((zI ((zI (wV+1)) - (1:Int))).toNat) (cK (Iu xE) 0 [Iu (ior .u8 yO 128)]))] [] [] [] [(0,Rb 148 1 (Mb ((zK.set wV.toNat (tN (tT .u64 wH (127:Int)))).set ((zI ((zI (wV+1)) - (1:Int))).toNat) (ior .u8 yO 128))))] 1 (r0 [iC (by decide:(0:Int)<=(7:Int))] [(7,.int .u64 (jV .u64 wH 7))] ?_));exact ⟨_,(sI 1 [0,5,6,7]),_,_,_,rfl,h⟩
 refine sq (nE h fun vM h=>nE h fun v7 h=>nE h fun uB h=>nE h fun uX h=>r2 [iH 5 { l:=(Mb (sub zF 0 (lN zF))) },iH 8 { dep:=true,id:=1,l:=(Mb ((sub zF 0 (lN zF))++((zE.2.take zE.1.toNat).drop 0))),n:=(((sub zF 0 (lN zF))++((zE.2.take zE.1.toNat).drop 0))).length },iN 2 Fb zF,iN 4 Fb zF,i0,iC (Int.natCast_nonneg _:0<=(lN zF)),iC (S8 (Int.le_refl _):(lN zF)<=(lN ((Mb zF)))),iA (lN zF),iC (zAq _ _ _:(Mb (sub zF 0 (lN zF)))=(((Mb zF)).take ((lN zF)).toNat).drop ((0:Int)).toNat),i0,iC vM.1,iC vM.2.1,iC (NK vM.2.2:10<=((Mb zE.2)).length),iC (NK v7.2:zE.1.toNat<=((Mb zE.2)).length),iC v7.1,iC (zEw _ _ _ _:(Mb ((sub zF 0 (lN zF))++((zE.2.take zE.1.toNat).drop 0)))=(Mb (sub zF 0 (lN zF)))++(((Mb zE.2)).take zE.1.toNat).drop 0),iC (by first | (simp;done) | simpa using uB:(((List.map (AV.int .u8) (sub zF 0 ((zF.length:Nat):Int))):List AV).length+((((List.map (AV.int .u8) zE.2)).take zE.1.toNat).drop 0:List AV).length) * 1<=140737488355328),iC (by first | (simp;done) | simpa using uX:0<((((List.map (AV.int .u8) zE.2)).take zE.1.toNat).drop 0:List AV).length\/((List.map (AV.int .u8) (sub zF 0 ((zF.length:Nat):Int))):List AV).length=0),iC (by simp:(((sub zF 0 ((zF.length:Nat):Int))++((zE.2.take zE.1.toNat).drop 0))).length=((List.map (AV.int .u8) ((sub zF 0 ((zF.length:Nat):Int))++((zE.2.take zE.1.toNat).drop 0)))).length)] [0,5] [(4,.own 1 ((((sub zF 0 (lN zF))++((zE.2.take zE.1.toNat).drop 0))).length))] [0] [(1,Rb 5 1 (Mb ((sub zF 0 (lN zF))++((zE.2.take zE.1.toNat).drop 0))))] 2 (w0 [1] [] [(4,.own 0 ((((sub zF 0 (lN zF))++((zE.2.take zE.1.toNat).drop 0))).length))] [(0,Rb 5 1 (Mb ((sub zF 0 (lN zF))++((zE.2.take zE.1.toNat).drop 0))))] ?_));cases h;exact rt rx
theorem YB (F:Nat) (zF:List Int) (zL:List Int) (r:(List Int)) (h:CZ F zF zL=some r):yS prog 83 [] [] [Sb zF,.str zL] [.row 5 1 (Mb r)] (.own 0 r.length):=by
 refine tI Tryz.f83 ?_;unfold CZ at h;refine sE [iH 0 { id:=0,m:=1 }] [(0,Sb zF),(1,.str zL)] [] 1 (sq (bE h fun zA zJ h=>r2 [iK 3 { ids:=[1] } (kX F zF (lN zL) zA zJ)] [0] [(5,.own 1 zA.length)] [] [(1,Rb 5 1 (Mb zA))] 2 (sq (nE h fun zW h=>r2 [iH 5 { id:=2,l:=(Mb (List.replicate ((zI ((lN zA)+(lN zL))).toNat) (0:Int))),m:=(zI ((lN zA)+(lN zL))).toNat,n:=(zI ((lN zA)+(lN zL))).toNat },iC ((Int.toNat_of_nonneg zW.1).symm:zI ((lN zA)+(lN zL))=(((zI ((lN zA)+(lN zL))).toNat:Nat):Int)),iC ((Int.toNat_of_nonneg zW.1).symm:zI ((lN zA)+(lN zL))=(((zI ((lN zA)+(lN zL))).toNat:Nat):Int)),iC (Nat.le_refl _:((zI ((lN zA)+(lN zL))).toNat)<=((zI ((lN zA)+(lN zL))).toNat)),iC zW.2,iC (YE:(Mb (List.replicate ((zI ((lN zA)+(lN zL))).toNat) (0:Int)))=List.replicate ((zI ((lN zA)+(lN zL))).toNat) (Iu 0))] [] [(6,.own 2 ((zI ((lN zA)+(lN zL))).toNat))] [] [(2,Rb 5 1 (Mb (List.replicate ((zI ((lN zA)+(lN zL))).toNat) (0:Int))))] 3 (sq (nE h fun yU h=>r2 [iH 2 { l:=(Mb (cpy (List.replicate ((zI ((lN zA)+(lN zL))).toNat) (0:Int)) 0 ((zI ((lN zA)+(lN zL))).toNat) zA)),n:=(min zA.length ((zI ((lN zA)+(lN zL))).toNat - 0)) },iM Fb zA,iC yU.1,iC (NK yU.2:((zI ((lN zA)+(lN zL))).toNat)<=((Mb (List.replicate ((zI ((lN zA)+(lN zL))).toNat) (0:Int)))).length),iC (by simp:(min zA.length ((zI (((zA.length:Nat):Int)+((zL.length:Nat):Int))).toNat - 0))=min ((List.map (AV.int .u8) zA):List AV).length ((zI (((zA.length:Nat):Int)+((zL.length:Nat):Int))).toNat - 0)),iC (by simp [cpy]:(List.map (AV.int .u8) (cpy (List.replicate ((zI (((zA.length:Nat):Int)+((zL.length:Nat):Int))).toNat) (0:Int)) 0 ((zI (((zA.length:Nat):Int)+((zL.length:Nat):Int))).toNat) zA))=((List.map (AV.int .u8) (List.replicate ((zI (((zA.length:Nat):Int)+((zL.length:Nat):Int))).toNat) (0:Int)))).take 0++((List.map (AV.int .u8) zA):List AV).take (min zA.length ((zI (((zA.length:Nat):Int)+((zL.length:Nat):Int))).toNat - 0))++((List.map (AV.int .u8) (List.replicate ((zI (((zA.length:Nat):Int)+((zL.length:Nat):Int))).toNat) (0:Int)))).drop (0+(min zA.length ((zI (((zA.length:Nat):Int)+((zL.length:Nat):Int))).toNat - 0))))] [] [] [] [(2,Rb 5 1 (Mb (cpy (List.replicate ((zI ((lN zA)+(lN zL))).toNat) (0:Int)) 0 ((zI ((lN zA)+(lN zL))).toNat) zA)))] 3 (sq (nE h fun xB h=>nE h fun xR h=>r2 [iH 5 { l:=(Mb (cpy (cpy (List.replicate ((zI ((lN zA)+(lN zL))).toNat) (0:Int)) 0 ((zI ((lN zA)+(lN zL))).toNat) zA) zA.length ((zI ((lN zA)+(lN zL))).toNat) zL)),n:=(min zL.length ((zI ((lN zA)+(lN zL))).toNat - zA.length)) },iC (Int.natCast_nonneg _:0<=(lN zA)),iC xB,iC (Int.le_refl _:(((zI ((lN zA)+(lN zL))).toNat:Nat):Int)<=(((zI ((lN zA)+(lN zL))).toNat:Nat):Int)),iC trivial,iC xR.1,iC (NK xR.2:((zI ((lN zA)+(lN zL))).toNat)<=((Mb (cpy (List.replicate ((zI ((lN zA)+(lN zL))).toNat) (0:Int)) 0 ((zI ((lN zA)+(lN zL))).toNat) zA))).length),iC (by simp:(min zL.length ((zI (((zA.length:Nat):Int)+((zL.length:Nat):Int))).toNat - zA.length))=min ((List.map (AV.int .u8) zL):List AV).length ((zI (((zA.length:Nat):Int)+((zL.length:Nat):Int))).toNat - zA.length)),iC (by simp [cpy]:(List.map (AV.int .u8) (cpy (cpy (List.replicate ((zI (((zA.length:Nat):Int)+((zL.length:Nat):Int))).toNat) (0:Int)) 0 ((zI (((zA.length:Nat):Int)+((zL.length:Nat):Int))).toNat) zA) zA.length ((zI (((zA.length:Nat):Int)+((zL.length:Nat):Int))).toNat) zL))=((List.map (AV.int .u8) (cpy (List.replicate ((zI (((zA.length:Nat):Int)+((zL.length:Nat):Int))).toNat) (0:Int)) 0 ((zI (((zA.length:Nat):Int)+((zL.length:Nat):Int))).toNat) zA))).take zA.length++((List.map (AV.int .u8) zL):List AV).take (min zL.length ((zI (((zA.length:Nat):Int)+((zL.length:Nat):Int))).toNat - zA.length))++((List.map (AV.int .u8) (cpy (List.replicate ((zI (((zA.length:Nat):Int)+((zL.length:Nat):Int))).toNat) (0:Int)) 0 ((zI (((zA.length:Nat):Int)+((zL.length:Nat):Int))).toNat) zA))).drop (zA.length+(min zL.length ((zI (((zA.length:Nat):Int)+((zL.length:Nat):Int))).toNat - zA.length))))] [5] [] [1] [(2,Rb 5 1 (Mb (cpy (cpy (List.replicate ((zI ((lN zA)+(lN zL))).toNat) (0:Int)) 0 ((zI ((lN zA)+(lN zL))).toNat) zA) zA.length ((zI ((lN zA)+(lN zL))).toNat) zL)))] 3 (s1 [] [6] [(4,.own 2 ((zI ((lN zA)+(lN zL))).toNat))] (wz [2] [] [4] [] [(4,.own 0 (((cpy (cpy (List.replicate ((zI ((lN zA)+(lN zL))).toNat) (0:Int)) 0 ((zI ((lN zA)+(lN zL))).toNat) zA) zA.length ((zI ((lN zA)+(lN zL))).toNat) zL)).length))] [(0,Rb 5 1 (Mb (cpy (cpy (List.replicate ((zI ((lN zA)+(lN zL))).toNat) (0:Int)) 0 ((zI ((lN zA)+(lN zL))).toNat) zA) zA.length ((zI ((lN zA)+(lN zL))).toNat) zL)))] (ac (congrArg (AV.own _) ((Z0 xR.1 xR.2).trans ((Z0 yU.1 yU.2).trans List.length_replicate)).symm:(.own 2 ((zI ((lN zA)+(lN zL))).toNat):AV)=.own 2 (((cpy (cpy (List.replicate ((zI ((lN zA)+(lN zL))).toNat) (0:Int)) 0 ((zI ((lN zA)+(lN zL))).toNat) zA) zA.length ((zI ((lN zA)+(lN zL))).toNat) zL)).length)) an) ?_))))))))));cases h;exact rt rx
theorem QF (F:Nat) (zF:List Int) (zL:yZ) (r:(List Int)) (h:lO F zF zL=some r):yS prog 84 [] [] [Sb zF,z9 zL] [] (Sb r):=by
 refine tI Tryz.f84 ?_;unfold lO at h;refine sE [iH 0 { id:=0 }] [(0,Sb zF),(3,Pp 0)] [(0,Vb 76 (pL zL))] 1 (sq (s2 [iH 12 { id:=1 }] [3] [(19,.own 1 5),(20,Ii ((5:Nat):Int)),(21,Ii 0)] [0] [(1,Rb 3 1 (Mi [zL.A,zL.AtA,zL.B,zL.AtB.Lo,zL.AtB.Hi]))] 2 (bE h fun zE zJ h=>?_)));refine xP (mk [(0,Sb zE)] [] 0) ?_ ?_
 ·replace h:=zJ;refine yQ (id:=0) zk ?_;refine wz [1] [] [19] [] [(0,Sb zF),(19,.own 0 (([zL.A,zL.AtA,zL.B,zL.AtB.Lo,zL.AtB.Hi]).length)),(20,Ii ((5:Nat):Int)),(21,Ii 0)] [(0,Rb 3 1 (Mi [zL.A,zL.AtA,zL.B,zL.AtB.Lo,zL.AtB.Hi]))] (ac (congrArg (AV.own _) (by first | (simp;done) | (simp;omega)):(.own 1 5:AV)=.own 1 (([zL.A,zL.AtA,zL.B,zL.AtB.Lo,zL.AtB.Hi]).length)) an) ?_;refine wD (fun n st=>∃ (dJ:List Int),∃ (zP:Int),st=mk [(0,Sb dJ),(19,.own 0 (([zL.A,zL.AtA,zL.B,zL.AtB.Lo,zL.AtB.Hi]).length)),(20,Ii ((5:Nat):Int)),(21,Ii zP)] [(0,Rb 3 1 (Mi [zL.A,zL.AtA,zL.B,zL.AtB.Lo,zL.AtB.Hi]))] 1/\mU F zL n dJ zP=some zE) F zk ⟨_,_,rfl,h⟩ ?_ ?_
  ·rintro _ ⟨_,_,_,h⟩;exact wC (h:(none:Option (List Int))=some zE)
  rintro z5 _ ⟨dJ,zP,rfl,h⟩;replace h:mO F zL (mU F zL z5) dJ zP=some zE:=h;unfold mO at h;refine s0 [] [(22,.bool (decide (zP<((5:Nat):Int))))] (sq (ch 22 h ?_ ?_))
  rotate_left
  ·intro z8 h;refine wB (id:=0) zk ?_;cases h;exact ⟨rfl,(sI 0 [0])⟩
  intro z8 h;refine sk (sq ?_);refine yQ (id:=1) zk ?_;refine sq (bE h fun zH zW h=>r0 [iH 1 { av:=Ii zH },iC (qH zW:0<=zP),iC (by first | (simp;done) | simpa using qJ zW:zP<((([zL.A,zL.AtA,zL.B,zL.AtB.Lo,zL.AtB.Hi]).length:Nat):Int)),iC (qI zW:(Mi [zL.A,zL.AtA,zL.B,zL.AtB.Lo,zL.AtB.Hi])[zP.toNat]?=some (Ii zH))] [(6,Ii zH)] (bE h fun zA yU h=>r2 [iK 2 { ids:=[1] } (kX F dJ zH zA yU)] [] [(0,.own 1 zA.length)] [] [(1,Rb 5 1 (Mb zA))] 2 (r0 [] [(21,Ii (zI (zP+1)))] ?_)));exact ⟨_,(Sub.trans (cX [0] [1] [.a 0 (Sb zA),.s 19,.s 20,.s 21] [.s 0] (sl2:=[(0,Sb zA),(19,.own 0 (([zL.A,zL.AtA,zL.B,zL.AtB.Lo,zL.AtB.Hi]).length)),(20,Ii ((5:Nat):Int)),(21,Ii (zI (zP+1)))]) (bx2:=[(0,Rb 3 1 (Mi [zL.A,zL.AtA,zL.B,zL.AtB.Lo,zL.AtB.Hi]))]) zk (ac (by first | (simp;done) | (simp;omega):zA.length=((List.map (AV.int .u8) zA)).length) (ar 1 (ar ((Mb zA):List AV) (ac (rfl:(!false||false)=true) an))))) (sI 1 [0,19,20,21])),_,_,rfl,h⟩
 refine s1 [] [0] [(4,Sb zE)] ?_;cases h;exact rt rx
theorem VF (F:Nat) (zJ:yB) (r:(List Int)) (h:B7 F zJ=some r):yS prog 41 [] [] [qO zJ] [] (Sb r):=by
 refine tI Tryz.f41 ?_;unfold B7 at h;refine sE [iH 0 { id:=0 }] [(1,Pp 0)] [(0,Vb 28 (wL zJ))] 1 (sq (bE h fun zA zW h=>r2 [iN 2 yJ zJ.Threads,iL 3 { ids:=[1] } [.nilsl,Ii (lN zJ.Threads)] (kX F [] (lN zJ.Threads) zA zW) ⟨rfl,rfl,trivial⟩] [] [(3,.own 1 zA.length)] [] [(1,Rb 5 1 (Mb zA))] 2 (sq (s0 [iN 2 yJ zJ.Threads] [(15,Sq 3 yJ zJ.Threads),(16,Ii (lN zJ.Threads)),(17,Ii 0)] (bE h fun zE yU h=>?_)))));refine xP (mk [(1,Pp 0),(3,.own 1 zE.length)] [(0,Vb 28 (wL zJ)),(1,Rb 5 1 (Mb zE))] 2) ?_ ?_
 ·replace h:=yU;refine yQ (id:=0) zk ?_;refine w0 [0,1] [] [(1,Pp 0),(3,.own 1 zA.length),(15,Sq 3 yJ zJ.Threads),(16,Ii (lN zJ.Threads)),(17,Ii 0)] [(0,Vb 28 (wL zJ)),(1,Rb 5 1 (Mb zA))] ?_;refine wD (fun n st=>∃ (zP:Int),∃ (zK:List Int),st=mk [(1,Pp 0),(3,.own 1 zK.length),(15,Sq 3 yJ zJ.Threads),(16,Ii (lN zJ.Threads)),(17,Ii zP)] [(0,Vb 28 (wL zJ)),(1,Rb 5 1 (Mb zK))] 2/\mS F zJ n zP zK=some zE) F zk ⟨_,_,rfl,h⟩ ?_ ?_
  ·rintro _ ⟨_,_,_,h⟩;exact wC (h:(none:Option (List Int))=some zE)
  rintro z5 _ ⟨zP,zK,rfl,h⟩;replace h:JR F zJ (mS F zJ z5) zP zK=some zE:=h;unfold JR at h;refine s0 [] [(18,.bool (decide (zP<(lN zJ.Threads))))] (sq (ch 18 h ?_ ?_))
  rotate_left
  ·intro z8 h;refine wB (id:=0) zk ?_;cases h;exact ⟨rfl,(sI 2 [1,3])⟩
  intro z8 h;refine sk (sq ?_);refine yQ (id:=1) zk ?_;refine sq (bE h fun zH xB h=>r2 [iH 2 { id:=2 },iF 0 yJ xB] [] [(5,Pp 2)] [] [(2,Vb 85 (jZ zH))] 3 (bE h fun zC xR h=>bE h fun zM wA h=>bE h fun zT wS h=>r2 [iM Fb zK,iK 3 { frz:=[1],ids:=[3] } (kX F zK zH.Id zC xR),iM Fb zC,iK 6 { frz:=[3],ids:=[4] } (YB F zC zH.Name zM wA),iM Fb zM,iK 9 { frz:=[4],ids:=[5] } (kX F zM zH.Domain zT wS)] [5] [(3,.own 5 zT.length)] [1,2] [(5,Rb 5 1 (Mb zT))] 6 (r0 [] [(17,Ii (zI (zP+1)))] ?_)));exact ⟨_,(sJ [0,5] [1,3,15,16,17]),_,_,rfl,h⟩
 refine sq (bE h fun zU vB h=>r2 [iN 3 yA zJ.Domains,iM Fb zE,iK 4 { frz:=[1],ids:=[2] } (kX F zE (lN zJ.Domains) zU vB)] [] [(3,.own 2 zU.length)] [1] [(2,Rb 5 1 (Mb zU))] 3 (sq (s0 [iN 2 yA zJ.Domains] [(38,Sq 2 yA zJ.Domains),(39,Ii (lN zJ.Domains)),(40,Ii 0)] (bE h fun zR vM h=>?_))));refine xP (mk [(1,Pp 0),(3,.own 1 zR.length)] [(0,Vb 28 (wL zJ)),(1,Rb 5 1 (Mb zR))] 2) ?_ ?_
 ·replace h:=vM;refine yQ (id:=2) zk ?_;refine w0 [0,2] [] [(1,Pp 0),(3,.own 1 zU.length),(38,Sq 2 yA zJ.Domains),(39,Ii (lN zJ.Domains)),(40,Ii 0)] [(0,Vb 28 (wL zJ)),(1,Rb 5 1 (Mb zU))] ?_;refine wD (fun n st=>∃ (wE:Int),∃ (z4:List Int),st=mk [(1,Pp 0),(3,.own 1 z4.length),(38,Sq 2 yA zJ.Domains),(39,Ii (lN zJ.Domains)),(40,Ii wE)] [(0,Vb 28 (wL zJ)),(1,Rb 5 1 (Mb z4))] 2/\CY F zJ n wE z4=some zR) F zk ⟨_,_,rfl,h⟩ ?_ ?_
  ·rintro _ ⟨_,_,_,h⟩;exact wC (h:(none:Option (List Int))=some zR)
  rintro uA _ ⟨wE,z4,rfl,h⟩;replace h:JY F zJ (CY F zJ uA) wE z4=some zR:=h;unfold JY at h;refine s0 [] [(41,.bool (decide (wE<(lN zJ.Domains))))] (sq (ch 41 h ?_ ?_))
  rotate_left
  ·intro yV h;refine wB (id:=2) zk ?_;cases h;exact ⟨rfl,(sI 2 [1,3])⟩
  intro yV h;refine sk (sq ?_);refine yQ (id:=3) zk ?_;refine sq (bE h fun yO v7 h=>r2 [iH 2 { id:=2 },iF 0 yA v7] [] [(7,Pp 2)] [] [(2,Vb 87 (C5 yO))] 3 (bE h fun yF uB h=>bE h fun yY uX h=>r2 [iM Fb z4,iK 3 { frz:=[1],ids:=[3] } (kX F z4 yO.Id yF uB),iM Fb yF,iK 6 { frz:=[3],ids:=[4] } (kX F yF yO.Ppm yY uX)] [7] [(3,.own 4 yY.length)] [1,2] [(4,Rb 5 1 (Mb yY))] 5 (r0 [] [(40,Ii (zI (wE+1)))] ?_)));exact ⟨_,(sJ [0,4] [1,3,38,39,40]),_,_,rfl,h⟩
 refine sq (bE h fun yH u5 h=>r2 [iN 3 z9 zJ.Snaps,iM Fb zR,iK 4 { frz:=[1],ids:=[2] } (kX F zR (lN zJ.Snaps) yH u5)] [] [(3,.own 2 yH.length)] [1] [(2,Rb 5 1 (Mb yH))] 3 (sq (s2 [iN 2 z9 zJ.Snaps] [1] [(58,Sq 5 z9 zJ.Snaps),(59,Ii (lN zJ.Snaps)),(60,Ii 0)] [0] [] 3 (bE h fun yK uP h=>?_))));refine xP (mk [(3,Sb yK)] [] 0) ?_ ?_
 ·replace h:=uP;refine yQ (id:=4) zk ?_;refine wz [] [2] [3] [] [(3,Sb yH),(58,Sq 5 z9 zJ.Snaps),(59,Ii (lN zJ.Snaps)),(60,Ii 0)] [] (ac (by first | (simp;done) | (simp;omega):yH.length=((List.map (AV.int .u8) yH)).length) (ar 1 (ar ((Mb yH):List AV) (ar true an)))) (w0 [] [] [(3,Sb yH),(58,Sq 5 z9 zJ.Snaps),(59,Ii (lN zJ.Snaps)),(60,Ii 0)] [] ?_);refine wD (fun n st=>∃ (zF:List Int),∃ (vU:Int),st=mk [(3,Sb zF),(58,Sq 5 z9 zJ.Snaps),(59,Ii (lN zJ.Snaps)),(60,Ii vU)] [] 0/\DQ F zJ n zF vU=some yK) F zk ⟨_,_,rfl,h⟩ ?_ ?_
  ·rintro _ ⟨_,_,_,h⟩;exact wC (h:(none:Option (List Int))=some yK)
  rintro t5 _ ⟨zF,vU,rfl,h⟩;replace h:JL F zJ (DQ F zJ t5) zF vU=some yK:=h;unfold JL at h;refine s0 [] [(61,.bool (decide (vU<(lN zJ.Snaps))))] (sq (ch 61 h ?_ ?_))
  rotate_left
  ·intro xG h;refine wB (id:=4) zk ?_;cases h;exact ⟨rfl,(sI 0 [3])⟩
  intro xG h;refine sk (sq ?_);refine yQ (id:=5) zk ?_;refine sq (bE h fun xE t7 h=>r2 [iH 2 { id:=0 },iF 0 z9 t7] [] [(9,Pp 0)] [] [(0,Vb 76 (pL xE))] 1 (bE h fun yR t6 h=>r2 [iK 2 {} (QF F zF xE yR t6)] [9] [(3,Sb yR)] [0] [] 1 (r0 [] [(60,Ii (zI (vU+1)))] ?_)));exact ⟨_,(sI 0 [3,58,59,60]),_,_,rfl,h⟩
 refine s1 [] [3] [(2,Sb yK)] ?_;cases h;exact rt rx
theorem zFY (F:Nat) (zF:List Int) (r:Int) (h:ET F zF=some r):yS prog 103 [] [] [Sb zF] [] (Ii r):=by
 refine tI Tryz.f103 ?_;unfold ET at h;refine sE [] [(0,Sb zF)] [] 0 (s0 [] [(3,.int .u32 4294967295)] (sq (s1 [iN 1 Fb zF] [0] [(7,Sb zF),(8,Ii (lN zF)),(9,Ii 0)] (bE h fun zE zJ h=>?_))));refine xP (mk [(3,.int .u32 zE)] [] 0) ?_ ?_
 ·replace h:=zJ;refine yQ (id:=0) zk ?_;refine w0 [] [] [(3,.int .u32 4294967295),(7,Sb zF),(8,Ii (lN zF)),(9,Ii 0)] [] ?_;refine wD (fun n st=>∃ (zH:Int),∃ (zP:Int),st=mk [(3,.int .u32 zH),(7,Sb zF),(8,Ii (lN zF)),(9,Ii zP)] [] 0/\mG F zF n zH zP=some zE) F zk ⟨_,_,rfl,h⟩ ?_ ?_
  ·rintro _ ⟨_,_,_,h⟩;exact wC (h:(none:Option Int)=some zE)
  rintro z5 _ ⟨zH,zP,rfl,h⟩;replace h:D9 F zF (mG F zF z5) zH zP=some zE:=h;unfold D9 at h;refine s0 [] [(10,.bool (decide (zP<(lN zF))))] (sq (ch 10 h ?_ ?_))
  rotate_left
  ·intro z8 h;refine wB (id:=0) zk ?_;cases h;exact ⟨rfl,(sI 0 [3])⟩
  intro z8 h;refine sk (sq ?_);refine yQ (id:=1) zk ?_;refine sq (bE h fun yO zW h=>r0 [iF 0 Fb zW] [(5,Iu yO)] (s0 [] [(3,.int .u32 (tW .u32 zH (iB yO)))] (s0 [] [(17,Ii 0)] (bE h fun zR yU h=>?_))));refine xP (mk [(3,.int .u32 zR),(7,Sb zF),(8,Ii (lN zF)),(9,Ii zP)] [] 0) ?_ ?_
  ·replace h:=yU;refine yQ (id:=2) zk ?_;refine w0 [] [] [(3,.int .u32 (tW .u32 zH (iB yO))),(7,Sb zF),(8,Ii (lN zF)),(9,Ii zP),(17,Ii 0)] [] ?_;refine wD (fun n st=>∃ (xE:Int),∃ (wE:Int),st=mk [(3,.int .u32 xE),(7,Sb zF),(8,Ii (lN zF)),(9,Ii zP),(17,Ii wE)] [] 0/\gM F n xE wE=some zR) F zk ⟨_,_,rfl,h⟩ ?_ ?_
   ·rintro _ ⟨_,_,_,h⟩;exact wC (h:(none:Option Int)=some zR)
   rintro uA _ ⟨xE,wE,rfl,h⟩;replace h:o6 F (gM F uA) xE wE=some zR:=h;unfold o6 at h;refine s0 [] [(18,.bool (decide (wE<8)))] (sq (ch 18 h ?_ ?_))
   rotate_left
   ·intro yV h;refine wB (id:=2) zk ?_;cases h;exact ⟨rfl,(sI 0 [3,7,8,9])⟩
   intro yV h;refine sk (sq ?_);refine yQ (id:=3) zk ?_;refine s0 [] [(6,.int .u32 (tT .u32 xE 1))] (s0 [iC (by decide:(0:Int)<=(1:Int))] [(3,.int .u32 (jV .u32 xE 1))] (c0 [] 24 h [] ?_ ?_))
   ·intro xG h;refine r0 [] [(3,.int .u32 (tW .u32 (jV .u32 xE 1) 3988292384))] (r0 [] [(17,Ii (zI (wE+1)))] ?_);exact ⟨_,(sI 0 [3,7,8,9,17]),_,_,rfl,h⟩
   intro xG h;refine sk (r0 [] [(17,Ii (zI (wE+1)))] ?_);exact ⟨_,(sI 0 [3,7,8,9,17]),_,_,rfl,h⟩
  refine r0 [] [(9,Ii (zI (zP+1)))] ?_;exact ⟨_,(sI 0 [3,7,8,9]),_,_,rfl,h⟩
 refine s0 [] [(2,Ii (zI (tW .u32 4294967295 zE)))] ?_;cases h;exact rt rx
theorem YX (F:Nat) (t4:Int) (zF:List Int) (r:Int) (h:CJ F t4 zF=some r):yS prog 64 [] [] [Iu t4,Sb zF] [] (Ii r):=by
 refine tI Tryz.f64 ?_;unfold CJ at h;refine sE [] [(0,Iu t4),(1,Sb zF)] [] 0 (sq (nE h fun zJ h=>bE h fun zA zW h=>r2 [iH 1 { id:=0 },iA 1,iC trivial,iP 3 1 Fb [t4] zF 1 zJ,iM Fb ([t4]++zF),iK 4 { frz:=[1] } (zFY F ([t4]++zF) zA zW)] [1] [(4,Ii zA)] [] [] 2 ?_));cases h;exact rt rx
theorem EC (F:Nat) (t4:Int) (zF:List Int) (r:(List Int)) (h:fA F t4 zF=some r):yS prog 22 [] [] [Iu t4,Sb zF] [.row 5 1 (Mb r)] (.own 0 r.length):=by
 refine tI Tryz.f22 ?_;unfold fA at h;refine sE [iH 0 { id:=0,m:=1 }] [(0,Iu t4),(1,Sb zF)] [] 1 (sq (bE h fun zA zJ h=>r2 [iH 1 { id:=1 },iN 3 Fb zF,iA 1,iK 4 { frz:=[1],ids:=[2] } (kX F [t4] (lN zF) zA zJ)] [] [(5,.own 2 zA.length)] [] [(2,Rb 5 1 (Mb zA))] 3 (sq (bE h fun zC zW h=>bE h fun zM yU h=>nE h fun xB h=>r2 [iK 3 {} (YX F t4 zF zC zW),iM Fb zA,iK 4 { frz:=[2],ids:=[3] } (kX F zA zC zM yU),iM Fb zM,iC trivial,iP 6 4 Fb zM zF 1 xB] [1,5] [(4,.own 4 (((zM++zF)).length))] [2] [(4,Rb 5 1 (Mb (zM++zF)))] 5 (w0 [4] [] [(4,.own 0 (((zM++zF)).length))] [(0,Rb 5 1 (Mb (zM++zF)))] ?_)))));cases h;exact rt rx
theorem S1 (zL:List Int) (r:(List Int)) (h:GB zL=some r):yS prog 68 [] [] [Sb zL] [.row 5 1 (Mb r)] (.own 0 r.length):=by
 refine tI Tryz.f68 ?_;unfold GB at h;refine sE [iH 0 { id:=0,m:=1 }] [(0,Sb zL)] [] 1 (sq (s0 [] [(4,.nb (Mb zL))] ?_));refine GS (t:=4) (l:=(Mb zL)) zk zk ?_ ?_
 ·intro zW;replace zW:=List.map_eq_nil_iff.1 zW;replace h:=Eq.trans (show (some [])=((need (((([]:List Int)).length+zL.length) * 1<=140737488355328)).bind fun _ =>
 some ([]++zL)) from by simp [zW,need]) h
  refine sE [iH 0 { id:=1,m:=1 }] [(2,.own 1 0)] [(1,Rb 5 1 [])] 2 (wz [1] [] [2] [] [(2,.own 0 ((([]:List Int)).length))] [(0,Rb 5 1 [])] (ac (congrArg (AV.own _) (by first | (simp;done) | (simp;omega)):(.own 1 0:AV)=.own 1 ((([]:List Int)).length)) an) ?_);cases h;exact rt rx
 refine sk (sq (nE h fun zJ h=>rE [iH 0 { id:=1 },iH 2 { id:=2,l:=(Mb ([]++zL)),n:=(([]++zL)).length },iA 0,iC trivial,iC (by simp:(List.map (AV.int .u8) ([]++zL))=[]++(List.map (AV.int .u8) zL)),iC (by simp:(([]++zL)).length=((List.map (AV.int .u8) ([]++zL))).length),iC (by first | (simp;done) | simpa using zJ:(([]:List AV).length+((List.map (AV.int .u8) zL):List AV).length) * 1<=140737488355328)] [(2,.own 2 ((([]++zL)).length))] [(2,Rb 5 1 (Mb ([]++zL)))] 3 (w0 [2] [] [(2,.own 0 ((([]++zL)).length))] [(0,Rb 5 1 (Mb ([]++zL)))] ?_)));cases h;exact rt rx
theorem M0 (zG:yD) (r:yD×Int) (h:dC zG=some r):yS prog 67 [] [] [xV zG] [] (.tuple [xV r.1,Ii r.2]):=by
 refine tI Tryz.f67 ?_;unfold dC at h;refine sE [iH 0 { id:=0 },iH 1 { id:=1 }] [(1,Pp 0),(2,Pp 1)] [(0,Vb 36 (yM zG)),(1,uL)] 2 (sq (sq (bE h fun zA zJ h=>r0 [iK 1 {} (BO zG zA zJ)] [(4,Ii zA)] (c0 [] 8 h [] ?_ ?_))))
 ·intro z8 h;refine s2 [] [1] [(3,Ii zA)] [0] [] 2 (wz [1] [] [] [0] [(2,Pp 0),(3,Ii zA)] [(0,Vb 36 (yM zL0))] (ar 36 (ar true (ar (Ii 0) (ar ([]:List AV) (ar (Ii 0) (ar (Ii 0) (ar (.bool false:AV) an))))))) ?_);cases h;exact rt rx
 intro z8 h;refine sk (sq (c0 [] 12 h [] ?_ ?_))
 ·intro yV h;refine s2 [] [1] [(3,Ii 19)] [0] [(1,Vb 36 (yM zG))] 2 (w0 [1] [] [(2,Pp 0),(3,Ii 19)] [(0,Vb 36 (yM zG))] ?_);cases h;exact rt rx
 intro yV h;refine sk (sq (bE h fun zC zW h=>r2 [iK 2 { ids:=[2] } (S1 zG.Data zC zW)] [] [] [] [(0,Vb 36 [Ii zG.Size,.own 2 zC.length,Ii zG.Durable,Ii zG.Left,.bool zG.Down]),(2,Rb 5 1 (Mb zC))] 3 (s2 [] [1] [(3,Ii 0)] [0] [(1,Vb 36 [Ii zG.Size,.own 2 zC.length,Ii zG.Durable,Ii zG.Left,.bool zG.Down])] 3 (wz [1] [2] [] [0] [(2,Pp 0),(3,Ii 0)] [(0,Vb 36 (yM (⟨zG.Size,zC,zG.Durable,zG.Left,zG.Down⟩:yD)))] (ar 36 (ar true (ac (by first | (simp;done) | (simp;omega):zC.length=((List.map (AV.int .u8) zC)).length) (ar (Ii zG.Size) (ar 1 (ar (Mb zC) (ar true (ar (Ii zG.Durable) (ar (Ii zG.Left) (ar (.bool zG.Down:AV) an)))))))))) ?_))));cases h;exact rt rx
theorem zCM (zG:yD) (r:yD×Int) (h:dC zG=some r) (he:(r.2 != 0)=false):yS prog 67 [] [] [xV zG] [.row 5 1 (Mb r.1.Data)] (.tuple [.agg [Ii r.1.Size,.own 0 r.1.Data.length,Ii r.1.Durable,Ii r.1.Left,.bool r.1.Down],Ii r.2]):=by
 refine tI Tryz.f67 ?_;unfold dC at h;refine sE [iH 0 { id:=0 },iH 1 { id:=1 }] [(1,Pp 0),(2,Pp 1)] [(0,Vb 36 (yM zG)),(1,uL)] 2 (sq (sq (bE h fun zA zJ h=>r0 [iK 1 {} (BO zG zA zJ)] [(4,Ii zA)] (c0 [] 8 h [] ?_ ?_))))
 ·intro z8 h;refine s2 [] [1] [(3,Ii zA)] [0] [] 2 ?_;cases h;exact Bool.noConfusion (z8.symm.trans he)
 intro z8 h;refine sk (sq (c0 [] 12 h [] ?_ ?_))
 ·intro yV h;refine s2 [] [1] [(3,Ii 19)] [0] [(1,Vb 36 (yM zG))] 2 ?_;cases h;exact absurd he (by simp)
 intro yV h;refine sk (sq (bE h fun zC zW h=>r2 [iK 2 { ids:=[2] } (S1 zG.Data zC zW)] [] [] [] [(0,Vb 36 [Ii zG.Size,.own 2 zC.length,Ii zG.Durable,Ii zG.Left,.bool zG.Down]),(2,Rb 5 1 (Mb zC))] 3 (s2 [] [1] [(3,Ii 0)] [0] [(1,Vb 36 [Ii zG.Size,.own 2 zC.length,Ii zG.Durable,Ii zG.Left,.bool zG.Down])] 3 (wz [2,1] [] [] [0,1] [(2,Pp 1),(3,Ii 0)] [(0,Rb 5 1 (Mb ((⟨zG.Size,zC,zG.Durable,zG.Left,zG.Down⟩:yD).Data))),(1,Vb 36 [Ii ((⟨zG.Size,zC,zG.Durable,zG.Left,zG.Down⟩:yD).Size),.own 0 (((⟨zG.Size,zC,zG.Durable,zG.Left,zG.Down⟩:yD).Data).length),Ii ((⟨zG.Size,zC,zG.Durable,zG.Left,zG.Down⟩:yD).Durable),Ii ((⟨zG.Size,zC,zG.Durable,zG.Left,zG.Down⟩:yD).Left),.bool ((⟨zG.Size,zC,zG.Durable,zG.Left,zG.Down⟩:yD).Down)])] (ar 5 (ar 1 (ar (Mb zC) (ar 36 (ar true (ar (Ii zG.Size) (ac (congrArg (AV.own _) (by first | (simp;done) | (simp;omega)):(.own 2 zC.length:AV)=.own 2 (((⟨zG.Size,zC,zG.Durable,zG.Left,zG.Down⟩:yD).Data).length)) (ar (Ii zG.Durable) (ar (Ii zG.Left) (ar (.bool zG.Down:AV) an)))))))))) ?_))));cases h;exact rt rx
theorem zBl (zG:yD) (zF:List Int) (r:yD×Int) (h:EP zG zF=some r):yS prog 82 [] [] [xV zG,Sb zF] [] (.tuple [xV r.1,Ii r.2]):=by
 refine tI Tryz.f82 ?_;unfold EP at h;refine sE [iH 0 { id:=0 },iH 1 { id:=1 }] [(1,Sb zF),(2,Pp 0),(4,Pp 1)] [(0,Vb 36 (yM zG)),(1,uL)] 2 ?_;refine qB (jH 1 1 2 5 1 zk) ?_;refine w0 [0,1,2] [] [(1,Sb zF),(2,Pp 0),(4,Pp 1)] [(0,Vb 36 (yM zG)),(1,Vb 36 [Ii 0,.own 2 0,Ii 0,Ii 0,.bool false]),(2,Rb 5 1 [])] (sq (bE h fun zA zJ h=>?_));rcases bft (zA.2 != 0) with gf_1 | gf_1
 ·replace h:=xN gf_1 h;refine r2 [iK 1 {} (M0 zG zA zJ)] [] [(6,Ii zA.2)] [] [(0,Vb 36 (yM zA.1))] 3 (sq (s0 [] [(13,.bool (zA.2 != 0))] (cd 13 (zA.2 != 0) ?_ ?_)))
  rotate_left
  ·intro hg;exact Bool.noConfusion (gf_1.symm.trans hg)
  intro _;refine s2 [] [1,2] [(5,Ii zA.2)] [0,2] [(1,Vb 36 (yM zA.1))] 3 (w0 [1] [] [(4,Pp 0),(5,Ii zA.2)] [(0,Vb 36 (yM zA.1))] ?_);cases h;exact rt rx
 replace h:=xO gf_1 h;refine r2 [iK 1 { ids:=[3] } (zCM zG zA zJ gf_1)] [] [(6,Ii zA.2)] [] [(0,Vb 36 [Ii zA.1.Size,.own 3 zA.1.Data.length,Ii zA.1.Durable,Ii zA.1.Left,.bool zA.1.Down]),(3,Rb 5 1 (Mb zA.1.Data))] 4 (sq (s0 [] [(13,.bool (zA.2 != 0))] (cd 13 (zA.2 != 0) ?_ ?_)))
 ·intro hg;exact Bool.noConfusion (gf_1.symm.trans hg)
 intro _;refine sk (sq (c0 [iN 4 Fb zF] 24 h [] ?_ ?_))
 ·intro z8 h;refine s2 [] [1,2] [(5,Ii 6)] [0,2,3] [(1,uL)] 4 ?_;refine qB (jH 1 1 4 5 1 zk) ?_;refine w0 [1,4] [] [(4,Pp 0),(5,Ii 6)] [(0,Vb 36 [Ii 0,.own 1 0,Ii 0,Ii 0,.bool false]),(1,Rb 5 1 [])] (wz [0] [1] [] [0] [(4,Pp 0),(5,Ii 6)] [(0,Vb 36 (yM zL0))] (ar 36 (ar true (ac (by first | (simp;done) | (simp;omega):0=(([]:List AV)).length) (ar (Ii 0) (ar 1 (ar ([]:List AV) (ar true (ar (Ii 0) (ar (Ii 0) (ar (.bool false:AV) an)))))))))) ?_);cases h;exact rt rx
 intro z8 h;refine sk (sq (sq ?_));refine xP (mk [(1,Sb zF),(2,Pp 0),(4,Pp 2),(35,.bool (decide (zA.1.Left>=0)&&decide (zA.1.Left<(lN zF))))] [(0,Vb 36 [Ii zA.1.Size,.own 1 zA.1.Data.length,Ii zA.1.Durable,Ii zA.1.Left,.bool zA.1.Down]),(1,Rb 5 1 (Mb zA.1.Data)),(2,Vb 36 [Ii 0,.own 3 0,Ii 0,Ii 0,.bool false]),(3,Rb 5 1 [])] 4) ?_ ?_
 ·rcases bft (decide (zA.1.Left>=0)) with zS | zS
  ·refine r0 [iH 9 Ht,iR 4 zS,iN 7 Fb zF,iR 2 zS] [(35,.bool (decide (zA.1.Left<(lN zF))))] ?_;exact ⟨rfl,(sw [0,3,1,2] [] [.s 1,.s 2,.s 4,.a 35 (.bool (decide (zA.1.Left>=0)&&decide (zA.1.Left<(lN zF))))] [.s 0,.s 1,.s 2,.s 3] (ac (congrArg AV.bool (w9 zS rfl):(.bool (decide (zA.1.Left<(lN zF))):AV)=.bool (decide (zA.1.Left>=0)&&decide (zA.1.Left<(lN zF)))) an))⟩
  ·refine r0 [iG 4 5,iH 9 Hf,iR 6 zS] [(35,.bool false)] ?_;exact ⟨rfl,(sw [0,3,1,2] [] [.s 1,.s 2,.s 4,.a 35 (.bool (decide (zA.1.Left>=0)&&decide (zA.1.Left<(lN zF))))] [.s 0,.s 1,.s 2,.s 3] (ac (congrArg AV.bool (uN zS):(.bool false:AV)=.bool (decide (zA.1.Left>=0)&&decide (zA.1.Left<(lN zF)))) an))⟩
 refine ch 35 h ?_ ?_
 ·intro yV h;refine sq (nE h fun zW h=>nE h fun yU h=>r2 [iS 5 Fb zF 0 zA.1.Left (by decide) zW.1 zW.2,iM Fb zA.1.Data,iC trivial,iP 6 4 Fb zA.1.Data (sub zF 0 zA.1.Left) 1 yU] [1] [] [1] [(0,Vb 36 [Ii zA.1.Size,.own 4 (((zA.1.Data++(sub zF 0 zA.1.Left))).length),Ii zA.1.Durable,Ii zA.1.Left,.bool zA.1.Down]),(4,Rb 5 1 (Mb (zA.1.Data++(sub zF 0 zA.1.Left))))] 5 (s2 [] [] [] [] [(0,Vb 36 [Ii zA.1.Size,.own 4 (((zA.1.Data++(sub zF 0 zA.1.Left))).length),Ii zA.1.Durable,Ii 0,.bool true])] 5 (s2 [] [2] [(5,Ii 19)] [0,3] [(2,Vb 36 [Ii zA.1.Size,.own 4 (((zA.1.Data++(sub zF 0 zA.1.Left))).length),Ii zA.1.Durable,Ii 0,.bool true])] 5 (wz [2] [4] [] [0] [(4,Pp 0),(5,Ii 19)] [(0,Vb 36 (yM (⟨zA.1.Size,(zA.1.Data++(sub zF 0 zA.1.Left)),zA.1.Durable,0,true⟩:yD)))] (ar 36 (ar true (ac (by first | (simp;done) | (simp;omega):((zA.1.Data++(sub zF 0 zA.1.Left))).length=((List.map (AV.int .u8) (zA.1.Data++(sub zF 0 zA.1.Left)))).length) (ar (Ii zA.1.Size) (ar 1 (ar (Mb (zA.1.Data++(sub zF 0 zA.1.Left))) (ar true (ar (Ii zA.1.Durable) (ar (Ii 0) (ar (.bool true:AV) an)))))))))) ?_))));cases h;exact rt rx
 intro yV h;refine sk (sq (nE h fun xB h=>r2 [iM Fb zA.1.Data,iC trivial,iP 3 4 Fb zA.1.Data zF 1 xB] [] [] [1] [(0,Vb 36 [Ii zA.1.Size,.own 4 (((zA.1.Data++zF)).length),Ii zA.1.Durable,Ii zA.1.Left,.bool zA.1.Down]),(4,Rb 5 1 (Mb (zA.1.Data++zF)))] 5 (sq (c0 [] 54 h [] ?_ ?_))))
 ·intro xG h;refine r2 [iN 3 Fb zF] [1] [] [] [(0,Vb 36 [Ii zA.1.Size,.own 4 (((zA.1.Data++zF)).length),Ii zA.1.Durable,Ii (zI (zA.1.Left - (lN zF))),.bool zA.1.Down])] 5 (s2 [] [2] [(5,Ii 0)] [0,3] [(2,Vb 36 [Ii zA.1.Size,.own 4 (((zA.1.Data++zF)).length),Ii zA.1.Durable,Ii (zI (zA.1.Left - (lN zF))),.bool zA.1.Down])] 5 (wz [2] [4] [] [0] [(4,Pp 0),(5,Ii 0)] [(0,Vb 36 (yM (⟨zA.1.Size,(zA.1.Data++zF),zA.1.Durable,zI (zA.1.Left - (lN zF)),zA.1.Down⟩:yD)))] (ar 36 (ar true (ac (by first | (simp;done) | (simp;omega):((zA.1.Data++zF)).length=((List.map (AV.int .u8) (zA.1.Data++zF))).length) (ar (Ii zA.1.Size) (ar 1 (ar (Mb (zA.1.Data++zF)) (ar true (ar (Ii zA.1.Durable) (ar (Ii (zI (zA.1.Left - (lN zF)))) (ar (.bool zA.1.Down:AV) an)))))))))) ?_));cases h;exact rt rx
 intro xG h;refine sk (s2 [] [1,2] [(5,Ii 0)] [0,3] [(2,Vb 36 [Ii zA.1.Size,.own 4 (((zA.1.Data++zF)).length),Ii zA.1.Durable,Ii zA.1.Left,.bool zA.1.Down])] 5 (wz [2] [4] [] [0] [(4,Pp 0),(5,Ii 0)] [(0,Vb 36 (yM (⟨zA.1.Size,(zA.1.Data++zF),zA.1.Durable,zA.1.Left,zA.1.Down⟩:yD)))] (ar 36 (ar true (ac (by first | (simp;done) | (simp;omega):((zA.1.Data++zF)).length=((List.map (AV.int .u8) (zA.1.Data++zF))).length) (ar (Ii zA.1.Size) (ar 1 (ar (Mb (zA.1.Data++zF)) (ar true (ar (Ii zA.1.Durable) (ar (Ii zA.1.Left) (ar (.bool zA.1.Down:AV) an)))))))))) ?_));cases h;exact rt rx
theorem Y4 (zG:yD) (r:yD×Int) (h:CS zG=some r):yS prog 55 [] [] [xV zG] [] (.tuple [xV r.1,Ii r.2]):=by
 refine tI Tryz.f55 ?_;unfold CS at h;refine sE [iH 0 { id:=0 },iH 1 { id:=1 }] [(1,Pp 0),(2,Pp 1)] [(0,Vb 36 (yM zG)),(1,uL)] 2 (sq (bE h fun zA zJ h=>r2 [iK 1 {} (M0 zG zA zJ)] [] [(4,Ii zA.2)] [] [(0,Vb 36 (yM zA.1))] 2 (sq (c0 [] 11 h [] ?_ ?_))))
 ·intro z8 h;refine s2 [] [1] [(3,Ii zA.2)] [0] [(1,Vb 36 (yM zA.1))] 2 (w0 [1] [] [(2,Pp 0),(3,Ii zA.2)] [(0,Vb 36 (yM zA.1))] ?_);cases h;exact rt rx
 intro z8 h;refine sk (sq (c0 [] 16 h [] ?_ ?_))
 ·intro yV h;refine s2 [] [] [] [] [(0,Vb 36 [Ii zA.1.Size,Sb zA.1.Data,Ii zA.1.Durable,Ii zA.1.Left,.bool true])] 2 (s2 [] [1] [(3,Ii 19)] [0] [(1,Vb 36 [Ii zA.1.Size,Sb zA.1.Data,Ii zA.1.Durable,Ii zA.1.Left,.bool true])] 2 (w0 [1] [] [(2,Pp 0),(3,Ii 19)] [(0,Vb 36 (yM (⟨zA.1.Size,zA.1.Data,zA.1.Durable,zA.1.Left,true⟩:yD)))] ?_));cases h;exact rt rx
 intro yV h;refine sk (s2 [iN 2 Fb zA.1.Data] [] [] [] [(0,Vb 36 [Ii zA.1.Size,Sb zA.1.Data,Ii (lN zA.1.Data),Ii zA.1.Left,.bool zA.1.Down])] 2 (s2 [] [1] [(3,Ii 0)] [0] [(1,Vb 36 [Ii zA.1.Size,Sb zA.1.Data,Ii (lN zA.1.Data),Ii zA.1.Left,.bool zA.1.Down])] 2 (w0 [1] [] [(2,Pp 0),(3,Ii 0)] [(0,Vb 36 (yM (⟨zA.1.Size,zA.1.Data,(lN zA.1.Data),zA.1.Left,zA.1.Down⟩:yD)))] ?_)));cases h;exact rt rx
theorem V7 (F:Nat) (zG:yD) (kD:List (List Int)) (r:yD×Int) (h:DH F zG kD=some r):yS prog 40 [] [] [xV zG,.sl false 1 (List.map zMb kD)] [] (.tuple [xV r.1,Ii r.2]):=by
 refine tI Tryz.f40 ?_;unfold DH at h;refine sE [iH 0 { id:=0 },iH 1 { id:=1 }] [(1,.sl false 1 (List.map zMb kD)),(2,Pp 0),(4,Pp 1)] [(0,Vb 36 (yM zG)),(1,uL)] 2 (sq (s1 [iN 1 zMb kD] [1] [(10,.sl false 1 (List.map zMb kD)),(11,Ii (lN kD)),(12,Ii 0)] (bE h fun zE zJ h=>?_)));refine vL (K1:=kS prog zE 0 (fun q0=>mk [(2,Pp 0),(4,Pp 1)] [(0,Vb 36 [Ii q0.1,Sb q0.2.1,Ii q0.2.2.1,Ii q0.2.2.2.1,.bool q0.2.2.2.2]),(1,uL)] 2) Tryz.f40 (fun q1=>[]) fun q1=>.tuple [xV q1.1,Ii q1.2]) ?_ ?_
 ·replace h:=zJ;refine yQ (id:=0) zk ?_;refine w0 [0,1] [] [(2,Pp 0),(4,Pp 1),(10,.sl false 1 (List.map zMb kD)),(11,Ii (lN kD)),(12,Ii 0)] [(0,Vb 36 (yM zG)),(1,uL)] ?_;refine wD (fun n st=>∃ (zP:Int),∃ (zB:Int),∃ (y5:List Int),∃ (y6:Int),∃ (yW:Int),∃ (xC:Bool),st=mk [(2,Pp 0),(4,Pp 1),(10,.sl false 1 (List.map zMb kD)),(11,Ii (lN kD)),(12,Ii zP)] [(0,Vb 36 [Ii zB,.sl false 1 (Mb y5),Ii y6,Ii yW,.bool xC]),(1,uL)] 2/\KL F kD n zP zB y5 y6 yW xC=some zE) F zk ⟨_,_,_,_,_,_,rfl,h⟩ ?_ ?_
  ·rintro _ ⟨_,_,_,_,_,_,_,h⟩;exact wC (h:(none:Option ((Int×(List Int)×Int×Int×Bool)⊕(yD×Int)))=some zE)
  rintro z5 _ ⟨zP,zB,y5,y6,yW,xC,rfl,h⟩;replace h:G9 F kD (KL F kD z5) zP zB y5 y6 yW xC=some zE:=h;unfold G9 at h;refine s0 [] [(13,.bool (decide (zP<(lN kD))))] (sq (ch 13 h ?_ ?_))
  rotate_left
  ·intro z8 h;refine wB (id:=0) zk ?_;cases h;exact ⟨rfl,(sI 2 [2,4])⟩
  intro z8 h;refine sk (sq ?_);refine yQ (id:=1) zk ?_;refine sq (bE h fun zH zW h=>r0 [iF 0 zMb zW] [(7,.sl false 1 (Mb zH))] (sq (bE h fun zA yU h=>r2 [iH 6 { id:=2 },iL 2 {} [.agg [Ii zB,.sl false 1 (Mb y5),Ii y6,Ii yW,.bool xC],.sl false 1 (Mb zH)] (zBl (⟨zB,y5,y6,yW,xC⟩:yD) zH zA yU) ⟨rfl,rfl,rfl,rfl,rfl,rfl,rfl,rfl,rfl,rfl,trivial⟩] [7] [(8,Pp 2),(9,Ii zA.2)] [] [(2,Vb 36 (yM zA.1))] 3 (sq (c0 [] 23 h [] ?_ ?_)))))
  rotate_left
  ·intro yV h;refine sk (r2 [] [8] [] [2] [(0,Vb 36 (yM zA.1))] 3 (r0 [] [(12,Ii (zI (zP+1)))] ?_));exact ⟨_,(sI 2 [2,4,10,11,12]),_,_,_,_,_,_,rfl,h⟩
  intro yV h;refine s2 [] [2,10,8] [(5,Ii zA.2)] [0,2] [(1,Vb 36 (yM zA.1))] 3 (w0 [1] [] [(4,Pp 0),(5,Ii zA.2)] [(0,Vb 36 (yM zA.1))] ?_);cases h;exact rt ry
 intro e st1 hk;rcases zE with zX | xJ
 rotate_left
 ·obtain ⟨rfl,hf⟩:=hk;cases h;exact ⟨st1,Sub.refl _ _,.inr rfl,hf⟩
 obtain ⟨rfl,hs⟩:=hk;refine ⟨_,hs,?_⟩;refine sq (bE h fun zC xB h=>r2 [iL 1 {} [.agg [Ii zX.1,Sb zX.2.1,Ii zX.2.2.1,Ii zX.2.2.2.1,.bool zX.2.2.2.2]] (Y4 (⟨zX.1,zX.2.1,zX.2.2.1,zX.2.2.2.1,zX.2.2.2.2⟩:yD) zC xB) ⟨rfl,rfl,rfl,rfl,rfl,rfl,rfl,trivial⟩] [2] [(5,Ii zC.2)] [0] [(1,Vb 36 (yM zC.1))] 2 (w0 [1] [] [(4,Pp 0),(5,Ii zC.2)] [(0,Vb 36 (yM zC.1))] ?_));cases h;exact rt rx
theorem XE (F:Nat) (zG:yD) (zJ:yB) (r:yD×Int) (h:BH F zG zJ=some r):yS prog 13 [] [] [xV zG,qO zJ] [] (.tuple [xV r.1,Ii r.2]):=by
 refine tI Tryz.f13 ?_;unfold BH at h;refine sE [iH 0 { id:=0 },iH 1 { id:=1 },iH 2 { id:=2 }] [(2,Pp 0),(3,Pp 1),(4,Pp 2)] [(0,Vb 36 (yM zG)),(1,Vb 28 (wL zJ)),(2,uL)] 3 (sq (sq (bE h fun zA zW h=>r0 [iK 1 {} (BO zG zA zW)] [(6,Ii zA)] (c0 [] 11 h [] ?_ ?_))))
 ·intro z8 h;refine s2 [] [2,3] [(5,Ii zA)] [0,1] [] 3 (wz [2] [] [] [0] [(4,Pp 0),(5,Ii zA)] [(0,Vb 36 (yM zL0))] (ar 36 (ar true (ar (Ii 0) (ar ([]:List AV) (ar (Ii 0) (ar (Ii 0) (ar (.bool false:AV) an))))))) ?_);cases h;exact rt rx
 intro z8 h;refine sk (sq (c0 [iN 2 Fb zG.Data] 17 h [] ?_ ?_))
 ·intro yV h;refine s2 [] [2,3] [(5,Ii 18)] [0,1] [] 3 (wz [2] [] [] [0] [(4,Pp 0),(5,Ii 18)] [(0,Vb 36 (yM zL0))] (ar 36 (ar true (ar (Ii 0) (ar ([]:List AV) (ar (Ii 0) (ar (Ii 0) (ar (.bool false:AV) an))))))) ?_);cases h;exact rt rx
 intro yV h;refine sk (sq (sq (bE h fun zC yU h=>r0 [iK 1 {} (Y6 F zJ zC yU)] [(7,Ii zC)] (c0 [] 22 h [] ?_ ?_))))
 ·intro xG h;refine s2 [] [2,3] [(5,Ii zC)] [0,1] [] 3 (wz [2] [] [] [0] [(4,Pp 0),(5,Ii zC)] [(0,Vb 36 (yM zL0))] (ar 36 (ar true (ar (Ii 0) (ar ([]:List AV) (ar (Ii 0) (ar (Ii 0) (ar (.bool false:AV) an))))))) ?_);cases h;exact rt rx
 intro xG h;refine sk (sq (bE h fun zM xB h=>bE h fun zT xR h=>bE h fun zU wA h=>r2 [iH 4 { frz:=[3],id:=4 },iK 2 {} (VF F zJ zM xB),iK 3 { ids:=[3] } (EC F 72 zM zT xR),iM Fb zT,iC (by first | (simp;done) | (simp;omega):1=((List.map zMb [zT])).length),iK 5 { frz:=[4] } (V7 F zG [zT] zU wA)] [2,3] [(5,Ii zU.2)] [0,1] [(2,Vb 36 (yM zU.1))] 5 (w0 [2] [] [(4,Pp 0),(5,Ii zU.2)] [(0,Vb 36 (yM zU.1))] ?_)));cases h;exact rt rx
theorem zFk (wH:Int) (r:Int) (h:KI wH=some r):yS prog 141 [] [] [.int .u64 wH] [] (Ii r):=by
 refine tI Tryz.f141 ?_;unfold KI at h;refine sE [] [(0,.int .u64 wH)] [] 0 (s0 [iC (by decide:(0:Int)<=(1:Int))] [(2,Ii (tW .i64 (zI (jV .u64 wH 1)) (zI (0 - (zI (tT .u64 wH 1))))))] ?_);cases h;exact rt rx
theorem A1 (F:Nat) (zF:List Int) (r:Int×Int×Int) (h:dB F zF=some r):yS prog 105 [] [] [Sb zF] [] (.tuple [Ii r.1,Ii r.2.1,Ii r.2.2]):=by
 refine tI Tryz.f105 ?_;unfold dB at h;refine sE [] [(0,Sb zF)] [] 0 (s0 [] [(5,.int .u64 0)] (sq (s1 [iN 1 Fb zF] [0] [(8,Sb zF),(9,Ii (lN zF)),(10,Ii 0)] (bE h fun zE zJ h=>?_))));refine vL (K1:=kS prog zE 0 (fun q0=>mk [] [] 0) Tryz.f105 (fun q1=>[]) fun q1=>.tuple [Ii q1.1,Ii q1.2.1,Ii q1.2.2]) ?_ ?_
 ·replace h:=zJ;refine yQ (id:=0) zk ?_;refine w0 [] [] [(5,.int .u64 0),(8,Sb zF),(9,Ii (lN zF)),(10,Ii 0)] [] ?_;refine wD (fun n st=>∃ (wH:Int),∃ (zP:Int),st=mk [(5,.int .u64 wH),(8,Sb zF),(9,Ii (lN zF)),(10,Ii zP)] [] 0/\lJ F zF n wH zP=some zE) F zk ⟨_,_,rfl,h⟩ ?_ ?_
  ·rintro _ ⟨_,_,_,h⟩;exact wC (h:(none:Option (Unit⊕(Int×Int×Int)))=some zE)
  rintro z5 _ ⟨wH,zP,rfl,h⟩;replace h:K3 F zF (lJ F zF z5) wH zP=some zE:=h;unfold K3 at h;refine s0 [] [(11,.bool (decide (zP<(lN zF))))] (sq (ch 11 h ?_ ?_))
  rotate_left
  ·intro z8 h;refine wB (id:=0) zk ?_;cases h;exact ⟨rfl,(sI 0 [])⟩
  intro z8 h;refine sk (sq ?_);refine yQ (id:=1) zk ?_;refine sq (bE h fun zH zW h=>r0 [iF 1 Fb zW] [(6,Ii zP),(7,Iu zH)] (sq (ad 20 h ?_ ?_ ?_)))
  ·rcases bft (zP==9) with wN | wN
   ·exact rm [iH 5 Ht,iR 3 wN] (w9 wN rfl)
   ·exact rm [iG 3 2,iH 5 Hf,iR 3 wN] (uN wN)
  ·intro yV h;refine s1 [] [8] [(2,Ii 0),(3,Ii 0),(4,Ii 10)] ?_;cases h;exact rt ry
  intro yV h;refine sk (sq (nE h fun yU h=>r0 [iC yU] [(5,.int .u64 (ior .u64 wH (nV .u64 (v6 (tT .u8 zH 127)) (zI (7 * zP)))))] (sq (c0 [] 30 h [] ?_ ?_))))
  ·intro xG h;refine wB (id:=1) zk ?_;refine rE [] [(5,.int .u64 (ior .u64 wH (nV .u64 (v6 (tT .u8 zH 127)) (zI (7 * zP))))),(8,Sb zF),(9,Ii (lN zF)),(10,Ii (zI (zP+1)))] [] 0 ?_;exact ⟨_,(sI 0 [5,8,9,10]),_,_,rfl,h⟩
  intro xG h;refine sk (sq (sq ?_));refine xP (mk [(5,.int .u64 (ior .u64 wH (nV .u64 (v6 (tT .u8 zH 127)) (zI (7 * zP))))),(6,Ii zP),(36,.bool ((zH==0)&&decide (zP>0)))] [] 0) ?_ ?_
  ·rcases bft (zH==0) with wK | wK
   ·refine r1 [iH 5 Ht,iR 3 wK] [8] [(36,.bool (decide (zP>0)))] ?_;exact ⟨rfl,(sw [] [] [.s 5,.s 6,.a 36 (.bool ((zH==0)&&decide (zP>0)))] [] (ac (congrArg AV.bool (w9 wK rfl):(.bool (decide (zP>0)):AV)=.bool ((zH==0)&&decide (zP>0))) an))⟩
   ·refine r1 [iG 3 2,iH 5 Hf,iR 3 wK] [8] [(36,.bool false)] ?_;exact ⟨rfl,(sw [] [] [.s 5,.s 6,.a 36 (.bool ((zH==0)&&decide (zP>0)))] [] (ac (congrArg AV.bool (uN wK):(.bool false:AV)=.bool ((zH==0)&&decide (zP>0))) an))⟩
  refine ch 36 h ?_ ?_
  ·intro wR h;refine s0 [] [(2,Ii 0),(3,Ii 0),(4,Ii 10)] ?_;cases h;exact rt ry
  intro wR h;refine sk (sq (bE h fun zA xB h=>r0 [iK 1 {} (zFk (ior .u64 wH (nV .u64 (v6 (tT .u8 zH 127)) (zI (7 * zP)))) zA xB)] [(2,Ii zA),(3,Ii (zI (zP+1))),(4,Ii 0)] ?_));cases h;exact rt ry
 intro e st1 hk;rcases zE with zX | xJ
 rotate_left
 ·obtain ⟨rfl,hf⟩:=hk;cases h;exact ⟨st1,Sub.refl _ _,.inr rfl,hf⟩
 obtain ⟨rfl,hs⟩:=hk;refine ⟨_,hs,?_⟩;refine s0 [] [(2,Ii 0),(3,Ii 0),(4,Ii 8)] ?_;cases h;exact rt rx
theorem ZX (F:Nat) (zF:List Int) (r:Int×(List Int)×Int) (h:DL F zF=some r):yS prog 69 [] [] [Sb zF] [] (.tuple [Iu r.1,Sb r.2.1,Ii r.2.2]):=by
 refine tI Tryz.f69 ?_;unfold DL at h;refine sE [] [(0,Sb zF)] [] 0 (sq (c0 [iN 1 Fb zF] 14 h [] ?_ ?_))
 ·intro z8 h;refine s1 [] [0] [(2,Iu 0),(3,.nilsl),(4,Ii 0)] (wz [] [] [3] [] [(2,Iu 0),(3,.sl false 1 []),(4,Ii 0)] [] (ar ([]:List AV) an) ?_);cases h;exact rt rx
 intro z8 h;refine sk (sq (nE h fun zJ h=>bE h fun zA zW h=>r0 [iT 1 Fb zF 1 (by decide) zJ,iK 2 {} (A1 F (sub zF 1 (lN zF)) zA zW)] [(5,Ii zA.1),(6,Ii zA.2.1),(7,Ii zA.2.2)] (sq (c0 [] 23 h [] ?_ ?_))))
 ·intro yV h;refine s1 [] [0] [(2,Iu 0),(3,.nilsl),(4,Ii 0)] (wz [] [] [3] [] [(2,Iu 0),(3,.sl false 1 []),(4,Ii 0)] [] (ar ([]:List AV) an) ?_);cases h;exact rt rx
 intro yV h;refine sk (sq (nE h fun yU h=>bE h fun zC xB h=>r0 [iT 3 Fb zF (zI (1+zA.2.1)) yU.1 yU.2,iK 4 {} (A1 F (sub zF (zI (1+zA.2.1)) (lN zF)) zC xB)] [(7,Ii zC.2.2),(8,Ii zC.1),(9,Ii zC.2.1)] (s0 [] [(10,Ii (zI ((zI (1+zA.2.1))+zC.2.1)))] (sq (ad 50 h ?_ ?_ ?_)))))
 ·rcases bft (zC.2.2 != 0) with yE | yE
  ·exact rm [iG 3 2,iH 5 Ht,iG 7 6,iH 13 Ht,iR 3 yE,iX 6,iA true] (ort yE)
  ·rcases bft (decide (zA.1<0)) with yC | yC
   ·exact rm [iH 5 Hf,iG 7 6,iH 13 Ht,iR 3 yE,iR 7 yC] (orf yE (ort yC))
   ·exact rm [iH 5 Hf,iH 13 Hf,iR 3 yE,iR 3 yC,iN 9 Fb zF,iR 4 yC] (orf yE (orf yC rfl))
 ·intro xG h;refine s1 [] [0] [(2,Iu 0),(3,.nilsl),(4,Ii 0)] (wz [] [] [3] [] [(2,Iu 0),(3,.sl false 1 []),(4,Ii 0)] [] (ar ([]:List AV) an) ?_);cases h;exact rt rx
 intro xG h;refine sk (sq (nE h fun xR h=>r0 [iS 5 Fb zF (zI ((zI (1+zA.2.1))+zC.2.1)) (zI ((zI ((zI (1+zA.2.1))+zC.2.1))+zA.1)) xR.1 xR.2.1 xR.2.2] [(11,Sb (sub zF (zI ((zI (1+zA.2.1))+zC.2.1)) (zI ((zI ((zI (1+zA.2.1))+zC.2.1))+zA.1))))] (sq (sq (bE h fun zH wA h=>bE h fun zM wS h=>r0 [iF 1 Fb wA,iK 4 {} (YX F zH (sub zF (zI ((zI (1+zA.2.1))+zC.2.1)) (zI ((zI ((zI (1+zA.2.1))+zC.2.1))+zA.1))) zM wS)] [(63,.bool (zM != zC.1))] (ch 63 h ?_ ?_))))))
 ·intro wR h;refine s1 [] [0,11] [(2,Iu 0),(3,.nilsl),(4,Ii 0)] (wz [] [] [3] [] [(2,Iu 0),(3,.sl false 1 []),(4,Ii 0)] [] (ar ([]:List AV) an) ?_);cases h;exact rt rx
 intro wR h;refine sk (sq (bE h fun yO vB h=>r1 [iF 1 Fb vB] [0,11] [(2,Iu yO),(3,Sb (sub zF (zI ((zI (1+zA.2.1))+zC.2.1)) (zI ((zI ((zI (1+zA.2.1))+zC.2.1))+zA.1)))),(4,Ii (zI ((zI ((zI (1+zA.2.1))+zC.2.1))+zA.1)))] ?_));cases h;exact rt rx
theorem cQ (F:Nat) (zL:uD) (r:Int×uD) (h:aE F zL=some r):yS prog 107 [(.var 157 (qK zL))] [] [Pp 0] [(.var 157 (qK r.2))] (Ii r.1):=by
 refine tI Tryz.f107 ?_;unfold aE at h;refine sE [] [(0,Pp 0)] [(0,Vb 157 (qK zL))] 1 (sq (bE h fun zA zJ h=>r0 [iK 4 {} (A1 F zL.b zA zJ)] [(3,Ii zA.1),(4,Ii zA.2.1),(5,Ii zA.2.2)] (sq (c0 [] 16 h [] ?_ ?_))))
 ·intro z8 h;refine s2 [] [0] [] [] [(0,Vb 157 [.nilsl,.bool true])] 1 (s0 [] [(2,Ii 0)] (wz [0] [] [] [0] [(2,Ii 0)] [(0,Vb 157 (qK (⟨[],true⟩:uD)))] (ar 157 (ar true (ar ([]:List AV) (ar (.bool true:AV) an)))) ?_));cases h;exact rt rx
 intro z8 h;refine sk (sq (nE h fun zW h=>r2 [iT 6 Fb zL.b zA.2.1 zW.1 zW.2] [0] [] [] [(0,Vb 157 [Sb (sub zL.b zA.2.1 (lN zL.b)),.bool zL.bad])] 1 (s0 [] [(2,Ii zA.1)] ?_)));cases h;exact rt rx
theorem UL (F:Nat) (zL:uD) (tH:Int) (r:Int×uD) (h:oE F zL tH=some r):yS prog 106 [(.var 157 (qK zL))] [] [Pp 0,Ii tH] [(.var 157 (qK r.2))] (Ii r.1):=by
 refine tI Tryz.f106 ?_;unfold oE at h;refine sE [] [(0,Pp 0),(1,Ii tH)] [(0,Vb 157 (qK zL))] 1 (sq (bE h fun zA zJ h=>r2 [iK 1 { ids:=[0] } (cQ F zL zA zJ)] [] [(5,Ii zA.1)] [] [(0,Vb 157 (qK zA.2))] 1 (sq (ad 14 h ?_ ?_ ?_))))
 ·rcases bft (decide (zA.1<0)) with zS | zS
  ·exact rm [iG 3 3,iH 6 Ht,iR 4 zS] (ort zS)
  ·exact rm [iH 6 Hf,iR 4 zS] (orf zS rfl)
 rotate_left
 ·intro z8 h;refine sk (s1 [] [0] [(4,Ii zA.1)] ?_);cases h;exact rt rx
 intro z8 h;refine s2 [] [0] [] [] [(0,Vb 157 [Sb zA.2.b,.bool true])] 1 (s0 [] [(4,Ii 0)] ?_);cases h;exact rt rx
theorem zA2 (F:Nat) (zF:List Int) (tH:Int) (r:(List Int)×Int×Int) (h:mV F zF tH=some r):yS prog 142 [] [] [Sb zF,Ii tH] [] (.tuple [.str r.1,Ii r.2.1,Ii r.2.2]):=by
 refine tI Tryz.f142 ?_;unfold mV at h;refine sE [] [(0,Sb zF),(1,Ii tH)] [] 0 (sq (bE h fun zA zJ h=>r0 [iK 1 {} (A1 F zF zA zJ)] [(7,Ii zA.1),(8,Ii zA.2.1),(9,Ii zA.2.2)] (sq ?_)));refine yQ (id:=0) zk ?_;refine c0 [] 16 h [] ?_ ?_
 ·intro z8 h;refine s1 [] [0] [(4,.str ([]:List Int)),(5,Ii 0),(6,Ii zA.2.2)] ?_;cases h;exact rt rx
 intro z8 h;refine c0 [] 20 h [] ?_ ?_
 ·intro yV h;refine s1 [] [0] [(4,.str ([]:List Int)),(5,Ii 0),(6,Ii 10)] ?_;cases h;exact rt rx
 intro yV h;refine c0 [] 23 h [] ?_ ?_
 ·intro xG h;refine s1 [] [0] [(4,.str ([]:List Int)),(5,Ii 0),(6,Ii 7)] ?_;cases h;exact rt rx
 intro xG h;refine c0 [iN 2 Fb zF] 27 h [] ?_ ?_
 ·intro wR h;refine s1 [] [0] [(4,.str ([]:List Int)),(5,Ii 0),(6,Ii 8)] ?_;cases h;exact rt rx
 intro wR h;refine sk (sq (nE h fun zW h=>r1 [iH 6 { s:=sub zF zA.2.1 (zI (zA.2.1+zA.1)) },iS 5 Fb zF zA.2.1 (zI (zA.2.1+zA.1)) zW.1 zW.2.1 zW.2.2,iC (rfl:(Mb (sub zF zA.2.1 (zI (zA.2.1+zA.1))))=List.map (AV.int .u8) (sub zF zA.2.1 (zI (zA.2.1+zA.1))))] [0] [(4,.str (sub zF zA.2.1 (zI (zA.2.1+zA.1)))),(5,Ii (zI (zA.2.1+zA.1))),(6,Ii 0)] ?_));cases h;exact rt rx
theorem zD6 (F:Nat) (zL:uD) (r:(List Int)×uD) (h:H9 F zL=some r):yS prog 108 [(.var 157 (qK zL))] [] [Pp 0] [(.var 157 (qK r.2))] (.str r.1):=by
 refine tI Tryz.f108 ?_;unfold H9 at h;refine sE [] [(0,Pp 0)] [(0,Vb 157 (qK zL))] 1 (sq (bE h fun zA zJ h=>r0 [iK 4 {} (zA2 F zL.b 40 zA zJ)] [(3,.str zA.1),(4,Ii zA.2.1),(5,Ii zA.2.2)] (sq (c0 [] 16 h [] ?_ ?_))))
 ·intro z8 h;refine s2 [] [0] [] [] [(0,Vb 157 [.nilsl,.bool true])] 1 (s0 [] [(2,.str ([]:List Int))] (wz [0] [] [] [0] [(2,.str ([]:List Int))] [(0,Vb 157 (qK (⟨[],true⟩:uD)))] (ar 157 (ar true (ar ([]:List AV) (ar (.bool true:AV) an)))) ?_));cases h;exact rt rx
 intro z8 h;refine sk (sq (nE h fun zW h=>r2 [iT 6 Fb zL.b zA.2.1 zW.1 zW.2] [0] [] [] [(0,Vb 157 [Sb (sub zL.b zA.2.1 (lN zL.b)),.bool zL.bad])] 1 (s0 [] [(2,.str zA.1)] ?_)));cases h;exact rt rx
theorem WX (F:Nat) (zL:uD) (r:yZ×uD) (h:r8 F zL=some r):yS prog 109 [(.var 157 (qK zL))] [] [Pp 0] [(.var 157 (qK r.2))] (z9 r.1):=by
 refine tI Tryz.f109 ?_;unfold r8 at h;refine sE [iH 0 { id:=1 }] [(0,Pp 0),(2,Pp 1)] [(0,Vb 157 (qK zL)),(1,Vb 76 [Ii 0,Ii 0,Ii 0,Ii 0,Ii 0])] 2 (sq (bE h fun zA zJ h=>bE h fun zC zW h=>bE h fun zM yU h=>r2 [iK 1 { ids:=[0] } (cQ F zL zA zJ),iK 3 { ids:=[0] } (cQ F zA.2 zC zW),iK 5 { ids:=[0] } (cQ F zC.2 zM yU)] [] [(3,Ii zA.1),(4,Ii zC.1),(5,Ii zM.1)] [] [(0,Vb 157 (qK zM.2))] 2 (sq (bE h fun zT xB h=>r2 [iK 1 { ids:=[0] } (cQ F zM.2 zT xB)] [] [(6,Ii zT.1)] [] [(0,Vb 157 (qK zT.2))] 2 (sq (bE h fun zU xR h=>r2 [iK 5 { ids:=[0] } (cQ F zT.2 zU xR)] [0] [] [] [(0,Vb 157 (qK zU.2)),(1,Vb 76 [Ii zA.1,Ii zC.1,Ii zM.1,Ii zT.1,Ii zU.1])] 2 ?_))))));cases h;exact rt rx
theorem SZ (y0:List Int) (zF:List Int) (r:Bool) (h:dW y0 zF=some r):yS prog 110 [] [] [Sb y0,Sb zF] [] (.bool r):=by
 refine tI Tryz.f110 ?_;unfold dW at h;refine sE [] [(0,Sb y0),(1,Sb zF)] [] 0 (s1 [iH 1 { s:=y0 },iH 3 { s:=zF },iC (rfl:(Mb y0)=List.map (AV.int .u8) y0),iC (rfl:(Mb zF)=List.map (AV.int .u8) zF)] [0,1] [(4,.bool (y0==zF))] ?_);cases h;exact rt rx
end Go.Ab
