/- Printed: the typed Lean functions of the Go functions, or the proofs that the Go functions meet them. No conditions but those that the theorems name. -/
import Derived.Test.YtoeengmnmhhpgaaGreatP15zxD
import Derived.Test.YtoeengmnmhhpgaaGreatA42
import Derived.Test.YtoeengmnmhhpgaaGreatProg
namespace Go.Ab
open Go
set_option linter.unusedVariables false
noncomputable abbrev prog:=Go.Proofs.Tryz.prog
theorem tS:prog.follows .mixedOrders=true:=by kernel_rfl
instance :Mx prog:=⟨tS⟩
theorem zCP:J3 prog 170:=⟨_,Go.Proofs.Tryz.func170,by kernel_rfl,by kernel_rfl,by kernel_rfl,zk⟩
theorem JQ:qM prog 3 false [.int .i64]:=zD0 zk
theorem zFK:qM prog 87 true [.int .i64,.int .i64]:=LR zk zk zk zk
theorem W1:∀ a b:yS,z5 a=z5 b→a=b:=by
  intro a b h;cases a;cases b;simpa [z5,AX] using h
theorem T1:pJ prog 87 [.int .i64,.int .i64]:=K9 zFK zk zk
def zGh:Go.Shelf.Ren:={ f:=fun n=>bif Nat.beq n 5 then 92 else 130,t:=fun n=>bif Nat.beq n 23 then 60 else bif Nat.beq n 25 then 3 else bif Nat.beq n 3 then 138 else bif Nat.beq n 20 then 20 else bif Nat.beq n 4 then 4 else n,g:=fun x=>x }
theorem VP : Go.Proofs.SlLaysW.n5 prog zGh := ⟨by kernel_rfl, ⟨ "maps.Clone[map[int]tracebook/file.place,int,tracebook/file.place]", by kernel_rfl, zk⟩, by kernel_rfl, by kernel_rfl, fun w => by kernel_rfl, fun w => by kernel_rfl, fun w => by kernel_rfl, by kernel_rfl, fun w => by kernel_rfl, fun w => by kernel_rfl, fun w => by kernel_rfl, by kernel_rfl, fun w => by kernel_rfl, fun w => by kernel_rfl, fun w => by kernel_rfl⟩
theorem TD:qM prog 9 false [.str]:=zEc zk
theorem RC:qM prog 144 true [.int .i64,.int .i64]:=LR zk zk zk zk
theorem LE:∀ a b:zQ,yB a=yB b→a=b:=by
  intro a b h;cases a;cases b;simpa [yB,T3] using h
theorem W2:pJ prog 144 [.int .i64,.int .i64]:=K9 RC zk zk
theorem zF4:qM prog 85 true [.int .i64,.str,.int .i64]:=LR zk zk zk zk
theorem zDj:∀ a b:y7,yD a=yD b→a=b:=by
  intro a b h;cases a;cases b;simpa [yD,jE] using h
theorem ZM:pJ prog 85 [.int .i64,.str,.int .i64]:=K9 zF4 zk zk
theorem Y3:qM prog 76 true [.int .i64,.int .i64,.int .i64,.int .i64,.int .i64]:=LR zk zk zk zk
theorem zFd:∀ a b:yU,z6 a=z6 b→a=b:=by
  rintro ⟨_,_,_,⟨_,_⟩⟩ ⟨_,_,_,⟨_,_⟩⟩ h
  simpa [z6,kY] using h
theorem zAs:pJ prog 76 [.int .i64,.int .i64,.int .i64,.int .i64,.int .i64]:=K9 Y3 zk zk
theorem zA9 (w4:Int) (r:xO×Int) (h:MT w4=some r):yR prog 24 [] [] [Ii w4] [] (.tuple [qN r.1,Ii r.2]):=by
 refine tI Go.Proofs.Tryz.f24 ?_;unfold MT at h;refine sE [iH 0 { id:=0 }] [(0,Ii w4),(2,Pp 0)] [(0,jS)] 1 (sq (ad 9 h ?_ ?_ ?_))
 ·rcases bft (decide (w4<(1:Int))) with zT | zT
  ·exact rm [iG 3 2,iH 5 Ht,iR 3 zT] (ort zT)
  ·exact rm [iH 5 Hf,iR 3 zT] (orf zT rfl)
 ·intro yC h;refine s0 [] [(3,Ii 2)] (wz [0] [] [] [0] [(2,Pp 0),(3,Ii 2)] [(0,Vb 36 (xY zL0))] (ar 36 (ar true (ar (Ii 0) (ar ([]:List AV) (ar (Ii 0) (ar (Ii 0) (ar (.bool false:AV) an))))))) ?_);cases h;exact rt rx
 intro yC h;refine sk (s2 [] [] [(3,Ii 0)] [] [(0,Vb 36 [Ii w4,.nilsl,Ii 0,Ii (-1),.bool false])] 1 (wz [0] [] [] [0] [(2,Pp 0),(3,Ii 0)] [(0,Vb 36 (xY (⟨w4,[],(0:Int),(-1:Int),false⟩:xO)))] (ar 36 (ar true (ar (Ii w4) (ar ([]:List AV) (ar (Ii 0) (ar (Ii (-1)) (ar (.bool false:AV) an))))))) ?_));cases h;exact rt rx
theorem EW (r:yF) (h:JX=some r):yR prog 25 [] [] [] [] (u7 r):=by
 refine tI Go.Proofs.Tryz.f25 ?_;unfold JX at h;refine sE [iH 0 { id:=0 }] [(0,Pp 0)] [(0,p8)] 1 (s2 [iH 1 { id:=1 },iH 3 { id:=2 }] [] [] [] [(0,Vb 28 [.own 1 1,.own 2 1,.nilsl]),(1,Rb 85 3 (Mp yD ([(⟨(1:Int),([116,49]:List Int),(0:Int)⟩:y7)]:List y7))),(2,Rb 87 2 (Mp z5 ([(⟨(0:Int),(0:Int)⟩:yS)]:List yS)))] 3 (wz [0] [1,2] [] [0] [(0,Pp 0)] [(0,Vb 28 (w6 (⟨([(⟨(1:Int),([116,49]:List Int),(0:Int)⟩:y7)]:List y7),([(⟨(0:Int),(0:Int)⟩:yS)]:List yS),[]⟩:yF)))] (ar 28 (ar true (ac (by first | (simp;done) | (simp;omega):1=((List.map yD ([(⟨(1:Int),([116,49]:List Int),(0:Int)⟩:y7)]:List y7))).length) (ac (by first | (simp;done) | (simp;omega):1=((List.map z5 ([(⟨(0:Int),(0:Int)⟩:yS)]:List yS))).length) (ar 3 (ar (Mp yD ([(⟨(1:Int),([116,49]:List Int),(0:Int)⟩:y7)]:List y7)) (ar true (ar 2 (ar (Mp z5 ([(⟨(0:Int),(0:Int)⟩:yS)]:List yS)) (ar true (ar ([]:List AV) an))))))))))) ?_));cases h;exact rt rx
theorem BP (zN:xO) (r:Int) (h:mP zN=some r):yR prog 39 [] [] [qN zN] [] (Ii r):=by
 refine tI Go.Proofs.Tryz.f39 ?_;unfold mP at h;refine sE [iH 0 { id:=0 }] [(1,Pp 0)] [(0,Vb 36 (xY zN))] 1 (sq (sq ?_));refine xR (mk [(41,.bool (zB0 zN))] [] 0) ?_ ?_
 ·rcases bft (decide (zN.Size<(1:Int))) with zT | zT
  ·refine r2 [iG 4 3,iH 7 Ht,iG 9 6,iH 15 Ht,iG 17 3,iH 20 Ht,iG 22 6,iH 28 Ht,iG 30 3,iH 33 Ht,iG 35 3,iH 38 Ht,iR 4 zT,iX 6,iA true,iX 3,iA true,iX 6,iA true,iX 3,iA true,iX 3,iA true] [1] [(41,.bool true)] [0] [] 1 ?_;exact ⟨rfl,(sw [] [] [.a 41 (.bool (zB0 zN))] [] (ac (congrArg AV.bool (ort zT):(.bool true:AV)=.bool (zB0 zN)) an))⟩
  ·rcases bft (decide (zN.Size>(1048576:Int))) with z4 | z4
   ·refine r2 [iH 7 Hf,iG 9 6,iH 15 Ht,iG 17 3,iH 20 Ht,iG 22 6,iH 28 Ht,iG 30 3,iH 33 Ht,iG 35 3,iH 38 Ht,iR 4 zT,iR 7 z4,iX 3,iA true,iX 6,iA true,iX 3,iA true,iX 3,iA true] [1] [(41,.bool true)] [0] [] 1 ?_;exact ⟨rfl,(sw [] [] [.a 41 (.bool (zB0 zN))] [] (ac (congrArg AV.bool (orf zT (ort z4)):(.bool true:AV)=.bool (zB0 zN)) an))⟩
   ·rcases bft (decide ((lN (zN.Data))>zN.Size)) with yE | yE
    ·refine r2 [iH 7 Hf,iH 15 Hf,iG 17 3,iH 20 Ht,iG 22 6,iH 28 Ht,iG 30 3,iH 33 Ht,iG 35 3,iH 38 Ht,iR 4 zT,iR 3 z4,iN 11 Fb zN.Data,iR 4 z4,iR 4 yE,iX 6,iA true,iX 3,iA true,iX 3,iA true] [1] [(41,.bool true)] [0] [] 1 ?_;exact ⟨rfl,(sw [] [] [.a 41 (.bool (zB0 zN))] [] (ac (congrArg AV.bool (orf zT (orf z4 (ort yE))):(.bool true:AV)=.bool (zB0 zN)) an))⟩
    ·rcases bft (decide (zN.Durable<(0:Int))) with yK | yK
     ·refine r2 [iH 7 Hf,iH 15 Hf,iH 20 Hf,iG 22 6,iH 28 Ht,iG 30 3,iH 33 Ht,iG 35 3,iH 38 Ht,iR 4 zT,iR 3 z4,iN 11 Fb zN.Data,iR 4 z4,iR 4 yE,iR 7 yK,iX 3,iA true,iX 3,iA true] [1] [(41,.bool true)] [0] [] 1 ?_;exact ⟨rfl,(sw [] [] [.a 41 (.bool (zB0 zN))] [] (ac (congrArg AV.bool (orf zT (orf z4 (orf yE (ort yK)))):(.bool true:AV)=.bool (zB0 zN)) an))⟩
     ·rcases bft (decide (zN.Durable>(lN (zN.Data)))) with xX | xX
      ·refine r2 [iH 7 Hf,iH 15 Hf,iH 20 Hf,iH 28 Hf,iG 30 3,iH 33 Ht,iG 35 3,iH 38 Ht,iR 4 zT,iR 3 z4,iN 11 Fb zN.Data,iR 4 z4,iR 4 yE,iR 5 yK,iN 26 Fb zN.Data,iR 2 yK,iR 4 xX,iX 3,iA true] [1] [(41,.bool true)] [0] [] 1 ?_;exact ⟨rfl,(sw [] [] [.a 41 (.bool (zB0 zN))] [] (ac (congrArg AV.bool (orf zT (orf z4 (orf yE (orf yK (ort xX))))):(.bool true:AV)=.bool (zB0 zN)) an))⟩
      ·rcases bft (decide (zN.Left<(-1:Int))) with wI | wI
       ·refine r2 [iH 7 Hf,iH 15 Hf,iH 20 Hf,iH 28 Hf,iH 33 Hf,iG 35 3,iH 38 Ht,iR 4 zT,iR 3 z4,iN 11 Fb zN.Data,iR 4 z4,iR 4 yE,iR 5 yK,iN 26 Fb zN.Data,iR 2 yK,iR 4 xX,iR 4 wI] [1] [(41,.bool true)] [0] [] 1 ?_;exact ⟨rfl,(sw [] [] [.a 41 (.bool (zB0 zN))] [] (ac (congrArg AV.bool (orf zT (orf z4 (orf yE (orf yK (orf xX (ort wI)))))):(.bool true:AV)=.bool (zB0 zN)) an))⟩
       ·refine r2 [iH 7 Hf,iH 15 Hf,iH 20 Hf,iH 28 Hf,iH 33 Hf,iH 38 Hf,iR 4 zT,iR 3 z4,iN 11 Fb zN.Data,iR 4 z4,iR 4 yE,iR 5 yK,iN 26 Fb zN.Data,iR 2 yK,iR 4 xX,iR 4 wI] [1] [(41,.bool (decide (zN.Left>(1048576:Int))))] [0] [] 1 ?_;exact ⟨rfl,(sw [] [] [.a 41 (.bool (zB0 zN))] [] (ac (congrArg AV.bool (orf zT (orf z4 (orf yE (orf yK (orf xX (orf wI rfl)))))):(.bool (decide (zN.Left>(1048576:Int))):AV)=.bool (zB0 zN)) an))⟩
 refine ch 41 h ?_ ?_
 ·intro yC h;refine s0 [] [(2,Ii 2)] ?_;cases h;exact rt rx
 intro yC h;refine sk (s0 [] [(2,Ii 0)] ?_);cases h;exact rt rx
theorem zA0 (zI:List Int) (zB:Int) (r:Int) (h:K3 zI zB=some r):yR prog 169 [] [] [.str zI,Iu zB] [] (Ii r):=by
 refine tI Go.Proofs.Tryz.f169 ?_;unfold K3 at h;refine sE [] [(0,.str zI),(1,Iu zB)] [] 0 (s0 [iC (zCP:J3 prog 170)] [(4,Ii (kE zI zB))] ?_);cases h;exact rt rx
theorem fA (zI:List Int) (zB:Int) (r:Int) (h:aY zI zB=some r):yR prog 162 [] [] [.str zI,Iu zB] [] (Ii r):=by
 refine tI Go.Proofs.Tryz.f162 ?_;unfold aY at h;refine sE [] [(0,.str zI),(1,Iu zB)] [] 0 (sq (bE h fun zA zL h=>r0 [iK 2 {} (zA0 zI zB zA zL)] [(4,Ii zA)] ?_));cases h;exact rt rx
theorem zD8 (zB:Int) (r:Bool) (h:ED zB=some r):yR prog 139 [] [] [Iu zB] [] (.bool r):=by
 refine tI Go.Proofs.Tryz.f139 ?_;unfold ED at h;refine sE [] [(0,Iu zB)] [] 0 (sq (bE h fun zK zX h=>?_));refine xR (mk [(2,.bool zK)] [] 0) ?_ ?_
 ·replace h:=zX;rcases bft (decide (zB≥(97:Int))) with zT | zT
  ·replace h:=xK zT h;rcases bft (decide (zB≤(122:Int))) with z4 | z4
   ·replace h:=xK z4 h;refine r0 [iH 5 Ht,iG 7 3,iH 12 Hg,iH 13 Ht,iG 15 3,iH 20 Hg,iH 21 Ht,iG 23 3,iH 26 Ht,iR 3 zT,iR 5 z4,iX 4,iA true,iX 3,iA true] [(2,.bool true)] ?_;cases h;exact ⟨rfl,(sw [] [] [.s 2] [] an)⟩
   ·replace h:=xJ z4 h;rcases bft (decide (zB≥(65:Int))) with yE | yE
    ·replace h:=xK yE h;rcases bft (decide (zB≤(90:Int))) with yK | yK
     ·replace h:=xK yK h;refine r0 [iH 5 Ht,iH 12 Ht,iH 13 Hf,iG 15 3,iH 20 Hg,iH 21 Ht,iG 23 3,iH 26 Ht,iR 3 zT,iR 3 z4,iR 2 yE,iC z4,iC yE,iC z4,iR 5 yK,iX 3,iA true] [(2,.bool true)] ?_;cases h;exact ⟨rfl,(sw [] [] [.s 2] [] an)⟩
     ·replace h:=xJ yK h;rcases bft (decide (zB≥(48:Int))) with xX | xX
      ·replace h:=xK xX h;rcases bft (decide (zB≤(57:Int))) with wI | wI
       ·replace h:=xK wI h;refine r0 [iH 5 Ht,iH 12 Ht,iH 13 Hf,iH 20 Ht,iH 21 Hf,iG 23 3,iH 26 Ht,iR 3 zT,iR 3 z4,iR 2 yE,iC z4,iC yE,iC z4,iR 3 yK,iR 2 xX,iC yK,iC xX,iC yK,iR 4 wI] [(2,.bool true)] ?_;cases h;exact ⟨rfl,(sw [] [] [.s 2] [] an)⟩
       ·replace h:=xJ wI h;refine bE h fun zA zL h=>r0 [iH 5 Ht,iH 12 Ht,iH 13 Hf,iH 20 Ht,iH 21 Hf,iH 26 Hf,iR 3 zT,iR 3 z4,iR 2 yE,iC z4,iC yE,iC z4,iR 3 yK,iR 2 xX,iC yK,iC xX,iC yK,iR 2 wI,iK 24 {} (fA ([95,46,58,47,60,62,36,42,126,45]:List Int) zB zA zL),iR 2 wI] [(2,.bool (decide (zA≥(0:Int))))] ?_;cases h;exact ⟨rfl,(sw [] [] [.s 2] [] an)⟩
      ·replace h:=xJ xX h;refine bE h fun zA zL h=>r0 [iH 5 Ht,iH 12 Ht,iH 13 Hf,iG 18 2,iH 20 Hf,iH 21 Hf,iH 26 Hf,iR 3 zT,iR 3 z4,iR 2 yE,iC z4,iC yE,iC z4,iR 3 yK,iR 2 xX,iC yK,iC xX,iC yK,iQ 2 false,iK 24 {} (fA ([95,46,58,47,60,62,36,42,126,45]:List Int) zB zA zL),iQ 2 false] [(2,.bool (decide (zA≥(0:Int))))] ?_;cases h;exact ⟨rfl,(sw [] [] [.s 2] [] an)⟩
    ·replace h:=xJ yE h;rcases bft (decide (zB≥(48:Int))) with wH | wH
     ·replace h:=xK wH h;rcases bft (decide (zB≤(57:Int))) with wD | wD
      ·replace h:=xK wD h;refine r0 [iH 5 Ht,iG 10 2,iH 12 Hf,iH 13 Hf,iH 20 Ht,iH 21 Hf,iG 23 3,iH 26 Ht,iR 3 zT,iR 3 z4,iR 2 yE,iC z4,iC yE,iC z4,iQ 3 false,iR 2 wH,iA false,iC wH,iA false,iR 4 wD] [(2,.bool true)] ?_;cases h;exact ⟨rfl,(sw [] [] [.s 2] [] an)⟩
      ·replace h:=xJ wD h;refine bE h fun zA zL h=>r0 [iH 5 Ht,iG 10 2,iH 12 Hf,iH 13 Hf,iH 20 Ht,iH 21 Hf,iH 26 Hf,iR 3 zT,iR 3 z4,iR 2 yE,iC z4,iC yE,iC z4,iQ 3 false,iR 2 wH,iA false,iC wH,iA false,iR 2 wD,iK 24 {} (fA ([95,46,58,47,60,62,36,42,126,45]:List Int) zB zA zL),iR 2 wD] [(2,.bool (decide (zA≥(0:Int))))] ?_;cases h;exact ⟨rfl,(sw [] [] [.s 2] [] an)⟩
     ·replace h:=xJ wH h;refine bE h fun zA zL h=>r0 [iH 5 Ht,iG 10 2,iH 12 Hf,iH 13 Hf,iG 18 2,iH 20 Hf,iH 21 Hf,iH 26 Hf,iR 3 zT,iR 3 z4,iR 2 yE,iC z4,iC yE,iC z4,iQ 3 false,iR 2 wH,iA false,iC wH,iQ 3 false,iK 24 {} (fA ([95,46,58,47,60,62,36,42,126,45]:List Int) zB zA zL),iQ 2 false] [(2,.bool (decide (zA≥(0:Int))))] ?_;cases h;exact ⟨rfl,(sw [] [] [.s 2] [] an)⟩
  ·replace h:=xJ zT h;rcases bft (decide (zB≥(65:Int))) with vS | vS
   ·replace h:=xK vS h;rcases bft (decide (zB≤(90:Int))) with wU | wU
    ·replace h:=xK wU h;refine r0 [iG 3 2,iH 5 Hf,iH 12 Ht,iH 13 Hf,iG 15 3,iH 20 Hg,iH 21 Ht,iG 23 3,iH 26 Ht,iR 3 zT,iQ 3 false,iR 2 vS,iA false,iC vS,iA false,iR 5 wU,iX 3,iA true] [(2,.bool true)] ?_;cases h;exact ⟨rfl,(sw [] [] [.s 2] [] an)⟩
    ·replace h:=xJ wU h;rcases bft (decide (zB≥(48:Int))) with x9 | x9
     ·replace h:=xK x9 h;rcases bft (decide (zB≤(57:Int))) with wL | wL
      ·replace h:=xK wL h;refine r0 [iG 3 2,iH 5 Hf,iH 12 Ht,iH 13 Hf,iH 20 Ht,iH 21 Hf,iG 23 3,iH 26 Ht,iR 3 zT,iQ 3 false,iR 2 vS,iA false,iC vS,iA false,iR 3 wU,iR 2 x9,iC wU,iC x9,iC wU,iR 4 wL] [(2,.bool true)] ?_;cases h;exact ⟨rfl,(sw [] [] [.s 2] [] an)⟩
      ·replace h:=xJ wL h;refine bE h fun zA zL h=>r0 [iG 3 2,iH 5 Hf,iH 12 Ht,iH 13 Hf,iH 20 Ht,iH 21 Hf,iH 26 Hf,iR 3 zT,iQ 3 false,iR 2 vS,iA false,iC vS,iA false,iR 3 wU,iR 2 x9,iC wU,iC x9,iC wU,iR 2 wL,iK 24 {} (fA ([95,46,58,47,60,62,36,42,126,45]:List Int) zB zA zL),iR 2 wL] [(2,.bool (decide (zA≥(0:Int))))] ?_;cases h;exact ⟨rfl,(sw [] [] [.s 2] [] an)⟩
     ·replace h:=xJ x9 h;refine bE h fun zA zL h=>r0 [iG 3 2,iH 5 Hf,iH 12 Ht,iH 13 Hf,iG 18 2,iH 20 Hf,iH 21 Hf,iH 26 Hf,iR 3 zT,iQ 3 false,iR 2 vS,iA false,iC vS,iA false,iR 3 wU,iR 2 x9,iC wU,iC x9,iC wU,iQ 2 false,iK 24 {} (fA ([95,46,58,47,60,62,36,42,126,45]:List Int) zB zA zL),iQ 2 false] [(2,.bool (decide (zA≥(0:Int))))] ?_;cases h;exact ⟨rfl,(sw [] [] [.s 2] [] an)⟩
   ·replace h:=xJ vS h;rcases bft (decide (zB≥(48:Int))) with wO | wO
    ·replace h:=xK wO h;rcases bft (decide (zB≤(57:Int))) with uA | uA
     ·replace h:=xK uA h;refine r0 [iG 3 2,iH 5 Hf,iG 10 2,iH 12 Hf,iH 13 Hf,iH 20 Ht,iH 21 Hf,iG 23 3,iH 26 Ht,iR 3 zT,iQ 3 false,iR 2 vS,iA false,iC vS,iQ 4 false,iR 2 wO,iA false,iC wO,iA false,iR 4 uA] [(2,.bool true)] ?_;cases h;exact ⟨rfl,(sw [] [] [.s 2] [] an)⟩
     ·replace h:=xJ uA h;refine bE h fun zA zL h=>r0 [iG 3 2,iH 5 Hf,iG 10 2,iH 12 Hf,iH 13 Hf,iH 20 Ht,iH 21 Hf,iH 26 Hf,iR 3 zT,iQ 3 false,iR 2 vS,iA false,iC vS,iQ 4 false,iR 2 wO,iA false,iC wO,iA false,iR 2 uA,iK 24 {} (fA ([95,46,58,47,60,62,36,42,126,45]:List Int) zB zA zL),iR 2 uA] [(2,.bool (decide (zA≥(0:Int))))] ?_;cases h;exact ⟨rfl,(sw [] [] [.s 2] [] an)⟩
    ·replace h:=xJ wO h;refine bE h fun zA zL h=>r0 [iG 3 2,iH 5 Hf,iG 10 2,iH 12 Hf,iH 13 Hf,iG 18 2,iH 20 Hf,iH 21 Hf,iH 26 Hf,iR 3 zT,iQ 3 false,iR 2 vS,iA false,iC vS,iQ 4 false,iR 2 wO,iA false,iC wO,iQ 3 false,iK 24 {} (fA ([95,46,58,47,60,62,36,42,126,45]:List Int) zB zA zL),iQ 2 false] [(2,.bool (decide (zA≥(0:Int))))] ?_;cases h;exact ⟨rfl,(sw [] [] [.s 2] [] an)⟩
 cases h;exact rt rx
theorem H1 (F:Nat) (zI:List Int) (r:Int) (h:cR F zI=some r):yR prog 99 [] [] [.str zI] [] (Ii r):=by
 refine tI Go.Proofs.Tryz.f99 ?_;unfold cR at h;refine sE [] [(0,.str zI)] [] 0 (sq (ad 10 h ?_ ?_ ?_))
 ·rcases bft (zI==([]:List Int)) with zT | zT
  ·exact rm [iG 3 3,iH 6 Ht,iR 4 zT] (ort zT)
  ·exact rm [iH 6 Hf,iR 4 zT] (orf zT rfl)
 ·intro yC h;refine s0 [] [(2,Ii 3)] ?_;cases h;exact rt rx
 intro yC h;refine sk (sq (s0 [] [(12,Ii (lN (zI))),(13,Ii 0)] (bE h fun zD zL h=>?_)));refine vD (K1:=(fun e st'=>match zD with | (.inl q0)=>e=.normal∧Sub 0 st' (mk [] [] 0) | (.inr q1)=>e=.ret∧vE prog Go.Proofs.Tryz.f99 0 [] (Ii q1) st')) ?_ ?_
 ·replace h:=zL;refine yN (id:=0) zk ?_;refine w0 [] [] [(0,.str zI),(12,Ii (lN (zI))),(13,Ii 0)] [] ?_;refine wC (fun n st=>∃ (zM:Int),st=mk [(0,.str zI),(12,Ii (lN (zI))),(13,Ii zM)] [] 0∧D2 F zI n zM=some zD) F zk ⟨_,rfl,h⟩ ?_ ?_
  ·rintro _ ⟨_,_,h⟩;exact wB (h:(none:Option (Unit⊕Int))=some zD)
  rintro z7 _ ⟨zM,rfl,h⟩;replace h:H3 F zI (D2 F zI z7) zM=some zD:=h;unfold H3 at h;refine s0 [] [(14,.bool (decide (zM<(lN (zI)))))] (sq (ch 14 h ?_ ?_))
  rotate_left
  ·intro yY h;refine x8 (id:=0) zk ?_;cases h;exact ⟨rfl,(sw [] [] [] [] an)⟩
  intro yY h;refine sk (sq ?_);refine yN (id:=1) zk ?_;refine s0 [] [(3,Ii zM)] (sq (bE h fun zB zX h=>bE h fun zA yQ h=>r0 [iH 2 { z:=zB },iC zX,iK 3 {} (zD8 zB zA yQ)] [(20,.bool (!zA))] (ch 20 h ?_ ?_)))
  rotate_left
  ·intro xF h;refine sk (r0 [] [(13,Ii (zG (zM+(1:Int))))] ?_);exact ⟨_,(sw [] [] [.s 0,.s 12,.s 13] [] an),_,rfl,h⟩
  intro xF h;refine s0 [] [(2,Ii 3)] ?_;cases h;exact rt ry
 intro e st1 hk;rcases zD with zZ | xD
 rotate_left
 ·obtain ⟨rfl,hf⟩:=hk;cases h;exact ⟨st1,Sub.refl _ _,.inr rfl,hf⟩
 obtain ⟨rfl,hs⟩:=hk;refine ⟨_,hs,?_⟩;refine s0 [] [(2,Ii 0)] ?_;cases h;exact rt rx
theorem zC0 (F:Nat) (tE:y7) (r:Int) (h:DU F tE=some r):yR prog 58 [] [] [yD tE] [] (Ii r):=by
 refine tI Go.Proofs.Tryz.f58 ?_;unfold DU at h;refine sE [iH 0 { id:=0 }] [(1,Pp 0)] [(0,Vb 85 (jE tE))] 1 (sq (ad 20 h ?_ ?_ ?_))
 ·rcases bft (decide (tE.Id<(0:Int))) with zT | zT
  ·exact rm [iG 4 3,iH 7 Ht,iG 9 3,iH 12 Ht,iG 14 3,iH 17 Ht,iR 4 zT,iX 3,iA true,iX 3,iA true] (ort zT)
  ·rcases bft (decide (tE.Id>(1000000000000000:Int))) with z4 | z4
   ·exact rm [iH 7 Hf,iG 9 3,iH 12 Ht,iG 14 3,iH 17 Ht,iR 4 zT,iR 4 z4,iX 3,iA true] (orf zT (ort z4))
   ·rcases bft (decide (tE.Domain<(0:Int))) with yE | yE
    ·exact rm [iH 7 Hf,iH 12 Hf,iG 14 3,iH 17 Ht,iR 4 zT,iR 4 z4,iR 4 yE] (orf zT (orf z4 (ort yE)))
    ·exact rm [iH 7 Hf,iH 12 Hf,iH 17 Hf,iR 4 zT,iR 4 z4,iR 4 yE] (orf zT (orf z4 (orf yE rfl)))
 ·intro yC h;refine s2 [] [1] [(2,Ii 2)] [0] [] 1 ?_;cases h;exact rt rx
 intro yC h;refine sk (sq (bE h fun zA zL h=>r2 [iK 2 {} (H1 F tE.Name zA zL)] [1] [(2,Ii zA)] [0] [] 1 ?_));cases h;exact rt rx
theorem zDw (zH:yS) (yJ:Int) (r:Bool) (h:MG zH yJ=some r):yR prog 151 [(.var 3 [Ii yJ])] [] [z5 zH,Pp 0] [(.var 3 [Ii yJ])] (.bool r):=by
 refine tI Go.Proofs.Tryz.f151 ?_;unfold MG at h;refine sE [iH 0 { id:=1 }] [(1,Pp 0),(2,Pp 1)] [(0,Vb 3 [Ii yJ]),(1,Vb 87 (AX zH))] 2 (s2 [] [1,2] [(3,.bool (zH.Id==yJ))] [1] [] 2 ?_);cases h;exact rt rx
theorem zC2 (F:Nat) (zI:List (yS)) (zB:Int) (r:Int) (h:DH F zI zB=some r):yR prog 100 [(.var 3 [Ii zB])] [] [Sq 2 z5 zI,.fn 151 [Pp 0]] [(.var 3 [Ii zB])] (Ii r):=by
 refine tI Go.Proofs.Tryz.f100 ?_;unfold DH at h;refine sE [] [(0,Sq 2 z5 zI),(1,.fn 151 [Pp 0])] [(0,Vb 3 [Ii zB])] 1 (sq (s0 [iN 1 z5 zI] [(7,Ii (lN (zI))),(8,Ii 0)] (bE h fun zD zL h=>?_)));refine vD (K1:=(fun e st'=>match zD with | (.inl q0)=>e=.normal∧Sub 1 st' (mk [] [(0,Vb 3 [Ii zB])] 1) | (.inr q1)=>e=.ret∧vE prog Go.Proofs.Tryz.f100 1 [(.var 3 [Ii zB])] (Ii q1) st')) ?_ ?_
 ·replace h:=zL;refine yN (id:=0) zk ?_;refine w0 [0] [] [(0,Sq 2 z5 zI),(1,.fn 151 [Pp 0]),(7,Ii (lN (zI))),(8,Ii 0)] [(0,Vb 3 [Ii zB])] ?_;refine wC (fun n st=>∃ (zM:Int),st=mk [(0,Sq 2 z5 zI),(1,.fn 151 [Pp 0]),(7,Ii (lN (zI))),(8,Ii zM)] [(0,Vb 3 [Ii zB])] 1∧HH F zI zB n zM=some zD) F zk ⟨_,rfl,h⟩ ?_ ?_
  ·rintro _ ⟨_,_,h⟩;exact wB (h:(none:Option (Unit⊕Int))=some zD)
  rintro z7 _ ⟨zM,rfl,h⟩;replace h:oL F zI zB (HH F zI zB z7) zM=some zD:=h;unfold oL at h;refine s0 [] [(9,.bool (decide (zM<(lN (zI)))))] (sq (ch 9 h ?_ ?_))
  rotate_left
  ·intro yC h;refine x8 (id:=0) zk ?_;cases h;exact ⟨rfl,(sw [0] [] [] [.s 0] an)⟩
  intro yC h;refine sk (sq ?_);refine yN (id:=1) zk ?_;refine s0 [] [(5,Ii zM)] (sq (bE h fun zH zX h=>bE h fun zA yQ h=>r0 [iF 3 z5 zX,iK 5 { ids:=[0] } (zDw zH zB zA yQ)] [(16,.bool zA)] (ch 16 h ?_ ?_)))
  rotate_left
  ·intro yY h;refine sk (r0 [] [(8,Ii (zG (zM+(1:Int))))] ?_);exact ⟨_,(sw [0] [] [.s 0,.s 1,.s 7,.s 8] [.s 0] an),_,rfl,h⟩
  intro yY h;refine s1 [] [0,1] [(4,Ii zM)] ?_;cases h;exact rt ry
 intro e st1 hk;rcases zD with zZ | xD
 rotate_left
 ·obtain ⟨rfl,hf⟩:=hk;cases h;exact ⟨st1,Sub.refl _ _,.inr rfl,hf⟩
 obtain ⟨rfl,hs⟩:=hk;refine ⟨_,hs,?_⟩;refine s0 [] [(4,Ii (-1))] ?_;cases h;exact rt rx
theorem O0 (F:Nat) (zN:List (yS)) (t4:Int) (r:Int) (h:lV F zN t4=some r):yR prog 126 [] [] [Sq 2 z5 zN,Ii t4] [] (Ii r):=by
 refine tI Go.Proofs.Tryz.f126 ?_;unfold lV at h;refine sE [iH 0 { id:=0 }] [(0,Sq 2 z5 zN),(3,Pp 0)] [(0,Vb 3 [Ii t4])] 1 (sq (bE h fun zA zL h=>r2 [iK 2 { ids:=[0] } (zC2 F zN t4 zA zL)] [0,3] [(4,Ii zA)] [0] [] 1 ?_));cases h;exact rt rx
theorem zEz (F:Nat) (zN:List (yS)) (r:Int) (h:GH F zN=some r):yR prog 87 [] [] [Sq 2 z5 zN] [] (Ii r):=by
 refine tI Go.Proofs.Tryz.f87 ?_;unfold GH at h;refine sE [] [(0,Sq 2 z5 zN)] [] 0 (sq (s0 [iN 1 z5 zN] [(5,Sq 2 z5 zN),(6,Ii (lN (zN))),(7,Ii 0)] (bE h fun zD zL h=>?_)));refine vD (K1:=(fun e st'=>match zD with | (.inl q0)=>e=.normal∧Sub 0 st' (mk [] [] 0) | (.inr q1)=>e=.ret∧vE prog Go.Proofs.Tryz.f87 0 [] (Ii q1) st')) ?_ ?_
 ·replace h:=zL;refine yN (id:=0) zk ?_;refine w0 [] [] [(0,Sq 2 z5 zN),(5,Sq 2 z5 zN),(6,Ii (lN (zN))),(7,Ii 0)] [] ?_;refine wC (fun n st=>∃ (zM:Int),st=mk [(0,Sq 2 z5 zN),(5,Sq 2 z5 zN),(6,Ii (lN (zN))),(7,Ii zM)] [] 0∧GK F zN n zM=some zD) F zk ⟨_,rfl,h⟩ ?_ ?_
  ·rintro _ ⟨_,_,h⟩;exact wB (h:(none:Option (Unit⊕Int))=some zD)
  rintro z7 _ ⟨zM,rfl,h⟩;replace h:m6 F zN (GK F zN z7) zM=some zD:=h;unfold m6 at h;refine s0 [] [(8,.bool (decide (zM<(lN (zN)))))] (sq (ch 8 h ?_ ?_))
  rotate_left
  ·intro yC h;refine x8 (id:=0) zk ?_;cases h;exact ⟨rfl,(sw [] [] [] [] an)⟩
  intro yC h;refine sk (sq ?_);refine yN (id:=1) zk ?_;refine sq (bE h fun zH zX h=>r2 [iH 3 { id:=0 },iF 1 z5 zX] [] [(3,Ii zM),(4,Pp 0)] [] [(0,Vb 87 (AX zH))] 1 (sq (ad 29 h ?_ ?_ ?_)))
  ·rcases bft (decide (zH.Id<(0:Int))) with wU | wU
   ·exact rm [iG 4 3,iH 7 Ht,iG 9 3,iH 12 Ht,iG 14 3,iH 17 Ht,iR 4 wU,iX 3,iA true,iX 3,iA true] (ort wU)
   ·rcases bft (decide (zH.Id≥(8:Int))) with x9 | x9
    ·exact rm [iH 7 Hf,iG 9 3,iH 12 Ht,iG 14 3,iH 17 Ht,iR 4 wU,iR 4 x9,iX 3,iA true] (orf wU (ort x9))
    ·rcases bft (decide (zH.Ppm<(0:Int))) with wL | wL
     ·exact rm [iH 7 Hf,iH 12 Hf,iG 14 3,iH 17 Ht,iR 4 wU,iR 4 x9,iR 4 wL] (orf wU (orf x9 (ort wL)))
     ·exact rm [iH 7 Hf,iH 12 Hf,iH 17 Hf,iR 4 wU,iR 4 x9,iR 4 wL] (orf wU (orf x9 (orf wL rfl)))
  ·intro yY h;refine s2 [] [0,5,4] [(2,Ii 2)] [0] [] 1 ?_;cases h;exact rt ry
  intro yY h;refine sk (sq (nE h fun yQ h=>bE h fun zA y9 h=>r2 [iS 2 z5 zN (0:Int) zM (by decide) yQ.1 yQ.2,iK 5 {} (O0 F (sub zN (0:Int) zM) zH.Id zA y9)] [4] [(36,.bool (decide (zA≥(0:Int))))] [0] [] 1 (ch 36 h ?_ ?_)))
  rotate_left
  ·intro xF h;refine sk (r0 [] [(7,Ii (zG (zM+(1:Int))))] ?_);exact ⟨_,(sw [] [] [.s 0,.s 5,.s 6,.s 7] [] an),_,rfl,h⟩
  intro xF h;refine s1 [] [0,5] [(2,Ii 4)] ?_;cases h;exact rt ry
 intro e st1 hk;rcases zD with zZ | xD
 rotate_left
 ·obtain ⟨rfl,hf⟩:=hk;cases h;exact ⟨st1,Sub.refl _ _,.inr rfl,hf⟩
 obtain ⟨rfl,hs⟩:=hk;refine ⟨_,hs,?_⟩;refine s0 [] [(2,Ii 0)] ?_;cases h;exact rt rx
theorem O8 (z7:Int) (r:Bool) (h:r5 z7=some r):yR prog 127 [] [] [Ii z7] [] (.bool r):=by
 refine tI Go.Proofs.Tryz.f127 ?_;unfold r5 at h;refine sE [] [(0,Ii z7)] [] 0 (sq (am 2 (decide (z7≥(0:Int))&&decide (z7≤(1000000000000:Int))) ?_ ?_))
 ·rcases bft (decide (z7≥(0:Int))) with zT | zT
  ·exact rm [iH 5 Ht,iR 3 zT] (v9 zT rfl)
  ·exact rm [iG 3 2,iH 5 Hf,iR 3 zT] (u5 zT)
 cases h;exact rt rx
theorem zDl (F:Nat) (zN:List (yS)) (zH:yU) (r:Int) (h:DY F zN zH=some r):yR prog 88 [] [] [Sq 2 z5 zN,z6 zH] [] (Ii r):=by
 refine tI Go.Proofs.Tryz.f88 ?_;unfold DY at h;refine sE [iH 0 { id:=0 }] [(0,Sq 2 z5 zN),(3,Pp 0)] [(0,Vb 76 (kY zH))] 1 (sq ?_);refine yN (id:=0) zk ?_;refine sq (sq (bE h fun zA zL h=>r0 [iK 3 {} (O0 F zN zH.A zA zL)] [(5,.bool (decide (zA<(0:Int))))] (bE h fun zD zX h=>?_)));refine xR (mk [(3,Pp 0),(5,.bool zD)] [(0,Vb 76 (kY zH))] 1) ?_ ?_
 ·replace h:=zX;refine ch 5 h ?_ ?_
  ·intro yC h;refine sk ?_;cases h;exact ⟨rfl,(sw [0] [] [.s 3,.s 5] [.s 0] an)⟩
  intro yC h;refine bE h fun zC yQ h=>r1 [iK 3 {} (O0 F zN zH.B zC yQ)] [0] [(5,.bool (decide (zC<(0:Int))))] ?_;cases h;exact ⟨rfl,(sw [0] [] [.s 3,.s 5] [.s 0] an)⟩
 refine ch 5 h ?_ ?_
 ·intro yY h;refine s2 [] [3] [(4,Ii 5)] [0] [] 1 ?_;cases h;exact rt rx
 intro yY h;refine c0 [] 16 h [] ?_ ?_
 ·intro xF h;refine s2 [] [3] [(4,Ii 1)] [0] [] 1 ?_;cases h;exact rt rx
 intro xF h;refine sq (sq (bE h fun zJ y9 h=>r0 [iK 2 {} (O8 zH.AtA zJ y9)] [(22,.bool (!zJ))] (ch 22 h ?_ ?_)))
 ·intro wV h;refine sk (cd 22 (!zJ) ?_ ?_)
  rotate_left
  ·intro hg;exact Bool.noConfusion ((wV).symm.trans hg)
  intro _;refine s2 [] [3] [(4,Ii 2)] [0] [] 1 ?_;cases h;exact rt rx
 intro wV h;refine sq (bE h fun zS xS h=>r0 [iK 3 {} (O8 zH.AtB.Lo zS xS)] [(22,.bool (!zS))] (ch 22 h ?_ ?_))
 ·intro vM h;refine sk (cd 22 (!zS) ?_ ?_)
  rotate_left
  ·intro hg;exact Bool.noConfusion ((vM).symm.trans hg)
  intro _;refine s2 [] [3] [(4,Ii 2)] [0] [] 1 ?_;cases h;exact rt rx
 intro vM h;refine sq (bE h fun zV wA h=>r0 [iK 3 {} (O8 zH.AtB.Hi zV wA)] [(22,.bool (!zV))] (ch 22 h ?_ ?_))
 ·intro uM h;refine sk (cd 22 (!zV) ?_ ?_)
  rotate_left
  ·intro hg;exact Bool.noConfusion ((uM).symm.trans hg)
  intro _;refine s2 [] [3] [(4,Ii 2)] [0] [] 1 ?_;cases h;exact rt rx
 intro uM h;refine r2 [] [3] [(22,.bool (decide (zH.AtB.Lo>zH.AtB.Hi)))] [0] [] 1 (ch 22 h ?_ ?_)
 ·intro tO h;refine s0 [] [(4,Ii 2)] ?_;cases h;exact rt rx
 intro tO h;refine sk (s0 [] [(4,Ii 0)] ?_);cases h;exact rt rx
theorem N0 (F:Nat) (zN:List (yS)) (zO:List (yU)) (r:Int) (h:lP F zN zO=some r):yR prog 46 [] [] [Sq 2 z5 zN,Sq 5 z6 zO] [] (Ii r):=by
 refine tI Go.Proofs.Tryz.f46 ?_;unfold lP at h;refine sE [] [(0,Sq 2 z5 zN),(1,Sq 5 z6 zO)] [] 0 (sq (c0 [iN 1 z5 zN] 11 h [] ?_ ?_))
 ·intro yC h;refine s1 [] [0,1] [(4,Ii 8)] ?_;cases h;exact rt rx
 intro yC h;refine sk (sq (ad 19 h ?_ ?_ ?_))
 ·rcases bft (decide ((lN (zN))>(8:Int))) with zT | zT
  ·exact rm [iG 4 3,iH 7 Ht,iN 1 z5 zN,iR 4 zT] (ort zT)
  ·exact rm [iH 7 Hf,iN 1 z5 zN,iR 2 zT,iN 5 z6 zO,iR 2 zT] (orf zT rfl)
 ·intro yY h;refine s1 [] [0,1] [(4,Ii 7)] ?_;cases h;exact rt rx
 intro yY h;refine sk (sq (sq (bE h fun zH zL h=>r0 [iH 4 { b:=(decide (zH=(⟨(0:Int),(0:Int)⟩:yS))),mks:=[.int .i64,.int .i64] },iF 1 z5 zL,iC (T1:pJ prog 87 [.int .i64,.int .i64]),iC (o4 (f:=z5) W1 zH (⟨(0:Int),(0:Int)⟩:yS):((decide (zH=(⟨(0:Int),(0:Int)⟩:yS)))=true↔AV.agg [Ii zH.Id,Ii zH.Ppm]=AV.agg [Ii 0,Ii 0]))] [(24,.bool (!(decide (zH=(⟨(0:Int),(0:Int)⟩:yS)))))] (ch 24 h ?_ ?_))))
 ·intro xF h;refine s1 [] [0,1] [(4,Ii 10)] ?_;cases h;exact rt rx
 intro xF h;refine sk (sq (sq (bE h fun zA zX h=>r0 [iK 1 {} (zEz F zN zA zX)] [(5,Ii zA)] (c0 [] 28 h [] ?_ ?_))))
 ·intro wV h;refine s1 [] [0,1] [(4,Ii zA)] ?_;cases h;exact rt rx
 intro wV h;refine sk (sq (s1 [iN 1 z6 zO] [1] [(30,Sq 5 z6 zO),(31,Ii (lN (zO))),(32,Ii 0)] (bE h fun zD yQ h=>?_)));refine vD (K1:=(fun e st'=>match zD with | (.inl q0)=>e=.normal∧Sub 0 st' (mk [] [] 0) | (.inr q1)=>e=.ret∧vE prog Go.Proofs.Tryz.f46 0 [] (Ii q1) st')) ?_ ?_
 ·replace h:=yQ;refine yN (id:=0) zk ?_;refine w0 [] [] [(0,Sq 2 z5 zN),(30,Sq 5 z6 zO),(31,Ii (lN (zO))),(32,Ii 0)] [] ?_;refine wC (fun n st=>∃ (zM:Int),st=mk [(0,Sq 2 z5 zN),(30,Sq 5 z6 zO),(31,Ii (lN (zO))),(32,Ii zM)] [] 0∧D0 F zN zO n zM=some zD) F zk ⟨_,rfl,h⟩ ?_ ?_
  ·rintro _ ⟨_,_,h⟩;exact wB (h:(none:Option (Unit⊕Int))=some zD)
  rintro z7 _ ⟨zM,rfl,h⟩;replace h:m5 F zN zO (D0 F zN zO z7) zM=some zD:=h;unfold m5 at h;refine s0 [] [(33,.bool (decide (zM<(lN (zO)))))] (sq (ch 33 h ?_ ?_))
  rotate_left
  ·intro vM h;refine x8 (id:=0) zk ?_;cases h;exact ⟨rfl,(sw [] [] [] [] an)⟩
  intro vM h;refine sk (sq ?_);refine yN (id:=1) zk ?_;refine sq (bE h fun yH y9 h=>r2 [iH 2 { id:=0 },iF 0 z6 y9] [] [(7,Pp 0)] [] [(0,Vb 76 (kY yH))] 1 (sq (bE h fun zC xS h=>r2 [iK 2 {} (zDl F zN yH zC xS)] [7] [(8,Ii zC)] [0] [] 1 (c0 [] 40 h [] ?_ ?_))))
  rotate_left
  ·intro uM h;refine sk (r0 [] [(32,Ii (zG (zM+(1:Int))))] ?_);exact ⟨_,(sw [] [] [.s 0,.s 30,.s 31,.s 32] [] an),_,rfl,h⟩
  intro uM h;refine s1 [] [0,30] [(4,Ii zC)] ?_;cases h;exact rt ry
 intro e st1 hk;rcases zD with zZ | xD
 rotate_left
 ·obtain ⟨rfl,hf⟩:=hk;cases h;exact ⟨st1,Sub.refl _ _,.inr rfl,hf⟩
 obtain ⟨rfl,hs⟩:=hk;refine ⟨_,hs,?_⟩;refine s0 [] [(4,Ii 0)] ?_;cases h;exact rt rx
theorem zA2 (zN:yS) (yJ:y7) (r:Bool) (h:J0 zN yJ=some r):yR prog 60 [(.var 85 (jE yJ))] [] [z5 zN,Pp 0] [(.var 85 (jE yJ))] (.bool r):=by
 refine tI Go.Proofs.Tryz.f60 ?_;unfold J0 at h;refine sE [iH 0 { id:=1 }] [(1,Pp 0),(2,Pp 1)] [(0,Vb 85 (jE yJ)),(1,Vb 87 (AX zN))] 2 (s2 [] [1,2] [(3,.bool (zN.Id==yJ.Domain))] [1] [] 2 ?_);cases h;exact rt rx
theorem zEX (F:Nat) (zI:List (yS)) (zB:y7) (r:Int) (h:C6 F zI zB=some r):yR prog 100 [(.var 85 (jE zB))] [] [Sq 2 z5 zI,.fn 60 [Pp 0]] [(.var 85 (jE zB))] (Ii r):=by
 refine tI Go.Proofs.Tryz.f100 ?_;unfold C6 at h;refine sE [] [(0,Sq 2 z5 zI),(1,.fn 60 [Pp 0])] [(0,Vb 85 (jE zB))] 1 (sq (s0 [iN 1 z5 zI] [(7,Ii (lN (zI))),(8,Ii 0)] (bE h fun zD zL h=>?_)));refine vD (K1:=(fun e st'=>match zD with | (.inl q0)=>e=.normal∧Sub 1 st' (mk [] [(0,Vb 85 (jE zB))] 1) | (.inr q1)=>e=.ret∧vE prog Go.Proofs.Tryz.f100 1 [(.var 85 (jE zB))] (Ii q1) st')) ?_ ?_
 ·replace h:=zL;refine yN (id:=0) zk ?_;refine w0 [0] [] [(0,Sq 2 z5 zI),(1,.fn 60 [Pp 0]),(7,Ii (lN (zI))),(8,Ii 0)] [(0,Vb 85 (jE zB))] ?_;refine wC (fun n st=>∃ (zM:Int),st=mk [(0,Sq 2 z5 zI),(1,.fn 60 [Pp 0]),(7,Ii (lN (zI))),(8,Ii zM)] [(0,Vb 85 (jE zB))] 1∧GB F zI zB n zM=some zD) F zk ⟨_,rfl,h⟩ ?_ ?_
  ·rintro _ ⟨_,_,h⟩;exact wB (h:(none:Option (Unit⊕Int))=some zD)
  rintro z7 _ ⟨zM,rfl,h⟩;replace h:mF F zI zB (GB F zI zB z7) zM=some zD:=h;unfold mF at h;refine s0 [] [(9,.bool (decide (zM<(lN (zI)))))] (sq (ch 9 h ?_ ?_))
  rotate_left
  ·intro yC h;refine x8 (id:=0) zk ?_;cases h;exact ⟨rfl,(sw [0] [] [] [.s 0] an)⟩
  intro yC h;refine sk (sq ?_);refine yN (id:=1) zk ?_;refine s0 [] [(5,Ii zM)] (sq (bE h fun zH zX h=>bE h fun zA yQ h=>r0 [iF 3 z5 zX,iK 5 { ids:=[0] } (zA2 zH zB zA yQ)] [(16,.bool zA)] (ch 16 h ?_ ?_)))
  rotate_left
  ·intro yY h;refine sk (r0 [] [(8,Ii (zG (zM+(1:Int))))] ?_);exact ⟨_,(sw [0] [] [.s 0,.s 1,.s 7,.s 8] [.s 0] an),_,rfl,h⟩
  intro yY h;refine s1 [] [0,1] [(4,Ii zM)] ?_;cases h;exact rt ry
 intro e st1 hk;rcases zD with zZ | xD
 rotate_left
 ·obtain ⟨rfl,hf⟩:=hk;cases h;exact ⟨st1,Sub.refl _ _,.inr rfl,hf⟩
 obtain ⟨rfl,hs⟩:=hk;refine ⟨_,hs,?_⟩;refine s0 [] [(4,Ii (-1))] ?_;cases h;exact rt rx
theorem zC7 (F:Nat) (zI:List (yS)) (zB:y7) (r:Bool) (h:KL F zI zB=some r):yR prog 59 [(.var 85 (jE zB))] [] [Sq 2 z5 zI,.fn 60 [Pp 0]] [(.var 85 (jE zB))] (.bool r):=by
 refine tI Go.Proofs.Tryz.f59 ?_;unfold KL at h;refine sE [] [(0,Sq 2 z5 zI),(1,.fn 60 [Pp 0])] [(0,Vb 85 (jE zB))] 1 (sq (bE h fun zA zL h=>r1 [iK 2 { ids:=[0] } (zEX F zI zB zA zL)] [0,1] [(4,.bool (decide (zA≥(0:Int))))] ?_));cases h;exact rt rx
theorem XS (F:Nat) (zL:yF) (r:Int) (h:oF F zL=some r):yR prog 20 [] [] [u7 zL] [] (Ii r):=by
 refine tI Go.Proofs.Tryz.f20 ?_;unfold oF at h;refine sE [iH 0 { id:=0 }] [(1,Pp 0)] [(0,Vb 28 (w6 zL))] 1 (sq ?_);refine yN (id:=0) zk ?_;refine c0 [iN 2 yD zL.Threads] 10 h [] ?_ ?_
 ·intro yC h;refine s2 [] [1] [(2,Ii 8)] [0] [] 1 ?_;cases h;exact rt rx
 intro yC h;refine c0 [iN 2 yD zL.Threads] 15 h [] ?_ ?_
 ·intro yY h;refine s2 [] [1] [(2,Ii 7)] [0] [] 1 ?_;cases h;exact rt rx
 intro yY h;refine sk (s2 [iH 0 { id:=1,mag:=false,mks:=[.int .i64] }] [] [(3,.mp 1)] [] [(1,.live (.map false [.int .i64] []))] 2 (sq (s0 [iN 2 yD zL.Threads] [(22,Sq 3 yD zL.Threads),(23,Ii (lN (zL.Threads))),(24,Ii 0)] (bE h fun zD zX h=>?_))));refine vD (K1:=(fun e st'=>match zD with | (.inl q0)=>e=.normal∧Sub 0 st' (mk [(1,Pp 0)] [(0,Vb 28 (w6 zL))] 1) | (.inr q1)=>e=.ret∧vE prog Go.Proofs.Tryz.f20 0 [] (Ii q1) st')) ?_ ?_
 ·replace h:=zX;refine yN (id:=1) zk ?_;refine w0 [0,1] [] [(1,Pp 0),(3,.mp 1),(22,Sq 3 yD zL.Threads),(23,Ii (lN (zL.Threads))),(24,Ii 0)] [(0,Vb 28 (w6 zL)),(1,.live (.map false [.int .i64] []))] ?_;refine wC (fun n st=>∃ (zM:Int),∃ (zF:List (Int×Bool)),st=mk [(1,Pp 0),(3,.mp 1),(22,Sq 3 yD zL.Threads),(23,Ii (lN (zL.Threads))),(24,Ii zM)] [(0,Vb 28 (w6 zL)),(1,.live (.map false [.int .i64] (List.map (mpE (AV.int .i64) AV.bool) zF)))] 2∧rW F zL n zM zF=some zD) F zk ⟨_,_,rfl,h⟩ ?_ ?_
  ·rintro _ ⟨_,_,_,h⟩;exact wB (h:(none:Option (Unit⊕Int))=some zD)
  rintro z7 _ ⟨zM,zF,rfl,h⟩;replace h:GF F zL (rW F zL z7) zM zF=some zD:=h;unfold GF at h;refine s0 [] [(25,.bool (decide (zM<(lN (zL.Threads)))))] (sq (ch 25 h ?_ ?_))
  rotate_left
  ·intro xF h;refine x8 (id:=1) zk ?_;cases h;exact ⟨rfl,(sw [0] [] [.s 1] [.s 0] an)⟩
  intro xF h;refine sk (sq ?_);refine yN (id:=2) zk ?_;refine sq (bE h fun zH yQ h=>r2 [iH 2 { id:=2 },iF 0 yD yQ] [] [(5,Pp 2)] [] [(2,Vb 85 (jE zH))] 3 (sq (sq (bE h fun zA y9 h=>r0 [iK 1 {} (zC0 F zH zA y9)] [(6,Ii zA)] (c0 [] 31 h [] ?_ ?_)))))
  ·intro wV h;refine s2 [] [1,3,22,5] [(2,Ii zA)] [0,1,2] [] 3 ?_;cases h;exact rt ry
  intro wV h;refine sk (sq (c0 [iH 3 { av:=(.bool ((uN zF zH.Id).getD false)),g:=(uN zF zH.Id).isSome },iC (JQ:qM prog 3 false [.int .i64]),iC (LJ (f:=(AV.int .i64)) (g:=AV.bool) L0 zF zH.Id false:dB (List.map (mpE (AV.int .i64) AV.bool) zF) (Ii zH.Id) (.bool false) (.bool ((uN zF zH.Id).getD false)) (uN zF zH.Id).isSome)] 36 h [] ?_ ?_))
  ·intro vM h;refine s2 [] [1,3,22,5] [(2,Ii 4)] [0,1,2] [] 3 ?_;cases h;exact rt ry
  intro vM h;refine sk (nE h fun xS h=>r2 [iH 3 { es:=(List.map (mpE (AV.int .i64) AV.bool) (wS zF zH.Id true)) },iC (JQ:qM prog 3 false [.int .i64]),iC (KD (f:=(AV.int .i64)) (g:=AV.bool) L0 zF zH.Id true:m4 (List.map (mpE (AV.int .i64) AV.bool) zF) (Ii zH.Id) (.bool true) (List.map (mpE (AV.int .i64) AV.bool) (wS zF zH.Id true))),iC (LC (l:=zF) xS:((List.map (mpE (AV.int .i64) AV.bool) zF):List (AV×AV)).length<maxLen)] [5] [] [2] [(1,.live (.map false [.int .i64] (List.map (mpE (AV.int .i64) AV.bool) (wS zF zH.Id true))))] 3 (r0 [] [(24,Ii (zG (zM+(1:Int))))] ?_));exact ⟨_,(sw [0,1] [] [.s 1,.s 3,.s 22,.s 23,.s 24] [.s 0,.s 1] an),_,_,rfl,h⟩
 intro e st1 hk;rcases zD with zZ | xD
 rotate_left
 ·obtain ⟨rfl,hf⟩:=hk;cases h;exact ⟨st1,Sub.refl _ _,.inr rfl,hf⟩
 obtain ⟨rfl,hs⟩:=hk;refine ⟨_,hs,?_⟩;refine sq (sq (bE h fun zC wA h=>r0 [iK 4 {} (N0 F zL.Domains zL.Snaps zC wA)] [(7,Ii zC)] (c0 [] 47 h [] ?_ ?_)))
 ·intro uM h;refine s2 [] [1] [(2,Ii zC)] [0] [] 1 ?_;cases h;exact rt rx
 intro uM h;refine sk (sq (s0 [iN 2 yD zL.Threads] [(50,Sq 3 yD zL.Threads),(51,Ii (lN (zL.Threads))),(52,Ii 0)] (bE h fun zR wP h=>?_)));refine vD (K1:=(fun e st'=>match zR with | (.inl q0)=>e=.normal∧Sub 0 st' (mk [] [] 0) | (.inr q1)=>e=.ret∧vE prog Go.Proofs.Tryz.f20 0 [] (Ii q1) st')) ?_ ?_
 ·replace h:=wP;refine yN (id:=3) zk ?_;refine w0 [0] [] [(1,Pp 0),(50,Sq 3 yD zL.Threads),(51,Ii (lN (zL.Threads))),(52,Ii 0)] [(0,Vb 28 (w6 zL))] ?_;refine wC (fun n st=>∃ (wK:Int),st=mk [(1,Pp 0),(50,Sq 3 yD zL.Threads),(51,Ii (lN (zL.Threads))),(52,Ii wK)] [(0,Vb 28 (w6 zL))] 1∧oX F zL n wK=some zR) F zk ⟨_,rfl,h⟩ ?_ ?_
  ·rintro _ ⟨_,_,h⟩;exact wB (h:(none:Option (Unit⊕Int))=some zR)
  rintro uI _ ⟨wK,rfl,h⟩;replace h:oA F zL (oX F zL uI) wK=some zR:=h;unfold oA at h;refine s0 [] [(53,.bool (decide (wK<(lN (zL.Threads)))))] (sq (ch 53 h ?_ ?_))
  rotate_left
  ·intro tO h;refine x8 (id:=3) zk ?_;cases h;exact ⟨rfl,(sw [] [] [] [] an)⟩
  intro tO h;refine sk (sq ?_);refine yN (id:=4) zk ?_;refine sq (bE h fun yH vA h=>r2 [iH 2 { id:=1 },iF 0 yD vA] [] [(9,Pp 1)] [] [(1,Vb 85 (jE yH))] 2 (sq (bE h fun zJ vN h=>r2 [iJ 3 { ids:=[1] } ([Sq 2 z5 zL.Domains,.fn 60 [Pp 1]]:List AV) (zC7 F zL.Domains yH zJ vN)] [9] [(60,.bool (!zJ))] [1] [] 2 (ch 60 h ?_ ?_))))
  rotate_left
  ·intro qR h;refine sk (r0 [] [(52,Ii (zG (wK+(1:Int))))] ?_);exact ⟨_,(sw [0] [] [.s 1,.s 50,.s 51,.s 52] [.s 0] an),_,rfl,h⟩
  intro qR h;refine s2 [] [1,50] [(2,Ii 5)] [0] [] 2 ?_;cases h;exact rt ry
 intro e st1 hk;rcases zR with vG | t5
 rotate_left
 ·obtain ⟨rfl,hf⟩:=hk;cases h;exact ⟨st1,Sub.refl _ _,.inr rfl,hf⟩
 obtain ⟨rfl,hs⟩:=hk;refine ⟨_,hs,?_⟩;refine s0 [] [(2,Ii 0)] ?_;cases h;exact rt rx
theorem zGj (z7:Int) (r:Int) (h:H4 z7=some r):yR prog 102 [] [] [Ii z7] [] (.int .u64 r):=by
 refine tI Go.Proofs.Tryz.f102 ?_;unfold H4 at h;refine sE [] [(0,Ii z7)] [] 0 (s0 [iC (by decide:(0:Int)≤(1:Int)),iC (by decide:(0:Int)≤(63:Int))] [(2,.int .u64 (tJ .u64 (pX .u64 (vU z7) (1:Int)) (vU (jC .i64 z7 (63:Int)))))] ?_);cases h;exact rt rx
theorem kF (F:Nat) (zE:List (Int)) (z7:Int) (r:(List (Int))) (h:qD F zE z7=some r):yR prog 63 [] [] [Sb zE,Ii z7] [.row 5 1 (Mb r)] (.own 0 ((r).length)):=by
 refine tI Go.Proofs.Tryz.f63 ?_;unfold qD at h;refine sE [iH 0 { id:=0,m:=1 }] [(0,Sb zE),(1,Ii z7)] [] 1 (s2 [iH 0 { b:=true,id:=1 }] [] [(5,Pp 1)] [] [(1,Rb 148 1 (Mb (List.replicate 10 (0:Int))))] 2 (s0 [] [(6,Ii 0)] (sq (sq (bE h fun zA zL h=>r0 [iK 1 {} (zGj z7 zA zL)] [(7,.int .u64 zA)] (bE h fun zD zX h=>?_))))));refine xR (mk [(0,Sb zE),(5,Pp 0),(6,Ii zD.1)] [(0,Rb 148 1 (Mb zD.2))] 1) ?_ ?_
 ·replace h:=zX;refine yN (id:=0) zk ?_;refine w0 [1] [] [(0,Sb zE),(5,Pp 0),(6,Ii 0),(7,.int .u64 zA)] [(0,Rb 148 1 (Mb (List.replicate 10 (0:Int))))] ?_;refine wC (fun n st=>∃ (w4:Int),∃ (x5:Int),∃ (zF:List Int),st=mk [(0,Sb zE),(5,Pp 0),(6,Ii w4),(7,.int .u64 x5)] [(0,Rb 148 1 (Mb zF))] 1∧fZ F n w4 x5 zF=some zD) F zk ⟨_,_,_,rfl,h⟩ ?_ ?_
  ·rintro _ ⟨_,_,_,_,h⟩;exact wB (h:(none:Option (Int×(List Int)))=some zD)
  rintro uI _ ⟨w4,x5,zF,rfl,h⟩;replace h:oH F (fZ F uI) w4 x5 zF=some zD:=h;unfold oH at h;refine sq ?_;refine yN (id:=1) zk ?_;refine sq (nE h fun yQ h=>bE h fun zH y9 h=>r2 [iH 4 Ht,iH 5 { av:=Iu zH,l:=(Mb ((zF).set ((w4).toNat) (vJ (tK .u64 x5 (127:Int))))) },iC yQ.1,iC yQ.2,iC (OL y9:(Mb zF)[(w4).toNat]?=some (Iu zH)),iC (A8 _ _ _:(Mb ((zF).set ((w4).toNat) (vJ (tK .u64 x5 (127:Int)))))=List.set (Mb zF) ((w4).toNat) (bQ (Iu zH) 0 [Iu (vJ (tK .u64 x5 (127:Int)))]))] [] [] [] [(0,Rb 148 1 (Mb ((zF).set ((w4).toNat) (vJ (tK .u64 x5 (127:Int))))))] 1 (s0 [] [(6,Ii (zG (w4+(1:Int))))] (sq (c0 [] 20 h [] ?_ ?_))))
  ·intro yC h;refine x8 (id:=0) zk ?_;cases h;exact ⟨rfl,(sw [0] [] [.s 0,.s 5,.s 6] [.s 0] an)⟩
  intro yC h;refine sk (nE h fun xS h=>bE h fun yH wA h=>nE h fun wP h=>bE h fun xA vA h=>r2 [iH 2 Ht,iH 3 { av:=Iu yH },iH 5 Ht,iH 6 { av:=Iu xA,l:=(Mb (((zF).set ((w4).toNat) (vJ (tK .u64 x5 (127:Int)))).set ((zG ((zG (w4+(1:Int))) - (1:Int))).toNat) (ior .u8 yH (128:Int)))) },iC xS.1,iC xS.2,iC (OL wA:(Mb ((zF).set ((w4).toNat) (vJ (tK .u64 x5 (127:Int)))))[(zG ((zG (w4+(1:Int))) - (1:Int))).toNat]?=some (Iu yH)),iC wP.1,iC wP.2,iC (OL vA:(Mb ((zF).set ((w4).toNat) (vJ (tK .u64 x5 (127:Int)))))[(zG ((zG (w4+(1:Int))) - (1:Int))).toNat]?=some (Iu xA)),iC (A8 _ _ _:(Mb (((zF).set ((w4).toNat) (vJ (tK .u64 x5 (127:Int)))).set ((zG ((zG (w4+(1:Int))) - (1:Int))).toNat) (ior .u8 yH (128:Int))))=List.set (Mb ((zF).set ((w4).toNat) (vJ (tK .u64 x5 (127:Int))))) ((zG ((zG (w4+(1:Int))) - (1:Int))).toNat) (bQ (Iu xA) 0 [Iu (ior .u8 yH (128:Int))]))] [] [] [] [(0,Rb 148 1 (Mb (((zF).set ((w4).toNat) (vJ (tK .u64 x5 (127:Int)))).set ((zG ((zG (w4+(1:Int))) - (1:Int))).toNat) (ior .u8 yH (128:Int)))))] 1 (r0 [iC (by decide:(0:Int)≤(7:Int))] [(7,.int .u64 (jC .u64 x5 (7:Int)))] ?_));exact ⟨_,(sw [0] [] [.s 0,.s 5,.s 6,.s 7] [.s 0] an),_,_,_,rfl,h⟩
 refine sq (nE h fun vN h=>nE h fun uG h=>nE h fun uJ h=>nE h fun tB h=>r2 [iH 5 { l:=(Mb (sub zE (0:Int) (lN (zE)))) },iH 8 { dep:=true,id:=1,l:=(Mb ((sub zE (0:Int) (lN (zE)))++(((zD.2).take ((zD.1).toNat)).drop 0))),n:=(((sub zE (0:Int) (lN (zE)))++(((zD.2).take ((zD.1).toNat)).drop 0))).length },iN 2 Fb zE,iN 4 Fb zE,i0,iC (Int.natCast_nonneg _:(0:Int)≤(lN (zE))),iC (NC (Int.le_refl _):(lN (zE))≤(lN ((Mb zE)))),iA (lN (zE)),iC (WP _ _ _:(Mb (sub zE (0:Int) (lN (zE))))=(((Mb zE)).take ((lN (zE))).toNat).drop ((0:Int)).toNat),i0,iC vN.1,iC vN.2.1,iC (KR vN.2.2:10≤((Mb zD.2)).length),iC (KR uG.2:((zD.1).toNat)≤((Mb zD.2)).length),iC uG.1,iC (ZD _ _ _ _:(Mb ((sub zE (0:Int) (lN (zE)))++(((zD.2).take ((zD.1).toNat)).drop 0)))=(Mb (sub zE (0:Int) (lN (zE))))++(((Mb zD.2)).take ((zD.1).toNat)).drop 0),iC (by first | (simp;done) | simpa using uJ:(((List.map (AV.int .u8) (sub zE (0:Int) (((zE).length:Nat):Int))):List AV).length+((((List.map (AV.int .u8) zD.2)).take ((zD.1).toNat)).drop 0:List AV).length) * 1≤140737488355328),iC (by first | (simp;done) | simpa using tB:0<((((List.map (AV.int .u8) zD.2)).take ((zD.1).toNat)).drop 0:List AV).length∨((List.map (AV.int .u8) (sub zE (0:Int) (((zE).length:Nat):Int))):List AV).length=0),iC (by simp:(((sub zE (0:Int) (((zE).length:Nat):Int))++(((zD.2).take ((zD.1).toNat)).drop 0))).length=((List.map (AV.int .u8) ((sub zE (0:Int) (((zE).length:Nat):Int))++(((zD.2).take ((zD.1).toNat)).drop 0)))).length)] [0,5] [(4,.own 1 ((((sub zE (0:Int) (lN (zE)))++(((zD.2).take ((zD.1).toNat)).drop 0))).length))] [0] [(1,Rb 5 1 (Mb ((sub zE (0:Int) (lN (zE)))++(((zD.2).take ((zD.1).toNat)).drop 0))))] 2 (w0 [1] [] [(4,.own 0 ((((sub zE (0:Int) (lN (zE)))++(((zD.2).take ((zD.1).toNat)).drop 0))).length))] [(0,Rb 5 1 (Mb ((sub zE (0:Int) (lN (zE)))++(((zD.2).take ((zD.1).toNat)).drop 0))))] ?_));cases h;exact rt rx
theorem U7 (F:Nat) (zE:List (Int)) (zI:List Int) (r:(List (Int))) (h:A1 F zE zI=some r):yR prog 83 [] [] [Sb zE,.str zI] [.row 5 1 (Mb r)] (.own 0 ((r).length)):=by
 refine tI Go.Proofs.Tryz.f83 ?_;unfold A1 at h;refine sE [iH 0 { id:=0,m:=1 }] [(0,Sb zE),(1,.str zI)] [] 1 (sq (bE h fun zA zL h=>r2 [iK 3 { ids:=[1] } (kF F zE (lN (zI)) zA zL)] [0] [(5,.own 1 ((zA).length))] [] [(1,Rb 5 1 (Mb zA))] 2 (sq (nE h fun zX h=>r2 [iH 5 { id:=2,l:=(Mb (List.replicate ((zG ((lN (zA))+(lN (zI)))).toNat) (0:Int))),m:=(zG ((lN (zA))+(lN (zI)))).toNat,n:=(zG ((lN (zA))+(lN (zI)))).toNat },iC ((Int.toNat_of_nonneg zX.1).symm:zG ((lN (zA))+(lN (zI)))=(((zG ((lN (zA))+(lN (zI)))).toNat:Nat):Int)),iC ((Int.toNat_of_nonneg zX.1).symm:zG ((lN (zA))+(lN (zI)))=(((zG ((lN (zA))+(lN (zI)))).toNat:Nat):Int)),iC (Nat.le_refl _:((zG ((lN (zA))+(lN (zI)))).toNat)≤((zG ((lN (zA))+(lN (zI)))).toNat)),iC zX.2,iC (VN:(Mb (List.replicate ((zG ((lN (zA))+(lN (zI)))).toNat) (0:Int)))=List.replicate ((zG ((lN (zA))+(lN (zI)))).toNat) (Iu 0))] [] [(6,.own 2 ((zG ((lN (zA))+(lN (zI)))).toNat))] [] [(2,Rb 5 1 (Mb (List.replicate ((zG ((lN (zA))+(lN (zI)))).toNat) (0:Int))))] 3 (sq (nE h fun yQ h=>r2 [iH 2 { l:=(Mb (cpy (List.replicate ((zG ((lN (zA))+(lN (zI)))).toNat) (0:Int)) 0 ((zG ((lN (zA))+(lN (zI)))).toNat) zA)),n:=(min (zA).length ((zG ((lN (zA))+(lN (zI)))).toNat - 0)) },iM Fb zA,iC yQ.1,iC (KR yQ.2:((zG ((lN (zA))+(lN (zI)))).toNat)≤((Mb (List.replicate ((zG ((lN (zA))+(lN (zI)))).toNat) (0:Int)))).length),iC (by simp:(min (zA).length ((zG ((((zA).length:Nat):Int)+(((zI).length:Nat):Int))).toNat - 0))=min ((List.map (AV.int .u8) zA):List AV).length ((zG ((((zA).length:Nat):Int)+(((zI).length:Nat):Int))).toNat - 0)),iC (by simp [cpy]:(List.map (AV.int .u8) (cpy (List.replicate ((zG ((((zA).length:Nat):Int)+(((zI).length:Nat):Int))).toNat) (0:Int)) 0 ((zG ((((zA).length:Nat):Int)+(((zI).length:Nat):Int))).toNat) zA))=((List.map (AV.int .u8) (List.replicate ((zG ((((zA).length:Nat):Int)+(((zI).length:Nat):Int))).toNat) (0:Int)))).take 0++((List.map (AV.int .u8) zA):List AV).take (min (zA).length ((zG ((((zA).length:Nat):Int)+(((zI).length:Nat):Int))).toNat - 0))++((List.map (AV.int .u8) (List.replicate ((zG ((((zA).length:Nat):Int)+(((zI).length:Nat):Int))).toNat) (0:Int)))).drop (0+(min (zA).length ((zG ((((zA).length:Nat):Int)+(((zI).length:Nat):Int))).toNat - 0))))] [] [] [] [(2,Rb 5 1 (Mb (cpy (List.replicate ((zG ((lN (zA))+(lN (zI)))).toNat) (0:Int)) 0 ((zG ((lN (zA))+(lN (zI)))).toNat) zA)))] 3 (sq (nE h fun y9 h=>nE h fun xS h=>r2 [iH 5 { l:=(Mb (cpy (cpy (List.replicate ((zG ((lN (zA))+(lN (zI)))).toNat) (0:Int)) 0 ((zG ((lN (zA))+(lN (zI)))).toNat) zA) ((zA).length) ((zG ((lN (zA))+(lN (zI)))).toNat) zI)),n:=(min (zI).length ((zG ((lN (zA))+(lN (zI)))).toNat - (zA).length)) },iC (Int.natCast_nonneg _:(0:Int)≤(lN (zA))),iC y9,iC (Int.le_refl _:(((zG ((lN (zA))+(lN (zI)))).toNat:Nat):Int)≤(((zG ((lN (zA))+(lN (zI)))).toNat:Nat):Int)),iC trivial,iC xS.1,iC (KR xS.2:((zG ((lN (zA))+(lN (zI)))).toNat)≤((Mb (cpy (List.replicate ((zG ((lN (zA))+(lN (zI)))).toNat) (0:Int)) 0 ((zG ((lN (zA))+(lN (zI)))).toNat) zA))).length),iC (by simp:(min (zI).length ((zG ((((zA).length:Nat):Int)+(((zI).length:Nat):Int))).toNat - (zA).length))=min ((List.map (AV.int .u8) zI):List AV).length ((zG ((((zA).length:Nat):Int)+(((zI).length:Nat):Int))).toNat - (zA).length)),iC (by simp [cpy]:(List.map (AV.int .u8) (cpy (cpy (List.replicate ((zG ((((zA).length:Nat):Int)+(((zI).length:Nat):Int))).toNat) (0:Int)) 0 ((zG ((((zA).length:Nat):Int)+(((zI).length:Nat):Int))).toNat) zA) ((zA).length) ((zG ((((zA).length:Nat):Int)+(((zI).length:Nat):Int))).toNat) zI))=((List.map (AV.int .u8) (cpy (List.replicate ((zG ((((zA).length:Nat):Int)+(((zI).length:Nat):Int))).toNat) (0:Int)) 0 ((zG ((((zA).length:Nat):Int)+(((zI).length:Nat):Int))).toNat) zA))).take ((zA).length)++((List.map (AV.int .u8) zI):List AV).take (min (zI).length ((zG ((((zA).length:Nat):Int)+(((zI).length:Nat):Int))).toNat - (zA).length))++((List.map (AV.int .u8) (cpy (List.replicate ((zG ((((zA).length:Nat):Int)+(((zI).length:Nat):Int))).toNat) (0:Int)) 0 ((zG ((((zA).length:Nat):Int)+(((zI).length:Nat):Int))).toNat) zA))).drop ((zA).length+(min (zI).length ((zG ((((zA).length:Nat):Int)+(((zI).length:Nat):Int))).toNat - (zA).length))))] [5] [] [1] [(2,Rb 5 1 (Mb (cpy (cpy (List.replicate ((zG ((lN (zA))+(lN (zI)))).toNat) (0:Int)) 0 ((zG ((lN (zA))+(lN (zI)))).toNat) zA) ((zA).length) ((zG ((lN (zA))+(lN (zI)))).toNat) zI)))] 3 (s1 [] [6] [(4,.own 2 ((zG ((lN (zA))+(lN (zI)))).toNat))] (wz [2] [] [4] [] [(4,.own 0 (((cpy (cpy (List.replicate ((zG ((lN (zA))+(lN (zI)))).toNat) (0:Int)) 0 ((zG ((lN (zA))+(lN (zI)))).toNat) zA) ((zA).length) ((zG ((lN (zA))+(lN (zI)))).toNat) zI)).length))] [(0,Rb 5 1 (Mb (cpy (cpy (List.replicate ((zG ((lN (zA))+(lN (zI)))).toNat) (0:Int)) 0 ((zG ((lN (zA))+(lN (zI)))).toNat) zA) ((zA).length) ((zG ((lN (zA))+(lN (zI)))).toNat) zI)))] (ac (congrArg (AV.own _) ((X7 xS.1 xS.2).trans ((X7 yQ.1 yQ.2).trans List.length_replicate)).symm:(.own 2 ((zG ((lN (zA))+(lN (zI)))).toNat):AV)=.own 2 (((cpy (cpy (List.replicate ((zG ((lN (zA))+(lN (zI)))).toNat) (0:Int)) 0 ((zG ((lN (zA))+(lN (zI)))).toNat) zA) ((zA).length) ((zG ((lN (zA))+(lN (zI)))).toNat) zI)).length)) an) ?_))))))))));cases h;exact rt rx
theorem QI (F:Nat) (zE:List (Int)) (zI:yU) (r:(List (Int))) (h:oJ F zE zI=some r):yR prog 84 [] [] [Sb zE,z6 zI] [] (Sb r):=by
 refine tI Go.Proofs.Tryz.f84 ?_;unfold oJ at h;refine sE [iH 0 { id:=0 }] [(0,Sb zE),(3,Pp 0)] [(0,Vb 76 (kY zI))] 1 (sq (s2 [iH 12 { id:=1 }] [3] [(19,.own 1 5),(20,Ii ((5:Nat):Int)),(21,Ii 0)] [0] [(1,Rb 3 1 (Mi ([zI.A,zI.AtA,zI.B,zI.AtB.Lo,zI.AtB.Hi]:List Int)))] 2 (bE h fun zD zL h=>?_)));refine xR (mk [(0,Sb zD)] [] 0) ?_ ?_
 ·replace h:=zL;refine yN (id:=0) zk ?_;refine wz [1] [] [19] [] [(0,Sb zE),(19,.own 0 ((([zI.A,zI.AtA,zI.B,zI.AtB.Lo,zI.AtB.Hi]:List Int)).length)),(20,Ii ((5:Nat):Int)),(21,Ii 0)] [(0,Rb 3 1 (Mi ([zI.A,zI.AtA,zI.B,zI.AtB.Lo,zI.AtB.Hi]:List Int)))] (ac (congrArg (AV.own _) (by first | (simp;done) | (simp;omega)):(.own 1 5:AV)=.own 1 ((([zI.A,zI.AtA,zI.B,zI.AtB.Lo,zI.AtB.Hi]:List Int)).length)) an) ?_;refine wC (fun n st=>∃ (cM:List Int),∃ (zM:Int),st=mk [(0,Sb cM),(19,.own 0 ((([zI.A,zI.AtA,zI.B,zI.AtB.Lo,zI.AtB.Hi]:List Int)).length)),(20,Ii ((5:Nat):Int)),(21,Ii zM)] [(0,Rb 3 1 (Mi ([zI.A,zI.AtA,zI.B,zI.AtB.Lo,zI.AtB.Hi]:List Int)))] 1∧lX F zI n cM zM=some zD) F zk ⟨_,_,rfl,h⟩ ?_ ?_
  ·rintro _ ⟨_,_,_,h⟩;exact wB (h:(none:Option (List Int))=some zD)
  rintro z7 _ ⟨cM,zM,rfl,h⟩;replace h:mE F zI (lX F zI z7) cM zM=some zD:=h;unfold mE at h;refine s0 [] [(22,.bool (decide (zM<((5:Nat):Int))))] (sq (ch 22 h ?_ ?_))
  rotate_left
  ·intro yC h;refine x8 (id:=0) zk ?_;cases h;exact ⟨rfl,(sw [] [] [.s 0] [] an)⟩
  intro yC h;refine sk (sq ?_);refine yN (id:=1) zk ?_;refine sq (bE h fun zH zX h=>r0 [iH 1 { av:=Ii zH },iC (qB zX:(0:Int)≤zM),iC (by first | (simp;done) | simpa using t7 zX:zM<(((([zI.A,zI.AtA,zI.B,zI.AtB.Lo,zI.AtB.Hi]:List Int)).length:Nat):Int)),iC (t9 zX:(Mi ([zI.A,zI.AtA,zI.B,zI.AtB.Lo,zI.AtB.Hi]:List Int))[(zM).toNat]?=some (Ii zH))] [(6,Ii zH)] (bE h fun zA yQ h=>r2 [iK 2 { ids:=[1] } (kF F cM zH zA yQ)] [] [(0,.own 1 ((zA).length))] [] [(1,Rb 5 1 (Mb zA))] 2 (r0 [] [(21,Ii (zG (zM+(1:Int))))] ?_)));exact ⟨_,(Sub.trans (f0 [0] [1] [.a 0 (Sb zA),.s 19,.s 20,.s 21] [.s 0] (sl2:=[(0,Sb zA),(19,.own 0 ((([zI.A,zI.AtA,zI.B,zI.AtB.Lo,zI.AtB.Hi]:List Int)).length)),(20,Ii ((5:Nat):Int)),(21,Ii (zG (zM+(1:Int))))]) (bx2:=[(0,Rb 3 1 (Mi ([zI.A,zI.AtA,zI.B,zI.AtB.Lo,zI.AtB.Hi]:List Int)))]) zk (ac (by first | (simp;done) | (simp;omega):(zA).length=((List.map (AV.int .u8) zA)).length) (ar 1 (ar ((Mb zA):List AV) (ac (rfl:(!false||false)=true) an))))) (sw [0] [] [.s 0,.s 19,.s 20,.s 21] [.s 0] an)),_,_,rfl,h⟩
 refine s1 [] [0] [(4,Sb zD)] ?_;cases h;exact rt rx
theorem T7 (F:Nat) (zL:yF) (r:(List (Int))) (h:AK F zL=some r):yR prog 41 [] [] [u7 zL] [] (Sb r):=by
 refine tI Go.Proofs.Tryz.f41 ?_;unfold AK at h;refine sE [iH 0 { id:=0 }] [(1,Pp 0)] [(0,Vb 28 (w6 zL))] 1 (sq (bE h fun zA zX h=>r2 [iN 2 yD zL.Threads,iL 3 { ids:=[1] } [.nilsl,Ii (lN (zL.Threads))] (kF F [] (lN (zL.Threads)) zA zX) ⟨rfl,rfl,trivial⟩] [] [(3,.own 1 ((zA).length))] [] [(1,Rb 5 1 (Mb zA))] 2 (sq (s0 [iN 2 yD zL.Threads] [(15,Sq 3 yD zL.Threads),(16,Ii (lN (zL.Threads))),(17,Ii 0)] (bE h fun zD yQ h=>?_)))));refine xR (mk [(1,Pp 0),(3,.own 1 ((zD).length))] [(0,Vb 28 (w6 zL)),(1,Rb 5 1 (Mb zD))] 2) ?_ ?_
 ·replace h:=yQ;refine yN (id:=0) zk ?_;refine w0 [0,1] [] [(1,Pp 0),(3,.own 1 ((zA).length)),(15,Sq 3 yD zL.Threads),(16,Ii (lN (zL.Threads))),(17,Ii 0)] [(0,Vb 28 (w6 zL)),(1,Rb 5 1 (Mb zA))] ?_;refine wC (fun n st=>∃ (zM:Int),∃ (zF:List Int),st=mk [(1,Pp 0),(3,.own 1 ((zF).length)),(15,Sq 3 yD zL.Threads),(16,Ii (lN (zL.Threads))),(17,Ii zM)] [(0,Vb 28 (w6 zL)),(1,Rb 5 1 (Mb zF))] 2∧mO F zL n zM zF=some zD) F zk ⟨_,_,rfl,h⟩ ?_ ?_
  ·rintro _ ⟨_,_,_,h⟩;exact wB (h:(none:Option (List Int))=some zD)
  rintro z7 _ ⟨zM,zF,rfl,h⟩;replace h:JB F zL (mO F zL z7) zM zF=some zD:=h;unfold JB at h;refine s0 [] [(18,.bool (decide (zM<(lN (zL.Threads)))))] (sq (ch 18 h ?_ ?_))
  rotate_left
  ·intro yC h;refine x8 (id:=0) zk ?_;cases h;exact ⟨rfl,(sw [0,1] [] [.s 1,.s 3] [.s 0,.s 1] an)⟩
  intro yC h;refine sk (sq ?_);refine yN (id:=1) zk ?_;refine sq (bE h fun zH y9 h=>r2 [iH 2 { id:=2 },iF 0 yD y9] [] [(5,Pp 2)] [] [(2,Vb 85 (jE zH))] 3 (bE h fun zC xS h=>bE h fun zJ wA h=>bE h fun zS wP h=>r2 [iM Fb zF,iK 3 { frz:=[1],ids:=[3] } (kF F zF zH.Id zC xS),iM Fb zC,iK 6 { frz:=[3],ids:=[4] } (U7 F zC zH.Name zJ wA),iM Fb zJ,iK 9 { frz:=[4],ids:=[5] } (kF F zJ zH.Domain zS wP)] [5] [(3,.own 5 ((zS).length))] [1,2] [(5,Rb 5 1 (Mb zS))] 6 (r0 [] [(17,Ii (zG (zM+(1:Int))))] ?_)));exact ⟨_,(sw [0,5] [] [.s 1,.s 3,.s 15,.s 16,.s 17] [.s 0,.s 1] an),_,_,rfl,h⟩
 refine sq (bE h fun zV vA h=>r2 [iN 3 z5 zL.Domains,iM Fb zD,iK 4 { frz:=[1],ids:=[2] } (kF F zD (lN (zL.Domains)) zV vA)] [] [(3,.own 2 ((zV).length))] [1] [(2,Rb 5 1 (Mb zV))] 3 (sq (s0 [iN 2 z5 zL.Domains] [(38,Sq 2 z5 zL.Domains),(39,Ii (lN (zL.Domains))),(40,Ii 0)] (bE h fun zR vN h=>?_))));refine xR (mk [(1,Pp 0),(3,.own 1 ((zR).length))] [(0,Vb 28 (w6 zL)),(1,Rb 5 1 (Mb zR))] 2) ?_ ?_
 ·replace h:=vN;refine yN (id:=2) zk ?_;refine w0 [0,2] [] [(1,Pp 0),(3,.own 1 ((zV).length)),(38,Sq 2 z5 zL.Domains),(39,Ii (lN (zL.Domains))),(40,Ii 0)] [(0,Vb 28 (w6 zL)),(1,Rb 5 1 (Mb zV))] ?_;refine wC (fun n st=>∃ (wK:Int),∃ (zY:List Int),st=mk [(1,Pp 0),(3,.own 1 ((zY).length)),(38,Sq 2 z5 zL.Domains),(39,Ii (lN (zL.Domains))),(40,Ii wK)] [(0,Vb 28 (w6 zL)),(1,Rb 5 1 (Mb zY))] 2∧AI F zL n wK zY=some zR) F zk ⟨_,_,rfl,h⟩ ?_ ?_
  ·rintro _ ⟨_,_,_,h⟩;exact wB (h:(none:Option (List Int))=some zR)
  rintro uI _ ⟨wK,zY,rfl,h⟩;replace h:H7 F zL (AI F zL uI) wK zY=some zR:=h;unfold H7 at h;refine s0 [] [(41,.bool (decide (wK<(lN (zL.Domains)))))] (sq (ch 41 h ?_ ?_))
  rotate_left
  ·intro yY h;refine x8 (id:=2) zk ?_;cases h;exact ⟨rfl,(sw [0,1] [] [.s 1,.s 3] [.s 0,.s 1] an)⟩
  intro yY h;refine sk (sq ?_);refine yN (id:=3) zk ?_;refine sq (bE h fun yH uG h=>r2 [iH 2 { id:=2 },iF 0 z5 uG] [] [(7,Pp 2)] [] [(2,Vb 87 (AX yH))] 3 (bE h fun yA uJ h=>bE h fun yV tB h=>r2 [iM Fb zY,iK 3 { frz:=[1],ids:=[3] } (kF F zY yH.Id yA uJ),iM Fb yA,iK 6 { frz:=[3],ids:=[4] } (kF F yA yH.Ppm yV tB)] [7] [(3,.own 4 ((yV).length))] [1,2] [(4,Rb 5 1 (Mb yV))] 5 (r0 [] [(40,Ii (zG (wK+(1:Int))))] ?_)));exact ⟨_,(sw [0,4] [] [.s 1,.s 3,.s 38,.s 39,.s 40] [.s 0,.s 1] an),_,_,rfl,h⟩
 refine sq (bE h fun yI tP h=>r2 [iN 3 z6 zL.Snaps,iM Fb zR,iK 4 { frz:=[1],ids:=[2] } (kF F zR (lN (zL.Snaps)) yI tP)] [] [(3,.own 2 ((yI).length))] [1] [(2,Rb 5 1 (Mb yI))] 3 (sq (s2 [iN 2 z6 zL.Snaps] [1] [(58,Sq 5 z6 zL.Snaps),(59,Ii (lN (zL.Snaps))),(60,Ii 0)] [0] [] 3 (bE h fun yL uY h=>?_))));refine xR (mk [(3,Sb yL)] [] 0) ?_ ?_
 ·replace h:=uY;refine yN (id:=4) zk ?_;refine wz [] [2] [3] [] [(3,Sb yI),(58,Sq 5 z6 zL.Snaps),(59,Ii (lN (zL.Snaps))),(60,Ii 0)] [] (ac (by first | (simp;done) | (simp;omega):(yI).length=((List.map (AV.int .u8) yI)).length) (ar 1 (ar ((Mb yI):List AV) (ar true an)))) (w0 [] [] [(3,Sb yI),(58,Sq 5 z6 zL.Snaps),(59,Ii (lN (zL.Snaps))),(60,Ii 0)] [] ?_);refine wC (fun n st=>∃ (zE:List Int),∃ (vI:Int),st=mk [(3,Sb zE),(58,Sq 5 z6 zL.Snaps),(59,Ii (lN (zL.Snaps))),(60,Ii vI)] [] 0∧AR F zL n zE vI=some yL) F zk ⟨_,_,rfl,h⟩ ?_ ?_
  ·rintro _ ⟨_,_,_,h⟩;exact wB (h:(none:Option (List Int))=some yL)
  rintro qC _ ⟨zE,vI,rfl,h⟩;replace h:ES F zL (AR F zL qC) zE vI=some yL:=h;unfold ES at h;refine s0 [] [(61,.bool (decide (vI<(lN (zL.Snaps)))))] (sq (ch 61 h ?_ ?_))
  rotate_left
  ·intro xF h;refine x8 (id:=4) zk ?_;cases h;exact ⟨rfl,(sw [] [] [.s 3] [] an)⟩
  intro xF h;refine sk (sq ?_);refine yN (id:=5) zk ?_;refine sq (bE h fun xA qS h=>r2 [iH 2 { id:=0 },iF 0 z6 qS] [] [(9,Pp 0)] [] [(0,Vb 76 (kY xA))] 1 (bE h fun yO qT h=>r2 [iK 2 {} (QI F zE xA yO qT)] [9] [(3,Sb yO)] [0] [] 1 (r0 [] [(60,Ii (zG (vI+(1:Int))))] ?_)));exact ⟨_,(sw [] [] [.s 3,.s 58,.s 59,.s 60] [] an),_,_,rfl,h⟩
 refine s1 [] [3] [(2,Sb yL)] ?_;cases h;exact rt rx
theorem Y0 (F:Nat) (zE:List (Int)) (r:Int) (h:EG F zE=some r):yR prog 103 [] [] [Sb zE] [] (Ii r):=by
 refine tI Go.Proofs.Tryz.f103 ?_;unfold EG at h;refine sE [] [(0,Sb zE)] [] 0 (s0 [] [(3,.int .u32 (4294967295:Int))] (sq (s1 [iN 1 Fb zE] [0] [(7,Sb zE),(8,Ii (lN (zE))),(9,Ii 0)] (bE h fun zD zL h=>?_))));refine xR (mk [(3,.int .u32 zD)] [] 0) ?_ ?_
 ·replace h:=zL;refine yN (id:=0) zk ?_;refine w0 [] [] [(3,.int .u32 (4294967295:Int)),(7,Sb zE),(8,Ii (lN (zE))),(9,Ii 0)] [] ?_;refine wC (fun n st=>∃ (zH:Int),∃ (zM:Int),st=mk [(3,.int .u32 zH),(7,Sb zE),(8,Ii (lN (zE))),(9,Ii zM)] [] 0∧oO F zE n zH zM=some zD) F zk ⟨_,_,rfl,h⟩ ?_ ?_
  ·rintro _ ⟨_,_,_,h⟩;exact wB (h:(none:Option Int)=some zD)
  rintro z7 _ ⟨zH,zM,rfl,h⟩;replace h:H9 F zE (oO F zE z7) zH zM=some zD:=h;unfold H9 at h;refine s0 [] [(10,.bool (decide (zM<(lN (zE)))))] (sq (ch 10 h ?_ ?_))
  rotate_left
  ·intro yC h;refine x8 (id:=0) zk ?_;cases h;exact ⟨rfl,(sw [] [] [.s 3] [] an)⟩
  intro yC h;refine sk (sq ?_);refine yN (id:=1) zk ?_;refine sq (bE h fun yH zX h=>r0 [iF 0 Fb zX] [(5,Iu yH)] (s0 [] [(3,.int .u32 (tJ .u32 zH (gI yH)))] (s0 [] [(17,Ii 0)] (bE h fun zR yQ h=>?_))));refine xR (mk [(3,.int .u32 zR),(7,Sb zE),(8,Ii (lN (zE))),(9,Ii zM)] [] 0) ?_ ?_
  ·replace h:=yQ;refine yN (id:=2) zk ?_;refine w0 [] [] [(3,.int .u32 (tJ .u32 zH (gI yH))),(7,Sb zE),(8,Ii (lN (zE))),(9,Ii zM),(17,Ii 0)] [] ?_;refine wC (fun n st=>∃ (xA:Int),∃ (wK:Int),st=mk [(3,.int .u32 xA),(7,Sb zE),(8,Ii (lN (zE))),(9,Ii zM),(17,Ii wK)] [] 0∧d9 F n xA wK=some zR) F zk ⟨_,_,rfl,h⟩ ?_ ?_
   ·rintro _ ⟨_,_,_,h⟩;exact wB (h:(none:Option Int)=some zR)
   rintro uI _ ⟨xA,wK,rfl,h⟩;replace h:m3 F (d9 F uI) xA wK=some zR:=h;unfold m3 at h;refine s0 [] [(18,.bool (decide (wK<(8:Int))))] (sq (ch 18 h ?_ ?_))
   rotate_left
   ·intro yY h;refine x8 (id:=2) zk ?_;cases h;exact ⟨rfl,(sw [] [] [.s 3,.s 7,.s 8,.s 9] [] an)⟩
   intro yY h;refine sk (sq ?_);refine yN (id:=3) zk ?_;refine s0 [] [(6,.int .u32 (tK .u32 xA (1:Int)))] (s0 [iC (by decide:(0:Int)≤(1:Int))] [(3,.int .u32 (jC .u32 xA (1:Int)))] (c0 [] 24 h [] ?_ ?_))
   ·intro xF h;refine r0 [] [(3,.int .u32 (tJ .u32 (jC .u32 xA (1:Int)) (3988292384:Int)))] (r0 [] [(17,Ii (zG (wK+(1:Int))))] ?_);exact ⟨_,(sw [] [] [.s 3,.s 7,.s 8,.s 9,.s 17] [] an),_,_,rfl,h⟩
   intro xF h;refine sk (r0 [] [(17,Ii (zG (wK+(1:Int))))] ?_);exact ⟨_,(sw [] [] [.s 3,.s 7,.s 8,.s 9,.s 17] [] an),_,_,rfl,h⟩
  refine r0 [] [(9,Ii (zG (zM+(1:Int))))] ?_;exact ⟨_,(sw [] [] [.s 3,.s 7,.s 8,.s 9] [] an),_,_,rfl,h⟩
 refine s0 [] [(2,Ii (zG (tJ .u32 (4294967295:Int) zD)))] ?_;cases h;exact rt rx
theorem SN (F:Nat) (jB:Int) (zE:List (Int)) (r:Int) (h:rU F jB zE=some r):yR prog 64 [] [] [Iu jB,Sb zE] [] (Ii r):=by
 refine tI Go.Proofs.Tryz.f64 ?_;unfold rU at h;refine sE [] [(0,Iu jB),(1,Sb zE)] [] 0 (sq (nE h fun zL h=>bE h fun zA zX h=>r2 [iH 1 { id:=0 },iH 3 { id:=1,l:=(Mb (([jB]:List Int)++zE)),n:=((([jB]:List Int)++zE)).length },iA 1,iC trivial,iC (uE _ _:(Mb (([jB]:List Int)++zE))=(Mb ([jB]:List Int))++(Mb zE)),iC (by simp:((([jB]:List Int)++zE)).length=((List.map (AV.int .u8) (([jB]:List Int)++zE))).length),iC (by first | (simp;done) | simpa using zL:(((List.map (AV.int .u8) ([jB]:List Int)):List AV).length+((List.map (AV.int .u8) zE):List AV).length) * 1≤140737488355328),iM Fb (([jB]:List Int)++zE),iK 4 { frz:=[1] } (Y0 F (([jB]:List Int)++zE) zA zX)] [1] [(4,Ii zA)] [] [] 2 ?_));cases h;exact rt rx
theorem HP (F:Nat) (jB:Int) (zE:List (Int)) (r:(List (Int))) (h:i9 F jB zE=some r):yR prog 22 [] [] [Iu jB,Sb zE] [.row 5 1 (Mb r)] (.own 0 ((r).length)):=by
 refine tI Go.Proofs.Tryz.f22 ?_;unfold i9 at h;refine sE [iH 0 { id:=0,m:=1 }] [(0,Iu jB),(1,Sb zE)] [] 1 (sq (bE h fun zA zL h=>r2 [iH 1 { id:=1 },iN 3 Fb zE,iA 1,iK 4 { frz:=[1],ids:=[2] } (kF F ([jB]:List Int) (lN (zE)) zA zL)] [] [(5,.own 2 ((zA).length))] [] [(2,Rb 5 1 (Mb zA))] 3 (sq (bE h fun zC zX h=>bE h fun zJ yQ h=>nE h fun y9 h=>r2 [iH 6 { id:=4,l:=(Mb (zJ++zE)),n:=((zJ++zE)).length },iK 3 {} (SN F jB zE zC zX),iM Fb zA,iK 4 { frz:=[2],ids:=[3] } (kF F zA zC zJ yQ),iM Fb zJ,iC trivial,iC (uE _ _:(Mb (zJ++zE))=(Mb zJ)++(Mb zE)),iC (by simp:((zJ++zE)).length=((List.map (AV.int .u8) (zJ++zE))).length),iC (by first | (simp;done) | simpa using y9:(((List.map (AV.int .u8) zJ):List AV).length+((List.map (AV.int .u8) zE):List AV).length) * 1≤140737488355328)] [1,5] [(4,.own 4 (((zJ++zE)).length))] [2] [(4,Rb 5 1 (Mb (zJ++zE)))] 5 (w0 [4] [] [(4,.own 0 (((zJ++zE)).length))] [(0,Rb 5 1 (Mb (zJ++zE)))] ?_)))));cases h;exact rt rx
theorem SA (zI:List (Int)) (r:(List (Int))) (h:MO zI=some r):yR prog 68 [] [] [Sb zI] [.row 5 1 (Mb r)] (.own 0 ((r).length)):=by
 refine tI Go.Proofs.Tryz.f68 ?_;unfold MO at h;refine sE [iH 0 { id:=0,m:=1 }] [(0,Sb zI)] [] 1 (sq (s0 [] [(4,.nb (Mb zI))] ?_));refine GR (t:=4) (l:=(Mb zI)) zk zk ?_ ?_
 ·intro zX;replace zX:=List.map_eq_nil_iff.1 zX;replace h:=Eq.trans (show (some [])=((need (((([]:List Int)).length+(zI).length) * 1≤140737488355328)).bind fun _ =>
 some ([]++zI)) from by simp [zX,need]) h
  refine sE [iH 0 { id:=1,m:=1 }] [(2,.own 1 0)] [(1,Rb 5 1 [])] 2 (wz [1] [] [2] [] [(2,.own 0 ((([]:List Int)).length))] [(0,Rb 5 1 [])] (ac (congrArg (AV.own _) (by first | (simp;done) | (simp;omega)):(.own 1 0:AV)=.own 1 ((([]:List Int)).length)) an) ?_);cases h;exact rt rx
 refine sk (sq (nE h fun zL h=>rE [iH 0 { id:=1 },iH 2 { id:=2,l:=(Mb ([]++zI)),n:=(([]++zI)).length },iA 0,iC trivial,iC (by simp:(List.map (AV.int .u8) ([]++zI))=[]++(List.map (AV.int .u8) zI)),iC (by simp:(([]++zI)).length=((List.map (AV.int .u8) ([]++zI))).length),iC (by first | (simp;done) | simpa using zL:(([]:List AV).length+((List.map (AV.int .u8) zI):List AV).length) * 1≤140737488355328)] [(2,.own 2 ((([]++zI)).length))] [(2,Rb 5 1 (Mb ([]++zI)))] 3 (w0 [2] [] [(2,.own 0 ((([]++zI)).length))] [(0,Rb 5 1 (Mb ([]++zI)))] ?_)));cases h;exact rt rx
theorem MB (zN:xO) (r:xO×Int) (h:fI zN=some r):yR prog 67 [] [] [qN zN] [] (.tuple [qN r.1,Ii r.2]):=by
 refine tI Go.Proofs.Tryz.f67 ?_;unfold fI at h;refine sE [iH 0 { id:=0 },iH 1 { id:=1 }] [(1,Pp 0),(2,Pp 1)] [(0,Vb 36 (xY zN)),(1,jS)] 2 (sq (sq (bE h fun zA zL h=>r0 [iK 1 {} (BP zN zA zL)] [(4,Ii zA)] (c0 [] 8 h [] ?_ ?_))))
 ·intro yC h;refine s2 [] [1] [(3,Ii zA)] [0] [] 2 (wz [1] [] [] [0] [(2,Pp 0),(3,Ii zA)] [(0,Vb 36 (xY zL0))] (ar 36 (ar true (ar (Ii 0) (ar ([]:List AV) (ar (Ii 0) (ar (Ii 0) (ar (.bool false:AV) an))))))) ?_);cases h;exact rt rx
 intro yC h;refine sk (sq (c0 [] 12 h [] ?_ ?_))
 ·intro yY h;refine s2 [] [1] [(3,Ii 19)] [0] [(1,Vb 36 (xY zN))] 2 (w0 [1] [] [(2,Pp 0),(3,Ii 19)] [(0,Vb 36 (xY zN))] ?_);cases h;exact rt rx
 intro yY h;refine sk (sq (bE h fun zC zX h=>r2 [iK 2 { ids:=[2] } (SA zN.Data zC zX)] [] [] [] [(0,Vb 36 [Ii zN.Size,.own 2 ((zC).length),Ii zN.Durable,Ii zN.Left,.bool zN.Down]),(2,Rb 5 1 (Mb zC))] 3 (s2 [] [1] [(3,Ii 0)] [0] [(1,Vb 36 [Ii zN.Size,.own 2 ((zC).length),Ii zN.Durable,Ii zN.Left,.bool zN.Down])] 3 (wz [1] [2] [] [0] [(2,Pp 0),(3,Ii 0)] [(0,Vb 36 (xY (⟨zN.Size,zC,zN.Durable,zN.Left,zN.Down⟩:xO)))] (ar 36 (ar true (ac (by first | (simp;done) | (simp;omega):(zC).length=((List.map (AV.int .u8) zC)).length) (ar (Ii zN.Size) (ar 1 (ar (Mb zC) (ar true (ar (Ii zN.Durable) (ar (Ii zN.Left) (ar (.bool zN.Down:AV) an)))))))))) ?_))));cases h;exact rt rx
theorem zEe (zN:xO) (r:xO×Int) (h:fI zN=some r) (he:(r.2 != (0:Int))=false):yR prog 67 [] [] [qN zN] [.row 5 1 (Mb r.1.Data)] (.tuple [.agg [Ii r.1.Size,.own 0 ((r.1.Data).length),Ii r.1.Durable,Ii r.1.Left,.bool r.1.Down],Ii r.2]):=by
 refine tI Go.Proofs.Tryz.f67 ?_;unfold fI at h;refine sE [iH 0 { id:=0 },iH 1 { id:=1 }] [(1,Pp 0),(2,Pp 1)] [(0,Vb 36 (xY zN)),(1,jS)] 2 (sq (sq (bE h fun zA zL h=>r0 [iK 1 {} (BP zN zA zL)] [(4,Ii zA)] (c0 [] 8 h [] ?_ ?_))))
 ·intro yC h;refine s2 [] [1] [(3,Ii zA)] [0] [] 2 ?_;cases h;exact Bool.noConfusion (yC.symm.trans he)
 intro yC h;refine sk (sq (c0 [] 12 h [] ?_ ?_))
 ·intro yY h;refine s2 [] [1] [(3,Ii 19)] [0] [(1,Vb 36 (xY zN))] 2 ?_;cases h;exact absurd he (by simp)
 intro yY h;refine sk (sq (bE h fun zC zX h=>r2 [iK 2 { ids:=[2] } (SA zN.Data zC zX)] [] [] [] [(0,Vb 36 [Ii zN.Size,.own 2 ((zC).length),Ii zN.Durable,Ii zN.Left,.bool zN.Down]),(2,Rb 5 1 (Mb zC))] 3 (s2 [] [1] [(3,Ii 0)] [0] [(1,Vb 36 [Ii zN.Size,.own 2 ((zC).length),Ii zN.Durable,Ii zN.Left,.bool zN.Down])] 3 (wz [2,1] [] [] [0,1] [(2,Pp 1),(3,Ii 0)] [(0,Rb 5 1 (Mb ((⟨zN.Size,zC,zN.Durable,zN.Left,zN.Down⟩:xO).Data))),(1,Vb 36 [Ii ((⟨zN.Size,zC,zN.Durable,zN.Left,zN.Down⟩:xO).Size),.own 0 (((⟨zN.Size,zC,zN.Durable,zN.Left,zN.Down⟩:xO).Data).length),Ii ((⟨zN.Size,zC,zN.Durable,zN.Left,zN.Down⟩:xO).Durable),Ii ((⟨zN.Size,zC,zN.Durable,zN.Left,zN.Down⟩:xO).Left),.bool ((⟨zN.Size,zC,zN.Durable,zN.Left,zN.Down⟩:xO).Down)])] (ar 5 (ar 1 (ar (Mb zC) (ar 36 (ar true (ar (Ii zN.Size) (ac (congrArg (AV.own _) (by first | (simp;done) | (simp;omega)):(.own 2 ((zC).length):AV)=.own 2 (((⟨zN.Size,zC,zN.Durable,zN.Left,zN.Down⟩:xO).Data).length)) (ar (Ii zN.Durable) (ar (Ii zN.Left) (ar (.bool zN.Down:AV) an)))))))))) ?_))));cases h;exact rt rx
theorem zBK (zN:xO) (zE:List (Int)) (r:xO×Int) (h:QX zN zE=some r):yR prog 82 [] [] [qN zN,Sb zE] [] (.tuple [qN r.1,Ii r.2]):=by
 refine tI Go.Proofs.Tryz.f82 ?_;unfold QX at h;refine sE [iH 0 { id:=0 },iH 1 { id:=1 }] [(1,Sb zE),(2,Pp 0),(4,Pp 1)] [(0,Vb 36 (xY zN)),(1,jS)] 2 ?_;refine tT (qV 1 1 2 5 1 zk) ?_;refine w0 [0,1,2] [] [(1,Sb zE),(2,Pp 0),(4,Pp 1)] [(0,Vb 36 (xY zN)),(1,Vb 36 [Ii 0,.own 2 0,Ii 0,Ii 0,.bool false]),(2,Rb 5 1 [])] (sq (bE h fun zA zL h=>?_));rcases bft (zA.2 != (0:Int)) with gf_1 | gf_1
 ·replace h:=xK gf_1 h;refine r2 [iK 1 {} (MB zN zA zL)] [] [(6,Ii zA.2)] [] [(0,Vb 36 (xY zA.1))] 3 (sq (s0 [] [(13,.bool (zA.2 != (0:Int)))] (cd 13 (zA.2 != (0:Int)) ?_ ?_)))
  rotate_left
  ·intro hg;exact Bool.noConfusion ((gf_1).symm.trans hg)
  intro _;refine s2 [] [1,2] [(5,Ii zA.2)] [0,2] [(1,Vb 36 (xY zA.1))] 3 (w0 [1] [] [(4,Pp 0),(5,Ii zA.2)] [(0,Vb 36 (xY zA.1))] ?_);cases h;exact rt rx
 replace h:=xJ gf_1 h;refine r2 [iK 1 { ids:=[3] } (zEe zN zA zL gf_1)] [] [(6,Ii zA.2)] [] [(0,Vb 36 [Ii zA.1.Size,.own 3 ((zA.1.Data).length),Ii zA.1.Durable,Ii zA.1.Left,.bool zA.1.Down]),(3,Rb 5 1 (Mb zA.1.Data))] 4 (sq (s0 [] [(13,.bool (zA.2 != (0:Int)))] (cd 13 (zA.2 != (0:Int)) ?_ ?_)))
 ·intro hg;exact Bool.noConfusion ((gf_1).symm.trans hg)
 intro _;refine sk (sq (c0 [iN 4 Fb zE] 24 h [] ?_ ?_))
 ·intro yC h;refine s2 [] [1,2] [(5,Ii 6)] [0,2,3] [(1,jS)] 4 ?_;refine tT (qV 1 1 4 5 1 zk) ?_;refine w0 [1,4] [] [(4,Pp 0),(5,Ii 6)] [(0,Vb 36 [Ii 0,.own 1 0,Ii 0,Ii 0,.bool false]),(1,Rb 5 1 [])] (wz [0] [1] [] [0] [(4,Pp 0),(5,Ii 6)] [(0,Vb 36 (xY zL0))] (ar 36 (ar true (ac (by first | (simp;done) | (simp;omega):0=(([]:List AV)).length) (ar (Ii 0) (ar 1 (ar ([]:List AV) (ar true (ar (Ii 0) (ar (Ii 0) (ar (.bool false:AV) an)))))))))) ?_);cases h;exact rt rx
 intro yC h;refine sk (sq (sq ?_));refine xR (mk [(1,Sb zE),(2,Pp 0),(4,Pp 2),(35,.bool (decide (zA.1.Left≥(0:Int))&&decide (zA.1.Left<(lN (zE)))))] [(0,Vb 36 [Ii zA.1.Size,.own 1 ((zA.1.Data).length),Ii zA.1.Durable,Ii zA.1.Left,.bool zA.1.Down]),(1,Rb 5 1 (Mb zA.1.Data)),(2,Vb 36 [Ii 0,.own 3 0,Ii 0,Ii 0,.bool false]),(3,Rb 5 1 [])] 4) ?_ ?_
 ·rcases bft (decide (zA.1.Left≥(0:Int))) with zT | zT
  ·refine r0 [iH 9 Ht,iR 4 zT,iN 7 Fb zE,iR 2 zT] [(35,.bool (decide (zA.1.Left<(lN (zE)))))] ?_;exact ⟨rfl,(sw [0,3,1,2] [] [.s 1,.s 2,.s 4,.a 35 (.bool (decide (zA.1.Left≥(0:Int))&&decide (zA.1.Left<(lN (zE)))))] [.s 0,.s 1,.s 2,.s 3] (ac (congrArg AV.bool (v9 zT rfl):(.bool (decide (zA.1.Left<(lN (zE)))):AV)=.bool (decide (zA.1.Left≥(0:Int))&&decide (zA.1.Left<(lN (zE))))) an))⟩
  ·refine r0 [iG 4 5,iH 9 Hf,iR 6 zT] [(35,.bool false)] ?_;exact ⟨rfl,(sw [0,3,1,2] [] [.s 1,.s 2,.s 4,.a 35 (.bool (decide (zA.1.Left≥(0:Int))&&decide (zA.1.Left<(lN (zE)))))] [.s 0,.s 1,.s 2,.s 3] (ac (congrArg AV.bool (u5 zT):(.bool false:AV)=.bool (decide (zA.1.Left≥(0:Int))&&decide (zA.1.Left<(lN (zE))))) an))⟩
 refine ch 35 h ?_ ?_
 ·intro yY h;refine sq (nE h fun zX h=>nE h fun yQ h=>r2 [iH 6 { id:=4,l:=(Mb (zA.1.Data++(sub zE (0:Int) zA.1.Left))),n:=((zA.1.Data++(sub zE (0:Int) zA.1.Left))).length },iS 5 Fb zE (0:Int) zA.1.Left (by decide) zX.1 zX.2,iM Fb zA.1.Data,iC trivial,iC (uE _ _:(Mb (zA.1.Data++(sub zE (0:Int) zA.1.Left)))=(Mb zA.1.Data)++(Mb (sub zE (0:Int) zA.1.Left))),iC (by simp:((zA.1.Data++(sub zE (0:Int) zA.1.Left))).length=((List.map (AV.int .u8) (zA.1.Data++(sub zE (0:Int) zA.1.Left)))).length),iC (by first | (simp;done) | simpa using yQ:(((List.map (AV.int .u8) zA.1.Data):List AV).length+((List.map (AV.int .u8) (sub zE (0:Int) zA.1.Left)):List AV).length) * 1≤140737488355328)] [1] [] [1] [(0,Vb 36 [Ii zA.1.Size,.own 4 (((zA.1.Data++(sub zE (0:Int) zA.1.Left))).length),Ii zA.1.Durable,Ii zA.1.Left,.bool zA.1.Down]),(4,Rb 5 1 (Mb (zA.1.Data++(sub zE (0:Int) zA.1.Left))))] 5 (s2 [] [] [] [] [(0,Vb 36 [Ii zA.1.Size,.own 4 (((zA.1.Data++(sub zE (0:Int) zA.1.Left))).length),Ii zA.1.Durable,Ii 0,.bool true])] 5 (s2 [] [2] [(5,Ii 19)] [0,3] [(2,Vb 36 [Ii zA.1.Size,.own 4 (((zA.1.Data++(sub zE (0:Int) zA.1.Left))).length),Ii zA.1.Durable,Ii 0,.bool true])] 5 (wz [2] [4] [] [0] [(4,Pp 0),(5,Ii 19)] [(0,Vb 36 (xY (⟨zA.1.Size,(zA.1.Data++(sub zE (0:Int) zA.1.Left)),zA.1.Durable,(0:Int),true⟩:xO)))] (ar 36 (ar true (ac (by first | (simp;done) | (simp;omega):((zA.1.Data++(sub zE (0:Int) zA.1.Left))).length=((List.map (AV.int .u8) (zA.1.Data++(sub zE (0:Int) zA.1.Left)))).length) (ar (Ii zA.1.Size) (ar 1 (ar (Mb (zA.1.Data++(sub zE (0:Int) zA.1.Left))) (ar true (ar (Ii zA.1.Durable) (ar (Ii 0) (ar (.bool true:AV) an)))))))))) ?_))));cases h;exact rt rx
 intro yY h;refine sk (sq (nE h fun y9 h=>r2 [iH 3 { id:=4,l:=(Mb (zA.1.Data++zE)),n:=((zA.1.Data++zE)).length },iM Fb zA.1.Data,iC trivial,iC (uE _ _:(Mb (zA.1.Data++zE))=(Mb zA.1.Data)++(Mb zE)),iC (by simp:((zA.1.Data++zE)).length=((List.map (AV.int .u8) (zA.1.Data++zE))).length),iC (by first | (simp;done) | simpa using y9:(((List.map (AV.int .u8) zA.1.Data):List AV).length+((List.map (AV.int .u8) zE):List AV).length) * 1≤140737488355328)] [] [] [1] [(0,Vb 36 [Ii zA.1.Size,.own 4 (((zA.1.Data++zE)).length),Ii zA.1.Durable,Ii zA.1.Left,.bool zA.1.Down]),(4,Rb 5 1 (Mb (zA.1.Data++zE)))] 5 (sq (c0 [] 54 h [] ?_ ?_))))
 ·intro xF h;refine r2 [iN 3 Fb zE] [1] [] [] [(0,Vb 36 [Ii zA.1.Size,.own 4 (((zA.1.Data++zE)).length),Ii zA.1.Durable,Ii (zG (zA.1.Left - (lN (zE)))),.bool zA.1.Down])] 5 (s2 [] [2] [(5,Ii 0)] [0,3] [(2,Vb 36 [Ii zA.1.Size,.own 4 (((zA.1.Data++zE)).length),Ii zA.1.Durable,Ii (zG (zA.1.Left - (lN (zE)))),.bool zA.1.Down])] 5 (wz [2] [4] [] [0] [(4,Pp 0),(5,Ii 0)] [(0,Vb 36 (xY (⟨zA.1.Size,(zA.1.Data++zE),zA.1.Durable,zG (zA.1.Left - (lN (zE))),zA.1.Down⟩:xO)))] (ar 36 (ar true (ac (by first | (simp;done) | (simp;omega):((zA.1.Data++zE)).length=((List.map (AV.int .u8) (zA.1.Data++zE))).length) (ar (Ii zA.1.Size) (ar 1 (ar (Mb (zA.1.Data++zE)) (ar true (ar (Ii zA.1.Durable) (ar (Ii (zG (zA.1.Left - (lN (zE))))) (ar (.bool zA.1.Down:AV) an)))))))))) ?_));cases h;exact rt rx
 intro xF h;refine sk (s2 [] [1,2] [(5,Ii 0)] [0,3] [(2,Vb 36 [Ii zA.1.Size,.own 4 (((zA.1.Data++zE)).length),Ii zA.1.Durable,Ii zA.1.Left,.bool zA.1.Down])] 5 (wz [2] [4] [] [0] [(4,Pp 0),(5,Ii 0)] [(0,Vb 36 (xY (⟨zA.1.Size,(zA.1.Data++zE),zA.1.Durable,zA.1.Left,zA.1.Down⟩:xO)))] (ar 36 (ar true (ac (by first | (simp;done) | (simp;omega):((zA.1.Data++zE)).length=((List.map (AV.int .u8) (zA.1.Data++zE))).length) (ar (Ii zA.1.Size) (ar 1 (ar (Mb (zA.1.Data++zE)) (ar true (ar (Ii zA.1.Durable) (ar (Ii zA.1.Left) (ar (.bool zA.1.Down:AV) an)))))))))) ?_));cases h;exact rt rx
theorem WS (zN:xO) (r:xO×Int) (h:J4 zN=some r):yR prog 55 [] [] [qN zN] [] (.tuple [qN r.1,Ii r.2]):=by
 refine tI Go.Proofs.Tryz.f55 ?_;unfold J4 at h;refine sE [iH 0 { id:=0 },iH 1 { id:=1 }] [(1,Pp 0),(2,Pp 1)] [(0,Vb 36 (xY zN)),(1,jS)] 2 (sq (bE h fun zA zL h=>r2 [iK 1 {} (MB zN zA zL)] [] [(4,Ii zA.2)] [] [(0,Vb 36 (xY zA.1))] 2 (sq (c0 [] 11 h [] ?_ ?_))))
 ·intro yC h;refine s2 [] [1] [(3,Ii zA.2)] [0] [(1,Vb 36 (xY zA.1))] 2 (w0 [1] [] [(2,Pp 0),(3,Ii zA.2)] [(0,Vb 36 (xY zA.1))] ?_);cases h;exact rt rx
 intro yC h;refine sk (sq (c0 [] 16 h [] ?_ ?_))
 ·intro yY h;refine s2 [] [] [] [] [(0,Vb 36 [Ii zA.1.Size,Sb zA.1.Data,Ii zA.1.Durable,Ii zA.1.Left,.bool true])] 2 (s2 [] [1] [(3,Ii 19)] [0] [(1,Vb 36 [Ii zA.1.Size,Sb zA.1.Data,Ii zA.1.Durable,Ii zA.1.Left,.bool true])] 2 (w0 [1] [] [(2,Pp 0),(3,Ii 19)] [(0,Vb 36 (xY (⟨zA.1.Size,zA.1.Data,zA.1.Durable,zA.1.Left,true⟩:xO)))] ?_));cases h;exact rt rx
 intro yY h;refine sk (s2 [iN 2 Fb zA.1.Data] [] [] [] [(0,Vb 36 [Ii zA.1.Size,Sb zA.1.Data,Ii (lN (zA.1.Data)),Ii zA.1.Left,.bool zA.1.Down])] 2 (s2 [] [1] [(3,Ii 0)] [0] [(1,Vb 36 [Ii zA.1.Size,Sb zA.1.Data,Ii (lN (zA.1.Data)),Ii zA.1.Left,.bool zA.1.Down])] 2 (w0 [1] [] [(2,Pp 0),(3,Ii 0)] [(0,Vb 36 (xY (⟨zA.1.Size,zA.1.Data,(lN (zA.1.Data)),zA.1.Left,zA.1.Down⟩:xO)))] ?_)));cases h;exact rt rx
theorem TH (F:Nat) (zN:xO) (jQ:List (List (Int))) (r:xO×Int) (h:MP F zN jQ=some r):yR prog 40 [] [] [qN zN,.sl false 1 (List.map zMb jQ)] [] (.tuple [qN r.1,Ii r.2]):=by
 refine tI Go.Proofs.Tryz.f40 ?_;unfold MP at h;refine sE [iH 0 { id:=0 },iH 1 { id:=1 }] [(1,.sl false 1 (List.map zMb jQ)),(2,Pp 0),(4,Pp 1)] [(0,Vb 36 (xY zN)),(1,jS)] 2 (sq (s1 [iN 1 zMb jQ] [1] [(10,.sl false 1 (List.map zMb jQ)),(11,Ii (lN (jQ))),(12,Ii 0)] (bE h fun zD zL h=>?_)));refine vD (K1:=(fun e st'=>match zD with | (.inl q0)=>e=.normal∧Sub 0 st' (mk [(2,Pp 0),(4,Pp 1)] [(0,Vb 36 [Ii q0.1,Sb q0.2.1,Ii q0.2.2.1,Ii q0.2.2.2.1,.bool q0.2.2.2.2]),(1,jS)] 2) | (.inr q1)=>e=.ret∧vE prog Go.Proofs.Tryz.f40 0 [] (.tuple [qN q1.1,Ii q1.2]) st')) ?_ ?_
 ·replace h:=zL;refine yN (id:=0) zk ?_;refine w0 [0,1] [] [(2,Pp 0),(4,Pp 1),(10,.sl false 1 (List.map zMb jQ)),(11,Ii (lN (jQ))),(12,Ii 0)] [(0,Vb 36 (xY zN)),(1,jS)] ?_;refine wC (fun n st=>∃ (zM:Int),∃ (zB:Int),∃ (y5:List Int),∃ (y6:Int),∃ (yX:Int),∃ (xB:Bool),st=mk [(2,Pp 0),(4,Pp 1),(10,.sl false 1 (List.map zMb jQ)),(11,Ii (lN (jQ))),(12,Ii zM)] [(0,Vb 36 [Ii zB,.sl false 1 (Mb y5),Ii y6,Ii yX,.bool xB]),(1,jS)] 2∧K7 F jQ n zM zB y5 y6 yX xB=some zD) F zk ⟨_,_,_,_,_,_,rfl,h⟩ ?_ ?_
  ·rintro _ ⟨_,_,_,_,_,_,_,h⟩;exact wB (h:(none:Option ((Int×(List Int)×Int×Int×Bool)⊕(xO×Int)))=some zD)
  rintro z7 _ ⟨zM,zB,y5,y6,yX,xB,rfl,h⟩;replace h:QV F jQ (K7 F jQ z7) zM zB y5 y6 yX xB=some zD:=h;unfold QV at h;refine s0 [] [(13,.bool (decide (zM<(lN (jQ)))))] (sq (ch 13 h ?_ ?_))
  rotate_left
  ·intro yC h;refine x8 (id:=0) zk ?_;cases h;exact ⟨rfl,(sw [0,1] [] [.s 2,.s 4] [.s 0,.s 1] an)⟩
  intro yC h;refine sk (sq ?_);refine yN (id:=1) zk ?_;refine sq (bE h fun zH zX h=>r0 [iF 0 zMb zX] [(7,.sl false 1 (Mb zH))] (sq (bE h fun zA yQ h=>r2 [iH 6 { id:=2 },iL 2 {} [.agg [Ii zB,.sl false 1 (Mb y5),Ii y6,Ii yX,.bool xB],.sl false 1 (Mb zH)] (zBK (⟨zB,y5,y6,yX,xB⟩:xO) zH zA yQ) ⟨rfl,rfl,rfl,rfl,rfl,rfl,rfl,rfl,rfl,rfl,trivial⟩] [7] [(8,Pp 2),(9,Ii zA.2)] [] [(2,Vb 36 (xY zA.1))] 3 (sq (c0 [] 23 h [] ?_ ?_)))))
  rotate_left
  ·intro yY h;refine sk (r2 [] [8] [] [2] [(0,Vb 36 (xY zA.1))] 3 (r0 [] [(12,Ii (zG (zM+(1:Int))))] ?_));exact ⟨_,(sw [0,1] [] [.s 2,.s 4,.s 10,.s 11,.s 12] [.s 0,.s 1] an),_,_,_,_,_,_,rfl,h⟩
  intro yY h;refine s2 [] [2,10,8] [(5,Ii zA.2)] [0,2] [(1,Vb 36 (xY zA.1))] 3 (w0 [1] [] [(4,Pp 0),(5,Ii zA.2)] [(0,Vb 36 (xY zA.1))] ?_);cases h;exact rt ry
 intro e st1 hk;rcases zD with zZ | xD
 rotate_left
 ·obtain ⟨rfl,hf⟩:=hk;cases h;exact ⟨st1,Sub.refl _ _,.inr rfl,hf⟩
 obtain ⟨rfl,hs⟩:=hk;refine ⟨_,hs,?_⟩;refine sq (bE h fun zC y9 h=>r2 [iL 1 {} [.agg [Ii zZ.1,Sb zZ.2.1,Ii zZ.2.2.1,Ii zZ.2.2.2.1,.bool zZ.2.2.2.2]] (WS (⟨zZ.1,zZ.2.1,zZ.2.2.1,zZ.2.2.2.1,zZ.2.2.2.2⟩:xO) zC y9) ⟨rfl,rfl,rfl,rfl,rfl,rfl,rfl,trivial⟩] [2] [(5,Ii zC.2)] [0] [(1,Vb 36 (xY zC.1))] 2 (w0 [1] [] [(4,Pp 0),(5,Ii zC.2)] [(0,Vb 36 (xY zC.1))] ?_));cases h;exact rt rx
theorem zBS (F:Nat) (zN:xO) (zL:yF) (r:xO×Int) (h:SB F zN zL=some r):yR prog 13 [] [] [qN zN,u7 zL] [] (.tuple [qN r.1,Ii r.2]):=by
 refine tI Go.Proofs.Tryz.f13 ?_;unfold SB at h;refine sE [iH 0 { id:=0 },iH 1 { id:=1 },iH 2 { id:=2 }] [(2,Pp 0),(3,Pp 1),(4,Pp 2)] [(0,Vb 36 (xY zN)),(1,Vb 28 (w6 zL)),(2,jS)] 3 (sq (sq (bE h fun zA zX h=>r0 [iK 1 {} (BP zN zA zX)] [(6,Ii zA)] (c0 [] 11 h [] ?_ ?_))))
 ·intro yC h;refine s2 [] [2,3] [(5,Ii zA)] [0,1] [] 3 (wz [2] [] [] [0] [(4,Pp 0),(5,Ii zA)] [(0,Vb 36 (xY zL0))] (ar 36 (ar true (ar (Ii 0) (ar ([]:List AV) (ar (Ii 0) (ar (Ii 0) (ar (.bool false:AV) an))))))) ?_);cases h;exact rt rx
 intro yC h;refine sk (sq (c0 [iN 2 Fb zN.Data] 17 h [] ?_ ?_))
 ·intro yY h;refine s2 [] [2,3] [(5,Ii 18)] [0,1] [] 3 (wz [2] [] [] [0] [(4,Pp 0),(5,Ii 18)] [(0,Vb 36 (xY zL0))] (ar 36 (ar true (ar (Ii 0) (ar ([]:List AV) (ar (Ii 0) (ar (Ii 0) (ar (.bool false:AV) an))))))) ?_);cases h;exact rt rx
 intro yY h;refine sk (sq (sq (bE h fun zC yQ h=>r0 [iK 1 {} (XS F zL zC yQ)] [(7,Ii zC)] (c0 [] 22 h [] ?_ ?_))))
 ·intro xF h;refine s2 [] [2,3] [(5,Ii zC)] [0,1] [] 3 (wz [2] [] [] [0] [(4,Pp 0),(5,Ii zC)] [(0,Vb 36 (xY zL0))] (ar 36 (ar true (ar (Ii 0) (ar ([]:List AV) (ar (Ii 0) (ar (Ii 0) (ar (.bool false:AV) an))))))) ?_);cases h;exact rt rx
 intro xF h;refine sk (sq (bE h fun zJ y9 h=>bE h fun zS xS h=>bE h fun zV wA h=>r2 [iH 4 { frz:=[3],id:=4 },iK 2 {} (T7 F zL zJ y9),iK 3 { ids:=[3] } (HP F (72:Int) zJ zS xS),iM Fb zS,iC (by first | (simp;done) | (simp;omega):1=((List.map zMb ([zS]:List (List (Int))))).length),iK 5 { frz:=[4] } (TH F zN ([zS]:List (List (Int))) zV wA)] [2,3] [(5,Ii zV.2)] [0,1] [(2,Vb 36 (xY zV.1))] 5 (w0 [2] [] [(4,Pp 0),(5,Ii zV.2)] [(0,Vb 36 (xY zV.1))] ?_)));cases h;exact rt rx
theorem zDs (x5:Int) (r:Int) (h:HY x5=some r):yR prog 141 [] [] [.int .u64 x5] [] (Ii r):=by
 refine tI Go.Proofs.Tryz.f141 ?_;unfold HY at h;refine sE [] [(0,.int .u64 x5)] [] 0 (s0 [iC (by decide:(0:Int)≤(1:Int))] [(2,Ii (tJ .i64 (zG (jC .u64 x5 (1:Int))) (zG (0 - (zG (tK .u64 x5 (1:Int)))))))] ?_);cases h;exact rt rx
theorem o6 (F:Nat) (zE:List (Int)) (r:Int×Int×Int) (h:cI F zE=some r):yR prog 105 [] [] [Sb zE] [] (.tuple [Ii r.1,Ii r.2.1,Ii r.2.2]):=by
 refine tI Go.Proofs.Tryz.f105 ?_;unfold cI at h;refine sE [] [(0,Sb zE)] [] 0 (s0 [] [(5,.int .u64 (0:Int))] (sq (s1 [iN 1 Fb zE] [0] [(8,Sb zE),(9,Ii (lN (zE))),(10,Ii 0)] (bE h fun zD zL h=>?_))));refine vD (K1:=(fun e st'=>match zD with | (.inl q0)=>e=.normal∧Sub 0 st' (mk [] [] 0) | (.inr q1)=>e=.ret∧vE prog Go.Proofs.Tryz.f105 0 [] (.tuple [Ii q1.1,Ii q1.2.1,Ii q1.2.2]) st')) ?_ ?_
 ·replace h:=zL;refine yN (id:=0) zk ?_;refine w0 [] [] [(5,.int .u64 (0:Int)),(8,Sb zE),(9,Ii (lN (zE))),(10,Ii 0)] [] ?_;refine wC (fun n st=>∃ (x5:Int),∃ (zM:Int),st=mk [(5,.int .u64 x5),(8,Sb zE),(9,Ii (lN (zE))),(10,Ii zM)] [] 0∧mK F zE n x5 zM=some zD) F zk ⟨_,_,rfl,h⟩ ?_ ?_
  ·rintro _ ⟨_,_,_,h⟩;exact wB (h:(none:Option (Unit⊕(Int×Int×Int)))=some zD)
  rintro z7 _ ⟨x5,zM,rfl,h⟩;replace h:CQ F zE (mK F zE z7) x5 zM=some zD:=h;unfold CQ at h;refine s0 [] [(11,.bool (decide (zM<(lN (zE)))))] (sq (ch 11 h ?_ ?_))
  rotate_left
  ·intro yC h;refine x8 (id:=0) zk ?_;cases h;exact ⟨rfl,(sw [] [] [] [] an)⟩
  intro yC h;refine sk (sq ?_);refine yN (id:=1) zk ?_;refine sq (bE h fun zH zX h=>r0 [iF 1 Fb zX] [(6,Ii zM),(7,Iu zH)] (sq (ad 20 h ?_ ?_ ?_)))
  ·rcases bft (zM==(9:Int)) with wH | wH
   ·exact rm [iH 5 Ht,iR 3 wH] (v9 wH rfl)
   ·exact rm [iG 3 2,iH 5 Hf,iR 3 wH] (u5 wH)
  ·intro yY h;refine s1 [] [8] [(2,Ii 0),(3,Ii 0),(4,Ii 10)] ?_;cases h;exact rt ry
  intro yY h;refine sk (sq (nE h fun yQ h=>r0 [iC yQ] [(5,.int .u64 (ior .u64 x5 (pX .u64 (vU (tK .u8 zH (127:Int))) (zG ((7:Int) * zM)))))] (sq (c0 [] 30 h [] ?_ ?_))))
  ·intro xF h;refine x8 (id:=1) zk ?_;refine rE [] [(5,.int .u64 (ior .u64 x5 (pX .u64 (vU (tK .u8 zH (127:Int))) (zG ((7:Int) * zM))))),(8,Sb zE),(9,Ii (lN (zE))),(10,Ii (zG (zM+(1:Int))))] [] 0 ?_;exact ⟨_,(sw [] [] [.s 5,.s 8,.s 9,.s 10] [] an),_,_,rfl,h⟩
  intro xF h;refine sk (sq (sq ?_));refine xR (mk [(5,.int .u64 (ior .u64 x5 (pX .u64 (vU (tK .u8 zH (127:Int))) (zG ((7:Int) * zM))))),(6,Ii zM),(36,.bool ((zH==(0:Int))&&decide (zM>(0:Int))))] [] 0) ?_ ?_
  ·rcases bft (zH==(0:Int)) with wD | wD
   ·refine r1 [iH 5 Ht,iR 3 wD] [8] [(36,.bool (decide (zM>(0:Int))))] ?_;exact ⟨rfl,(sw [] [] [.s 5,.s 6,.a 36 (.bool ((zH==(0:Int))&&decide (zM>(0:Int))))] [] (ac (congrArg AV.bool (v9 wD rfl):(.bool (decide (zM>(0:Int))):AV)=.bool ((zH==(0:Int))&&decide (zM>(0:Int)))) an))⟩
   ·refine r1 [iG 3 2,iH 5 Hf,iR 3 wD] [8] [(36,.bool false)] ?_;exact ⟨rfl,(sw [] [] [.s 5,.s 6,.a 36 (.bool ((zH==(0:Int))&&decide (zM>(0:Int))))] [] (ac (congrArg AV.bool (u5 wD):(.bool false:AV)=.bool ((zH==(0:Int))&&decide (zM>(0:Int)))) an))⟩
  refine ch 36 h ?_ ?_
  ·intro wV h;refine s0 [] [(2,Ii 0),(3,Ii 0),(4,Ii 10)] ?_;cases h;exact rt ry
  intro wV h;refine sk (sq (bE h fun zA y9 h=>r0 [iK 1 {} (zDs (ior .u64 x5 (pX .u64 (vU (tK .u8 zH (127:Int))) (zG ((7:Int) * zM)))) zA y9)] [(2,Ii zA),(3,Ii (zG (zM+(1:Int)))),(4,Ii 0)] ?_));cases h;exact rt ry
 intro e st1 hk;rcases zD with zZ | xD
 rotate_left
 ·obtain ⟨rfl,hf⟩:=hk;cases h;exact ⟨st1,Sub.refl _ _,.inr rfl,hf⟩
 obtain ⟨rfl,hs⟩:=hk;refine ⟨_,hs,?_⟩;refine s0 [] [(2,Ii 0),(3,Ii 0),(4,Ii 8)] ?_;cases h;exact rt rx
theorem WZ (F:Nat) (zE:List (Int)) (r:Int×(List (Int))×Int) (h:rS F zE=some r):yR prog 69 [] [] [Sb zE] [] (.tuple [Iu r.1,Sb r.2.1,Ii r.2.2]):=by
 refine tI Go.Proofs.Tryz.f69 ?_;unfold rS at h;refine sE [] [(0,Sb zE)] [] 0 (sq (c0 [iN 1 Fb zE] 14 h [] ?_ ?_))
 ·intro yC h;refine s1 [] [0] [(2,Iu 0),(3,.nilsl),(4,Ii 0)] (wz [] [] [3] [] [(2,Iu 0),(3,.sl false 1 []),(4,Ii 0)] [] (ar ([]:List AV) an) ?_);cases h;exact rt rx
 intro yC h;refine sk (sq (nE h fun zL h=>bE h fun zA zX h=>r0 [iT 1 Fb zE (1:Int) (by decide) zL,iK 2 {} (o6 F (sub zE (1:Int) (lN (zE))) zA zX)] [(5,Ii zA.1),(6,Ii zA.2.1),(7,Ii zA.2.2)] (sq (c0 [] 23 h [] ?_ ?_))))
 ·intro yY h;refine s1 [] [0] [(2,Iu 0),(3,.nilsl),(4,Ii 0)] (wz [] [] [3] [] [(2,Iu 0),(3,.sl false 1 []),(4,Ii 0)] [] (ar ([]:List AV) an) ?_);cases h;exact rt rx
 intro yY h;refine sk (sq (nE h fun yQ h=>bE h fun zC y9 h=>r0 [iT 3 Fb zE (zG ((1:Int)+zA.2.1)) yQ.1 yQ.2,iK 4 {} (o6 F (sub zE (zG ((1:Int)+zA.2.1)) (lN (zE))) zC y9)] [(7,Ii zC.2.2),(8,Ii zC.1),(9,Ii zC.2.1)] (s0 [] [(10,Ii (zG ((zG ((1:Int)+zA.2.1))+zC.2.1)))] (sq (ad 50 h ?_ ?_ ?_)))))
 ·rcases bft (zC.2.2 != (0:Int)) with yE | yE
  ·exact rm [iG 3 2,iH 5 Ht,iG 7 6,iH 13 Ht,iR 3 yE,iX 6,iA true] (ort yE)
  ·rcases bft (decide (zA.1<(0:Int))) with yK | yK
   ·exact rm [iH 5 Hf,iG 7 6,iH 13 Ht,iR 3 yE,iR 7 yK] (orf yE (ort yK))
   ·exact rm [iH 5 Hf,iH 13 Hf,iR 3 yE,iR 3 yK,iN 9 Fb zE,iR 4 yK] (orf yE (orf yK rfl))
 ·intro xF h;refine s1 [] [0] [(2,Iu 0),(3,.nilsl),(4,Ii 0)] (wz [] [] [3] [] [(2,Iu 0),(3,.sl false 1 []),(4,Ii 0)] [] (ar ([]:List AV) an) ?_);cases h;exact rt rx
 intro xF h;refine sk (sq (nE h fun xS h=>r0 [iS 5 Fb zE (zG ((zG ((1:Int)+zA.2.1))+zC.2.1)) (zG ((zG ((zG ((1:Int)+zA.2.1))+zC.2.1))+zA.1)) xS.1 xS.2.1 xS.2.2] [(11,Sb (sub zE (zG ((zG ((1:Int)+zA.2.1))+zC.2.1)) (zG ((zG ((zG ((1:Int)+zA.2.1))+zC.2.1))+zA.1))))] (sq (sq (bE h fun zH wA h=>bE h fun zJ wP h=>r0 [iF 1 Fb wA,iK 4 {} (SN F zH (sub zE (zG ((zG ((1:Int)+zA.2.1))+zC.2.1)) (zG ((zG ((zG ((1:Int)+zA.2.1))+zC.2.1))+zA.1))) zJ wP)] [(63,.bool (zJ != zC.1))] (ch 63 h ?_ ?_))))))
 ·intro wV h;refine s1 [] [0,11] [(2,Iu 0),(3,.nilsl),(4,Ii 0)] (wz [] [] [3] [] [(2,Iu 0),(3,.sl false 1 []),(4,Ii 0)] [] (ar ([]:List AV) an) ?_);cases h;exact rt rx
 intro wV h;refine sk (sq (bE h fun yH vA h=>r1 [iF 1 Fb vA] [0,11] [(2,Iu yH),(3,Sb (sub zE (zG ((zG ((1:Int)+zA.2.1))+zC.2.1)) (zG ((zG ((zG ((1:Int)+zA.2.1))+zC.2.1))+zA.1)))),(4,Ii (zG ((zG ((zG ((1:Int)+zA.2.1))+zC.2.1))+zA.1)))] ?_));cases h;exact rt rx
theorem bV (F:Nat) (zI:v4) (r:Int×v4) (h:nL F zI=some r):yR prog 107 [(.var 157 (tY zI))] [] [Pp 0] [(.var 157 (tY r.2))] (Ii r.1):=by
 refine tI Go.Proofs.Tryz.f107 ?_;unfold nL at h;refine sE [] [(0,Pp 0)] [(0,Vb 157 (tY zI))] 1 (sq (bE h fun zA zL h=>r0 [iK 4 {} (o6 F zI.b zA zL)] [(3,Ii zA.1),(4,Ii zA.2.1),(5,Ii zA.2.2)] (sq (c0 [] 16 h [] ?_ ?_))))
 ·intro yC h;refine s2 [] [0] [] [] [(0,Vb 157 [.nilsl,.bool true])] 1 (s0 [] [(2,Ii 0)] (wz [0] [] [] [0] [(2,Ii 0)] [(0,Vb 157 (tY (⟨[],true⟩:v4)))] (ar 157 (ar true (ar ([]:List AV) (ar (.bool true:AV) an)))) ?_));cases h;exact rt rx
 intro yC h;refine sk (sq (nE h fun zX h=>r2 [iT 6 Fb zI.b zA.2.1 zX.1 zX.2] [0] [] [] [(0,Vb 157 [Sb (sub zI.b zA.2.1 (lN (zI.b))),.bool zI.bad])] 1 (s0 [] [(2,Ii zA.1)] ?_)));cases h;exact rt rx
theorem OA (F:Nat) (zI:v4) (tA:Int) (r:Int×v4) (h:lD F zI tA=some r):yR prog 106 [(.var 157 (tY zI))] [] [Pp 0,Ii tA] [(.var 157 (tY r.2))] (Ii r.1):=by
 refine tI Go.Proofs.Tryz.f106 ?_;unfold lD at h;refine sE [] [(0,Pp 0),(1,Ii tA)] [(0,Vb 157 (tY zI))] 1 (sq (bE h fun zA zL h=>r2 [iK 1 { ids:=[0] } (bV F zI zA zL)] [] [(5,Ii zA.1)] [] [(0,Vb 157 (tY zA.2))] 1 (sq (ad 14 h ?_ ?_ ?_))))
 ·rcases bft (decide (zA.1<(0:Int))) with zT | zT
  ·exact rm [iG 3 3,iH 6 Ht,iR 4 zT] (ort zT)
  ·exact rm [iH 6 Hf,iR 4 zT] (orf zT rfl)
 rotate_left
 ·intro yC h;refine sk (s1 [] [0] [(4,Ii zA.1)] ?_);cases h;exact rt rx
 intro yC h;refine s2 [] [0] [] [] [(0,Vb 157 [Sb zA.2.b,.bool true])] 1 (s0 [] [(4,Ii 0)] ?_);cases h;exact rt rx
theorem VL (F:Nat) (zE:List (Int)) (tA:Int) (r:(List Int)×Int×Int) (h:mT F zE tA=some r):yR prog 142 [] [] [Sb zE,Ii tA] [] (.tuple [.str r.1,Ii r.2.1,Ii r.2.2]):=by
 refine tI Go.Proofs.Tryz.f142 ?_;unfold mT at h;refine sE [] [(0,Sb zE),(1,Ii tA)] [] 0 (sq (bE h fun zA zL h=>r0 [iK 1 {} (o6 F zE zA zL)] [(7,Ii zA.1),(8,Ii zA.2.1),(9,Ii zA.2.2)] (sq ?_)));refine yN (id:=0) zk ?_;refine c0 [] 16 h [] ?_ ?_
 ·intro yC h;refine s1 [] [0] [(4,.str ([]:List Int)),(5,Ii 0),(6,Ii zA.2.2)] ?_;cases h;exact rt rx
 intro yC h;refine c0 [] 20 h [] ?_ ?_
 ·intro yY h;refine s1 [] [0] [(4,.str ([]:List Int)),(5,Ii 0),(6,Ii 10)] ?_;cases h;exact rt rx
 intro yY h;refine c0 [] 23 h [] ?_ ?_
 ·intro xF h;refine s1 [] [0] [(4,.str ([]:List Int)),(5,Ii 0),(6,Ii 7)] ?_;cases h;exact rt rx
 intro xF h;refine c0 [iN 2 Fb zE] 27 h [] ?_ ?_
 ·intro wV h;refine s1 [] [0] [(4,.str ([]:List Int)),(5,Ii 0),(6,Ii 8)] ?_;cases h;exact rt rx
 intro wV h;refine sk (sq (nE h fun zX h=>r1 [iH 6 { s:=sub zE zA.2.1 (zG (zA.2.1+zA.1)) },iS 5 Fb zE zA.2.1 (zG (zA.2.1+zA.1)) zX.1 zX.2.1 zX.2.2,iC (rfl:(Mb (sub zE zA.2.1 (zG (zA.2.1+zA.1))))=List.map (AV.int .u8) (sub zE zA.2.1 (zG (zA.2.1+zA.1))))] [0] [(4,.str (sub zE zA.2.1 (zG (zA.2.1+zA.1)))),(5,Ii (zG (zA.2.1+zA.1))),(6,Ii 0)] ?_));cases h;exact rt rx
theorem zEH (F:Nat) (zI:v4) (r:(List Int)×v4) (h:HM F zI=some r):yR prog 108 [(.var 157 (tY zI))] [] [Pp 0] [(.var 157 (tY r.2))] (.str r.1):=by
 refine tI Go.Proofs.Tryz.f108 ?_;unfold HM at h;refine sE [] [(0,Pp 0)] [(0,Vb 157 (tY zI))] 1 (sq (bE h fun zA zL h=>r0 [iK 4 {} (VL F zI.b (40:Int) zA zL)] [(3,.str zA.1),(4,Ii zA.2.1),(5,Ii zA.2.2)] (sq (c0 [] 16 h [] ?_ ?_))))
 ·intro yC h;refine s2 [] [0] [] [] [(0,Vb 157 [.nilsl,.bool true])] 1 (s0 [] [(2,.str ([]:List Int))] (wz [0] [] [] [0] [(2,.str ([]:List Int))] [(0,Vb 157 (tY (⟨[],true⟩:v4)))] (ar 157 (ar true (ar ([]:List AV) (ar (.bool true:AV) an)))) ?_));cases h;exact rt rx
 intro yC h;refine sk (sq (nE h fun zX h=>r2 [iT 6 Fb zI.b zA.2.1 zX.1 zX.2] [0] [] [] [(0,Vb 157 [Sb (sub zI.b zA.2.1 (lN (zI.b))),.bool zI.bad])] 1 (s0 [] [(2,.str zA.1)] ?_)));cases h;exact rt rx
theorem XC (F:Nat) (zI:v4) (r:yU×v4) (h:AT F zI=some r):yR prog 109 [(.var 157 (tY zI))] [] [Pp 0] [(.var 157 (tY r.2))] (z6 r.1):=by
 refine tI Go.Proofs.Tryz.f109 ?_;unfold AT at h;refine sE [iH 0 { id:=1 }] [(0,Pp 0),(2,Pp 1)] [(0,Vb 157 (tY zI)),(1,Vb 76 [Ii 0,Ii 0,Ii 0,Ii 0,Ii 0])] 2 (sq (bE h fun zA zL h=>bE h fun zC zX h=>bE h fun zJ yQ h=>r2 [iK 1 { ids:=[0] } (bV F zI zA zL),iK 3 { ids:=[0] } (bV F zA.2 zC zX),iK 5 { ids:=[0] } (bV F zC.2 zJ yQ)] [] [(3,Ii zA.1),(4,Ii zC.1),(5,Ii zJ.1)] [] [(0,Vb 157 (tY zJ.2))] 2 (sq (bE h fun zS y9 h=>r2 [iK 1 { ids:=[0] } (bV F zJ.2 zS y9)] [] [(6,Ii zS.1)] [] [(0,Vb 157 (tY zS.2))] 2 (sq (bE h fun zV xS h=>r2 [iK 5 { ids:=[0] } (bV F zS.2 zV xS)] [0] [] [] [(0,Vb 157 (tY zV.2)),(1,Vb 76 [Ii zA.1,Ii zC.1,Ii zJ.1,Ii zS.1,Ii zV.1])] 2 ?_))))));cases h;exact rt rx
theorem OU (yJ:List (Int)) (zE:List (Int)) (r:Bool) (h:dD yJ zE=some r):yR prog 110 [] [] [Sb yJ,Sb zE] [] (.bool r):=by
 refine tI Go.Proofs.Tryz.f110 ?_;unfold dD at h;refine sE [] [(0,Sb yJ),(1,Sb zE)] [] 0 (s1 [iH 1 { s:=yJ },iH 3 { s:=zE },iC (rfl:(Mb yJ)=List.map (AV.int .u8) yJ),iC (rfl:(Mb zE)=List.map (AV.int .u8) zE)] [0,1] [(4,.bool (yJ==zE))] ?_);cases h;exact rt rx
end Go.Ab
