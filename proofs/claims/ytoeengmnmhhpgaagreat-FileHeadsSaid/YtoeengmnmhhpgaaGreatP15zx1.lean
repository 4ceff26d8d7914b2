/- Printed: the typed Lean functions of the Go functions, or the proofs that the Go functions meet them. No conditions but those that the theorems name. -/
import Derived.Test.YtoeengmnmhhpgaaGreatP15zxD
import Derived.Test.YtoeengmnmhhpgaaGreatA41
import Derived.Test.YtoeengmnmhhpgaaGreatProg
namespace Go.Ab
open Go
set_option linter.unusedVariables false
noncomputable abbrev prog:=Go.Proofs.Tryz.prog
theorem vY:prog.follows .mixedOrders=true:=by kernel_rfl
instance :Mx prog:=⟨vY⟩
theorem TU:rI prog 170:=⟨_,Go.Proofs.Tryz.func170,by kernel_rfl,by kernel_rfl,by kernel_rfl,zk⟩
theorem rN:v9 prog 3 false [.int .i64]:=NZ zk
theorem RQ:v9 prog 87 true [.int .i64,.int .i64]:=m3 zk zk zk zk
theorem HA:∀ a b:yQ,zR a=zR b→a=b:=by
  intro a b h;cases a;cases b;simpa [zR,cD] using h
theorem MH:qK prog 87 [.int .i64,.int .i64]:=mN RQ zk zk
def QI:Go.Shelf.Ren:={ f:=fun n=>bif Nat.beq n 5 then 92 else 130,t:=fun n=>bif Nat.beq n 23 then 60 else bif Nat.beq n 25 then 3 else bif Nat.beq n 3 then 138 else bif Nat.beq n 20 then 20 else bif Nat.beq n 4 then 4 else n,g:=fun x=>x }
theorem KN : Go.Proofs.SlLaysW.n5 prog QI := ⟨by kernel_rfl, ⟨ "maps.Clone[map[int]tracebook/file.place,int,tracebook/file.place]", by kernel_rfl, zk⟩, by kernel_rfl, by kernel_rfl, fun w => by kernel_rfl, fun w => by kernel_rfl, fun w => by kernel_rfl, by kernel_rfl, fun w => by kernel_rfl, fun w => by kernel_rfl, fun w => by kernel_rfl, by kernel_rfl, fun w => by kernel_rfl, fun w => by kernel_rfl, fun w => by kernel_rfl⟩
theorem G6:v9 prog 9 false [.str]:=M2 zk
theorem DA:v9 prog 144 true [.int .i64,.int .i64]:=m3 zk zk zk zk
theorem CX:∀ a b:zX,yM a=yM b→a=b:=by
  intro a b h;cases a;cases b;simpa [yM,JP] using h
theorem WV:qK prog 144 [.int .i64,.int .i64]:=mN DA zk zk
theorem R3:v9 prog 85 true [.int .i64,.str,.int .i64]:=m3 zk zk zk zk
theorem Q2:∀ a b:y6,zZ a=zZ b→a=b:=by
  intro a b h;cases a;cases b;simpa [zZ,uN] using h
theorem SV:qK prog 85 [.int .i64,.str,.int .i64]:=mN R3 zk zk
theorem NC:v9 prog 76 true [.int .i64,.int .i64,.int .i64,.int .i64,.int .i64]:=m3 zk zk zk zk
theorem S9:∀ a b:y2,zW a=zW b→a=b:=by
  rintro ⟨_,_,_,⟨_,_⟩⟩ ⟨_,_,_,⟨_,_⟩⟩ h
  simpa [zW,tV] using h
theorem OC:qK prog 76 [.int .i64,.int .i64,.int .i64,.int .i64,.int .i64]:=mN NC zk zk

theorem V8 (xV:Int) (r:yV×Int) (h:B6 xV=some r):yK prog 24 [] [] [Ii xV] [] (.tuple [vX r.1,Ii r.2]):=by
 refine tI Go.Proofs.Tryz.f24 ?_;unfold B6 at h;refine sE [iH 0 { id:=0 }] [(0,Ii xV),(2,Pp 0)] [(0,uX)] 1 (sq (ad 9 h ?_ ?_ ?_))
 ·rcases bft (decide (xV<(1:Int))) with zO | zO
  ·exact rm [iG 3 2,iH 5 Ht,iR 3 zO] (ort zO)
  ·exact rm [iH 5 Hf,iR 3 zO] (orf zO rfl)
 ·intro yC h;refine s0 [] [(3,Ii 2)] (wz [0] [] [] [0] [(2,Pp 0),(3,Ii 2)] [(0,Vb 36 (y8 zL0))] (ar 36 (ar true (ar (Ii 0) (ar ([]:List AV) (ar (Ii 0) (ar (Ii 0) (ar (.bool false:AV) an))))))) ?_);cases h;exact rt rx
 intro yC h;refine sk (s2 [] [] [(3,Ii 0)] [] [(0,Vb 36 [Ii xV,.nilsl,Ii 0,Ii (-1),.bool false])] 1 (wz [0] [] [] [0] [(2,Pp 0),(3,Ii 0)] [(0,Vb 36 (y8 (⟨xV,[],(0:Int),(-1:Int),false⟩:yV)))] (ar 36 (ar true (ar (Ii xV) (ar ([]:List AV) (ar (Ii 0) (ar (Ii (-1)) (ar (.bool false:AV) an))))))) ?_));cases h;exact rt rx

theorem f0 (r:z6) (h:rP=some r):yK prog 25 [] [] [] [] (vC r):=by
 refine tI Go.Proofs.Tryz.f25 ?_;unfold rP at h;refine sE [iH 0 { id:=0 }] [(0,Pp 0)] [(0,Vb 28 [.nilsl,.nilsl,.nilsl])] 1 (s2 [iH 1 { id:=1 },iH 3 { id:=2 }] [] [] [] [(0,Vb 28 [.own 1 1,.own 2 1,.nilsl]),(1,Rb 85 3 (Mp zZ ([(⟨(1:Int),([116,49]:List Int),(0:Int)⟩:y6)]:List y6))),(2,Rb 87 2 (Mp zR ([(⟨(0:Int),(0:Int)⟩:yQ)]:List yQ)))] 3 (wz [0] [1,2] [] [0] [(0,Pp 0)] [(0,Vb 28 (wA (⟨([(⟨(1:Int),([116,49]:List Int),(0:Int)⟩:y6)]:List y6),([(⟨(0:Int),(0:Int)⟩:yQ)]:List yQ),[]⟩:z6)))] (ar 28 (ar true (ac (by first | (simp;done) | (simp;omega):1=((List.map zZ ([(⟨(1:Int),([116,49]:List Int),(0:Int)⟩:y6)]:List y6))).length) (ac (by first | (simp;done) | (simp;omega):1=((List.map zR ([(⟨(0:Int),(0:Int)⟩:yQ)]:List yQ))).length) (ar 3 (ar (Mp zZ ([(⟨(1:Int),([116,49]:List Int),(0:Int)⟩:y6)]:List y6)) (ar true (ar 2 (ar (Mp zR ([(⟨(0:Int),(0:Int)⟩:yQ)]:List yQ)) (ar true (ar ([]:List AV) an))))))))))) ?_));cases h;exact rt rx

theorem dB (zG:yV) (r:Int) (h:bQ zG=some r):yK prog 39 [] [] [vX zG] [] (Ii r):=by
 refine tI Go.Proofs.Tryz.f39 ?_;unfold bQ at h;refine sE [iH 0 { id:=0 }] [(1,Pp 0)] [(0,Vb 36 (y8 zG))] 1 (sq (sq ?_));refine xL (mk [(41,.bool (zB0 zG))] [] 0) ?_ ?_
 ·rcases bft (decide (zG.Size<(1:Int))) with zO | zO
  ·refine r2 [iG 4 3,iH 7 Ht,iG 9 6,iH 15 Ht,iG 17 3,iH 20 Ht,iG 22 6,iH 28 Ht,iG 30 3,iH 33 Ht,iG 35 3,iH 38 Ht,iR 4 zO,iX 6,iA true,iX 3,iA true,iX 6,iA true,iX 3,iA true,iX 3,iA true] [1] [(41,.bool true)] [0] [] 1 ?_;exact ⟨rfl,(sw [] [] [.a 41 (.bool (zB0 zG))] [] (ac (congrArg AV.bool (ort zO):(.bool true:AV)=.bool (zB0 zG)) an))⟩
  ·rcases bft (decide (zG.Size>(1048576:Int))) with zP | zP
   ·refine r2 [iH 7 Hf,iG 9 6,iH 15 Ht,iG 17 3,iH 20 Ht,iG 22 6,iH 28 Ht,iG 30 3,iH 33 Ht,iG 35 3,iH 38 Ht,iR 4 zO,iR 7 zP,iX 3,iA true,iX 6,iA true,iX 3,iA true,iX 3,iA true] [1] [(41,.bool true)] [0] [] 1 ?_;exact ⟨rfl,(sw [] [] [.a 41 (.bool (zB0 zG))] [] (ac (congrArg AV.bool (orf zO (ort zP)):(.bool true:AV)=.bool (zB0 zG)) an))⟩
   ·rcases bft (decide ((lN (zG.Data))>zG.Size)) with z8 | z8
    ·refine r2 [iH 7 Hf,iH 15 Hf,iG 17 3,iH 20 Ht,iG 22 6,iH 28 Ht,iG 30 3,iH 33 Ht,iG 35 3,iH 38 Ht,iR 4 zO,iR 3 zP,iN 11 Fb zG.Data,iR 4 zP,iR 4 z8,iX 6,iA true,iX 3,iA true,iX 3,iA true] [1] [(41,.bool true)] [0] [] 1 ?_;exact ⟨rfl,(sw [] [] [.a 41 (.bool (zB0 zG))] [] (ac (congrArg AV.bool (orf zO (orf zP (ort z8))):(.bool true:AV)=.bool (zB0 zG)) an))⟩
    ·rcases bft (decide (zG.Durable<(0:Int))) with yJ | yJ
     ·refine r2 [iH 7 Hf,iH 15 Hf,iH 20 Hf,iG 22 6,iH 28 Ht,iG 30 3,iH 33 Ht,iG 35 3,iH 38 Ht,iR 4 zO,iR 3 zP,iN 11 Fb zG.Data,iR 4 zP,iR 4 z8,iR 7 yJ,iX 3,iA true,iX 3,iA true] [1] [(41,.bool true)] [0] [] 1 ?_;exact ⟨rfl,(sw [] [] [.a 41 (.bool (zB0 zG))] [] (ac (congrArg AV.bool (orf zO (orf zP (orf z8 (ort yJ)))):(.bool true:AV)=.bool (zB0 zG)) an))⟩
     ·rcases bft (decide (zG.Durable>(lN (zG.Data)))) with x9 | x9
      ·refine r2 [iH 7 Hf,iH 15 Hf,iH 20 Hf,iH 28 Hf,iG 30 3,iH 33 Ht,iG 35 3,iH 38 Ht,iR 4 zO,iR 3 zP,iN 11 Fb zG.Data,iR 4 zP,iR 4 z8,iR 5 yJ,iN 26 Fb zG.Data,iR 2 yJ,iR 4 x9,iX 3,iA true] [1] [(41,.bool true)] [0] [] 1 ?_;exact ⟨rfl,(sw [] [] [.a 41 (.bool (zB0 zG))] [] (ac (congrArg AV.bool (orf zO (orf zP (orf z8 (orf yJ (ort x9))))):(.bool true:AV)=.bool (zB0 zG)) an))⟩
      ·rcases bft (decide (zG.Left<(-1:Int))) with x5 | x5
       ·refine r2 [iH 7 Hf,iH 15 Hf,iH 20 Hf,iH 28 Hf,iH 33 Hf,iG 35 3,iH 38 Ht,iR 4 zO,iR 3 zP,iN 11 Fb zG.Data,iR 4 zP,iR 4 z8,iR 5 yJ,iN 26 Fb zG.Data,iR 2 yJ,iR 4 x9,iR 4 x5] [1] [(41,.bool true)] [0] [] 1 ?_;exact ⟨rfl,(sw [] [] [.a 41 (.bool (zB0 zG))] [] (ac (congrArg AV.bool (orf zO (orf zP (orf z8 (orf yJ (orf x9 (ort x5)))))):(.bool true:AV)=.bool (zB0 zG)) an))⟩
       ·refine r2 [iH 7 Hf,iH 15 Hf,iH 20 Hf,iH 28 Hf,iH 33 Hf,iH 38 Hf,iR 4 zO,iR 3 zP,iN 11 Fb zG.Data,iR 4 zP,iR 4 z8,iR 5 yJ,iN 26 Fb zG.Data,iR 2 yJ,iR 4 x9,iR 4 x5] [1] [(41,.bool (decide (zG.Left>(1048576:Int))))] [0] [] 1 ?_;exact ⟨rfl,(sw [] [] [.a 41 (.bool (zB0 zG))] [] (ac (congrArg AV.bool (orf zO (orf zP (orf z8 (orf yJ (orf x9 (orf x5 rfl)))))):(.bool (decide (zG.Left>(1048576:Int))):AV)=.bool (zB0 zG)) an))⟩
 refine ch 41 h ?_ ?_
 ·intro yC h;refine s0 [] [(2,Ii 2)] ?_;cases h;exact rt rx
 intro yC h;refine sk (s0 [] [(2,Ii 0)] ?_);cases h;exact rt rx

theorem UX (zE:List Int) (zB:Int) (r:Int) (h:l9 zE zB=some r):yK prog 169 [] [] [.str zE,Iu zB] [] (Ii r):=by
 refine tI Go.Proofs.Tryz.f169 ?_;unfold l9 at h;refine sE [] [(0,.str zE),(1,Iu zB)] [] 0 (s0 [iC (TU:rI prog 170)] [(4,Ii (tD zE zB))] ?_);cases h;exact rt rx

theorem nH (zE:List Int) (zB:Int) (r:Int) (h:j5 zE zB=some r):yK prog 162 [] [] [.str zE,Iu zB] [] (Ii r):=by
 refine tI Go.Proofs.Tryz.f162 ?_;unfold j5 at h;refine sE [] [(0,.str zE),(1,Iu zB)] [] 0 (sq (bE h fun zA zH h=>r0 [iK 2 {} (UX zE zB zA zH)] [(4,Ii zA)] ?_));cases h;exact rt rx

theorem S5 (zB:Int) (r:Bool) (h:gK zB=some r):yK prog 139 [] [] [Iu zB] [] (.bool r):=by
 refine tI Go.Proofs.Tryz.f139 ?_;unfold gK at h;refine sE [] [(0,Iu zB)] [] 0 (sq (bE h fun zM zS h=>?_));refine xL (mk [(2,.bool zM)] [] 0) ?_ ?_
 ·replace h:=zS;rcases bft (decide (zB≥(97:Int))) with zO | zO
  ·replace h:=xE zO h;rcases bft (decide (zB≤(122:Int))) with zP | zP
   ·replace h:=xE zP h;refine r0 [iH 5 Ht,iG 7 3,iH 12 Hg,iH 13 Ht,iG 15 3,iH 20 Hg,iH 21 Ht,iG 23 3,iH 26 Ht,iR 3 zO,iR 5 zP,iX 4,iA true,iX 3,iA true] [(2,.bool true)] ?_;cases h;exact ⟨rfl,(sw [] [] [.s 2] [] an)⟩
   ·replace h:=xD zP h;rcases bft (decide (zB≥(65:Int))) with z8 | z8
    ·replace h:=xE z8 h;rcases bft (decide (zB≤(90:Int))) with yJ | yJ
     ·replace h:=xE yJ h;refine r0 [iH 5 Ht,iH 12 Ht,iH 13 Hf,iG 15 3,iH 20 Hg,iH 21 Ht,iG 23 3,iH 26 Ht,iR 3 zO,iR 3 zP,iR 2 z8,iC zP,iC z8,iC zP,iR 5 yJ,iX 3,iA true] [(2,.bool true)] ?_;cases h;exact ⟨rfl,(sw [] [] [.s 2] [] an)⟩
     ·replace h:=xD yJ h;rcases bft (decide (zB≥(48:Int))) with x9 | x9
      ·replace h:=xE x9 h;rcases bft (decide (zB≤(57:Int))) with x5 | x5
       ·replace h:=xE x5 h;refine r0 [iH 5 Ht,iH 12 Ht,iH 13 Hf,iH 20 Ht,iH 21 Hf,iG 23 3,iH 26 Ht,iR 3 zO,iR 3 zP,iR 2 z8,iC zP,iC z8,iC zP,iR 3 yJ,iR 2 x9,iC yJ,iC x9,iC yJ,iR 4 x5] [(2,.bool true)] ?_;cases h;exact ⟨rfl,(sw [] [] [.s 2] [] an)⟩
       ·replace h:=xD x5 h;refine bE h fun zA zH h=>r0 [iH 5 Ht,iH 12 Ht,iH 13 Hf,iH 20 Ht,iH 21 Hf,iH 26 Hf,iR 3 zO,iR 3 zP,iR 2 z8,iC zP,iC z8,iC zP,iR 3 yJ,iR 2 x9,iC yJ,iC x9,iC yJ,iR 2 x5,iK 24 {} (nH ([95,46,58,47,60,62,36,42,126,45]:List Int) zB zA zH),iR 2 x5] [(2,.bool (decide (zA≥(0:Int))))] ?_;cases h;exact ⟨rfl,(sw [] [] [.s 2] [] an)⟩
      ·replace h:=xD x9 h;refine bE h fun zA zH h=>r0 [iH 5 Ht,iH 12 Ht,iH 13 Hf,iG 18 2,iH 20 Hf,iH 21 Hf,iH 26 Hf,iR 3 zO,iR 3 zP,iR 2 z8,iC zP,iC z8,iC zP,iR 3 yJ,iR 2 x9,iC yJ,iC x9,iC yJ,iQ 2 false,iK 24 {} (nH ([95,46,58,47,60,62,36,42,126,45]:List Int) zB zA zH),iQ 2 false] [(2,.bool (decide (zA≥(0:Int))))] ?_;cases h;exact ⟨rfl,(sw [] [] [.s 2] [] an)⟩
    ·replace h:=xD z8 h;rcases bft (decide (zB≥(48:Int))) with xU | xU
     ·replace h:=xE xU h;rcases bft (decide (zB≤(57:Int))) with xW | xW
      ·replace h:=xE xW h;refine r0 [iH 5 Ht,iG 10 2,iH 12 Hf,iH 13 Hf,iH 20 Ht,iH 21 Hf,iG 23 3,iH 26 Ht,iR 3 zO,iR 3 zP,iR 2 z8,iC zP,iC z8,iC zP,iQ 3 false,iR 2 xU,iA false,iC xU,iA false,iR 4 xW] [(2,.bool true)] ?_;cases h;exact ⟨rfl,(sw [] [] [.s 2] [] an)⟩
      ·replace h:=xD xW h;refine bE h fun zA zH h=>r0 [iH 5 Ht,iG 10 2,iH 12 Hf,iH 13 Hf,iH 20 Ht,iH 21 Hf,iH 26 Hf,iR 3 zO,iR 3 zP,iR 2 z8,iC zP,iC z8,iC zP,iQ 3 false,iR 2 xU,iA false,iC xU,iA false,iR 2 xW,iK 24 {} (nH ([95,46,58,47,60,62,36,42,126,45]:List Int) zB zA zH),iR 2 xW] [(2,.bool (decide (zA≥(0:Int))))] ?_;cases h;exact ⟨rfl,(sw [] [] [.s 2] [] an)⟩
     ·replace h:=xD xU h;refine bE h fun zA zH h=>r0 [iH 5 Ht,iG 10 2,iH 12 Hf,iH 13 Hf,iG 18 2,iH 20 Hf,iH 21 Hf,iH 26 Hf,iR 3 zO,iR 3 zP,iR 2 z8,iC zP,iC z8,iC zP,iQ 3 false,iR 2 xU,iA false,iC xU,iQ 3 false,iK 24 {} (nH ([95,46,58,47,60,62,36,42,126,45]:List Int) zB zA zH),iQ 2 false] [(2,.bool (decide (zA≥(0:Int))))] ?_;cases h;exact ⟨rfl,(sw [] [] [.s 2] [] an)⟩
  ·replace h:=xD zO h;rcases bft (decide (zB≥(65:Int))) with w4 | w4
   ·replace h:=xE w4 h;rcases bft (decide (zB≤(90:Int))) with wL | wL
    ·replace h:=xE wL h;refine r0 [iG 3 2,iH 5 Hf,iH 12 Ht,iH 13 Hf,iG 15 3,iH 20 Hg,iH 21 Ht,iG 23 3,iH 26 Ht,iR 3 zO,iQ 3 false,iR 2 w4,iA false,iC w4,iA false,iR 5 wL,iX 3,iA true] [(2,.bool true)] ?_;cases h;exact ⟨rfl,(sw [] [] [.s 2] [] an)⟩
    ·replace h:=xD wL h;rcases bft (decide (zB≥(48:Int))) with wI | wI
     ·replace h:=xE wI h;rcases bft (decide (zB≤(57:Int))) with wX | wX
      ·replace h:=xE wX h;refine r0 [iG 3 2,iH 5 Hf,iH 12 Ht,iH 13 Hf,iH 20 Ht,iH 21 Hf,iG 23 3,iH 26 Ht,iR 3 zO,iQ 3 false,iR 2 w4,iA false,iC w4,iA false,iR 3 wL,iR 2 wI,iC wL,iC wI,iC wL,iR 4 wX] [(2,.bool true)] ?_;cases h;exact ⟨rfl,(sw [] [] [.s 2] [] an)⟩
      ·replace h:=xD wX h;refine bE h fun zA zH h=>r0 [iG 3 2,iH 5 Hf,iH 12 Ht,iH 13 Hf,iH 20 Ht,iH 21 Hf,iH 26 Hf,iR 3 zO,iQ 3 false,iR 2 w4,iA false,iC w4,iA false,iR 3 wL,iR 2 wI,iC wL,iC wI,iC wL,iR 2 wX,iK 24 {} (nH ([95,46,58,47,60,62,36,42,126,45]:List Int) zB zA zH),iR 2 wX] [(2,.bool (decide (zA≥(0:Int))))] ?_;cases h;exact ⟨rfl,(sw [] [] [.s 2] [] an)⟩
     ·replace h:=xD wI h;refine bE h fun zA zH h=>r0 [iG 3 2,iH 5 Hf,iH 12 Ht,iH 13 Hf,iG 18 2,iH 20 Hf,iH 21 Hf,iH 26 Hf,iR 3 zO,iQ 3 false,iR 2 w4,iA false,iC w4,iA false,iR 3 wL,iR 2 wI,iC wL,iC wI,iC wL,iQ 2 false,iK 24 {} (nH ([95,46,58,47,60,62,36,42,126,45]:List Int) zB zA zH),iQ 2 false] [(2,.bool (decide (zA≥(0:Int))))] ?_;cases h;exact ⟨rfl,(sw [] [] [.s 2] [] an)⟩
   ·replace h:=xD w4 h;rcases bft (decide (zB≥(48:Int))) with w5 | w5
    ·replace h:=xE w5 h;rcases bft (decide (zB≤(57:Int))) with v3 | v3
     ·replace h:=xE v3 h;refine r0 [iG 3 2,iH 5 Hf,iG 10 2,iH 12 Hf,iH 13 Hf,iH 20 Ht,iH 21 Hf,iG 23 3,iH 26 Ht,iR 3 zO,iQ 3 false,iR 2 w4,iA false,iC w4,iQ 4 false,iR 2 w5,iA false,iC w5,iA false,iR 4 v3] [(2,.bool true)] ?_;cases h;exact ⟨rfl,(sw [] [] [.s 2] [] an)⟩
     ·replace h:=xD v3 h;refine bE h fun zA zH h=>r0 [iG 3 2,iH 5 Hf,iG 10 2,iH 12 Hf,iH 13 Hf,iH 20 Ht,iH 21 Hf,iH 26 Hf,iR 3 zO,iQ 3 false,iR 2 w4,iA false,iC w4,iQ 4 false,iR 2 w5,iA false,iC w5,iA false,iR 2 v3,iK 24 {} (nH ([95,46,58,47,60,62,36,42,126,45]:List Int) zB zA zH),iR 2 v3] [(2,.bool (decide (zA≥(0:Int))))] ?_;cases h;exact ⟨rfl,(sw [] [] [.s 2] [] an)⟩
    ·replace h:=xD w5 h;refine bE h fun zA zH h=>r0 [iG 3 2,iH 5 Hf,iG 10 2,iH 12 Hf,iH 13 Hf,iG 18 2,iH 20 Hf,iH 21 Hf,iH 26 Hf,iR 3 zO,iQ 3 false,iR 2 w4,iA false,iC w4,iQ 4 false,iR 2 w5,iA false,iC w5,iQ 3 false,iK 24 {} (nH ([95,46,58,47,60,62,36,42,126,45]:List Int) zB zA zH),iQ 2 false] [(2,.bool (decide (zA≥(0:Int))))] ?_;cases h;exact ⟨rfl,(sw [] [] [.s 2] [] an)⟩
 cases h;exact rt rx

theorem d6 (F:Nat) (zE:List Int) (r:Int) (h:pN F zE=some r):yK prog 99 [] [] [.str zE] [] (Ii r):=by
 refine tI Go.Proofs.Tryz.f99 ?_;unfold pN at h;refine sE [] [(0,.str zE)] [] 0 (sq (ad 10 h ?_ ?_ ?_))
 ·rcases bft (zE==([]:List Int)) with zO | zO
  ·exact rm [iG 3 3,iH 6 Ht,iR 4 zO] (ort zO)
  ·exact rm [iH 6 Hf,iR 4 zO] (orf zO rfl)
 ·intro yC h;refine s0 [] [(2,Ii 3)] ?_;cases h;exact rt rx
 intro yC h;refine sk (sq (s0 [] [(12,Ii (lN (zE))),(13,Ii 0)] (bE h fun zD zH h=>?_)));refine vG (K1:=(fun e st'=>match zD with | (.inl q0)=>e=.normal∧Sub 0 st' (mk [] [] 0) | (.inr q1)=>e=.ret∧vH prog Go.Proofs.Tryz.f99 0 [] (Ii q1) st')) ?_ ?_
 ·replace h:=zH;refine yR (id:=0) zk ?_;refine w0 [] [] [(0,.str zE),(12,Ii (lN (zE))),(13,Ii 0)] [] ?_;refine x8 (fun n st=>∃ (zJ:Int),st=mk [(0,.str zE),(12,Ii (lN (zE))),(13,Ii zJ)] [] 0∧gL F zE n zJ=some zD) F zk ⟨_,rfl,h⟩ ?_ ?_
  ·rintro _ ⟨_,_,h⟩;exact x7 (h:(none:Option (Unit⊕Int))=some zD)
  rintro z4 _ ⟨zJ,rfl,h⟩;replace h:gZ F zE (gL F zE z4) zJ=some zD:=h;unfold gZ at h;refine s0 [] [(14,.bool (decide (zJ<(lN (zE)))))] (sq (ch 14 h ?_ ?_))
  rotate_left
  ·intro y0 h;refine x4 (id:=0) zk ?_;cases h;exact ⟨rfl,(sw [] [] [] [] an)⟩
  intro y0 h;refine sk (sq ?_);refine yR (id:=1) zk ?_;refine s0 [] [(3,Ii zJ)] (sq (bE h fun zB zS h=>bE h fun zA yU h=>r0 [iH 2 { z:=zB },iC zS,iK 3 {} (S5 zB zA yU)] [(20,.bool (!zA))] (ch 20 h ?_ ?_)))
  rotate_left
  ·intro xH h;refine sk (r0 [] [(13,Ii (zI (zJ+(1:Int))))] ?_);exact ⟨_,(sw [] [] [.s 0,.s 12,.s 13] [] an),_,rfl,h⟩
  intro xH h;refine s0 [] [(2,Ii 3)] ?_;cases h;exact rt ry
 intro e st1 hk;rcases zD with z7 | xG
 rotate_left
 ·obtain ⟨rfl,hf⟩:=hk;cases h;exact ⟨st1,Sub.refl _ _,.inr rfl,hf⟩
 obtain ⟨rfl,hs⟩:=hk;refine ⟨_,hs,?_⟩;refine s0 [] [(2,Ii 0)] ?_;cases h;exact rt rx

theorem SQ (F:Nat) (vJ:y6) (r:Int) (h:gM F vJ=some r):yK prog 58 [] [] [zZ vJ] [] (Ii r):=by
 refine tI Go.Proofs.Tryz.f58 ?_;unfold gM at h;refine sE [iH 0 { id:=0 }] [(1,Pp 0)] [(0,Vb 85 (uN vJ))] 1 (sq (ad 20 h ?_ ?_ ?_))
 ·rcases bft (decide (vJ.Id<(0:Int))) with zO | zO
  ·exact rm [iG 4 3,iH 7 Ht,iG 9 3,iH 12 Ht,iG 14 3,iH 17 Ht,iR 4 zO,iX 3,iA true,iX 3,iA true] (ort zO)
  ·rcases bft (decide (vJ.Id>(1000000000000000:Int))) with zP | zP
   ·exact rm [iH 7 Hf,iG 9 3,iH 12 Ht,iG 14 3,iH 17 Ht,iR 4 zO,iR 4 zP,iX 3,iA true] (orf zO (ort zP))
   ·rcases bft (decide (vJ.Domain<(0:Int))) with z8 | z8
    ·exact rm [iH 7 Hf,iH 12 Hf,iG 14 3,iH 17 Ht,iR 4 zO,iR 4 zP,iR 4 z8] (orf zO (orf zP (ort z8)))
    ·exact rm [iH 7 Hf,iH 12 Hf,iH 17 Hf,iR 4 zO,iR 4 zP,iR 4 z8] (orf zO (orf zP (orf z8 rfl)))
 ·intro yC h;refine s2 [] [1] [(2,Ii 2)] [0] [] 1 ?_;cases h;exact rt rx
 intro yC h;refine sk (sq (bE h fun zA zH h=>r2 [iK 2 {} (d6 F vJ.Name zA zH)] [1] [(2,Ii zA)] [0] [] 1 ?_));cases h;exact rt rx

theorem R0 (zK:yQ) (yO:Int) (r:Bool) (h:oB zK yO=some r):yK prog 151 [(.var 3 [Ii yO])] [] [zR zK,Pp 0] [(.var 3 [Ii yO])] (.bool r):=by
 refine tI Go.Proofs.Tryz.f151 ?_;unfold oB at h;refine sE [iH 0 { id:=1 }] [(1,Pp 0),(2,Pp 1)] [(0,Vb 3 [Ii yO]),(1,Vb 87 (cD zK))] 2 (s2 [] [1,2] [(3,.bool (zK.Id==yO))] [1] [] 2 ?_);cases h;exact rt rx

theorem OX (F:Nat) (zE:List (yQ)) (zB:Int) (r:Int) (h:gF F zE zB=some r):yK prog 100 [(.var 3 [Ii zB])] [] [Sq 2 zR zE,.fn 151 [Pp 0]] [(.var 3 [Ii zB])] (Ii r):=by
 refine tI Go.Proofs.Tryz.f100 ?_;unfold gF at h;refine sE [] [(0,Sq 2 zR zE),(1,.fn 151 [Pp 0])] [(0,Vb 3 [Ii zB])] 1 (sq (s0 [iN 1 zR zE] [(7,Ii (lN (zE))),(8,Ii 0)] (bE h fun zD zH h=>?_)));refine vG (K1:=(fun e st'=>match zD with | (.inl q0)=>e=.normal∧Sub 1 st' (mk [] [(0,Vb 3 [Ii zB])] 1) | (.inr q1)=>e=.ret∧vH prog Go.Proofs.Tryz.f100 1 [(.var 3 [Ii zB])] (Ii q1) st')) ?_ ?_
 ·replace h:=zH;refine yR (id:=0) zk ?_;refine w0 [0] [] [(0,Sq 2 zR zE),(1,.fn 151 [Pp 0]),(7,Ii (lN (zE))),(8,Ii 0)] [(0,Vb 3 [Ii zB])] ?_;refine x8 (fun n st=>∃ (zJ:Int),st=mk [(0,Sq 2 zR zE),(1,.fn 151 [Pp 0]),(7,Ii (lN (zE))),(8,Ii zJ)] [(0,Vb 3 [Ii zB])] 1∧dV F zE zB n zJ=some zD) F zk ⟨_,rfl,h⟩ ?_ ?_
  ·rintro _ ⟨_,_,h⟩;exact x7 (h:(none:Option (Unit⊕Int))=some zD)
  rintro z4 _ ⟨zJ,rfl,h⟩;replace h:bM F zE zB (dV F zE zB z4) zJ=some zD:=h;unfold bM at h;refine s0 [] [(9,.bool (decide (zJ<(lN (zE)))))] (sq (ch 9 h ?_ ?_))
  rotate_left
  ·intro yC h;refine x4 (id:=0) zk ?_;cases h;exact ⟨rfl,(sw [0] [] [] [.s 0] an)⟩
  intro yC h;refine sk (sq ?_);refine yR (id:=1) zk ?_;refine s0 [] [(5,Ii zJ)] (sq (bE h fun zK zS h=>bE h fun zA yU h=>r0 [iF 3 zR zS,iK 5 { ids:=[0] } (R0 zK zB zA yU)] [(16,.bool zA)] (ch 16 h ?_ ?_)))
  rotate_left
  ·intro y0 h;refine sk (r0 [] [(8,Ii (zI (zJ+(1:Int))))] ?_);exact ⟨_,(sw [0] [] [.s 0,.s 1,.s 7,.s 8] [.s 0] an),_,rfl,h⟩
  intro y0 h;refine s1 [] [0,1] [(4,Ii zJ)] ?_;cases h;exact rt ry
 intro e st1 hk;rcases zD with z7 | xG
 rotate_left
 ·obtain ⟨rfl,hf⟩:=hk;cases h;exact ⟨st1,Sub.refl _ _,.inr rfl,hf⟩
 obtain ⟨rfl,hs⟩:=hk;refine ⟨_,hs,?_⟩;refine s0 [] [(4,Ii (-1))] ?_;cases h;exact rt rx

theorem CF (F:Nat) (zG:List (yQ)) (vZ:Int) (r:Int) (h:aJ F zG vZ=some r):yK prog 126 [] [] [Sq 2 zR zG,Ii vZ] [] (Ii r):=by
 refine tI Go.Proofs.Tryz.f126 ?_;unfold aJ at h;refine sE [iH 0 { id:=0 }] [(0,Sq 2 zR zG),(3,Pp 0)] [(0,Vb 3 [Ii vZ])] 1 (sq (bE h fun zA zH h=>r2 [iK 2 { ids:=[0] } (OX F zG vZ zA zH)] [0,3] [(4,Ii zA)] [0] [] 1 ?_));cases h;exact rt rx

theorem VK (F:Nat) (zG:List (yQ)) (r:Int) (h:dO F zG=some r):yK prog 87 [] [] [Sq 2 zR zG] [] (Ii r):=by
 refine tI Go.Proofs.Tryz.f87 ?_;unfold dO at h;refine sE [] [(0,Sq 2 zR zG)] [] 0 (sq (s0 [iN 1 zR zG] [(5,Sq 2 zR zG),(6,Ii (lN (zG))),(7,Ii 0)] (bE h fun zD zH h=>?_)));refine vG (K1:=(fun e st'=>match zD with | (.inl q0)=>e=.normal∧Sub 0 st' (mk [] [] 0) | (.inr q1)=>e=.ret∧vH prog Go.Proofs.Tryz.f87 0 [] (Ii q1) st')) ?_ ?_
 ·replace h:=zH;refine yR (id:=0) zk ?_;refine w0 [] [] [(0,Sq 2 zR zG),(5,Sq 2 zR zG),(6,Ii (lN (zG))),(7,Ii 0)] [] ?_;refine x8 (fun n st=>∃ (zJ:Int),st=mk [(0,Sq 2 zR zG),(5,Sq 2 zR zG),(6,Ii (lN (zG))),(7,Ii zJ)] [] 0∧fR F zG n zJ=some zD) F zk ⟨_,rfl,h⟩ ?_ ?_
  ·rintro _ ⟨_,_,h⟩;exact x7 (h:(none:Option (Unit⊕Int))=some zD)
  rintro z4 _ ⟨zJ,rfl,h⟩;replace h:aO F zG (fR F zG z4) zJ=some zD:=h;unfold aO at h;refine s0 [] [(8,.bool (decide (zJ<(lN (zG)))))] (sq (ch 8 h ?_ ?_))
  rotate_left
  ·intro yC h;refine x4 (id:=0) zk ?_;cases h;exact ⟨rfl,(sw [] [] [] [] an)⟩
  intro yC h;refine sk (sq ?_);refine yR (id:=1) zk ?_;refine sq (bE h fun zK zS h=>r2 [iH 3 { id:=0 },iF 1 zR zS] [] [(3,Ii zJ),(4,Pp 0)] [] [(0,Vb 87 (cD zK))] 1 (sq (ad 29 h ?_ ?_ ?_)))
  ·rcases bft (decide (zK.Id<(0:Int))) with wL | wL
   ·exact rm [iG 4 3,iH 7 Ht,iG 9 3,iH 12 Ht,iG 14 3,iH 17 Ht,iR 4 wL,iX 3,iA true,iX 3,iA true] (ort wL)
   ·rcases bft (decide (zK.Id≥(8:Int))) with wI | wI
    ·exact rm [iH 7 Hf,iG 9 3,iH 12 Ht,iG 14 3,iH 17 Ht,iR 4 wL,iR 4 wI,iX 3,iA true] (orf wL (ort wI))
    ·rcases bft (decide (zK.Ppm<(0:Int))) with wX | wX
     ·exact rm [iH 7 Hf,iH 12 Hf,iG 14 3,iH 17 Ht,iR 4 wL,iR 4 wI,iR 4 wX] (orf wL (orf wI (ort wX)))
     ·exact rm [iH 7 Hf,iH 12 Hf,iH 17 Hf,iR 4 wL,iR 4 wI,iR 4 wX] (orf wL (orf wI (orf wX rfl)))
  ·intro y0 h;refine s2 [] [0,5,4] [(2,Ii 2)] [0] [] 1 ?_;cases h;exact rt ry
  intro y0 h;refine sk (sq (nE h fun yU h=>bE h fun zA xB h=>r2 [iS 2 zR zG (0:Int) zJ (by decide) yU.1 yU.2,iK 5 {} (CF F (sub zG (0:Int) zJ) zK.Id zA xB)] [4] [(36,.bool (decide (zA≥(0:Int))))] [0] [] 1 (ch 36 h ?_ ?_)))
  rotate_left
  ·intro xH h;refine sk (r0 [] [(7,Ii (zI (zJ+(1:Int))))] ?_);exact ⟨_,(sw [] [] [.s 0,.s 5,.s 6,.s 7] [] an),_,rfl,h⟩
  intro xH h;refine s1 [] [0,5] [(2,Ii 4)] ?_;cases h;exact rt ry
 intro e st1 hk;rcases zD with z7 | xG
 rotate_left
 ·obtain ⟨rfl,hf⟩:=hk;cases h;exact ⟨st1,Sub.refl _ _,.inr rfl,hf⟩
 obtain ⟨rfl,hs⟩:=hk;refine ⟨_,hs,?_⟩;refine s0 [] [(2,Ii 0)] ?_;cases h;exact rt rx

theorem BW (z4:Int) (r:Bool) (h:dD z4=some r):yK prog 127 [] [] [Ii z4] [] (.bool r):=by
 refine tI Go.Proofs.Tryz.f127 ?_;unfold dD at h;refine sE [] [(0,Ii z4)] [] 0 (sq (am 2 (decide (z4≥(0:Int))&&decide (z4≤(1000000000000:Int))) ?_ ?_))
 ·rcases bft (decide (z4≥(0:Int))) with zO | zO
  ·exact rm [iH 5 Ht,iR 3 zO] (vA zO rfl)
  ·exact rm [iG 3 2,iH 5 Hf,iR 3 zO] (uO zO)
 cases h;exact rt rx

theorem V0 (F:Nat) (zG:List (yQ)) (zK:y2) (r:Int) (h:g6 F zG zK=some r):yK prog 88 [] [] [Sq 2 zR zG,zW zK] [] (Ii r):=by
 refine tI Go.Proofs.Tryz.f88 ?_;unfold g6 at h;refine sE [iH 0 { id:=0 }] [(0,Sq 2 zR zG),(3,Pp 0)] [(0,Vb 76 (tV zK))] 1 (sq ?_);refine yR (id:=0) zk ?_;refine sq (sq (bE h fun zA zH h=>r0 [iK 3 {} (CF F zG zK.A zA zH)] [(5,.bool (decide (zA<(0:Int))))] (bE h fun zD zS h=>?_)));refine xL (mk [(3,Pp 0),(5,.bool zD)] [(0,Vb 76 (tV zK))] 1) ?_ ?_
 ·replace h:=zS;refine ch 5 h ?_ ?_
  ·intro yC h;refine sk ?_;cases h;exact ⟨rfl,(sw [0] [] [.s 3,.s 5] [.s 0] an)⟩
  intro yC h;refine bE h fun zF yU h=>r1 [iK 3 {} (CF F zG zK.B zF yU)] [0] [(5,.bool (decide (zF<(0:Int))))] ?_;cases h;exact ⟨rfl,(sw [0] [] [.s 3,.s 5] [.s 0] an)⟩
 refine ch 5 h ?_ ?_
 ·intro y0 h;refine s2 [] [3] [(4,Ii 5)] [0] [] 1 ?_;cases h;exact rt rx
 intro y0 h;refine c0 [] 16 h [] ?_ ?_
 ·intro xH h;refine s2 [] [3] [(4,Ii 1)] [0] [] 1 ?_;cases h;exact rt rx
 intro xH h;refine sq (sq (bE h fun zN xB h=>r0 [iK 2 {} (BW zK.AtA zN xB)] [(22,.bool (!zN))] (ch 22 h ?_ ?_)))
 ·intro w7 h;refine sk (cd 22 (!zN) ?_ ?_)
  rotate_left
  ·intro hg;exact Bool.noConfusion ((w7).symm.trans hg)
  intro _;refine s2 [] [3] [(4,Ii 2)] [0] [] 1 ?_;cases h;exact rt rx
 intro w7 h;refine sq (bE h fun zV xJ h=>r0 [iK 3 {} (BW zK.AtB.Lo zV xJ)] [(22,.bool (!zV))] (ch 22 h ?_ ?_))
 ·intro vM h;refine sk (cd 22 (!zV) ?_ ?_)
  rotate_left
  ·intro hg;exact Bool.noConfusion ((vM).symm.trans hg)
  intro _;refine s2 [] [3] [(4,Ii 2)] [0] [] 1 ?_;cases h;exact rt rx
 intro vM h;refine sq (bE h fun zU x3 h=>r0 [iK 3 {} (BW zK.AtB.Hi zU x3)] [(22,.bool (!zU))] (ch 22 h ?_ ?_))
 ·intro v8 h;refine sk (cd 22 (!zU) ?_ ?_)
  rotate_left
  ·intro hg;exact Bool.noConfusion ((v8).symm.trans hg)
  intro _;refine s2 [] [3] [(4,Ii 2)] [0] [] 1 ?_;cases h;exact rt rx
 intro v8 h;refine r2 [] [3] [(22,.bool (decide (zK.AtB.Lo>zK.AtB.Hi)))] [0] [] 1 (ch 22 h ?_ ?_)
 ·intro u3 h;refine s0 [] [(4,Ii 2)] ?_;cases h;exact rt rx
 intro u3 h;refine sk (s0 [] [(4,Ii 0)] ?_);cases h;exact rt rx

theorem DF (F:Nat) (zG:List (yQ)) (zQ:List (y2)) (r:Int) (h:bD F zG zQ=some r):yK prog 46 [] [] [Sq 2 zR zG,Sq 5 zW zQ] [] (Ii r):=by
 refine tI Go.Proofs.Tryz.f46 ?_;unfold bD at h;refine sE [] [(0,Sq 2 zR zG),(1,Sq 5 zW zQ)] [] 0 (sq (c0 [iN 1 zR zG] 11 h [] ?_ ?_))
 ·intro yC h;refine s1 [] [0,1] [(4,Ii 8)] ?_;cases h;exact rt rx
 intro yC h;refine sk (sq (ad 19 h ?_ ?_ ?_))
 ·rcases bft (decide ((lN (zG))>(8:Int))) with zO | zO
  ·exact rm [iG 4 3,iH 7 Ht,iN 1 zR zG,iR 4 zO] (ort zO)
  ·exact rm [iH 7 Hf,iN 1 zR zG,iR 2 zO,iN 5 zW zQ,iR 2 zO] (orf zO rfl)
 ·intro y0 h;refine s1 [] [0,1] [(4,Ii 7)] ?_;cases h;exact rt rx
 intro y0 h;refine sk (sq (sq (bE h fun zK zH h=>r0 [iH 4 { b:=(decide (zK=(⟨(0:Int),(0:Int)⟩:yQ))),mks:=[.int .i64,.int .i64] },iF 1 zR zH,iC (MH:qK prog 87 [.int .i64,.int .i64]),iC (d3 (f:=zR) HA zK (⟨(0:Int),(0:Int)⟩:yQ):((decide (zK=(⟨(0:Int),(0:Int)⟩:yQ)))=true↔AV.agg [Ii zK.Id,Ii zK.Ppm]=AV.agg [Ii 0,Ii 0]))] [(24,.bool (!(decide (zK=(⟨(0:Int),(0:Int)⟩:yQ)))))] (ch 24 h ?_ ?_))))
 ·intro xH h;refine s1 [] [0,1] [(4,Ii 10)] ?_;cases h;exact rt rx
 intro xH h;refine sk (sq (sq (bE h fun zA zS h=>r0 [iK 1 {} (VK F zG zA zS)] [(5,Ii zA)] (c0 [] 28 h [] ?_ ?_))))
 ·intro w7 h;refine s1 [] [0,1] [(4,Ii zA)] ?_;cases h;exact rt rx
 intro w7 h;refine sk (sq (s1 [iN 1 zW zQ] [1] [(30,Sq 5 zW zQ),(31,Ii (lN (zQ))),(32,Ii 0)] (bE h fun zD yU h=>?_)));refine vG (K1:=(fun e st'=>match zD with | (.inl q0)=>e=.normal∧Sub 0 st' (mk [] [] 0) | (.inr q1)=>e=.ret∧vH prog Go.Proofs.Tryz.f46 0 [] (Ii q1) st')) ?_ ?_
 ·replace h:=yU;refine yR (id:=0) zk ?_;refine w0 [] [] [(0,Sq 2 zR zG),(30,Sq 5 zW zQ),(31,Ii (lN (zQ))),(32,Ii 0)] [] ?_;refine x8 (fun n st=>∃ (zJ:Int),st=mk [(0,Sq 2 zR zG),(30,Sq 5 zW zQ),(31,Ii (lN (zQ))),(32,Ii zJ)] [] 0∧d4 F zG zQ n zJ=some zD) F zk ⟨_,rfl,h⟩ ?_ ?_
  ·rintro _ ⟨_,_,h⟩;exact x7 (h:(none:Option (Unit⊕Int))=some zD)
  rintro z4 _ ⟨zJ,rfl,h⟩;replace h:bK F zG zQ (d4 F zG zQ z4) zJ=some zD:=h;unfold bK at h;refine s0 [] [(33,.bool (decide (zJ<(lN (zQ)))))] (sq (ch 33 h ?_ ?_))
  rotate_left
  ·intro vM h;refine x4 (id:=0) zk ?_;cases h;exact ⟨rfl,(sw [] [] [] [] an)⟩
  intro vM h;refine sk (sq ?_);refine yR (id:=1) zk ?_;refine sq (bE h fun yA xB h=>r2 [iH 2 { id:=0 },iF 0 zW xB] [] [(7,Pp 0)] [] [(0,Vb 76 (tV yA))] 1 (sq (bE h fun zF xJ h=>r2 [iK 2 {} (V0 F zG yA zF xJ)] [7] [(8,Ii zF)] [0] [] 1 (c0 [] 40 h [] ?_ ?_))))
  rotate_left
  ·intro v8 h;refine sk (r0 [] [(32,Ii (zI (zJ+(1:Int))))] ?_);exact ⟨_,(sw [] [] [.s 0,.s 30,.s 31,.s 32] [] an),_,rfl,h⟩
  intro v8 h;refine s1 [] [0,30] [(4,Ii zF)] ?_;cases h;exact rt ry
 intro e st1 hk;rcases zD with z7 | xG
 rotate_left
 ·obtain ⟨rfl,hf⟩:=hk;cases h;exact ⟨st1,Sub.refl _ _,.inr rfl,hf⟩
 obtain ⟨rfl,hs⟩:=hk;refine ⟨_,hs,?_⟩;refine s0 [] [(4,Ii 0)] ?_;cases h;exact rt rx

theorem ON (zG:yQ) (yO:y6) (r:Bool) (h:mG zG yO=some r):yK prog 60 [(.var 85 (uN yO))] [] [zR zG,Pp 0] [(.var 85 (uN yO))] (.bool r):=by
 refine tI Go.Proofs.Tryz.f60 ?_;unfold mG at h;refine sE [iH 0 { id:=1 }] [(1,Pp 0),(2,Pp 1)] [(0,Vb 85 (uN yO)),(1,Vb 87 (cD zG))] 2 (s2 [] [1,2] [(3,.bool (zG.Id==yO.Domain))] [1] [] 2 ?_);cases h;exact rt rx

theorem T8 (F:Nat) (zE:List (yQ)) (zB:y6) (r:Int) (h:gT F zE zB=some r):yK prog 100 [(.var 85 (uN zB))] [] [Sq 2 zR zE,.fn 60 [Pp 0]] [(.var 85 (uN zB))] (Ii r):=by
 refine tI Go.Proofs.Tryz.f100 ?_;unfold gT at h;refine sE [] [(0,Sq 2 zR zE),(1,.fn 60 [Pp 0])] [(0,Vb 85 (uN zB))] 1 (sq (s0 [iN 1 zR zE] [(7,Ii (lN (zE))),(8,Ii 0)] (bE h fun zD zH h=>?_)));refine vG (K1:=(fun e st'=>match zD with | (.inl q0)=>e=.normal∧Sub 1 st' (mk [] [(0,Vb 85 (uN zB))] 1) | (.inr q1)=>e=.ret∧vH prog Go.Proofs.Tryz.f100 1 [(.var 85 (uN zB))] (Ii q1) st')) ?_ ?_
 ·replace h:=zH;refine yR (id:=0) zk ?_;refine w0 [0] [] [(0,Sq 2 zR zE),(1,.fn 60 [Pp 0]),(7,Ii (lN (zE))),(8,Ii 0)] [(0,Vb 85 (uN zB))] ?_;refine x8 (fun n st=>∃ (zJ:Int),st=mk [(0,Sq 2 zR zE),(1,.fn 60 [Pp 0]),(7,Ii (lN (zE))),(8,Ii zJ)] [(0,Vb 85 (uN zB))] 1∧fT F zE zB n zJ=some zD) F zk ⟨_,rfl,h⟩ ?_ ?_
  ·rintro _ ⟨_,_,h⟩;exact x7 (h:(none:Option (Unit⊕Int))=some zD)
  rintro z4 _ ⟨zJ,rfl,h⟩;replace h:aN F zE zB (fT F zE zB z4) zJ=some zD:=h;unfold aN at h;refine s0 [] [(9,.bool (decide (zJ<(lN (zE)))))] (sq (ch 9 h ?_ ?_))
  rotate_left
  ·intro yC h;refine x4 (id:=0) zk ?_;cases h;exact ⟨rfl,(sw [0] [] [] [.s 0] an)⟩
  intro yC h;refine sk (sq ?_);refine yR (id:=1) zk ?_;refine s0 [] [(5,Ii zJ)] (sq (bE h fun zK zS h=>bE h fun zA yU h=>r0 [iF 3 zR zS,iK 5 { ids:=[0] } (ON zK zB zA yU)] [(16,.bool zA)] (ch 16 h ?_ ?_)))
  rotate_left
  ·intro y0 h;refine sk (r0 [] [(8,Ii (zI (zJ+(1:Int))))] ?_);exact ⟨_,(sw [0] [] [.s 0,.s 1,.s 7,.s 8] [.s 0] an),_,rfl,h⟩
  intro y0 h;refine s1 [] [0,1] [(4,Ii zJ)] ?_;cases h;exact rt ry
 intro e st1 hk;rcases zD with z7 | xG
 rotate_left
 ·obtain ⟨rfl,hf⟩:=hk;cases h;exact ⟨st1,Sub.refl _ _,.inr rfl,hf⟩
 obtain ⟨rfl,hs⟩:=hk;refine ⟨_,hs,?_⟩;refine s0 [] [(4,Ii (-1))] ?_;cases h;exact rt rx

theorem Q3 (F:Nat) (zE:List (yQ)) (zB:y6) (r:Bool) (h:oZ F zE zB=some r):yK prog 59 [(.var 85 (uN zB))] [] [Sq 2 zR zE,.fn 60 [Pp 0]] [(.var 85 (uN zB))] (.bool r):=by
 refine tI Go.Proofs.Tryz.f59 ?_;unfold oZ at h;refine sE [] [(0,Sq 2 zR zE),(1,.fn 60 [Pp 0])] [(0,Vb 85 (uN zB))] 1 (sq (bE h fun zA zH h=>r1 [iK 2 { ids:=[0] } (T8 F zE zB zA zH)] [0,1] [(4,.bool (decide (zA≥(0:Int))))] ?_));cases h;exact rt rx

theorem fJ (F:Nat) (zH:z6) (r:Int) (h:aV F zH=some r):yK prog 20 [] [] [vC zH] [] (Ii r):=by
 refine tI Go.Proofs.Tryz.f20 ?_;unfold aV at h;refine sE [iH 0 { id:=0 }] [(1,Pp 0)] [(0,Vb 28 (wA zH))] 1 (sq ?_);refine yR (id:=0) zk ?_;refine c0 [iN 2 zZ zH.Threads] 10 h [] ?_ ?_
 ·intro yC h;refine s2 [] [1] [(2,Ii 8)] [0] [] 1 ?_;cases h;exact rt rx
 intro yC h;refine c0 [iN 2 zZ zH.Threads] 15 h [] ?_ ?_
 ·intro y0 h;refine s2 [] [1] [(2,Ii 7)] [0] [] 1 ?_;cases h;exact rt rx
 intro y0 h;refine sk (s2 [iH 0 { id:=1,mag:=false,mks:=[.int .i64] }] [] [(3,.mp 1)] [] [(1,.live (.map false [.int .i64] []))] 2 (sq (s0 [iN 2 zZ zH.Threads] [(22,Sq 3 zZ zH.Threads),(23,Ii (lN (zH.Threads))),(24,Ii 0)] (bE h fun zD zS h=>?_))));refine vG (K1:=(fun e st'=>match zD with | (.inl q0)=>e=.normal∧Sub 0 st' (mk [(1,Pp 0)] [(0,Vb 28 (wA zH))] 1) | (.inr q1)=>e=.ret∧vH prog Go.Proofs.Tryz.f20 0 [] (Ii q1) st')) ?_ ?_
 ·replace h:=zS;refine yR (id:=1) zk ?_;refine w0 [0,1] [] [(1,Pp 0),(3,.mp 1),(22,Sq 3 zZ zH.Threads),(23,Ii (lN (zH.Threads))),(24,Ii 0)] [(0,Vb 28 (wA zH)),(1,.live (.map false [.int .i64] []))] ?_;refine x8 (fun n st=>∃ (zJ:Int),∃ (zL:List (Int×Bool)),st=mk [(1,Pp 0),(3,.mp 1),(22,Sq 3 zZ zH.Threads),(23,Ii (lN (zH.Threads))),(24,Ii zJ)] [(0,Vb 28 (wA zH)),(1,.live (.map false [.int .i64] (List.map (mpE (AV.int .i64) AV.bool) zL)))] 2∧b7 F zH n zJ zL=some zD) F zk ⟨_,_,rfl,h⟩ ?_ ?_
  ·rintro _ ⟨_,_,_,h⟩;exact x7 (h:(none:Option (Unit⊕Int))=some zD)
  rintro z4 _ ⟨zJ,zL,rfl,h⟩;replace h:iE F zH (b7 F zH z4) zJ zL=some zD:=h;unfold iE at h;refine s0 [] [(25,.bool (decide (zJ<(lN (zH.Threads)))))] (sq (ch 25 h ?_ ?_))
  rotate_left
  ·intro xH h;refine x4 (id:=1) zk ?_;cases h;exact ⟨rfl,(sw [0] [] [.s 1] [.s 0] an)⟩
  intro xH h;refine sk (sq ?_);refine yR (id:=2) zk ?_;refine sq (bE h fun zK yU h=>r2 [iH 2 { id:=2 },iF 0 zZ yU] [] [(5,Pp 2)] [] [(2,Vb 85 (uN zK))] 3 (sq (sq (bE h fun zA xB h=>r0 [iK 1 {} (SQ F zK zA xB)] [(6,Ii zA)] (c0 [] 31 h [] ?_ ?_)))))
  ·intro w7 h;refine s2 [] [1,3,22,5] [(2,Ii zA)] [0,1,2] [] 3 ?_;cases h;exact rt ry
  intro w7 h;refine sk (sq (c0 [iH 3 { av:=(.bool ((w9 zL zK.Id).getD false)),g:=(w9 zL zK.Id).isSome },iC (rN:v9 prog 3 false [.int .i64]),iC (rD (f:=(AV.int .i64)) (g:=AV.bool) m5 zL zK.Id false:pJ (List.map (mpE (AV.int .i64) AV.bool) zL) (Ii zK.Id) (.bool false) (.bool ((w9 zL zK.Id).getD false)) (w9 zL zK.Id).isSome)] 36 h [] ?_ ?_))
  ·intro vM h;refine s2 [] [1,3,22,5] [(2,Ii 4)] [0,1,2] [] 3 ?_;cases h;exact rt ry
  intro vM h;refine sk (nE h fun xJ h=>r2 [iH 3 { es:=(List.map (mpE (AV.int .i64) AV.bool) (xS zL zK.Id true)) },iC (rN:v9 prog 3 false [.int .i64]),iC (oW (f:=(AV.int .i64)) (g:=AV.bool) m5 zL zK.Id true:n3 (List.map (mpE (AV.int .i64) AV.bool) zL) (Ii zK.Id) (.bool true) (List.map (mpE (AV.int .i64) AV.bool) (xS zL zK.Id true))),iC (lM (l:=zL) xJ:((List.map (mpE (AV.int .i64) AV.bool) zL):List (AV×AV)).length<maxLen)] [5] [] [2] [(1,.live (.map false [.int .i64] (List.map (mpE (AV.int .i64) AV.bool) (xS zL zK.Id true))))] 3 (r0 [] [(24,Ii (zI (zJ+(1:Int))))] ?_));exact ⟨_,(sw [0,1] [] [.s 1,.s 3,.s 22,.s 23,.s 24] [.s 0,.s 1] an),_,_,rfl,h⟩
 intro e st1 hk;rcases zD with z7 | xG
 rotate_left
 ·obtain ⟨rfl,hf⟩:=hk;cases h;exact ⟨st1,Sub.refl _ _,.inr rfl,hf⟩
 obtain ⟨rfl,hs⟩:=hk;refine ⟨_,hs,?_⟩;refine sq (sq (bE h fun zF x3 h=>r0 [iK 4 {} (DF F zH.Domains zH.Snaps zF x3)] [(7,Ii zF)] (c0 [] 47 h [] ?_ ?_)))
 ·intro v8 h;refine s2 [] [1] [(2,Ii zF)] [0] [] 1 ?_;cases h;exact rt rx
 intro v8 h;refine sk (sq (s0 [iN 2 zZ zH.Threads] [(50,Sq 3 zZ zH.Threads),(51,Ii (lN (zH.Threads))),(52,Ii 0)] (bE h fun zT wP h=>?_)));refine vG (K1:=(fun e st'=>match zT with | (.inl q0)=>e=.normal∧Sub 0 st' (mk [] [] 0) | (.inr q1)=>e=.ret∧vH prog Go.Proofs.Tryz.f20 0 [] (Ii q1) st')) ?_ ?_
 ·replace h:=wP;refine yR (id:=3) zk ?_;refine w0 [0] [] [(1,Pp 0),(50,Sq 3 zZ zH.Threads),(51,Ii (lN (zH.Threads))),(52,Ii 0)] [(0,Vb 28 (wA zH))] ?_;refine x8 (fun n st=>∃ (xK:Int),st=mk [(1,Pp 0),(50,Sq 3 zZ zH.Threads),(51,Ii (lN (zH.Threads))),(52,Ii xK)] [(0,Vb 28 (wA zH))] 1∧dF F zH n xK=some zT) F zk ⟨_,rfl,h⟩ ?_ ?_
  ·rintro _ ⟨_,_,h⟩;exact x7 (h:(none:Option (Unit⊕Int))=some zT)
  rintro uB _ ⟨xK,rfl,h⟩;replace h:bJ F zH (dF F zH uB) xK=some zT:=h;unfold bJ at h;refine s0 [] [(53,.bool (decide (xK<(lN (zH.Threads)))))] (sq (ch 53 h ?_ ?_))
  rotate_left
  ·intro u3 h;refine x4 (id:=3) zk ?_;cases h;exact ⟨rfl,(sw [] [] [] [] an)⟩
  intro u3 h;refine sk (sq ?_);refine yR (id:=4) zk ?_;refine sq (bE h fun yA w6 h=>r2 [iH 2 { id:=1 },iF 0 zZ w6] [] [(9,Pp 1)] [] [(1,Vb 85 (uN yA))] 2 (sq (bE h fun zN vF h=>r2 [iJ 3 { ids:=[1] } ([Sq 2 zR zH.Domains,.fn 60 [Pp 1]]:List AV) (Q3 F zH.Domains yA zN vF)] [9] [(60,.bool (!zN))] [1] [] 2 (ch 60 h ?_ ?_))))
  rotate_left
  ·intro jA h;refine sk (r0 [] [(52,Ii (zI (xK+(1:Int))))] ?_);exact ⟨_,(sw [0] [] [.s 1,.s 50,.s 51,.s 52] [.s 0] an),_,rfl,h⟩
  intro jA h;refine s2 [] [1,50] [(2,Ii 5)] [0] [] 2 ?_;cases h;exact rt ry
 intro e st1 hk;rcases zT with qS | q8
 rotate_left
 ·obtain ⟨rfl,hf⟩:=hk;cases h;exact ⟨st1,Sub.refl _ _,.inr rfl,hf⟩
 obtain ⟨rfl,hs⟩:=hk;refine ⟨_,hs,?_⟩;refine s0 [] [(2,Ii 0)] ?_;cases h;exact rt rx

theorem UC (z4:Int) (r:Int) (h:dX z4=some r):yK prog 102 [] [] [Ii z4] [] (.int .u64 r):=by
 refine tI Go.Proofs.Tryz.f102 ?_;unfold dX at h;refine sE [] [(0,Ii z4)] [] 0 (s0 [iC (by decide:(0:Int)≤(1:Int)),iC (by decide:(0:Int)≤(63:Int))] [(2,.int .u64 (vO .u64 (jT .u64 (v5 z4) (1:Int)) (v5 (uT .i64 z4 (63:Int)))))] ?_);cases h;exact rt rx

theorem tB (F:Nat) (zC:List (Int)) (z4:Int) (r:(List (Int))) (h:uK F zC z4=some r):yK prog 63 [] [] [Sb zC,Ii z4] [.row 5 1 (Mb r)] (.own 0 ((r).length)):=by
 refine tI Go.Proofs.Tryz.f63 ?_;unfold uK at h;refine sE [iH 0 { id:=0,m:=1 }] [(0,Sb zC),(1,Ii z4)] [] 1 (s2 [iH 0 { b:=true,id:=1 }] [] [(5,Pp 1)] [] [(1,Rb 148 1 (Mb (List.replicate 10 (0:Int))))] 2 (s0 [] [(6,Ii 0)] (sq (sq (bE h fun zA zH h=>r0 [iK 1 {} (UC z4 zA zH)] [(7,.int .u64 zA)] (bE h fun zD zS h=>?_))))));refine xL (mk [(0,Sb zC),(5,Pp 0),(6,Ii zD.1)] [(0,Rb 148 1 (Mb zD.2))] 1) ?_ ?_
 ·replace h:=zS;refine yR (id:=0) zk ?_;refine w0 [1] [] [(0,Sb zC),(5,Pp 0),(6,Ii 0),(7,.int .u64 zA)] [(0,Rb 148 1 (Mb (List.replicate 10 (0:Int))))] ?_;refine x8 (fun n st=>∃ (xV:Int),∃ (xR:Int),∃ (zL:List Int),st=mk [(0,Sb zC),(5,Pp 0),(6,Ii xV),(7,.int .u64 xR)] [(0,Rb 148 1 (Mb zL))] 1∧nT F n xV xR zL=some zD) F zk ⟨_,_,_,rfl,h⟩ ?_ ?_
  ·rintro _ ⟨_,_,_,_,h⟩;exact x7 (h:(none:Option (Int×(List Int)))=some zD)
  rintro uB _ ⟨xV,xR,zL,rfl,h⟩;replace h:aH F (nT F uB) xV xR zL=some zD:=h;unfold aH at h;refine sq ?_;refine yR (id:=1) zk ?_;refine sq (nE h fun yU h=>bE h fun zK xB h=>r2 [iH 4 Ht,iH 5 { av:=Iu zK,l:=(Mb ((zL).set ((xV).toNat) (wF (vU .u64 xR (127:Int))))) },iC yU.1,iC yU.2,iC (C0 xB:(Mb zL)[(xV).toNat]?=some (Iu zK)),iC (bW _ _ _:(Mb ((zL).set ((xV).toNat) (wF (vU .u64 xR (127:Int)))))=List.set (Mb zL) ((xV).toNat) (kL (Iu zK) 0 [Iu (wF (vU .u64 xR (127:Int)))]))] [] [] [] [(0,Rb 148 1 (Mb ((zL).set ((xV).toNat) (wF (vU .u64 xR (127:Int))))))] 1 (s0 [] [(6,Ii (zI (xV+(1:Int))))] (sq (c0 [] 20 h [] ?_ ?_))))
  ·intro yC h;refine x4 (id:=0) zk ?_;cases h;exact ⟨rfl,(sw [0] [] [.s 0,.s 5,.s 6] [.s 0] an)⟩
  intro yC h;refine sk (nE h fun xJ h=>bE h fun yA x3 h=>nE h fun wP h=>bE h fun y9 w6 h=>r2 [iH 2 Ht,iH 3 { av:=Iu yA },iH 5 Ht,iH 6 { av:=Iu y9,l:=(Mb (((zL).set ((xV).toNat) (wF (vU .u64 xR (127:Int)))).set ((zI ((zI (xV+(1:Int))) - (1:Int))).toNat) (ior .u8 yA (128:Int)))) },iC xJ.1,iC xJ.2,iC (C0 x3:(Mb ((zL).set ((xV).toNat) (wF (vU .u64 xR (127:Int)))))[(zI ((zI (xV+(1:Int))) - (1:Int))).toNat]?=some (Iu yA)),iC wP.1,iC wP.2,iC (C0 w6:(Mb ((zL).set ((xV).toNat) (wF (vU .u64 xR (127:Int)))))[(zI ((zI (xV+(1:Int))) - (1:Int))).toNat]?=some (Iu y9)),iC (bW _ _ _:(Mb (((zL).set ((xV).toNat) (wF (vU .u64 xR (127:Int)))).set ((zI ((zI (xV+(1:Int))) - (1:Int))).toNat) (ior .u8 yA (128:Int))))=List.set (Mb ((zL).set ((xV).toNat) (wF (vU .u64 xR (127:Int))))) ((zI ((zI (xV+(1:Int))) - (1:Int))).toNat) (kL (Iu y9) 0 [Iu (ior .u8 yA (128:Int))]))] [] [] [] [(0,Rb 148 1 (Mb (((zL).set ((xV).toNat) (wF (vU .u64 xR (127:Int)))).set ((zI ((zI (xV+(1:Int))) - (1:Int))).toNat) (ior .u8 yA (128:Int)))))] 1 (r0 [iC (by decide:(0:Int)≤(7:Int))] [(7,.int .u64 (uT .u64 xR (7:Int)))] ?_));exact ⟨_,(sw [0] [] [.s 0,.s 5,.s 6,.s 7] [.s 0] an),_,_,_,rfl,h⟩
 refine sq (nE h fun vF h=>nE h fun vN h=>nE h fun v7 h=>nE h fun uR h=>r2 [iH 5 { l:=(Mb (sub zC (0:Int) (lN (zC)))) },iH 8 { dep:=true,id:=1,l:=(Mb ((sub zC (0:Int) (lN (zC)))++(((zD.2).take ((zD.1).toNat)).drop 0))),n:=(((sub zC (0:Int) (lN (zC)))++(((zD.2).take ((zD.1).toNat)).drop 0))).length },iN 2 Fb zC,iN 4 Fb zC,i0,iC (Int.natCast_nonneg _:(0:Int)≤(lN (zC))),iC (EV (Int.le_refl _):(lN (zC))≤(lN ((Mb zC)))),iA (lN (zC)),iC (ML _ _ _:(Mb (sub zC (0:Int) (lN (zC))))=(((Mb zC)).take ((lN (zC))).toNat).drop ((0:Int)).toNat),i0,iC vF.1,iC vF.2.1,iC (l7 vF.2.2:10≤((Mb zD.2)).length),iC (l7 vN.2:((zD.1).toNat)≤((Mb zD.2)).length),iC vN.1,iC (S1 _ _ _ _:(Mb ((sub zC (0:Int) (lN (zC)))++(((zD.2).take ((zD.1).toNat)).drop 0)))=(Mb (sub zC (0:Int) (lN (zC))))++(((Mb zD.2)).take ((zD.1).toNat)).drop 0),iC (by first | (simp;done) | simpa using v7:(((List.map (AV.int .u8) (sub zC (0:Int) (((zC).length:Nat):Int))):List AV).length+((((List.map (AV.int .u8) zD.2)).take ((zD.1).toNat)).drop 0:List AV).length) * 1≤140737488355328),iC (by first | (simp;done) | simpa using uR:0<((((List.map (AV.int .u8) zD.2)).take ((zD.1).toNat)).drop 0:List AV).length∨((List.map (AV.int .u8) (sub zC (0:Int) (((zC).length:Nat):Int))):List AV).length=0),iC (by simp:(((sub zC (0:Int) (((zC).length:Nat):Int))++(((zD.2).take ((zD.1).toNat)).drop 0))).length=((List.map (AV.int .u8) ((sub zC (0:Int) (((zC).length:Nat):Int))++(((zD.2).take ((zD.1).toNat)).drop 0)))).length)] [0,5] [(4,.own 1 ((((sub zC (0:Int) (lN (zC)))++(((zD.2).take ((zD.1).toNat)).drop 0))).length))] [0] [(1,Rb 5 1 (Mb ((sub zC (0:Int) (lN (zC)))++(((zD.2).take ((zD.1).toNat)).drop 0))))] 2 (w0 [1] [] [(4,.own 0 ((((sub zC (0:Int) (lN (zC)))++(((zD.2).take ((zD.1).toNat)).drop 0))).length))] [(0,Rb 5 1 (Mb ((sub zC (0:Int) (lN (zC)))++(((zD.2).take ((zD.1).toNat)).drop 0))))] ?_));cases h;exact rt rx

theorem MM (F:Nat) (zC:List (Int)) (zE:List Int) (r:(List (Int))) (h:l8 F zC zE=some r):yK prog 83 [] [] [Sb zC,.str zE] [.row 5 1 (Mb r)] (.own 0 ((r).length)):=by
 refine tI Go.Proofs.Tryz.f83 ?_;unfold l8 at h;refine sE [iH 0 { id:=0,m:=1 }] [(0,Sb zC),(1,.str zE)] [] 1 (sq (bE h fun zA zH h=>r2 [iK 3 { ids:=[1] } (tB F zC (lN (zE)) zA zH)] [0] [(5,.own 1 ((zA).length))] [] [(1,Rb 5 1 (Mb zA))] 2 (sq (nE h fun zS h=>r2 [iH 5 { id:=2,l:=(Mb (List.replicate ((zI ((lN (zA))+(lN (zE)))).toNat) (0:Int))),m:=(zI ((lN (zA))+(lN (zE)))).toNat,n:=(zI ((lN (zA))+(lN (zE)))).toNat },iC ((Int.toNat_of_nonneg zS.1).symm:zI ((lN (zA))+(lN (zE)))=(((zI ((lN (zA))+(lN (zE)))).toNat:Nat):Int)),iC ((Int.toNat_of_nonneg zS.1).symm:zI ((lN (zA))+(lN (zE)))=(((zI ((lN (zA))+(lN (zE)))).toNat:Nat):Int)),iC (Nat.le_refl _:((zI ((lN (zA))+(lN (zE)))).toNat)≤((zI ((lN (zA))+(lN (zE)))).toNat)),iC zS.2,iC (LR:(Mb (List.replicate ((zI ((lN (zA))+(lN (zE)))).toNat) (0:Int)))=List.replicate ((zI ((lN (zA))+(lN (zE)))).toNat) (Iu 0))] [] [(6,.own 2 ((zI ((lN (zA))+(lN (zE)))).toNat))] [] [(2,Rb 5 1 (Mb (List.replicate ((zI ((lN (zA))+(lN (zE)))).toNat) (0:Int))))] 3 (sq (nE h fun yU h=>r2 [iH 2 { l:=(Mb (cpy (List.replicate ((zI ((lN (zA))+(lN (zE)))).toNat) (0:Int)) 0 ((zI ((lN (zA))+(lN (zE)))).toNat) zA)),n:=(min (zA).length ((zI ((lN (zA))+(lN (zE)))).toNat - 0)) },iM Fb zA,iC yU.1,iC (l7 yU.2:((zI ((lN (zA))+(lN (zE)))).toNat)≤((Mb (List.replicate ((zI ((lN (zA))+(lN (zE)))).toNat) (0:Int)))).length),iC (by simp:(min (zA).length ((zI ((((zA).length:Nat):Int)+(((zE).length:Nat):Int))).toNat - 0))=min ((List.map (AV.int .u8) zA):List AV).length ((zI ((((zA).length:Nat):Int)+(((zE).length:Nat):Int))).toNat - 0)),iC (by simp [cpy]:(List.map (AV.int .u8) (cpy (List.replicate ((zI ((((zA).length:Nat):Int)+(((zE).length:Nat):Int))).toNat) (0:Int)) 0 ((zI ((((zA).length:Nat):Int)+(((zE).length:Nat):Int))).toNat) zA))=((List.map (AV.int .u8) (List.replicate ((zI ((((zA).length:Nat):Int)+(((zE).length:Nat):Int))).toNat) (0:Int)))).take 0++((List.map (AV.int .u8) zA):List AV).take (min (zA).length ((zI ((((zA).length:Nat):Int)+(((zE).length:Nat):Int))).toNat - 0))++((List.map (AV.int .u8) (List.replicate ((zI ((((zA).length:Nat):Int)+(((zE).length:Nat):Int))).toNat) (0:Int)))).drop (0+(min (zA).length ((zI ((((zA).length:Nat):Int)+(((zE).length:Nat):Int))).toNat - 0))))] [] [] [] [(2,Rb 5 1 (Mb (cpy (List.replicate ((zI ((lN (zA))+(lN (zE)))).toNat) (0:Int)) 0 ((zI ((lN (zA))+(lN (zE)))).toNat) zA)))] 3 (sq (nE h fun xB h=>nE h fun xJ h=>r2 [iH 5 { l:=(Mb (cpy (cpy (List.replicate ((zI ((lN (zA))+(lN (zE)))).toNat) (0:Int)) 0 ((zI ((lN (zA))+(lN (zE)))).toNat) zA) ((zA).length) ((zI ((lN (zA))+(lN (zE)))).toNat) zE)),n:=(min (zE).length ((zI ((lN (zA))+(lN (zE)))).toNat - (zA).length)) },iC (Int.natCast_nonneg _:(0:Int)≤(lN (zA))),iC xB,iC (Int.le_refl _:(((zI ((lN (zA))+(lN (zE)))).toNat:Nat):Int)≤(((zI ((lN (zA))+(lN (zE)))).toNat:Nat):Int)),iC trivial,iC xJ.1,iC (l7 xJ.2:((zI ((lN (zA))+(lN (zE)))).toNat)≤((Mb (cpy (List.replicate ((zI ((lN (zA))+(lN (zE)))).toNat) (0:Int)) 0 ((zI ((lN (zA))+(lN (zE)))).toNat) zA))).length),iC (by simp:(min (zE).length ((zI ((((zA).length:Nat):Int)+(((zE).length:Nat):Int))).toNat - (zA).length))=min ((List.map (AV.int .u8) zE):List AV).length ((zI ((((zA).length:Nat):Int)+(((zE).length:Nat):Int))).toNat - (zA).length)),iC (by simp [cpy]:(List.map (AV.int .u8) (cpy (cpy (List.replicate ((zI ((((zA).length:Nat):Int)+(((zE).length:Nat):Int))).toNat) (0:Int)) 0 ((zI ((((zA).length:Nat):Int)+(((zE).length:Nat):Int))).toNat) zA) ((zA).length) ((zI ((((zA).length:Nat):Int)+(((zE).length:Nat):Int))).toNat) zE))=((List.map (AV.int .u8) (cpy (List.replicate ((zI ((((zA).length:Nat):Int)+(((zE).length:Nat):Int))).toNat) (0:Int)) 0 ((zI ((((zA).length:Nat):Int)+(((zE).length:Nat):Int))).toNat) zA))).take ((zA).length)++((List.map (AV.int .u8) zE):List AV).take (min (zE).length ((zI ((((zA).length:Nat):Int)+(((zE).length:Nat):Int))).toNat - (zA).length))++((List.map (AV.int .u8) (cpy (List.replicate ((zI ((((zA).length:Nat):Int)+(((zE).length:Nat):Int))).toNat) (0:Int)) 0 ((zI ((((zA).length:Nat):Int)+(((zE).length:Nat):Int))).toNat) zA))).drop ((zA).length+(min (zE).length ((zI ((((zA).length:Nat):Int)+(((zE).length:Nat):Int))).toNat - (zA).length))))] [5] [] [1] [(2,Rb 5 1 (Mb (cpy (cpy (List.replicate ((zI ((lN (zA))+(lN (zE)))).toNat) (0:Int)) 0 ((zI ((lN (zA))+(lN (zE)))).toNat) zA) ((zA).length) ((zI ((lN (zA))+(lN (zE)))).toNat) zE)))] 3 (s1 [] [6] [(4,.own 2 ((zI ((lN (zA))+(lN (zE)))).toNat))] (wz [2] [] [4] [] [(4,.own 0 (((cpy (cpy (List.replicate ((zI ((lN (zA))+(lN (zE)))).toNat) (0:Int)) 0 ((zI ((lN (zA))+(lN (zE)))).toNat) zA) ((zA).length) ((zI ((lN (zA))+(lN (zE)))).toNat) zE)).length))] [(0,Rb 5 1 (Mb (cpy (cpy (List.replicate ((zI ((lN (zA))+(lN (zE)))).toNat) (0:Int)) 0 ((zI ((lN (zA))+(lN (zE)))).toNat) zA) ((zA).length) ((zI ((lN (zA))+(lN (zE)))).toNat) zE)))] (ac (congrArg (AV.own _) ((KW xJ.1 xJ.2).trans ((KW yU.1 yU.2).trans List.length_replicate)).symm:(.own 2 ((zI ((lN (zA))+(lN (zE)))).toNat):AV)=.own 2 (((cpy (cpy (List.replicate ((zI ((lN (zA))+(lN (zE)))).toNat) (0:Int)) 0 ((zI ((lN (zA))+(lN (zE)))).toNat) zA) ((zA).length) ((zI ((lN (zA))+(lN (zE)))).toNat) zE)).length)) an) ?_))))))))));cases h;exact rt rx

theorem AO (F:Nat) (zC:List (Int)) (zE:y2) (r:(List (Int))) (h:fI F zC zE=some r):yK prog 84 [] [] [Sb zC,zW zE] [] (Sb r):=by
 refine tI Go.Proofs.Tryz.f84 ?_;unfold fI at h;refine sE [iH 0 { id:=0 }] [(0,Sb zC),(3,Pp 0)] [(0,Vb 76 (tV zE))] 1 (sq (s2 [iH 12 { id:=1 }] [3] [(19,.own 1 5),(20,Ii ((5:Nat):Int)),(21,Ii 0)] [0] [(1,Rb 3 1 (Mi ([zE.A,zE.AtA,zE.B,zE.AtB.Lo,zE.AtB.Hi]:List Int)))] 2 (bE h fun zD zH h=>?_)));refine xL (mk [(0,Sb zD)] [] 0) ?_ ?_
 ·replace h:=zH;refine yR (id:=0) zk ?_;refine wz [1] [] [19] [] [(0,Sb zC),(19,.own 0 ((([zE.A,zE.AtA,zE.B,zE.AtB.Lo,zE.AtB.Hi]:List Int)).length)),(20,Ii ((5:Nat):Int)),(21,Ii 0)] [(0,Rb 3 1 (Mi ([zE.A,zE.AtA,zE.B,zE.AtB.Lo,zE.AtB.Hi]:List Int)))] (ac (congrArg (AV.own _) (by first | (simp;done) | (simp;omega)):(.own 1 5:AV)=.own 1 ((([zE.A,zE.AtA,zE.B,zE.AtB.Lo,zE.AtB.Hi]:List Int)).length)) an) ?_;refine x8 (fun n st=>∃ (kW:List Int),∃ (zJ:Int),st=mk [(0,Sb kW),(19,.own 0 ((([zE.A,zE.AtA,zE.B,zE.AtB.Lo,zE.AtB.Hi]:List Int)).length)),(20,Ii ((5:Nat):Int)),(21,Ii zJ)] [(0,Rb 3 1 (Mi ([zE.A,zE.AtA,zE.B,zE.AtB.Lo,zE.AtB.Hi]:List Int)))] 1∧m4 F zE n kW zJ=some zD) F zk ⟨_,_,rfl,h⟩ ?_ ?_
  ·rintro _ ⟨_,_,_,h⟩;exact x7 (h:(none:Option (List Int))=some zD)
  rintro z4 _ ⟨kW,zJ,rfl,h⟩;replace h:A7 F zE (m4 F zE z4) kW zJ=some zD:=h;unfold A7 at h;refine s0 [] [(22,.bool (decide (zJ<((5:Nat):Int))))] (sq (ch 22 h ?_ ?_))
  rotate_left
  ·intro yC h;refine x4 (id:=0) zk ?_;cases h;exact ⟨rfl,(sw [] [] [.s 0] [] an)⟩
  intro yC h;refine sk (sq ?_);refine yR (id:=1) zk ?_;refine sq (bE h fun zK zS h=>r0 [iH 1 { av:=Ii zK },iC (t9 zS:(0:Int)≤zJ),iC (by first | (simp;done) | simpa using qI zS:zJ<(((([zE.A,zE.AtA,zE.B,zE.AtB.Lo,zE.AtB.Hi]:List Int)).length:Nat):Int)),iC (qG zS:(Mi ([zE.A,zE.AtA,zE.B,zE.AtB.Lo,zE.AtB.Hi]:List Int))[(zJ).toNat]?=some (Ii zK))] [(6,Ii zK)] (bE h fun zA yU h=>r2 [iK 2 { ids:=[1] } (tB F kW zK zA yU)] [] [(0,.own 1 ((zA).length))] [] [(1,Rb 5 1 (Mb zA))] 2 (r0 [] [(21,Ii (zI (zJ+(1:Int))))] ?_)));exact ⟨_,(Sub.trans (gB [0] [1] [.a 0 (Sb zA),.s 19,.s 20,.s 21] [.s 0] (sl2:=[(0,Sb zA),(19,.own 0 ((([zE.A,zE.AtA,zE.B,zE.AtB.Lo,zE.AtB.Hi]:List Int)).length)),(20,Ii ((5:Nat):Int)),(21,Ii (zI (zJ+(1:Int))))]) (bx2:=[(0,Rb 3 1 (Mi ([zE.A,zE.AtA,zE.B,zE.AtB.Lo,zE.AtB.Hi]:List Int)))]) zk (ac (by first | (simp;done) | (simp;omega):(zA).length=((List.map (AV.int .u8) zA)).length) (ar 1 (ar ((Mb zA):List AV) (ac (rfl:(!false||false)=true) an))))) (sw [0] [] [.s 0,.s 19,.s 20,.s 21] [.s 0] an)),_,_,rfl,h⟩
 refine s1 [] [0] [(4,Sb zD)] ?_;cases h;exact rt rx

theorem LV (F:Nat) (zH:z6) (r:(List (Int))) (h:oH F zH=some r):yK prog 41 [] [] [vC zH] [] (Sb r):=by
 refine tI Go.Proofs.Tryz.f41 ?_;unfold oH at h;refine sE [iH 0 { id:=0 }] [(1,Pp 0)] [(0,Vb 28 (wA zH))] 1 (sq (bE h fun zA zS h=>r2 [iN 2 zZ zH.Threads,iL 3 { ids:=[1] } [.nilsl,Ii (lN (zH.Threads))] (tB F [] (lN (zH.Threads)) zA zS) ⟨rfl,rfl,trivial⟩] [] [(3,.own 1 ((zA).length))] [] [(1,Rb 5 1 (Mb zA))] 2 (sq (s0 [iN 2 zZ zH.Threads] [(15,Sq 3 zZ zH.Threads),(16,Ii (lN (zH.Threads))),(17,Ii 0)] (bE h fun zD yU h=>?_)))));refine xL (mk [(1,Pp 0),(3,.own 1 ((zD).length))] [(0,Vb 28 (wA zH)),(1,Rb 5 1 (Mb zD))] 2) ?_ ?_
 ·replace h:=yU;refine yR (id:=0) zk ?_;refine w0 [0,1] [] [(1,Pp 0),(3,.own 1 ((zA).length)),(15,Sq 3 zZ zH.Threads),(16,Ii (lN (zH.Threads))),(17,Ii 0)] [(0,Vb 28 (wA zH)),(1,Rb 5 1 (Mb zA))] ?_;refine x8 (fun n st=>∃ (zJ:Int),∃ (zL:List Int),st=mk [(1,Pp 0),(3,.own 1 ((zL).length)),(15,Sq 3 zZ zH.Threads),(16,Ii (lN (zH.Threads))),(17,Ii zJ)] [(0,Vb 28 (wA zH)),(1,Rb 5 1 (Mb zL))] 2∧lY F zH n zJ zL=some zD) F zk ⟨_,_,rfl,h⟩ ?_ ?_
  ·rintro _ ⟨_,_,_,h⟩;exact x7 (h:(none:Option (List Int))=some zD)
  rintro z4 _ ⟨zJ,zL,rfl,h⟩;replace h:DR F zH (lY F zH z4) zJ zL=some zD:=h;unfold DR at h;refine s0 [] [(18,.bool (decide (zJ<(lN (zH.Threads)))))] (sq (ch 18 h ?_ ?_))
  rotate_left
  ·intro yC h;refine x4 (id:=0) zk ?_;cases h;exact ⟨rfl,(sw [0,1] [] [.s 1,.s 3] [.s 0,.s 1] an)⟩
  intro yC h;refine sk (sq ?_);refine yR (id:=1) zk ?_;refine sq (bE h fun zK xB h=>r2 [iH 2 { id:=2 },iF 0 zZ xB] [] [(5,Pp 2)] [] [(2,Vb 85 (uN zK))] 3 (bE h fun zF xJ h=>bE h fun zN x3 h=>bE h fun zV wP h=>r2 [iM Fb zL,iK 3 { frz:=[1],ids:=[3] } (tB F zL zK.Id zF xJ),iM Fb zF,iK 6 { frz:=[3],ids:=[4] } (MM F zF zK.Name zN x3),iM Fb zN,iK 9 { frz:=[4],ids:=[5] } (tB F zN zK.Domain zV wP)] [5] [(3,.own 5 ((zV).length))] [1,2] [(5,Rb 5 1 (Mb zV))] 6 (r0 [] [(17,Ii (zI (zJ+(1:Int))))] ?_)));exact ⟨_,(sw [0,5] [] [.s 1,.s 3,.s 15,.s 16,.s 17] [.s 0,.s 1] an),_,_,rfl,h⟩
 refine sq (bE h fun zU w6 h=>r2 [iN 3 zR zH.Domains,iM Fb zD,iK 4 { frz:=[1],ids:=[2] } (tB F zD (lN (zH.Domains)) zU w6)] [] [(3,.own 2 ((zU).length))] [1] [(2,Rb 5 1 (Mb zU))] 3 (sq (s0 [iN 2 zR zH.Domains] [(38,Sq 2 zR zH.Domains),(39,Ii (lN (zH.Domains))),(40,Ii 0)] (bE h fun zT vF h=>?_))));refine xL (mk [(1,Pp 0),(3,.own 1 ((zT).length))] [(0,Vb 28 (wA zH)),(1,Rb 5 1 (Mb zT))] 2) ?_ ?_
 ·replace h:=vF;refine yR (id:=2) zk ?_;refine w0 [0,2] [] [(1,Pp 0),(3,.own 1 ((zU).length)),(38,Sq 2 zR zH.Domains),(39,Ii (lN (zH.Domains))),(40,Ii 0)] [(0,Vb 28 (wA zH)),(1,Rb 5 1 (Mb zU))] ?_;refine x8 (fun n st=>∃ (xK:Int),∃ (zY:List Int),st=mk [(1,Pp 0),(3,.own 1 ((zY).length)),(38,Sq 2 zR zH.Domains),(39,Ii (lN (zH.Domains))),(40,Ii xK)] [(0,Vb 28 (wA zH)),(1,Rb 5 1 (Mb zY))] 2∧mH F zH n xK zY=some zT) F zk ⟨_,_,rfl,h⟩ ?_ ?_
  ·rintro _ ⟨_,_,_,h⟩;exact x7 (h:(none:Option (List Int))=some zT)
  rintro uB _ ⟨xK,zY,rfl,h⟩;replace h:AX F zH (mH F zH uB) xK zY=some zT:=h;unfold AX at h;refine s0 [] [(41,.bool (decide (xK<(lN (zH.Domains)))))] (sq (ch 41 h ?_ ?_))
  rotate_left
  ·intro y0 h;refine x4 (id:=2) zk ?_;cases h;exact ⟨rfl,(sw [0,1] [] [.s 1,.s 3] [.s 0,.s 1] an)⟩
  intro y0 h;refine sk (sq ?_);refine yR (id:=3) zk ?_;refine sq (bE h fun yA vN h=>r2 [iH 2 { id:=2 },iF 0 zR vN] [] [(7,Pp 2)] [] [(2,Vb 87 (cD yA))] 3 (bE h fun yB v7 h=>bE h fun yY uR h=>r2 [iM Fb zY,iK 3 { frz:=[1],ids:=[3] } (tB F zY yA.Id yB v7),iM Fb yB,iK 6 { frz:=[3],ids:=[4] } (tB F yB yA.Ppm yY uR)] [7] [(3,.own 4 ((yY).length))] [1,2] [(4,Rb 5 1 (Mb yY))] 5 (r0 [] [(40,Ii (zI (xK+(1:Int))))] ?_)));exact ⟨_,(sw [0,4] [] [.s 1,.s 3,.s 38,.s 39,.s 40] [.s 0,.s 1] an),_,_,rfl,h⟩
 refine sq (bE h fun y4 tF h=>r2 [iN 3 zW zH.Snaps,iM Fb zT,iK 4 { frz:=[1],ids:=[2] } (tB F zT (lN (zH.Snaps)) y4 tF)] [] [(3,.own 2 ((y4).length))] [1] [(2,Rb 5 1 (Mb y4))] 3 (sq (s2 [iN 2 zW zH.Snaps] [1] [(58,Sq 5 zW zH.Snaps),(59,Ii (lN (zH.Snaps))),(60,Ii 0)] [0] [] 3 (bE h fun yS uW h=>?_))));refine xL (mk [(3,Sb yS)] [] 0) ?_ ?_
 ·replace h:=uW;refine yR (id:=4) zk ?_;refine wz [] [2] [3] [] [(3,Sb y4),(58,Sq 5 zW zH.Snaps),(59,Ii (lN (zH.Snaps))),(60,Ii 0)] [] (ac (by first | (simp;done) | (simp;omega):(y4).length=((List.map (AV.int .u8) y4)).length) (ar 1 (ar ((Mb y4):List AV) (ar true an)))) (w0 [] [] [(3,Sb y4),(58,Sq 5 zW zH.Snaps),(59,Ii (lN (zH.Snaps))),(60,Ii 0)] [] ?_);refine x8 (fun n st=>∃ (zC:List Int),∃ (wD:Int),st=mk [(3,Sb zC),(58,Sq 5 zW zH.Snaps),(59,Ii (lN (zH.Snaps))),(60,Ii wD)] [] 0∧oS F zH n zC wD=some yS) F zk ⟨_,_,rfl,h⟩ ?_ ?_
  ·rintro _ ⟨_,_,_,h⟩;exact x7 (h:(none:Option (List Int))=some yS)
  rintro uQ _ ⟨zC,wD,rfl,h⟩;replace h:EE F zH (oS F zH uQ) zC wD=some yS:=h;unfold EE at h;refine s0 [] [(61,.bool (decide (wD<(lN (zH.Snaps)))))] (sq (ch 61 h ?_ ?_))
  rotate_left
  ·intro xH h;refine x4 (id:=4) zk ?_;cases h;exact ⟨rfl,(sw [] [] [.s 3] [] an)⟩
  intro xH h;refine sk (sq ?_);refine yR (id:=5) zk ?_;refine sq (bE h fun y9 qU h=>r2 [iH 2 { id:=0 },iF 0 zW qU] [] [(9,Pp 0)] [] [(0,Vb 76 (tV y9))] 1 (bE h fun yL j8 h=>r2 [iK 2 {} (AO F zC y9 yL j8)] [9] [(3,Sb yL)] [0] [] 1 (r0 [] [(60,Ii (zI (wD+(1:Int))))] ?_)));exact ⟨_,(sw [] [] [.s 3,.s 58,.s 59,.s 60] [] an),_,_,rfl,h⟩
 refine s1 [] [3] [(2,Sb yS)] ?_;cases h;exact rt rx

theorem VL (F:Nat) (zC:List (Int)) (r:Int) (h:fQ F zC=some r):yK prog 103 [] [] [Sb zC] [] (Ii r):=by
 refine tI Go.Proofs.Tryz.f103 ?_;unfold fQ at h;refine sE [] [(0,Sb zC)] [] 0 (s0 [] [(3,.int .u32 (4294967295:Int))] (sq (s1 [iN 1 Fb zC] [0] [(7,Sb zC),(8,Ii (lN (zC))),(9,Ii 0)] (bE h fun zD zH h=>?_))));refine xL (mk [(3,.int .u32 zD)] [] 0) ?_ ?_
 ·replace h:=zH;refine yR (id:=0) zk ?_;refine w0 [] [] [(3,.int .u32 (4294967295:Int)),(7,Sb zC),(8,Ii (lN (zC))),(9,Ii 0)] [] ?_;refine x8 (fun n st=>∃ (zK:Int),∃ (zJ:Int),st=mk [(3,.int .u32 zK),(7,Sb zC),(8,Ii (lN (zC))),(9,Ii zJ)] [] 0∧aZ F zC n zK zJ=some zD) F zk ⟨_,_,rfl,h⟩ ?_ ?_
  ·rintro _ ⟨_,_,_,h⟩;exact x7 (h:(none:Option Int)=some zD)
  rintro z4 _ ⟨zK,zJ,rfl,h⟩;replace h:iP F zC (aZ F zC z4) zK zJ=some zD:=h;unfold iP at h;refine s0 [] [(10,.bool (decide (zJ<(lN (zC)))))] (sq (ch 10 h ?_ ?_))
  rotate_left
  ·intro yC h;refine x4 (id:=0) zk ?_;cases h;exact ⟨rfl,(sw [] [] [.s 3] [] an)⟩
  intro yC h;refine sk (sq ?_);refine yR (id:=1) zk ?_;refine sq (bE h fun yA zS h=>r0 [iF 0 Fb zS] [(5,Iu yA)] (s0 [] [(3,.int .u32 (vO .u32 zK (nM yA)))] (s0 [] [(17,Ii 0)] (bE h fun zT yU h=>?_))));refine xL (mk [(3,.int .u32 zT),(7,Sb zC),(8,Ii (lN (zC))),(9,Ii zJ)] [] 0) ?_ ?_
  ·replace h:=yU;refine yR (id:=2) zk ?_;refine w0 [] [] [(3,.int .u32 (vO .u32 zK (nM yA))),(7,Sb zC),(8,Ii (lN (zC))),(9,Ii zJ),(17,Ii 0)] [] ?_;refine x8 (fun n st=>∃ (y9:Int),∃ (xK:Int),st=mk [(3,.int .u32 y9),(7,Sb zC),(8,Ii (lN (zC))),(9,Ii zJ),(17,Ii xK)] [] 0∧pZ F n y9 xK=some zT) F zk ⟨_,_,rfl,h⟩ ?_ ?_
   ·rintro _ ⟨_,_,_,h⟩;exact x7 (h:(none:Option Int)=some zT)
   rintro uB _ ⟨y9,xK,rfl,h⟩;replace h:bB F (pZ F uB) y9 xK=some zT:=h;unfold bB at h;refine s0 [] [(18,.bool (decide (xK<(8:Int))))] (sq (ch 18 h ?_ ?_))
   rotate_left
   ·intro y0 h;refine x4 (id:=2) zk ?_;cases h;exact ⟨rfl,(sw [] [] [.s 3,.s 7,.s 8,.s 9] [] an)⟩
   intro y0 h;refine sk (sq ?_);refine yR (id:=3) zk ?_;refine s0 [] [(6,.int .u32 (vU .u32 y9 (1:Int)))] (s0 [iC (by decide:(0:Int)≤(1:Int))] [(3,.int .u32 (uT .u32 y9 (1:Int)))] (c0 [] 24 h [] ?_ ?_))
   ·intro xH h;refine r0 [] [(3,.int .u32 (vO .u32 (uT .u32 y9 (1:Int)) (3988292384:Int)))] (r0 [] [(17,Ii (zI (xK+(1:Int))))] ?_);exact ⟨_,(sw [] [] [.s 3,.s 7,.s 8,.s 9,.s 17] [] an),_,_,rfl,h⟩
   intro xH h;refine sk (r0 [] [(17,Ii (zI (xK+(1:Int))))] ?_);exact ⟨_,(sw [] [] [.s 3,.s 7,.s 8,.s 9,.s 17] [] an),_,_,rfl,h⟩
  refine r0 [] [(9,Ii (zI (zJ+(1:Int))))] ?_;exact ⟨_,(sw [] [] [.s 3,.s 7,.s 8,.s 9] [] an),_,_,rfl,h⟩
 refine s0 [] [(2,Ii (zI (vO .u32 (4294967295:Int) zD)))] ?_;cases h;exact rt rx

theorem MI (F:Nat) (xN:Int) (zC:List (Int)) (r:Int) (h:cN F xN zC=some r):yK prog 64 [] [] [Iu xN,Sb zC] [] (Ii r):=by
 refine tI Go.Proofs.Tryz.f64 ?_;unfold cN at h;refine sE [] [(0,Iu xN),(1,Sb zC)] [] 0 (sq (nE h fun zH h=>bE h fun zA zS h=>r2 [iH 1 { id:=0 },iH 3 { id:=1,l:=(Mb (([xN]:List Int)++zC)),n:=((([xN]:List Int)++zC)).length },iA 1,iC trivial,iC (uD _ _:(Mb (([xN]:List Int)++zC))=(Mb ([xN]:List Int))++(Mb zC)),iC (by simp:((([xN]:List Int)++zC)).length=((List.map (AV.int .u8) (([xN]:List Int)++zC))).length),iC (by first | (simp;done) | simpa using zH:(((List.map (AV.int .u8) ([xN]:List Int)):List AV).length+((List.map (AV.int .u8) zC):List AV).length) * 1≤140737488355328),iM Fb (([xN]:List Int)++zC),iK 4 { frz:=[1] } (VL F (([xN]:List Int)++zC) zA zS)] [1] [(4,Ii zA)] [] [] 2 ?_));cases h;exact rt rx

theorem n7 (F:Nat) (xN:Int) (zC:List (Int)) (r:(List (Int))) (h:kV F xN zC=some r):yK prog 22 [] [] [Iu xN,Sb zC] [.row 5 1 (Mb r)] (.own 0 ((r).length)):=by
 refine tI Go.Proofs.Tryz.f22 ?_;unfold kV at h;refine sE [iH 0 { id:=0,m:=1 }] [(0,Iu xN),(1,Sb zC)] [] 1 (sq (bE h fun zA zH h=>r2 [iH 1 { id:=1 },iN 3 Fb zC,iA 1,iK 4 { frz:=[1],ids:=[2] } (tB F ([xN]:List Int) (lN (zC)) zA zH)] [] [(5,.own 2 ((zA).length))] [] [(2,Rb 5 1 (Mb zA))] 3 (sq (bE h fun zF zS h=>bE h fun zN yU h=>nE h fun xB h=>r2 [iH 6 { id:=4,l:=(Mb (zN++zC)),n:=((zN++zC)).length },iK 3 {} (MI F xN zC zF zS),iM Fb zA,iK 4 { frz:=[2],ids:=[3] } (tB F zA zF zN yU),iM Fb zN,iC trivial,iC (uD _ _:(Mb (zN++zC))=(Mb zN)++(Mb zC)),iC (by simp:((zN++zC)).length=((List.map (AV.int .u8) (zN++zC))).length),iC (by first | (simp;done) | simpa using xB:(((List.map (AV.int .u8) zN):List AV).length+((List.map (AV.int .u8) zC):List AV).length) * 1≤140737488355328)] [1,5] [(4,.own 4 (((zN++zC)).length))] [2] [(4,Rb 5 1 (Mb (zN++zC)))] 5 (w0 [4] [] [(4,.own 0 (((zN++zC)).length))] [(0,Rb 5 1 (Mb (zN++zC)))] ?_)))));cases h;exact rt rx

theorem CE (zE:List (Int)) (r:(List (Int))) (h:r9 zE=some r):yK prog 68 [] [] [Sb zE] [.row 5 1 (Mb r)] (.own 0 ((r).length)):=by
 refine tI Go.Proofs.Tryz.f68 ?_;unfold r9 at h;refine sE [iH 0 { id:=0,m:=1 }] [(0,Sb zE)] [] 1 (sq (s0 [] [(4,.nb (Mb zE))] ?_));refine fU (t:=4) (l:=(Mb zE)) zk zk ?_ ?_
 ·intro zS;replace zS:=List.map_eq_nil_iff.1 zS;replace h:=Eq.trans (show (some [])=((need (((([]:List Int)).length+(zE).length) * 1≤140737488355328)).bind fun _ =>
 some ([]++zE)) from by simp [zS,need]) h
  refine sE [iH 0 { id:=1,m:=1 }] [(2,.own 1 0)] [(1,Rb 5 1 [])] 2 (wz [1] [] [2] [] [(2,.own 0 ((([]:List Int)).length))] [(0,Rb 5 1 [])] (ac (congrArg (AV.own _) (by first | (simp;done) | (simp;omega)):(.own 1 0:AV)=.own 1 ((([]:List Int)).length)) an) ?_);cases h;exact rt rx
 refine sk (sq (nE h fun zH h=>rE [iH 0 { id:=1 },iH 2 { id:=2,l:=(Mb ([]++zE)),n:=(([]++zE)).length },iA 0,iC trivial,iC (by simp:(List.map (AV.int .u8) ([]++zE))=[]++(List.map (AV.int .u8) zE)),iC (by simp:(([]++zE)).length=((List.map (AV.int .u8) ([]++zE))).length),iC (by first | (simp;done) | simpa using zH:(([]:List AV).length+((List.map (AV.int .u8) zE):List AV).length) * 1≤140737488355328)] [(2,.own 2 ((([]++zE)).length))] [(2,Rb 5 1 (Mb ([]++zE)))] 3 (w0 [2] [] [(2,.own 0 ((([]++zE)).length))] [(0,Rb 5 1 (Mb ([]++zE)))] ?_)));cases h;exact rt rx

theorem m7 (zG:yV) (r:yV×Int) (h:nQ zG=some r):yK prog 67 [] [] [vX zG] [] (.tuple [vX r.1,Ii r.2]):=by
 refine tI Go.Proofs.Tryz.f67 ?_;unfold nQ at h;refine sE [iH 0 { id:=0 },iH 1 { id:=1 }] [(1,Pp 0),(2,Pp 1)] [(0,Vb 36 (y8 zG)),(1,uX)] 2 (sq (sq (bE h fun zA zH h=>r0 [iK 1 {} (dB zG zA zH)] [(4,Ii zA)] (c0 [] 8 h [] ?_ ?_))))
 ·intro yC h;refine s2 [] [1] [(3,Ii zA)] [0] [] 2 (wz [1] [] [] [0] [(2,Pp 0),(3,Ii zA)] [(0,Vb 36 (y8 zL0))] (ar 36 (ar true (ar (Ii 0) (ar ([]:List AV) (ar (Ii 0) (ar (Ii 0) (ar (.bool false:AV) an))))))) ?_);cases h;exact rt rx
 intro yC h;refine sk (sq (c0 [] 12 h [] ?_ ?_))
 ·intro y0 h;refine s2 [] [1] [(3,Ii 19)] [0] [(1,Vb 36 (y8 zG))] 2 (w0 [1] [] [(2,Pp 0),(3,Ii 19)] [(0,Vb 36 (y8 zG))] ?_);cases h;exact rt rx
 intro y0 h;refine sk (sq (bE h fun zF zS h=>r2 [iK 2 { ids:=[2] } (CE zG.Data zF zS)] [] [] [] [(0,Vb 36 [Ii zG.Size,.own 2 ((zF).length),Ii zG.Durable,Ii zG.Left,.bool zG.Down]),(2,Rb 5 1 (Mb zF))] 3 (s2 [] [1] [(3,Ii 0)] [0] [(1,Vb 36 [Ii zG.Size,.own 2 ((zF).length),Ii zG.Durable,Ii zG.Left,.bool zG.Down])] 3 (wz [1] [2] [] [0] [(2,Pp 0),(3,Ii 0)] [(0,Vb 36 (y8 (⟨zG.Size,zF,zG.Durable,zG.Left,zG.Down⟩:yV)))] (ar 36 (ar true (ac (by first | (simp;done) | (simp;omega):(zF).length=((List.map (AV.int .u8) zF)).length) (ar (Ii zG.Size) (ar 1 (ar (Mb zF) (ar true (ar (Ii zG.Durable) (ar (Ii zG.Left) (ar (.bool zG.Down:AV) an)))))))))) ?_))));cases h;exact rt rx

theorem UH (zG:yV) (r:yV×Int) (h:nQ zG=some r) (he:(r.2 != (0:Int))=false):yK prog 67 [] [] [vX zG] [.row 5 1 (Mb r.1.Data)] (.tuple [.agg [Ii r.1.Size,.own 0 ((r.1.Data).length),Ii r.1.Durable,Ii r.1.Left,.bool r.1.Down],Ii r.2]):=by
 refine tI Go.Proofs.Tryz.f67 ?_;unfold nQ at h;refine sE [iH 0 { id:=0 },iH 1 { id:=1 }] [(1,Pp 0),(2,Pp 1)] [(0,Vb 36 (y8 zG)),(1,uX)] 2 (sq (sq (bE h fun zA zH h=>r0 [iK 1 {} (dB zG zA zH)] [(4,Ii zA)] (c0 [] 8 h [] ?_ ?_))))
 ·intro yC h;refine s2 [] [1] [(3,Ii zA)] [0] [] 2 ?_;cases h;exact Bool.noConfusion (yC.symm.trans he)
 intro yC h;refine sk (sq (c0 [] 12 h [] ?_ ?_))
 ·intro y0 h;refine s2 [] [1] [(3,Ii 19)] [0] [(1,Vb 36 (y8 zG))] 2 ?_;cases h;exact absurd he (by simp)
 intro y0 h;refine sk (sq (bE h fun zF zS h=>r2 [iK 2 { ids:=[2] } (CE zG.Data zF zS)] [] [] [] [(0,Vb 36 [Ii zG.Size,.own 2 ((zF).length),Ii zG.Durable,Ii zG.Left,.bool zG.Down]),(2,Rb 5 1 (Mb zF))] 3 (s2 [] [1] [(3,Ii 0)] [0] [(1,Vb 36 [Ii zG.Size,.own 2 ((zF).length),Ii zG.Durable,Ii zG.Left,.bool zG.Down])] 3 (wz [2,1] [] [] [0,1] [(2,Pp 1),(3,Ii 0)] [(0,Rb 5 1 (Mb ((⟨zG.Size,zF,zG.Durable,zG.Left,zG.Down⟩:yV).Data))),(1,Vb 36 [Ii ((⟨zG.Size,zF,zG.Durable,zG.Left,zG.Down⟩:yV).Size),.own 0 (((⟨zG.Size,zF,zG.Durable,zG.Left,zG.Down⟩:yV).Data).length),Ii ((⟨zG.Size,zF,zG.Durable,zG.Left,zG.Down⟩:yV).Durable),Ii ((⟨zG.Size,zF,zG.Durable,zG.Left,zG.Down⟩:yV).Left),.bool ((⟨zG.Size,zF,zG.Durable,zG.Left,zG.Down⟩:yV).Down)])] (ar 5 (ar 1 (ar (Mb zF) (ar 36 (ar true (ar (Ii zG.Size) (ac (congrArg (AV.own _) (by first | (simp;done) | (simp;omega)):(.own 2 ((zF).length):AV)=.own 2 (((⟨zG.Size,zF,zG.Durable,zG.Left,zG.Down⟩:yV).Data).length)) (ar (Ii zG.Durable) (ar (Ii zG.Left) (ar (.bool zG.Down:AV) an)))))))))) ?_))));cases h;exact rt rx

theorem QC (zG:yV) (zC:List (Int)) (r:yV×Int) (h:AP zG zC=some r):yK prog 82 [] [] [vX zG,Sb zC] [] (.tuple [vX r.1,Ii r.2]):=by
 refine tI Go.Proofs.Tryz.f82 ?_;unfold AP at h;refine sE [iH 0 { id:=0 },iH 1 { id:=1 }] [(1,Sb zC),(2,Pp 0),(4,Pp 1)] [(0,Vb 36 (y8 zG)),(1,uX)] 2 ?_;refine uP (tQ 1 1 2 5 1 zk) ?_;refine w0 [0,1,2] [] [(1,Sb zC),(2,Pp 0),(4,Pp 1)] [(0,Vb 36 (y8 zG)),(1,Vb 36 [Ii 0,.own 2 0,Ii 0,Ii 0,.bool false]),(2,Rb 5 1 [])] (sq (bE h fun zA zH h=>?_));rcases bft (zA.2 != (0:Int)) with gf_1 | gf_1
 ·replace h:=xE gf_1 h;refine r2 [iK 1 {} (m7 zG zA zH)] [] [(6,Ii zA.2)] [] [(0,Vb 36 (y8 zA.1))] 3 (sq (s0 [] [(13,.bool (zA.2 != (0:Int)))] (cd 13 (zA.2 != (0:Int)) ?_ ?_)))
  rotate_left
  ·intro hg;exact Bool.noConfusion ((gf_1).symm.trans hg)
  intro _;refine s2 [] [1,2] [(5,Ii zA.2)] [0,2] [(1,Vb 36 (y8 zA.1))] 3 (w0 [1] [] [(4,Pp 0),(5,Ii zA.2)] [(0,Vb 36 (y8 zA.1))] ?_);cases h;exact rt rx
 replace h:=xD gf_1 h;refine r2 [iK 1 { ids:=[3] } (UH zG zA zH gf_1)] [] [(6,Ii zA.2)] [] [(0,Vb 36 [Ii zA.1.Size,.own 3 ((zA.1.Data).length),Ii zA.1.Durable,Ii zA.1.Left,.bool zA.1.Down]),(3,Rb 5 1 (Mb zA.1.Data))] 4 (sq (s0 [] [(13,.bool (zA.2 != (0:Int)))] (cd 13 (zA.2 != (0:Int)) ?_ ?_)))
 ·intro hg;exact Bool.noConfusion ((gf_1).symm.trans hg)
 intro _;refine sk (sq (c0 [iN 4 Fb zC] 24 h [] ?_ ?_))
 ·intro yC h;refine s2 [] [1,2] [(5,Ii 6)] [0,2,3] [(1,uX)] 4 ?_;refine uP (tQ 1 1 4 5 1 zk) ?_;refine w0 [1,4] [] [(4,Pp 0),(5,Ii 6)] [(0,Vb 36 [Ii 0,.own 1 0,Ii 0,Ii 0,.bool false]),(1,Rb 5 1 [])] (wz [0] [1] [] [0] [(4,Pp 0),(5,Ii 6)] [(0,Vb 36 (y8 zL0))] (ar 36 (ar true (ac (by first | (simp;done) | (simp;omega):0=(([]:List AV)).length) (ar (Ii 0) (ar 1 (ar ([]:List AV) (ar true (ar (Ii 0) (ar (Ii 0) (ar (.bool false:AV) an)))))))))) ?_);cases h;exact rt rx
 intro yC h;refine sk (sq (sq ?_));refine xL (mk [(1,Sb zC),(2,Pp 0),(4,Pp 2),(35,.bool (decide (zA.1.Left≥(0:Int))&&decide (zA.1.Left<(lN (zC)))))] [(0,Vb 36 [Ii zA.1.Size,.own 1 ((zA.1.Data).length),Ii zA.1.Durable,Ii zA.1.Left,.bool zA.1.Down]),(1,Rb 5 1 (Mb zA.1.Data)),(2,Vb 36 [Ii 0,.own 3 0,Ii 0,Ii 0,.bool false]),(3,Rb 5 1 [])] 4) ?_ ?_
 ·rcases bft (decide (zA.1.Left≥(0:Int))) with zO | zO
  ·refine r0 [iH 9 Ht,iR 4 zO,iN 7 Fb zC,iR 2 zO] [(35,.bool (decide (zA.1.Left<(lN (zC)))))] ?_;exact ⟨rfl,(sw [0,3,1,2] [] [.s 1,.s 2,.s 4,.a 35 (.bool (decide (zA.1.Left≥(0:Int))&&decide (zA.1.Left<(lN (zC)))))] [.s 0,.s 1,.s 2,.s 3] (ac (congrArg AV.bool (vA zO rfl):(.bool (decide (zA.1.Left<(lN (zC)))):AV)=.bool (decide (zA.1.Left≥(0:Int))&&decide (zA.1.Left<(lN (zC))))) an))⟩
  ·refine r0 [iG 4 5,iH 9 Hf,iR 6 zO] [(35,.bool false)] ?_;exact ⟨rfl,(sw [0,3,1,2] [] [.s 1,.s 2,.s 4,.a 35 (.bool (decide (zA.1.Left≥(0:Int))&&decide (zA.1.Left<(lN (zC)))))] [.s 0,.s 1,.s 2,.s 3] (ac (congrArg AV.bool (uO zO):(.bool false:AV)=.bool (decide (zA.1.Left≥(0:Int))&&decide (zA.1.Left<(lN (zC))))) an))⟩
 refine ch 35 h ?_ ?_
 ·intro y0 h;refine sq (nE h fun zS h=>nE h fun yU h=>r2 [iH 6 { id:=4,l:=(Mb (zA.1.Data++(sub zC (0:Int) zA.1.Left))),n:=((zA.1.Data++(sub zC (0:Int) zA.1.Left))).length },iS 5 Fb zC (0:Int) zA.1.Left (by decide) zS.1 zS.2,iM Fb zA.1.Data,iC trivial,iC (uD _ _:(Mb (zA.1.Data++(sub zC (0:Int) zA.1.Left)))=(Mb zA.1.Data)++(Mb (sub zC (0:Int) zA.1.Left))),iC (by simp:((zA.1.Data++(sub zC (0:Int) zA.1.Left))).length=((List.map (AV.int .u8) (zA.1.Data++(sub zC (0:Int) zA.1.Left)))).length),iC (by first | (simp;done) | simpa using yU:(((List.map (AV.int .u8) zA.1.Data):List AV).length+((List.map (AV.int .u8) (sub zC (0:Int) zA.1.Left)):List AV).length) * 1≤140737488355328)] [1] [] [1] [(0,Vb 36 [Ii zA.1.Size,.own 4 (((zA.1.Data++(sub zC (0:Int) zA.1.Left))).length),Ii zA.1.Durable,Ii zA.1.Left,.bool zA.1.Down]),(4,Rb 5 1 (Mb (zA.1.Data++(sub zC (0:Int) zA.1.Left))))] 5 (s2 [] [] [] [] [(0,Vb 36 [Ii zA.1.Size,.own 4 (((zA.1.Data++(sub zC (0:Int) zA.1.Left))).length),Ii zA.1.Durable,Ii 0,.bool true])] 5 (s2 [] [2] [(5,Ii 19)] [0,3] [(2,Vb 36 [Ii zA.1.Size,.own 4 (((zA.1.Data++(sub zC (0:Int) zA.1.Left))).length),Ii zA.1.Durable,Ii 0,.bool true])] 5 (wz [2] [4] [] [0] [(4,Pp 0),(5,Ii 19)] [(0,Vb 36 (y8 (⟨zA.1.Size,(zA.1.Data++(sub zC (0:Int) zA.1.Left)),zA.1.Durable,(0:Int),true⟩:yV)))] (ar 36 (ar true (ac (by first | (simp;done) | (simp;omega):((zA.1.Data++(sub zC (0:Int) zA.1.Left))).length=((List.map (AV.int .u8) (zA.1.Data++(sub zC (0:Int) zA.1.Left)))).length) (ar (Ii zA.1.Size) (ar 1 (ar (Mb (zA.1.Data++(sub zC (0:Int) zA.1.Left))) (ar true (ar (Ii zA.1.Durable) (ar (Ii 0) (ar (.bool true:AV) an)))))))))) ?_))));cases h;exact rt rx
 intro y0 h;refine sk (sq (nE h fun xB h=>r2 [iH 3 { id:=4,l:=(Mb (zA.1.Data++zC)),n:=((zA.1.Data++zC)).length },iM Fb zA.1.Data,iC trivial,iC (uD _ _:(Mb (zA.1.Data++zC))=(Mb zA.1.Data)++(Mb zC)),iC (by simp:((zA.1.Data++zC)).length=((List.map (AV.int .u8) (zA.1.Data++zC))).length),iC (by first | (simp;done) | simpa using xB:(((List.map (AV.int .u8) zA.1.Data):List AV).length+((List.map (AV.int .u8) zC):List AV).length) * 1≤140737488355328)] [] [] [1] [(0,Vb 36 [Ii zA.1.Size,.own 4 (((zA.1.Data++zC)).length),Ii zA.1.Durable,Ii zA.1.Left,.bool zA.1.Down]),(4,Rb 5 1 (Mb (zA.1.Data++zC)))] 5 (sq (c0 [] 54 h [] ?_ ?_))))
 ·intro xH h;refine r2 [iN 3 Fb zC] [1] [] [] [(0,Vb 36 [Ii zA.1.Size,.own 4 (((zA.1.Data++zC)).length),Ii zA.1.Durable,Ii (zI (zA.1.Left - (lN (zC)))),.bool zA.1.Down])] 5 (s2 [] [2] [(5,Ii 0)] [0,3] [(2,Vb 36 [Ii zA.1.Size,.own 4 (((zA.1.Data++zC)).length),Ii zA.1.Durable,Ii (zI (zA.1.Left - (lN (zC)))),.bool zA.1.Down])] 5 (wz [2] [4] [] [0] [(4,Pp 0),(5,Ii 0)] [(0,Vb 36 (y8 (⟨zA.1.Size,(zA.1.Data++zC),zA.1.Durable,zI (zA.1.Left - (lN (zC))),zA.1.Down⟩:yV)))] (ar 36 (ar true (ac (by first | (simp;done) | (simp;omega):((zA.1.Data++zC)).length=((List.map (AV.int .u8) (zA.1.Data++zC))).length) (ar (Ii zA.1.Size) (ar 1 (ar (Mb (zA.1.Data++zC)) (ar true (ar (Ii zA.1.Durable) (ar (Ii (zI (zA.1.Left - (lN (zC))))) (ar (.bool zA.1.Down:AV) an)))))))))) ?_));cases h;exact rt rx
 intro xH h;refine sk (s2 [] [1,2] [(5,Ii 0)] [0,3] [(2,Vb 36 [Ii zA.1.Size,.own 4 (((zA.1.Data++zC)).length),Ii zA.1.Durable,Ii zA.1.Left,.bool zA.1.Down])] 5 (wz [2] [4] [] [0] [(4,Pp 0),(5,Ii 0)] [(0,Vb 36 (y8 (⟨zA.1.Size,(zA.1.Data++zC),zA.1.Durable,zA.1.Left,zA.1.Down⟩:yV)))] (ar 36 (ar true (ac (by first | (simp;done) | (simp;omega):((zA.1.Data++zC)).length=((List.map (AV.int .u8) (zA.1.Data++zC))).length) (ar (Ii zA.1.Size) (ar 1 (ar (Mb (zA.1.Data++zC)) (ar true (ar (Ii zA.1.Durable) (ar (Ii zA.1.Left) (ar (.bool zA.1.Down:AV) an)))))))))) ?_));cases h;exact rt rx

theorem L0 (zG:yV) (r:yV×Int) (h:mB zG=some r):yK prog 55 [] [] [vX zG] [] (.tuple [vX r.1,Ii r.2]):=by
 refine tI Go.Proofs.Tryz.f55 ?_;unfold mB at h;refine sE [iH 0 { id:=0 },iH 1 { id:=1 }] [(1,Pp 0),(2,Pp 1)] [(0,Vb 36 (y8 zG)),(1,uX)] 2 (sq (bE h fun zA zH h=>r2 [iK 1 {} (m7 zG zA zH)] [] [(4,Ii zA.2)] [] [(0,Vb 36 (y8 zA.1))] 2 (sq (c0 [] 11 h [] ?_ ?_))))
 ·intro yC h;refine s2 [] [1] [(3,Ii zA.2)] [0] [(1,Vb 36 (y8 zA.1))] 2 (w0 [1] [] [(2,Pp 0),(3,Ii zA.2)] [(0,Vb 36 (y8 zA.1))] ?_);cases h;exact rt rx
 intro yC h;refine sk (sq (c0 [] 16 h [] ?_ ?_))
 ·intro y0 h;refine s2 [] [] [] [] [(0,Vb 36 [Ii zA.1.Size,Sb zA.1.Data,Ii zA.1.Durable,Ii zA.1.Left,.bool true])] 2 (s2 [] [1] [(3,Ii 19)] [0] [(1,Vb 36 [Ii zA.1.Size,Sb zA.1.Data,Ii zA.1.Durable,Ii zA.1.Left,.bool true])] 2 (w0 [1] [] [(2,Pp 0),(3,Ii 19)] [(0,Vb 36 (y8 (⟨zA.1.Size,zA.1.Data,zA.1.Durable,zA.1.Left,true⟩:yV)))] ?_));cases h;exact rt rx
 intro y0 h;refine sk (s2 [iN 2 Fb zA.1.Data] [] [] [] [(0,Vb 36 [Ii zA.1.Size,Sb zA.1.Data,Ii (lN (zA.1.Data)),Ii zA.1.Left,.bool zA.1.Down])] 2 (s2 [] [1] [(3,Ii 0)] [0] [(1,Vb 36 [Ii zA.1.Size,Sb zA.1.Data,Ii (lN (zA.1.Data)),Ii zA.1.Left,.bool zA.1.Down])] 2 (w0 [1] [] [(2,Pp 0),(3,Ii 0)] [(0,Vb 36 (y8 (⟨zA.1.Size,zA.1.Data,(lN (zA.1.Data)),zA.1.Left,zA.1.Down⟩:yV)))] ?_)));cases h;exact rt rx

theorem MT (F:Nat) (zG:yV) (uV:List (List (Int))) (r:yV×Int) (h:lK F zG uV=some r):yK prog 40 [] [] [vX zG,.sl false 1 (List.map zMb uV)] [] (.tuple [vX r.1,Ii r.2]):=by
 refine tI Go.Proofs.Tryz.f40 ?_;unfold lK at h;refine sE [iH 0 { id:=0 },iH 1 { id:=1 }] [(1,.sl false 1 (List.map zMb uV)),(2,Pp 0),(4,Pp 1)] [(0,Vb 36 (y8 zG)),(1,uX)] 2 (sq (s1 [iN 1 zMb uV] [1] [(10,.sl false 1 (List.map zMb uV)),(11,Ii (lN (uV))),(12,Ii 0)] (bE h fun zD zH h=>?_)));refine vG (K1:=(fun e st'=>match zD with | (.inl q0)=>e=.normal∧Sub 0 st' (mk [(2,Pp 0),(4,Pp 1)] [(0,Vb 36 [Ii q0.1,Sb q0.2.1,Ii q0.2.2.1,Ii q0.2.2.2.1,.bool q0.2.2.2.2]),(1,uX)] 2) | (.inr q1)=>e=.ret∧vH prog Go.Proofs.Tryz.f40 0 [] (.tuple [vX q1.1,Ii q1.2]) st')) ?_ ?_
 ·replace h:=zH;refine yR (id:=0) zk ?_;refine w0 [0,1] [] [(2,Pp 0),(4,Pp 1),(10,.sl false 1 (List.map zMb uV)),(11,Ii (lN (uV))),(12,Ii 0)] [(0,Vb 36 (y8 zG)),(1,uX)] ?_;refine x8 (fun n st=>∃ (zJ:Int),∃ (zB:Int),∃ (yN:List Int),∃ (yP:Int),∃ (yI:Int),∃ (yX:Bool),st=mk [(2,Pp 0),(4,Pp 1),(10,.sl false 1 (List.map zMb uV)),(11,Ii (lN (uV))),(12,Ii zJ)] [(0,Vb 36 [Ii zB,.sl false 1 (Mb yN),Ii yP,Ii yI,.bool yX]),(1,uX)] 2∧r4 F uV n zJ zB yN yP yI yX=some zD) F zk ⟨_,_,_,_,_,_,rfl,h⟩ ?_ ?_
  ·rintro _ ⟨_,_,_,_,_,_,_,h⟩;exact x7 (h:(none:Option ((Int×(List Int)×Int×Int×Bool)⊕(yV×Int)))=some zD)
  rintro z4 _ ⟨zJ,zB,yN,yP,yI,yX,rfl,h⟩;replace h:CC F uV (r4 F uV z4) zJ zB yN yP yI yX=some zD:=h;unfold CC at h;refine s0 [] [(13,.bool (decide (zJ<(lN (uV)))))] (sq (ch 13 h ?_ ?_))
  rotate_left
  ·intro yC h;refine x4 (id:=0) zk ?_;cases h;exact ⟨rfl,(sw [0,1] [] [.s 2,.s 4] [.s 0,.s 1] an)⟩
  intro yC h;refine sk (sq ?_);refine yR (id:=1) zk ?_;refine sq (bE h fun zK zS h=>r0 [iF 0 zMb zS] [(7,.sl false 1 (Mb zK))] (sq (bE h fun zA yU h=>r2 [iH 6 { id:=2 },iL 2 {} [.agg [Ii zB,.sl false 1 (Mb yN),Ii yP,Ii yI,.bool yX],.sl false 1 (Mb zK)] (QC (⟨zB,yN,yP,yI,yX⟩:yV) zK zA yU) ⟨rfl,rfl,rfl,rfl,rfl,rfl,rfl,rfl,rfl,rfl,trivial⟩] [7] [(8,Pp 2),(9,Ii zA.2)] [] [(2,Vb 36 (y8 zA.1))] 3 (sq (c0 [] 23 h [] ?_ ?_)))))
  rotate_left
  ·intro y0 h;refine sk (r2 [] [8] [] [2] [(0,Vb 36 (y8 zA.1))] 3 (r0 [] [(12,Ii (zI (zJ+(1:Int))))] ?_));exact ⟨_,(sw [0,1] [] [.s 2,.s 4,.s 10,.s 11,.s 12] [.s 0,.s 1] an),_,_,_,_,_,_,rfl,h⟩
  intro y0 h;refine s2 [] [2,10,8] [(5,Ii zA.2)] [0,2] [(1,Vb 36 (y8 zA.1))] 3 (w0 [1] [] [(4,Pp 0),(5,Ii zA.2)] [(0,Vb 36 (y8 zA.1))] ?_);cases h;exact rt ry
 intro e st1 hk;rcases zD with z7 | xG
 rotate_left
 ·obtain ⟨rfl,hf⟩:=hk;cases h;exact ⟨st1,Sub.refl _ _,.inr rfl,hf⟩
 obtain ⟨rfl,hs⟩:=hk;refine ⟨_,hs,?_⟩;refine sq (bE h fun zF xB h=>r2 [iL 1 {} [.agg [Ii z7.1,Sb z7.2.1,Ii z7.2.2.1,Ii z7.2.2.2.1,.bool z7.2.2.2.2]] (L0 (⟨z7.1,z7.2.1,z7.2.2.1,z7.2.2.2.1,z7.2.2.2.2⟩:yV) zF xB) ⟨rfl,rfl,rfl,rfl,rfl,rfl,rfl,trivial⟩] [2] [(5,Ii zF.2)] [0] [(1,Vb 36 (y8 zF.1))] 2 (w0 [1] [] [(4,Pp 0),(5,Ii zF.2)] [(0,Vb 36 (y8 zF.1))] ?_));cases h;exact rt rx

theorem QY (F:Nat) (zG:yV) (zH:z6) (r:yV×Int) (h:C8 F zG zH=some r):yK prog 13 [] [] [vX zG,vC zH] [] (.tuple [vX r.1,Ii r.2]):=by
 refine tI Go.Proofs.Tryz.f13 ?_;unfold C8 at h;refine sE [iH 0 { id:=0 },iH 1 { id:=1 },iH 2 { id:=2 }] [(2,Pp 0),(3,Pp 1),(4,Pp 2)] [(0,Vb 36 (y8 zG)),(1,Vb 28 (wA zH)),(2,uX)] 3 (sq (sq (bE h fun zA zS h=>r0 [iK 1 {} (dB zG zA zS)] [(6,Ii zA)] (c0 [] 11 h [] ?_ ?_))))
 ·intro yC h;refine s2 [] [2,3] [(5,Ii zA)] [0,1] [] 3 (wz [2] [] [] [0] [(4,Pp 0),(5,Ii zA)] [(0,Vb 36 (y8 zL0))] (ar 36 (ar true (ar (Ii 0) (ar ([]:List AV) (ar (Ii 0) (ar (Ii 0) (ar (.bool false:AV) an))))))) ?_);cases h;exact rt rx
 intro yC h;refine sk (sq (c0 [iN 2 Fb zG.Data] 17 h [] ?_ ?_))
 ·intro y0 h;refine s2 [] [2,3] [(5,Ii 18)] [0,1] [] 3 (wz [2] [] [] [0] [(4,Pp 0),(5,Ii 18)] [(0,Vb 36 (y8 zL0))] (ar 36 (ar true (ar (Ii 0) (ar ([]:List AV) (ar (Ii 0) (ar (Ii 0) (ar (.bool false:AV) an))))))) ?_);cases h;exact rt rx
 intro y0 h;refine sk (sq (sq (bE h fun zF yU h=>r0 [iK 1 {} (fJ F zH zF yU)] [(7,Ii zF)] (c0 [] 22 h [] ?_ ?_))))
 ·intro xH h;refine s2 [] [2,3] [(5,Ii zF)] [0,1] [] 3 (wz [2] [] [] [0] [(4,Pp 0),(5,Ii zF)] [(0,Vb 36 (y8 zL0))] (ar 36 (ar true (ar (Ii 0) (ar ([]:List AV) (ar (Ii 0) (ar (Ii 0) (ar (.bool false:AV) an))))))) ?_);cases h;exact rt rx
 intro xH h;refine sk (sq (bE h fun zN xB h=>bE h fun zV xJ h=>bE h fun zU x3 h=>r2 [iH 4 { frz:=[3],id:=4 },iK 2 {} (LV F zH zN xB),iK 3 { ids:=[3] } (n7 F (72:Int) zN zV xJ),iM Fb zV,iC (by first | (simp;done) | (simp;omega):1=((List.map zMb ([zV]:List (List (Int))))).length),iK 5 { frz:=[4] } (MT F zG ([zV]:List (List (Int))) zU x3)] [2,3] [(5,Ii zU.2)] [0,1] [(2,Vb 36 (y8 zU.1))] 5 (w0 [2] [] [(4,Pp 0),(5,Ii zU.2)] [(0,Vb 36 (y8 zU.1))] ?_)));cases h;exact rt rx

theorem OS (xR:Int) (r:Int) (h:EU xR=some r):yK prog 141 [] [] [.int .u64 xR] [] (Ii r):=by
 refine tI Go.Proofs.Tryz.f141 ?_;unfold EU at h;refine sE [] [(0,.int .u64 xR)] [] 0 (s0 [iC (by decide:(0:Int)≤(1:Int))] [(2,Ii (vO .i64 (zI (uT .u64 xR (1:Int))) (zI (0 - (zI (vU .u64 xR (1:Int)))))))] ?_);cases h;exact rt rx

theorem cG (F:Nat) (zC:List (Int)) (r:Int×Int×Int) (h:p0 F zC=some r):yK prog 105 [] [] [Sb zC] [] (.tuple [Ii r.1,Ii r.2.1,Ii r.2.2]):=by
 refine tI Go.Proofs.Tryz.f105 ?_;unfold p0 at h;refine sE [] [(0,Sb zC)] [] 0 (s0 [] [(5,.int .u64 (0:Int))] (sq (s1 [iN 1 Fb zC] [0] [(8,Sb zC),(9,Ii (lN (zC))),(10,Ii 0)] (bE h fun zD zH h=>?_))));refine vG (K1:=(fun e st'=>match zD with | (.inl q0)=>e=.normal∧Sub 0 st' (mk [] [] 0) | (.inr q1)=>e=.ret∧vH prog Go.Proofs.Tryz.f105 0 [] (.tuple [Ii q1.1,Ii q1.2.1,Ii q1.2.2]) st')) ?_ ?_
 ·replace h:=zH;refine yR (id:=0) zk ?_;refine w0 [] [] [(5,.int .u64 (0:Int)),(8,Sb zC),(9,Ii (lN (zC))),(10,Ii 0)] [] ?_;refine x8 (fun n st=>∃ (xR:Int),∃ (zJ:Int),st=mk [(5,.int .u64 xR),(8,Sb zC),(9,Ii (lN (zC))),(10,Ii zJ)] [] 0∧lD F zC n xR zJ=some zD) F zk ⟨_,_,rfl,h⟩ ?_ ?_
  ·rintro _ ⟨_,_,_,h⟩;exact x7 (h:(none:Option (Unit⊕(Int×Int×Int)))=some zD)
  rintro z4 _ ⟨xR,zJ,rfl,h⟩;replace h:BX F zC (lD F zC z4) xR zJ=some zD:=h;unfold BX at h;refine s0 [] [(11,.bool (decide (zJ<(lN (zC)))))] (sq (ch 11 h ?_ ?_))
  rotate_left
  ·intro yC h;refine x4 (id:=0) zk ?_;cases h;exact ⟨rfl,(sw [] [] [] [] an)⟩
  intro yC h;refine sk (sq ?_);refine yR (id:=1) zk ?_;refine sq (bE h fun zK zS h=>r0 [iF 1 Fb zS] [(6,Ii zJ),(7,Iu zK)] (sq (ad 20 h ?_ ?_ ?_)))
  ·rcases bft (zJ==(9:Int)) with xU | xU
   ·exact rm [iH 5 Ht,iR 3 xU] (vA xU rfl)
   ·exact rm [iG 3 2,iH 5 Hf,iR 3 xU] (uO xU)
  ·intro y0 h;refine s1 [] [8] [(2,Ii 0),(3,Ii 0),(4,Ii 10)] ?_;cases h;exact rt ry
  intro y0 h;refine sk (sq (nE h fun yU h=>r0 [iC yU] [(5,.int .u64 (ior .u64 xR (jT .u64 (v5 (vU .u8 zK (127:Int))) (zI ((7:Int) * zJ)))))] (sq (c0 [] 30 h [] ?_ ?_))))
  ·intro xH h;refine x4 (id:=1) zk ?_;refine rE [] [(5,.int .u64 (ior .u64 xR (jT .u64 (v5 (vU .u8 zK (127:Int))) (zI ((7:Int) * zJ))))),(8,Sb zC),(9,Ii (lN (zC))),(10,Ii (zI (zJ+(1:Int))))] [] 0 ?_;exact ⟨_,(sw [] [] [.s 5,.s 8,.s 9,.s 10] [] an),_,_,rfl,h⟩
  intro xH h;refine sk (sq (sq ?_));refine xL (mk [(5,.int .u64 (ior .u64 xR (jT .u64 (v5 (vU .u8 zK (127:Int))) (zI ((7:Int) * zJ))))),(6,Ii zJ),(36,.bool ((zK==(0:Int))&&decide (zJ>(0:Int))))] [] 0) ?_ ?_
  ·rcases bft (zK==(0:Int)) with xW | xW
   ·refine r1 [iH 5 Ht,iR 3 xW] [8] [(36,.bool (decide (zJ>(0:Int))))] ?_;exact ⟨rfl,(sw [] [] [.s 5,.s 6,.a 36 (.bool ((zK==(0:Int))&&decide (zJ>(0:Int))))] [] (ac (congrArg AV.bool (vA xW rfl):(.bool (decide (zJ>(0:Int))):AV)=.bool ((zK==(0:Int))&&decide (zJ>(0:Int)))) an))⟩
   ·refine r1 [iG 3 2,iH 5 Hf,iR 3 xW] [8] [(36,.bool false)] ?_;exact ⟨rfl,(sw [] [] [.s 5,.s 6,.a 36 (.bool ((zK==(0:Int))&&decide (zJ>(0:Int))))] [] (ac (congrArg AV.bool (uO xW):(.bool false:AV)=.bool ((zK==(0:Int))&&decide (zJ>(0:Int)))) an))⟩
  refine ch 36 h ?_ ?_
  ·intro w7 h;refine s0 [] [(2,Ii 0),(3,Ii 0),(4,Ii 10)] ?_;cases h;exact rt ry
  intro w7 h;refine sk (sq (bE h fun zA xB h=>r0 [iK 1 {} (OS (ior .u64 xR (jT .u64 (v5 (vU .u8 zK (127:Int))) (zI ((7:Int) * zJ)))) zA xB)] [(2,Ii zA),(3,Ii (zI (zJ+(1:Int)))),(4,Ii 0)] ?_));cases h;exact rt ry
 intro e st1 hk;rcases zD with z7 | xG
 rotate_left
 ·obtain ⟨rfl,hf⟩:=hk;cases h;exact ⟨st1,Sub.refl _ _,.inr rfl,hf⟩
 obtain ⟨rfl,hs⟩:=hk;refine ⟨_,hs,?_⟩;refine s0 [] [(2,Ii 0),(3,Ii 0),(4,Ii 8)] ?_;cases h;exact rt rx

theorem MF (F:Nat) (zC:List (Int)) (r:Int×(List (Int))×Int) (h:AA F zC=some r):yK prog 69 [] [] [Sb zC] [] (.tuple [Iu r.1,Sb r.2.1,Ii r.2.2]):=by
 refine tI Go.Proofs.Tryz.f69 ?_;unfold AA at h;refine sE [] [(0,Sb zC)] [] 0 (sq (c0 [iN 1 Fb zC] 14 h [] ?_ ?_))
 ·intro yC h;refine s1 [] [0] [(2,Iu 0),(3,.nilsl),(4,Ii 0)] (wz [] [] [3] [] [(2,Iu 0),(3,.sl false 1 []),(4,Ii 0)] [] (ar ([]:List AV) an) ?_);cases h;exact rt rx
 intro yC h;refine sk (sq (nE h fun zH h=>bE h fun zA zS h=>r0 [iT 1 Fb zC (1:Int) (by decide) zH,iK 2 {} (cG F (sub zC (1:Int) (lN (zC))) zA zS)] [(5,Ii zA.1),(6,Ii zA.2.1),(7,Ii zA.2.2)] (sq (c0 [] 23 h [] ?_ ?_))))
 ·intro y0 h;refine s1 [] [0] [(2,Iu 0),(3,.nilsl),(4,Ii 0)] (wz [] [] [3] [] [(2,Iu 0),(3,.sl false 1 []),(4,Ii 0)] [] (ar ([]:List AV) an) ?_);cases h;exact rt rx
 intro y0 h;refine sk (sq (nE h fun yU h=>bE h fun zF xB h=>r0 [iT 3 Fb zC (zI ((1:Int)+zA.2.1)) yU.1 yU.2,iK 4 {} (cG F (sub zC (zI ((1:Int)+zA.2.1)) (lN (zC))) zF xB)] [(7,Ii zF.2.2),(8,Ii zF.1),(9,Ii zF.2.1)] (s0 [] [(10,Ii (zI ((zI ((1:Int)+zA.2.1))+zF.2.1)))] (sq (ad 50 h ?_ ?_ ?_)))))
 ·rcases bft (zF.2.2 != (0:Int)) with z8 | z8
  ·exact rm [iG 3 2,iH 5 Ht,iG 7 6,iH 13 Ht,iR 3 z8,iX 6,iA true] (ort z8)
  ·rcases bft (decide (zA.1<(0:Int))) with yJ | yJ
   ·exact rm [iH 5 Hf,iG 7 6,iH 13 Ht,iR 3 z8,iR 7 yJ] (orf z8 (ort yJ))
   ·exact rm [iH 5 Hf,iH 13 Hf,iR 3 z8,iR 3 yJ,iN 9 Fb zC,iR 4 yJ] (orf z8 (orf yJ rfl))
 ·intro xH h;refine s1 [] [0] [(2,Iu 0),(3,.nilsl),(4,Ii 0)] (wz [] [] [3] [] [(2,Iu 0),(3,.sl false 1 []),(4,Ii 0)] [] (ar ([]:List AV) an) ?_);cases h;exact rt rx
 intro xH h;refine sk (sq (nE h fun xJ h=>r0 [iS 5 Fb zC (zI ((zI ((1:Int)+zA.2.1))+zF.2.1)) (zI ((zI ((zI ((1:Int)+zA.2.1))+zF.2.1))+zA.1)) xJ.1 xJ.2.1 xJ.2.2] [(11,Sb (sub zC (zI ((zI ((1:Int)+zA.2.1))+zF.2.1)) (zI ((zI ((zI ((1:Int)+zA.2.1))+zF.2.1))+zA.1))))] (sq (sq (bE h fun zK x3 h=>bE h fun zN wP h=>r0 [iF 1 Fb x3,iK 4 {} (MI F zK (sub zC (zI ((zI ((1:Int)+zA.2.1))+zF.2.1)) (zI ((zI ((zI ((1:Int)+zA.2.1))+zF.2.1))+zA.1))) zN wP)] [(63,.bool (zN != zF.1))] (ch 63 h ?_ ?_))))))
 ·intro w7 h;refine s1 [] [0,11] [(2,Iu 0),(3,.nilsl),(4,Ii 0)] (wz [] [] [3] [] [(2,Iu 0),(3,.sl false 1 []),(4,Ii 0)] [] (ar ([]:List AV) an) ?_);cases h;exact rt rx
 intro w7 h;refine sk (sq (bE h fun yA w6 h=>r1 [iF 1 Fb w6] [0,11] [(2,Iu yA),(3,Sb (sub zC (zI ((zI ((1:Int)+zA.2.1))+zF.2.1)) (zI ((zI ((zI ((1:Int)+zA.2.1))+zF.2.1))+zA.1)))),(4,Ii (zI ((zI ((zI ((1:Int)+zA.2.1))+zF.2.1))+zA.1)))] ?_));cases h;exact rt rx

theorem kN (F:Nat) (zE:wU) (r:Int×wU) (h:jO F zE=some r):yK prog 107 [(.var 157 (vW zE))] [] [Pp 0] [(.var 157 (vW r.2))] (Ii r.1):=by
 refine tI Go.Proofs.Tryz.f107 ?_;unfold jO at h;refine sE [] [(0,Pp 0)] [(0,Vb 157 (vW zE))] 1 (sq (bE h fun zA zH h=>r0 [iK 4 {} (cG F zE.b zA zH)] [(3,Ii zA.1),(4,Ii zA.2.1),(5,Ii zA.2.2)] (sq (c0 [] 16 h [] ?_ ?_))))
 ·intro yC h;refine s2 [] [0] [] [] [(0,Vb 157 [.nilsl,.bool true])] 1 (s0 [] [(2,Ii 0)] (wz [0] [] [] [0] [(2,Ii 0)] [(0,Vb 157 (vW (⟨[],true⟩:wU)))] (ar 157 (ar true (ar ([]:List AV) (ar (.bool true:AV) an)))) ?_));cases h;exact rt rx
 intro yC h;refine sk (sq (nE h fun zS h=>r2 [iT 6 Fb zE.b zA.2.1 zS.1 zS.2] [0] [] [] [(0,Vb 157 [Sb (sub zE.b zA.2.1 (lN (zE.b))),.bool zE.bad])] 1 (s0 [] [(2,Ii zA.1)] ?_)));cases h;exact rt rx

theorem CP (F:Nat) (zE:wU) (tW:Int) (r:Int×wU) (h:fD F zE tW=some r):yK prog 106 [(.var 157 (vW zE))] [] [Pp 0,Ii tW] [(.var 157 (vW r.2))] (Ii r.1):=by
 refine tI Go.Proofs.Tryz.f106 ?_;unfold fD at h;refine sE [] [(0,Pp 0),(1,Ii tW)] [(0,Vb 157 (vW zE))] 1 (sq (bE h fun zA zH h=>r2 [iK 1 { ids:=[0] } (kN F zE zA zH)] [] [(5,Ii zA.1)] [] [(0,Vb 157 (vW zA.2))] 1 (sq (ad 14 h ?_ ?_ ?_))))
 ·rcases bft (decide (zA.1<(0:Int))) with zO | zO
  ·exact rm [iG 3 3,iH 6 Ht,iR 4 zO] (ort zO)
  ·exact rm [iH 6 Hf,iR 4 zO] (orf zO rfl)
 rotate_left
 ·intro yC h;refine sk (s1 [] [0] [(4,Ii zA.1)] ?_);cases h;exact rt rx
 intro yC h;refine s2 [] [0] [] [] [(0,Vb 157 [Sb zA.2.b,.bool true])] 1 (s0 [] [(4,Ii 0)] ?_);cases h;exact rt rx

theorem JV (F:Nat) (zC:List (Int)) (tW:Int) (r:(List Int)×Int×Int) (h:rM F zC tW=some r):yK prog 142 [] [] [Sb zC,Ii tW] [] (.tuple [.str r.1,Ii r.2.1,Ii r.2.2]):=by
 refine tI Go.Proofs.Tryz.f142 ?_;unfold rM at h;refine sE [] [(0,Sb zC),(1,Ii tW)] [] 0 (sq (bE h fun zA zH h=>r0 [iK 1 {} (cG F zC zA zH)] [(7,Ii zA.1),(8,Ii zA.2.1),(9,Ii zA.2.2)] (sq ?_)));refine yR (id:=0) zk ?_;refine c0 [] 16 h [] ?_ ?_
 ·intro yC h;refine s1 [] [0] [(4,.str ([]:List Int)),(5,Ii 0),(6,Ii zA.2.2)] ?_;cases h;exact rt rx
 intro yC h;refine c0 [] 20 h [] ?_ ?_
 ·intro y0 h;refine s1 [] [0] [(4,.str ([]:List Int)),(5,Ii 0),(6,Ii 10)] ?_;cases h;exact rt rx
 intro y0 h;refine c0 [] 23 h [] ?_ ?_
 ·intro xH h;refine s1 [] [0] [(4,.str ([]:List Int)),(5,Ii 0),(6,Ii 7)] ?_;cases h;exact rt rx
 intro xH h;refine c0 [iN 2 Fb zC] 27 h [] ?_ ?_
 ·intro w7 h;refine s1 [] [0] [(4,.str ([]:List Int)),(5,Ii 0),(6,Ii 8)] ?_;cases h;exact rt rx
 intro w7 h;refine sk (sq (nE h fun zS h=>r1 [iH 6 { s:=sub zC zA.2.1 (zI (zA.2.1+zA.1)) },iS 5 Fb zC zA.2.1 (zI (zA.2.1+zA.1)) zS.1 zS.2.1 zS.2.2,iC (rfl:(Mb (sub zC zA.2.1 (zI (zA.2.1+zA.1))))=List.map (AV.int .u8) (sub zC zA.2.1 (zI (zA.2.1+zA.1))))] [0] [(4,.str (sub zC zA.2.1 (zI (zA.2.1+zA.1)))),(5,Ii (zI (zA.2.1+zA.1))),(6,Ii 0)] ?_));cases h;exact rt rx

theorem RZ (F:Nat) (zE:wU) (r:(List Int)×wU) (h:DM F zE=some r):yK prog 108 [(.var 157 (vW zE))] [] [Pp 0] [(.var 157 (vW r.2))] (.str r.1):=by
 refine tI Go.Proofs.Tryz.f108 ?_;unfold DM at h;refine sE [] [(0,Pp 0)] [(0,Vb 157 (vW zE))] 1 (sq (bE h fun zA zH h=>r0 [iK 4 {} (JV F zE.b (40:Int) zA zH)] [(3,.str zA.1),(4,Ii zA.2.1),(5,Ii zA.2.2)] (sq (c0 [] 16 h [] ?_ ?_))))
 ·intro yC h;refine s2 [] [0] [] [] [(0,Vb 157 [.nilsl,.bool true])] 1 (s0 [] [(2,.str ([]:List Int))] (wz [0] [] [] [0] [(2,.str ([]:List Int))] [(0,Vb 157 (vW (⟨[],true⟩:wU)))] (ar 157 (ar true (ar ([]:List AV) (ar (.bool true:AV) an)))) ?_));cases h;exact rt rx
 intro yC h;refine sk (sq (nE h fun zS h=>r2 [iT 6 Fb zE.b zA.2.1 zS.1 zS.2] [0] [] [] [(0,Vb 157 [Sb (sub zE.b zA.2.1 (lN (zE.b))),.bool zE.bad])] 1 (s0 [] [(2,.str zA.1)] ?_)));cases h;exact rt rx

theorem KP (F:Nat) (zE:wU) (r:y2×wU) (h:lU F zE=some r):yK prog 109 [(.var 157 (vW zE))] [] [Pp 0] [(.var 157 (vW r.2))] (zW r.1):=by
 refine tI Go.Proofs.Tryz.f109 ?_;unfold lU at h;refine sE [iH 0 { id:=1 }] [(0,Pp 0),(2,Pp 1)] [(0,Vb 157 (vW zE)),(1,Vb 76 [Ii 0,Ii 0,Ii 0,Ii 0,Ii 0])] 2 (sq (bE h fun zA zH h=>bE h fun zF zS h=>bE h fun zN yU h=>r2 [iK 1 { ids:=[0] } (kN F zE zA zH),iK 3 { ids:=[0] } (kN F zA.2 zF zS),iK 5 { ids:=[0] } (kN F zF.2 zN yU)] [] [(3,Ii zA.1),(4,Ii zF.1),(5,Ii zN.1)] [] [(0,Vb 157 (vW zN.2))] 2 (sq (bE h fun zV xB h=>r2 [iK 1 { ids:=[0] } (kN F zN.2 zV xB)] [] [(6,Ii zV.1)] [] [(0,Vb 157 (vW zV.2))] 2 (sq (bE h fun zU xJ h=>r2 [iK 5 { ids:=[0] } (kN F zV.2 zU xJ)] [0] [] [] [(0,Vb 157 (vW zU.2)),(1,Vb 76 [Ii zA.1,Ii zF.1,Ii zN.1,Ii zV.1,Ii zU.1])] 2 ?_))))));cases h;exact rt rx

theorem GT (yO:List (Int)) (zC:List (Int)) (r:Bool) (h:gA yO zC=some r):yK prog 110 [] [] [Sb yO,Sb zC] [] (.bool r):=by
 refine tI Go.Proofs.Tryz.f110 ?_;unfold gA at h;refine sE [] [(0,Sb yO),(1,Sb zC)] [] 0 (s1 [iH 1 { s:=yO },iH 3 { s:=zC },iC (rfl:(Mb yO)=List.map (AV.int .u8) yO),iC (rfl:(Mb zC)=List.map (AV.int .u8) zC)] [0,1] [(4,.bool (yO==zC))] ?_);cases h;exact rt rx

end Go.Ab
