/- Printed: the typed Lean functions of the Go functions, or the proofs that the Go functions meet them. No conditions but those that the theorems name. -/
import Derived.Test.YtoeengmnmhhpgaaP15xD
import Derived.Test.YtoeengmnmhhpgaaA32
import Derived.Test.YtoeengmnmhhpgaaProg
namespace Go.Ab
open Go Go.Proofs
set_option linter.unusedVariables false
noncomputable abbrev prog:=Go.Proofs.Try.prog
theorem qA:prog.follows .mixedOrders=true:=by kernel_rfl
instance :Mx prog:=⟨qA⟩
theorem zEv:GC prog 101:=⟨_,Go.Proofs.Try.func101,by kernel_rfl,by kernel_rfl,by kernel_rfl,zk⟩
theorem JK:u9 prog 3 false [.int .i64]:=XC zk
theorem Z5:u9 prog 83 true [.int .i64,.int .i64]:=EO zk zk zk zk
theorem UO:∀ a b:y0,z4 a=z4 b→a=b:=by
  intro a b h;cases a;cases b;simpa [z4,rB] using h
theorem SP:pF prog 83 [.int .i64,.int .i64]:=EY Z5 zk zk
def zEg:Go.Shelf.Ren:={ f:=fun n=>bif Nat.beq n 5 then 54 else 78,t:=fun n=>bif Nat.beq n 23 then 63 else bif Nat.beq n 25 then 3 else bif Nat.beq n 3 then 115 else bif Nat.beq n 20 then 20 else bif Nat.beq n 4 then 4 else n,g:=fun x=>x }
theorem RY : Go.Proofs.SlLaysW.n5 prog zEg := ⟨by kernel_rfl, ⟨ "maps.Clone[map[int]tracebook/file.place,int,tracebook/file.place]", by kernel_rfl, zk⟩, by kernel_rfl, by kernel_rfl, fun w => by kernel_rfl, fun w => by kernel_rfl, fun w => by kernel_rfl, by kernel_rfl, fun w => by kernel_rfl, fun w => by kernel_rfl, fun w => by kernel_rfl, by kernel_rfl, fun w => by kernel_rfl, fun w => by kernel_rfl, fun w => by kernel_rfl⟩
theorem SE:u9 prog 9 false [.str]:=zAo zk
theorem LB:u9 prog 121 true [.int .i64,.int .i64]:=EO zk zk zk zk
theorem MX:∀ a b:zS,yW a=yW b→a=b:=by
  intro a b h;cases a;cases b;simpa [yW,U5] using h
theorem VZ:pF prog 121 [.int .i64,.int .i64]:=EY LB zk zk
theorem zBW:u9 prog 81 true [.int .i64,.str,.int .i64]:=EO zk zk zk zk
theorem zD3:∀ a b:xH,z9 a=z9 b→a=b:=by
  intro a b h;cases a;cases b;simpa [z9,qL] using h
theorem zDR:pF prog 81 [.int .i64,.str,.int .i64]:=EY zBW zk zk
theorem zAK:u9 prog 73 true [.int .i64,.int .i64,.int .i64,.int .i64,.int .i64]:=EO zk zk zk zk
theorem zDc:∀ a b:yQ,z5 a=z5 b→a=b:=by
  rintro ⟨_,_,_,⟨_,_⟩⟩ ⟨_,_,_,⟨_,_⟩⟩ h
  simpa [z5,pH] using h
theorem zEk:pF prog 73 [.int .i64,.int .i64,.int .i64,.int .i64,.int .i64]:=EY zAK zk zk
theorem H2 (zM:z8) (zN:zT) (r:Bool) (h:B4 zM zN=some r):y5 prog 5 [] [] [uX zM,nA zN] [] (.bool r):=by
 refine tI Try.f5 ?_;unfold B4 at h;refine sE [iH 0 { id:=0 },iH 1 { id:=1 }] [(2,Pp 0),(3,Pp 1)] [(0,Vb 31 (xC zM)),(1,Vb 26 (vQ zN))] 2 (sq ?_);refine x9 (mk [(4,.bool (zB0 zM zN))] [] 0) ?_ ?_
 ·rcases bft (decide ((lN (zM.Data))≤(4000:Int))) with zR | zR
  ·rcases bft (decide (zM.Size≤(20000:Int))) with zX | zX
   ·rcases bft (decide ((lN (zN.Threads))≤(70:Int))) with yI | yI
    ·rcases bft (decide ((lN (zN.Domains))≤(10:Int))) with yK | yK
     ·refine r2 [iH 8 Ht,iH 14 Ht,iH 20 Ht,iH 26 Ht,iN 2 Fb zM.Data,iR 4 zR,iR 3 zX,iN 12 z9 zN.Threads,iR 2 zX,iR 3 yI,iN 18 z4 zN.Domains,iR 2 yI,iR 3 yK,iN 24 z5 zN.Snaps,iR 2 yK] [2,3] [(4,.bool (decide ((lN (zN.Snaps))≤(20:Int))))] [0,1] [] 2 ?_;exact ⟨rfl,(sw [] [] [.a 4 (.bool (zB0 zM zN))] [] (ac (congrArg AV.bool (uI zR (uI zX (uI yI (uI yK rfl)))):(.bool (decide ((lN (zN.Snaps))≤(20:Int))):AV)=.bool (zB0 zM zN)) an))⟩
     ·refine r2 [iH 8 Ht,iH 14 Ht,iH 20 Ht,iG 22 4,iH 26 Hf,iN 2 Fb zM.Data,iR 4 zR,iR 3 zX,iN 12 z9 zN.Threads,iR 2 zX,iR 3 yI,iN 18 z4 zN.Domains,iR 2 yI,iR 5 yK] [2,3] [(4,.bool false)] [0,1] [] 2 ?_;exact ⟨rfl,(sw [] [] [.a 4 (.bool (zB0 zM zN))] [] (ac (congrArg AV.bool (uI zR (uI zX (uI yI (j0 yK)))):(.bool false:AV)=.bool (zB0 zM zN)) an))⟩
    ·refine r2 [iH 8 Ht,iH 14 Ht,iG 16 4,iH 20 Hf,iG 22 4,iH 26 Hf,iN 2 Fb zM.Data,iR 4 zR,iR 3 zX,iN 12 z9 zN.Threads,iR 2 zX,iR 5 yI,iZ,iZ,iZ,iZ,iA false] [2,3] [(4,.bool false)] [0,1] [] 2 ?_;exact ⟨rfl,(sw [] [] [.a 4 (.bool (zB0 zM zN))] [] (ac (congrArg AV.bool (uI zR (uI zX (j0 yI))):(.bool false:AV)=.bool (zB0 zM zN)) an))⟩
   ·refine r2 [iH 8 Ht,iG 10 4,iH 14 Hf,iG 16 4,iH 20 Hf,iG 22 4,iH 26 Hf,iN 2 Fb zM.Data,iR 4 zR,iR 5 zX,iZ,iZ,iZ,iZ,iA false,iZ,iZ,iZ,iZ,iA false] [2,3] [(4,.bool false)] [0,1] [] 2 ?_;exact ⟨rfl,(sw [] [] [.a 4 (.bool (zB0 zM zN))] [] (ac (congrArg AV.bool (uI zR (j0 zX)):(.bool false:AV)=.bool (zB0 zM zN)) an))⟩
  ·refine r2 [iG 5 3,iH 8 Hf,iG 10 4,iH 14 Hf,iG 16 4,iH 20 Hf,iG 22 4,iH 26 Hf,iN 2 Fb zM.Data,iR 4 zR,iZ,iZ,iZ,iZ,iA false,iZ,iZ,iZ,iZ,iA false,iZ,iZ,iZ,iZ,iA false] [2,3] [(4,.bool false)] [0,1] [] 2 ?_;exact ⟨rfl,(sw [] [] [.a 4 (.bool (zB0 zM zN))] [] (ac (congrArg AV.bool (j0 zR):(.bool false:AV)=.bool (zB0 zM zN)) an))⟩
 cases h;exact rt rx
theorem L8 (F:Nat) (zO:List (tK)) (r:Bool) (h:B7 F zO=some r):y5 prog 6 [] [] [Sq 2 tY zO] [] (.bool r):=by
 refine tI Try.f6 ?_;unfold B7 at h;refine sE [] [(0,Sq 2 tY zO)] [] 0 (sq (s0 [iN 1 tY zO] [(7,Sq 2 tY zO),(8,Ii (lN (zO))),(9,Ii 0)] (bE h fun zC zN h=>?_)));refine uG (K1:=kS prog zC 0 (fun q0=>mk [(0,Sq 2 tY zO)] [] 0) Try.f6 (fun q1=>[]) fun q1=>.bool q1) ?_ ?_
 ·replace h:=zN;refine y7 (id:=0) zk ?_;refine w0 [] [] [(0,Sq 2 tY zO),(7,Sq 2 tY zO),(8,Ii (lN (zO))),(9,Ii 0)] [] ?_;refine wX (fun n st=>∃ (zG:Int),st=mk [(0,Sq 2 tY zO),(7,Sq 2 tY zO),(8,Ii (lN (zO))),(9,Ii zG)] [] 0∧AR F zO n zG=some zC) F zk ⟨_,rfl,h⟩ ?_ ?_
  ·rintro _ ⟨_,_,h⟩;exact wV (h:(none:Option (Unit⊕Bool))=some zC)
  rintro yF _ ⟨zG,rfl,h⟩;replace h:DA F zO (AR F zO yF) zG=some zC:=h;unfold DA at h;refine s0 [] [(10,.bool (decide (zG<(lN (zO)))))] (sq (ch 10 h ?_ ?_))
  rotate_left
  ·intro yN h;refine wQ (id:=0) zk ?_;cases h;exact ⟨rfl,(sI 0 [0])⟩
  intro yN h;refine sk (sq ?_);refine y7 (id:=1) zk ?_;refine sq (bE h fun zH zU h=>r2 [iH 2 { id:=0 },iF 0 tY zU] [] [(4,Pp 0)] [] [(0,Vb 41 (LM zH))] 1 (sq (ad 22 h ?_ ?_ ?_)))
  ·rcases bft (decide ((lN (zH.Snaps))>(10:Int))) with yK | yK
   ·exact rm [iG 5 4,iH 9 Ht,iN 2 z5 zH.Snaps,iR 5 yK] (ort yK)
   ·exact rm [iH 9 Hf,iN 2 z5 zH.Snaps,iR 3 yK,iN 7 zZ zH.Packets,iR 2 yK] (orf yK rfl)
  ·intro xG h;refine s2 [] [0,7,4] [(2,.bool false)] [0] [] 1 ?_;cases h;exact rt ry
  intro xG h;refine sk (s2 [iN 2 zZ zH.Packets] [4] [(24,Sq 4 zZ zH.Packets),(25,Ii (lN (zH.Packets))),(26,Ii 0)] [0] [] 1 (bE h fun zV y8 h=>?_));refine uG (K1:=kS prog zV 0 (fun q0=>mk [(0,Sq 2 tY zO),(7,Sq 2 tY zO),(8,Ii (lN (zO))),(9,Ii zG)] [] 0) Try.f6 (fun q1=>[]) fun q1=>.bool q1) ?_ ?_
  ·replace h:=y8;refine y7 (id:=2) zk ?_;refine w0 [] [] [(0,Sq 2 tY zO),(7,Sq 2 tY zO),(8,Ii (lN (zO))),(9,Ii zG),(24,Sq 4 zZ zH.Packets),(25,Ii (lN (zH.Packets))),(26,Ii 0)] [] ?_;refine wX (fun n st=>∃ (xM:Int),st=mk [(0,Sq 2 tY zO),(7,Sq 2 tY zO),(8,Ii (lN (zO))),(9,Ii zG),(24,Sq 4 zZ zH.Packets),(25,Ii (lN (zH.Packets))),(26,Ii xM)] [] 0∧C1 F zH n xM=some zV) F zk ⟨_,rfl,h⟩ ?_ ?_
   ·rintro _ ⟨_,_,h⟩;exact wV (h:(none:Option (Unit⊕Bool))=some zV)
   rintro qZ _ ⟨xM,rfl,h⟩;replace h:CF F zH (C1 F zH qZ) xM=some zV:=h;unfold CF at h;refine s0 [] [(27,.bool (decide (xM<(lN (zH.Packets)))))] (sq (ch 27 h ?_ ?_))
   rotate_left
   ·intro xU h;refine wQ (id:=2) zk ?_;cases h;exact ⟨rfl,(sI 0 [0,7,8,9])⟩
   intro xU h;refine sk (sq ?_);refine y7 (id:=3) zk ?_;refine sq (bE h fun yB xR h=>r2 [iH 2 { id:=0 },iF 0 zZ xR] [] [(6,Pp 0)] [] [(0,Vb 54 (wJ yB))] 1 (s2 [iN 2 wG yB.Events] [6] [(33,.bool (decide ((lN (yB.Events))>(60:Int))))] [0] [] 1 (ch 33 h ?_ ?_)))
   rotate_left
   ·intro vY h;refine sk (r0 [] [(26,Ii (zI (xM+(1:Int))))] ?_);exact ⟨_,(sI 0 [0,7,8,9,24,25,26]),_,rfl,h⟩
   intro vY h;refine s1 [] [0,7,24] [(2,.bool false)] ?_;cases h;exact rt ry
  intro e st1 hk;rcases zV with yC | xV
  rotate_left
  ·obtain ⟨rfl,hf⟩:=hk;cases h;exact ⟨_,Sub.refl _ _,rfl,hf⟩
  obtain ⟨rfl,hs⟩:=hk;refine ⟨_,hs,?_⟩;refine r0 [] [(9,Ii (zI (zG+(1:Int))))] ?_;exact ⟨_,(sI 0 [0,7,8,9]),_,rfl,h⟩
 intro e st1 hk;rcases zC with kD | n7
 rotate_left
 ·obtain ⟨rfl,hf⟩:=hk;cases h;exact ⟨st1,Sub.refl _ _,.inr rfl,hf⟩
 obtain ⟨rfl,hs⟩:=hk;refine ⟨_,hs,?_⟩;refine s1 [iN 1 tY zO] [0] [(2,.bool (decide ((lN (zO))≤(6:Int))))] ?_;cases h;exact rt rx
theorem Q9 (wD:Int) (r:z8×Int) (h:DM wD=some r):y5 prog 8 [] [] [Ii wD] [] (.tuple [uX r.1,Ii r.2]):=by
 refine tI Try.f8 ?_;unfold DM at h;refine sE [iH 0 { id:=0 }] [(0,Ii wD),(2,Pp 0)] [(0,qQ)] 1 (sq (ad 9 h ?_ ?_ ?_))
 ·rcases bft (decide (wD<(1:Int))) with zR | zR
  ·exact rm [iG 3 2,iH 5 Ht,iR 3 zR] (ort zR)
  ·exact rm [iH 5 Hf,iR 3 zR] (orf zR rfl)
 ·intro yN h;refine s0 [] [(3,Ii 2)] (wz [0] [] [] [0] [(2,Pp 0),(3,Ii 2)] [(0,Vb 31 (xC zL0))] (ar 31 (ar true (ar (Ii 0) (ar ([]:List AV) (ar (Ii 0) (ar (Ii 0) (ar (.bool false:AV) an))))))) ?_);cases h;exact rt rx
 intro yN h;refine sk (s2 [] [] [(3,Ii 0)] [] [(0,Vb 31 [Ii wD,.nilsl,Ii 0,Ii (-1),.bool false])] 1 (wz [0] [] [] [0] [(2,Pp 0),(3,Ii 0)] [(0,Vb 31 (xC (⟨wD,[],(0:Int),(-1:Int),false⟩:z8)))] (ar 31 (ar true (ar (Ii wD) (ar ([]:List AV) (ar (Ii 0) (ar (Ii (-1)) (ar (.bool false:AV) an))))))) ?_));cases h;exact rt rx
theorem AX (r:zT) (h:HC=some r):y5 prog 17 [] [] [] [] (nA r):=by
 refine tI Try.f17 ?_;unfold HC at h;refine sE [iH 0 { id:=0 }] [(0,Pp 0)] [(0,Vb 26 [.nilsl,.nilsl,.nilsl])] 1 (s2 [iH 1 { id:=1 },iH 3 { id:=2 }] [] [] [] [(0,Vb 26 [.own 1 1,.own 2 1,.nilsl]),(1,Rb 81 3 (Mp z9 ([(⟨(1:Int),([116,49]:List Int),(0:Int)⟩:xH)]:List xH))),(2,Rb 83 2 (Mp z4 ([(⟨(0:Int),(0:Int)⟩:y0)]:List y0)))] 3 (wz [0] [1,2] [] [0] [(0,Pp 0)] [(0,Vb 26 (vQ (⟨([(⟨(1:Int),([116,49]:List Int),(0:Int)⟩:xH)]:List xH),([(⟨(0:Int),(0:Int)⟩:y0)]:List y0),[]⟩:zT)))] (ar 26 (ar true (ac (by first | (simp;done) | (simp;omega):1=((List.map z9 ([(⟨(1:Int),([116,49]:List Int),(0:Int)⟩:xH)]:List xH))).length) (ac (by first | (simp;done) | (simp;omega):1=((List.map z4 ([(⟨(0:Int),(0:Int)⟩:y0)]:List y0))).length) (ar 3 (ar (Mp z9 ([(⟨(1:Int),([116,49]:List Int),(0:Int)⟩:xH)]:List xH)) (ar true (ar 2 (ar (Mp z4 ([(⟨(0:Int),(0:Int)⟩:y0)]:List y0)) (ar true (ar ([]:List AV) an))))))))))) ?_));cases h;exact rt rx
theorem oJ (zM:z8) (r:Int) (h:dF zM=some r):y5 prog 20 [] [] [uX zM] [] (Ii r):=by
 refine tI Try.f20 ?_;unfold dF at h;refine sE [iH 0 { id:=0 }] [(1,Pp 0)] [(0,Vb 31 (xC zM))] 1 (sq (sq ?_));refine x9 (mk [(41,.bool (zB1 zM))] [] 0) ?_ ?_
 ·rcases bft (decide (zM.Size<(1:Int))) with zR | zR
  ·refine r2 [iG 4 3,iH 7 Ht,iG 9 6,iH 15 Ht,iG 17 3,iH 20 Ht,iG 22 6,iH 28 Ht,iG 30 3,iH 33 Ht,iG 35 3,iH 38 Ht,iR 4 zR,iX 6,iA true,iX 3,iA true,iX 6,iA true,iX 3,iA true,iX 3,iA true] [1] [(41,.bool true)] [0] [] 1 ?_;exact ⟨rfl,(sw [] [] [.a 41 (.bool (zB1 zM))] [] (ac (congrArg AV.bool (ort zR):(.bool true:AV)=.bool (zB1 zM)) an))⟩
  ·rcases bft (decide (zM.Size>(1048576:Int))) with zX | zX
   ·refine r2 [iH 7 Hf,iG 9 6,iH 15 Ht,iG 17 3,iH 20 Ht,iG 22 6,iH 28 Ht,iG 30 3,iH 33 Ht,iG 35 3,iH 38 Ht,iR 4 zR,iR 7 zX,iX 3,iA true,iX 6,iA true,iX 3,iA true,iX 3,iA true] [1] [(41,.bool true)] [0] [] 1 ?_;exact ⟨rfl,(sw [] [] [.a 41 (.bool (zB1 zM))] [] (ac (congrArg AV.bool (orf zR (ort zX)):(.bool true:AV)=.bool (zB1 zM)) an))⟩
   ·rcases bft (decide ((lN (zM.Data))>zM.Size)) with yI | yI
    ·refine r2 [iH 7 Hf,iH 15 Hf,iG 17 3,iH 20 Ht,iG 22 6,iH 28 Ht,iG 30 3,iH 33 Ht,iG 35 3,iH 38 Ht,iR 4 zR,iR 3 zX,iN 11 Fb zM.Data,iR 4 zX,iR 4 yI,iX 6,iA true,iX 3,iA true,iX 3,iA true] [1] [(41,.bool true)] [0] [] 1 ?_;exact ⟨rfl,(sw [] [] [.a 41 (.bool (zB1 zM))] [] (ac (congrArg AV.bool (orf zR (orf zX (ort yI))):(.bool true:AV)=.bool (zB1 zM)) an))⟩
    ·rcases bft (decide (zM.Durable<(0:Int))) with yK | yK
     ·refine r2 [iH 7 Hf,iH 15 Hf,iH 20 Hf,iG 22 6,iH 28 Ht,iG 30 3,iH 33 Ht,iG 35 3,iH 38 Ht,iR 4 zR,iR 3 zX,iN 11 Fb zM.Data,iR 4 zX,iR 4 yI,iR 7 yK,iX 3,iA true,iX 3,iA true] [1] [(41,.bool true)] [0] [] 1 ?_;exact ⟨rfl,(sw [] [] [.a 41 (.bool (zB1 zM))] [] (ac (congrArg AV.bool (orf zR (orf zX (orf yI (ort yK)))):(.bool true:AV)=.bool (zB1 zM)) an))⟩
     ·rcases bft (decide (zM.Durable>(lN (zM.Data)))) with xW | xW
      ·refine r2 [iH 7 Hf,iH 15 Hf,iH 20 Hf,iH 28 Hf,iG 30 3,iH 33 Ht,iG 35 3,iH 38 Ht,iR 4 zR,iR 3 zX,iN 11 Fb zM.Data,iR 4 zX,iR 4 yI,iR 5 yK,iN 26 Fb zM.Data,iR 2 yK,iR 4 xW,iX 3,iA true] [1] [(41,.bool true)] [0] [] 1 ?_;exact ⟨rfl,(sw [] [] [.a 41 (.bool (zB1 zM))] [] (ac (congrArg AV.bool (orf zR (orf zX (orf yI (orf yK (ort xW))))):(.bool true:AV)=.bool (zB1 zM)) an))⟩
      ·rcases bft (decide (zM.Left<(-1:Int))) with wB | wB
       ·refine r2 [iH 7 Hf,iH 15 Hf,iH 20 Hf,iH 28 Hf,iH 33 Hf,iG 35 3,iH 38 Ht,iR 4 zR,iR 3 zX,iN 11 Fb zM.Data,iR 4 zX,iR 4 yI,iR 5 yK,iN 26 Fb zM.Data,iR 2 yK,iR 4 xW,iR 4 wB] [1] [(41,.bool true)] [0] [] 1 ?_;exact ⟨rfl,(sw [] [] [.a 41 (.bool (zB1 zM))] [] (ac (congrArg AV.bool (orf zR (orf zX (orf yI (orf yK (orf xW (ort wB)))))):(.bool true:AV)=.bool (zB1 zM)) an))⟩
       ·refine r2 [iH 7 Hf,iH 15 Hf,iH 20 Hf,iH 28 Hf,iH 33 Hf,iH 38 Hf,iR 4 zR,iR 3 zX,iN 11 Fb zM.Data,iR 4 zX,iR 4 yI,iR 5 yK,iN 26 Fb zM.Data,iR 2 yK,iR 4 xW,iR 4 wB] [1] [(41,.bool (decide (zM.Left>(1048576:Int))))] [0] [] 1 ?_;exact ⟨rfl,(sw [] [] [.a 41 (.bool (zB1 zM))] [] (ac (congrArg AV.bool (orf zR (orf zX (orf yI (orf yK (orf xW (orf wB rfl)))))):(.bool (decide (zM.Left>(1048576:Int))):AV)=.bool (zB1 zM)) an))⟩
 refine ch 41 h ?_ ?_
 ·intro yN h;refine s0 [] [(2,Ii 2)] ?_;cases h;exact rt rx
 intro yN h;refine sk (s0 [] [(2,Ii 0)] ?_);cases h;exact rt rx
theorem Y7 (zF:List Int) (zB:Int) (r:Int) (h:GT zF zB=some r):y5 prog 100 [] [] [.str zF,Iu zB] [] (Ii r):=by
 refine tI Try.f100 ?_;unfold GT at h;refine sE [] [(0,.str zF),(1,Iu zB)] [] 0 (s0 [iC (zEv:GC prog 101)] [(4,Ii (jL zF zB))] ?_);cases h;exact rt rx
theorem fK (zF:List Int) (zB:Int) (r:Int) (h:a8 zF zB=some r):y5 prog 97 [] [] [.str zF,Iu zB] [] (Ii r):=by
 refine tI Try.f97 ?_;unfold a8 at h;refine sE [] [(0,.str zF),(1,Iu zB)] [] 0 (sq (bE h fun zA zN h=>r0 [iK 2 {} (Y7 zF zB zA zN)] [(4,Ii zA)] ?_));cases h;exact rt rx
theorem WG (zB:Int) (r:Bool) (h:CO zB=some r):y5 prog 83 [] [] [Iu zB] [] (.bool r):=by
 refine tI Try.f83 ?_;unfold CO at h;refine sE [] [(0,Iu zB)] [] 0 (sq (bE h fun zL zU h=>?_));refine x9 (mk [(2,.bool zL)] [] 0) ?_ ?_
 ·replace h:=zU;rcases bft (decide (zB≥(97:Int))) with zR | zR
  ·replace h:=xP zR h;rcases bft (decide (zB≤(122:Int))) with zX | zX
   ·replace h:=xP zX h;refine r0 [iH 5 Ht,iG 7 3,iH 12 Hg,iH 13 Ht,iG 15 3,iH 20 Hg,iH 21 Ht,iG 23 3,iH 26 Ht,iR 3 zR,iR 5 zX,iX 4,iA true,iX 3,iA true] [(2,.bool true)] ?_;cases h;exact ⟨rfl,(sI 0 [2])⟩
   ·replace h:=xQ zX h;rcases bft (decide (zB≥(65:Int))) with yI | yI
    ·replace h:=xP yI h;rcases bft (decide (zB≤(90:Int))) with yK | yK
     ·replace h:=xP yK h;refine r0 [iH 5 Ht,iH 12 Ht,iH 13 Hf,iG 15 3,iH 20 Hg,iH 21 Ht,iG 23 3,iH 26 Ht,iR 3 zR,iR 3 zX,iR 2 yI,iC zX,iC yI,iC zX,iR 5 yK,iX 3,iA true] [(2,.bool true)] ?_;cases h;exact ⟨rfl,(sI 0 [2])⟩
     ·replace h:=xQ yK h;rcases bft (decide (zB≥(48:Int))) with xW | xW
      ·replace h:=xP xW h;rcases bft (decide (zB≤(57:Int))) with wB | wB
       ·replace h:=xP wB h;refine r0 [iH 5 Ht,iH 12 Ht,iH 13 Hf,iH 20 Ht,iH 21 Hf,iG 23 3,iH 26 Ht,iR 3 zR,iR 3 zX,iR 2 yI,iC zX,iC yI,iC zX,iR 3 yK,iR 2 xW,iC yK,iC xW,iC yK,iR 4 wB] [(2,.bool true)] ?_;cases h;exact ⟨rfl,(sI 0 [2])⟩
       ·replace h:=xQ wB h;refine bE h fun zA zN h=>r0 [iH 5 Ht,iH 12 Ht,iH 13 Hf,iH 20 Ht,iH 21 Hf,iH 26 Hf,iR 3 zR,iR 3 zX,iR 2 yI,iC zX,iC yI,iC zX,iR 3 yK,iR 2 xW,iC yK,iC xW,iC yK,iR 2 wB,iK 24 {} (fK ([95,46,58,47,60,62,36,42,126,45]:List Int) zB zA zN),iR 2 wB] [(2,.bool (decide (zA≥(0:Int))))] ?_;cases h;exact ⟨rfl,(sI 0 [2])⟩
      ·replace h:=xQ xW h;refine bE h fun zA zN h=>r0 [iH 5 Ht,iH 12 Ht,iH 13 Hf,iG 18 2,iH 20 Hf,iH 21 Hf,iH 26 Hf,iR 3 zR,iR 3 zX,iR 2 yI,iC zX,iC yI,iC zX,iR 3 yK,iR 2 xW,iC yK,iC xW,iC yK,iQ 2 false,iK 24 {} (fK ([95,46,58,47,60,62,36,42,126,45]:List Int) zB zA zN),iQ 2 false] [(2,.bool (decide (zA≥(0:Int))))] ?_;cases h;exact ⟨rfl,(sI 0 [2])⟩
    ·replace h:=xQ yI h;rcases bft (decide (zB≥(48:Int))) with wL | wL
     ·replace h:=xP wL h;rcases bft (decide (zB≤(57:Int))) with wO | wO
      ·replace h:=xP wO h;refine r0 [iH 5 Ht,iG 10 2,iH 12 Hf,iH 13 Hf,iH 20 Ht,iH 21 Hf,iG 23 3,iH 26 Ht,iR 3 zR,iR 3 zX,iR 2 yI,iC zX,iC yI,iC zX,iQ 3 false,iR 2 wL,iA false,iC wL,iA false,iR 4 wO] [(2,.bool true)] ?_;cases h;exact ⟨rfl,(sI 0 [2])⟩
      ·replace h:=xQ wO h;refine bE h fun zA zN h=>r0 [iH 5 Ht,iG 10 2,iH 12 Hf,iH 13 Hf,iH 20 Ht,iH 21 Hf,iH 26 Hf,iR 3 zR,iR 3 zX,iR 2 yI,iC zX,iC yI,iC zX,iQ 3 false,iR 2 wL,iA false,iC wL,iA false,iR 2 wO,iK 24 {} (fK ([95,46,58,47,60,62,36,42,126,45]:List Int) zB zA zN),iR 2 wO] [(2,.bool (decide (zA≥(0:Int))))] ?_;cases h;exact ⟨rfl,(sI 0 [2])⟩
     ·replace h:=xQ wL h;refine bE h fun zA zN h=>r0 [iH 5 Ht,iG 10 2,iH 12 Hf,iH 13 Hf,iG 18 2,iH 20 Hf,iH 21 Hf,iH 26 Hf,iR 3 zR,iR 3 zX,iR 2 yI,iC zX,iC yI,iC zX,iQ 3 false,iR 2 wL,iA false,iC wL,iQ 3 false,iK 24 {} (fK ([95,46,58,47,60,62,36,42,126,45]:List Int) zB zA zN),iQ 2 false] [(2,.bool (decide (zA≥(0:Int))))] ?_;cases h;exact ⟨rfl,(sI 0 [2])⟩
  ·replace h:=xQ zR h;rcases bft (decide (zB≥(65:Int))) with uC | uC
   ·replace h:=xP uC h;rcases bft (decide (zB≤(90:Int))) with vL | vL
    ·replace h:=xP vL h;refine r0 [iG 3 2,iH 5 Hf,iH 12 Ht,iH 13 Hf,iG 15 3,iH 20 Hg,iH 21 Ht,iG 23 3,iH 26 Ht,iR 3 zR,iQ 3 false,iR 2 uC,iA false,iC uC,iA false,iR 5 vL,iX 3,iA true] [(2,.bool true)] ?_;cases h;exact ⟨rfl,(sI 0 [2])⟩
    ·replace h:=xQ vL h;rcases bft (decide (zB≥(48:Int))) with w6 | w6
     ·replace h:=xP w6 h;rcases bft (decide (zB≤(57:Int))) with uJ | uJ
      ·replace h:=xP uJ h;refine r0 [iG 3 2,iH 5 Hf,iH 12 Ht,iH 13 Hf,iH 20 Ht,iH 21 Hf,iG 23 3,iH 26 Ht,iR 3 zR,iQ 3 false,iR 2 uC,iA false,iC uC,iA false,iR 3 vL,iR 2 w6,iC vL,iC w6,iC vL,iR 4 uJ] [(2,.bool true)] ?_;cases h;exact ⟨rfl,(sI 0 [2])⟩
      ·replace h:=xQ uJ h;refine bE h fun zA zN h=>r0 [iG 3 2,iH 5 Hf,iH 12 Ht,iH 13 Hf,iH 20 Ht,iH 21 Hf,iH 26 Hf,iR 3 zR,iQ 3 false,iR 2 uC,iA false,iC uC,iA false,iR 3 vL,iR 2 w6,iC vL,iC w6,iC vL,iR 2 uJ,iK 24 {} (fK ([95,46,58,47,60,62,36,42,126,45]:List Int) zB zA zN),iR 2 uJ] [(2,.bool (decide (zA≥(0:Int))))] ?_;cases h;exact ⟨rfl,(sI 0 [2])⟩
     ·replace h:=xQ w6 h;refine bE h fun zA zN h=>r0 [iG 3 2,iH 5 Hf,iH 12 Ht,iH 13 Hf,iG 18 2,iH 20 Hf,iH 21 Hf,iH 26 Hf,iR 3 zR,iQ 3 false,iR 2 uC,iA false,iC uC,iA false,iR 3 vL,iR 2 w6,iC vL,iC w6,iC vL,iQ 2 false,iK 24 {} (fK ([95,46,58,47,60,62,36,42,126,45]:List Int) zB zA zN),iQ 2 false] [(2,.bool (decide (zA≥(0:Int))))] ?_;cases h;exact ⟨rfl,(sI 0 [2])⟩
   ·replace h:=xQ uC h;rcases bft (decide (zB≥(48:Int))) with uN | uN
    ·replace h:=xP uN h;rcases bft (decide (zB≤(57:Int))) with qG | qG
     ·replace h:=xP qG h;refine r0 [iG 3 2,iH 5 Hf,iG 10 2,iH 12 Hf,iH 13 Hf,iH 20 Ht,iH 21 Hf,iG 23 3,iH 26 Ht,iR 3 zR,iQ 3 false,iR 2 uC,iA false,iC uC,iQ 4 false,iR 2 uN,iA false,iC uN,iA false,iR 4 qG] [(2,.bool true)] ?_;cases h;exact ⟨rfl,(sI 0 [2])⟩
     ·replace h:=xQ qG h;refine bE h fun zA zN h=>r0 [iG 3 2,iH 5 Hf,iG 10 2,iH 12 Hf,iH 13 Hf,iH 20 Ht,iH 21 Hf,iH 26 Hf,iR 3 zR,iQ 3 false,iR 2 uC,iA false,iC uC,iQ 4 false,iR 2 uN,iA false,iC uN,iA false,iR 2 qG,iK 24 {} (fK ([95,46,58,47,60,62,36,42,126,45]:List Int) zB zA zN),iR 2 qG] [(2,.bool (decide (zA≥(0:Int))))] ?_;cases h;exact ⟨rfl,(sI 0 [2])⟩
    ·replace h:=xQ uN h;refine bE h fun zA zN h=>r0 [iG 3 2,iH 5 Hf,iG 10 2,iH 12 Hf,iH 13 Hf,iG 18 2,iH 20 Hf,iH 21 Hf,iH 26 Hf,iR 3 zR,iQ 3 false,iR 2 uC,iA false,iC uC,iQ 4 false,iR 2 uN,iA false,iC uN,iQ 3 false,iK 24 {} (fK ([95,46,58,47,60,62,36,42,126,45]:List Int) zB zA zN),iQ 2 false] [(2,.bool (decide (zA≥(0:Int))))] ?_;cases h;exact ⟨rfl,(sI 0 [2])⟩
 cases h;exact rt rx
theorem BV (F:Nat) (zF:List Int) (r:Int) (h:dB F zF=some r):y5 prog 60 [] [] [.str zF] [] (Ii r):=by
 refine tI Try.f60 ?_;unfold dB at h;refine sE [] [(0,.str zF)] [] 0 (sq (ad 10 h ?_ ?_ ?_))
 ·rcases bft (zF==([]:List Int)) with zR | zR
  ·exact rm [iG 3 3,iH 6 Ht,iR 4 zR] (ort zR)
  ·exact rm [iH 6 Hf,iR 4 zR] (orf zR rfl)
 ·intro yN h;refine s0 [] [(2,Ii 3)] ?_;cases h;exact rt rx
 intro yN h;refine sk (sq (s0 [] [(12,Ii (lN (zF))),(13,Ii 0)] (bE h fun zC zN h=>?_)));refine uG (K1:=kS prog zC 0 (fun q0=>mk [] [] 0) Try.f60 (fun q1=>[]) fun q1=>Ii q1) ?_ ?_
 ·replace h:=zN;refine y7 (id:=0) zk ?_;refine w0 [] [] [(0,.str zF),(12,Ii (lN (zF))),(13,Ii 0)] [] ?_;refine wX (fun n st=>∃ (zG:Int),st=mk [(0,.str zF),(12,Ii (lN (zF))),(13,Ii zG)] [] 0∧D6 F zF n zG=some zC) F zk ⟨_,rfl,h⟩ ?_ ?_
  ·rintro _ ⟨_,_,h⟩;exact wV (h:(none:Option (Unit⊕Int))=some zC)
  rintro yF _ ⟨zG,rfl,h⟩;replace h:DT F zF (D6 F zF yF) zG=some zC:=h;unfold DT at h;refine s0 [] [(14,.bool (decide (zG<(lN (zF)))))] (sq (ch 14 h ?_ ?_))
  rotate_left
  ·intro xG h;refine wQ (id:=0) zk ?_;cases h;exact ⟨rfl,(sI 0 [])⟩
  intro xG h;refine sk (sq ?_);refine y7 (id:=1) zk ?_;refine s0 [] [(3,Ii zG)] (sq (bE h fun zB zU h=>bE h fun zA y8 h=>r0 [iH 2 { z:=zB },iC zU,iK 3 {} (WG zB zA y8)] [(20,.bool (!zA))] (ch 20 h ?_ ?_)))
  rotate_left
  ·intro xU h;refine sk (r0 [] [(13,Ii (zI (zG+(1:Int))))] ?_);exact ⟨_,(sI 0 [0,12,13]),_,rfl,h⟩
  intro xU h;refine s0 [] [(2,Ii 3)] ?_;cases h;exact rt ry
 intro e st1 hk;rcases zC with yC | xV
 rotate_left
 ·obtain ⟨rfl,hf⟩:=hk;cases h;exact ⟨st1,Sub.refl _ _,.inr rfl,hf⟩
 obtain ⟨rfl,hs⟩:=hk;refine ⟨_,hs,?_⟩;refine s0 [] [(2,Ii 0)] ?_;cases h;exact rt rx
theorem zBp (F:Nat) (jF:xH) (r:Int) (h:AK F jF=some r):y5 prog 38 [] [] [z9 jF] [] (Ii r):=by
 refine tI Try.f38 ?_;unfold AK at h;refine sE [iH 0 { id:=0 }] [(1,Pp 0)] [(0,Vb 81 (qL jF))] 1 (sq (ad 20 h ?_ ?_ ?_))
 ·rcases bft (decide (jF.Id<(0:Int))) with zR | zR
  ·exact rm [iG 4 3,iH 7 Ht,iG 9 3,iH 12 Ht,iG 14 3,iH 17 Ht,iR 4 zR,iX 3,iA true,iX 3,iA true] (ort zR)
  ·rcases bft (decide (jF.Id>(1000000000000000:Int))) with zX | zX
   ·exact rm [iH 7 Hf,iG 9 3,iH 12 Ht,iG 14 3,iH 17 Ht,iR 4 zR,iR 4 zX,iX 3,iA true] (orf zR (ort zX))
   ·rcases bft (decide (jF.Domain<(0:Int))) with yI | yI
    ·exact rm [iH 7 Hf,iH 12 Hf,iG 14 3,iH 17 Ht,iR 4 zR,iR 4 zX,iR 4 yI] (orf zR (orf zX (ort yI)))
    ·exact rm [iH 7 Hf,iH 12 Hf,iH 17 Hf,iR 4 zR,iR 4 zX,iR 4 yI] (orf zR (orf zX (orf yI rfl)))
 ·intro yN h;refine s2 [] [1] [(2,Ii 2)] [0] [] 1 ?_;cases h;exact rt rx
 intro yN h;refine sk (sq (bE h fun zA zN h=>r2 [iK 2 {} (BV F jF.Name zA zN)] [1] [(2,Ii zA)] [0] [] 1 ?_));cases h;exact rt rx
theorem V1 (zH:y0) (zW:Int) (r:Bool) (h:GA zH zW=some r):y5 prog 89 [(.var 3 [Ii zW])] [] [z4 zH,Pp 0] [(.var 3 [Ii zW])] (.bool r):=by
 refine tI Try.f89 ?_;unfold GA at h;refine sE [iH 0 { id:=1 }] [(1,Pp 0),(2,Pp 1)] [(0,Vb 3 [Ii zW]),(1,Vb 83 (rB zH))] 2 (s2 [] [1,2] [(3,.bool (zH.Id==zW))] [1] [] 2 ?_);cases h;exact rt rx
theorem zCp (F:Nat) (zF:List (y0)) (zB:Int) (r:Int) (h:BP F zF zB=some r):y5 prog 61 [(.var 3 [Ii zB])] [] [Sq 2 z4 zF,.fn 89 [Pp 0]] [(.var 3 [Ii zB])] (Ii r):=by
 refine tI Try.f61 ?_;unfold BP at h;refine sE [] [(0,Sq 2 z4 zF),(1,.fn 89 [Pp 0])] [(0,Vb 3 [Ii zB])] 1 (sq (s0 [iN 1 z4 zF] [(7,Ii (lN (zF))),(8,Ii 0)] (bE h fun zC zN h=>?_)));refine uG (K1:=kS prog zC 1 (fun q0=>mk [] [(0,Vb 3 [Ii zB])] 1) Try.f61 (fun q1=>[(.var 3 [Ii zB])]) fun q1=>Ii q1) ?_ ?_
 ·replace h:=zN;refine y7 (id:=0) zk ?_;refine w0 [0] [] [(0,Sq 2 z4 zF),(1,.fn 89 [Pp 0]),(7,Ii (lN (zF))),(8,Ii 0)] [(0,Vb 3 [Ii zB])] ?_;refine wX (fun n st=>∃ (zG:Int),st=mk [(0,Sq 2 z4 zF),(1,.fn 89 [Pp 0]),(7,Ii (lN (zF))),(8,Ii zG)] [(0,Vb 3 [Ii zB])] 1∧DF F zF zB n zG=some zC) F zk ⟨_,rfl,h⟩ ?_ ?_
  ·rintro _ ⟨_,_,h⟩;exact wV (h:(none:Option (Unit⊕Int))=some zC)
  rintro yF _ ⟨zG,rfl,h⟩;replace h:gH F zF zB (DF F zF zB yF) zG=some zC:=h;unfold gH at h;refine s0 [] [(9,.bool (decide (zG<(lN (zF)))))] (sq (ch 9 h ?_ ?_))
  rotate_left
  ·intro yN h;refine wQ (id:=0) zk ?_;cases h;exact ⟨rfl,(sI 1 [])⟩
  intro yN h;refine sk (sq ?_);refine y7 (id:=1) zk ?_;refine s0 [] [(5,Ii zG)] (sq (bE h fun zH zU h=>bE h fun zA y8 h=>r0 [iF 3 z4 zU,iK 5 { ids:=[0] } (V1 zH zB zA y8)] [(16,.bool zA)] (ch 16 h ?_ ?_)))
  rotate_left
  ·intro xG h;refine sk (r0 [] [(8,Ii (zI (zG+(1:Int))))] ?_);exact ⟨_,(sI 1 [0,1,7,8]),_,rfl,h⟩
  intro xG h;refine s1 [] [0,1] [(4,Ii zG)] ?_;cases h;exact rt ry
 intro e st1 hk;rcases zC with yC | xV
 rotate_left
 ·obtain ⟨rfl,hf⟩:=hk;cases h;exact ⟨st1,Sub.refl _ _,.inr rfl,hf⟩
 obtain ⟨rfl,hs⟩:=hk;refine ⟨_,hs,?_⟩;refine s0 [] [(4,Ii (-1))] ?_;cases h;exact rt rx
theorem LX (F:Nat) (zM:List (y0)) (id_1:Int) (r:Int) (h:gG F zM id_1=some r):y5 prog 74 [] [] [Sq 2 z4 zM,Ii id_1] [] (Ii r):=by
 refine tI Try.f74 ?_;unfold gG at h;refine sE [iH 0 { id:=0 }] [(0,Sq 2 z4 zM),(3,Pp 0)] [(0,Vb 3 [Ii id_1])] 1 (sq (bE h fun zA zN h=>r2 [iK 2 { ids:=[0] } (zCp F zM id_1 zA zN)] [0,3] [(4,Ii zA)] [0] [] 1 ?_));cases h;exact rt rx
theorem zAi (F:Nat) (zM:List (y0)) (r:Int) (h:B3 F zM=some r):y5 prog 49 [] [] [Sq 2 z4 zM] [] (Ii r):=by
 refine tI Try.f49 ?_;unfold B3 at h;refine sE [] [(0,Sq 2 z4 zM)] [] 0 (sq (s0 [iN 1 z4 zM] [(5,Sq 2 z4 zM),(6,Ii (lN (zM))),(7,Ii 0)] (bE h fun zC zN h=>?_)));refine uG (K1:=kS prog zC 0 (fun q0=>mk [] [] 0) Try.f49 (fun q1=>[]) fun q1=>Ii q1) ?_ ?_
 ·replace h:=zN;refine y7 (id:=0) zk ?_;refine w0 [] [] [(0,Sq 2 z4 zM),(5,Sq 2 z4 zM),(6,Ii (lN (zM))),(7,Ii 0)] [] ?_;refine wX (fun n st=>∃ (zG:Int),st=mk [(0,Sq 2 z4 zM),(5,Sq 2 z4 zM),(6,Ii (lN (zM))),(7,Ii zG)] [] 0∧A1 F zM n zG=some zC) F zk ⟨_,rfl,h⟩ ?_ ?_
  ·rintro _ ⟨_,_,h⟩;exact wV (h:(none:Option (Unit⊕Int))=some zC)
  rintro yF _ ⟨zG,rfl,h⟩;replace h:gN F zM (A1 F zM yF) zG=some zC:=h;unfold gN at h;refine s0 [] [(8,.bool (decide (zG<(lN (zM)))))] (sq (ch 8 h ?_ ?_))
  rotate_left
  ·intro yN h;refine wQ (id:=0) zk ?_;cases h;exact ⟨rfl,(sI 0 [])⟩
  intro yN h;refine sk (sq ?_);refine y7 (id:=1) zk ?_;refine sq (bE h fun zH zU h=>r2 [iH 3 { id:=0 },iF 1 z4 zU] [] [(3,Ii zG),(4,Pp 0)] [] [(0,Vb 83 (rB zH))] 1 (sq (ad 29 h ?_ ?_ ?_)))
  ·rcases bft (decide (zH.Id<(0:Int))) with vL | vL
   ·exact rm [iG 4 3,iH 7 Ht,iG 9 3,iH 12 Ht,iG 14 3,iH 17 Ht,iR 4 vL,iX 3,iA true,iX 3,iA true] (ort vL)
   ·rcases bft (decide (zH.Id≥(8:Int))) with w6 | w6
    ·exact rm [iH 7 Hf,iG 9 3,iH 12 Ht,iG 14 3,iH 17 Ht,iR 4 vL,iR 4 w6,iX 3,iA true] (orf vL (ort w6))
    ·rcases bft (decide (zH.Ppm<(0:Int))) with uJ | uJ
     ·exact rm [iH 7 Hf,iH 12 Hf,iG 14 3,iH 17 Ht,iR 4 vL,iR 4 w6,iR 4 uJ] (orf vL (orf w6 (ort uJ)))
     ·exact rm [iH 7 Hf,iH 12 Hf,iH 17 Hf,iR 4 vL,iR 4 w6,iR 4 uJ] (orf vL (orf w6 (orf uJ rfl)))
  ·intro xG h;refine s2 [] [0,5,4] [(2,Ii 2)] [0] [] 1 ?_;cases h;exact rt ry
  intro xG h;refine sk (sq (nE h fun y8 h=>bE h fun zA xR h=>r2 [iS 2 z4 zM (0:Int) zG (by decide) y8.1 y8.2,iK 5 {} (LX F (sub zM (0:Int) zG) zH.Id zA xR)] [4] [(36,.bool (decide (zA≥(0:Int))))] [0] [] 1 (ch 36 h ?_ ?_)))
  rotate_left
  ·intro xU h;refine sk (r0 [] [(7,Ii (zI (zG+(1:Int))))] ?_);exact ⟨_,(sI 0 [0,5,6,7]),_,rfl,h⟩
  intro xU h;refine s1 [] [0,5] [(2,Ii 4)] ?_;cases h;exact rt ry
 intro e st1 hk;rcases zC with yC | xV
 rotate_left
 ·obtain ⟨rfl,hf⟩:=hk;cases h;exact ⟨st1,Sub.refl _ _,.inr rfl,hf⟩
 obtain ⟨rfl,hs⟩:=hk;refine ⟨_,hs,?_⟩;refine s0 [] [(2,Ii 0)] ?_;cases h;exact rt rx
theorem LE (yF:Int) (r:Bool) (h:rN yF=some r):y5 prog 75 [] [] [Ii yF] [] (.bool r):=by
 refine tI Try.f75 ?_;unfold rN at h;refine sE [] [(0,Ii yF)] [] 0 (sq (am 2 (decide (yF≥(0:Int))&&decide (yF≤(1000000000000:Int))) ?_ ?_))
 ·rcases bft (decide (yF≥(0:Int))) with zR | zR
  ·exact rm [iH 5 Ht,iR 3 zR] (uI zR rfl)
  ·exact rm [iG 3 2,iH 5 Hf,iR 3 zR] (j0 zR)
 cases h;exact rt rx
theorem W5 (F:Nat) (zM:List (y0)) (zH:yQ) (r:Int) (h:DL F zM zH=some r):y5 prog 50 [] [] [Sq 2 z4 zM,z5 zH] [] (Ii r):=by
 refine tI Try.f50 ?_;unfold DL at h;refine sE [iH 0 { id:=0 }] [(0,Sq 2 z4 zM),(3,Pp 0)] [(0,Vb 73 (pH zH))] 1 (sq ?_);refine y7 (id:=0) zk ?_;refine sq (sq (bE h fun zA zN h=>r0 [iK 3 {} (LX F zM zH.A zA zN)] [(5,.bool (decide (zA<(0:Int))))] (bE h fun zC zU h=>?_)));refine x9 (mk [(3,Pp 0),(5,.bool zC)] [(0,Vb 73 (pH zH))] 1) ?_ ?_
 ·replace h:=zU;refine ch 5 h ?_ ?_
  ·intro yN h;refine sk ?_;cases h;exact ⟨rfl,(sI 1 [3,5])⟩
  intro yN h;refine bE h fun zK y8 h=>r1 [iK 3 {} (LX F zM zH.B zK y8)] [0] [(5,.bool (decide (zK<(0:Int))))] ?_;cases h;exact ⟨rfl,(sI 1 [3,5])⟩
 refine ch 5 h ?_ ?_
 ·intro xG h;refine s2 [] [3] [(4,Ii 5)] [0] [] 1 ?_;cases h;exact rt rx
 intro xG h;refine c0 [] 16 h [] ?_ ?_
 ·intro xU h;refine s2 [] [3] [(4,Ii 1)] [0] [] 1 ?_;cases h;exact rt rx
 intro xU h;refine sq (sq (bE h fun zP xR h=>r0 [iK 2 {} (LE zH.AtA zP xR)] [(22,.bool (!zP))] (ch 22 h ?_ ?_)))
 ·intro vY h;refine sk (cd 22 (!zP) ?_ ?_)
  rotate_left
  ·intro hg;exact Bool.noConfusion ((vY).symm.trans hg)
  intro _;refine s2 [] [3] [(4,Ii 2)] [0] [] 1 ?_;cases h;exact rt rx
 intro vY h;refine sq (bE h fun z0 wH h=>r0 [iK 3 {} (LE zH.AtB.Lo z0 wH)] [(22,.bool (!z0))] (ch 22 h ?_ ?_))
 ·intro uT h;refine sk (cd 22 (!z0) ?_ ?_)
  rotate_left
  ·intro hg;exact Bool.noConfusion ((uT).symm.trans hg)
  intro _;refine s2 [] [3] [(4,Ii 2)] [0] [] 1 ?_;cases h;exact rt rx
 intro uT h;refine sq (bE h fun zY vA h=>r0 [iK 3 {} (LE zH.AtB.Hi zY vA)] [(22,.bool (!zY))] (ch 22 h ?_ ?_))
 ·intro tQ h;refine sk (cd 22 (!zY) ?_ ?_)
  rotate_left
  ·intro hg;exact Bool.noConfusion ((tQ).symm.trans hg)
  intro _;refine s2 [] [3] [(4,Ii 2)] [0] [] 1 ?_;cases h;exact rt rx
 intro tQ h;refine r2 [] [3] [(22,.bool (decide (zH.AtB.Lo>zH.AtB.Hi)))] [0] [] 1 (ch 22 h ?_ ?_)
 ·intro kG h;refine s0 [] [(4,Ii 2)] ?_;cases h;exact rt rx
 intro kG h;refine sk (s0 [] [(4,Ii 0)] ?_);cases h;exact rt rx
theorem KD (F:Nat) (zM:List (y0)) (zO:List (yQ)) (r:Int) (h:gU F zM zO=some r):y5 prog 26 [] [] [Sq 2 z4 zM,Sq 5 z5 zO] [] (Ii r):=by
 refine tI Try.f26 ?_;unfold gU at h;refine sE [] [(0,Sq 2 z4 zM),(1,Sq 5 z5 zO)] [] 0 (sq (c0 [iN 1 z4 zM] 11 h [] ?_ ?_))
 ·intro yN h;refine s1 [] [0,1] [(4,Ii 8)] ?_;cases h;exact rt rx
 intro yN h;refine sk (sq (ad 19 h ?_ ?_ ?_))
 ·rcases bft (decide ((lN (zM))>(8:Int))) with zR | zR
  ·exact rm [iG 4 3,iH 7 Ht,iN 1 z4 zM,iR 4 zR] (ort zR)
  ·exact rm [iH 7 Hf,iN 1 z4 zM,iR 2 zR,iN 5 z5 zO,iR 2 zR] (orf zR rfl)
 ·intro xG h;refine s1 [] [0,1] [(4,Ii 7)] ?_;cases h;exact rt rx
 intro xG h;refine sk (sq (sq (bE h fun zH zN h=>r0 [iH 4 { b:=(decide (zH=(⟨(0:Int),(0:Int)⟩:y0))),mks:=[.int .i64,.int .i64] },iF 1 z4 zN,iC (SP:pF prog 83 [.int .i64,.int .i64]),iC (CW (f:=z4) UO zH (⟨(0:Int),(0:Int)⟩:y0):((decide (zH=(⟨(0:Int),(0:Int)⟩:y0)))=true↔AV.agg [Ii zH.Id,Ii zH.Ppm]=AV.agg [Ii 0,Ii 0]))] [(24,.bool (!(decide (zH=(⟨(0:Int),(0:Int)⟩:y0)))))] (ch 24 h ?_ ?_))))
 ·intro xU h;refine s1 [] [0,1] [(4,Ii 10)] ?_;cases h;exact rt rx
 intro xU h;refine sk (sq (sq (bE h fun zA zU h=>r0 [iK 1 {} (zAi F zM zA zU)] [(5,Ii zA)] (c0 [] 28 h [] ?_ ?_))))
 ·intro vY h;refine s1 [] [0,1] [(4,Ii zA)] ?_;cases h;exact rt rx
 intro vY h;refine sk (sq (s1 [iN 1 z5 zO] [1] [(30,Sq 5 z5 zO),(31,Ii (lN (zO))),(32,Ii 0)] (bE h fun zC y8 h=>?_)));refine uG (K1:=kS prog zC 0 (fun q0=>mk [] [] 0) Try.f26 (fun q1=>[]) fun q1=>Ii q1) ?_ ?_
 ·replace h:=y8;refine y7 (id:=0) zk ?_;refine w0 [] [] [(0,Sq 2 z4 zM),(30,Sq 5 z5 zO),(31,Ii (lN (zO))),(32,Ii 0)] [] ?_;refine wX (fun n st=>∃ (zG:Int),st=mk [(0,Sq 2 z4 zM),(30,Sq 5 z5 zO),(31,Ii (lN (zO))),(32,Ii zG)] [] 0∧C5 F zM zO n zG=some zC) F zk ⟨_,rfl,h⟩ ?_ ?_
  ·rintro _ ⟨_,_,h⟩;exact wV (h:(none:Option (Unit⊕Int))=some zC)
  rintro yF _ ⟨zG,rfl,h⟩;replace h:l8 F zM zO (C5 F zM zO yF) zG=some zC:=h;unfold l8 at h;refine s0 [] [(33,.bool (decide (zG<(lN (zO)))))] (sq (ch 33 h ?_ ?_))
  rotate_left
  ·intro uT h;refine wQ (id:=0) zk ?_;cases h;exact ⟨rfl,(sI 0 [])⟩
  intro uT h;refine sk (sq ?_);refine y7 (id:=1) zk ?_;refine sq (bE h fun yB xR h=>r2 [iH 2 { id:=0 },iF 0 z5 xR] [] [(7,Pp 0)] [] [(0,Vb 73 (pH yB))] 1 (sq (bE h fun zK wH h=>r2 [iK 2 {} (W5 F zM yB zK wH)] [7] [(8,Ii zK)] [0] [] 1 (c0 [] 40 h [] ?_ ?_))))
  rotate_left
  ·intro tQ h;refine sk (r0 [] [(32,Ii (zI (zG+(1:Int))))] ?_);exact ⟨_,(sI 0 [0,30,31,32]),_,rfl,h⟩
  intro tQ h;refine s1 [] [0,30] [(4,Ii zK)] ?_;cases h;exact rt ry
 intro e st1 hk;rcases zC with yC | xV
 rotate_left
 ·obtain ⟨rfl,hf⟩:=hk;cases h;exact ⟨st1,Sub.refl _ _,.inr rfl,hf⟩
 obtain ⟨rfl,hs⟩:=hk;refine ⟨_,hs,?_⟩;refine s0 [] [(4,Ii 0)] ?_;cases h;exact rt rx
theorem zBU (zM:y0) (zW:xH) (r:Bool) (h:HY zM zW=some r):y5 prog 40 [(.var 81 (qL zW))] [] [z4 zM,Pp 0] [(.var 81 (qL zW))] (.bool r):=by
 refine tI Try.f40 ?_;unfold HY at h;refine sE [iH 0 { id:=1 }] [(1,Pp 0),(2,Pp 1)] [(0,Vb 81 (qL zW)),(1,Vb 83 (rB zM))] 2 (s2 [] [1,2] [(3,.bool (zM.Id==zW.Domain))] [1] [] 2 ?_);cases h;exact rt rx
theorem zA2 (F:Nat) (zF:List (y0)) (zB:xH) (r:Int) (h:DC F zF zB=some r):y5 prog 61 [(.var 81 (qL zB))] [] [Sq 2 z4 zF,.fn 40 [Pp 0]] [(.var 81 (qL zB))] (Ii r):=by
 refine tI Try.f61 ?_;unfold DC at h;refine sE [] [(0,Sq 2 z4 zF),(1,.fn 40 [Pp 0])] [(0,Vb 81 (qL zB))] 1 (sq (s0 [iN 1 z4 zF] [(7,Ii (lN (zF))),(8,Ii 0)] (bE h fun zC zN h=>?_)));refine uG (K1:=kS prog zC 1 (fun q0=>mk [] [(0,Vb 81 (qL zB))] 1) Try.f61 (fun q1=>[(.var 81 (qL zB))]) fun q1=>Ii q1) ?_ ?_
 ·replace h:=zN;refine y7 (id:=0) zk ?_;refine w0 [0] [] [(0,Sq 2 z4 zF),(1,.fn 40 [Pp 0]),(7,Ii (lN (zF))),(8,Ii 0)] [(0,Vb 81 (qL zB))] ?_;refine wX (fun n st=>∃ (zG:Int),st=mk [(0,Sq 2 z4 zF),(1,.fn 40 [Pp 0]),(7,Ii (lN (zF))),(8,Ii zG)] [(0,Vb 81 (qL zB))] 1∧DJ F zF zB n zG=some zC) F zk ⟨_,rfl,h⟩ ?_ ?_
  ·rintro _ ⟨_,_,h⟩;exact wV (h:(none:Option (Unit⊕Int))=some zC)
  rintro yF _ ⟨zG,rfl,h⟩;replace h:gT F zF zB (DJ F zF zB yF) zG=some zC:=h;unfold gT at h;refine s0 [] [(9,.bool (decide (zG<(lN (zF)))))] (sq (ch 9 h ?_ ?_))
  rotate_left
  ·intro yN h;refine wQ (id:=0) zk ?_;cases h;exact ⟨rfl,(sI 1 [])⟩
  intro yN h;refine sk (sq ?_);refine y7 (id:=1) zk ?_;refine s0 [] [(5,Ii zG)] (sq (bE h fun zH zU h=>bE h fun zA y8 h=>r0 [iF 3 z4 zU,iK 5 { ids:=[0] } (zBU zH zB zA y8)] [(16,.bool zA)] (ch 16 h ?_ ?_)))
  rotate_left
  ·intro xG h;refine sk (r0 [] [(8,Ii (zI (zG+(1:Int))))] ?_);exact ⟨_,(sI 1 [0,1,7,8]),_,rfl,h⟩
  intro xG h;refine s1 [] [0,1] [(4,Ii zG)] ?_;cases h;exact rt ry
 intro e st1 hk;rcases zC with yC | xV
 rotate_left
 ·obtain ⟨rfl,hf⟩:=hk;cases h;exact ⟨st1,Sub.refl _ _,.inr rfl,hf⟩
 obtain ⟨rfl,hs⟩:=hk;refine ⟨_,hs,?_⟩;refine s0 [] [(4,Ii (-1))] ?_;cases h;exact rt rx
theorem XZ (F:Nat) (zF:List (y0)) (zB:xH) (r:Bool) (h:EM F zF zB=some r):y5 prog 39 [(.var 81 (qL zB))] [] [Sq 2 z4 zF,.fn 40 [Pp 0]] [(.var 81 (qL zB))] (.bool r):=by
 refine tI Try.f39 ?_;unfold EM at h;refine sE [] [(0,Sq 2 z4 zF),(1,.fn 40 [Pp 0])] [(0,Vb 81 (qL zB))] 1 (sq (bE h fun zA zN h=>r1 [iK 2 { ids:=[0] } (zA2 F zF zB zA zN)] [0,1] [(4,.bool (decide (zA≥(0:Int))))] ?_));cases h;exact rt rx
theorem QB (F:Nat) (zN:zT) (r:Int) (h:gE F zN=some r):y5 prog 21 [] [] [nA zN] [] (Ii r):=by
 refine tI Try.f21 ?_;unfold gE at h;refine sE [iH 0 { id:=0 }] [(1,Pp 0)] [(0,Vb 26 (vQ zN))] 1 (sq ?_);refine y7 (id:=0) zk ?_;refine c0 [iN 2 z9 zN.Threads] 10 h [] ?_ ?_
 ·intro yN h;refine s2 [] [1] [(2,Ii 8)] [0] [] 1 ?_;cases h;exact rt rx
 intro yN h;refine c0 [iN 2 z9 zN.Threads] 15 h [] ?_ ?_
 ·intro xG h;refine s2 [] [1] [(2,Ii 7)] [0] [] 1 ?_;cases h;exact rt rx
 intro xG h;refine sk (s2 [iH 0 { id:=1,mag:=false,mks:=[.int .i64] }] [] [(3,.mp 1)] [] [(1,.live (.map false [.int .i64] []))] 2 (sq (s0 [iN 2 z9 zN.Threads] [(22,Sq 3 z9 zN.Threads),(23,Ii (lN (zN.Threads))),(24,Ii 0)] (bE h fun zC zU h=>?_))));refine uG (K1:=kS prog zC 0 (fun q0=>mk [(1,Pp 0)] [(0,Vb 26 (vQ zN))] 1) Try.f21 (fun q1=>[]) fun q1=>Ii q1) ?_ ?_
 ·replace h:=zU;refine y7 (id:=1) zk ?_;refine w0 [0,1] [] [(1,Pp 0),(3,.mp 1),(22,Sq 3 z9 zN.Threads),(23,Ii (lN (zN.Threads))),(24,Ii 0)] [(0,Vb 26 (vQ zN)),(1,.live (.map false [.int .i64] []))] ?_;refine wX (fun n st=>∃ (zG:Int),∃ (zJ:List (Int×Bool)),st=mk [(1,Pp 0),(3,.mp 1),(22,Sq 3 z9 zN.Threads),(23,Ii (lN (zN.Threads))),(24,Ii zG)] [(0,Vb 26 (vQ zN)),(1,.live (.map false [.int .i64] (List.map (mpE (AV.int .i64) AV.bool) zJ)))] 2∧oQ F zN n zG zJ=some zC) F zk ⟨_,_,rfl,h⟩ ?_ ?_
  ·rintro _ ⟨_,_,_,h⟩;exact wV (h:(none:Option (Unit⊕Int))=some zC)
  rintro yF _ ⟨zG,zJ,rfl,h⟩;replace h:BG F zN (oQ F zN yF) zG zJ=some zC:=h;unfold BG at h;refine s0 [] [(25,.bool (decide (zG<(lN (zN.Threads)))))] (sq (ch 25 h ?_ ?_))
  rotate_left
  ·intro xU h;refine wQ (id:=1) zk ?_;cases h;exact ⟨rfl,(sI 1 [1])⟩
  intro xU h;refine sk (sq ?_);refine y7 (id:=2) zk ?_;refine sq (bE h fun zH y8 h=>r2 [iH 2 { id:=2 },iF 0 z9 y8] [] [(5,Pp 2)] [] [(2,Vb 81 (qL zH))] 3 (sq (sq (bE h fun zA xR h=>r0 [iK 1 {} (zBp F zH zA xR)] [(6,Ii zA)] (c0 [] 31 h [] ?_ ?_)))))
  ·intro vY h;refine s2 [] [1,3,22,5] [(2,Ii zA)] [0,1,2] [] 3 ?_;cases h;exact rt ry
  intro vY h;refine sk (sq (c0 [iH 3 { av:=(.bool ((vV zJ zH.Id).getD false)),g:=(vV zJ zH.Id).isSome },iC (JK:u9 prog 3 false [.int .i64]),iC (HU (f:=(AV.int .i64)) (g:=AV.bool) GY zJ zH.Id false:dG (List.map (mpE (AV.int .i64) AV.bool) zJ) (Ii zH.Id) (.bool false) (.bool ((vV zJ zH.Id).getD false)) (vV zJ zH.Id).isSome)] 36 h [] ?_ ?_))
  ·intro uT h;refine s2 [] [1,3,22,5] [(2,Ii 4)] [0,1,2] [] 3 ?_;cases h;exact rt ry
  intro uT h;refine sk (nE h fun wH h=>r2 [iH 3 { es:=(List.map (mpE (AV.int .i64) AV.bool) (x6 zJ zH.Id true)) },iC (JK:u9 prog 3 false [.int .i64]),iC (EB (f:=(AV.int .i64)) (g:=AV.bool) GY zJ zH.Id true:iU (List.map (mpE (AV.int .i64) AV.bool) zJ) (Ii zH.Id) (.bool true) (List.map (mpE (AV.int .i64) AV.bool) (x6 zJ zH.Id true))),iC (JD (l:=zJ) wH:((List.map (mpE (AV.int .i64) AV.bool) zJ):List (AV×AV)).length<maxLen)] [5] [] [2] [(1,.live (.map false [.int .i64] (List.map (mpE (AV.int .i64) AV.bool) (x6 zJ zH.Id true))))] 3 (r0 [] [(24,Ii (zI (zG+(1:Int))))] ?_));exact ⟨_,(sI 2 [1,3,22,23,24]),_,_,rfl,h⟩
 intro e st1 hk;rcases zC with yC | xV
 rotate_left
 ·obtain ⟨rfl,hf⟩:=hk;cases h;exact ⟨st1,Sub.refl _ _,.inr rfl,hf⟩
 obtain ⟨rfl,hs⟩:=hk;refine ⟨_,hs,?_⟩;refine sq (sq (bE h fun zK vA h=>r0 [iK 4 {} (KD F zN.Domains zN.Snaps zK vA)] [(7,Ii zK)] (c0 [] 47 h [] ?_ ?_)))
 ·intro tQ h;refine s2 [] [1] [(2,Ii zK)] [0] [] 1 ?_;cases h;exact rt rx
 intro tQ h;refine sk (sq (s0 [iN 2 z9 zN.Threads] [(50,Sq 3 z9 zN.Threads),(51,Ii (lN (zN.Threads))),(52,Ii 0)] (bE h fun zV vT h=>?_)));refine uG (K1:=kS prog zV 0 (fun q0=>mk [] [] 0) Try.f21 (fun q1=>[]) fun q1=>Ii q1) ?_ ?_
 ·replace h:=vT;refine y7 (id:=3) zk ?_;refine w0 [0] [] [(1,Pp 0),(50,Sq 3 z9 zN.Threads),(51,Ii (lN (zN.Threads))),(52,Ii 0)] [(0,Vb 26 (vQ zN))] ?_;refine wX (fun n st=>∃ (xM:Int),st=mk [(1,Pp 0),(50,Sq 3 z9 zN.Threads),(51,Ii (lN (zN.Threads))),(52,Ii xM)] [(0,Vb 26 (vQ zN))] 1∧mI F zN n xM=some zV) F zk ⟨_,rfl,h⟩ ?_ ?_
  ·rintro _ ⟨_,_,h⟩;exact wV (h:(none:Option (Unit⊕Int))=some zV)
  rintro qZ _ ⟨xM,rfl,h⟩;replace h:lQ F zN (mI F zN qZ) xM=some zV:=h;unfold lQ at h;refine s0 [] [(53,.bool (decide (xM<(lN (zN.Threads)))))] (sq (ch 53 h ?_ ?_))
  rotate_left
  ·intro kG h;refine wQ (id:=3) zk ?_;cases h;exact ⟨rfl,(sI 0 [])⟩
  intro kG h;refine sk (sq ?_);refine y7 (id:=4) zk ?_;refine sq (bE h fun yB v8 h=>r2 [iH 2 { id:=1 },iF 0 z9 v8] [] [(9,Pp 1)] [] [(1,Vb 81 (qL yB))] 2 (sq (bE h fun zP uK h=>r2 [iJ 3 { ids:=[1] } ([Sq 2 z4 zN.Domains,.fn 40 [Pp 1]]:List AV) (XZ F zN.Domains yB zP uK)] [9] [(60,.bool (!zP))] [1] [] 2 (ch 60 h ?_ ?_))))
  rotate_left
  ·intro cI h;refine sk (r0 [] [(52,Ii (zI (xM+(1:Int))))] ?_);exact ⟨_,(sI 1 [1,50,51,52]),_,rfl,h⟩
  intro cI h;refine s2 [] [1,50] [(2,Ii 5)] [0] [] 2 ?_;cases h;exact rt ry
 intro e st1 hk;rcases zV with kD | n7
 rotate_left
 ·obtain ⟨rfl,hf⟩:=hk;cases h;exact ⟨st1,Sub.refl _ _,.inr rfl,hf⟩
 obtain ⟨rfl,hs⟩:=hk;refine ⟨_,hs,?_⟩;refine s0 [] [(2,Ii 0)] ?_;cases h;exact rt rx
theorem YQ (yF:Int) (r:Int) (h:CY yF=some r):y5 prog 58 [] [] [Ii yF] [] (.int .u64 r):=by
 refine tI Try.f58 ?_;unfold CY at h;refine sE [] [(0,Ii yF)] [] 0 (s0 [iC (by decide:(0:Int)≤(1:Int)),iC (by decide:(0:Int)≤(63:Int))] [(2,.int .u64 (tX .u64 (pL .u64 (jH yF) (1:Int)) (jH (qD .i64 yF (63:Int)))))] ?_);cases h;exact rt rx
theorem jP (F:Nat) (zE:List (Int)) (yF:Int) (r:(List (Int))) (h:uY F zE yF=some r):y5 prog 36 [] [] [Sb zE,Ii yF] [.row 5 1 (Mb r)] (.own 0 ((r).length)):=by
 refine tI Try.f36 ?_;unfold uY at h;refine sE [iH 0 { id:=0,m:=1 }] [(0,Sb zE),(1,Ii yF)] [] 1 (s2 [iH 0 { b:=true,id:=1 }] [] [(5,Pp 1)] [] [(1,Rb 123 1 (Mb (List.replicate 10 (0:Int))))] 2 (s0 [] [(6,Ii 0)] (sq (sq (bE h fun zA zN h=>r0 [iK 1 {} (YQ yF zA zN)] [(7,.int .u64 zA)] (bE h fun zC zU h=>?_))))));refine x9 (mk [(0,Sb zE),(5,Pp 0),(6,Ii zC.1)] [(0,Rb 123 1 (Mb zC.2))] 1) ?_ ?_
 ·replace h:=zU;refine y7 (id:=0) zk ?_;refine w0 [1] [] [(0,Sb zE),(5,Pp 0),(6,Ii 0),(7,.int .u64 zA)] [(0,Rb 123 1 (Mb (List.replicate 10 (0:Int))))] ?_;refine wX (fun n st=>∃ (wD:Int),∃ (vC:Int),∃ (zJ:List Int),st=mk [(0,Sb zE),(5,Pp 0),(6,Ii wD),(7,.int .u64 vC)] [(0,Rb 123 1 (Mb zJ))] 1∧fD F n wD vC zJ=some zC) F zk ⟨_,_,_,rfl,h⟩ ?_ ?_
  ·rintro _ ⟨_,_,_,_,h⟩;exact wV (h:(none:Option (Int×(List Int)))=some zC)
  rintro qZ _ ⟨wD,vC,zJ,rfl,h⟩;replace h:lS F (fD F qZ) wD vC zJ=some zC:=h;unfold lS at h;refine sq ?_;refine y7 (id:=1) zk ?_;refine sq (nE h fun y8 h=>bE h fun zH xR h=>r2 [iH 4 Ht,iH 5 { av:=Iu zH,l:=(Mb ((zJ).set ((wD).toNat) (kN (uF .u64 vC (127:Int))))) },iC y8.1,iC y8.2,iC (JZ xR:(Mb zJ)[(wD).toNat]?=some (Iu zH)),iC (r5 _ _ _:(Mb ((zJ).set ((wD).toNat) (kN (uF .u64 vC (127:Int)))))=List.set (Mb zJ) ((wD).toNat) (bN (Iu zH) 0 [Iu (kN (uF .u64 vC (127:Int)))]))] [] [] [] [(0,Rb 123 1 (Mb ((zJ).set ((wD).toNat) (kN (uF .u64 vC (127:Int))))))] 1 (s0 [] [(6,Ii (zI (wD+(1:Int))))] (sq (c0 [] 20 h [] ?_ ?_))))
  ·intro yN h;refine wQ (id:=0) zk ?_;cases h;exact ⟨rfl,(sI 1 [0,5,6])⟩
  intro yN h;refine sk (nE h fun wH h=>bE h fun yB vA h=>nE h fun vT h=>bE h fun xX v8 h=>r2 [iH 2 Ht,iH 3 { av:=Iu yB },iH 5 Ht,iH 6 { av:=Iu xX,l:=(Mb (((zJ).set ((wD).toNat) (kN (uF .u64 vC (127:Int)))).set ((zI ((zI (wD+(1:Int))) - (1:Int))).toNat) (ior .u8 yB (128:Int)))) },iC wH.1,iC wH.2,iC (JZ vA:(Mb ((zJ).set ((wD).toNat) (kN (uF .u64 vC (127:Int)))))[(zI ((zI (wD+(1:Int))) - (1:Int))).toNat]?=some (Iu yB)),iC vT.1,iC vT.2,iC (JZ v8:(Mb ((zJ).set ((wD).toNat) (kN (uF .u64 vC (127:Int)))))[(zI ((zI (wD+(1:Int))) - (1:Int))).toNat]?=some (Iu xX)),iC (r5 _ _ _:(Mb (((zJ).set ((wD).toNat) (kN (uF .u64 vC (127:Int)))).set ((zI ((zI (wD+(1:Int))) - (1:Int))).toNat) (ior .u8 yB (128:Int))))=List.set (Mb ((zJ).set ((wD).toNat) (kN (uF .u64 vC (127:Int))))) ((zI ((zI (wD+(1:Int))) - (1:Int))).toNat) (bN (Iu xX) 0 [Iu (ior .u8 yB (128:Int))]))] [] [] [] [(0,Rb 123 1 (Mb (((zJ).set ((wD).toNat) (kN (uF .u64 vC (127:Int)))).set ((zI ((zI (wD+(1:Int))) - (1:Int))).toNat) (ior .u8 yB (128:Int)))))] 1 (r0 [iC (by decide:(0:Int)≤(7:Int))] [(7,.int .u64 (qD .u64 vC (7:Int)))] ?_));exact ⟨_,(sI 1 [0,5,6,7]),_,_,_,rfl,h⟩
 refine sq (nE h fun uK h=>nE h fun u0 h=>nE h fun tB h=>nE h fun qH h=>r2 [iH 5 { l:=(Mb (sub zE (0:Int) (lN (zE)))) },iH 8 { dep:=true,id:=1,l:=(Mb ((sub zE (0:Int) (lN (zE)))++(((zC.2).take ((zC.1).toNat)).drop 0))),n:=(((sub zE (0:Int) (lN (zE)))++(((zC.2).take ((zC.1).toNat)).drop 0))).length },iN 2 Fb zE,iN 4 Fb zE,i0,iC (Int.natCast_nonneg _:(0:Int)≤(lN (zE))),iC (M1 (Int.le_refl _):(lN (zE))≤(lN ((Mb zE)))),iA (lN (zE)),iC (TD _ _ _:(Mb (sub zE (0:Int) (lN (zE))))=(((Mb zE)).take ((lN (zE))).toNat).drop ((0:Int)).toNat),i0,iC uK.1,iC uK.2.1,iC (GJ uK.2.2:10≤((Mb zC.2)).length),iC (GJ u0.2:((zC.1).toNat)≤((Mb zC.2)).length),iC u0.1,iC (zDG _ _ _ _:(Mb ((sub zE (0:Int) (lN (zE)))++(((zC.2).take ((zC.1).toNat)).drop 0)))=(Mb (sub zE (0:Int) (lN (zE))))++(((Mb zC.2)).take ((zC.1).toNat)).drop 0),iC (by first | (simp;done) | simpa using tB:(((List.map (AV.int .u8) (sub zE (0:Int) (((zE).length:Nat):Int))):List AV).length+((((List.map (AV.int .u8) zC.2)).take ((zC.1).toNat)).drop 0:List AV).length) * 1≤140737488355328),iC (by first | (simp;done) | simpa using qH:0<((((List.map (AV.int .u8) zC.2)).take ((zC.1).toNat)).drop 0:List AV).length∨((List.map (AV.int .u8) (sub zE (0:Int) (((zE).length:Nat):Int))):List AV).length=0),iC (by simp:(((sub zE (0:Int) (((zE).length:Nat):Int))++(((zC.2).take ((zC.1).toNat)).drop 0))).length=((List.map (AV.int .u8) ((sub zE (0:Int) (((zE).length:Nat):Int))++(((zC.2).take ((zC.1).toNat)).drop 0)))).length)] [0,5] [(4,.own 1 ((((sub zE (0:Int) (lN (zE)))++(((zC.2).take ((zC.1).toNat)).drop 0))).length))] [0] [(1,Rb 5 1 (Mb ((sub zE (0:Int) (lN (zE)))++(((zC.2).take ((zC.1).toNat)).drop 0))))] 2 (w0 [1] [] [(4,.own 0 ((((sub zE (0:Int) (lN (zE)))++(((zC.2).take ((zC.1).toNat)).drop 0))).length))] [(0,Rb 5 1 (Mb ((sub zE (0:Int) (lN (zE)))++(((zC.2).take ((zC.1).toNat)).drop 0))))] ?_));cases h;exact rt rx
theorem TC (F:Nat) (zE:List (Int)) (zF:List Int) (r:(List (Int))) (h:rA F zE zF=some r):y5 prog 42 [] [] [Sb zE,.str zF] [.row 5 1 (Mb r)] (.own 0 ((r).length)):=by
 refine tI Try.f42 ?_;unfold rA at h;refine sE [iH 0 { id:=0,m:=1 }] [(0,Sb zE),(1,.str zF)] [] 1 (sq (bE h fun zA zN h=>r2 [iK 3 { ids:=[1] } (jP F zE (lN (zF)) zA zN)] [0] [(5,.own 1 ((zA).length))] [] [(1,Rb 5 1 (Mb zA))] 2 (sq (nE h fun zU h=>r2 [iH 5 { id:=2,l:=(Mb (List.replicate ((zI ((lN (zA))+(lN (zF)))).toNat) (0:Int))),m:=(zI ((lN (zA))+(lN (zF)))).toNat,n:=(zI ((lN (zA))+(lN (zF)))).toNat },iC ((Int.toNat_of_nonneg zU.1).symm:zI ((lN (zA))+(lN (zF)))=(((zI ((lN (zA))+(lN (zF)))).toNat:Nat):Int)),iC ((Int.toNat_of_nonneg zU.1).symm:zI ((lN (zA))+(lN (zF)))=(((zI ((lN (zA))+(lN (zF)))).toNat:Nat):Int)),iC (Nat.le_refl _:((zI ((lN (zA))+(lN (zF)))).toNat)≤((zI ((lN (zA))+(lN (zF)))).toNat)),iC zU.2,iC (RD:(Mb (List.replicate ((zI ((lN (zA))+(lN (zF)))).toNat) (0:Int)))=List.replicate ((zI ((lN (zA))+(lN (zF)))).toNat) (Iu 0))] [] [(6,.own 2 ((zI ((lN (zA))+(lN (zF)))).toNat))] [] [(2,Rb 5 1 (Mb (List.replicate ((zI ((lN (zA))+(lN (zF)))).toNat) (0:Int))))] 3 (sq (nE h fun y8 h=>r2 [iH 2 { l:=(Mb (cpy (List.replicate ((zI ((lN (zA))+(lN (zF)))).toNat) (0:Int)) 0 ((zI ((lN (zA))+(lN (zF)))).toNat) zA)),n:=(min (zA).length ((zI ((lN (zA))+(lN (zF)))).toNat - 0)) },iM Fb zA,iC y8.1,iC (GJ y8.2:((zI ((lN (zA))+(lN (zF)))).toNat)≤((Mb (List.replicate ((zI ((lN (zA))+(lN (zF)))).toNat) (0:Int)))).length),iC (by simp:(min (zA).length ((zI ((((zA).length:Nat):Int)+(((zF).length:Nat):Int))).toNat - 0))=min ((List.map (AV.int .u8) zA):List AV).length ((zI ((((zA).length:Nat):Int)+(((zF).length:Nat):Int))).toNat - 0)),iC (by simp [cpy]:(List.map (AV.int .u8) (cpy (List.replicate ((zI ((((zA).length:Nat):Int)+(((zF).length:Nat):Int))).toNat) (0:Int)) 0 ((zI ((((zA).length:Nat):Int)+(((zF).length:Nat):Int))).toNat) zA))=((List.map (AV.int .u8) (List.replicate ((zI ((((zA).length:Nat):Int)+(((zF).length:Nat):Int))).toNat) (0:Int)))).take 0++((List.map (AV.int .u8) zA):List AV).take (min (zA).length ((zI ((((zA).length:Nat):Int)+(((zF).length:Nat):Int))).toNat - 0))++((List.map (AV.int .u8) (List.replicate ((zI ((((zA).length:Nat):Int)+(((zF).length:Nat):Int))).toNat) (0:Int)))).drop (0+(min (zA).length ((zI ((((zA).length:Nat):Int)+(((zF).length:Nat):Int))).toNat - 0))))] [] [] [] [(2,Rb 5 1 (Mb (cpy (List.replicate ((zI ((lN (zA))+(lN (zF)))).toNat) (0:Int)) 0 ((zI ((lN (zA))+(lN (zF)))).toNat) zA)))] 3 (sq (nE h fun xR h=>nE h fun wH h=>r2 [iH 5 { l:=(Mb (cpy (cpy (List.replicate ((zI ((lN (zA))+(lN (zF)))).toNat) (0:Int)) 0 ((zI ((lN (zA))+(lN (zF)))).toNat) zA) ((zA).length) ((zI ((lN (zA))+(lN (zF)))).toNat) zF)),n:=(min (zF).length ((zI ((lN (zA))+(lN (zF)))).toNat - (zA).length)) },iC (Int.natCast_nonneg _:(0:Int)≤(lN (zA))),iC xR,iC (Int.le_refl _:(((zI ((lN (zA))+(lN (zF)))).toNat:Nat):Int)≤(((zI ((lN (zA))+(lN (zF)))).toNat:Nat):Int)),iC trivial,iC wH.1,iC (GJ wH.2:((zI ((lN (zA))+(lN (zF)))).toNat)≤((Mb (cpy (List.replicate ((zI ((lN (zA))+(lN (zF)))).toNat) (0:Int)) 0 ((zI ((lN (zA))+(lN (zF)))).toNat) zA))).length),iC (by simp:(min (zF).length ((zI ((((zA).length:Nat):Int)+(((zF).length:Nat):Int))).toNat - (zA).length))=min ((List.map (AV.int .u8) zF):List AV).length ((zI ((((zA).length:Nat):Int)+(((zF).length:Nat):Int))).toNat - (zA).length)),iC (by simp [cpy]:(List.map (AV.int .u8) (cpy (cpy (List.replicate ((zI ((((zA).length:Nat):Int)+(((zF).length:Nat):Int))).toNat) (0:Int)) 0 ((zI ((((zA).length:Nat):Int)+(((zF).length:Nat):Int))).toNat) zA) ((zA).length) ((zI ((((zA).length:Nat):Int)+(((zF).length:Nat):Int))).toNat) zF))=((List.map (AV.int .u8) (cpy (List.replicate ((zI ((((zA).length:Nat):Int)+(((zF).length:Nat):Int))).toNat) (0:Int)) 0 ((zI ((((zA).length:Nat):Int)+(((zF).length:Nat):Int))).toNat) zA))).take ((zA).length)++((List.map (AV.int .u8) zF):List AV).take (min (zF).length ((zI ((((zA).length:Nat):Int)+(((zF).length:Nat):Int))).toNat - (zA).length))++((List.map (AV.int .u8) (cpy (List.replicate ((zI ((((zA).length:Nat):Int)+(((zF).length:Nat):Int))).toNat) (0:Int)) 0 ((zI ((((zA).length:Nat):Int)+(((zF).length:Nat):Int))).toNat) zA))).drop ((zA).length+(min (zF).length ((zI ((((zA).length:Nat):Int)+(((zF).length:Nat):Int))).toNat - (zA).length))))] [5] [] [1] [(2,Rb 5 1 (Mb (cpy (cpy (List.replicate ((zI ((lN (zA))+(lN (zF)))).toNat) (0:Int)) 0 ((zI ((lN (zA))+(lN (zF)))).toNat) zA) ((zA).length) ((zI ((lN (zA))+(lN (zF)))).toNat) zF)))] 3 (s1 [] [6] [(4,.own 2 ((zI ((lN (zA))+(lN (zF)))).toNat))] (wz [2] [] [4] [] [(4,.own 0 (((cpy (cpy (List.replicate ((zI ((lN (zA))+(lN (zF)))).toNat) (0:Int)) 0 ((zI ((lN (zA))+(lN (zF)))).toNat) zA) ((zA).length) ((zI ((lN (zA))+(lN (zF)))).toNat) zF)).length))] [(0,Rb 5 1 (Mb (cpy (cpy (List.replicate ((zI ((lN (zA))+(lN (zF)))).toNat) (0:Int)) 0 ((zI ((lN (zA))+(lN (zF)))).toNat) zA) ((zA).length) ((zI ((lN (zA))+(lN (zF)))).toNat) zF)))] (ac (congrArg (AV.own _) ((VS wH.1 wH.2).trans ((VS y8.1 y8.2).trans List.length_replicate)).symm:(.own 2 ((zI ((lN (zA))+(lN (zF)))).toNat):AV)=.own 2 (((cpy (cpy (List.replicate ((zI ((lN (zA))+(lN (zF)))).toNat) (0:Int)) 0 ((zI ((lN (zA))+(lN (zF)))).toNat) zA) ((zA).length) ((zI ((lN (zA))+(lN (zF)))).toNat) zF)).length)) an) ?_))))))))));cases h;exact rt rx
theorem KL (F:Nat) (zE:List (Int)) (zF:yQ) (r:(List (Int))) (h:gW F zE zF=some r):y5 prog 43 [] [] [Sb zE,z5 zF] [] (Sb r):=by
 refine tI Try.f43 ?_;unfold gW at h;refine sE [iH 0 { id:=0 }] [(0,Sb zE),(3,Pp 0)] [(0,Vb 73 (pH zF))] 1 (sq (s2 [iH 12 { id:=1 }] [3] [(19,.own 1 5),(20,Ii ((5:Nat):Int)),(21,Ii 0)] [0] [(1,Rb 3 1 (Mi ([zF.A,zF.AtA,zF.B,zF.AtB.Lo,zF.AtB.Hi]:List Int)))] 2 (bE h fun zC zN h=>?_)));refine x9 (mk [(0,Sb zC)] [] 0) ?_ ?_
 ·replace h:=zN;refine y7 (id:=0) zk ?_;refine wz [1] [] [19] [] [(0,Sb zE),(19,.own 0 ((([zF.A,zF.AtA,zF.B,zF.AtB.Lo,zF.AtB.Hi]:List Int)).length)),(20,Ii ((5:Nat):Int)),(21,Ii 0)] [(0,Rb 3 1 (Mi ([zF.A,zF.AtA,zF.B,zF.AtB.Lo,zF.AtB.Hi]:List Int)))] (ac (congrArg (AV.own _) (by first | (simp;done) | (simp;omega)):(.own 1 5:AV)=.own 1 ((([zF.A,zF.AtA,zF.B,zF.AtB.Lo,zF.AtB.Hi]:List Int)).length)) an) ?_;refine wX (fun n st=>∃ (cG:List Int),∃ (zG:Int),st=mk [(0,Sb cG),(19,.own 0 ((([zF.A,zF.AtA,zF.B,zF.AtB.Lo,zF.AtB.Hi]:List Int)).length)),(20,Ii ((5:Nat):Int)),(21,Ii zG)] [(0,Rb 3 1 (Mi ([zF.A,zF.AtA,zF.B,zF.AtB.Lo,zF.AtB.Hi]:List Int)))] 1∧lA F zF n cG zG=some zC) F zk ⟨_,_,rfl,h⟩ ?_ ?_
  ·rintro _ ⟨_,_,_,h⟩;exact wV (h:(none:Option (List Int))=some zC)
  rintro yF _ ⟨cG,zG,rfl,h⟩;replace h:mC F zF (lA F zF yF) cG zG=some zC:=h;unfold mC at h;refine s0 [] [(22,.bool (decide (zG<((5:Nat):Int))))] (sq (ch 22 h ?_ ?_))
  rotate_left
  ·intro yN h;refine wQ (id:=0) zk ?_;cases h;exact ⟨rfl,(sI 0 [0])⟩
  intro yN h;refine sk (sq ?_);refine y7 (id:=1) zk ?_;refine sq (bE h fun zH zU h=>r0 [iH 1 { av:=Ii zH },iC (kZ zU:(0:Int)≤zG),iC (by first | (simp;done) | simpa using kY zU:zG<(((([zF.A,zF.AtA,zF.B,zF.AtB.Lo,zF.AtB.Hi]:List Int)).length:Nat):Int)),iC (kP zU:(Mi ([zF.A,zF.AtA,zF.B,zF.AtB.Lo,zF.AtB.Hi]:List Int))[(zG).toNat]?=some (Ii zH))] [(6,Ii zH)] (bE h fun zA y8 h=>r2 [iK 2 { ids:=[1] } (jP F cG zH zA y8)] [] [(0,.own 1 ((zA).length))] [] [(1,Rb 5 1 (Mb zA))] 2 (r0 [] [(21,Ii (zI (zG+(1:Int))))] ?_)));exact ⟨_,(Sub.trans (fO [0] [1] [.a 0 (Sb zA),.s 19,.s 20,.s 21] [.s 0] (sl2:=[(0,Sb zA),(19,.own 0 ((([zF.A,zF.AtA,zF.B,zF.AtB.Lo,zF.AtB.Hi]:List Int)).length)),(20,Ii ((5:Nat):Int)),(21,Ii (zI (zG+(1:Int))))]) (bx2:=[(0,Rb 3 1 (Mi ([zF.A,zF.AtA,zF.B,zF.AtB.Lo,zF.AtB.Hi]:List Int)))]) zk (ac (by first | (simp;done) | (simp;omega):(zA).length=((List.map (AV.int .u8) zA)).length) (ar 1 (ar ((Mb zA):List AV) (ac (rfl:(!false||false)=true) an))))) (sI 1 [0,19,20,21])),_,_,rfl,h⟩
 refine s1 [] [0] [(4,Sb zC)] ?_;cases h;exact rt rx
theorem R3 (F:Nat) (zN:zT) (r:(List (Int))) (h:rH F zN=some r):y5 prog 23 [] [] [nA zN] [] (Sb r):=by
 refine tI Try.f23 ?_;unfold rH at h;refine sE [iH 0 { id:=0 }] [(1,Pp 0)] [(0,Vb 26 (vQ zN))] 1 (sq (bE h fun zA zU h=>r2 [iN 2 z9 zN.Threads,iL 3 { ids:=[1] } [.nilsl,Ii (lN (zN.Threads))] (jP F [] (lN (zN.Threads)) zA zU) ⟨rfl,rfl,trivial⟩] [] [(3,.own 1 ((zA).length))] [] [(1,Rb 5 1 (Mb zA))] 2 (sq (s0 [iN 2 z9 zN.Threads] [(15,Sq 3 z9 zN.Threads),(16,Ii (lN (zN.Threads))),(17,Ii 0)] (bE h fun zC y8 h=>?_)))));refine x9 (mk [(1,Pp 0),(3,.own 1 ((zC).length))] [(0,Vb 26 (vQ zN)),(1,Rb 5 1 (Mb zC))] 2) ?_ ?_
 ·replace h:=y8;refine y7 (id:=0) zk ?_;refine w0 [0,1] [] [(1,Pp 0),(3,.own 1 ((zA).length)),(15,Sq 3 z9 zN.Threads),(16,Ii (lN (zN.Threads))),(17,Ii 0)] [(0,Vb 26 (vQ zN)),(1,Rb 5 1 (Mb zA))] ?_;refine wX (fun n st=>∃ (zG:Int),∃ (zJ:List Int),st=mk [(1,Pp 0),(3,.own 1 ((zJ).length)),(15,Sq 3 z9 zN.Threads),(16,Ii (lN (zN.Threads))),(17,Ii zG)] [(0,Vb 26 (vQ zN)),(1,Rb 5 1 (Mb zJ))] 2∧gF F zN n zG zJ=some zC) F zk ⟨_,_,rfl,h⟩ ?_ ?_
  ·rintro _ ⟨_,_,_,h⟩;exact wV (h:(none:Option (List Int))=some zC)
  rintro yF _ ⟨zG,zJ,rfl,h⟩;replace h:AD F zN (gF F zN yF) zG zJ=some zC:=h;unfold AD at h;refine s0 [] [(18,.bool (decide (zG<(lN (zN.Threads)))))] (sq (ch 18 h ?_ ?_))
  rotate_left
  ·intro yN h;refine wQ (id:=0) zk ?_;cases h;exact ⟨rfl,(sI 2 [1,3])⟩
  intro yN h;refine sk (sq ?_);refine y7 (id:=1) zk ?_;refine sq (bE h fun zH xR h=>r2 [iH 2 { id:=2 },iF 0 z9 xR] [] [(5,Pp 2)] [] [(2,Vb 81 (qL zH))] 3 (bE h fun zK wH h=>bE h fun zP vA h=>bE h fun z0 vT h=>r2 [iM Fb zJ,iK 3 { frz:=[1],ids:=[3] } (jP F zJ zH.Id zK wH),iM Fb zK,iK 6 { frz:=[3],ids:=[4] } (TC F zK zH.Name zP vA),iM Fb zP,iK 9 { frz:=[4],ids:=[5] } (jP F zP zH.Domain z0 vT)] [5] [(3,.own 5 ((z0).length))] [1,2] [(5,Rb 5 1 (Mb z0))] 6 (r0 [] [(17,Ii (zI (zG+(1:Int))))] ?_)));exact ⟨_,(sJ [0,5] [1,3,15,16,17]),_,_,rfl,h⟩
 refine sq (bE h fun zY v8 h=>r2 [iN 3 z4 zN.Domains,iM Fb zC,iK 4 { frz:=[1],ids:=[2] } (jP F zC (lN (zN.Domains)) zY v8)] [] [(3,.own 2 ((zY).length))] [1] [(2,Rb 5 1 (Mb zY))] 3 (sq (s0 [iN 2 z4 zN.Domains] [(38,Sq 2 z4 zN.Domains),(39,Ii (lN (zN.Domains))),(40,Ii 0)] (bE h fun zV uK h=>?_))));refine x9 (mk [(1,Pp 0),(3,.own 1 ((zV).length))] [(0,Vb 26 (vQ zN)),(1,Rb 5 1 (Mb zV))] 2) ?_ ?_
 ·replace h:=uK;refine y7 (id:=2) zk ?_;refine w0 [0,2] [] [(1,Pp 0),(3,.own 1 ((zY).length)),(38,Sq 2 z4 zN.Domains),(39,Ii (lN (zN.Domains))),(40,Ii 0)] [(0,Vb 26 (vQ zN)),(1,Rb 5 1 (Mb zY))] ?_;refine wX (fun n st=>∃ (xM:Int),∃ (z7:List Int),st=mk [(1,Pp 0),(3,.own 1 ((z7).length)),(38,Sq 2 z4 zN.Domains),(39,Ii (lN (zN.Domains))),(40,Ii xM)] [(0,Vb 26 (vQ zN)),(1,Rb 5 1 (Mb z7))] 2∧AC F zN n xM z7=some zV) F zk ⟨_,_,rfl,h⟩ ?_ ?_
  ·rintro _ ⟨_,_,_,h⟩;exact wV (h:(none:Option (List Int))=some zV)
  rintro qZ _ ⟨xM,z7,rfl,h⟩;replace h:BO F zN (AC F zN qZ) xM z7=some zV:=h;unfold BO at h;refine s0 [] [(41,.bool (decide (xM<(lN (zN.Domains)))))] (sq (ch 41 h ?_ ?_))
  rotate_left
  ·intro xG h;refine wQ (id:=2) zk ?_;cases h;exact ⟨rfl,(sI 2 [1,3])⟩
  intro xG h;refine sk (sq ?_);refine y7 (id:=3) zk ?_;refine sq (bE h fun yB u0 h=>r2 [iH 2 { id:=2 },iF 0 z4 u0] [] [(7,Pp 2)] [] [(2,Vb 83 (rB yB))] 3 (bE h fun yV tB h=>bE h fun xK qH h=>r2 [iM Fb z7,iK 3 { frz:=[1],ids:=[3] } (jP F z7 yB.Id yV tB),iM Fb yV,iK 6 { frz:=[3],ids:=[4] } (jP F yV yB.Ppm xK qH)] [7] [(3,.own 4 ((xK).length))] [1,2] [(4,Rb 5 1 (Mb xK))] 5 (r0 [] [(40,Ii (zI (xM+(1:Int))))] ?_)));exact ⟨_,(sJ [0,4] [1,3,38,39,40]),_,_,rfl,h⟩
 refine sq (bE h fun yX jR h=>r2 [iN 3 z5 zN.Snaps,iM Fb zV,iK 4 { frz:=[1],ids:=[2] } (jP F zV (lN (zN.Snaps)) yX jR)] [] [(3,.own 2 ((yX).length))] [1] [(2,Rb 5 1 (Mb yX))] 3 (sq (s2 [iN 2 z5 zN.Snaps] [1] [(58,Sq 5 z5 zN.Snaps),(59,Ii (lN (zN.Snaps))),(60,Ii 0)] [0] [] 3 (bE h fun yZ qO h=>?_))));refine x9 (mk [(3,Sb yZ)] [] 0) ?_ ?_
 ·replace h:=qO;refine y7 (id:=4) zk ?_;refine wz [] [2] [3] [] [(3,Sb yX),(58,Sq 5 z5 zN.Snaps),(59,Ii (lN (zN.Snaps))),(60,Ii 0)] [] (ac (by first | (simp;done) | (simp;omega):(yX).length=((List.map (AV.int .u8) yX)).length) (ar 1 (ar ((Mb yX):List AV) (ar true an)))) (w0 [] [] [(3,Sb yX),(58,Sq 5 z5 zN.Snaps),(59,Ii (lN (zN.Snaps))),(60,Ii 0)] [] ?_);refine wX (fun n st=>∃ (zE:List Int),∃ (wR:Int),st=mk [(3,Sb zE),(58,Sq 5 z5 zN.Snaps),(59,Ii (lN (zN.Snaps))),(60,Ii wR)] [] 0∧mN F zN n zE wR=some yZ) F zk ⟨_,_,rfl,h⟩ ?_ ?_
  ·rintro _ ⟨_,_,_,h⟩;exact wV (h:(none:Option (List Int))=some yZ)
  rintro qX _ ⟨zE,wR,rfl,h⟩;replace h:B6 F zN (mN F zN qX) zE wR=some yZ:=h;unfold B6 at h;refine s0 [] [(61,.bool (decide (wR<(lN (zN.Snaps)))))] (sq (ch 61 h ?_ ?_))
  rotate_left
  ·intro xU h;refine wQ (id:=4) zk ?_;cases h;exact ⟨rfl,(sI 0 [3])⟩
  intro xU h;refine sk (sq ?_);refine y7 (id:=5) zk ?_;refine sq (bE h fun xX kH h=>r2 [iH 2 { id:=0 },iF 0 z5 kH] [] [(9,Pp 0)] [] [(0,Vb 73 (pH xX))] 1 (bE h fun yM aB h=>r2 [iK 2 {} (KL F zE xX yM aB)] [9] [(3,Sb yM)] [0] [] 1 (r0 [] [(60,Ii (zI (wR+(1:Int))))] ?_)));exact ⟨_,(sI 0 [3,58,59,60]),_,_,rfl,h⟩
 refine s1 [] [3] [(2,Sb yZ)] ?_;cases h;exact rt rx
theorem YH (F:Nat) (zE:List (Int)) (r:Int) (h:AP F zE=some r):y5 prog 59 [] [] [Sb zE] [] (Ii r):=by
 refine tI Try.f59 ?_;unfold AP at h;refine sE [] [(0,Sb zE)] [] 0 (s0 [] [(3,.int .u32 (4294967295:Int))] (sq (s1 [iN 1 Fb zE] [0] [(7,Sb zE),(8,Ii (lN (zE))),(9,Ii 0)] (bE h fun zC zN h=>?_))));refine x9 (mk [(3,.int .u32 zC)] [] 0) ?_ ?_
 ·replace h:=zN;refine y7 (id:=0) zk ?_;refine w0 [] [] [(3,.int .u32 (4294967295:Int)),(7,Sb zE),(8,Ii (lN (zE))),(9,Ii 0)] [] ?_;refine wX (fun n st=>∃ (zH:Int),∃ (zG:Int),st=mk [(3,.int .u32 zH),(7,Sb zE),(8,Ii (lN (zE))),(9,Ii zG)] [] 0∧lI F zE n zH zG=some zC) F zk ⟨_,_,rfl,h⟩ ?_ ?_
  ·rintro _ ⟨_,_,_,h⟩;exact wV (h:(none:Option Int)=some zC)
  rintro yF _ ⟨zH,zG,rfl,h⟩;replace h:AM F zE (lI F zE yF) zH zG=some zC:=h;unfold AM at h;refine s0 [] [(10,.bool (decide (zG<(lN (zE)))))] (sq (ch 10 h ?_ ?_))
  rotate_left
  ·intro yN h;refine wQ (id:=0) zk ?_;cases h;exact ⟨rfl,(sI 0 [3])⟩
  intro yN h;refine sk (sq ?_);refine y7 (id:=1) zk ?_;refine sq (bE h fun yB zU h=>r0 [iF 0 Fb zU] [(5,Iu yB)] (s0 [] [(3,.int .u32 (tX .u32 zH (AL yB)))] (s0 [] [(17,Ii 0)] (bE h fun zV y8 h=>?_))));refine x9 (mk [(3,.int .u32 zV),(7,Sb zE),(8,Ii (lN (zE))),(9,Ii zG)] [] 0) ?_ ?_
  ·replace h:=y8;refine y7 (id:=2) zk ?_;refine w0 [] [] [(3,.int .u32 (tX .u32 zH (AL yB))),(7,Sb zE),(8,Ii (lN (zE))),(9,Ii zG),(17,Ii 0)] [] ?_;refine wX (fun n st=>∃ (xX:Int),∃ (xM:Int),st=mk [(3,.int .u32 xX),(7,Sb zE),(8,Ii (lN (zE))),(9,Ii zG),(17,Ii xM)] [] 0∧fR F n xX xM=some zV) F zk ⟨_,_,rfl,h⟩ ?_ ?_
   ·rintro _ ⟨_,_,_,h⟩;exact wV (h:(none:Option Int)=some zV)
   rintro qZ _ ⟨xX,xM,rfl,h⟩;replace h:gO F (fR F qZ) xX xM=some zV:=h;unfold gO at h;refine s0 [] [(18,.bool (decide (xM<(8:Int))))] (sq (ch 18 h ?_ ?_))
   rotate_left
   ·intro xG h;refine wQ (id:=2) zk ?_;cases h;exact ⟨rfl,(sI 0 [3,7,8,9])⟩
   intro xG h;refine sk (sq ?_);refine y7 (id:=3) zk ?_;refine s0 [] [(6,.int .u32 (uF .u32 xX (1:Int)))] (s0 [iC (by decide:(0:Int)≤(1:Int))] [(3,.int .u32 (qD .u32 xX (1:Int)))] (c0 [] 24 h [] ?_ ?_))
   ·intro xU h;refine r0 [] [(3,.int .u32 (tX .u32 (qD .u32 xX (1:Int)) (3988292384:Int)))] (r0 [] [(17,Ii (zI (xM+(1:Int))))] ?_);exact ⟨_,(sI 0 [3,7,8,9,17]),_,_,rfl,h⟩
   intro xU h;refine sk (r0 [] [(17,Ii (zI (xM+(1:Int))))] ?_);exact ⟨_,(sI 0 [3,7,8,9,17]),_,_,rfl,h⟩
  refine r0 [] [(9,Ii (zI (zG+(1:Int))))] ?_;exact ⟨_,(sI 0 [3,7,8,9]),_,_,rfl,h⟩
 refine s0 [] [(2,Ii (zI (tX .u32 (4294967295:Int) zC)))] ?_;cases h;exact rt rx
theorem QV (F:Nat) (j7:Int) (zE:List (Int)) (r:Int) (h:mQ F j7 zE=some r):y5 prog 37 [] [] [Iu j7,Sb zE] [] (Ii r):=by
 refine tI Try.f37 ?_;unfold mQ at h;refine sE [] [(0,Iu j7),(1,Sb zE)] [] 0 (sq (nE h fun zN h=>bE h fun zA zU h=>r2 [iH 1 { id:=0 },iA 1,iC trivial,iP 3 1 Fb ([j7]:List Int) zE 1 zN,iM Fb (([j7]:List Int)++zE),iK 4 { frz:=[1] } (YH F (([j7]:List Int)++zE) zA zU)] [1] [(4,Ii zA)] [] [] 2 ?_));cases h;exact rt rx
theorem CI (F:Nat) (j7:Int) (zE:List (Int)) (r:(List (Int))) (h:dH F j7 zE=some r):y5 prog 19 [] [] [Iu j7,Sb zE] [.row 5 1 (Mb r)] (.own 0 ((r).length)):=by
 refine tI Try.f19 ?_;unfold dH at h;refine sE [iH 0 { id:=0,m:=1 }] [(0,Iu j7),(1,Sb zE)] [] 1 (sq (bE h fun zA zN h=>r2 [iH 1 { id:=1 },iN 3 Fb zE,iA 1,iK 4 { frz:=[1],ids:=[2] } (jP F ([j7]:List Int) (lN (zE)) zA zN)] [] [(5,.own 2 ((zA).length))] [] [(2,Rb 5 1 (Mb zA))] 3 (sq (bE h fun zK zU h=>bE h fun zP y8 h=>nE h fun xR h=>r2 [iK 3 {} (QV F j7 zE zK zU),iM Fb zA,iK 4 { frz:=[2],ids:=[3] } (jP F zA zK zP y8),iM Fb zP,iC trivial,iP 6 4 Fb zP zE 1 xR] [1,5] [(4,.own 4 (((zP++zE)).length))] [2] [(4,Rb 5 1 (Mb (zP++zE)))] 5 (w0 [4] [] [(4,.own 0 (((zP++zE)).length))] [(0,Rb 5 1 (Mb (zP++zE)))] ?_)))));cases h;exact rt rx
theorem KG (zF:List (Int)) (r:(List (Int))) (h:rR zF=some r):y5 prog 35 [] [] [Sb zF] [.row 5 1 (Mb r)] (.own 0 ((r).length)):=by
 refine tI Try.f35 ?_;unfold rR at h;refine sE [iH 0 { id:=0,m:=1 }] [(0,Sb zF)] [] 1 (sq (s0 [] [(4,.nb (Mb zF))] ?_));refine CP (t:=4) (l:=(Mb zF)) zk zk ?_ ?_
 ·intro zU;replace zU:=List.map_eq_nil_iff.1 zU;replace h:=Eq.trans (show (some [])=((need (((([]:List Int)).length+(zF).length) * 1≤140737488355328)).bind fun _ =>
 some ([]++zF)) from by simp [zU,need]) h
  refine sE [iH 0 { id:=1,m:=1 }] [(2,.own 1 0)] [(1,Rb 5 1 [])] 2 (wz [1] [] [2] [] [(2,.own 0 ((([]:List Int)).length))] [(0,Rb 5 1 [])] (ac (congrArg (AV.own _) (by first | (simp;done) | (simp;omega)):(.own 1 0:AV)=.own 1 ((([]:List Int)).length)) an) ?_);cases h;exact rt rx
 refine sk (sq (nE h fun zN h=>rE [iH 0 { id:=1 },iH 2 { id:=2,l:=(Mb ([]++zF)),n:=(([]++zF)).length },iA 0,iC trivial,iC (by simp:(List.map (AV.int .u8) ([]++zF))=[]++(List.map (AV.int .u8) zF)),iC (by simp:(([]++zF)).length=((List.map (AV.int .u8) ([]++zF))).length),iC (by first | (simp;done) | simpa using zN:(([]:List AV).length+((List.map (AV.int .u8) zF):List AV).length) * 1≤140737488355328)] [(2,.own 2 ((([]++zF)).length))] [(2,Rb 5 1 (Mb ([]++zF)))] 3 (w0 [2] [] [(2,.own 0 ((([]++zF)).length))] [(0,Rb 5 1 (Mb ([]++zF)))] ?_)));cases h;exact rt rx
theorem GQ (zM:z8) (r:z8×Int) (h:bK zM=some r):y5 prog 32 [] [] [uX zM] [] (.tuple [uX r.1,Ii r.2]):=by
 refine tI Try.f32 ?_;unfold bK at h;refine sE [iH 0 { id:=0 },iH 1 { id:=1 }] [(1,Pp 0),(2,Pp 1)] [(0,Vb 31 (xC zM)),(1,qQ)] 2 (sq (sq (bE h fun zA zN h=>r0 [iK 1 {} (oJ zM zA zN)] [(4,Ii zA)] (c0 [] 8 h [] ?_ ?_))))
 ·intro yN h;refine s2 [] [1] [(3,Ii zA)] [0] [] 2 (wz [1] [] [] [0] [(2,Pp 0),(3,Ii zA)] [(0,Vb 31 (xC zL0))] (ar 31 (ar true (ar (Ii 0) (ar ([]:List AV) (ar (Ii 0) (ar (Ii 0) (ar (.bool false:AV) an))))))) ?_);cases h;exact rt rx
 intro yN h;refine sk (sq (c0 [] 12 h [] ?_ ?_))
 ·intro xG h;refine s2 [] [1] [(3,Ii 19)] [0] [(1,Vb 31 (xC zM))] 2 (w0 [1] [] [(2,Pp 0),(3,Ii 19)] [(0,Vb 31 (xC zM))] ?_);cases h;exact rt rx
 intro xG h;refine sk (sq (bE h fun zK zU h=>r2 [iK 2 { ids:=[2] } (KG zM.Data zK zU)] [] [] [] [(0,Vb 31 [Ii zM.Size,.own 2 ((zK).length),Ii zM.Durable,Ii zM.Left,.bool zM.Down]),(2,Rb 5 1 (Mb zK))] 3 (s2 [] [1] [(3,Ii 0)] [0] [(1,Vb 31 [Ii zM.Size,.own 2 ((zK).length),Ii zM.Durable,Ii zM.Left,.bool zM.Down])] 3 (wz [1] [2] [] [0] [(2,Pp 0),(3,Ii 0)] [(0,Vb 31 (xC (⟨zM.Size,zK,zM.Durable,zM.Left,zM.Down⟩:z8)))] (ar 31 (ar true (ac (by first | (simp;done) | (simp;omega):(zK).length=((List.map (AV.int .u8) zK)).length) (ar (Ii zM.Size) (ar 1 (ar (Mb zK) (ar true (ar (Ii zM.Durable) (ar (Ii zM.Left) (ar (.bool zM.Down:AV) an)))))))))) ?_))));cases h;exact rt rx
theorem Y2 (zM:z8) (r:z8×Int) (h:bK zM=some r) (he:(r.2 != (0:Int))=false):y5 prog 32 [] [] [uX zM] [.row 5 1 (Mb r.1.Data)] (.tuple [.agg [Ii r.1.Size,.own 0 ((r.1.Data).length),Ii r.1.Durable,Ii r.1.Left,.bool r.1.Down],Ii r.2]):=by
 refine tI Try.f32 ?_;unfold bK at h;refine sE [iH 0 { id:=0 },iH 1 { id:=1 }] [(1,Pp 0),(2,Pp 1)] [(0,Vb 31 (xC zM)),(1,qQ)] 2 (sq (sq (bE h fun zA zN h=>r0 [iK 1 {} (oJ zM zA zN)] [(4,Ii zA)] (c0 [] 8 h [] ?_ ?_))))
 ·intro yN h;refine s2 [] [1] [(3,Ii zA)] [0] [] 2 ?_;cases h;exact Bool.noConfusion (yN.symm.trans he)
 intro yN h;refine sk (sq (c0 [] 12 h [] ?_ ?_))
 ·intro xG h;refine s2 [] [1] [(3,Ii 19)] [0] [(1,Vb 31 (xC zM))] 2 ?_;cases h;exact absurd he (by simp)
 intro xG h;refine sk (sq (bE h fun zK zU h=>r2 [iK 2 { ids:=[2] } (KG zM.Data zK zU)] [] [] [] [(0,Vb 31 [Ii zM.Size,.own 2 ((zK).length),Ii zM.Durable,Ii zM.Left,.bool zM.Down]),(2,Rb 5 1 (Mb zK))] 3 (s2 [] [1] [(3,Ii 0)] [0] [(1,Vb 31 [Ii zM.Size,.own 2 ((zK).length),Ii zM.Durable,Ii zM.Left,.bool zM.Down])] 3 (wz [2,1] [] [] [0,1] [(2,Pp 1),(3,Ii 0)] [(0,Rb 5 1 (Mb ((⟨zM.Size,zK,zM.Durable,zM.Left,zM.Down⟩:z8).Data))),(1,Vb 31 [Ii ((⟨zM.Size,zK,zM.Durable,zM.Left,zM.Down⟩:z8).Size),.own 0 (((⟨zM.Size,zK,zM.Durable,zM.Left,zM.Down⟩:z8).Data).length),Ii ((⟨zM.Size,zK,zM.Durable,zM.Left,zM.Down⟩:z8).Durable),Ii ((⟨zM.Size,zK,zM.Durable,zM.Left,zM.Down⟩:z8).Left),.bool ((⟨zM.Size,zK,zM.Durable,zM.Left,zM.Down⟩:z8).Down)])] (ar 5 (ar 1 (ar (Mb zK) (ar 31 (ar true (ar (Ii zM.Size) (ac (congrArg (AV.own _) (by first | (simp;done) | (simp;omega)):(.own 2 ((zK).length):AV)=.own 2 (((⟨zM.Size,zK,zM.Durable,zM.Left,zM.Down⟩:z8).Data).length)) (ar (Ii zM.Durable) (ar (Ii zM.Left) (ar (.bool zM.Down:AV) an)))))))))) ?_))));cases h;exact rt rx
theorem ZV (zM:z8) (zE:List (Int)) (r:z8×Int) (h:DD zM zE=some r):y5 prog 41 [] [] [uX zM,Sb zE] [] (.tuple [uX r.1,Ii r.2]):=by
 refine tI Try.f41 ?_;unfold DD at h;refine sE [iH 0 { id:=0 },iH 1 { id:=1 }] [(1,Sb zE),(2,Pp 0),(4,Pp 1)] [(0,Vb 31 (xC zM)),(1,qQ)] 2 ?_;refine t7 (kA 1 1 2 5 1 zk) ?_;refine w0 [0,1,2] [] [(1,Sb zE),(2,Pp 0),(4,Pp 1)] [(0,Vb 31 (xC zM)),(1,Vb 31 [Ii 0,.own 2 0,Ii 0,Ii 0,.bool false]),(2,Rb 5 1 [])] (sq (bE h fun zA zN h=>?_));rcases bft (zA.2 != (0:Int)) with gf_1 | gf_1
 ·replace h:=xP gf_1 h;refine r2 [iK 1 {} (GQ zM zA zN)] [] [(6,Ii zA.2)] [] [(0,Vb 31 (xC zA.1))] 3 (sq (s0 [] [(13,.bool (zA.2 != (0:Int)))] (cd 13 (zA.2 != (0:Int)) ?_ ?_)))
  rotate_left
  ·intro hg;exact Bool.noConfusion ((gf_1).symm.trans hg)
  intro _;refine s2 [] [1,2] [(5,Ii zA.2)] [0,2] [(1,Vb 31 (xC zA.1))] 3 (w0 [1] [] [(4,Pp 0),(5,Ii zA.2)] [(0,Vb 31 (xC zA.1))] ?_);cases h;exact rt rx
 replace h:=xQ gf_1 h;refine r2 [iK 1 { ids:=[3] } (Y2 zM zA zN gf_1)] [] [(6,Ii zA.2)] [] [(0,Vb 31 [Ii zA.1.Size,.own 3 ((zA.1.Data).length),Ii zA.1.Durable,Ii zA.1.Left,.bool zA.1.Down]),(3,Rb 5 1 (Mb zA.1.Data))] 4 (sq (s0 [] [(13,.bool (zA.2 != (0:Int)))] (cd 13 (zA.2 != (0:Int)) ?_ ?_)))
 ·intro hg;exact Bool.noConfusion ((gf_1).symm.trans hg)
 intro _;refine sk (sq (c0 [iN 4 Fb zE] 24 h [] ?_ ?_))
 ·intro yN h;refine s2 [] [1,2] [(5,Ii 6)] [0,2,3] [(1,qQ)] 4 ?_;refine t7 (kA 1 1 4 5 1 zk) ?_;refine w0 [1,4] [] [(4,Pp 0),(5,Ii 6)] [(0,Vb 31 [Ii 0,.own 1 0,Ii 0,Ii 0,.bool false]),(1,Rb 5 1 [])] (wz [0] [1] [] [0] [(4,Pp 0),(5,Ii 6)] [(0,Vb 31 (xC zL0))] (ar 31 (ar true (ac (by first | (simp;done) | (simp;omega):0=(([]:List AV)).length) (ar (Ii 0) (ar 1 (ar ([]:List AV) (ar true (ar (Ii 0) (ar (Ii 0) (ar (.bool false:AV) an)))))))))) ?_);cases h;exact rt rx
 intro yN h;refine sk (sq (sq ?_));refine x9 (mk [(1,Sb zE),(2,Pp 0),(4,Pp 2),(35,.bool (decide (zA.1.Left≥(0:Int))&&decide (zA.1.Left<(lN (zE)))))] [(0,Vb 31 [Ii zA.1.Size,.own 1 ((zA.1.Data).length),Ii zA.1.Durable,Ii zA.1.Left,.bool zA.1.Down]),(1,Rb 5 1 (Mb zA.1.Data)),(2,Vb 31 [Ii 0,.own 3 0,Ii 0,Ii 0,.bool false]),(3,Rb 5 1 [])] 4) ?_ ?_
 ·rcases bft (decide (zA.1.Left≥(0:Int))) with zR | zR
  ·refine r0 [iH 9 Ht,iR 4 zR,iN 7 Fb zE,iR 2 zR] [(35,.bool (decide (zA.1.Left<(lN (zE)))))] ?_;exact ⟨rfl,(sw [0,3,1,2] [] [.s 1,.s 2,.s 4,.a 35 (.bool (decide (zA.1.Left≥(0:Int))&&decide (zA.1.Left<(lN (zE)))))] [.s 0,.s 1,.s 2,.s 3] (ac (congrArg AV.bool (uI zR rfl):(.bool (decide (zA.1.Left<(lN (zE)))):AV)=.bool (decide (zA.1.Left≥(0:Int))&&decide (zA.1.Left<(lN (zE))))) an))⟩
  ·refine r0 [iG 4 5,iH 9 Hf,iR 6 zR] [(35,.bool false)] ?_;exact ⟨rfl,(sw [0,3,1,2] [] [.s 1,.s 2,.s 4,.a 35 (.bool (decide (zA.1.Left≥(0:Int))&&decide (zA.1.Left<(lN (zE)))))] [.s 0,.s 1,.s 2,.s 3] (ac (congrArg AV.bool (j0 zR):(.bool false:AV)=.bool (decide (zA.1.Left≥(0:Int))&&decide (zA.1.Left<(lN (zE))))) an))⟩
 refine ch 35 h ?_ ?_
 ·intro xG h;refine sq (nE h fun zU h=>nE h fun y8 h=>r2 [iS 5 Fb zE (0:Int) zA.1.Left (by decide) zU.1 zU.2,iM Fb zA.1.Data,iC trivial,iP 6 4 Fb zA.1.Data (sub zE (0:Int) zA.1.Left) 1 y8] [1] [] [1] [(0,Vb 31 [Ii zA.1.Size,.own 4 (((zA.1.Data++(sub zE (0:Int) zA.1.Left))).length),Ii zA.1.Durable,Ii zA.1.Left,.bool zA.1.Down]),(4,Rb 5 1 (Mb (zA.1.Data++(sub zE (0:Int) zA.1.Left))))] 5 (s2 [] [] [] [] [(0,Vb 31 [Ii zA.1.Size,.own 4 (((zA.1.Data++(sub zE (0:Int) zA.1.Left))).length),Ii zA.1.Durable,Ii 0,.bool true])] 5 (s2 [] [2] [(5,Ii 19)] [0,3] [(2,Vb 31 [Ii zA.1.Size,.own 4 (((zA.1.Data++(sub zE (0:Int) zA.1.Left))).length),Ii zA.1.Durable,Ii 0,.bool true])] 5 (wz [2] [4] [] [0] [(4,Pp 0),(5,Ii 19)] [(0,Vb 31 (xC (⟨zA.1.Size,(zA.1.Data++(sub zE (0:Int) zA.1.Left)),zA.1.Durable,(0:Int),true⟩:z8)))] (ar 31 (ar true (ac (by first | (simp;done) | (simp;omega):((zA.1.Data++(sub zE (0:Int) zA.1.Left))).length=((List.map (AV.int .u8) (zA.1.Data++(sub zE (0:Int) zA.1.Left)))).length) (ar (Ii zA.1.Size) (ar 1 (ar (Mb (zA.1.Data++(sub zE (0:Int) zA.1.Left))) (ar true (ar (Ii zA.1.Durable) (ar (Ii 0) (ar (.bool true:AV) an)))))))))) ?_))));cases h;exact rt rx
 intro xG h;refine sk (sq (nE h fun xR h=>r2 [iM Fb zA.1.Data,iC trivial,iP 3 4 Fb zA.1.Data zE 1 xR] [] [] [1] [(0,Vb 31 [Ii zA.1.Size,.own 4 (((zA.1.Data++zE)).length),Ii zA.1.Durable,Ii zA.1.Left,.bool zA.1.Down]),(4,Rb 5 1 (Mb (zA.1.Data++zE)))] 5 (sq (c0 [] 54 h [] ?_ ?_))))
 ·intro xU h;refine r2 [iN 3 Fb zE] [1] [] [] [(0,Vb 31 [Ii zA.1.Size,.own 4 (((zA.1.Data++zE)).length),Ii zA.1.Durable,Ii (zI (zA.1.Left - (lN (zE)))),.bool zA.1.Down])] 5 (s2 [] [2] [(5,Ii 0)] [0,3] [(2,Vb 31 [Ii zA.1.Size,.own 4 (((zA.1.Data++zE)).length),Ii zA.1.Durable,Ii (zI (zA.1.Left - (lN (zE)))),.bool zA.1.Down])] 5 (wz [2] [4] [] [0] [(4,Pp 0),(5,Ii 0)] [(0,Vb 31 (xC (⟨zA.1.Size,(zA.1.Data++zE),zA.1.Durable,zI (zA.1.Left - (lN (zE))),zA.1.Down⟩:z8)))] (ar 31 (ar true (ac (by first | (simp;done) | (simp;omega):((zA.1.Data++zE)).length=((List.map (AV.int .u8) (zA.1.Data++zE))).length) (ar (Ii zA.1.Size) (ar 1 (ar (Mb (zA.1.Data++zE)) (ar true (ar (Ii zA.1.Durable) (ar (Ii (zI (zA.1.Left - (lN (zE))))) (ar (.bool zA.1.Down:AV) an)))))))))) ?_));cases h;exact rt rx
 intro xU h;refine sk (s2 [] [1,2] [(5,Ii 0)] [0,3] [(2,Vb 31 [Ii zA.1.Size,.own 4 (((zA.1.Data++zE)).length),Ii zA.1.Durable,Ii zA.1.Left,.bool zA.1.Down])] 5 (wz [2] [4] [] [0] [(4,Pp 0),(5,Ii 0)] [(0,Vb 31 (xC (⟨zA.1.Size,(zA.1.Data++zE),zA.1.Durable,zA.1.Left,zA.1.Down⟩:z8)))] (ar 31 (ar true (ac (by first | (simp;done) | (simp;omega):((zA.1.Data++zE)).length=((List.map (AV.int .u8) (zA.1.Data++zE))).length) (ar (Ii zA.1.Size) (ar 1 (ar (Mb (zA.1.Data++zE)) (ar true (ar (Ii zA.1.Durable) (ar (Ii zA.1.Left) (ar (.bool zA.1.Down:AV) an)))))))))) ?_));cases h;exact rt rx
theorem R0 (zM:z8) (r:z8×Int) (h:m9 zM=some r):y5 prog 34 [] [] [uX zM] [] (.tuple [uX r.1,Ii r.2]):=by
 refine tI Try.f34 ?_;unfold m9 at h;refine sE [iH 0 { id:=0 },iH 1 { id:=1 }] [(1,Pp 0),(2,Pp 1)] [(0,Vb 31 (xC zM)),(1,qQ)] 2 (sq (bE h fun zA zN h=>r2 [iK 1 {} (GQ zM zA zN)] [] [(4,Ii zA.2)] [] [(0,Vb 31 (xC zA.1))] 2 (sq (c0 [] 11 h [] ?_ ?_))))
 ·intro yN h;refine s2 [] [1] [(3,Ii zA.2)] [0] [(1,Vb 31 (xC zA.1))] 2 (w0 [1] [] [(2,Pp 0),(3,Ii zA.2)] [(0,Vb 31 (xC zA.1))] ?_);cases h;exact rt rx
 intro yN h;refine sk (sq (c0 [] 16 h [] ?_ ?_))
 ·intro xG h;refine s2 [] [] [] [] [(0,Vb 31 [Ii zA.1.Size,Sb zA.1.Data,Ii zA.1.Durable,Ii zA.1.Left,.bool true])] 2 (s2 [] [1] [(3,Ii 19)] [0] [(1,Vb 31 [Ii zA.1.Size,Sb zA.1.Data,Ii zA.1.Durable,Ii zA.1.Left,.bool true])] 2 (w0 [1] [] [(2,Pp 0),(3,Ii 19)] [(0,Vb 31 (xC (⟨zA.1.Size,zA.1.Data,zA.1.Durable,zA.1.Left,true⟩:z8)))] ?_));cases h;exact rt rx
 intro xG h;refine sk (s2 [iN 2 Fb zA.1.Data] [] [] [] [(0,Vb 31 [Ii zA.1.Size,Sb zA.1.Data,Ii (lN (zA.1.Data)),Ii zA.1.Left,.bool zA.1.Down])] 2 (s2 [] [1] [(3,Ii 0)] [0] [(1,Vb 31 [Ii zA.1.Size,Sb zA.1.Data,Ii (lN (zA.1.Data)),Ii zA.1.Left,.bool zA.1.Down])] 2 (w0 [1] [] [(2,Pp 0),(3,Ii 0)] [(0,Vb 31 (xC (⟨zA.1.Size,zA.1.Data,(lN (zA.1.Data)),zA.1.Left,zA.1.Down⟩:z8)))] ?_)));cases h;exact rt rx
theorem VI (F:Nat) (zM:z8) (qM:List (List (Int))) (r:z8×Int) (h:m3 F zM qM=some r):y5 prog 22 [] [] [uX zM,.sl false 1 (List.map zMb qM)] [] (.tuple [uX r.1,Ii r.2]):=by
 refine tI Try.f22 ?_;unfold m3 at h;refine sE [iH 0 { id:=0 },iH 1 { id:=1 }] [(1,.sl false 1 (List.map zMb qM)),(2,Pp 0),(4,Pp 1)] [(0,Vb 31 (xC zM)),(1,qQ)] 2 (sq (s1 [iN 1 zMb qM] [1] [(10,.sl false 1 (List.map zMb qM)),(11,Ii (lN (qM))),(12,Ii 0)] (bE h fun zC zN h=>?_)));refine uG (K1:=kS prog zC 0 (fun q0=>mk [(2,Pp 0),(4,Pp 1)] [(0,Vb 31 [Ii q0.1,Sb q0.2.1,Ii q0.2.2.1,Ii q0.2.2.2.1,.bool q0.2.2.2.2]),(1,qQ)] 2) Try.f22 (fun q1=>[]) fun q1=>.tuple [uX q1.1,Ii q1.2]) ?_ ?_
 ·replace h:=zN;refine y7 (id:=0) zk ?_;refine w0 [0,1] [] [(2,Pp 0),(4,Pp 1),(10,.sl false 1 (List.map zMb qM)),(11,Ii (lN (qM))),(12,Ii 0)] [(0,Vb 31 (xC zM)),(1,qQ)] ?_;refine wX (fun n st=>∃ (zG:Int),∃ (zB:Int),∃ (yL:List Int),∃ (yG:Int),∃ (yD:Int),∃ (yR:Bool),st=mk [(2,Pp 0),(4,Pp 1),(10,.sl false 1 (List.map zMb qM)),(11,Ii (lN (qM))),(12,Ii zG)] [(0,Vb 31 [Ii zB,.sl false 1 (Mb yL),Ii yG,Ii yD,.bool yR]),(1,qQ)] 2∧BN F qM n zG zB yL yG yD yR=some zC) F zk ⟨_,_,_,_,_,_,rfl,h⟩ ?_ ?_
  ·rintro _ ⟨_,_,_,_,_,_,_,h⟩;exact wV (h:(none:Option ((Int×(List Int)×Int×Int×Bool)⊕(z8×Int)))=some zC)
  rintro yF _ ⟨zG,zB,yL,yG,yD,yR,rfl,h⟩;replace h:BA F qM (BN F qM yF) zG zB yL yG yD yR=some zC:=h;unfold BA at h;refine s0 [] [(13,.bool (decide (zG<(lN (qM)))))] (sq (ch 13 h ?_ ?_))
  rotate_left
  ·intro yN h;refine wQ (id:=0) zk ?_;cases h;exact ⟨rfl,(sI 2 [2,4])⟩
  intro yN h;refine sk (sq ?_);refine y7 (id:=1) zk ?_;refine sq (bE h fun zH zU h=>r0 [iF 0 zMb zU] [(7,.sl false 1 (Mb zH))] (sq (bE h fun zA y8 h=>r2 [iH 6 { id:=2 },iL 2 {} [.agg [Ii zB,.sl false 1 (Mb yL),Ii yG,Ii yD,.bool yR],.sl false 1 (Mb zH)] (ZV (⟨zB,yL,yG,yD,yR⟩:z8) zH zA y8) ⟨rfl,rfl,rfl,rfl,rfl,rfl,rfl,rfl,rfl,rfl,trivial⟩] [7] [(8,Pp 2),(9,Ii zA.2)] [] [(2,Vb 31 (xC zA.1))] 3 (sq (c0 [] 23 h [] ?_ ?_)))))
  rotate_left
  ·intro xG h;refine sk (r2 [] [8] [] [2] [(0,Vb 31 (xC zA.1))] 3 (r0 [] [(12,Ii (zI (zG+(1:Int))))] ?_));exact ⟨_,(sI 2 [2,4,10,11,12]),_,_,_,_,_,_,rfl,h⟩
  intro xG h;refine s2 [] [2,10,8] [(5,Ii zA.2)] [0,2] [(1,Vb 31 (xC zA.1))] 3 (w0 [1] [] [(4,Pp 0),(5,Ii zA.2)] [(0,Vb 31 (xC zA.1))] ?_);cases h;exact rt ry
 intro e st1 hk;rcases zC with yC | xV
 rotate_left
 ·obtain ⟨rfl,hf⟩:=hk;cases h;exact ⟨st1,Sub.refl _ _,.inr rfl,hf⟩
 obtain ⟨rfl,hs⟩:=hk;refine ⟨_,hs,?_⟩;refine sq (bE h fun zK xR h=>r2 [iL 1 {} [.agg [Ii yC.1,Sb yC.2.1,Ii yC.2.2.1,Ii yC.2.2.2.1,.bool yC.2.2.2.2]] (R0 (⟨yC.1,yC.2.1,yC.2.2.1,yC.2.2.2.1,yC.2.2.2.2⟩:z8) zK xR) ⟨rfl,rfl,rfl,rfl,rfl,rfl,rfl,trivial⟩] [2] [(5,Ii zK.2)] [0] [(1,Vb 31 (xC zK.1))] 2 (w0 [1] [] [(4,Pp 0),(5,Ii zK.2)] [(0,Vb 31 (xC zK.1))] ?_));cases h;exact rt rx
theorem R8 (F:Nat) (zM:z8) (zN:zT) (r:z8×Int) (h:mJ F zM zN=some r):y5 prog 9 [] [] [uX zM,nA zN] [] (.tuple [uX r.1,Ii r.2]):=by
 refine tI Try.f9 ?_;unfold mJ at h;refine sE [iH 0 { id:=0 },iH 1 { id:=1 },iH 2 { id:=2 }] [(2,Pp 0),(3,Pp 1),(4,Pp 2)] [(0,Vb 31 (xC zM)),(1,Vb 26 (vQ zN)),(2,qQ)] 3 (sq (sq (bE h fun zA zU h=>r0 [iK 1 {} (oJ zM zA zU)] [(6,Ii zA)] (c0 [] 11 h [] ?_ ?_))))
 ·intro yN h;refine s2 [] [2,3] [(5,Ii zA)] [0,1] [] 3 (wz [2] [] [] [0] [(4,Pp 0),(5,Ii zA)] [(0,Vb 31 (xC zL0))] (ar 31 (ar true (ar (Ii 0) (ar ([]:List AV) (ar (Ii 0) (ar (Ii 0) (ar (.bool false:AV) an))))))) ?_);cases h;exact rt rx
 intro yN h;refine sk (sq (c0 [iN 2 Fb zM.Data] 17 h [] ?_ ?_))
 ·intro xG h;refine s2 [] [2,3] [(5,Ii 18)] [0,1] [] 3 (wz [2] [] [] [0] [(4,Pp 0),(5,Ii 18)] [(0,Vb 31 (xC zL0))] (ar 31 (ar true (ar (Ii 0) (ar ([]:List AV) (ar (Ii 0) (ar (Ii 0) (ar (.bool false:AV) an))))))) ?_);cases h;exact rt rx
 intro xG h;refine sk (sq (sq (bE h fun zK y8 h=>r0 [iK 1 {} (QB F zN zK y8)] [(7,Ii zK)] (c0 [] 22 h [] ?_ ?_))))
 ·intro xU h;refine s2 [] [2,3] [(5,Ii zK)] [0,1] [] 3 (wz [2] [] [] [0] [(4,Pp 0),(5,Ii zK)] [(0,Vb 31 (xC zL0))] (ar 31 (ar true (ar (Ii 0) (ar ([]:List AV) (ar (Ii 0) (ar (Ii 0) (ar (.bool false:AV) an))))))) ?_);cases h;exact rt rx
 intro xU h;refine sk (sq (bE h fun zP xR h=>bE h fun z0 wH h=>bE h fun zY vA h=>r2 [iH 4 { frz:=[3],id:=4 },iK 2 {} (R3 F zN zP xR),iK 3 { ids:=[3] } (CI F (72:Int) zP z0 wH),iM Fb z0,iC (by first | (simp;done) | (simp;omega):1=((List.map zMb ([z0]:List (List (Int))))).length),iK 5 { frz:=[4] } (VI F zM ([z0]:List (List (Int))) zY vA)] [2,3] [(5,Ii zY.2)] [0,1] [(2,Vb 31 (xC zY.1))] 5 (w0 [2] [] [(4,Pp 0),(5,Ii zY.2)] [(0,Vb 31 (xC zY.1))] ?_)));cases h;exact rt rx
theorem WC (vC:Int) (r:Int) (h:DQ vC=some r):y5 prog 84 [] [] [.int .u64 vC] [] (Ii r):=by
 refine tI Try.f84 ?_;unfold DQ at h;refine sE [] [(0,.int .u64 vC)] [] 0 (s0 [iC (by decide:(0:Int)≤(1:Int))] [(2,Ii (tX .i64 (zI (qD .u64 vC (1:Int))) (zI (0 - (zI (uF .u64 vC (1:Int)))))))] ?_);cases h;exact rt rx
theorem o7 (F:Nat) (zE:List (Int)) (r:Int×Int×Int) (h:cB F zE=some r):y5 prog 62 [] [] [Sb zE] [] (.tuple [Ii r.1,Ii r.2.1,Ii r.2.2]):=by
 refine tI Try.f62 ?_;unfold cB at h;refine sE [] [(0,Sb zE)] [] 0 (s0 [] [(5,.int .u64 (0:Int))] (sq (s1 [iN 1 Fb zE] [0] [(8,Sb zE),(9,Ii (lN (zE))),(10,Ii 0)] (bE h fun zC zN h=>?_))));refine uG (K1:=kS prog zC 0 (fun q0=>mk [] [] 0) Try.f62 (fun q1=>[]) fun q1=>.tuple [Ii q1.1,Ii q1.2.1,Ii q1.2.2]) ?_ ?_
 ·replace h:=zN;refine y7 (id:=0) zk ?_;refine w0 [] [] [(5,.int .u64 (0:Int)),(8,Sb zE),(9,Ii (lN (zE))),(10,Ii 0)] [] ?_;refine wX (fun n st=>∃ (vC:Int),∃ (zG:Int),st=mk [(5,.int .u64 vC),(8,Sb zE),(9,Ii (lN (zE))),(10,Ii zG)] [] 0∧l9 F zE n vC zG=some zC) F zk ⟨_,_,rfl,h⟩ ?_ ?_
  ·rintro _ ⟨_,_,_,h⟩;exact wV (h:(none:Option (Unit⊕(Int×Int×Int)))=some zC)
  rintro yF _ ⟨vC,zG,rfl,h⟩;replace h:DP F zE (l9 F zE yF) vC zG=some zC:=h;unfold DP at h;refine s0 [] [(11,.bool (decide (zG<(lN (zE)))))] (sq (ch 11 h ?_ ?_))
  rotate_left
  ·intro yN h;refine wQ (id:=0) zk ?_;cases h;exact ⟨rfl,(sI 0 [])⟩
  intro yN h;refine sk (sq ?_);refine y7 (id:=1) zk ?_;refine sq (bE h fun zH zU h=>r0 [iF 1 Fb zU] [(6,Ii zG),(7,Iu zH)] (sq (ad 20 h ?_ ?_ ?_)))
  ·rcases bft (zG==(9:Int)) with wL | wL
   ·exact rm [iH 5 Ht,iR 3 wL] (uI wL rfl)
   ·exact rm [iG 3 2,iH 5 Hf,iR 3 wL] (j0 wL)
  ·intro xG h;refine s1 [] [8] [(2,Ii 0),(3,Ii 0),(4,Ii 10)] ?_;cases h;exact rt ry
  intro xG h;refine sk (sq (nE h fun y8 h=>r0 [iC y8] [(5,.int .u64 (ior .u64 vC (pL .u64 (jH (uF .u8 zH (127:Int))) (zI ((7:Int) * zG)))))] (sq (c0 [] 30 h [] ?_ ?_))))
  ·intro xU h;refine wQ (id:=1) zk ?_;refine rE [] [(5,.int .u64 (ior .u64 vC (pL .u64 (jH (uF .u8 zH (127:Int))) (zI ((7:Int) * zG))))),(8,Sb zE),(9,Ii (lN (zE))),(10,Ii (zI (zG+(1:Int))))] [] 0 ?_;exact ⟨_,(sI 0 [5,8,9,10]),_,_,rfl,h⟩
  intro xU h;refine sk (sq (sq ?_));refine x9 (mk [(5,.int .u64 (ior .u64 vC (pL .u64 (jH (uF .u8 zH (127:Int))) (zI ((7:Int) * zG))))),(6,Ii zG),(36,.bool ((zH==(0:Int))&&decide (zG>(0:Int))))] [] 0) ?_ ?_
  ·rcases bft (zH==(0:Int)) with wO | wO
   ·refine r1 [iH 5 Ht,iR 3 wO] [8] [(36,.bool (decide (zG>(0:Int))))] ?_;exact ⟨rfl,(sw [] [] [.s 5,.s 6,.a 36 (.bool ((zH==(0:Int))&&decide (zG>(0:Int))))] [] (ac (congrArg AV.bool (uI wO rfl):(.bool (decide (zG>(0:Int))):AV)=.bool ((zH==(0:Int))&&decide (zG>(0:Int)))) an))⟩
   ·refine r1 [iG 3 2,iH 5 Hf,iR 3 wO] [8] [(36,.bool false)] ?_;exact ⟨rfl,(sw [] [] [.s 5,.s 6,.a 36 (.bool ((zH==(0:Int))&&decide (zG>(0:Int))))] [] (ac (congrArg AV.bool (j0 wO):(.bool false:AV)=.bool ((zH==(0:Int))&&decide (zG>(0:Int)))) an))⟩
  refine ch 36 h ?_ ?_
  ·intro vY h;refine s0 [] [(2,Ii 0),(3,Ii 0),(4,Ii 10)] ?_;cases h;exact rt ry
  intro vY h;refine sk (sq (bE h fun zA xR h=>r0 [iK 1 {} (WC (ior .u64 vC (pL .u64 (jH (uF .u8 zH (127:Int))) (zI ((7:Int) * zG)))) zA xR)] [(2,Ii zA),(3,Ii (zI (zG+(1:Int)))),(4,Ii 0)] ?_));cases h;exact rt ry
 intro e st1 hk;rcases zC with yC | xV
 rotate_left
 ·obtain ⟨rfl,hf⟩:=hk;cases h;exact ⟨st1,Sub.refl _ _,.inr rfl,hf⟩
 obtain ⟨rfl,hs⟩:=hk;refine ⟨_,hs,?_⟩;refine s0 [] [(2,Ii 0),(3,Ii 0),(4,Ii 8)] ?_;cases h;exact rt rx
theorem R5 (F:Nat) (zE:List (Int)) (r:Int×(List (Int))×Int) (h:rV F zE=some r):y5 prog 44 [] [] [Sb zE] [] (.tuple [Iu r.1,Sb r.2.1,Ii r.2.2]):=by
 refine tI Try.f44 ?_;unfold rV at h;refine sE [] [(0,Sb zE)] [] 0 (sq (c0 [iN 1 Fb zE] 14 h [] ?_ ?_))
 ·intro yN h;refine s1 [] [0] [(2,Iu 0),(3,.nilsl),(4,Ii 0)] (wz [] [] [3] [] [(2,Iu 0),(3,.sl false 1 []),(4,Ii 0)] [] (ar ([]:List AV) an) ?_);cases h;exact rt rx
 intro yN h;refine sk (sq (nE h fun zN h=>bE h fun zA zU h=>r0 [iT 1 Fb zE (1:Int) (by decide) zN,iK 2 {} (o7 F (sub zE (1:Int) (lN (zE))) zA zU)] [(5,Ii zA.1),(6,Ii zA.2.1),(7,Ii zA.2.2)] (sq (c0 [] 23 h [] ?_ ?_))))
 ·intro xG h;refine s1 [] [0] [(2,Iu 0),(3,.nilsl),(4,Ii 0)] (wz [] [] [3] [] [(2,Iu 0),(3,.sl false 1 []),(4,Ii 0)] [] (ar ([]:List AV) an) ?_);cases h;exact rt rx
 intro xG h;refine sk (sq (nE h fun y8 h=>bE h fun zK xR h=>r0 [iT 3 Fb zE (zI ((1:Int)+zA.2.1)) y8.1 y8.2,iK 4 {} (o7 F (sub zE (zI ((1:Int)+zA.2.1)) (lN (zE))) zK xR)] [(7,Ii zK.2.2),(8,Ii zK.1),(9,Ii zK.2.1)] (s0 [] [(10,Ii (zI ((zI ((1:Int)+zA.2.1))+zK.2.1)))] (sq (ad 50 h ?_ ?_ ?_)))))
 ·rcases bft (zK.2.2 != (0:Int)) with yI | yI
  ·exact rm [iG 3 2,iH 5 Ht,iG 7 6,iH 13 Ht,iR 3 yI,iX 6,iA true] (ort yI)
  ·rcases bft (decide (zA.1<(0:Int))) with yK | yK
   ·exact rm [iH 5 Hf,iG 7 6,iH 13 Ht,iR 3 yI,iR 7 yK] (orf yI (ort yK))
   ·exact rm [iH 5 Hf,iH 13 Hf,iR 3 yI,iR 3 yK,iN 9 Fb zE,iR 4 yK] (orf yI (orf yK rfl))
 ·intro xU h;refine s1 [] [0] [(2,Iu 0),(3,.nilsl),(4,Ii 0)] (wz [] [] [3] [] [(2,Iu 0),(3,.sl false 1 []),(4,Ii 0)] [] (ar ([]:List AV) an) ?_);cases h;exact rt rx
 intro xU h;refine sk (sq (nE h fun wH h=>r0 [iS 5 Fb zE (zI ((zI ((1:Int)+zA.2.1))+zK.2.1)) (zI ((zI ((zI ((1:Int)+zA.2.1))+zK.2.1))+zA.1)) wH.1 wH.2.1 wH.2.2] [(11,Sb (sub zE (zI ((zI ((1:Int)+zA.2.1))+zK.2.1)) (zI ((zI ((zI ((1:Int)+zA.2.1))+zK.2.1))+zA.1))))] (sq (sq (bE h fun zH vA h=>bE h fun zP vT h=>r0 [iF 1 Fb vA,iK 4 {} (QV F zH (sub zE (zI ((zI ((1:Int)+zA.2.1))+zK.2.1)) (zI ((zI ((zI ((1:Int)+zA.2.1))+zK.2.1))+zA.1))) zP vT)] [(63,.bool (zP != zK.1))] (ch 63 h ?_ ?_))))))
 ·intro vY h;refine s1 [] [0,11] [(2,Iu 0),(3,.nilsl),(4,Ii 0)] (wz [] [] [3] [] [(2,Iu 0),(3,.sl false 1 []),(4,Ii 0)] [] (ar ([]:List AV) an) ?_);cases h;exact rt rx
 intro vY h;refine sk (sq (bE h fun yB v8 h=>r1 [iF 1 Fb v8] [0,11] [(2,Iu yB),(3,Sb (sub zE (zI ((zI ((1:Int)+zA.2.1))+zK.2.1)) (zI ((zI ((zI ((1:Int)+zA.2.1))+zK.2.1))+zA.1)))),(4,Ii (zI ((zI ((zI ((1:Int)+zA.2.1))+zK.2.1))+zA.1)))] ?_));cases h;exact rt rx
theorem bP (F:Nat) (zF:vB) (r:Int×vB) (h:pW F zF=some r):y5 prog 64 [(.var 134 (uQ zF))] [] [Pp 0] [(.var 134 (uQ r.2))] (Ii r.1):=by
 refine tI Try.f64 ?_;unfold pW at h;refine sE [] [(0,Pp 0)] [(0,Vb 134 (uQ zF))] 1 (sq (bE h fun zA zN h=>r0 [iK 4 {} (o7 F zF.b zA zN)] [(3,Ii zA.1),(4,Ii zA.2.1),(5,Ii zA.2.2)] (sq (c0 [] 16 h [] ?_ ?_))))
 ·intro yN h;refine s2 [] [0] [] [] [(0,Vb 134 [.nilsl,.bool true])] 1 (s0 [] [(2,Ii 0)] (wz [0] [] [] [0] [(2,Ii 0)] [(0,Vb 134 (uQ (⟨[],true⟩:vB)))] (ar 134 (ar true (ar ([]:List AV) (ar (.bool true:AV) an)))) ?_));cases h;exact rt rx
 intro yN h;refine sk (sq (nE h fun zU h=>r2 [iT 6 Fb zF.b zA.2.1 zU.1 zU.2] [0] [] [] [(0,Vb 134 [Sb (sub zF.b zA.2.1 (lN (zF.b))),.bool zF.bad])] 1 (s0 [] [(2,Ii zA.1)] ?_)));cases h;exact rt rx
theorem MA (F:Nat) (zF:vB) (kE:Int) (r:Int×vB) (h:gZ F zF kE=some r):y5 prog 63 [(.var 134 (uQ zF))] [] [Pp 0,Ii kE] [(.var 134 (uQ r.2))] (Ii r.1):=by
 refine tI Try.f63 ?_;unfold gZ at h;refine sE [] [(0,Pp 0),(1,Ii kE)] [(0,Vb 134 (uQ zF))] 1 (sq (bE h fun zA zN h=>r2 [iK 1 { ids:=[0] } (bP F zF zA zN)] [] [(5,Ii zA.1)] [] [(0,Vb 134 (uQ zA.2))] 1 (sq (ad 14 h ?_ ?_ ?_))))
 ·rcases bft (decide (zA.1<(0:Int))) with zR | zR
  ·exact rm [iG 3 3,iH 6 Ht,iR 4 zR] (ort zR)
  ·exact rm [iH 6 Hf,iR 4 zR] (orf zR rfl)
 rotate_left
 ·intro yN h;refine sk (s1 [] [0] [(4,Ii zA.1)] ?_);cases h;exact rt rx
 intro yN h;refine s2 [] [0] [] [] [(0,Vb 134 [Sb zA.2.b,.bool true])] 1 (s0 [] [(4,Ii 0)] ?_);cases h;exact rt rx
theorem RH (F:Nat) (zE:List (Int)) (kE:Int) (r:(List Int)×Int×Int) (h:r9 F zE kE=some r):y5 prog 85 [] [] [Sb zE,Ii kE] [] (.tuple [.str r.1,Ii r.2.1,Ii r.2.2]):=by
 refine tI Try.f85 ?_;unfold r9 at h;refine sE [] [(0,Sb zE),(1,Ii kE)] [] 0 (sq (bE h fun zA zN h=>r0 [iK 1 {} (o7 F zE zA zN)] [(7,Ii zA.1),(8,Ii zA.2.1),(9,Ii zA.2.2)] (sq ?_)));refine y7 (id:=0) zk ?_;refine c0 [] 16 h [] ?_ ?_
 ·intro yN h;refine s1 [] [0] [(4,.str ([]:List Int)),(5,Ii 0),(6,Ii zA.2.2)] ?_;cases h;exact rt rx
 intro yN h;refine c0 [] 20 h [] ?_ ?_
 ·intro xG h;refine s1 [] [0] [(4,.str ([]:List Int)),(5,Ii 0),(6,Ii 10)] ?_;cases h;exact rt rx
 intro xG h;refine c0 [] 23 h [] ?_ ?_
 ·intro xU h;refine s1 [] [0] [(4,.str ([]:List Int)),(5,Ii 0),(6,Ii 7)] ?_;cases h;exact rt rx
 intro xU h;refine c0 [iN 2 Fb zE] 27 h [] ?_ ?_
 ·intro vY h;refine s1 [] [0] [(4,.str ([]:List Int)),(5,Ii 0),(6,Ii 8)] ?_;cases h;exact rt rx
 intro vY h;refine sk (sq (nE h fun zU h=>r1 [iH 6 { s:=sub zE zA.2.1 (zI (zA.2.1+zA.1)) },iS 5 Fb zE zA.2.1 (zI (zA.2.1+zA.1)) zU.1 zU.2.1 zU.2.2,iC (rfl:(Mb (sub zE zA.2.1 (zI (zA.2.1+zA.1))))=List.map (AV.int .u8) (sub zE zA.2.1 (zI (zA.2.1+zA.1))))] [0] [(4,.str (sub zE zA.2.1 (zI (zA.2.1+zA.1)))),(5,Ii (zI (zA.2.1+zA.1))),(6,Ii 0)] ?_));cases h;exact rt rx
theorem YG (F:Nat) (zF:vB) (r:(List Int)×vB) (h:DY F zF=some r):y5 prog 65 [(.var 134 (uQ zF))] [] [Pp 0] [(.var 134 (uQ r.2))] (.str r.1):=by
 refine tI Try.f65 ?_;unfold DY at h;refine sE [] [(0,Pp 0)] [(0,Vb 134 (uQ zF))] 1 (sq (bE h fun zA zN h=>r0 [iK 4 {} (RH F zF.b (40:Int) zA zN)] [(3,.str zA.1),(4,Ii zA.2.1),(5,Ii zA.2.2)] (sq (c0 [] 16 h [] ?_ ?_))))
 ·intro yN h;refine s2 [] [0] [] [] [(0,Vb 134 [.nilsl,.bool true])] 1 (s0 [] [(2,.str ([]:List Int))] (wz [0] [] [] [0] [(2,.str ([]:List Int))] [(0,Vb 134 (uQ (⟨[],true⟩:vB)))] (ar 134 (ar true (ar ([]:List AV) (ar (.bool true:AV) an)))) ?_));cases h;exact rt rx
 intro yN h;refine sk (sq (nE h fun zU h=>r2 [iT 6 Fb zF.b zA.2.1 zU.1 zU.2] [0] [] [] [(0,Vb 134 [Sb (sub zF.b zA.2.1 (lN (zF.b))),.bool zF.bad])] 1 (s0 [] [(2,.str zA.1)] ?_)));cases h;exact rt rx
theorem RN (F:Nat) (zF:vB) (r:yQ×vB) (h:rG F zF=some r):y5 prog 66 [(.var 134 (uQ zF))] [] [Pp 0] [(.var 134 (uQ r.2))] (z5 r.1):=by
 refine tI Try.f66 ?_;unfold rG at h;refine sE [iH 0 { id:=1 }] [(0,Pp 0),(2,Pp 1)] [(0,Vb 134 (uQ zF)),(1,Vb 73 [Ii 0,Ii 0,Ii 0,Ii 0,Ii 0])] 2 (sq (bE h fun zA zN h=>bE h fun zK zU h=>bE h fun zP y8 h=>r2 [iK 1 { ids:=[0] } (bP F zF zA zN),iK 3 { ids:=[0] } (bP F zA.2 zK zU),iK 5 { ids:=[0] } (bP F zK.2 zP y8)] [] [(3,Ii zA.1),(4,Ii zK.1),(5,Ii zP.1)] [] [(0,Vb 134 (uQ zP.2))] 2 (sq (bE h fun z0 xR h=>r2 [iK 1 { ids:=[0] } (bP F zP.2 z0 xR)] [] [(6,Ii z0.1)] [] [(0,Vb 134 (uQ z0.2))] 2 (sq (bE h fun zY wH h=>r2 [iK 5 { ids:=[0] } (bP F z0.2 zY wH)] [0] [] [] [(0,Vb 134 (uQ zY.2)),(1,Vb 73 [Ii zA.1,Ii zK.1,Ii zP.1,Ii z0.1,Ii zY.1])] 2 ?_))))));cases h;exact rt rx
theorem KI (zW:List (Int)) (zE:List (Int)) (r:Bool) (h:cN zW zE=some r):y5 prog 67 [] [] [Sb zW,Sb zE] [] (.bool r):=by
 refine tI Try.f67 ?_;unfold cN at h;refine sE [] [(0,Sb zW),(1,Sb zE)] [] 0 (s1 [iH 1 { s:=zW },iH 3 { s:=zE },iC (rfl:(Mb zW)=List.map (AV.int .u8) zW),iC (rfl:(Mb zE)=List.map (AV.int .u8) zE)] [0,1] [(4,.bool (zW==zE))] ?_);cases h;exact rt rx
end Go.Ab
