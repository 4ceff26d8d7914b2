/- Printed: the typed Lean functions of the Go functions, or the proofs that the Go functions meet them. No conditions but those that the theorems name. -/
import Derived.Test.YtoeengmnmhhpgaaP15xD
import Derived.Test.YtoeengmnmhhpgaaA32
import Derived.Test.YtoeengmnmhhpgaaProg
namespace Go.Ab
open Go Go.Proofs
set_option linter.unusedVariables false
noncomputable abbrev prog:=Go.Proofs.Try.prog
theorem qH:prog.follows .mixedOrders=true:=by kernel_rfl
instance :Mx prog:=⟨qH⟩
theorem zBN:E6 prog 101:=⟨_,Go.Proofs.Try.func101,by kernel_rfl,by kernel_rfl,by kernel_rfl,zk⟩
theorem GJ:tA prog 3 false [.int .i64]:=VT zk
theorem zDz:tA prog 83 true [.int .i64,.int .i64]:=HF zk zk zk zk
theorem UI:∀ a b:y7,z6 a=z6 b→a=b:=by
  intro a b h;cases a;cases b;simpa [z6,oZ] using h
theorem SV:pM prog 83 [.int .i64,.int .i64]:=EW zDz zk zk
def WC:Go.Shelf.Ren:={ f:=fun n=>bif Nat.beq n 5 then 54 else 78,t:=fun n=>bif Nat.beq n 23 then 63 else bif Nat.beq n 25 then 3 else bif Nat.beq n 3 then 115 else bif Nat.beq n 20 then 20 else bif Nat.beq n 4 then 4 else n,g:=fun x=>x }
theorem RF : Go.Proofs.SlLaysW.n5 prog WC := ⟨by kernel_rfl, ⟨ "maps.Clone[map[int]tracebook/file.place,int,tracebook/file.place]", by kernel_rfl, zk⟩, by kernel_rfl, by kernel_rfl, fun w => by kernel_rfl, fun w => by kernel_rfl, fun w => by kernel_rfl, by kernel_rfl, fun w => by kernel_rfl, fun w => by kernel_rfl, fun w => by kernel_rfl, by kernel_rfl, fun w => by kernel_rfl, fun w => by kernel_rfl, fun w => by kernel_rfl⟩
theorem UY:tA prog 9 false [.str]:=YB zk
theorem LV:tA prog 121 true [.int .i64,.int .i64]:=HF zk zk zk zk
theorem L2:∀ a b:zT,yW a=yW b→a=b:=by
  intro a b h;cases a;cases b;simpa [yW,SR] using h
theorem WQ:pM prog 121 [.int .i64,.int .i64]:=EW LV zk zk
theorem ZD:tA prog 81 true [.int .i64,.str,.int .i64]:=HF zk zk zk zk
theorem zCY:∀ a b:xJ,z8 a=z8 b→a=b:=by
  intro a b h;cases a;cases b;simpa [z8,qS] using h
theorem zAS:pM prog 81 [.int .i64,.str,.int .i64]:=EW ZD zk zk
theorem zD5:tA prog 73 true [.int .i64,.int .i64,.int .i64,.int .i64,.int .i64]:=HF zk zk zk zk
theorem zBY:∀ a b:yP,z4 a=z4 b→a=b:=by
  rintro ⟨_,_,_,⟨_,_⟩⟩ ⟨_,_,_,⟨_,_⟩⟩ h
  simpa [z4,pR] using h
theorem zDu:pM prog 73 [.int .i64,.int .i64,.int .i64,.int .i64,.int .i64]:=EW zD5 zk zk
theorem TO (zN:z9) (zM:zU) (r:Bool) (h:AA zN zM=some r):y6 prog 5 [] [] [u3 zN,pY zM] [] (.bool r):=by
 refine tI Try.f5 ?_;unfold AA at h;refine sE [iH 0 { id:=0 },iH 1 { id:=1 }] [(2,Pp 0),(3,Pp 1)] [(0,Vb 31 (xI zN)),(1,Vb 26 (vD zM))] 2 (sq ?_);refine x7 (mk [(4,.bool (zB0 zN zM))] [] 0) ?_ ?_
 ·rcases bft (decide ((lN (zN.Data))≤(4000:Int))) with zS | zS
  ·rcases bft (decide (zN.Size≤(20000:Int))) with zX | zX
   ·rcases bft (decide ((lN (zM.Threads))≤(70:Int))) with yH | yH
    ·rcases bft (decide ((lN (zM.Domains))≤(10:Int))) with yM | yM
     ·refine r2 [iH 8 Ht,iH 14 Ht,iH 20 Ht,iH 26 Ht,iN 2 Fb zN.Data,iR 4 zS,iR 3 zX,iN 12 z8 zM.Threads,iR 2 zX,iR 3 yH,iN 18 z6 zM.Domains,iR 2 yH,iR 3 yM,iN 24 z4 zM.Snaps,iR 2 yM] [2,3] [(4,.bool (decide ((lN (zM.Snaps))≤(20:Int))))] [0,1] [] 2 ?_;exact ⟨rfl,(sw [] [] [.a 4 (.bool (zB0 zN zM))] [] (ac (congrArg AV.bool (uF zS (uF zX (uF yH (uF yM rfl)))):(.bool (decide ((lN (zM.Snaps))≤(20:Int))):AV)=.bool (zB0 zN zM)) an))⟩
     ·refine r2 [iH 8 Ht,iH 14 Ht,iH 20 Ht,iG 22 4,iH 26 Hf,iN 2 Fb zN.Data,iR 4 zS,iR 3 zX,iN 12 z8 zM.Threads,iR 2 zX,iR 3 yH,iN 18 z6 zM.Domains,iR 2 yH,iR 5 yM] [2,3] [(4,.bool false)] [0,1] [] 2 ?_;exact ⟨rfl,(sw [] [] [.a 4 (.bool (zB0 zN zM))] [] (ac (congrArg AV.bool (uF zS (uF zX (uF yH (kB yM)))):(.bool false:AV)=.bool (zB0 zN zM)) an))⟩
    ·refine r2 [iH 8 Ht,iH 14 Ht,iG 16 4,iH 20 Hf,iG 22 4,iH 26 Hf,iN 2 Fb zN.Data,iR 4 zS,iR 3 zX,iN 12 z8 zM.Threads,iR 2 zX,iR 5 yH,iZ,iZ,iZ,iZ,iA false] [2,3] [(4,.bool false)] [0,1] [] 2 ?_;exact ⟨rfl,(sw [] [] [.a 4 (.bool (zB0 zN zM))] [] (ac (congrArg AV.bool (uF zS (uF zX (kB yH))):(.bool false:AV)=.bool (zB0 zN zM)) an))⟩
   ·refine r2 [iH 8 Ht,iG 10 4,iH 14 Hf,iG 16 4,iH 20 Hf,iG 22 4,iH 26 Hf,iN 2 Fb zN.Data,iR 4 zS,iR 5 zX,iZ,iZ,iZ,iZ,iA false,iZ,iZ,iZ,iZ,iA false] [2,3] [(4,.bool false)] [0,1] [] 2 ?_;exact ⟨rfl,(sw [] [] [.a 4 (.bool (zB0 zN zM))] [] (ac (congrArg AV.bool (uF zS (kB zX)):(.bool false:AV)=.bool (zB0 zN zM)) an))⟩
  ·refine r2 [iG 5 3,iH 8 Hf,iG 10 4,iH 14 Hf,iG 16 4,iH 20 Hf,iG 22 4,iH 26 Hf,iN 2 Fb zN.Data,iR 4 zS,iZ,iZ,iZ,iZ,iA false,iZ,iZ,iZ,iZ,iA false,iZ,iZ,iZ,iZ,iA false] [2,3] [(4,.bool false)] [0,1] [] 2 ?_;exact ⟨rfl,(sw [] [] [.a 4 (.bool (zB0 zN zM))] [] (ac (congrArg AV.bool (kB zS):(.bool false:AV)=.bool (zB0 zN zM)) an))⟩
 cases h;exact rt rx
theorem zDp (F:Nat) (zO:List (tH)) (r:Bool) (h:CT F zO=some r):y6 prog 6 [] [] [Sq 2 tO zO] [] (.bool r):=by
 refine tI Try.f6 ?_;unfold CT at h;refine sE [] [(0,Sq 2 tO zO)] [] 0 (sq (s0 [iN 1 tO zO] [(7,Sq 2 tO zO),(8,Ii (lN (zO))),(9,Ii 0)] (bE h fun zC zM h=>?_)));refine uD (K1:=kS prog zC 0 (fun q0=>mk [(0,Sq 2 tO zO)] [] 0) Try.f6 (fun q1=>[]) fun q1=>.bool q1) ?_ ?_
 ·replace h:=zM;refine yZ (id:=0) zk ?_;refine w0 [] [] [(0,Sq 2 tO zO),(7,Sq 2 tO zO),(8,Ii (lN (zO))),(9,Ii 0)] [] ?_;refine wP (fun n st=>∃ (zG:Int),st=mk [(0,Sq 2 tO zO),(7,Sq 2 tO zO),(8,Ii (lN (zO))),(9,Ii zG)] [] 0∧CR F zO n zG=some zC) F zk ⟨_,rfl,h⟩ ?_ ?_
  ·rintro _ ⟨_,_,h⟩;exact wQ (h:(none:Option (Unit⊕Bool))=some zC)
  rintro yF _ ⟨zG,rfl,h⟩;replace h:AI F zO (CR F zO yF) zG=some zC:=h;unfold AI at h;refine s0 [] [(10,.bool (decide (zG<(lN (zO)))))] (sq (ch 10 h ?_ ?_))
  rotate_left
  ·intro yN h;refine wN (id:=0) zk ?_;cases h;exact ⟨rfl,(sI 0 [0])⟩
  intro yN h;refine sk (sq ?_);refine yZ (id:=1) zk ?_;refine sq (bE h fun zH zV h=>r2 [iH 2 { id:=0 },iF 0 tO zV] [] [(4,Pp 0)] [] [(0,Vb 41 (M4 zH))] 1 (sq (ad 22 h ?_ ?_ ?_)))
  ·rcases bft (decide ((lN (zH.Snaps))>(10:Int))) with yM | yM
   ·exact rm [iG 5 4,iH 9 Ht,iN 2 z4 zH.Snaps,iR 5 yM] (ort yM)
   ·exact rm [iH 9 Hf,iN 2 z4 zH.Snaps,iR 3 yM,iN 7 z0 zH.Packets,iR 2 yM] (orf yM rfl)
  ·intro xH h;refine s2 [] [0,7,4] [(2,.bool false)] [0] [] 1 ?_;cases h;exact rt ry
  intro xH h;refine sk (s2 [iN 2 z0 zH.Packets] [4] [(24,Sq 4 z0 zH.Packets),(25,Ii (lN (zH.Packets))),(26,Ii 0)] [0] [] 1 (bE h fun zR y9 h=>?_));refine uD (K1:=kS prog zR 0 (fun q0=>mk [(0,Sq 2 tO zO),(7,Sq 2 tO zO),(8,Ii (lN (zO))),(9,Ii zG)] [] 0) Try.f6 (fun q1=>[]) fun q1=>.bool q1) ?_ ?_
  ·replace h:=y9;refine yZ (id:=2) zk ?_;refine w0 [] [] [(0,Sq 2 tO zO),(7,Sq 2 tO zO),(8,Ii (lN (zO))),(9,Ii zG),(24,Sq 4 z0 zH.Packets),(25,Ii (lN (zH.Packets))),(26,Ii 0)] [] ?_;refine wP (fun n st=>∃ (y8:Int),st=mk [(0,Sq 2 tO zO),(7,Sq 2 tO zO),(8,Ii (lN (zO))),(9,Ii zG),(24,Sq 4 z0 zH.Packets),(25,Ii (lN (zH.Packets))),(26,Ii y8)] [] 0∧CB F zH n y8=some zR) F zk ⟨_,rfl,h⟩ ?_ ?_
   ·rintro _ ⟨_,_,h⟩;exact wQ (h:(none:Option (Unit⊕Bool))=some zR)
   rintro qK _ ⟨y8,rfl,h⟩;replace h:DL F zH (CB F zH qK) y8=some zR:=h;unfold DL at h;refine s0 [] [(27,.bool (decide (y8<(lN (zH.Packets)))))] (sq (ch 27 h ?_ ?_))
   rotate_left
   ·intro xV h;refine wN (id:=2) zk ?_;cases h;exact ⟨rfl,(sI 0 [0,7,8,9])⟩
   intro xV h;refine sk (sq ?_);refine yZ (id:=3) zk ?_;refine sq (bE h fun yA xS h=>r2 [iH 2 { id:=0 },iF 0 z0 xS] [] [(6,Pp 0)] [] [(0,Vb 54 (wH yA))] 1 (s2 [iN 2 wF yA.Events] [6] [(33,.bool (decide ((lN (yA.Events))>(60:Int))))] [0] [] 1 (ch 33 h ?_ ?_)))
   rotate_left
   ·intro vY h;refine sk (r0 [] [(26,Ii (zI (y8+(1:Int))))] ?_);exact ⟨_,(sI 0 [0,7,8,9,24,25,26]),_,rfl,h⟩
   intro vY h;refine s1 [] [0,7,24] [(2,.bool false)] ?_;cases h;exact rt ry
  intro e st1 hk;rcases zR with yD | xW
  rotate_left
  ·obtain ⟨rfl,hf⟩:=hk;cases h;exact ⟨_,Sub.refl _ _,rfl,hf⟩
  obtain ⟨rfl,hs⟩:=hk;refine ⟨_,hs,?_⟩;refine r0 [] [(9,Ii (zI (zG+(1:Int))))] ?_;exact ⟨_,(sI 0 [0,7,8,9]),_,rfl,h⟩
 intro e st1 hk;rcases zC with kK | nZ
 rotate_left
 ·obtain ⟨rfl,hf⟩:=hk;cases h;exact ⟨st1,Sub.refl _ _,.inr rfl,hf⟩
 obtain ⟨rfl,hs⟩:=hk;refine ⟨_,hs,?_⟩;refine s1 [iN 1 tO zO] [0] [(2,.bool (decide ((lN (zO))≤(6:Int))))] ?_;cases h;exact rt rx
theorem T5 (x9:Int) (r:z9×Int) (h:C5 x9=some r):y6 prog 8 [] [] [Ii x9] [] (.tuple [u3 r.1,Ii r.2]):=by
 refine tI Try.f8 ?_;unfold C5 at h;refine sE [iH 0 { id:=0 }] [(0,Ii x9),(2,Pp 0)] [(0,qY)] 1 (sq (ad 9 h ?_ ?_ ?_))
 ·rcases bft (decide (x9<(1:Int))) with zS | zS
  ·exact rm [iG 3 2,iH 5 Ht,iR 3 zS] (ort zS)
  ·exact rm [iH 5 Hf,iR 3 zS] (orf zS rfl)
 ·intro yN h;refine s0 [] [(3,Ii 2)] (wz [0] [] [] [0] [(2,Pp 0),(3,Ii 2)] [(0,Vb 31 (xI zL0))] (ar 31 (ar true (ar (Ii 0) (ar ([]:List AV) (ar (Ii 0) (ar (Ii 0) (ar (.bool false:AV) an))))))) ?_);cases h;exact rt rx
 intro yN h;refine sk (s2 [] [] [(3,Ii 0)] [] [(0,Vb 31 [Ii x9,.nilsl,Ii 0,Ii (-1),.bool false])] 1 (wz [0] [] [] [0] [(2,Pp 0),(3,Ii 0)] [(0,Vb 31 (xI (⟨x9,[],(0:Int),(-1:Int),false⟩:z9)))] (ar 31 (ar true (ar (Ii x9) (ar ([]:List AV) (ar (Ii 0) (ar (Ii (-1)) (ar (.bool false:AV) an))))))) ?_));cases h;exact rt rx
theorem CN (r:zU) (h:HX=some r):y6 prog 17 [] [] [] [] (pY r):=by
 refine tI Try.f17 ?_;unfold HX at h;refine sE [iH 0 { id:=0 }] [(0,Pp 0)] [(0,Vb 26 [.nilsl,.nilsl,.nilsl])] 1 (s2 [iH 1 { id:=1 },iH 3 { id:=2 }] [] [] [] [(0,Vb 26 [.own 1 1,.own 2 1,.nilsl]),(1,Rb 81 3 (Mp z8 ([(⟨(1:Int),([116,49]:List Int),(0:Int)⟩:xJ)]:List xJ))),(2,Rb 83 2 (Mp z6 ([(⟨(0:Int),(0:Int)⟩:y7)]:List y7)))] 3 (wz [0] [1,2] [] [0] [(0,Pp 0)] [(0,Vb 26 (vD (⟨([(⟨(1:Int),([116,49]:List Int),(0:Int)⟩:xJ)]:List xJ),([(⟨(0:Int),(0:Int)⟩:y7)]:List y7),[]⟩:zU)))] (ar 26 (ar true (ac (by first | (simp;done) | (simp;omega):1=((List.map z8 ([(⟨(1:Int),([116,49]:List Int),(0:Int)⟩:xJ)]:List xJ))).length) (ac (by first | (simp;done) | (simp;omega):1=((List.map z6 ([(⟨(0:Int),(0:Int)⟩:y7)]:List y7))).length) (ar 3 (ar (Mp z8 ([(⟨(1:Int),([116,49]:List Int),(0:Int)⟩:xJ)]:List xJ)) (ar true (ar 2 (ar (Mp z6 ([(⟨(0:Int),(0:Int)⟩:y7)]:List y7)) (ar true (ar ([]:List AV) an))))))))))) ?_));cases h;exact rt rx
theorem rA (zN:z9) (r:Int) (h:cJ zN=some r):y6 prog 20 [] [] [u3 zN] [] (Ii r):=by
 refine tI Try.f20 ?_;unfold cJ at h;refine sE [iH 0 { id:=0 }] [(1,Pp 0)] [(0,Vb 31 (xI zN))] 1 (sq (sq ?_));refine x7 (mk [(41,.bool (zB1 zN))] [] 0) ?_ ?_
 ·rcases bft (decide (zN.Size<(1:Int))) with zS | zS
  ·refine r2 [iG 4 3,iH 7 Ht,iG 9 6,iH 15 Ht,iG 17 3,iH 20 Ht,iG 22 6,iH 28 Ht,iG 30 3,iH 33 Ht,iG 35 3,iH 38 Ht,iR 4 zS,iX 6,iA true,iX 3,iA true,iX 6,iA true,iX 3,iA true,iX 3,iA true] [1] [(41,.bool true)] [0] [] 1 ?_;exact ⟨rfl,(sw [] [] [.a 41 (.bool (zB1 zN))] [] (ac (congrArg AV.bool (ort zS):(.bool true:AV)=.bool (zB1 zN)) an))⟩
  ·rcases bft (decide (zN.Size>(1048576:Int))) with zX | zX
   ·refine r2 [iH 7 Hf,iG 9 6,iH 15 Ht,iG 17 3,iH 20 Ht,iG 22 6,iH 28 Ht,iG 30 3,iH 33 Ht,iG 35 3,iH 38 Ht,iR 4 zS,iR 7 zX,iX 3,iA true,iX 6,iA true,iX 3,iA true,iX 3,iA true] [1] [(41,.bool true)] [0] [] 1 ?_;exact ⟨rfl,(sw [] [] [.a 41 (.bool (zB1 zN))] [] (ac (congrArg AV.bool (orf zS (ort zX)):(.bool true:AV)=.bool (zB1 zN)) an))⟩
   ·rcases bft (decide ((lN (zN.Data))>zN.Size)) with yH | yH
    ·refine r2 [iH 7 Hf,iH 15 Hf,iG 17 3,iH 20 Ht,iG 22 6,iH 28 Ht,iG 30 3,iH 33 Ht,iG 35 3,iH 38 Ht,iR 4 zS,iR 3 zX,iN 11 Fb zN.Data,iR 4 zX,iR 4 yH,iX 6,iA true,iX 3,iA true,iX 3,iA true] [1] [(41,.bool true)] [0] [] 1 ?_;exact ⟨rfl,(sw [] [] [.a 41 (.bool (zB1 zN))] [] (ac (congrArg AV.bool (orf zS (orf zX (ort yH))):(.bool true:AV)=.bool (zB1 zN)) an))⟩
    ·rcases bft (decide (zN.Durable<(0:Int))) with yM | yM
     ·refine r2 [iH 7 Hf,iH 15 Hf,iH 20 Hf,iG 22 6,iH 28 Ht,iG 30 3,iH 33 Ht,iG 35 3,iH 38 Ht,iR 4 zS,iR 3 zX,iN 11 Fb zN.Data,iR 4 zX,iR 4 yH,iR 7 yM,iX 3,iA true,iX 3,iA true] [1] [(41,.bool true)] [0] [] 1 ?_;exact ⟨rfl,(sw [] [] [.a 41 (.bool (zB1 zN))] [] (ac (congrArg AV.bool (orf zS (orf zX (orf yH (ort yM)))):(.bool true:AV)=.bool (zB1 zN)) an))⟩
     ·rcases bft (decide (zN.Durable>(lN (zN.Data)))) with wD | wD
      ·refine r2 [iH 7 Hf,iH 15 Hf,iH 20 Hf,iH 28 Hf,iG 30 3,iH 33 Ht,iG 35 3,iH 38 Ht,iR 4 zS,iR 3 zX,iN 11 Fb zN.Data,iR 4 zX,iR 4 yH,iR 5 yM,iN 26 Fb zN.Data,iR 2 yM,iR 4 wD,iX 3,iA true] [1] [(41,.bool true)] [0] [] 1 ?_;exact ⟨rfl,(sw [] [] [.a 41 (.bool (zB1 zN))] [] (ac (congrArg AV.bool (orf zS (orf zX (orf yH (orf yM (ort wD))))):(.bool true:AV)=.bool (zB1 zN)) an))⟩
      ·rcases bft (decide (zN.Left<(-1:Int))) with wK | wK
       ·refine r2 [iH 7 Hf,iH 15 Hf,iH 20 Hf,iH 28 Hf,iH 33 Hf,iG 35 3,iH 38 Ht,iR 4 zS,iR 3 zX,iN 11 Fb zN.Data,iR 4 zX,iR 4 yH,iR 5 yM,iN 26 Fb zN.Data,iR 2 yM,iR 4 wD,iR 4 wK] [1] [(41,.bool true)] [0] [] 1 ?_;exact ⟨rfl,(sw [] [] [.a 41 (.bool (zB1 zN))] [] (ac (congrArg AV.bool (orf zS (orf zX (orf yH (orf yM (orf wD (ort wK)))))):(.bool true:AV)=.bool (zB1 zN)) an))⟩
       ·refine r2 [iH 7 Hf,iH 15 Hf,iH 20 Hf,iH 28 Hf,iH 33 Hf,iH 38 Hf,iR 4 zS,iR 3 zX,iN 11 Fb zN.Data,iR 4 zX,iR 4 yH,iR 5 yM,iN 26 Fb zN.Data,iR 2 yM,iR 4 wD,iR 4 wK] [1] [(41,.bool (decide (zN.Left>(1048576:Int))))] [0] [] 1 ?_;exact ⟨rfl,(sw [] [] [.a 41 (.bool (zB1 zN))] [] (ac (congrArg AV.bool (orf zS (orf zX (orf yH (orf yM (orf wD (orf wK rfl)))))):(.bool (decide (zN.Left>(1048576:Int))):AV)=.bool (zB1 zN)) an))⟩
 refine ch 41 h ?_ ?_
 ·intro yN h;refine s0 [] [(2,Ii 2)] ?_;cases h;exact rt rx
 intro yN h;refine sk (s0 [] [(2,Ii 0)] ?_);cases h;exact rt rx
theorem zBc (zF:List Int) (zB:Int) (r:Int) (h:EB zF zB=some r):y6 prog 100 [] [] [.str zF,Iu zB] [] (Ii r):=by
 refine tI Try.f100 ?_;unfold EB at h;refine sE [] [(0,.str zF),(1,Iu zB)] [] 0 (s0 [iC (zBN:E6 prog 101)] [(4,Ii (jP zF zB))] ?_);cases h;exact rt rx
theorem dO (zF:List Int) (zB:Int) (r:Int) (h:aX zF zB=some r):y6 prog 97 [] [] [.str zF,Iu zB] [] (Ii r):=by
 refine tI Try.f97 ?_;unfold aX at h;refine sE [] [(0,.str zF),(1,Iu zB)] [] 0 (sq (bE h fun zA zM h=>r0 [iK 2 {} (zBc zF zB zA zM)] [(4,Ii zA)] ?_));cases h;exact rt rx
theorem XY (zB:Int) (r:Bool) (h:B8 zB=some r):y6 prog 83 [] [] [Iu zB] [] (.bool r):=by
 refine tI Try.f83 ?_;unfold B8 at h;refine sE [] [(0,Iu zB)] [] 0 (sq (bE h fun zK zV h=>?_));refine x7 (mk [(2,.bool zK)] [] 0) ?_ ?_
 ·replace h:=zV;rcases bft (decide (zB≥(97:Int))) with zS | zS
  ·replace h:=xP zS h;rcases bft (decide (zB≤(122:Int))) with zX | zX
   ·replace h:=xP zX h;refine r0 [iH 5 Ht,iG 7 3,iH 12 Hg,iH 13 Ht,iG 15 3,iH 20 Hg,iH 21 Ht,iG 23 3,iH 26 Ht,iR 3 zS,iR 5 zX,iX 4,iA true,iX 3,iA true] [(2,.bool true)] ?_;cases h;exact ⟨rfl,(sI 0 [2])⟩
   ·replace h:=xQ zX h;rcases bft (decide (zB≥(65:Int))) with yH | yH
    ·replace h:=xP yH h;rcases bft (decide (zB≤(90:Int))) with yM | yM
     ·replace h:=xP yM h;refine r0 [iH 5 Ht,iH 12 Ht,iH 13 Hf,iG 15 3,iH 20 Hg,iH 21 Ht,iG 23 3,iH 26 Ht,iR 3 zS,iR 3 zX,iR 2 yH,iC zX,iC yH,iC zX,iR 5 yM,iX 3,iA true] [(2,.bool true)] ?_;cases h;exact ⟨rfl,(sI 0 [2])⟩
     ·replace h:=xQ yM h;rcases bft (decide (zB≥(48:Int))) with wD | wD
      ·replace h:=xP wD h;rcases bft (decide (zB≤(57:Int))) with wK | wK
       ·replace h:=xP wK h;refine r0 [iH 5 Ht,iH 12 Ht,iH 13 Hf,iH 20 Ht,iH 21 Hf,iG 23 3,iH 26 Ht,iR 3 zS,iR 3 zX,iR 2 yH,iC zX,iC yH,iC zX,iR 3 yM,iR 2 wD,iC yM,iC wD,iC yM,iR 4 wK] [(2,.bool true)] ?_;cases h;exact ⟨rfl,(sI 0 [2])⟩
       ·replace h:=xQ wK h;refine bE h fun zA zM h=>r0 [iH 5 Ht,iH 12 Ht,iH 13 Hf,iH 20 Ht,iH 21 Hf,iH 26 Hf,iR 3 zS,iR 3 zX,iR 2 yH,iC zX,iC yH,iC zX,iR 3 yM,iR 2 wD,iC yM,iC wD,iC yM,iR 2 wK,iK 24 {} (dO ([95,46,58,47,60,62,36,42,126,45]:List Int) zB zA zM),iR 2 wK] [(2,.bool (decide (zA≥(0:Int))))] ?_;cases h;exact ⟨rfl,(sI 0 [2])⟩
      ·replace h:=xQ wD h;refine bE h fun zA zM h=>r0 [iH 5 Ht,iH 12 Ht,iH 13 Hf,iG 18 2,iH 20 Hf,iH 21 Hf,iH 26 Hf,iR 3 zS,iR 3 zX,iR 2 yH,iC zX,iC yH,iC zX,iR 3 yM,iR 2 wD,iC yM,iC wD,iC yM,iQ 2 false,iK 24 {} (dO ([95,46,58,47,60,62,36,42,126,45]:List Int) zB zA zM),iQ 2 false] [(2,.bool (decide (zA≥(0:Int))))] ?_;cases h;exact ⟨rfl,(sI 0 [2])⟩
    ·replace h:=xQ yH h;rcases bft (decide (zB≥(48:Int))) with wE | wE
     ·replace h:=xP wE h;rcases bft (decide (zB≤(57:Int))) with wL | wL
      ·replace h:=xP wL h;refine r0 [iH 5 Ht,iG 10 2,iH 12 Hf,iH 13 Hf,iH 20 Ht,iH 21 Hf,iG 23 3,iH 26 Ht,iR 3 zS,iR 3 zX,iR 2 yH,iC zX,iC yH,iC zX,iQ 3 false,iR 2 wE,iA false,iC wE,iA false,iR 4 wL] [(2,.bool true)] ?_;cases h;exact ⟨rfl,(sI 0 [2])⟩
      ·replace h:=xQ wL h;refine bE h fun zA zM h=>r0 [iH 5 Ht,iG 10 2,iH 12 Hf,iH 13 Hf,iH 20 Ht,iH 21 Hf,iH 26 Hf,iR 3 zS,iR 3 zX,iR 2 yH,iC zX,iC yH,iC zX,iQ 3 false,iR 2 wE,iA false,iC wE,iA false,iR 2 wL,iK 24 {} (dO ([95,46,58,47,60,62,36,42,126,45]:List Int) zB zA zM),iR 2 wL] [(2,.bool (decide (zA≥(0:Int))))] ?_;cases h;exact ⟨rfl,(sI 0 [2])⟩
     ·replace h:=xQ wE h;refine bE h fun zA zM h=>r0 [iH 5 Ht,iG 10 2,iH 12 Hf,iH 13 Hf,iG 18 2,iH 20 Hf,iH 21 Hf,iH 26 Hf,iR 3 zS,iR 3 zX,iR 2 yH,iC zX,iC yH,iC zX,iQ 3 false,iR 2 wE,iA false,iC wE,iQ 3 false,iK 24 {} (dO ([95,46,58,47,60,62,36,42,126,45]:List Int) zB zA zM),iQ 2 false] [(2,.bool (decide (zA≥(0:Int))))] ?_;cases h;exact ⟨rfl,(sI 0 [2])⟩
  ·replace h:=xQ zS h;rcases bft (decide (zB≥(65:Int))) with uC | uC
   ·replace h:=xP uC h;rcases bft (decide (zB≤(90:Int))) with vN | vN
    ·replace h:=xP vN h;refine r0 [iG 3 2,iH 5 Hf,iH 12 Ht,iH 13 Hf,iG 15 3,iH 20 Hg,iH 21 Ht,iG 23 3,iH 26 Ht,iR 3 zS,iQ 3 false,iR 2 uC,iA false,iC uC,iA false,iR 5 vN,iX 3,iA true] [(2,.bool true)] ?_;cases h;exact ⟨rfl,(sI 0 [2])⟩
    ·replace h:=xQ vN h;rcases bft (decide (zB≥(48:Int))) with wY | wY
     ·replace h:=xP wY h;rcases bft (decide (zB≤(57:Int))) with uI | uI
      ·replace h:=xP uI h;refine r0 [iG 3 2,iH 5 Hf,iH 12 Ht,iH 13 Hf,iH 20 Ht,iH 21 Hf,iG 23 3,iH 26 Ht,iR 3 zS,iQ 3 false,iR 2 uC,iA false,iC uC,iA false,iR 3 vN,iR 2 wY,iC vN,iC wY,iC vN,iR 4 uI] [(2,.bool true)] ?_;cases h;exact ⟨rfl,(sI 0 [2])⟩
      ·replace h:=xQ uI h;refine bE h fun zA zM h=>r0 [iG 3 2,iH 5 Hf,iH 12 Ht,iH 13 Hf,iH 20 Ht,iH 21 Hf,iH 26 Hf,iR 3 zS,iQ 3 false,iR 2 uC,iA false,iC uC,iA false,iR 3 vN,iR 2 wY,iC vN,iC wY,iC vN,iR 2 uI,iK 24 {} (dO ([95,46,58,47,60,62,36,42,126,45]:List Int) zB zA zM),iR 2 uI] [(2,.bool (decide (zA≥(0:Int))))] ?_;cases h;exact ⟨rfl,(sI 0 [2])⟩
     ·replace h:=xQ wY h;refine bE h fun zA zM h=>r0 [iG 3 2,iH 5 Hf,iH 12 Ht,iH 13 Hf,iG 18 2,iH 20 Hf,iH 21 Hf,iH 26 Hf,iR 3 zS,iQ 3 false,iR 2 uC,iA false,iC uC,iA false,iR 3 vN,iR 2 wY,iC vN,iC wY,iC vN,iQ 2 false,iK 24 {} (dO ([95,46,58,47,60,62,36,42,126,45]:List Int) zB zA zM),iQ 2 false] [(2,.bool (decide (zA≥(0:Int))))] ?_;cases h;exact ⟨rfl,(sI 0 [2])⟩
   ·replace h:=xQ uC h;rcases bft (decide (zB≥(48:Int))) with uL | uL
    ·replace h:=xP uL h;rcases bft (decide (zB≤(57:Int))) with qL | qL
     ·replace h:=xP qL h;refine r0 [iG 3 2,iH 5 Hf,iG 10 2,iH 12 Hf,iH 13 Hf,iH 20 Ht,iH 21 Hf,iG 23 3,iH 26 Ht,iR 3 zS,iQ 3 false,iR 2 uC,iA false,iC uC,iQ 4 false,iR 2 uL,iA false,iC uL,iA false,iR 4 qL] [(2,.bool true)] ?_;cases h;exact ⟨rfl,(sI 0 [2])⟩
     ·replace h:=xQ qL h;refine bE h fun zA zM h=>r0 [iG 3 2,iH 5 Hf,iG 10 2,iH 12 Hf,iH 13 Hf,iH 20 Ht,iH 21 Hf,iH 26 Hf,iR 3 zS,iQ 3 false,iR 2 uC,iA false,iC uC,iQ 4 false,iR 2 uL,iA false,iC uL,iA false,iR 2 qL,iK 24 {} (dO ([95,46,58,47,60,62,36,42,126,45]:List Int) zB zA zM),iR 2 qL] [(2,.bool (decide (zA≥(0:Int))))] ?_;cases h;exact ⟨rfl,(sI 0 [2])⟩
    ·replace h:=xQ uL h;refine bE h fun zA zM h=>r0 [iG 3 2,iH 5 Hf,iG 10 2,iH 12 Hf,iH 13 Hf,iG 18 2,iH 20 Hf,iH 21 Hf,iH 26 Hf,iR 3 zS,iQ 3 false,iR 2 uC,iA false,iC uC,iQ 4 false,iR 2 uL,iA false,iC uL,iQ 3 false,iK 24 {} (dO ([95,46,58,47,60,62,36,42,126,45]:List Int) zB zA zM),iQ 2 false] [(2,.bool (decide (zA≥(0:Int))))] ?_;cases h;exact ⟨rfl,(sI 0 [2])⟩
 cases h;exact rt rx
theorem D7 (F:Nat) (zF:List Int) (r:Int) (h:cT F zF=some r):y6 prog 60 [] [] [.str zF] [] (Ii r):=by
 refine tI Try.f60 ?_;unfold cT at h;refine sE [] [(0,.str zF)] [] 0 (sq (ad 10 h ?_ ?_ ?_))
 ·rcases bft (zF==([]:List Int)) with zS | zS
  ·exact rm [iG 3 3,iH 6 Ht,iR 4 zS] (ort zS)
  ·exact rm [iH 6 Hf,iR 4 zS] (orf zS rfl)
 ·intro yN h;refine s0 [] [(2,Ii 3)] ?_;cases h;exact rt rx
 intro yN h;refine sk (sq (s0 [] [(12,Ii (lN (zF))),(13,Ii 0)] (bE h fun zC zM h=>?_)));refine uD (K1:=kS prog zC 0 (fun q0=>mk [] [] 0) Try.f60 (fun q1=>[]) fun q1=>Ii q1) ?_ ?_
 ·replace h:=zM;refine yZ (id:=0) zk ?_;refine w0 [] [] [(0,.str zF),(12,Ii (lN (zF))),(13,Ii 0)] [] ?_;refine wP (fun n st=>∃ (zG:Int),st=mk [(0,.str zF),(12,Ii (lN (zF))),(13,Ii zG)] [] 0∧DW F zF n zG=some zC) F zk ⟨_,rfl,h⟩ ?_ ?_
  ·rintro _ ⟨_,_,h⟩;exact wQ (h:(none:Option (Unit⊕Int))=some zC)
  rintro yF _ ⟨zG,rfl,h⟩;replace h:DR F zF (DW F zF yF) zG=some zC:=h;unfold DR at h;refine s0 [] [(14,.bool (decide (zG<(lN (zF)))))] (sq (ch 14 h ?_ ?_))
  rotate_left
  ·intro xH h;refine wN (id:=0) zk ?_;cases h;exact ⟨rfl,(sI 0 [])⟩
  intro xH h;refine sk (sq ?_);refine yZ (id:=1) zk ?_;refine s0 [] [(3,Ii zG)] (sq (bE h fun zB zV h=>bE h fun zA y9 h=>r0 [iH 2 { z:=zB },iC zV,iK 3 {} (XY zB zA y9)] [(20,.bool (!zA))] (ch 20 h ?_ ?_)))
  rotate_left
  ·intro xV h;refine sk (r0 [] [(13,Ii (zI (zG+(1:Int))))] ?_);exact ⟨_,(sI 0 [0,12,13]),_,rfl,h⟩
  intro xV h;refine s0 [] [(2,Ii 3)] ?_;cases h;exact rt ry
 intro e st1 hk;rcases zC with yD | xW
 rotate_left
 ·obtain ⟨rfl,hf⟩:=hk;cases h;exact ⟨st1,Sub.refl _ _,.inr rfl,hf⟩
 obtain ⟨rfl,hs⟩:=hk;refine ⟨_,hs,?_⟩;refine s0 [] [(2,Ii 0)] ?_;cases h;exact rt rx
theorem zBQ (F:Nat) (jH:xJ) (r:Int) (h:A3 F jH=some r):y6 prog 38 [] [] [z8 jH] [] (Ii r):=by
 refine tI Try.f38 ?_;unfold A3 at h;refine sE [iH 0 { id:=0 }] [(1,Pp 0)] [(0,Vb 81 (qS jH))] 1 (sq (ad 20 h ?_ ?_ ?_))
 ·rcases bft (decide (jH.Id<(0:Int))) with zS | zS
  ·exact rm [iG 4 3,iH 7 Ht,iG 9 3,iH 12 Ht,iG 14 3,iH 17 Ht,iR 4 zS,iX 3,iA true,iX 3,iA true] (ort zS)
  ·rcases bft (decide (jH.Id>(1000000000000000:Int))) with zX | zX
   ·exact rm [iH 7 Hf,iG 9 3,iH 12 Ht,iG 14 3,iH 17 Ht,iR 4 zS,iR 4 zX,iX 3,iA true] (orf zS (ort zX))
   ·rcases bft (decide (jH.Domain<(0:Int))) with yH | yH
    ·exact rm [iH 7 Hf,iH 12 Hf,iG 14 3,iH 17 Ht,iR 4 zS,iR 4 zX,iR 4 yH] (orf zS (orf zX (ort yH)))
    ·exact rm [iH 7 Hf,iH 12 Hf,iH 17 Hf,iR 4 zS,iR 4 zX,iR 4 yH] (orf zS (orf zX (orf yH rfl)))
 ·intro yN h;refine s2 [] [1] [(2,Ii 2)] [0] [] 1 ?_;cases h;exact rt rx
 intro yN h;refine sk (sq (bE h fun zA zM h=>r2 [iK 2 {} (D7 F jH.Name zA zM)] [1] [(2,Ii zA)] [0] [] 1 ?_));cases h;exact rt rx
theorem WT (zH:y7) (zY:Int) (r:Bool) (h:EJ zH zY=some r):y6 prog 89 [(.var 3 [Ii zY])] [] [z6 zH,Pp 0] [(.var 3 [Ii zY])] (.bool r):=by
 refine tI Try.f89 ?_;unfold EJ at h;refine sE [iH 0 { id:=1 }] [(1,Pp 0),(2,Pp 1)] [(0,Vb 3 [Ii zY]),(1,Vb 83 (oZ zH))] 2 (s2 [] [1,2] [(3,.bool (zH.Id==zY))] [1] [] 2 ?_);cases h;exact rt rx
theorem YS (F:Nat) (zF:List (y7)) (zB:Int) (r:Int) (h:C3 F zF zB=some r):y6 prog 61 [(.var 3 [Ii zB])] [] [Sq 2 z6 zF,.fn 89 [Pp 0]] [(.var 3 [Ii zB])] (Ii r):=by
 refine tI Try.f61 ?_;unfold C3 at h;refine sE [] [(0,Sq 2 z6 zF),(1,.fn 89 [Pp 0])] [(0,Vb 3 [Ii zB])] 1 (sq (s0 [iN 1 z6 zF] [(7,Ii (lN (zF))),(8,Ii 0)] (bE h fun zC zM h=>?_)));refine uD (K1:=kS prog zC 1 (fun q0=>mk [] [(0,Vb 3 [Ii zB])] 1) Try.f61 (fun q1=>[(.var 3 [Ii zB])]) fun q1=>Ii q1) ?_ ?_
 ·replace h:=zM;refine yZ (id:=0) zk ?_;refine w0 [0] [] [(0,Sq 2 z6 zF),(1,.fn 89 [Pp 0]),(7,Ii (lN (zF))),(8,Ii 0)] [(0,Vb 3 [Ii zB])] ?_;refine wP (fun n st=>∃ (zG:Int),st=mk [(0,Sq 2 z6 zF),(1,.fn 89 [Pp 0]),(7,Ii (lN (zF))),(8,Ii zG)] [(0,Vb 3 [Ii zB])] 1∧B6 F zF zB n zG=some zC) F zk ⟨_,rfl,h⟩ ?_ ?_
  ·rintro _ ⟨_,_,h⟩;exact wQ (h:(none:Option (Unit⊕Int))=some zC)
  rintro yF _ ⟨zG,rfl,h⟩;replace h:gO F zF zB (B6 F zF zB yF) zG=some zC:=h;unfold gO at h;refine s0 [] [(9,.bool (decide (zG<(lN (zF)))))] (sq (ch 9 h ?_ ?_))
  rotate_left
  ·intro yN h;refine wN (id:=0) zk ?_;cases h;exact ⟨rfl,(sI 1 [])⟩
  intro yN h;refine sk (sq ?_);refine yZ (id:=1) zk ?_;refine s0 [] [(5,Ii zG)] (sq (bE h fun zH zV h=>bE h fun zA y9 h=>r0 [iF 3 z6 zV,iK 5 { ids:=[0] } (WT zH zB zA y9)] [(16,.bool zA)] (ch 16 h ?_ ?_)))
  rotate_left
  ·intro xH h;refine sk (r0 [] [(8,Ii (zI (zG+(1:Int))))] ?_);exact ⟨_,(sI 1 [0,1,7,8]),_,rfl,h⟩
  intro xH h;refine s1 [] [0,1] [(4,Ii zG)] ?_;cases h;exact rt ry
 intro e st1 hk;rcases zC with yD | xW
 rotate_left
 ·obtain ⟨rfl,hf⟩:=hk;cases h;exact ⟨st1,Sub.refl _ _,.inr rfl,hf⟩
 obtain ⟨rfl,hs⟩:=hk;refine ⟨_,hs,?_⟩;refine s0 [] [(4,Ii (-1))] ?_;cases h;exact rt rx
theorem KX (F:Nat) (zN:List (y7)) (id_1:Int) (r:Int) (h:gH F zN id_1=some r):y6 prog 74 [] [] [Sq 2 z6 zN,Ii id_1] [] (Ii r):=by
 refine tI Try.f74 ?_;unfold gH at h;refine sE [iH 0 { id:=0 }] [(0,Sq 2 z6 zN),(3,Pp 0)] [(0,Vb 3 [Ii id_1])] 1 (sq (bE h fun zA zM h=>r2 [iK 2 { ids:=[0] } (YS F zN id_1 zA zM)] [0,3] [(4,Ii zA)] [0] [] 1 ?_));cases h;exact rt rx
theorem X5 (F:Nat) (zN:List (y7)) (r:Int) (h:BS F zN=some r):y6 prog 49 [] [] [Sq 2 z6 zN] [] (Ii r):=by
 refine tI Try.f49 ?_;unfold BS at h;refine sE [] [(0,Sq 2 z6 zN)] [] 0 (sq (s0 [iN 1 z6 zN] [(5,Sq 2 z6 zN),(6,Ii (lN (zN))),(7,Ii 0)] (bE h fun zC zM h=>?_)));refine uD (K1:=kS prog zC 0 (fun q0=>mk [] [] 0) Try.f49 (fun q1=>[]) fun q1=>Ii q1) ?_ ?_
 ·replace h:=zM;refine yZ (id:=0) zk ?_;refine w0 [] [] [(0,Sq 2 z6 zN),(5,Sq 2 z6 zN),(6,Ii (lN (zN))),(7,Ii 0)] [] ?_;refine wP (fun n st=>∃ (zG:Int),st=mk [(0,Sq 2 z6 zN),(5,Sq 2 z6 zN),(6,Ii (lN (zN))),(7,Ii zG)] [] 0∧AC F zN n zG=some zC) F zk ⟨_,rfl,h⟩ ?_ ?_
  ·rintro _ ⟨_,_,h⟩;exact wQ (h:(none:Option (Unit⊕Int))=some zC)
  rintro yF _ ⟨zG,rfl,h⟩;replace h:i9 F zN (AC F zN yF) zG=some zC:=h;unfold i9 at h;refine s0 [] [(8,.bool (decide (zG<(lN (zN)))))] (sq (ch 8 h ?_ ?_))
  rotate_left
  ·intro yN h;refine wN (id:=0) zk ?_;cases h;exact ⟨rfl,(sI 0 [])⟩
  intro yN h;refine sk (sq ?_);refine yZ (id:=1) zk ?_;refine sq (bE h fun zH zV h=>r2 [iH 3 { id:=0 },iF 1 z6 zV] [] [(3,Ii zG),(4,Pp 0)] [] [(0,Vb 83 (oZ zH))] 1 (sq (ad 29 h ?_ ?_ ?_)))
  ·rcases bft (decide (zH.Id<(0:Int))) with vN | vN
   ·exact rm [iG 4 3,iH 7 Ht,iG 9 3,iH 12 Ht,iG 14 3,iH 17 Ht,iR 4 vN,iX 3,iA true,iX 3,iA true] (ort vN)
   ·rcases bft (decide (zH.Id≥(8:Int))) with wY | wY
    ·exact rm [iH 7 Hf,iG 9 3,iH 12 Ht,iG 14 3,iH 17 Ht,iR 4 vN,iR 4 wY,iX 3,iA true] (orf vN (ort wY))
    ·rcases bft (decide (zH.Ppm<(0:Int))) with uI | uI
     ·exact rm [iH 7 Hf,iH 12 Hf,iG 14 3,iH 17 Ht,iR 4 vN,iR 4 wY,iR 4 uI] (orf vN (orf wY (ort uI)))
     ·exact rm [iH 7 Hf,iH 12 Hf,iH 17 Hf,iR 4 vN,iR 4 wY,iR 4 uI] (orf vN (orf wY (orf uI rfl)))
  ·intro xH h;refine s2 [] [0,5,4] [(2,Ii 2)] [0] [] 1 ?_;cases h;exact rt ry
  intro xH h;refine sk (sq (nE h fun y9 h=>bE h fun zA xS h=>r2 [iS 2 z6 zN (0:Int) zG (by decide) y9.1 y9.2,iK 5 {} (KX F (sub zN (0:Int) zG) zH.Id zA xS)] [4] [(36,.bool (decide (zA≥(0:Int))))] [0] [] 1 (ch 36 h ?_ ?_)))
  rotate_left
  ·intro xV h;refine sk (r0 [] [(7,Ii (zI (zG+(1:Int))))] ?_);exact ⟨_,(sI 0 [0,5,6,7]),_,rfl,h⟩
  intro xV h;refine s1 [] [0,5] [(2,Ii 4)] ?_;cases h;exact rt ry
 intro e st1 hk;rcases zC with yD | xW
 rotate_left
 ·obtain ⟨rfl,hf⟩:=hk;cases h;exact ⟨st1,Sub.refl _ _,.inr rfl,hf⟩
 obtain ⟨rfl,hs⟩:=hk;refine ⟨_,hs,?_⟩;refine s0 [] [(2,Ii 0)] ?_;cases h;exact rt rx
theorem K7 (yF:Int) (r:Bool) (h:oU yF=some r):y6 prog 75 [] [] [Ii yF] [] (.bool r):=by
 refine tI Try.f75 ?_;unfold oU at h;refine sE [] [(0,Ii yF)] [] 0 (sq (am 2 (decide (yF≥(0:Int))&&decide (yF≤(1000000000000:Int))) ?_ ?_))
 ·rcases bft (decide (yF≥(0:Int))) with zS | zS
  ·exact rm [iH 5 Ht,iR 3 zS] (uF zS rfl)
  ·exact rm [iG 3 2,iH 5 Hf,iR 3 zS] (kB zS)
 cases h;exact rt rx
theorem WV (F:Nat) (zN:List (y7)) (zH:yP) (r:Int) (h:D4 F zN zH=some r):y6 prog 50 [] [] [Sq 2 z6 zN,z4 zH] [] (Ii r):=by
 refine tI Try.f50 ?_;unfold D4 at h;refine sE [iH 0 { id:=0 }] [(0,Sq 2 z6 zN),(3,Pp 0)] [(0,Vb 73 (pR zH))] 1 (sq ?_);refine yZ (id:=0) zk ?_;refine sq (sq (bE h fun zA zM h=>r0 [iK 3 {} (KX F zN zH.A zA zM)] [(5,.bool (decide (zA<(0:Int))))] (bE h fun zC zV h=>?_)));refine x7 (mk [(3,Pp 0),(5,.bool zC)] [(0,Vb 73 (pR zH))] 1) ?_ ?_
 ·replace h:=zV;refine ch 5 h ?_ ?_
  ·intro yN h;refine sk ?_;cases h;exact ⟨rfl,(sI 1 [3,5])⟩
  intro yN h;refine bE h fun zJ y9 h=>r1 [iK 3 {} (KX F zN zH.B zJ y9)] [0] [(5,.bool (decide (zJ<(0:Int))))] ?_;cases h;exact ⟨rfl,(sI 1 [3,5])⟩
 refine ch 5 h ?_ ?_
 ·intro xH h;refine s2 [] [3] [(4,Ii 5)] [0] [] 1 ?_;cases h;exact rt rx
 intro xH h;refine c0 [] 16 h [] ?_ ?_
 ·intro xV h;refine s2 [] [3] [(4,Ii 1)] [0] [] 1 ?_;cases h;exact rt rx
 intro xV h;refine sq (sq (bE h fun zP xS h=>r0 [iK 2 {} (K7 zH.AtA zP xS)] [(22,.bool (!zP))] (ch 22 h ?_ ?_)))
 ·intro vY h;refine sk (cd 22 (!zP) ?_ ?_)
  rotate_left
  ·intro hg;exact Bool.noConfusion ((vY).symm.trans hg)
  intro _;refine s2 [] [3] [(4,Ii 2)] [0] [] 1 ?_;cases h;exact rt rx
 intro vY h;refine sq (bE h fun z5 wG h=>r0 [iK 3 {} (K7 zH.AtB.Lo z5 wG)] [(22,.bool (!z5))] (ch 22 h ?_ ?_))
 ·intro uX h;refine sk (cd 22 (!z5) ?_ ?_)
  rotate_left
  ·intro hg;exact Bool.noConfusion ((uX).symm.trans hg)
  intro _;refine s2 [] [3] [(4,Ii 2)] [0] [] 1 ?_;cases h;exact rt rx
 intro uX h;refine sq (bE h fun zW vA h=>r0 [iK 3 {} (K7 zH.AtB.Hi zW vA)] [(22,.bool (!zW))] (ch 22 h ?_ ?_))
 ·intro tQ h;refine sk (cd 22 (!zW) ?_ ?_)
  rotate_left
  ·intro hg;exact Bool.noConfusion ((tQ).symm.trans hg)
  intro _;refine s2 [] [3] [(4,Ii 2)] [0] [] 1 ?_;cases h;exact rt rx
 intro tQ h;refine r2 [] [3] [(22,.bool (decide (zH.AtB.Lo>zH.AtB.Hi)))] [0] [] 1 (ch 22 h ?_ ?_)
 ·intro jZ h;refine s0 [] [(4,Ii 2)] ?_;cases h;exact rt rx
 intro jZ h;refine sk (s0 [] [(4,Ii 0)] ?_);cases h;exact rt rx
theorem MX (F:Nat) (zN:List (y7)) (zO:List (yP)) (r:Int) (h:lK F zN zO=some r):y6 prog 26 [] [] [Sq 2 z6 zN,Sq 5 z4 zO] [] (Ii r):=by
 refine tI Try.f26 ?_;unfold lK at h;refine sE [] [(0,Sq 2 z6 zN),(1,Sq 5 z4 zO)] [] 0 (sq (c0 [iN 1 z6 zN] 11 h [] ?_ ?_))
 ·intro yN h;refine s1 [] [0,1] [(4,Ii 8)] ?_;cases h;exact rt rx
 intro yN h;refine sk (sq (ad 19 h ?_ ?_ ?_))
 ·rcases bft (decide ((lN (zN))>(8:Int))) with zS | zS
  ·exact rm [iG 4 3,iH 7 Ht,iN 1 z6 zN,iR 4 zS] (ort zS)
  ·exact rm [iH 7 Hf,iN 1 z6 zN,iR 2 zS,iN 5 z4 zO,iR 2 zS] (orf zS rfl)
 ·intro xH h;refine s1 [] [0,1] [(4,Ii 7)] ?_;cases h;exact rt rx
 intro xH h;refine sk (sq (sq (bE h fun zH zM h=>r0 [iH 4 { b:=(decide (zH=(⟨(0:Int),(0:Int)⟩:y7))),mks:=[.int .i64,.int .i64] },iF 1 z6 zM,iC (SV:pM prog 83 [.int .i64,.int .i64]),iC (DY (f:=z6) UI zH (⟨(0:Int),(0:Int)⟩:y7):((decide (zH=(⟨(0:Int),(0:Int)⟩:y7)))=true↔AV.agg [Ii zH.Id,Ii zH.Ppm]=AV.agg [Ii 0,Ii 0]))] [(24,.bool (!(decide (zH=(⟨(0:Int),(0:Int)⟩:y7)))))] (ch 24 h ?_ ?_))))
 ·intro xV h;refine s1 [] [0,1] [(4,Ii 10)] ?_;cases h;exact rt rx
 intro xV h;refine sk (sq (sq (bE h fun zA zV h=>r0 [iK 1 {} (X5 F zN zA zV)] [(5,Ii zA)] (c0 [] 28 h [] ?_ ?_))))
 ·intro vY h;refine s1 [] [0,1] [(4,Ii zA)] ?_;cases h;exact rt rx
 intro vY h;refine sk (sq (s1 [iN 1 z4 zO] [1] [(30,Sq 5 z4 zO),(31,Ii (lN (zO))),(32,Ii 0)] (bE h fun zC y9 h=>?_)));refine uD (K1:=kS prog zC 0 (fun q0=>mk [] [] 0) Try.f26 (fun q1=>[]) fun q1=>Ii q1) ?_ ?_
 ·replace h:=y9;refine yZ (id:=0) zk ?_;refine w0 [] [] [(0,Sq 2 z6 zN),(30,Sq 5 z4 zO),(31,Ii (lN (zO))),(32,Ii 0)] [] ?_;refine wP (fun n st=>∃ (zG:Int),st=mk [(0,Sq 2 z6 zN),(30,Sq 5 z4 zO),(31,Ii (lN (zO))),(32,Ii zG)] [] 0∧BH F zN zO n zG=some zC) F zk ⟨_,rfl,h⟩ ?_ ?_
  ·rintro _ ⟨_,_,h⟩;exact wQ (h:(none:Option (Unit⊕Int))=some zC)
  rintro yF _ ⟨zG,rfl,h⟩;replace h:gR F zN zO (BH F zN zO yF) zG=some zC:=h;unfold gR at h;refine s0 [] [(33,.bool (decide (zG<(lN (zO)))))] (sq (ch 33 h ?_ ?_))
  rotate_left
  ·intro uX h;refine wN (id:=0) zk ?_;cases h;exact ⟨rfl,(sI 0 [])⟩
  intro uX h;refine sk (sq ?_);refine yZ (id:=1) zk ?_;refine sq (bE h fun yA xS h=>r2 [iH 2 { id:=0 },iF 0 z4 xS] [] [(7,Pp 0)] [] [(0,Vb 73 (pR yA))] 1 (sq (bE h fun zJ wG h=>r2 [iK 2 {} (WV F zN yA zJ wG)] [7] [(8,Ii zJ)] [0] [] 1 (c0 [] 40 h [] ?_ ?_))))
  rotate_left
  ·intro tQ h;refine sk (r0 [] [(32,Ii (zI (zG+(1:Int))))] ?_);exact ⟨_,(sI 0 [0,30,31,32]),_,rfl,h⟩
  intro tQ h;refine s1 [] [0,30] [(4,Ii zJ)] ?_;cases h;exact rt ry
 intro e st1 hk;rcases zC with yD | xW
 rotate_left
 ·obtain ⟨rfl,hf⟩:=hk;cases h;exact ⟨st1,Sub.refl _ _,.inr rfl,hf⟩
 obtain ⟨rfl,hs⟩:=hk;refine ⟨_,hs,?_⟩;refine s0 [] [(4,Ii 0)] ?_;cases h;exact rt rx
theorem zAl (zN:y7) (zY:xJ) (r:Bool) (h:H4 zN zY=some r):y6 prog 40 [(.var 81 (qS zY))] [] [z6 zN,Pp 0] [(.var 81 (qS zY))] (.bool r):=by
 refine tI Try.f40 ?_;unfold H4 at h;refine sE [iH 0 { id:=1 }] [(1,Pp 0),(2,Pp 1)] [(0,Vb 81 (qS zY)),(1,Vb 83 (oZ zN))] 2 (s2 [] [1,2] [(3,.bool (zN.Id==zY.Domain))] [1] [] 2 ?_);cases h;exact rt rx
theorem WF (F:Nat) (zF:List (y7)) (zB:xJ) (r:Int) (h:CH F zF zB=some r):y6 prog 61 [(.var 81 (qS zB))] [] [Sq 2 z6 zF,.fn 40 [Pp 0]] [(.var 81 (qS zB))] (Ii r):=by
 refine tI Try.f61 ?_;unfold CH at h;refine sE [] [(0,Sq 2 z6 zF),(1,.fn 40 [Pp 0])] [(0,Vb 81 (qS zB))] 1 (sq (s0 [iN 1 z6 zF] [(7,Ii (lN (zF))),(8,Ii 0)] (bE h fun zC zM h=>?_)));refine uD (K1:=kS prog zC 1 (fun q0=>mk [] [(0,Vb 81 (qS zB))] 1) Try.f61 (fun q1=>[(.var 81 (qS zB))]) fun q1=>Ii q1) ?_ ?_
 ·replace h:=zM;refine yZ (id:=0) zk ?_;refine w0 [0] [] [(0,Sq 2 z6 zF),(1,.fn 40 [Pp 0]),(7,Ii (lN (zF))),(8,Ii 0)] [(0,Vb 81 (qS zB))] ?_;refine wP (fun n st=>∃ (zG:Int),st=mk [(0,Sq 2 z6 zF),(1,.fn 40 [Pp 0]),(7,Ii (lN (zF))),(8,Ii zG)] [(0,Vb 81 (qS zB))] 1∧B0 F zF zB n zG=some zC) F zk ⟨_,rfl,h⟩ ?_ ?_
  ·rintro _ ⟨_,_,h⟩;exact wQ (h:(none:Option (Unit⊕Int))=some zC)
  rintro yF _ ⟨zG,rfl,h⟩;replace h:lD F zF zB (B0 F zF zB yF) zG=some zC:=h;unfold lD at h;refine s0 [] [(9,.bool (decide (zG<(lN (zF)))))] (sq (ch 9 h ?_ ?_))
  rotate_left
  ·intro yN h;refine wN (id:=0) zk ?_;cases h;exact ⟨rfl,(sI 1 [])⟩
  intro yN h;refine sk (sq ?_);refine yZ (id:=1) zk ?_;refine s0 [] [(5,Ii zG)] (sq (bE h fun zH zV h=>bE h fun zA y9 h=>r0 [iF 3 z6 zV,iK 5 { ids:=[0] } (zAl zH zB zA y9)] [(16,.bool zA)] (ch 16 h ?_ ?_)))
  rotate_left
  ·intro xH h;refine sk (r0 [] [(8,Ii (zI (zG+(1:Int))))] ?_);exact ⟨_,(sI 1 [0,1,7,8]),_,rfl,h⟩
  intro xH h;refine s1 [] [0,1] [(4,Ii zG)] ?_;cases h;exact rt ry
 intro e st1 hk;rcases zC with yD | xW
 rotate_left
 ·obtain ⟨rfl,hf⟩:=hk;cases h;exact ⟨st1,Sub.refl _ _,.inr rfl,hf⟩
 obtain ⟨rfl,hs⟩:=hk;refine ⟨_,hs,?_⟩;refine s0 [] [(4,Ii (-1))] ?_;cases h;exact rt rx
theorem zBI (F:Nat) (zF:List (y7)) (zB:xJ) (r:Bool) (h:HR F zF zB=some r):y6 prog 39 [(.var 81 (qS zB))] [] [Sq 2 z6 zF,.fn 40 [Pp 0]] [(.var 81 (qS zB))] (.bool r):=by
 refine tI Try.f39 ?_;unfold HR at h;refine sE [] [(0,Sq 2 z6 zF),(1,.fn 40 [Pp 0])] [(0,Vb 81 (qS zB))] 1 (sq (bE h fun zA zM h=>r1 [iK 2 { ids:=[0] } (WF F zF zB zA zM)] [0,1] [(4,.bool (decide (zA≥(0:Int))))] ?_));cases h;exact rt rx
theorem ST (F:Nat) (zM:zU) (r:Int) (h:iB F zM=some r):y6 prog 21 [] [] [pY zM] [] (Ii r):=by
 refine tI Try.f21 ?_;unfold iB at h;refine sE [iH 0 { id:=0 }] [(1,Pp 0)] [(0,Vb 26 (vD zM))] 1 (sq ?_);refine yZ (id:=0) zk ?_;refine c0 [iN 2 z8 zM.Threads] 10 h [] ?_ ?_
 ·intro yN h;refine s2 [] [1] [(2,Ii 8)] [0] [] 1 ?_;cases h;exact rt rx
 intro yN h;refine c0 [iN 2 z8 zM.Threads] 15 h [] ?_ ?_
 ·intro xH h;refine s2 [] [1] [(2,Ii 7)] [0] [] 1 ?_;cases h;exact rt rx
 intro xH h;refine sk (s2 [iH 0 { id:=1,mag:=false,mks:=[.int .i64] }] [] [(3,.mp 1)] [] [(1,.live (.map false [.int .i64] []))] 2 (sq (s0 [iN 2 z8 zM.Threads] [(22,Sq 3 z8 zM.Threads),(23,Ii (lN (zM.Threads))),(24,Ii 0)] (bE h fun zC zV h=>?_))));refine uD (K1:=kS prog zC 0 (fun q0=>mk [(1,Pp 0)] [(0,Vb 26 (vD zM))] 1) Try.f21 (fun q1=>[]) fun q1=>Ii q1) ?_ ?_
 ·replace h:=zV;refine yZ (id:=1) zk ?_;refine w0 [0,1] [] [(1,Pp 0),(3,.mp 1),(22,Sq 3 z8 zM.Threads),(23,Ii (lN (zM.Threads))),(24,Ii 0)] [(0,Vb 26 (vD zM)),(1,.live (.map false [.int .i64] []))] ?_;refine wP (fun n st=>∃ (zG:Int),∃ (zL:List (Int×Bool)),st=mk [(1,Pp 0),(3,.mp 1),(22,Sq 3 z8 zM.Threads),(23,Ii (lN (zM.Threads))),(24,Ii zG)] [(0,Vb 26 (vD zM)),(1,.live (.map false [.int .i64] (List.map (mpE (AV.int .i64) AV.bool) zL)))] 2∧rL F zM n zG zL=some zC) F zk ⟨_,_,rfl,h⟩ ?_ ?_
  ·rintro _ ⟨_,_,_,h⟩;exact wQ (h:(none:Option (Unit⊕Int))=some zC)
  rintro yF _ ⟨zG,zL,rfl,h⟩;replace h:C0 F zM (rL F zM yF) zG zL=some zC:=h;unfold C0 at h;refine s0 [] [(25,.bool (decide (zG<(lN (zM.Threads)))))] (sq (ch 25 h ?_ ?_))
  rotate_left
  ·intro xV h;refine wN (id:=1) zk ?_;cases h;exact ⟨rfl,(sI 1 [1])⟩
  intro xV h;refine sk (sq ?_);refine yZ (id:=2) zk ?_;refine sq (bE h fun zH y9 h=>r2 [iH 2 { id:=2 },iF 0 z8 y9] [] [(5,Pp 2)] [] [(2,Vb 81 (qS zH))] 3 (sq (sq (bE h fun zA xS h=>r0 [iK 1 {} (zBQ F zH zA xS)] [(6,Ii zA)] (c0 [] 31 h [] ?_ ?_)))))
  ·intro vY h;refine s2 [] [1,3,22,5] [(2,Ii zA)] [0,1,2] [] 3 ?_;cases h;exact rt ry
  intro vY h;refine sk (sq (c0 [iH 3 { av:=(.bool ((vW zL zH.Id).getD false)),g:=(vW zL zH.Id).isSome },iC (GJ:tA prog 3 false [.int .i64]),iC (GD (f:=(AV.int .i64)) (g:=AV.bool) EH zL zH.Id false:cY (List.map (mpE (AV.int .i64) AV.bool) zL) (Ii zH.Id) (.bool false) (.bool ((vW zL zH.Id).getD false)) (vW zL zH.Id).isSome)] 36 h [] ?_ ?_))
  ·intro uX h;refine s2 [] [1,3,22,5] [(2,Ii 4)] [0,1,2] [] 3 ?_;cases h;exact rt ry
  intro uX h;refine sk (nE h fun wG h=>r2 [iH 3 { es:=(List.map (mpE (AV.int .i64) AV.bool) (x5 zL zH.Id true)) },iC (GJ:tA prog 3 false [.int .i64]),iC (G7 (f:=(AV.int .i64)) (g:=AV.bool) EH zL zH.Id true:lV (List.map (mpE (AV.int .i64) AV.bool) zL) (Ii zH.Id) (.bool true) (List.map (mpE (AV.int .i64) AV.bool) (x5 zL zH.Id true))),iC (HW (l:=zL) wG:((List.map (mpE (AV.int .i64) AV.bool) zL):List (AV×AV)).length<maxLen)] [5] [] [2] [(1,.live (.map false [.int .i64] (List.map (mpE (AV.int .i64) AV.bool) (x5 zL zH.Id true))))] 3 (r0 [] [(24,Ii (zI (zG+(1:Int))))] ?_));exact ⟨_,(sI 2 [1,3,22,23,24]),_,_,rfl,h⟩
 intro e st1 hk;rcases zC with yD | xW
 rotate_left
 ·obtain ⟨rfl,hf⟩:=hk;cases h;exact ⟨st1,Sub.refl _ _,.inr rfl,hf⟩
 obtain ⟨rfl,hs⟩:=hk;refine ⟨_,hs,?_⟩;refine sq (sq (bE h fun zJ vA h=>r0 [iK 4 {} (MX F zM.Domains zM.Snaps zJ vA)] [(7,Ii zJ)] (c0 [] 47 h [] ?_ ?_)))
 ·intro tQ h;refine s2 [] [1] [(2,Ii zJ)] [0] [] 1 ?_;cases h;exact rt rx
 intro tQ h;refine sk (sq (s0 [iN 2 z8 zM.Threads] [(50,Sq 3 z8 zM.Threads),(51,Ii (lN (zM.Threads))),(52,Ii 0)] (bE h fun zR vT h=>?_)));refine uD (K1:=kS prog zR 0 (fun q0=>mk [] [] 0) Try.f21 (fun q1=>[]) fun q1=>Ii q1) ?_ ?_
 ·replace h:=vT;refine yZ (id:=3) zk ?_;refine w0 [0] [] [(1,Pp 0),(50,Sq 3 z8 zM.Threads),(51,Ii (lN (zM.Threads))),(52,Ii 0)] [(0,Vb 26 (vD zM))] ?_;refine wP (fun n st=>∃ (y8:Int),st=mk [(1,Pp 0),(50,Sq 3 z8 zM.Threads),(51,Ii (lN (zM.Threads))),(52,Ii y8)] [(0,Vb 26 (vD zM))] 1∧m9 F zM n y8=some zR) F zk ⟨_,rfl,h⟩ ?_ ?_
  ·rintro _ ⟨_,_,h⟩;exact wQ (h:(none:Option (Unit⊕Int))=some zR)
  rintro qK _ ⟨y8,rfl,h⟩;replace h:gN F zM (m9 F zM qK) y8=some zR:=h;unfold gN at h;refine s0 [] [(53,.bool (decide (y8<(lN (zM.Threads)))))] (sq (ch 53 h ?_ ?_))
  rotate_left
  ·intro jZ h;refine wN (id:=3) zk ?_;cases h;exact ⟨rfl,(sI 0 [])⟩
  intro jZ h;refine sk (sq ?_);refine yZ (id:=4) zk ?_;refine sq (bE h fun yA uA h=>r2 [iH 2 { id:=1 },iF 0 z8 uA] [] [(9,Pp 1)] [] [(1,Vb 81 (qS yA))] 2 (sq (bE h fun zP uJ h=>r2 [iJ 3 { ids:=[1] } ([Sq 2 z6 zM.Domains,.fn 40 [Pp 1]]:List AV) (zBI F zM.Domains yA zP uJ)] [9] [(60,.bool (!zP))] [1] [] 2 (ch 60 h ?_ ?_))))
  rotate_left
  ·intro aN h;refine sk (r0 [] [(52,Ii (zI (y8+(1:Int))))] ?_);exact ⟨_,(sI 1 [1,50,51,52]),_,rfl,h⟩
  intro aN h;refine s2 [] [1,50] [(2,Ii 5)] [0] [] 2 ?_;cases h;exact rt ry
 intro e st1 hk;rcases zR with kK | nZ
 rotate_left
 ·obtain ⟨rfl,hf⟩:=hk;cases h;exact ⟨st1,Sub.refl _ _,.inr rfl,hf⟩
 obtain ⟨rfl,hs⟩:=hk;refine ⟨_,hs,?_⟩;refine s0 [] [(2,Ii 0)] ?_;cases h;exact rt rx
theorem zDZ (yF:Int) (r:Int) (h:B7 yF=some r):y6 prog 58 [] [] [Ii yF] [] (.int .u64 r):=by
 refine tI Try.f58 ?_;unfold B7 at h;refine sE [] [(0,Ii yF)] [] 0 (s0 [iC (by decide:(0:Int)≤(1:Int)),iC (by decide:(0:Int)≤(63:Int))] [(2,.int .u64 (tW .u64 (pP .u64 (jO yF) (1:Int)) (jO (qI .i64 yF (63:Int)))))] ?_);cases h;exact rt rx
theorem jT (F:Nat) (zE:List (Int)) (yF:Int) (r:(List (Int))) (h:u0 F zE yF=some r):y6 prog 36 [] [] [Sb zE,Ii yF] [.row 5 1 (Mb r)] (.own 0 ((r).length)):=by
 refine tI Try.f36 ?_;unfold u0 at h;refine sE [iH 0 { id:=0,m:=1 }] [(0,Sb zE),(1,Ii yF)] [] 1 (s2 [iH 0 { b:=true,id:=1 }] [] [(5,Pp 1)] [] [(1,Rb 123 1 (Mb (List.replicate 10 (0:Int))))] 2 (s0 [] [(6,Ii 0)] (sq (sq (bE h fun zA zM h=>r0 [iK 1 {} (zDZ yF zA zM)] [(7,.int .u64 zA)] (bE h fun zC zV h=>?_))))));refine x7 (mk [(0,Sb zE),(5,Pp 0),(6,Ii zC.1)] [(0,Rb 123 1 (Mb zC.2))] 1) ?_ ?_
 ·replace h:=zV;refine yZ (id:=0) zk ?_;refine w0 [1] [] [(0,Sb zE),(5,Pp 0),(6,Ii 0),(7,.int .u64 zA)] [(0,Rb 123 1 (Mb (List.replicate 10 (0:Int))))] ?_;refine wP (fun n st=>∃ (x9:Int),∃ (vE:Int),∃ (zL:List Int),st=mk [(0,Sb zE),(5,Pp 0),(6,Ii x9),(7,.int .u64 vE)] [(0,Rb 123 1 (Mb zL))] 1∧dH F n x9 vE zL=some zC) F zk ⟨_,_,_,rfl,h⟩ ?_ ?_
  ·rintro _ ⟨_,_,_,_,h⟩;exact wQ (h:(none:Option (Int×(List Int)))=some zC)
  rintro qK _ ⟨x9,vE,zL,rfl,h⟩;replace h:iE F (dH F qK) x9 vE zL=some zC:=h;unfold iE at h;refine sq ?_;refine yZ (id:=1) zk ?_;refine sq (nE h fun y9 h=>bE h fun zH xS h=>r2 [iH 4 Ht,iH 5 { av:=Iu zH,l:=(Mb ((zL).set ((x9).toNat) (pA (uG .u64 vE (127:Int))))) },iC y9.1,iC y9.2,iC (NR xS:(Mb zL)[(x9).toNat]?=some (Iu zH)),iC (mS _ _ _:(Mb ((zL).set ((x9).toNat) (pA (uG .u64 vE (127:Int)))))=List.set (Mb zL) ((x9).toNat) (bQ (Iu zH) 0 [Iu (pA (uG .u64 vE (127:Int)))]))] [] [] [] [(0,Rb 123 1 (Mb ((zL).set ((x9).toNat) (pA (uG .u64 vE (127:Int))))))] 1 (s0 [] [(6,Ii (zI (x9+(1:Int))))] (sq (c0 [] 20 h [] ?_ ?_))))
  ·intro yN h;refine wN (id:=0) zk ?_;cases h;exact ⟨rfl,(sI 1 [0,5,6])⟩
  intro yN h;refine sk (nE h fun wG h=>bE h fun yA vA h=>nE h fun vT h=>bE h fun xR uA h=>r2 [iH 2 Ht,iH 3 { av:=Iu yA },iH 5 Ht,iH 6 { av:=Iu xR,l:=(Mb (((zL).set ((x9).toNat) (pA (uG .u64 vE (127:Int)))).set ((zI ((zI (x9+(1:Int))) - (1:Int))).toNat) (ior .u8 yA (128:Int)))) },iC wG.1,iC wG.2,iC (NR vA:(Mb ((zL).set ((x9).toNat) (pA (uG .u64 vE (127:Int)))))[(zI ((zI (x9+(1:Int))) - (1:Int))).toNat]?=some (Iu yA)),iC vT.1,iC vT.2,iC (NR uA:(Mb ((zL).set ((x9).toNat) (pA (uG .u64 vE (127:Int)))))[(zI ((zI (x9+(1:Int))) - (1:Int))).toNat]?=some (Iu xR)),iC (mS _ _ _:(Mb (((zL).set ((x9).toNat) (pA (uG .u64 vE (127:Int)))).set ((zI ((zI (x9+(1:Int))) - (1:Int))).toNat) (ior .u8 yA (128:Int))))=List.set (Mb ((zL).set ((x9).toNat) (pA (uG .u64 vE (127:Int))))) ((zI ((zI (x9+(1:Int))) - (1:Int))).toNat) (bQ (Iu xR) 0 [Iu (ior .u8 yA (128:Int))]))] [] [] [] [(0,Rb 123 1 (Mb (((zL).set ((x9).toNat) (pA (uG .u64 vE (127:Int)))).set ((zI ((zI (x9+(1:Int))) - (1:Int))).toNat) (ior .u8 yA (128:Int)))))] 1 (r0 [iC (by decide:(0:Int)≤(7:Int))] [(7,.int .u64 (qI .u64 vE (7:Int)))] ?_));exact ⟨_,(sI 1 [0,5,6,7]),_,_,_,rfl,h⟩
 refine sq (nE h fun uJ h=>nE h fun u4 h=>nE h fun tC h=>nE h fun qM h=>r2 [iH 5 { l:=(Mb (sub zE (0:Int) (lN (zE)))) },iH 8 { dep:=true,id:=1,l:=(Mb ((sub zE (0:Int) (lN (zE)))++(((zC.2).take ((zC.1).toNat)).drop 0))),n:=(((sub zE (0:Int) (lN (zE)))++(((zC.2).take ((zC.1).toNat)).drop 0))).length },iN 2 Fb zE,iN 4 Fb zE,i0,iC (Int.natCast_nonneg _:(0:Int)≤(lN (zE))),iC (L9 (Int.le_refl _):(lN (zE))≤(lN ((Mb zE)))),iA (lN (zE)),iC (N9 _ _ _:(Mb (sub zE (0:Int) (lN (zE))))=(((Mb zE)).take ((lN (zE))).toNat).drop ((0:Int)).toNat),i0,iC uJ.1,iC uJ.2.1,iC (m3 uJ.2.2:10≤((Mb zC.2)).length),iC (m3 u4.2:((zC.1).toNat)≤((Mb zC.2)).length),iC u4.1,iC (zAH _ _ _ _:(Mb ((sub zE (0:Int) (lN (zE)))++(((zC.2).take ((zC.1).toNat)).drop 0)))=(Mb (sub zE (0:Int) (lN (zE))))++(((Mb zC.2)).take ((zC.1).toNat)).drop 0),iC (by first | (simp;done) | simpa using tC:(((List.map (AV.int .u8) (sub zE (0:Int) (((zE).length:Nat):Int))):List AV).length+((((List.map (AV.int .u8) zC.2)).take ((zC.1).toNat)).drop 0:List AV).length) * 1≤140737488355328),iC (by first | (simp;done) | simpa using qM:0<((((List.map (AV.int .u8) zC.2)).take ((zC.1).toNat)).drop 0:List AV).length∨((List.map (AV.int .u8) (sub zE (0:Int) (((zE).length:Nat):Int))):List AV).length=0),iC (by simp:(((sub zE (0:Int) (((zE).length:Nat):Int))++(((zC.2).take ((zC.1).toNat)).drop 0))).length=((List.map (AV.int .u8) ((sub zE (0:Int) (((zE).length:Nat):Int))++(((zC.2).take ((zC.1).toNat)).drop 0)))).length)] [0,5] [(4,.own 1 ((((sub zE (0:Int) (lN (zE)))++(((zC.2).take ((zC.1).toNat)).drop 0))).length))] [0] [(1,Rb 5 1 (Mb ((sub zE (0:Int) (lN (zE)))++(((zC.2).take ((zC.1).toNat)).drop 0))))] 2 (w0 [1] [] [(4,.own 0 ((((sub zE (0:Int) (lN (zE)))++(((zC.2).take ((zC.1).toNat)).drop 0))).length))] [(0,Rb 5 1 (Mb ((sub zE (0:Int) (lN (zE)))++(((zC.2).take ((zC.1).toNat)).drop 0))))] ?_));cases h;exact rt rx
theorem OJ (F:Nat) (zE:List (Int)) (zF:List Int) (r:(List (Int))) (h:oG F zE zF=some r):y6 prog 42 [] [] [Sb zE,.str zF] [.row 5 1 (Mb r)] (.own 0 ((r).length)):=by
 refine tI Try.f42 ?_;unfold oG at h;refine sE [iH 0 { id:=0,m:=1 }] [(0,Sb zE),(1,.str zF)] [] 1 (sq (bE h fun zA zM h=>r2 [iK 3 { ids:=[1] } (jT F zE (lN (zF)) zA zM)] [0] [(5,.own 1 ((zA).length))] [] [(1,Rb 5 1 (Mb zA))] 2 (sq (nE h fun zV h=>r2 [iH 5 { id:=2,l:=(Mb (List.replicate ((zI ((lN (zA))+(lN (zF)))).toNat) (0:Int))),m:=(zI ((lN (zA))+(lN (zF)))).toNat,n:=(zI ((lN (zA))+(lN (zF)))).toNat },iC ((Int.toNat_of_nonneg zV.1).symm:zI ((lN (zA))+(lN (zF)))=(((zI ((lN (zA))+(lN (zF)))).toNat:Nat):Int)),iC ((Int.toNat_of_nonneg zV.1).symm:zI ((lN (zA))+(lN (zF)))=(((zI ((lN (zA))+(lN (zF)))).toNat:Nat):Int)),iC (Nat.le_refl _:((zI ((lN (zA))+(lN (zF)))).toNat)≤((zI ((lN (zA))+(lN (zF)))).toNat)),iC zV.2,iC (U8:(Mb (List.replicate ((zI ((lN (zA))+(lN (zF)))).toNat) (0:Int)))=List.replicate ((zI ((lN (zA))+(lN (zF)))).toNat) (Iu 0))] [] [(6,.own 2 ((zI ((lN (zA))+(lN (zF)))).toNat))] [] [(2,Rb 5 1 (Mb (List.replicate ((zI ((lN (zA))+(lN (zF)))).toNat) (0:Int))))] 3 (sq (nE h fun y9 h=>r2 [iH 2 { l:=(Mb (cpy (List.replicate ((zI ((lN (zA))+(lN (zF)))).toNat) (0:Int)) 0 ((zI ((lN (zA))+(lN (zF)))).toNat) zA)),n:=(min (zA).length ((zI ((lN (zA))+(lN (zF)))).toNat - 0)) },iM Fb zA,iC y9.1,iC (m3 y9.2:((zI ((lN (zA))+(lN (zF)))).toNat)≤((Mb (List.replicate ((zI ((lN (zA))+(lN (zF)))).toNat) (0:Int)))).length),iC (by simp:(min (zA).length ((zI ((((zA).length:Nat):Int)+(((zF).length:Nat):Int))).toNat - 0))=min ((List.map (AV.int .u8) zA):List AV).length ((zI ((((zA).length:Nat):Int)+(((zF).length:Nat):Int))).toNat - 0)),iC (by simp [cpy]:(List.map (AV.int .u8) (cpy (List.replicate ((zI ((((zA).length:Nat):Int)+(((zF).length:Nat):Int))).toNat) (0:Int)) 0 ((zI ((((zA).length:Nat):Int)+(((zF).length:Nat):Int))).toNat) zA))=((List.map (AV.int .u8) (List.replicate ((zI ((((zA).length:Nat):Int)+(((zF).length:Nat):Int))).toNat) (0:Int)))).take 0++((List.map (AV.int .u8) zA):List AV).take (min (zA).length ((zI ((((zA).length:Nat):Int)+(((zF).length:Nat):Int))).toNat - 0))++((List.map (AV.int .u8) (List.replicate ((zI ((((zA).length:Nat):Int)+(((zF).length:Nat):Int))).toNat) (0:Int)))).drop (0+(min (zA).length ((zI ((((zA).length:Nat):Int)+(((zF).length:Nat):Int))).toNat - 0))))] [] [] [] [(2,Rb 5 1 (Mb (cpy (List.replicate ((zI ((lN (zA))+(lN (zF)))).toNat) (0:Int)) 0 ((zI ((lN (zA))+(lN (zF)))).toNat) zA)))] 3 (sq (nE h fun xS h=>nE h fun wG h=>r2 [iH 5 { l:=(Mb (cpy (cpy (List.replicate ((zI ((lN (zA))+(lN (zF)))).toNat) (0:Int)) 0 ((zI ((lN (zA))+(lN (zF)))).toNat) zA) ((zA).length) ((zI ((lN (zA))+(lN (zF)))).toNat) zF)),n:=(min (zF).length ((zI ((lN (zA))+(lN (zF)))).toNat - (zA).length)) },iC (Int.natCast_nonneg _:(0:Int)≤(lN (zA))),iC xS,iC (Int.le_refl _:(((zI ((lN (zA))+(lN (zF)))).toNat:Nat):Int)≤(((zI ((lN (zA))+(lN (zF)))).toNat:Nat):Int)),iC trivial,iC wG.1,iC (m3 wG.2:((zI ((lN (zA))+(lN (zF)))).toNat)≤((Mb (cpy (List.replicate ((zI ((lN (zA))+(lN (zF)))).toNat) (0:Int)) 0 ((zI ((lN (zA))+(lN (zF)))).toNat) zA))).length),iC (by simp:(min (zF).length ((zI ((((zA).length:Nat):Int)+(((zF).length:Nat):Int))).toNat - (zA).length))=min ((List.map (AV.int .u8) zF):List AV).length ((zI ((((zA).length:Nat):Int)+(((zF).length:Nat):Int))).toNat - (zA).length)),iC (by simp [cpy]:(List.map (AV.int .u8) (cpy (cpy (List.replicate ((zI ((((zA).length:Nat):Int)+(((zF).length:Nat):Int))).toNat) (0:Int)) 0 ((zI ((((zA).length:Nat):Int)+(((zF).length:Nat):Int))).toNat) zA) ((zA).length) ((zI ((((zA).length:Nat):Int)+(((zF).length:Nat):Int))).toNat) zF))=((List.map (AV.int .u8) (cpy (List.replicate ((zI ((((zA).length:Nat):Int)+(((zF).length:Nat):Int))).toNat) (0:Int)) 0 ((zI ((((zA).length:Nat):Int)+(((zF).length:Nat):Int))).toNat) zA))).take ((zA).length)++((List.map (AV.int .u8) zF):List AV).take (min (zF).length ((zI ((((zA).length:Nat):Int)+(((zF).length:Nat):Int))).toNat - (zA).length))++((List.map (AV.int .u8) (cpy (List.replicate ((zI ((((zA).length:Nat):Int)+(((zF).length:Nat):Int))).toNat) (0:Int)) 0 ((zI ((((zA).length:Nat):Int)+(((zF).length:Nat):Int))).toNat) zA))).drop ((zA).length+(min (zF).length ((zI ((((zA).length:Nat):Int)+(((zF).length:Nat):Int))).toNat - (zA).length))))] [5] [] [1] [(2,Rb 5 1 (Mb (cpy (cpy (List.replicate ((zI ((lN (zA))+(lN (zF)))).toNat) (0:Int)) 0 ((zI ((lN (zA))+(lN (zF)))).toNat) zA) ((zA).length) ((zI ((lN (zA))+(lN (zF)))).toNat) zF)))] 3 (s1 [] [6] [(4,.own 2 ((zI ((lN (zA))+(lN (zF)))).toNat))] (wz [2] [] [4] [] [(4,.own 0 (((cpy (cpy (List.replicate ((zI ((lN (zA))+(lN (zF)))).toNat) (0:Int)) 0 ((zI ((lN (zA))+(lN (zF)))).toNat) zA) ((zA).length) ((zI ((lN (zA))+(lN (zF)))).toNat) zF)).length))] [(0,Rb 5 1 (Mb (cpy (cpy (List.replicate ((zI ((lN (zA))+(lN (zF)))).toNat) (0:Int)) 0 ((zI ((lN (zA))+(lN (zF)))).toNat) zA) ((zA).length) ((zI ((lN (zA))+(lN (zF)))).toNat) zF)))] (ac (congrArg (AV.own _) ((QB wG.1 wG.2).trans ((QB y9.1 y9.2).trans List.length_replicate)).symm:(.own 2 ((zI ((lN (zA))+(lN (zF)))).toNat):AV)=.own 2 (((cpy (cpy (List.replicate ((zI ((lN (zA))+(lN (zF)))).toNat) (0:Int)) 0 ((zI ((lN (zA))+(lN (zF)))).toNat) zA) ((zA).length) ((zI ((lN (zA))+(lN (zF)))).toNat) zF)).length)) an) ?_))))))))));cases h;exact rt rx
theorem NK (F:Nat) (zE:List (Int)) (zF:yP) (r:(List (Int))) (h:iO F zE zF=some r):y6 prog 43 [] [] [Sb zE,z4 zF] [] (Sb r):=by
 refine tI Try.f43 ?_;unfold iO at h;refine sE [iH 0 { id:=0 }] [(0,Sb zE),(3,Pp 0)] [(0,Vb 73 (pR zF))] 1 (sq (s2 [iH 12 { id:=1 }] [3] [(19,.own 1 5),(20,Ii ((5:Nat):Int)),(21,Ii 0)] [0] [(1,Rb 3 1 (Mi ([zF.A,zF.AtA,zF.B,zF.AtB.Lo,zF.AtB.Hi]:List Int)))] 2 (bE h fun zC zM h=>?_)));refine x7 (mk [(0,Sb zC)] [] 0) ?_ ?_
 ·replace h:=zM;refine yZ (id:=0) zk ?_;refine wz [1] [] [19] [] [(0,Sb zE),(19,.own 0 ((([zF.A,zF.AtA,zF.B,zF.AtB.Lo,zF.AtB.Hi]:List Int)).length)),(20,Ii ((5:Nat):Int)),(21,Ii 0)] [(0,Rb 3 1 (Mi ([zF.A,zF.AtA,zF.B,zF.AtB.Lo,zF.AtB.Hi]:List Int)))] (ac (congrArg (AV.own _) (by first | (simp;done) | (simp;omega)):(.own 1 5:AV)=.own 1 ((([zF.A,zF.AtA,zF.B,zF.AtB.Lo,zF.AtB.Hi]:List Int)).length)) an) ?_;refine wP (fun n st=>∃ (b7:List Int),∃ (zG:Int),st=mk [(0,Sb b7),(19,.own 0 ((([zF.A,zF.AtA,zF.B,zF.AtB.Lo,zF.AtB.Hi]:List Int)).length)),(20,Ii ((5:Nat):Int)),(21,Ii zG)] [(0,Rb 3 1 (Mi ([zF.A,zF.AtA,zF.B,zF.AtB.Lo,zF.AtB.Hi]:List Int)))] 1∧gA F zF n b7 zG=some zC) F zk ⟨_,_,rfl,h⟩ ?_ ?_
  ·rintro _ ⟨_,_,_,h⟩;exact wQ (h:(none:Option (List Int))=some zC)
  rintro yF _ ⟨b7,zG,rfl,h⟩;replace h:lI F zF (gA F zF yF) b7 zG=some zC:=h;unfold lI at h;refine s0 [] [(22,.bool (decide (zG<((5:Nat):Int))))] (sq (ch 22 h ?_ ?_))
  rotate_left
  ·intro yN h;refine wN (id:=0) zk ?_;cases h;exact ⟨rfl,(sI 0 [0])⟩
  intro yN h;refine sk (sq ?_);refine yZ (id:=1) zk ?_;refine sq (bE h fun zH zV h=>r0 [iH 1 { av:=Ii zH },iC (qB zV:(0:Int)≤zG),iC (by first | (simp;done) | simpa using qG zV:zG<(((([zF.A,zF.AtA,zF.B,zF.AtB.Lo,zF.AtB.Hi]:List Int)).length:Nat):Int)),iC (qA zV:(Mi ([zF.A,zF.AtA,zF.B,zF.AtB.Lo,zF.AtB.Hi]:List Int))[(zG).toNat]?=some (Ii zH))] [(6,Ii zH)] (bE h fun zA y9 h=>r2 [iK 2 { ids:=[1] } (jT F b7 zH zA y9)] [] [(0,.own 1 ((zA).length))] [] [(1,Rb 5 1 (Mb zA))] 2 (r0 [] [(21,Ii (zI (zG+(1:Int))))] ?_)));exact ⟨_,(Sub.trans (gK [0] [1] [.a 0 (Sb zA),.s 19,.s 20,.s 21] [.s 0] (sl2:=[(0,Sb zA),(19,.own 0 ((([zF.A,zF.AtA,zF.B,zF.AtB.Lo,zF.AtB.Hi]:List Int)).length)),(20,Ii ((5:Nat):Int)),(21,Ii (zI (zG+(1:Int))))]) (bx2:=[(0,Rb 3 1 (Mi ([zF.A,zF.AtA,zF.B,zF.AtB.Lo,zF.AtB.Hi]:List Int)))]) zk (ac (by first | (simp;done) | (simp;omega):(zA).length=((List.map (AV.int .u8) zA)).length) (ar 1 (ar ((Mb zA):List AV) (ac (rfl:(!false||false)=true) an))))) (sI 1 [0,19,20,21])),_,_,rfl,h⟩
 refine s1 [] [0] [(4,Sb zC)] ?_;cases h;exact rt rx
theorem R8 (F:Nat) (zM:zU) (r:(List (Int))) (h:rO F zM=some r):y6 prog 23 [] [] [pY zM] [] (Sb r):=by
 refine tI Try.f23 ?_;unfold rO at h;refine sE [iH 0 { id:=0 }] [(1,Pp 0)] [(0,Vb 26 (vD zM))] 1 (sq (bE h fun zA zV h=>r2 [iN 2 z8 zM.Threads,iL 3 { ids:=[1] } [.nilsl,Ii (lN (zM.Threads))] (jT F [] (lN (zM.Threads)) zA zV) ⟨rfl,rfl,trivial⟩] [] [(3,.own 1 ((zA).length))] [] [(1,Rb 5 1 (Mb zA))] 2 (sq (s0 [iN 2 z8 zM.Threads] [(15,Sq 3 z8 zM.Threads),(16,Ii (lN (zM.Threads))),(17,Ii 0)] (bE h fun zC y9 h=>?_)))));refine x7 (mk [(1,Pp 0),(3,.own 1 ((zC).length))] [(0,Vb 26 (vD zM)),(1,Rb 5 1 (Mb zC))] 2) ?_ ?_
 ·replace h:=y9;refine yZ (id:=0) zk ?_;refine w0 [0,1] [] [(1,Pp 0),(3,.own 1 ((zA).length)),(15,Sq 3 z8 zM.Threads),(16,Ii (lN (zM.Threads))),(17,Ii 0)] [(0,Vb 26 (vD zM)),(1,Rb 5 1 (Mb zA))] ?_;refine wP (fun n st=>∃ (zG:Int),∃ (zL:List Int),st=mk [(1,Pp 0),(3,.own 1 ((zL).length)),(15,Sq 3 z8 zM.Threads),(16,Ii (lN (zM.Threads))),(17,Ii zG)] [(0,Vb 26 (vD zM)),(1,Rb 5 1 (Mb zL))] 2∧lA F zM n zG zL=some zC) F zk ⟨_,_,rfl,h⟩ ?_ ?_
  ·rintro _ ⟨_,_,_,h⟩;exact wQ (h:(none:Option (List Int))=some zC)
  rintro yF _ ⟨zG,zL,rfl,h⟩;replace h:CS F zM (lA F zM yF) zG zL=some zC:=h;unfold CS at h;refine s0 [] [(18,.bool (decide (zG<(lN (zM.Threads)))))] (sq (ch 18 h ?_ ?_))
  rotate_left
  ·intro yN h;refine wN (id:=0) zk ?_;cases h;exact ⟨rfl,(sI 2 [1,3])⟩
  intro yN h;refine sk (sq ?_);refine yZ (id:=1) zk ?_;refine sq (bE h fun zH xS h=>r2 [iH 2 { id:=2 },iF 0 z8 xS] [] [(5,Pp 2)] [] [(2,Vb 81 (qS zH))] 3 (bE h fun zJ wG h=>bE h fun zP vA h=>bE h fun z5 vT h=>r2 [iM Fb zL,iK 3 { frz:=[1],ids:=[3] } (jT F zL zH.Id zJ wG),iM Fb zJ,iK 6 { frz:=[3],ids:=[4] } (OJ F zJ zH.Name zP vA),iM Fb zP,iK 9 { frz:=[4],ids:=[5] } (jT F zP zH.Domain z5 vT)] [5] [(3,.own 5 ((z5).length))] [1,2] [(5,Rb 5 1 (Mb z5))] 6 (r0 [] [(17,Ii (zI (zG+(1:Int))))] ?_)));exact ⟨_,(sJ [0,5] [1,3,15,16,17]),_,_,rfl,h⟩
 refine sq (bE h fun zW uA h=>r2 [iN 3 z6 zM.Domains,iM Fb zC,iK 4 { frz:=[1],ids:=[2] } (jT F zC (lN (zM.Domains)) zW uA)] [] [(3,.own 2 ((zW).length))] [1] [(2,Rb 5 1 (Mb zW))] 3 (sq (s0 [iN 2 z6 zM.Domains] [(38,Sq 2 z6 zM.Domains),(39,Ii (lN (zM.Domains))),(40,Ii 0)] (bE h fun zR uJ h=>?_))));refine x7 (mk [(1,Pp 0),(3,.own 1 ((zR).length))] [(0,Vb 26 (vD zM)),(1,Rb 5 1 (Mb zR))] 2) ?_ ?_
 ·replace h:=uJ;refine yZ (id:=2) zk ?_;refine w0 [0,2] [] [(1,Pp 0),(3,.own 1 ((zW).length)),(38,Sq 2 z6 zM.Domains),(39,Ii (lN (zM.Domains))),(40,Ii 0)] [(0,Vb 26 (vD zM)),(1,Rb 5 1 (Mb zW))] ?_;refine wP (fun n st=>∃ (y8:Int),∃ (zZ:List Int),st=mk [(1,Pp 0),(3,.own 1 ((zZ).length)),(38,Sq 2 z6 zM.Domains),(39,Ii (lN (zM.Domains))),(40,Ii y8)] [(0,Vb 26 (vD zM)),(1,Rb 5 1 (Mb zZ))] 2∧oP F zM n y8 zZ=some zR) F zk ⟨_,_,rfl,h⟩ ?_ ?_
  ·rintro _ ⟨_,_,_,h⟩;exact wQ (h:(none:Option (List Int))=some zR)
  rintro qK _ ⟨y8,zZ,rfl,h⟩;replace h:AQ F zM (oP F zM qK) y8 zZ=some zR:=h;unfold AQ at h;refine s0 [] [(41,.bool (decide (y8<(lN (zM.Domains)))))] (sq (ch 41 h ?_ ?_))
  rotate_left
  ·intro xH h;refine wN (id:=2) zk ?_;cases h;exact ⟨rfl,(sI 2 [1,3])⟩
  intro xH h;refine sk (sq ?_);refine yZ (id:=3) zk ?_;refine sq (bE h fun yA u4 h=>r2 [iH 2 { id:=2 },iF 0 z6 u4] [] [(7,Pp 2)] [] [(2,Vb 83 (oZ yA))] 3 (bE h fun yV tC h=>bE h fun xB qM h=>r2 [iM Fb zZ,iK 3 { frz:=[1],ids:=[3] } (jT F zZ yA.Id yV tC),iM Fb yV,iK 6 { frz:=[3],ids:=[4] } (jT F yV yA.Ppm xB qM)] [7] [(3,.own 4 ((xB).length))] [1,2] [(4,Rb 5 1 (Mb xB))] 5 (r0 [] [(40,Ii (zI (y8+(1:Int))))] ?_)));exact ⟨_,(sJ [0,4] [1,3,38,39,40]),_,_,rfl,h⟩
 refine sq (bE h fun yX j0 h=>r2 [iN 3 z4 zM.Snaps,iM Fb zR,iK 4 { frz:=[1],ids:=[2] } (jT F zR (lN (zM.Snaps)) yX j0)] [] [(3,.own 2 ((yX).length))] [1] [(2,Rb 5 1 (Mb yX))] 3 (sq (s2 [iN 2 z4 zM.Snaps] [1] [(58,Sq 5 z4 zM.Snaps),(59,Ii (lN (zM.Snaps))),(60,Ii 0)] [0] [] 3 (bE h fun y5 qV h=>?_))));refine x7 (mk [(3,Sb y5)] [] 0) ?_ ?_
 ·replace h:=qV;refine yZ (id:=4) zk ?_;refine wz [] [2] [3] [] [(3,Sb yX),(58,Sq 5 z4 zM.Snaps),(59,Ii (lN (zM.Snaps))),(60,Ii 0)] [] (ac (by first | (simp;done) | (simp;omega):(yX).length=((List.map (AV.int .u8) yX)).length) (ar 1 (ar ((Mb yX):List AV) (ar true an)))) (w0 [] [] [(3,Sb yX),(58,Sq 5 z4 zM.Snaps),(59,Ii (lN (zM.Snaps))),(60,Ii 0)] [] ?_);refine wP (fun n st=>∃ (zE:List Int),∃ (wS:Int),st=mk [(3,Sb zE),(58,Sq 5 z4 zM.Snaps),(59,Ii (lN (zM.Snaps))),(60,Ii wS)] [] 0∧oM F zM n zE wS=some y5) F zk ⟨_,_,rfl,h⟩ ?_ ?_
  ·rintro _ ⟨_,_,_,h⟩;exact wQ (h:(none:Option (List Int))=some y5)
  rintro jA _ ⟨zE,wS,rfl,h⟩;replace h:AP F zM (oM F zM jA) zE wS=some y5:=h;unfold AP at h;refine s0 [] [(61,.bool (decide (wS<(lN (zM.Snaps)))))] (sq (ch 61 h ?_ ?_))
  rotate_left
  ·intro xV h;refine wN (id:=4) zk ?_;cases h;exact ⟨rfl,(sI 0 [3])⟩
  intro xV h;refine sk (sq ?_);refine yZ (id:=5) zk ?_;refine sq (bE h fun xR kN h=>r2 [iH 2 { id:=0 },iF 0 z4 kN] [] [(9,Pp 0)] [] [(0,Vb 73 (pR xR))] 1 (bE h fun yL n8 h=>r2 [iK 2 {} (NK F zE xR yL n8)] [9] [(3,Sb yL)] [0] [] 1 (r0 [] [(60,Ii (zI (wS+(1:Int))))] ?_)));exact ⟨_,(sI 0 [3,58,59,60]),_,_,rfl,h⟩
 refine s1 [] [3] [(2,Sb y5)] ?_;cases h;exact rt rx
theorem zBr (F:Nat) (zE:List (Int)) (r:Int) (h:D3 F zE=some r):y6 prog 59 [] [] [Sb zE] [] (Ii r):=by
 refine tI Try.f59 ?_;unfold D3 at h;refine sE [] [(0,Sb zE)] [] 0 (s0 [] [(3,.int .u32 (4294967295:Int))] (sq (s1 [iN 1 Fb zE] [0] [(7,Sb zE),(8,Ii (lN (zE))),(9,Ii 0)] (bE h fun zC zM h=>?_))));refine x7 (mk [(3,.int .u32 zC)] [] 0) ?_ ?_
 ·replace h:=zM;refine yZ (id:=0) zk ?_;refine w0 [] [] [(3,.int .u32 (4294967295:Int)),(7,Sb zE),(8,Ii (lN (zE))),(9,Ii 0)] [] ?_;refine wP (fun n st=>∃ (zH:Int),∃ (zG:Int),st=mk [(3,.int .u32 zH),(7,Sb zE),(8,Ii (lN (zE))),(9,Ii zG)] [] 0∧lH F zE n zH zG=some zC) F zk ⟨_,_,rfl,h⟩ ?_ ?_
  ·rintro _ ⟨_,_,_,h⟩;exact wQ (h:(none:Option Int)=some zC)
  rintro yF _ ⟨zH,zG,rfl,h⟩;replace h:A5 F zE (lH F zE yF) zH zG=some zC:=h;unfold A5 at h;refine s0 [] [(10,.bool (decide (zG<(lN (zE)))))] (sq (ch 10 h ?_ ?_))
  rotate_left
  ·intro yN h;refine wN (id:=0) zk ?_;cases h;exact ⟨rfl,(sI 0 [3])⟩
  intro yN h;refine sk (sq ?_);refine yZ (id:=1) zk ?_;refine sq (bE h fun yA zV h=>r0 [iF 0 Fb zV] [(5,Iu yA)] (s0 [] [(3,.int .u32 (tW .u32 zH (AO yA)))] (s0 [] [(17,Ii 0)] (bE h fun zR y9 h=>?_))));refine x7 (mk [(3,.int .u32 zR),(7,Sb zE),(8,Ii (lN (zE))),(9,Ii zG)] [] 0) ?_ ?_
  ·replace h:=y9;refine yZ (id:=2) zk ?_;refine w0 [] [] [(3,.int .u32 (tW .u32 zH (AO yA))),(7,Sb zE),(8,Ii (lN (zE))),(9,Ii zG),(17,Ii 0)] [] ?_;refine wP (fun n st=>∃ (xR:Int),∃ (y8:Int),st=mk [(3,.int .u32 xR),(7,Sb zE),(8,Ii (lN (zE))),(9,Ii zG),(17,Ii y8)] [] 0∧d7 F n xR y8=some zR) F zk ⟨_,_,rfl,h⟩ ?_ ?_
   ·rintro _ ⟨_,_,_,h⟩;exact wQ (h:(none:Option Int)=some zR)
   rintro qK _ ⟨xR,y8,rfl,h⟩;replace h:g8 F (d7 F qK) xR y8=some zR:=h;unfold g8 at h;refine s0 [] [(18,.bool (decide (y8<(8:Int))))] (sq (ch 18 h ?_ ?_))
   rotate_left
   ·intro xH h;refine wN (id:=2) zk ?_;cases h;exact ⟨rfl,(sI 0 [3,7,8,9])⟩
   intro xH h;refine sk (sq ?_);refine yZ (id:=3) zk ?_;refine s0 [] [(6,.int .u32 (uG .u32 xR (1:Int)))] (s0 [iC (by decide:(0:Int)≤(1:Int))] [(3,.int .u32 (qI .u32 xR (1:Int)))] (c0 [] 24 h [] ?_ ?_))
   ·intro xV h;refine r0 [] [(3,.int .u32 (tW .u32 (qI .u32 xR (1:Int)) (3988292384:Int)))] (r0 [] [(17,Ii (zI (y8+(1:Int))))] ?_);exact ⟨_,(sI 0 [3,7,8,9,17]),_,_,rfl,h⟩
   intro xV h;refine sk (r0 [] [(17,Ii (zI (y8+(1:Int))))] ?_);exact ⟨_,(sI 0 [3,7,8,9,17]),_,_,rfl,h⟩
  refine r0 [] [(9,Ii (zI (zG+(1:Int))))] ?_;exact ⟨_,(sI 0 [3,7,8,9]),_,_,rfl,h⟩
 refine s0 [] [(2,Ii (zI (tW .u32 (4294967295:Int) zC)))] ?_;cases h;exact rt rx
theorem TD (F:Nat) (kE:Int) (zE:List (Int)) (r:Int) (h:rM F kE zE=some r):y6 prog 37 [] [] [Iu kE,Sb zE] [] (Ii r):=by
 refine tI Try.f37 ?_;unfold rM at h;refine sE [] [(0,Iu kE),(1,Sb zE)] [] 0 (sq (nE h fun zM h=>bE h fun zA zV h=>r2 [iH 1 { id:=0 },iA 1,iC trivial,iP 3 1 Fb ([kE]:List Int) zE 1 zM,iM Fb (([kE]:List Int)++zE),iK 4 { frz:=[1] } (zBr F (([kE]:List Int)++zE) zA zV)] [1] [(4,Ii zA)] [] [] 2 ?_));cases h;exact rt rx
theorem A0 (F:Nat) (kE:Int) (zE:List (Int)) (r:(List (Int))) (h:dB F kE zE=some r):y6 prog 19 [] [] [Iu kE,Sb zE] [.row 5 1 (Mb r)] (.own 0 ((r).length)):=by
 refine tI Try.f19 ?_;unfold dB at h;refine sE [iH 0 { id:=0,m:=1 }] [(0,Iu kE),(1,Sb zE)] [] 1 (sq (bE h fun zA zM h=>r2 [iH 1 { id:=1 },iN 3 Fb zE,iA 1,iK 4 { frz:=[1],ids:=[2] } (jT F ([kE]:List Int) (lN (zE)) zA zM)] [] [(5,.own 2 ((zA).length))] [] [(2,Rb 5 1 (Mb zA))] 3 (sq (bE h fun zJ zV h=>bE h fun zP y9 h=>nE h fun xS h=>r2 [iK 3 {} (TD F kE zE zJ zV),iM Fb zA,iK 4 { frz:=[2],ids:=[3] } (jT F zA zJ zP y9),iM Fb zP,iC trivial,iP 6 4 Fb zP zE 1 xS] [1,5] [(4,.own 4 (((zP++zE)).length))] [2] [(4,Rb 5 1 (Mb (zP++zE)))] 5 (w0 [4] [] [(4,.own 0 (((zP++zE)).length))] [(0,Rb 5 1 (Mb (zP++zE)))] ?_)))));cases h;exact rt rx
theorem LI (zF:List (Int)) (r:(List (Int))) (h:CF zF=some r):y6 prog 35 [] [] [Sb zF] [.row 5 1 (Mb r)] (.own 0 ((r).length)):=by
 refine tI Try.f35 ?_;unfold CF at h;refine sE [iH 0 { id:=0,m:=1 }] [(0,Sb zF)] [] 1 (sq (s0 [] [(4,.nb (Mb zF))] ?_));refine DV (t:=4) (l:=(Mb zF)) zk zk ?_ ?_
 ·intro zV;replace zV:=List.map_eq_nil_iff.1 zV;replace h:=Eq.trans (show (some [])=((need (((([]:List Int)).length+(zF).length) * 1≤140737488355328)).bind fun _ =>
 some ([]++zF)) from by simp [zV,need]) h
  refine sE [iH 0 { id:=1,m:=1 }] [(2,.own 1 0)] [(1,Rb 5 1 [])] 2 (wz [1] [] [2] [] [(2,.own 0 ((([]:List Int)).length))] [(0,Rb 5 1 [])] (ac (congrArg (AV.own _) (by first | (simp;done) | (simp;omega)):(.own 1 0:AV)=.own 1 ((([]:List Int)).length)) an) ?_);cases h;exact rt rx
 refine sk (sq (nE h fun zM h=>rE [iH 0 { id:=1 },iH 2 { id:=2,l:=(Mb ([]++zF)),n:=(([]++zF)).length },iA 0,iC trivial,iC (by simp:(List.map (AV.int .u8) ([]++zF))=[]++(List.map (AV.int .u8) zF)),iC (by simp:(([]++zF)).length=((List.map (AV.int .u8) ([]++zF))).length),iC (by first | (simp;done) | simpa using zM:(([]:List AV).length+((List.map (AV.int .u8) zF):List AV).length) * 1≤140737488355328)] [(2,.own 2 ((([]++zF)).length))] [(2,Rb 5 1 (Mb ([]++zF)))] 3 (w0 [2] [] [(2,.own 0 ((([]++zF)).length))] [(0,Rb 5 1 (Mb ([]++zF)))] ?_)));cases h;exact rt rx
theorem HJ (zN:z9) (r:z9×Int) (h:bM zN=some r):y6 prog 32 [] [] [u3 zN] [] (.tuple [u3 r.1,Ii r.2]):=by
 refine tI Try.f32 ?_;unfold bM at h;refine sE [iH 0 { id:=0 },iH 1 { id:=1 }] [(1,Pp 0),(2,Pp 1)] [(0,Vb 31 (xI zN)),(1,qY)] 2 (sq (sq (bE h fun zA zM h=>r0 [iK 1 {} (rA zN zA zM)] [(4,Ii zA)] (c0 [] 8 h [] ?_ ?_))))
 ·intro yN h;refine s2 [] [1] [(3,Ii zA)] [0] [] 2 (wz [1] [] [] [0] [(2,Pp 0),(3,Ii zA)] [(0,Vb 31 (xI zL0))] (ar 31 (ar true (ar (Ii 0) (ar ([]:List AV) (ar (Ii 0) (ar (Ii 0) (ar (.bool false:AV) an))))))) ?_);cases h;exact rt rx
 intro yN h;refine sk (sq (c0 [] 12 h [] ?_ ?_))
 ·intro xH h;refine s2 [] [1] [(3,Ii 19)] [0] [(1,Vb 31 (xI zN))] 2 (w0 [1] [] [(2,Pp 0),(3,Ii 19)] [(0,Vb 31 (xI zN))] ?_);cases h;exact rt rx
 intro xH h;refine sk (sq (bE h fun zJ zV h=>r2 [iK 2 { ids:=[2] } (LI zN.Data zJ zV)] [] [] [] [(0,Vb 31 [Ii zN.Size,.own 2 ((zJ).length),Ii zN.Durable,Ii zN.Left,.bool zN.Down]),(2,Rb 5 1 (Mb zJ))] 3 (s2 [] [1] [(3,Ii 0)] [0] [(1,Vb 31 [Ii zN.Size,.own 2 ((zJ).length),Ii zN.Durable,Ii zN.Left,.bool zN.Down])] 3 (wz [1] [2] [] [0] [(2,Pp 0),(3,Ii 0)] [(0,Vb 31 (xI (⟨zN.Size,zJ,zN.Durable,zN.Left,zN.Down⟩:z9)))] (ar 31 (ar true (ac (by first | (simp;done) | (simp;omega):(zJ).length=((List.map (AV.int .u8) zJ)).length) (ar (Ii zN.Size) (ar 1 (ar (Mb zJ) (ar true (ar (Ii zN.Durable) (ar (Ii zN.Left) (ar (.bool zN.Down:AV) an)))))))))) ?_))));cases h;exact rt rx
theorem zBo (zN:z9) (r:z9×Int) (h:bM zN=some r) (he:(r.2 != (0:Int))=false):y6 prog 32 [] [] [u3 zN] [.row 5 1 (Mb r.1.Data)] (.tuple [.agg [Ii r.1.Size,.own 0 ((r.1.Data).length),Ii r.1.Durable,Ii r.1.Left,.bool r.1.Down],Ii r.2]):=by
 refine tI Try.f32 ?_;unfold bM at h;refine sE [iH 0 { id:=0 },iH 1 { id:=1 }] [(1,Pp 0),(2,Pp 1)] [(0,Vb 31 (xI zN)),(1,qY)] 2 (sq (sq (bE h fun zA zM h=>r0 [iK 1 {} (rA zN zA zM)] [(4,Ii zA)] (c0 [] 8 h [] ?_ ?_))))
 ·intro yN h;refine s2 [] [1] [(3,Ii zA)] [0] [] 2 ?_;cases h;exact Bool.noConfusion (yN.symm.trans he)
 intro yN h;refine sk (sq (c0 [] 12 h [] ?_ ?_))
 ·intro xH h;refine s2 [] [1] [(3,Ii 19)] [0] [(1,Vb 31 (xI zN))] 2 ?_;cases h;exact absurd he (by simp)
 intro xH h;refine sk (sq (bE h fun zJ zV h=>r2 [iK 2 { ids:=[2] } (LI zN.Data zJ zV)] [] [] [] [(0,Vb 31 [Ii zN.Size,.own 2 ((zJ).length),Ii zN.Durable,Ii zN.Left,.bool zN.Down]),(2,Rb 5 1 (Mb zJ))] 3 (s2 [] [1] [(3,Ii 0)] [0] [(1,Vb 31 [Ii zN.Size,.own 2 ((zJ).length),Ii zN.Durable,Ii zN.Left,.bool zN.Down])] 3 (wz [2,1] [] [] [0,1] [(2,Pp 1),(3,Ii 0)] [(0,Rb 5 1 (Mb ((⟨zN.Size,zJ,zN.Durable,zN.Left,zN.Down⟩:z9).Data))),(1,Vb 31 [Ii ((⟨zN.Size,zJ,zN.Durable,zN.Left,zN.Down⟩:z9).Size),.own 0 (((⟨zN.Size,zJ,zN.Durable,zN.Left,zN.Down⟩:z9).Data).length),Ii ((⟨zN.Size,zJ,zN.Durable,zN.Left,zN.Down⟩:z9).Durable),Ii ((⟨zN.Size,zJ,zN.Durable,zN.Left,zN.Down⟩:z9).Left),.bool ((⟨zN.Size,zJ,zN.Durable,zN.Left,zN.Down⟩:z9).Down)])] (ar 5 (ar 1 (ar (Mb zJ) (ar 31 (ar true (ar (Ii zN.Size) (ac (congrArg (AV.own _) (by first | (simp;done) | (simp;omega)):(.own 2 ((zJ).length):AV)=.own 2 (((⟨zN.Size,zJ,zN.Durable,zN.Left,zN.Down⟩:z9).Data).length)) (ar (Ii zN.Durable) (ar (Ii zN.Left) (ar (.bool zN.Down:AV) an)))))))))) ?_))));cases h;exact rt rx
theorem zDL (zN:z9) (zE:List (Int)) (r:z9×Int) (h:C7 zN zE=some r):y6 prog 41 [] [] [u3 zN,Sb zE] [] (.tuple [u3 r.1,Ii r.2]):=by
 refine tI Try.f41 ?_;unfold C7 at h;refine sE [iH 0 { id:=0 },iH 1 { id:=1 }] [(1,Sb zE),(2,Pp 0),(4,Pp 1)] [(0,Vb 31 (xI zN)),(1,qY)] 2 ?_;refine qD (kJ 1 1 2 5 1 zk) ?_;refine w0 [0,1,2] [] [(1,Sb zE),(2,Pp 0),(4,Pp 1)] [(0,Vb 31 (xI zN)),(1,Vb 31 [Ii 0,.own 2 0,Ii 0,Ii 0,.bool false]),(2,Rb 5 1 [])] (sq (bE h fun zA zM h=>?_));rcases bft (zA.2 != (0:Int)) with gf_1 | gf_1
 ·replace h:=xP gf_1 h;refine r2 [iK 1 {} (HJ zN zA zM)] [] [(6,Ii zA.2)] [] [(0,Vb 31 (xI zA.1))] 3 (sq (s0 [] [(13,.bool (zA.2 != (0:Int)))] (cd 13 (zA.2 != (0:Int)) ?_ ?_)))
  rotate_left
  ·intro hg;exact Bool.noConfusion ((gf_1).symm.trans hg)
  intro _;refine s2 [] [1,2] [(5,Ii zA.2)] [0,2] [(1,Vb 31 (xI zA.1))] 3 (w0 [1] [] [(4,Pp 0),(5,Ii zA.2)] [(0,Vb 31 (xI zA.1))] ?_);cases h;exact rt rx
 replace h:=xQ gf_1 h;refine r2 [iK 1 { ids:=[3] } (zBo zN zA zM gf_1)] [] [(6,Ii zA.2)] [] [(0,Vb 31 [Ii zA.1.Size,.own 3 ((zA.1.Data).length),Ii zA.1.Durable,Ii zA.1.Left,.bool zA.1.Down]),(3,Rb 5 1 (Mb zA.1.Data))] 4 (sq (s0 [] [(13,.bool (zA.2 != (0:Int)))] (cd 13 (zA.2 != (0:Int)) ?_ ?_)))
 ·intro hg;exact Bool.noConfusion ((gf_1).symm.trans hg)
 intro _;refine sk (sq (c0 [iN 4 Fb zE] 24 h [] ?_ ?_))
 ·intro yN h;refine s2 [] [1,2] [(5,Ii 6)] [0,2,3] [(1,qY)] 4 ?_;refine qD (kJ 1 1 4 5 1 zk) ?_;refine w0 [1,4] [] [(4,Pp 0),(5,Ii 6)] [(0,Vb 31 [Ii 0,.own 1 0,Ii 0,Ii 0,.bool false]),(1,Rb 5 1 [])] (wz [0] [1] [] [0] [(4,Pp 0),(5,Ii 6)] [(0,Vb 31 (xI zL0))] (ar 31 (ar true (ac (by first | (simp;done) | (simp;omega):0=(([]:List AV)).length) (ar (Ii 0) (ar 1 (ar ([]:List AV) (ar true (ar (Ii 0) (ar (Ii 0) (ar (.bool false:AV) an)))))))))) ?_);cases h;exact rt rx
 intro yN h;refine sk (sq (sq ?_));refine x7 (mk [(1,Sb zE),(2,Pp 0),(4,Pp 2),(35,.bool (decide (zA.1.Left≥(0:Int))&&decide (zA.1.Left<(lN (zE)))))] [(0,Vb 31 [Ii zA.1.Size,.own 1 ((zA.1.Data).length),Ii zA.1.Durable,Ii zA.1.Left,.bool zA.1.Down]),(1,Rb 5 1 (Mb zA.1.Data)),(2,Vb 31 [Ii 0,.own 3 0,Ii 0,Ii 0,.bool false]),(3,Rb 5 1 [])] 4) ?_ ?_
 ·rcases bft (decide (zA.1.Left≥(0:Int))) with zS | zS
  ·refine r0 [iH 9 Ht,iR 4 zS,iN 7 Fb zE,iR 2 zS] [(35,.bool (decide (zA.1.Left<(lN (zE)))))] ?_;exact ⟨rfl,(sw [0,3,1,2] [] [.s 1,.s 2,.s 4,.a 35 (.bool (decide (zA.1.Left≥(0:Int))&&decide (zA.1.Left<(lN (zE)))))] [.s 0,.s 1,.s 2,.s 3] (ac (congrArg AV.bool (uF zS rfl):(.bool (decide (zA.1.Left<(lN (zE)))):AV)=.bool (decide (zA.1.Left≥(0:Int))&&decide (zA.1.Left<(lN (zE))))) an))⟩
  ·refine r0 [iG 4 5,iH 9 Hf,iR 6 zS] [(35,.bool false)] ?_;exact ⟨rfl,(sw [0,3,1,2] [] [.s 1,.s 2,.s 4,.a 35 (.bool (decide (zA.1.Left≥(0:Int))&&decide (zA.1.Left<(lN (zE)))))] [.s 0,.s 1,.s 2,.s 3] (ac (congrArg AV.bool (kB zS):(.bool false:AV)=.bool (decide (zA.1.Left≥(0:Int))&&decide (zA.1.Left<(lN (zE))))) an))⟩
 refine ch 35 h ?_ ?_
 ·intro xH h;refine sq (nE h fun zV h=>nE h fun y9 h=>r2 [iS 5 Fb zE (0:Int) zA.1.Left (by decide) zV.1 zV.2,iM Fb zA.1.Data,iC trivial,iP 6 4 Fb zA.1.Data (sub zE (0:Int) zA.1.Left) 1 y9] [1] [] [1] [(0,Vb 31 [Ii zA.1.Size,.own 4 (((zA.1.Data++(sub zE (0:Int) zA.1.Left))).length),Ii zA.1.Durable,Ii zA.1.Left,.bool zA.1.Down]),(4,Rb 5 1 (Mb (zA.1.Data++(sub zE (0:Int) zA.1.Left))))] 5 (s2 [] [] [] [] [(0,Vb 31 [Ii zA.1.Size,.own 4 (((zA.1.Data++(sub zE (0:Int) zA.1.Left))).length),Ii zA.1.Durable,Ii 0,.bool true])] 5 (s2 [] [2] [(5,Ii 19)] [0,3] [(2,Vb 31 [Ii zA.1.Size,.own 4 (((zA.1.Data++(sub zE (0:Int) zA.1.Left))).length),Ii zA.1.Durable,Ii 0,.bool true])] 5 (wz [2] [4] [] [0] [(4,Pp 0),(5,Ii 19)] [(0,Vb 31 (xI (⟨zA.1.Size,(zA.1.Data++(sub zE (0:Int) zA.1.Left)),zA.1.Durable,(0:Int),true⟩:z9)))] (ar 31 (ar true (ac (by first | (simp;done) | (simp;omega):((zA.1.Data++(sub zE (0:Int) zA.1.Left))).length=((List.map (AV.int .u8) (zA.1.Data++(sub zE (0:Int) zA.1.Left)))).length) (ar (Ii zA.1.Size) (ar 1 (ar (Mb (zA.1.Data++(sub zE (0:Int) zA.1.Left))) (ar true (ar (Ii zA.1.Durable) (ar (Ii 0) (ar (.bool true:AV) an)))))))))) ?_))));cases h;exact rt rx
 intro xH h;refine sk (sq (nE h fun xS h=>r2 [iM Fb zA.1.Data,iC trivial,iP 3 4 Fb zA.1.Data zE 1 xS] [] [] [1] [(0,Vb 31 [Ii zA.1.Size,.own 4 (((zA.1.Data++zE)).length),Ii zA.1.Durable,Ii zA.1.Left,.bool zA.1.Down]),(4,Rb 5 1 (Mb (zA.1.Data++zE)))] 5 (sq (c0 [] 54 h [] ?_ ?_))))
 ·intro xV h;refine r2 [iN 3 Fb zE] [1] [] [] [(0,Vb 31 [Ii zA.1.Size,.own 4 (((zA.1.Data++zE)).length),Ii zA.1.Durable,Ii (zI (zA.1.Left - (lN (zE)))),.bool zA.1.Down])] 5 (s2 [] [2] [(5,Ii 0)] [0,3] [(2,Vb 31 [Ii zA.1.Size,.own 4 (((zA.1.Data++zE)).length),Ii zA.1.Durable,Ii (zI (zA.1.Left - (lN (zE)))),.bool zA.1.Down])] 5 (wz [2] [4] [] [0] [(4,Pp 0),(5,Ii 0)] [(0,Vb 31 (xI (⟨zA.1.Size,(zA.1.Data++zE),zA.1.Durable,zI (zA.1.Left - (lN (zE))),zA.1.Down⟩:z9)))] (ar 31 (ar true (ac (by first | (simp;done) | (simp;omega):((zA.1.Data++zE)).length=((List.map (AV.int .u8) (zA.1.Data++zE))).length) (ar (Ii zA.1.Size) (ar 1 (ar (Mb (zA.1.Data++zE)) (ar true (ar (Ii zA.1.Durable) (ar (Ii (zI (zA.1.Left - (lN (zE))))) (ar (.bool zA.1.Down:AV) an)))))))))) ?_));cases h;exact rt rx
 intro xV h;refine sk (s2 [] [1,2] [(5,Ii 0)] [0,3] [(2,Vb 31 [Ii zA.1.Size,.own 4 (((zA.1.Data++zE)).length),Ii zA.1.Durable,Ii zA.1.Left,.bool zA.1.Down])] 5 (wz [2] [4] [] [0] [(4,Pp 0),(5,Ii 0)] [(0,Vb 31 (xI (⟨zA.1.Size,(zA.1.Data++zE),zA.1.Durable,zA.1.Left,zA.1.Down⟩:z9)))] (ar 31 (ar true (ac (by first | (simp;done) | (simp;omega):((zA.1.Data++zE)).length=((List.map (AV.int .u8) (zA.1.Data++zE))).length) (ar (Ii zA.1.Size) (ar 1 (ar (Mb (zA.1.Data++zE)) (ar true (ar (Ii zA.1.Durable) (ar (Ii zA.1.Left) (ar (.bool zA.1.Down:AV) an)))))))))) ?_));cases h;exact rt rx
theorem QV (zN:z9) (r:z9×Int) (h:mL zN=some r):y6 prog 34 [] [] [u3 zN] [] (.tuple [u3 r.1,Ii r.2]):=by
 refine tI Try.f34 ?_;unfold mL at h;refine sE [iH 0 { id:=0 },iH 1 { id:=1 }] [(1,Pp 0),(2,Pp 1)] [(0,Vb 31 (xI zN)),(1,qY)] 2 (sq (bE h fun zA zM h=>r2 [iK 1 {} (HJ zN zA zM)] [] [(4,Ii zA.2)] [] [(0,Vb 31 (xI zA.1))] 2 (sq (c0 [] 11 h [] ?_ ?_))))
 ·intro yN h;refine s2 [] [1] [(3,Ii zA.2)] [0] [(1,Vb 31 (xI zA.1))] 2 (w0 [1] [] [(2,Pp 0),(3,Ii zA.2)] [(0,Vb 31 (xI zA.1))] ?_);cases h;exact rt rx
 intro yN h;refine sk (sq (c0 [] 16 h [] ?_ ?_))
 ·intro xH h;refine s2 [] [] [] [] [(0,Vb 31 [Ii zA.1.Size,Sb zA.1.Data,Ii zA.1.Durable,Ii zA.1.Left,.bool true])] 2 (s2 [] [1] [(3,Ii 19)] [0] [(1,Vb 31 [Ii zA.1.Size,Sb zA.1.Data,Ii zA.1.Durable,Ii zA.1.Left,.bool true])] 2 (w0 [1] [] [(2,Pp 0),(3,Ii 19)] [(0,Vb 31 (xI (⟨zA.1.Size,zA.1.Data,zA.1.Durable,zA.1.Left,true⟩:z9)))] ?_));cases h;exact rt rx
 intro xH h;refine sk (s2 [iN 2 Fb zA.1.Data] [] [] [] [(0,Vb 31 [Ii zA.1.Size,Sb zA.1.Data,Ii (lN (zA.1.Data)),Ii zA.1.Left,.bool zA.1.Down])] 2 (s2 [] [1] [(3,Ii 0)] [0] [(1,Vb 31 [Ii zA.1.Size,Sb zA.1.Data,Ii (lN (zA.1.Data)),Ii zA.1.Left,.bool zA.1.Down])] 2 (w0 [1] [] [(2,Pp 0),(3,Ii 0)] [(0,Vb 31 (xI (⟨zA.1.Size,zA.1.Data,(lN (zA.1.Data)),zA.1.Left,zA.1.Down⟩:z9)))] ?_)));cases h;exact rt rx
theorem QK (F:Nat) (zN:z9) (qT:List (List (Int))) (r:z9×Int) (h:mK F zN qT=some r):y6 prog 22 [] [] [u3 zN,.sl false 1 (List.map zMb qT)] [] (.tuple [u3 r.1,Ii r.2]):=by
 refine tI Try.f22 ?_;unfold mK at h;refine sE [iH 0 { id:=0 },iH 1 { id:=1 }] [(1,.sl false 1 (List.map zMb qT)),(2,Pp 0),(4,Pp 1)] [(0,Vb 31 (xI zN)),(1,qY)] 2 (sq (s1 [iN 1 zMb qT] [1] [(10,.sl false 1 (List.map zMb qT)),(11,Ii (lN (qT))),(12,Ii 0)] (bE h fun zC zM h=>?_)));refine uD (K1:=kS prog zC 0 (fun q0=>mk [(2,Pp 0),(4,Pp 1)] [(0,Vb 31 [Ii q0.1,Sb q0.2.1,Ii q0.2.2.1,Ii q0.2.2.2.1,.bool q0.2.2.2.2]),(1,qY)] 2) Try.f22 (fun q1=>[]) fun q1=>.tuple [u3 q1.1,Ii q1.2]) ?_ ?_
 ·replace h:=zM;refine yZ (id:=0) zk ?_;refine w0 [0,1] [] [(2,Pp 0),(4,Pp 1),(10,.sl false 1 (List.map zMb qT)),(11,Ii (lN (qT))),(12,Ii 0)] [(0,Vb 31 (xI zN)),(1,qY)] ?_;refine wP (fun n st=>∃ (zG:Int),∃ (zB:Int),∃ (yK:List Int),∃ (yG:Int),∃ (yC:Int),∃ (yS:Bool),st=mk [(2,Pp 0),(4,Pp 1),(10,.sl false 1 (List.map zMb qT)),(11,Ii (lN (qT))),(12,Ii zG)] [(0,Vb 31 [Ii zB,.sl false 1 (Mb yK),Ii yG,Ii yC,.bool yS]),(1,qY)] 2∧BD F qT n zG zB yK yG yC yS=some zC) F zk ⟨_,_,_,_,_,_,rfl,h⟩ ?_ ?_
  ·rintro _ ⟨_,_,_,_,_,_,_,h⟩;exact wQ (h:(none:Option ((Int×(List Int)×Int×Int×Bool)⊕(z9×Int)))=some zC)
  rintro yF _ ⟨zG,zB,yK,yG,yC,yS,rfl,h⟩;replace h:BP F qT (BD F qT yF) zG zB yK yG yC yS=some zC:=h;unfold BP at h;refine s0 [] [(13,.bool (decide (zG<(lN (qT)))))] (sq (ch 13 h ?_ ?_))
  rotate_left
  ·intro yN h;refine wN (id:=0) zk ?_;cases h;exact ⟨rfl,(sI 2 [2,4])⟩
  intro yN h;refine sk (sq ?_);refine yZ (id:=1) zk ?_;refine sq (bE h fun zH zV h=>r0 [iF 0 zMb zV] [(7,.sl false 1 (Mb zH))] (sq (bE h fun zA y9 h=>r2 [iH 6 { id:=2 },iL 2 {} [.agg [Ii zB,.sl false 1 (Mb yK),Ii yG,Ii yC,.bool yS],.sl false 1 (Mb zH)] (zDL (⟨zB,yK,yG,yC,yS⟩:z9) zH zA y9) ⟨rfl,rfl,rfl,rfl,rfl,rfl,rfl,rfl,rfl,rfl,trivial⟩] [7] [(8,Pp 2),(9,Ii zA.2)] [] [(2,Vb 31 (xI zA.1))] 3 (sq (c0 [] 23 h [] ?_ ?_)))))
  rotate_left
  ·intro xH h;refine sk (r2 [] [8] [] [2] [(0,Vb 31 (xI zA.1))] 3 (r0 [] [(12,Ii (zI (zG+(1:Int))))] ?_));exact ⟨_,(sI 2 [2,4,10,11,12]),_,_,_,_,_,_,rfl,h⟩
  intro xH h;refine s2 [] [2,10,8] [(5,Ii zA.2)] [0,2] [(1,Vb 31 (xI zA.1))] 3 (w0 [1] [] [(4,Pp 0),(5,Ii zA.2)] [(0,Vb 31 (xI zA.1))] ?_);cases h;exact rt ry
 intro e st1 hk;rcases zC with yD | xW
 rotate_left
 ·obtain ⟨rfl,hf⟩:=hk;cases h;exact ⟨st1,Sub.refl _ _,.inr rfl,hf⟩
 obtain ⟨rfl,hs⟩:=hk;refine ⟨_,hs,?_⟩;refine sq (bE h fun zJ xS h=>r2 [iL 1 {} [.agg [Ii yD.1,Sb yD.2.1,Ii yD.2.2.1,Ii yD.2.2.2.1,.bool yD.2.2.2.2]] (QV (⟨yD.1,yD.2.1,yD.2.2.1,yD.2.2.2.1,yD.2.2.2.2⟩:z9) zJ xS) ⟨rfl,rfl,rfl,rfl,rfl,rfl,rfl,trivial⟩] [2] [(5,Ii zJ.2)] [0] [(1,Vb 31 (xI zJ.1))] 2 (w0 [1] [] [(4,Pp 0),(5,Ii zJ.2)] [(0,Vb 31 (xI zJ.1))] ?_));cases h;exact rt rx
theorem QE (F:Nat) (zN:z9) (zM:zU) (r:z9×Int) (h:r9 F zN zM=some r):y6 prog 9 [] [] [u3 zN,pY zM] [] (.tuple [u3 r.1,Ii r.2]):=by
 refine tI Try.f9 ?_;unfold r9 at h;refine sE [iH 0 { id:=0 },iH 1 { id:=1 },iH 2 { id:=2 }] [(2,Pp 0),(3,Pp 1),(4,Pp 2)] [(0,Vb 31 (xI zN)),(1,Vb 26 (vD zM)),(2,qY)] 3 (sq (sq (bE h fun zA zV h=>r0 [iK 1 {} (rA zN zA zV)] [(6,Ii zA)] (c0 [] 11 h [] ?_ ?_))))
 ·intro yN h;refine s2 [] [2,3] [(5,Ii zA)] [0,1] [] 3 (wz [2] [] [] [0] [(4,Pp 0),(5,Ii zA)] [(0,Vb 31 (xI zL0))] (ar 31 (ar true (ar (Ii 0) (ar ([]:List AV) (ar (Ii 0) (ar (Ii 0) (ar (.bool false:AV) an))))))) ?_);cases h;exact rt rx
 intro yN h;refine sk (sq (c0 [iN 2 Fb zN.Data] 17 h [] ?_ ?_))
 ·intro xH h;refine s2 [] [2,3] [(5,Ii 18)] [0,1] [] 3 (wz [2] [] [] [0] [(4,Pp 0),(5,Ii 18)] [(0,Vb 31 (xI zL0))] (ar 31 (ar true (ar (Ii 0) (ar ([]:List AV) (ar (Ii 0) (ar (Ii 0) (ar (.bool false:AV) an))))))) ?_);cases h;exact rt rx
 intro xH h;refine sk (sq (sq (bE h fun zJ y9 h=>r0 [iK 1 {} (ST F zM zJ y9)] [(7,Ii zJ)] (c0 [] 22 h [] ?_ ?_))))
 ·intro xV h;refine s2 [] [2,3] [(5,Ii zJ)] [0,1] [] 3 (wz [2] [] [] [0] [(4,Pp 0),(5,Ii zJ)] [(0,Vb 31 (xI zL0))] (ar 31 (ar true (ar (Ii 0) (ar ([]:List AV) (ar (Ii 0) (ar (Ii 0) (ar (.bool false:AV) an))))))) ?_);cases h;exact rt rx
 intro xV h;refine sk (sq (bE h fun zP xS h=>bE h fun z5 wG h=>bE h fun zW vA h=>r2 [iH 4 { frz:=[3],id:=4 },iK 2 {} (R8 F zM zP xS),iK 3 { ids:=[3] } (A0 F (72:Int) zP z5 wG),iM Fb z5,iC (by first | (simp;done) | (simp;omega):1=((List.map zMb ([z5]:List (List (Int))))).length),iK 5 { frz:=[4] } (QK F zN ([z5]:List (List (Int))) zW vA)] [2,3] [(5,Ii zW.2)] [0,1] [(2,Vb 31 (xI zW.1))] 5 (w0 [2] [] [(4,Pp 0),(5,Ii zW.2)] [(0,Vb 31 (xI zW.1))] ?_)));cases h;exact rt rx
theorem XQ (vE:Int) (r:Int) (h:DX vE=some r):y6 prog 84 [] [] [.int .u64 vE] [] (Ii r):=by
 refine tI Try.f84 ?_;unfold DX at h;refine sE [] [(0,.int .u64 vE)] [] 0 (s0 [iC (by decide:(0:Int)≤(1:Int))] [(2,Ii (tW .i64 (zI (qI .u64 vE (1:Int))) (zI (0 - (zI (uG .u64 vE (1:Int)))))))] ?_);cases h;exact rt rx
theorem rR (F:Nat) (zE:List (Int)) (r:Int×Int×Int) (h:bL F zE=some r):y6 prog 62 [] [] [Sb zE] [] (.tuple [Ii r.1,Ii r.2.1,Ii r.2.2]):=by
 refine tI Try.f62 ?_;unfold bL at h;refine sE [] [(0,Sb zE)] [] 0 (s0 [] [(5,.int .u64 (0:Int))] (sq (s1 [iN 1 Fb zE] [0] [(8,Sb zE),(9,Ii (lN (zE))),(10,Ii 0)] (bE h fun zC zM h=>?_))));refine uD (K1:=kS prog zC 0 (fun q0=>mk [] [] 0) Try.f62 (fun q1=>[]) fun q1=>.tuple [Ii q1.1,Ii q1.2.1,Ii q1.2.2]) ?_ ?_
 ·replace h:=zM;refine yZ (id:=0) zk ?_;refine w0 [] [] [(5,.int .u64 (0:Int)),(8,Sb zE),(9,Ii (lN (zE))),(10,Ii 0)] [] ?_;refine wP (fun n st=>∃ (vE:Int),∃ (zG:Int),st=mk [(5,.int .u64 vE),(8,Sb zE),(9,Ii (lN (zE))),(10,Ii zG)] [] 0∧fW F zE n vE zG=some zC) F zk ⟨_,_,rfl,h⟩ ?_ ?_
  ·rintro _ ⟨_,_,_,h⟩;exact wQ (h:(none:Option (Unit⊕(Int×Int×Int)))=some zC)
  rintro yF _ ⟨vE,zG,rfl,h⟩;replace h:BN F zE (fW F zE yF) vE zG=some zC:=h;unfold BN at h;refine s0 [] [(11,.bool (decide (zG<(lN (zE)))))] (sq (ch 11 h ?_ ?_))
  rotate_left
  ·intro yN h;refine wN (id:=0) zk ?_;cases h;exact ⟨rfl,(sI 0 [])⟩
  intro yN h;refine sk (sq ?_);refine yZ (id:=1) zk ?_;refine sq (bE h fun zH zV h=>r0 [iF 1 Fb zV] [(6,Ii zG),(7,Iu zH)] (sq (ad 20 h ?_ ?_ ?_)))
  ·rcases bft (zG==(9:Int)) with wE | wE
   ·exact rm [iH 5 Ht,iR 3 wE] (uF wE rfl)
   ·exact rm [iG 3 2,iH 5 Hf,iR 3 wE] (kB wE)
  ·intro xH h;refine s1 [] [8] [(2,Ii 0),(3,Ii 0),(4,Ii 10)] ?_;cases h;exact rt ry
  intro xH h;refine sk (sq (nE h fun y9 h=>r0 [iC y9] [(5,.int .u64 (ior .u64 vE (pP .u64 (jO (uG .u8 zH (127:Int))) (zI ((7:Int) * zG)))))] (sq (c0 [] 30 h [] ?_ ?_))))
  ·intro xV h;refine wN (id:=1) zk ?_;refine rE [] [(5,.int .u64 (ior .u64 vE (pP .u64 (jO (uG .u8 zH (127:Int))) (zI ((7:Int) * zG))))),(8,Sb zE),(9,Ii (lN (zE))),(10,Ii (zI (zG+(1:Int))))] [] 0 ?_;exact ⟨_,(sI 0 [5,8,9,10]),_,_,rfl,h⟩
  intro xV h;refine sk (sq (sq ?_));refine x7 (mk [(5,.int .u64 (ior .u64 vE (pP .u64 (jO (uG .u8 zH (127:Int))) (zI ((7:Int) * zG))))),(6,Ii zG),(36,.bool ((zH==(0:Int))&&decide (zG>(0:Int))))] [] 0) ?_ ?_
  ·rcases bft (zH==(0:Int)) with wL | wL
   ·refine r1 [iH 5 Ht,iR 3 wL] [8] [(36,.bool (decide (zG>(0:Int))))] ?_;exact ⟨rfl,(sw [] [] [.s 5,.s 6,.a 36 (.bool ((zH==(0:Int))&&decide (zG>(0:Int))))] [] (ac (congrArg AV.bool (uF wL rfl):(.bool (decide (zG>(0:Int))):AV)=.bool ((zH==(0:Int))&&decide (zG>(0:Int)))) an))⟩
   ·refine r1 [iG 3 2,iH 5 Hf,iR 3 wL] [8] [(36,.bool false)] ?_;exact ⟨rfl,(sw [] [] [.s 5,.s 6,.a 36 (.bool ((zH==(0:Int))&&decide (zG>(0:Int))))] [] (ac (congrArg AV.bool (kB wL):(.bool false:AV)=.bool ((zH==(0:Int))&&decide (zG>(0:Int)))) an))⟩
  refine ch 36 h ?_ ?_
  ·intro vY h;refine s0 [] [(2,Ii 0),(3,Ii 0),(4,Ii 10)] ?_;cases h;exact rt ry
  intro vY h;refine sk (sq (bE h fun zA xS h=>r0 [iK 1 {} (XQ (ior .u64 vE (pP .u64 (jO (uG .u8 zH (127:Int))) (zI ((7:Int) * zG)))) zA xS)] [(2,Ii zA),(3,Ii (zI (zG+(1:Int)))),(4,Ii 0)] ?_));cases h;exact rt ry
 intro e st1 hk;rcases zC with yD | xW
 rotate_left
 ·obtain ⟨rfl,hf⟩:=hk;cases h;exact ⟨st1,Sub.refl _ _,.inr rfl,hf⟩
 obtain ⟨rfl,hs⟩:=hk;refine ⟨_,hs,?_⟩;refine s0 [] [(2,Ii 0),(3,Ii 0),(4,Ii 8)] ?_;cases h;exact rt rx
theorem SQ (F:Nat) (zE:List (Int)) (r:Int×(List (Int))×Int) (h:rV F zE=some r):y6 prog 44 [] [] [Sb zE] [] (.tuple [Iu r.1,Sb r.2.1,Ii r.2.2]):=by
 refine tI Try.f44 ?_;unfold rV at h;refine sE [] [(0,Sb zE)] [] 0 (sq (c0 [iN 1 Fb zE] 14 h [] ?_ ?_))
 ·intro yN h;refine s1 [] [0] [(2,Iu 0),(3,.nilsl),(4,Ii 0)] (wz [] [] [3] [] [(2,Iu 0),(3,.sl false 1 []),(4,Ii 0)] [] (ar ([]:List AV) an) ?_);cases h;exact rt rx
 intro yN h;refine sk (sq (nE h fun zM h=>bE h fun zA zV h=>r0 [iT 1 Fb zE (1:Int) (by decide) zM,iK 2 {} (rR F (sub zE (1:Int) (lN (zE))) zA zV)] [(5,Ii zA.1),(6,Ii zA.2.1),(7,Ii zA.2.2)] (sq (c0 [] 23 h [] ?_ ?_))))
 ·intro xH h;refine s1 [] [0] [(2,Iu 0),(3,.nilsl),(4,Ii 0)] (wz [] [] [3] [] [(2,Iu 0),(3,.sl false 1 []),(4,Ii 0)] [] (ar ([]:List AV) an) ?_);cases h;exact rt rx
 intro xH h;refine sk (sq (nE h fun y9 h=>bE h fun zJ xS h=>r0 [iT 3 Fb zE (zI ((1:Int)+zA.2.1)) y9.1 y9.2,iK 4 {} (rR F (sub zE (zI ((1:Int)+zA.2.1)) (lN (zE))) zJ xS)] [(7,Ii zJ.2.2),(8,Ii zJ.1),(9,Ii zJ.2.1)] (s0 [] [(10,Ii (zI ((zI ((1:Int)+zA.2.1))+zJ.2.1)))] (sq (ad 50 h ?_ ?_ ?_)))))
 ·rcases bft (zJ.2.2 != (0:Int)) with yH | yH
  ·exact rm [iG 3 2,iH 5 Ht,iG 7 6,iH 13 Ht,iR 3 yH,iX 6,iA true] (ort yH)
  ·rcases bft (decide (zA.1<(0:Int))) with yM | yM
   ·exact rm [iH 5 Hf,iG 7 6,iH 13 Ht,iR 3 yH,iR 7 yM] (orf yH (ort yM))
   ·exact rm [iH 5 Hf,iH 13 Hf,iR 3 yH,iR 3 yM,iN 9 Fb zE,iR 4 yM] (orf yH (orf yM rfl))
 ·intro xV h;refine s1 [] [0] [(2,Iu 0),(3,.nilsl),(4,Ii 0)] (wz [] [] [3] [] [(2,Iu 0),(3,.sl false 1 []),(4,Ii 0)] [] (ar ([]:List AV) an) ?_);cases h;exact rt rx
 intro xV h;refine sk (sq (nE h fun wG h=>r0 [iS 5 Fb zE (zI ((zI ((1:Int)+zA.2.1))+zJ.2.1)) (zI ((zI ((zI ((1:Int)+zA.2.1))+zJ.2.1))+zA.1)) wG.1 wG.2.1 wG.2.2] [(11,Sb (sub zE (zI ((zI ((1:Int)+zA.2.1))+zJ.2.1)) (zI ((zI ((zI ((1:Int)+zA.2.1))+zJ.2.1))+zA.1))))] (sq (sq (bE h fun zH vA h=>bE h fun zP vT h=>r0 [iF 1 Fb vA,iK 4 {} (TD F zH (sub zE (zI ((zI ((1:Int)+zA.2.1))+zJ.2.1)) (zI ((zI ((zI ((1:Int)+zA.2.1))+zJ.2.1))+zA.1))) zP vT)] [(63,.bool (zP != zJ.1))] (ch 63 h ?_ ?_))))))
 ·intro vY h;refine s1 [] [0,11] [(2,Iu 0),(3,.nilsl),(4,Ii 0)] (wz [] [] [3] [] [(2,Iu 0),(3,.sl false 1 []),(4,Ii 0)] [] (ar ([]:List AV) an) ?_);cases h;exact rt rx
 intro vY h;refine sk (sq (bE h fun yA uA h=>r1 [iF 1 Fb uA] [0,11] [(2,Iu yA),(3,Sb (sub zE (zI ((zI ((1:Int)+zA.2.1))+zJ.2.1)) (zI ((zI ((zI ((1:Int)+zA.2.1))+zJ.2.1))+zA.1)))),(4,Ii (zI ((zI ((zI ((1:Int)+zA.2.1))+zJ.2.1))+zA.1)))] ?_));cases h;exact rt rx
theorem bI (F:Nat) (zF:vB) (r:Int×vB) (h:pX F zF=some r):y6 prog 64 [(.var 134 (uU zF))] [] [Pp 0] [(.var 134 (uU r.2))] (Ii r.1):=by
 refine tI Try.f64 ?_;unfold pX at h;refine sE [] [(0,Pp 0)] [(0,Vb 134 (uU zF))] 1 (sq (bE h fun zA zM h=>r0 [iK 4 {} (rR F zF.b zA zM)] [(3,Ii zA.1),(4,Ii zA.2.1),(5,Ii zA.2.2)] (sq (c0 [] 16 h [] ?_ ?_))))
 ·intro yN h;refine s2 [] [0] [] [] [(0,Vb 134 [.nilsl,.bool true])] 1 (s0 [] [(2,Ii 0)] (wz [0] [] [] [0] [(2,Ii 0)] [(0,Vb 134 (uU (⟨[],true⟩:vB)))] (ar 134 (ar true (ar ([]:List AV) (ar (.bool true:AV) an)))) ?_));cases h;exact rt rx
 intro yN h;refine sk (sq (nE h fun zV h=>r2 [iT 6 Fb zF.b zA.2.1 zV.1 zV.2] [0] [] [] [(0,Vb 134 [Sb (sub zF.b zA.2.1 (lN (zF.b))),.bool zF.bad])] 1 (s0 [] [(2,Ii zA.1)] ?_)));cases h;exact rt rx
theorem JU (F:Nat) (zF:vB) (kL:Int) (r:Int×vB) (h:lR F zF kL=some r):y6 prog 63 [(.var 134 (uU zF))] [] [Pp 0,Ii kL] [(.var 134 (uU r.2))] (Ii r.1):=by
 refine tI Try.f63 ?_;unfold lR at h;refine sE [] [(0,Pp 0),(1,Ii kL)] [(0,Vb 134 (uU zF))] 1 (sq (bE h fun zA zM h=>r2 [iK 1 { ids:=[0] } (bI F zF zA zM)] [] [(5,Ii zA.1)] [] [(0,Vb 134 (uU zA.2))] 1 (sq (ad 14 h ?_ ?_ ?_))))
 ·rcases bft (decide (zA.1<(0:Int))) with zS | zS
  ·exact rm [iG 3 3,iH 6 Ht,iR 4 zS] (ort zS)
  ·exact rm [iH 6 Hf,iR 4 zS] (orf zS rfl)
 rotate_left
 ·intro yN h;refine sk (s1 [] [0] [(4,Ii zA.1)] ?_);cases h;exact rt rx
 intro yN h;refine s2 [] [0] [] [] [(0,Vb 134 [Sb zA.2.b,.bool true])] 1 (s0 [] [(4,Ii 0)] ?_);cases h;exact rt rx
theorem RV (F:Nat) (zE:List (Int)) (kL:Int) (r:(List Int)×Int×Int) (h:rZ F zE kL=some r):y6 prog 85 [] [] [Sb zE,Ii kL] [] (.tuple [.str r.1,Ii r.2.1,Ii r.2.2]):=by
 refine tI Try.f85 ?_;unfold rZ at h;refine sE [] [(0,Sb zE),(1,Ii kL)] [] 0 (sq (bE h fun zA zM h=>r0 [iK 1 {} (rR F zE zA zM)] [(7,Ii zA.1),(8,Ii zA.2.1),(9,Ii zA.2.2)] (sq ?_)));refine yZ (id:=0) zk ?_;refine c0 [] 16 h [] ?_ ?_
 ·intro yN h;refine s1 [] [0] [(4,.str ([]:List Int)),(5,Ii 0),(6,Ii zA.2.2)] ?_;cases h;exact rt rx
 intro yN h;refine c0 [] 20 h [] ?_ ?_
 ·intro xH h;refine s1 [] [0] [(4,.str ([]:List Int)),(5,Ii 0),(6,Ii 10)] ?_;cases h;exact rt rx
 intro xH h;refine c0 [] 23 h [] ?_ ?_
 ·intro xV h;refine s1 [] [0] [(4,.str ([]:List Int)),(5,Ii 0),(6,Ii 7)] ?_;cases h;exact rt rx
 intro xV h;refine c0 [iN 2 Fb zE] 27 h [] ?_ ?_
 ·intro vY h;refine s1 [] [0] [(4,.str ([]:List Int)),(5,Ii 0),(6,Ii 8)] ?_;cases h;exact rt rx
 intro vY h;refine sk (sq (nE h fun zV h=>r1 [iH 6 { s:=sub zE zA.2.1 (zI (zA.2.1+zA.1)) },iS 5 Fb zE zA.2.1 (zI (zA.2.1+zA.1)) zV.1 zV.2.1 zV.2.2,iC (rfl:(Mb (sub zE zA.2.1 (zI (zA.2.1+zA.1))))=List.map (AV.int .u8) (sub zE zA.2.1 (zI (zA.2.1+zA.1))))] [0] [(4,.str (sub zE zA.2.1 (zI (zA.2.1+zA.1)))),(5,Ii (zI (zA.2.1+zA.1))),(6,Ii 0)] ?_));cases h;exact rt rx
theorem zCB (F:Nat) (zF:vB) (r:(List Int)×vB) (h:A7 F zF=some r):y6 prog 65 [(.var 134 (uU zF))] [] [Pp 0] [(.var 134 (uU r.2))] (.str r.1):=by
 refine tI Try.f65 ?_;unfold A7 at h;refine sE [] [(0,Pp 0)] [(0,Vb 134 (uU zF))] 1 (sq (bE h fun zA zM h=>r0 [iK 4 {} (RV F zF.b (40:Int) zA zM)] [(3,.str zA.1),(4,Ii zA.2.1),(5,Ii zA.2.2)] (sq (c0 [] 16 h [] ?_ ?_))))
 ·intro yN h;refine s2 [] [0] [] [] [(0,Vb 134 [.nilsl,.bool true])] 1 (s0 [] [(2,.str ([]:List Int))] (wz [0] [] [] [0] [(2,.str ([]:List Int))] [(0,Vb 134 (uU (⟨[],true⟩:vB)))] (ar 134 (ar true (ar ([]:List AV) (ar (.bool true:AV) an)))) ?_));cases h;exact rt rx
 intro yN h;refine sk (sq (nE h fun zV h=>r2 [iT 6 Fb zF.b zA.2.1 zV.1 zV.2] [0] [] [] [(0,Vb 134 [Sb (sub zF.b zA.2.1 (lN (zF.b))),.bool zF.bad])] 1 (s0 [] [(2,.str zA.1)] ?_)));cases h;exact rt rx
theorem TE (F:Nat) (zF:vB) (r:yP×vB) (h:m4 F zF=some r):y6 prog 66 [(.var 134 (uU zF))] [] [Pp 0] [(.var 134 (uU r.2))] (z4 r.1):=by
 refine tI Try.f66 ?_;unfold m4 at h;refine sE [iH 0 { id:=1 }] [(0,Pp 0),(2,Pp 1)] [(0,Vb 134 (uU zF)),(1,Vb 73 [Ii 0,Ii 0,Ii 0,Ii 0,Ii 0])] 2 (sq (bE h fun zA zM h=>bE h fun zJ zV h=>bE h fun zP y9 h=>r2 [iK 1 { ids:=[0] } (bI F zF zA zM),iK 3 { ids:=[0] } (bI F zA.2 zJ zV),iK 5 { ids:=[0] } (bI F zJ.2 zP y9)] [] [(3,Ii zA.1),(4,Ii zJ.1),(5,Ii zP.1)] [] [(0,Vb 134 (uU zP.2))] 2 (sq (bE h fun z5 xS h=>r2 [iK 1 { ids:=[0] } (bI F zP.2 z5 xS)] [] [(6,Ii z5.1)] [] [(0,Vb 134 (uU z5.2))] 2 (sq (bE h fun zW wG h=>r2 [iK 5 { ids:=[0] } (bI F z5.2 zW wG)] [0] [] [] [(0,Vb 134 (uU zW.2)),(1,Vb 73 [Ii zA.1,Ii zJ.1,Ii zP.1,Ii z5.1,Ii zW.1])] 2 ?_))))));cases h;exact rt rx
theorem MG (zY:List (Int)) (zE:List (Int)) (r:Bool) (h:cW zY zE=some r):y6 prog 67 [] [] [Sb zY,Sb zE] [] (.bool r):=by
 refine tI Try.f67 ?_;unfold cW at h;refine sE [] [(0,Sb zY),(1,Sb zE)] [] 0 (s1 [iH 1 { s:=zY },iH 3 { s:=zE },iC (rfl:(Mb zY)=List.map (AV.int .u8) zY),iC (rfl:(Mb zE)=List.map (AV.int .u8) zE)] [0,1] [(4,.bool (zY==zE))] ?_);cases h;exact rt rx
end Go.Ab
