/- Lemmas. No conditions but those that they name. -/
import Derived.Test.YtcejcgalbcnjnaaGreatPtxC
import Derived.Test.YtcejcgalbcnjnaaGreatProg
namespace Go.Ab
open Go Go.Proofs
set_option linter.unusedVariables false
noncomputable abbrev prog:=Go.Proofs.Tryz.prog
theorem zI2:prog.follows .mixedOrders=true:=by kernel_rfl
instance :Mx prog:=⟨zI2⟩
theorem zKu:XH prog 130:=⟨_,Go.Proofs.Tryz.func130,by kernel_rfl,by kernel_rfl,by kernel_rfl,zk⟩
theorem tJ:wW prog 3 false [.int .i64]:=zIp zk
theorem zH7:wW prog 62 true [.int .i64,.int .i64]:=EU zk zk zk zk
theorem zEk:∀ a b:yW,yV a=yV b->a=b:=by
  intro a b h;cases a;cases b;simpa [yV,o6] using h
theorem zFF:bD prog 62 [.int .i64,.int .i64]:=X9 zH7 zk zk
theorem zI7:wW prog 69 true [.int .i64,.str,.int .i64]:=EU zk zk zk zk
theorem zIL:∀ a b:wN,yZ a=yZ b->a=b:=by
  intro a b h;cases a;cases b;simpa [yZ,qV] using h
theorem zJV:bD prog 69 [.int .i64,.str,.int .i64]:=X9 zI7 zk zk
theorem zL7:wW prog 67 true [.int .i64,.int .i64,.int .i64,.int .i64,.int .i64]:=EU zk zk zk zk
theorem zEK:∀ a b:xO,yQ a=yQ b->a=b:=by
  rintro ⟨_,_,_,⟨_,_⟩⟩ ⟨_,_,_,⟨_,_⟩⟩ h
  simpa [yQ,cN] using h
theorem zFI:bD prog 67 [.int .i64,.int .i64,.int .i64,.int .i64,.int .i64]:=X9 zL7 zk zk
theorem GM:wW prog 48 true [.int .i64,.int .i64]:=EU zk zk zk zk
theorem GH:∀ a b:xU,wG a=wG b->a=b:=by
  intro a b h;cases a;cases b;simpa [wG,lP] using h
def zId:Go.Shelf.Ren:={ f:=fun n=>bif Nat.beq n 53 then 36 else bif Nat.beq n 64 then 56 else bif Nat.beq n 63 then 55 else bif Nat.beq n 78 then 85 else bif Nat.beq n 79 then 86 else bif Nat.beq n 70 then 76 else bif Nat.beq n 71 then 77 else bif Nat.beq n 72 then 78 else bif Nat.beq n 73 then 79 else bif Nat.beq n 74 then 80 else bif Nat.beq n 75 then 81 else bif Nat.beq n 59 then 82 else bif Nat.beq n 76 then 83 else bif Nat.beq n 77 then 84 else bif Nat.beq n 88 then 102 else bif Nat.beq n 89 then 103 else bif Nat.beq n 90 then 104 else bif Nat.beq n 91 then 105 else bif Nat.beq n 92 then 106 else bif Nat.beq n 68 then 60 else bif Nat.beq n 96 then 116 else n,t:=fun n=>bif Nat.beq n 22 then 24 else bif Nat.beq n 23 then 3 else bif Nat.beq n 51 then 131 else bif Nat.beq n 67 then 162 else bif Nat.beq n 69 then 164 else bif Nat.beq n 61 then 156 else bif Nat.beq n 60 then 155 else bif Nat.beq n 44 then 81 else bif Nat.beq n 75 then 188 else bif Nat.beq n 79 then 192 else bif Nat.beq n 83 then 200 else bif Nat.beq n 84 then 201 else n,g:=fun x=>x }
theorem zHt : Go.Proofs.SlLaysN.n53 prog zId := ⟨by kernel_rfl, ⟨ "slices.Sort[[]int,int]", by decide, zk⟩, ⟨ "cmp.Less[int]", by decide, zk⟩, ⟨ "slices.pdqsortOrdered[int]", by decide, zk⟩, zk, ⟨ "cmp.isNaN[int]", by decide, zk⟩, ⟨ "slices.insertionSortOrdered[int]", by decide, zk⟩, ⟨ "slices.heapSortOrdered[int]", by decide, zk⟩, ⟨ "slices.breakPatternsOrdered[int]", by decide, zk⟩, ⟨ "slices.choosePivotOrdered[int]", by decide, zk⟩, ⟨ "slices.reverseRangeOrdered[int]", by decide, zk⟩, ⟨ "slices.partialInsertionSortOrdered[int]", by decide, zk⟩, ⟨ "slices.partitionEqualOrdered[int]", by decide, zk⟩, ⟨ "slices.partitionOrdered[int]", by decide, zk⟩, zk, zk, ⟨ "slices.siftDownOrdered[int]", by decide, zk⟩, zk, zk, ⟨ "slices.medianAdjacentOrdered[int]", by decide, zk⟩, ⟨ "slices.medianOrdered[int]", by decide, zk⟩, ⟨ "slices.order2Ordered[int]", by decide, zk⟩, zk, fun w => zk, fun w => zk, fun w => zk, zk, fun w => zk, fun w => zk, fun w => zk, zk, fun w => zk, fun w => zk, fun w => zk, zk, fun w => zk, fun w => zk, fun w => zk, zk, fun w => zk, fun w => zk, fun w => zk, zk, fun w => zk, fun w => zk, fun w => zk, zk, fun w => zk, fun w => zk, fun w => zk, zk, fun w => zk, fun w => zk, fun w => zk, zk, fun w => zk, fun w => zk, fun w => zk, zk, fun w => zk, fun w => zk, fun w => zk, zk, fun w => zk, fun w => zk, fun w => zk, zk, fun w => zk, fun w => zk, fun w => zk, zk, fun w => zk, fun w => zk, fun w => zk, zk, fun w => zk, fun w => zk, fun w => zk, zk, fun w => zk, fun w => zk, fun w => zk, zk, fun w => zk, fun w => zk, fun w => zk, zk, fun w => zk, fun w => zk, fun w => zk⟩
def zN5:Go.Shelf.Ren:={ f:=fun n=>bif Nat.beq n 43 then 37 else n,t:=fun n=>bif Nat.beq n 22 then 24 else bif Nat.beq n 23 then 3 else n,g:=fun x=>x }
theorem zJD : Go.Proofs.SlLaysN.n43 prog zN5 := ⟨by kernel_rfl, ⟨ "slices.Compact[[]int,int]", by decide, zk⟩, zk, fun w => zk, fun w => zk, fun w => zk, zk, fun w => zk, fun w => zk, fun w => zk, zk, fun w => zk, fun w => zk, fun w => zk, zk, fun w => zk, fun w => zk, fun w => zk, zk, fun w => zk, fun w => zk, fun w => zk, zk⟩
theorem zGd:wW prog 123 true [.int .i64,.int .i64]:=EU zk zk zk zk
theorem zCh:∀ a b:jD,D2 a=D2 b->a=b:=by
  intro a b h;cases a;cases b;simpa [D2,zEz] using h
theorem zF9:wW prog 186 true [.int .i64,.int .i64]:=EU zk zk zk zk
theorem zCQ:∀ a b:vF,mX a=mX b->a=b:=by
  intro a b h;cases a;cases b;simpa [mX,zF5] using h
theorem zGR:wW prog 54 true [.int .i64,.int .i64]:=EU zk zk zk zk
theorem zDx:∀ a b:wZ,kT a=kT b->a=b:=by
  intro a b h;cases a;cases b;simpa [kT,bJ] using h
theorem zEV:bD prog 54 [.int .i64,.int .i64]:=X9 zGR zk zk
theorem zF4 (zP:dH) (zB:Int) (r:Int) (h:J8 zP zB=some r):y9 prog 10 [] [] [kI zP,Ii zB] [] (Ii r):=by
 refine tI Tryz.f10 ?_;unfold J8 at h;refine sE [iH 0 { id:=0 }] [(1,Ii zB),(2,Pp 0)] [(0,Vb 64 (VI zP))] 1 (s0 [] [(5,Ii (zG (zB * zP.Xr)))] (s0 [iC (by decide:(1000000:Int)≠(0:Int))] [(6,Ii (pV .i64 (zG (zB * zP.Xr)) 1000000))] (sq (sq (am 19 (decide ((zG (zB * zP.Xr))<0)&&((dZ (zG (zB * zP.Xr)) 1000000) != 0)) ?_ ?_)))))
 ·rcases bft (decide ((zG (zB * zP.Xr))<0)) with yA | yA
  ·exact rm [iH 6 Ht,iR 2 yA,iC (by decide:(1000000:Int)≠(0:Int)),iR 2 yA] (nD yA rfl)
  ·exact rm [iG 3 3,iH 6 Hf,iR 4 yA] (gA yA)
 refine bE h fun zF zN h=>?_;refine xG (mk [(1,Ii zB),(2,Pp 0),(6,Ii zF)] [(0,Vb 64 (VI zP))] 1) ?_ ?_
 ·replace h:=zN;refine ch 19 h ?_ ?_
  ·intro zM h;refine r0 [] [(6,Ii (zG ((pV .i64 (zG (zB * zP.Xr)) 1000000) - 1)))] ?_;cases h;exact ⟨rfl,sZ⟩
  intro zM h;refine sk ?_;cases h;exact ⟨rfl,sZ⟩
 refine s2 [] [2] [(4,Ii (zG ((zG (zP.Yd+zB))+zF)))] [0] [] 1 ?_;cases h;exact rt rx
theorem zAE (zJ:uL) (thread_1:Int) (yD:Int) (r:Int) (h:BY zJ thread_1 yD=some r):y9 prog 8 [] [] [NP zJ,Ii thread_1,Ii yD] [] (Ii r):=by
 refine tI Tryz.f8 ?_;unfold BY at h;refine sE [iH 0 { id:=0 }] [(1,Ii thread_1),(2,Ii yD),(3,Pp 0)] [(aC zJ)] 1 (sq (bE h fun zB zN h=>bE h fun zI zW h=>r0 [iF 3 zC1 zN,iF 6 Fi zW] [(7,Ii zI)] (sq (sq (bE h fun z5 yP h=>r0 [iF 3 Fi yP] [(8,Ii z5)] (c0 [] 23 h [] ?_ ?_))))))
 rotate_left
 ·intro zM h;refine sk (s2 [] [3] [(6,Ii zI)] [0] [] 1 ?_);cases h;exact rt rx
 intro zM h;refine sq (bE h fun zZ xQ h=>bE h fun zA wF h=>r2 [iF 4 kI xQ,iK 7 {} (zF4 zZ zI zA wF)] [3] [(6,Ii zA)] [0] [] 1 ?_);cases h;exact rt rx
theorem zLr (z7:List Int) (zP:Int) (r:Int) (h:V6 z7 zP=some r):y9 prog 125 [] [] [.str z7,Iu zP] [] (Ii r):=by
 refine tI Tryz.f125 ?_;unfold V6 at h;refine sE [] [(0,.str z7),(1,Iu zP)] [] 0 (s0 [iC (zKu:XH prog 130)] [(4,Ii (nI z7 zP))] ?_);cases h;exact rt rx
theorem B5 (z7:List Int) (zP:Int) (r:Int) (h:mB z7 zP=some r):y9 prog 118 [] [] [.str z7,Iu zP] [] (Ii r):=by
 refine tI Tryz.f118 ?_;unfold mB at h;refine sE [] [(0,.str z7),(1,Iu zP)] [] 0 (sq (bE h fun zA zN h=>r0 [iK 2 {} (zLr z7 zP zA zN)] [(4,Ii zA)] ?_));cases h;exact rt rx
theorem zMg (zP:Int) (r:Bool) (h:RC zP=some r):y9 prog 108 [] [] [Iu zP] [] (.bool r):=by
 refine tI Tryz.f108 ?_;unfold RC at h;refine sE [] [(0,Iu zP)] [] 0 (sq (bE h fun yC zW h=>?_));refine xG (mk [(2,.bool yC)] [] 0) ?_ ?_
 ·replace h:=zW;refine bc h ?_ ?_
  ·intro yA h;refine bc h ?_ ?_
   ·intro yG h;refine r0 [iH 5 Ht,iG 7 3,iH 12 Hg,iH 13 Ht,iG 15 3,iH 20 Hg,iH 21 Ht,iG 23 3,iH 26 Ht,iR 3 yA,iR 5 yG,iX 4,iA true,iX 3,iA true] [(2,.bool true)] ?_;cases h;exact ⟨rfl,sZ⟩
   ·intro yG h;refine bc h ?_ ?_
    ·intro xF h;refine bc h ?_ ?_
     ·intro wJ h;refine r0 [iH 5 Ht,iH 12 Ht,iH 13 Hf,iG 15 3,iH 20 Hg,iH 21 Ht,iG 23 3,iH 26 Ht,iR 3 yA,iR 3 yG,iR 2 xF,iC yG,iC xF,iC yG,iR 5 wJ,iX 3,iA true] [(2,.bool true)] ?_;cases h;exact ⟨rfl,sZ⟩
     ·intro wJ h;refine bc h ?_ ?_
      ·intro tE h;refine bc h ?_ ?_
       ·intro pA h;refine r0 [iH 5 Ht,iH 12 Ht,iH 13 Hf,iH 20 Ht,iH 21 Hf,iG 23 3,iH 26 Ht,iR 3 yA,iR 3 yG,iR 2 xF,iC yG,iC xF,iC yG,iR 3 wJ,iR 2 tE,iC wJ,iC tE,iC wJ,iR 4 pA] [(2,.bool true)] ?_;cases h;exact ⟨rfl,sZ⟩
       ·intro pA h;refine bE h fun zA zN h=>r0 [iH 5 Ht,iH 12 Ht,iH 13 Hf,iH 20 Ht,iH 21 Hf,iH 26 Hf,iR 3 yA,iR 3 yG,iR 2 xF,iC yG,iC xF,iC yG,iR 3 wJ,iR 2 tE,iC wJ,iC tE,iC wJ,iR 2 pA,iK 24 {} (B5 BZ zP zA zN),iR 2 pA] (B2 zA) ?_;cases h;exact ⟨rfl,sZ⟩
      ·intro tE h;refine bE h fun zA zN h=>r0 [iH 5 Ht,iH 12 Ht,iH 13 Hf,iG 18 2,iH 20 Hf,iH 21 Hf,iH 26 Hf,iR 3 yA,iR 3 yG,iR 2 xF,iC yG,iC xF,iC yG,iR 3 wJ,iR 2 tE,iC wJ,iC tE,iC wJ,iQ 2 false,iK 24 {} (B5 BZ zP zA zN),iQ 2 false] (B2 zA) ?_;cases h;exact ⟨rfl,sZ⟩
    ·intro xF h;refine bc h ?_ ?_
     ·intro tT h;refine bc h ?_ ?_
      ·intro tO h;refine r0 [iH 5 Ht,iG 10 2,iH 12 Hf,iH 13 Hf,iH 20 Ht,iH 21 Hf,iG 23 3,iH 26 Ht,iR 3 yA,iR 3 yG,iR 2 xF,iC yG,iC xF,iC yG,iQ 3 false,iR 2 tT,iA false,iC tT,iA false,iR 4 tO] [(2,.bool true)] ?_;cases h;exact ⟨rfl,sZ⟩
      ·intro tO h;refine bE h fun zA zN h=>r0 [iH 5 Ht,iG 10 2,iH 12 Hf,iH 13 Hf,iH 20 Ht,iH 21 Hf,iH 26 Hf,iR 3 yA,iR 3 yG,iR 2 xF,iC yG,iC xF,iC yG,iQ 3 false,iR 2 tT,iA false,iC tT,iA false,iR 2 tO,iK 24 {} (B5 BZ zP zA zN),iR 2 tO] (B2 zA) ?_;cases h;exact ⟨rfl,sZ⟩
     ·intro tT h;refine bE h fun zA zN h=>r0 [iH 5 Ht,iG 10 2,iH 12 Hf,iH 13 Hf,iG 18 2,iH 20 Hf,iH 21 Hf,iH 26 Hf,iR 3 yA,iR 3 yG,iR 2 xF,iC yG,iC xF,iC yG,iQ 3 false,iR 2 tT,iA false,iC tT,iQ 3 false,iK 24 {} (B5 BZ zP zA zN),iQ 2 false] (B2 zA) ?_;cases h;exact ⟨rfl,sZ⟩
  ·intro yA h;refine bc h ?_ ?_
   ·intro pB h;refine bc h ?_ ?_
    ·intro jC h;refine r0 [iG 3 2,iH 5 Hf,iH 12 Ht,iH 13 Hf,iG 15 3,iH 20 Hg,iH 21 Ht,iG 23 3,iH 26 Ht,iR 3 yA,iQ 3 false,iR 2 pB,iA false,iC pB,iA false,iR 5 jC,iX 3,iA true] [(2,.bool true)] ?_;cases h;exact ⟨rfl,sZ⟩
    ·intro jC h;refine bc h ?_ ?_
     ·intro jH h;refine bc h ?_ ?_
      ·intro nU h;refine r0 [iG 3 2,iH 5 Hf,iH 12 Ht,iH 13 Hf,iH 20 Ht,iH 21 Hf,iG 23 3,iH 26 Ht,iR 3 yA,iQ 3 false,iR 2 pB,iA false,iC pB,iA false,iR 3 jC,iR 2 jH,iC jC,iC jH,iC jC,iR 4 nU] [(2,.bool true)] ?_;cases h;exact ⟨rfl,sZ⟩
      ·intro nU h;refine bE h fun zA zN h=>r0 [iG 3 2,iH 5 Hf,iH 12 Ht,iH 13 Hf,iH 20 Ht,iH 21 Hf,iH 26 Hf,iR 3 yA,iQ 3 false,iR 2 pB,iA false,iC pB,iA false,iR 3 jC,iR 2 jH,iC jC,iC jH,iC jC,iR 2 nU,iK 24 {} (B5 BZ zP zA zN),iR 2 nU] (B2 zA) ?_;cases h;exact ⟨rfl,sZ⟩
     ·intro jH h;refine bE h fun zA zN h=>r0 [iG 3 2,iH 5 Hf,iH 12 Ht,iH 13 Hf,iG 18 2,iH 20 Hf,iH 21 Hf,iH 26 Hf,iR 3 yA,iQ 3 false,iR 2 pB,iA false,iC pB,iA false,iR 3 jC,iR 2 jH,iC jC,iC jH,iC jC,iQ 2 false,iK 24 {} (B5 BZ zP zA zN),iQ 2 false] (B2 zA) ?_;cases h;exact ⟨rfl,sZ⟩
   ·intro pB h;refine bc h ?_ ?_
    ·intro dU h;refine bc h ?_ ?_
     ·intro mJ h;refine r0 [iG 3 2,iH 5 Hf,iG 10 2,iH 12 Hf,iH 13 Hf,iH 20 Ht,iH 21 Hf,iG 23 3,iH 26 Ht,iR 3 yA,iQ 3 false,iR 2 pB,iA false,iC pB,iQ 4 false,iR 2 dU,iA false,iC dU,iA false,iR 4 mJ] [(2,.bool true)] ?_;cases h;exact ⟨rfl,sZ⟩
     ·intro mJ h;refine bE h fun zA zN h=>r0 [iG 3 2,iH 5 Hf,iG 10 2,iH 12 Hf,iH 13 Hf,iH 20 Ht,iH 21 Hf,iH 26 Hf,iR 3 yA,iQ 3 false,iR 2 pB,iA false,iC pB,iQ 4 false,iR 2 dU,iA false,iC dU,iA false,iR 2 mJ,iK 24 {} (B5 BZ zP zA zN),iR 2 mJ] (B2 zA) ?_;cases h;exact ⟨rfl,sZ⟩
    ·intro dU h;refine bE h fun zA zN h=>r0 [iG 3 2,iH 5 Hf,iG 10 2,iH 12 Hf,iH 13 Hf,iG 18 2,iH 20 Hf,iH 21 Hf,iH 26 Hf,iR 3 yA,iQ 3 false,iR 2 pB,iA false,iC pB,iQ 4 false,iR 2 dU,iA false,iC dU,iQ 3 false,iK 24 {} (B5 BZ zP zA zN),iQ 2 false] (B2 zA) ?_;cases h;exact ⟨rfl,sZ⟩
 cases h;exact rt rx
theorem Y5 (F:Nat) (z7:List Int) (r:Int) (h:GE F z7=some r):y9 prog 89 [] [] [.str z7] [] (Ii r):=by
 refine tI Tryz.f89 ?_;unfold GE at h;refine sE [] [(0,.str z7)] [] 0 (sq (ad 10 h ?_ ?_ ?_))
 ·rcases bft (z7==([]:List Int)) with yA | yA
  ·exact rm [iG 3 3,iH 6 Ht,iR 4 yA] (ort yA)
  ·exact rm [iH 6 Hf,iR 4 yA] (orf yA rfl)
 ·intro zM h;refine s0 [] [(2,Ii 3)] ?_;cases h;exact rt rx
 intro zM h;refine sk (sq (s0 [] [(12,Ii (lN z7)),(13,Ii 0)] (bE h fun zF zN h=>cv zF (fun q0=>mk [] [] 0) Tryz.f89 (fun q1=>[]) (fun q1=>Ii q1) ?_ ?_ (by rintro _ rfl _ hf;cases h;exact ⟨.inr rfl,hf⟩))))
 ·replace h:=zN;refine ab 0 (w0 [] [] _ _ (xW (fun n st=>∃ (zD:Int),st=mk [(0,.str z7),(12,Ii (lN z7)),(13,Ii zD)] [] 0/\LZ F z7 n zD=some zF) F zk ⟨_,rfl,h⟩ (fun _ ⟨_,_,h⟩=>xS h) ?_));rintro yD _ ⟨zD,rfl,h⟩;rw [LZ,S4] at h;refine s0 [] [(14,.bool (decide (zD<(lN z7))))] (sq (ch 14 h (fun yU h=>sk (sq (ab 1 (s0 [] [(3,Ii zD)] (sq (bE h fun zP zW h=>bE h fun zA yP h=>r0 [iH 2 { z:=zP },iC zW,iK 3 {} (zMg zP zA yP)] [(20,.bool (!zA))] (ch 20 h ?_ ?_))))))) (fun _ h=>by cases h;exact ae 0 ⟨rfl,sZ⟩)))
  rotate_left
  ·intro w9 h;refine sk (r0 [] [(13,Ii (zC8 zD))] ?_);exact ⟨_,sZ,_,rfl,h⟩
  intro w9 h;refine s0 [] [(2,Ii 3)] ?_;cases h;exact rt ry
 rintro z8 rfl;refine s0 [] [(2,Ii 0)] ?_;cases h;exact rt rx
theorem zGL (F:Nat) (tD:wN) (r:Int) (h:MX F tD=some r):y9 prog 61 [] [] [yZ tD] [] (Ii r):=by
 refine tI Tryz.f61 ?_;unfold MX at h;refine sE [iH 0 { id:=0 }] [(1,Pp 0)] [(0,Vb 69 (qV tD))] 1 (sq (ad 20 h ?_ ?_ ?_))
 ·rcases bft (decide (tD.Id<0)) with yA | yA
  ·exact rm [iG 4 3,iH 7 Ht,iG 9 3,iH 12 Ht,iG 14 3,iH 17 Ht,iR 4 yA,iX 3,iA true,iX 3,iA true] (ort yA)
  ·rcases bft (decide (tD.Id>1000000000000000)) with yG | yG
   ·exact rm [iH 7 Hf,iG 9 3,iH 12 Ht,iG 14 3,iH 17 Ht,iR 4 yA,iR 4 yG,iX 3,iA true] (orf yA (ort yG))
   ·rcases bft (decide (tD.Xx<0)) with xF | xF
    ·exact rm [iH 7 Hf,iH 12 Hf,iG 14 3,iH 17 Ht,iR 4 yA,iR 4 yG,iR 4 xF] (orf yA (orf yG (ort xF)))
    ·exact rm [iH 7 Hf,iH 12 Hf,iH 17 Hf,iR 4 yA,iR 4 yG,iR 4 xF] (orf yA (orf yG (orf xF rfl)))
 ·intro zM h;refine s2 [] [1] [(2,Ii 2)] [0] [] 1 ?_;cases h;exact rt rx
 intro zM h;refine sk (sq (bE h fun zA zN h=>r2 [iK 2 {} (Y5 F tD.Yc zA zN)] [1] [(2,Ii zA)] [0] [] 1 ?_));cases h;exact rt rx
theorem zLA (zB:yW) (zQ:Int) (r:Bool) (h:V5 zB zQ=some r):y9 prog 111 [(a9 zQ)] [] [yV zB,Pp 0] [(a9 zQ)] (.bool r):=by
 refine tI Tryz.f111 ?_;unfold V5 at h;refine sE [iH 0 { id:=1 }] E7 [(0,Vb 3 [Ii zQ]),(1,Vb 62 (o6 zB))] 2 (s2 [] [1,2] [(3,.bool (zB.Id==zQ))] [1] [] 2 ?_);cases h;exact rt rx
theorem zJJ (F:Nat) (z7:List yW) (zP:Int) (r:Int) (h:OX F z7 zP=some r):y9 prog 92 [(a9 zP)] [] [Sq 2 yV z7,.fn 111 [Pp 0]] [(a9 zP)] (Ii r):=by
 refine tI Tryz.f92 ?_;unfold OX at h;refine sE [] [(pG z7),(1,.fn 111 [Pp 0])] [(0,Vb 3 [Ii zP])] 1 (sq (s0 [iN 1 yV z7] [(7,Ii (lN z7)),(8,Ii 0)] (bE h fun zF zN h=>cv zF (fun q0=>mk [] [(0,Vb 3 [Ii zP])] 1) Tryz.f92 (fun q1=>[(a9 zP)]) (fun q1=>Ii q1) ?_ ?_ (by rintro _ rfl _ hf;cases h;exact ⟨.inr rfl,hf⟩))))
 ·replace h:=zN;refine ab 0 (w0 [0] [] _ _ (xW (fun n st=>∃ (zD:Int),st=mk [(pG z7),(1,.fn 111 [Pp 0]),(7,Ii (lN z7)),(8,Ii zD)] [(0,Vb 3 [Ii zP])] 1/\Q4 F z7 zP n zD=some zF) F zk ⟨_,rfl,h⟩ (fun _ ⟨_,_,h⟩=>xS h) ?_));rintro yD _ ⟨zD,rfl,h⟩;rw [Q4,KF] at h;refine s0 [] [(9,.bool (decide (zD<(lN z7))))] (sq (ch 9 h (fun zM h=>sk (sq (ab 1 (s0 [] [(5,Ii zD)] (sq (bE h fun zB zW h=>bE h fun zA yP h=>r0 [iF 3 yV zW,iK 5 { ids:=[0] } (zLA zB zP zA yP)] [(16,.bool zA)] (ch 16 h ?_ ?_))))))) (fun _ h=>by cases h;exact ae 0 ⟨rfl,sZ⟩)))
  rotate_left
  ·intro yU h;refine sk (r0 [] [(8,Ii (zC8 zD))] ?_);exact ⟨_,sZ,_,rfl,h⟩
  intro yU h;refine s1 [] [0,1] [(4,Ii zD)] ?_;cases h;exact rt ry
 rintro z8 rfl;refine s0 [] [(4,Ii (-1))] ?_;cases h;exact rt rx
theorem SP (F:Nat) (yM:List yW) (xL:Int) (r:Int) (h:AK F yM xL=some r):y9 prog 94 [] [] [Sq 2 yV yM,Ii xL] [] (Ii r):=by
 refine tI Tryz.f94 ?_;unfold AK at h;refine sE [iH 0 { id:=0 }] [(pG yM),(3,Pp 0)] [(0,Vb 3 [Ii xL])] 1 (sq (bE h fun zA zN h=>r2 [iK 2 { ids:=[0] } (zJJ F yM xL zA zN)] [0,3] [(4,Ii zA)] [0] [] 1 ?_));cases h;exact rt rx
theorem zGM (F:Nat) (yM:List yW) (r:Int) (h:O7 F yM=some r):y9 prog 90 [] [] [Sq 2 yV yM] [] (Ii r):=by
 refine tI Tryz.f90 ?_;unfold O7 at h;refine sE [] [(pG yM)] [] 0 (sq (s0 [iN 1 yV yM] [(5,Sq 2 yV yM),(6,Ii (lN yM)),(7,Ii 0)] (bE h fun zF zN h=>cv zF (fun q0=>mk [] [] 0) Tryz.f90 (fun q1=>[]) (fun q1=>Ii q1) ?_ ?_ (by rintro _ rfl _ hf;cases h;exact ⟨.inr rfl,hf⟩))))
 ·replace h:=zN;refine ab 0 (w0 [] [] _ _ (xW (fun n st=>∃ (zD:Int),st=mk [(pG yM),(5,Sq 2 yV yM),(6,Ii (lN yM)),(7,Ii zD)] [] 0/\MZ F yM n zD=some zF) F zk ⟨_,rfl,h⟩ (fun _ ⟨_,_,h⟩=>xS h) ?_));rintro yD _ ⟨zD,rfl,h⟩;rw [MZ,J9] at h;refine s0 [] [(8,.bool (decide (zD<(lN yM))))] (sq (ch 8 h (fun zM h=>sk (sq (ab 1 (sq (bE h fun zB zW h=>r2 [iH 3 { id:=0 },iF 1 yV zW] [] [(3,Ii zD),(4,Pp 0)] [] [(0,Vb 62 (o6 zB))] 1 (sq (ad 29 h ?_ ?_ ?_))))))) (fun _ h=>by cases h;exact ae 0 ⟨rfl,sZ⟩)))
  ·rcases bft (decide (zB.Id<0)) with jC | jC
   ·exact rm [iG 4 3,iH 7 Ht,iG 9 3,iH 12 Ht,iG 14 3,iH 17 Ht,iR 4 jC,iX 3,iA true,iX 3,iA true] (ort jC)
   ·rcases bft (decide (zB.Id>=8)) with jH | jH
    ·exact rm [iH 7 Hf,iG 9 3,iH 12 Ht,iG 14 3,iH 17 Ht,iR 4 jC,iR 4 jH,iX 3,iA true] (orf jC (ort jH))
    ·rcases bft (decide (zB.Xt<0)) with nU | nU
     ·exact rm [iH 7 Hf,iH 12 Hf,iG 14 3,iH 17 Ht,iR 4 jC,iR 4 jH,iR 4 nU] (orf jC (orf jH (ort nU)))
     ·exact rm [iH 7 Hf,iH 12 Hf,iH 17 Hf,iR 4 jC,iR 4 jH,iR 4 nU] (orf jC (orf jH (orf nU rfl)))
  ·intro yU h;refine s2 [] [0,5,4] [(2,Ii 2)] [0] [] 1 ?_;cases h;exact rt ry
  intro yU h;refine sk (sq (nE h fun yP h=>bE h fun zA xQ h=>r2 [iS 2 yV yM 0 zD (by decide) yP.1 yP.2,iK 5 {} (SP F (sub yM 0 zD) zB.Id zA xQ)] [4] [(36,.bool (decide (zA>=0)))] [0] [] 1 (ch 36 h ?_ ?_)))
  rotate_left
  ·intro w9 h;refine sk (r0 [] [(7,Ii (zC8 zD))] ?_);exact ⟨_,sZ,_,rfl,h⟩
  intro w9 h;refine s1 [] [0,5] [(2,Ii 4)] ?_;cases h;exact rt ry
 rintro z8 rfl;refine s0 [] [(2,Ii 0)] ?_;cases h;exact rt rx
theorem zBi (yD:Int) (r:Bool) (h:LU yD=some r):y9 prog 109 [] [] [Ii yD] [] (.bool r):=by
 refine tI Tryz.f109 ?_;unfold LU at h;refine sE [] [(0,Ii yD)] [] 0 (sq (am 2 (decide (yD>=0)&&decide (yD<=1000000000000)) ?_ ?_))
 ·rcases bft (decide (yD>=0)) with yA | yA
  ·exact rm [iH 5 Ht,iR 3 yA] (nD yA rfl)
  ·exact rm [iG 3 2,iH 5 Hf,iR 3 yA] (gA yA)
 cases h;exact rt rx
theorem zHf (F:Nat) (yM:List yW) (zB:xO) (r:Int) (h:RT F yM zB=some r):y9 prog 91 [] [] [Sq 2 yV yM,yQ zB] [] (Ii r):=by
 refine tI Tryz.f91 ?_;unfold RT at h;refine sE [iH 0 { id:=0 }] [(pG yM),(3,Pp 0)] [(0,Vb 67 (cN zB))] 1 (sq (ab 0 (sq (sq (bE h fun zA zN h=>r0 [iK 3 {} (SP F yM zB.A zA zN)] [(5,.bool (decide (zA<0)))] (bE h fun zF zW h=>?_))))));refine xG (mk [(3,Pp 0),(5,.bool zF)] [(0,Vb 67 (cN zB))] 1) ?_ ?_
 ·replace h:=zW;refine ch 5 h ?_ ?_
  ·intro zM h;refine sk ?_;cases h;exact ⟨rfl,sZ⟩
  intro zM h;refine bE h fun zL yP h=>r0 [iK 3 {} (SP F yM zB.B zL yP)] [(5,.bool (decide (zL<0)))] ?_;cases h;exact ⟨rfl,sZ⟩
 refine ch 5 h ?_ ?_
 ·intro yU h;refine s2 [] [3] [(4,Ii 5)] [0] [] 1 ?_;cases h;exact rt rx
 intro yU h;refine c0 [] 16 h [] ?_ ?_
 ·intro w9 h;refine s2 [] [3] [(4,Ii 1)] [0] [] 1 ?_;cases h;exact rt rx
 intro w9 h;refine sq (sq (bE h fun yK xQ h=>r0 [iK 2 {} (zBi zB.Xw yK xQ)] [(22,.bool (!yK))] (ch 22 h ?_ ?_)))
 ·intro v5 h;refine sk (cd 22 (!yK) ?_ ?_)
  rotate_left
  ·intro hg;exact Bool.noConfusion (v5.symm.trans hg)
  intro _;refine s2 [] [3] [(4,Ii 2)] [0] [] 1 ?_;cases h;exact rt rx
 intro v5 h;refine sq (bE h fun yY wF h=>r0 [iK 3 {} (zBi zB.Xp.Lo yY wF)] [(22,.bool (!yY))] (ch 22 h ?_ ?_))
 ·intro uN h;refine sk (cd 22 (!yY) ?_ ?_)
  rotate_left
  ·intro hg;exact Bool.noConfusion (uN.symm.trans hg)
  intro _;refine s2 [] [3] [(4,Ii 2)] [0] [] 1 ?_;cases h;exact rt rx
 intro uN h;refine sq (bE h fun vG wU h=>r0 [iK 3 {} (zBi zB.Xp.Hi vG wU)] [(22,.bool (!vG))] (ch 22 h ?_ ?_))
 ·intro t9 h;refine sk (cd 22 (!vG) ?_ ?_)
  rotate_left
  ·intro hg;exact Bool.noConfusion (t9.symm.trans hg)
  intro _;refine s2 [] [3] [(4,Ii 2)] [0] [] 1 ?_;cases h;exact rt rx
 intro t9 h;refine r2 [] [3] [(22,.bool (decide (zB.Xp.Lo>zB.Xp.Hi)))] [0] [] 1 (ch 22 h ?_ ?_)
 ·intro cI h;refine s0 [] [(4,Ii 2)] ?_;cases h;exact rt rx
 intro cI h;refine sk (s0 [] [(4,Ii 0)] ?_);cases h;exact rt rx
theorem UT (F:Nat) (yM:List yW) (zE:List xO) (r:Int) (h:A4 F yM zE=some r):y9 prog 62 [] [] [Sq 2 yV yM,Sq 5 yQ zE] [] (Ii r):=by
 refine tI Tryz.f62 ?_;unfold A4 at h;refine sE [] [(pG yM),(1,Sq 5 yQ zE)] [] 0 (sq (c0 [iN 1 yV yM] 11 h [] ?_ ?_))
 ·intro zM h;refine s1 [] [0,1] [(4,Ii 8)] ?_;cases h;exact rt rx
 intro zM h;refine sk (sq (ad 19 h ?_ ?_ ?_))
 ·rcases bft (decide ((lN yM)>8)) with yA | yA
  ·exact rm [iG 4 3,iH 7 Ht,iN 1 yV yM,iR 4 yA] (ort yA)
  ·exact rm [iH 7 Hf,iN 1 yV yM,iR 2 yA,iN 5 yQ zE,iR 2 yA] (orf yA rfl)
 ·intro yU h;refine s1 [] [0,1] [(4,Ii 7)] ?_;cases h;exact rt rx
 intro yU h;refine sk (sq (sq (bE h fun zB zN h=>r0 [iH 4 { b:=(decide (zB=(⟨0,0⟩:yW))),mks:=zC4 },iF 1 yV zN,iC (zFF:bD prog 62 zC4),iC (D5 (f:=yV) zEk zB (⟨0,0⟩:yW):((decide (zB=(⟨0,0⟩:yW)))=true↔AV.agg [Ii zB.Id,Ii zB.Xt]=AV.agg [Ii 0,Ii 0]))] [(24,.bool (!(decide (zB=(⟨0,0⟩:yW)))))] (ch 24 h ?_ ?_))))
 ·intro w9 h;refine s1 [] [0,1] [(4,Ii 10)] ?_;cases h;exact rt rx
 intro w9 h;refine sk (sq (sq (bE h fun zA zW h=>r0 [iK 1 {} (zGM F yM zA zW)] [(5,Ii zA)] (c0 [] 28 h [] ?_ ?_))))
 ·intro v5 h;refine s1 [] [0,1] [(4,Ii zA)] ?_;cases h;exact rt rx
 intro v5 h;refine sk (sq (s1 [iN 1 yQ zE] [1] [(30,Sq 5 yQ zE),(31,Ii (lN zE)),(32,Ii 0)] (bE h fun zF yP h=>cv zF (fun q0=>mk [] [] 0) Tryz.f62 (fun q1=>[]) (fun q1=>Ii q1) ?_ ?_ (by rintro _ rfl _ hf;cases h;exact ⟨.inr rfl,hf⟩))))
 ·replace h:=yP;refine ab 0 (w0 [] [] _ _ (xW (fun n st=>∃ (zD:Int),st=mk [(pG yM),(30,Sq 5 yQ zE),(31,Ii (lN zE)),(32,Ii zD)] [] 0/\RX F yM zE n zD=some zF) F zk ⟨_,rfl,h⟩ (fun _ ⟨_,_,h⟩=>xS h) ?_));rintro yD _ ⟨zD,rfl,h⟩;rw [RX,HY] at h;refine s0 [] [(33,.bool (decide (zD<(lN zE))))] (sq (ch 33 h (fun uN h=>sk (sq (ab 1 (sq (bE h fun zI xQ h=>r2 [iH 2 { id:=0 },iF 0 yQ xQ] [] [(7,Pp 0)] [] [(0,Vb 67 (cN zI))] 1 (sq (bE h fun zL wF h=>r2 [iK 2 {} (zHf F yM zI zL wF)] [7] [(8,Ii zL)] [0] [] 1 (c0 [] 40 h [] ?_ ?_)))))))) (fun _ h=>by cases h;exact ae 0 ⟨rfl,sZ⟩)))
  rotate_left
  ·intro t9 h;refine sk (r0 [] [(32,Ii (zC8 zD))] ?_);exact ⟨_,sZ,_,rfl,h⟩
  intro t9 h;refine s1 [] [0,30] [(4,Ii zL)] ?_;cases h;exact rt ry
 rintro z8 rfl;refine s0 [] [(4,Ii 0)] ?_;cases h;exact rt rx
theorem zGZ (yM:yW) (zQ:wN) (r:Bool) (h:X4 yM zQ=some r):y9 prog 64 [(.var 69 (qV zQ))] [] [yV yM,Pp 0] [(.var 69 (qV zQ))] (.bool r):=by
 refine tI Tryz.f64 ?_;unfold X4 at h;refine sE [iH 0 { id:=1 }] E7 [(0,Vb 69 (qV zQ)),(1,Vb 62 (o6 yM))] 2 (s2 [] [1,2] [(3,.bool (yM.Id==zQ.Xx))] [1] [] 2 ?_);cases h;exact rt rx
theorem zNP (F:Nat) (z7:List yW) (zP:wN) (r:Int) (h:MV F z7 zP=some r):y9 prog 92 [(.var 69 (qV zP))] [] [Sq 2 yV z7,.fn 64 [Pp 0]] [(.var 69 (qV zP))] (Ii r):=by
 refine tI Tryz.f92 ?_;unfold MV at h;refine sE [] [(pG z7),(1,.fn 64 [Pp 0])] [(0,Vb 69 (qV zP))] 1 (sq (s0 [iN 1 yV z7] [(7,Ii (lN z7)),(8,Ii 0)] (bE h fun zF zN h=>cv zF (fun q0=>mk [] [(0,Vb 69 (qV zP))] 1) Tryz.f92 (fun q1=>[(.var 69 (qV zP))]) (fun q1=>Ii q1) ?_ ?_ (by rintro _ rfl _ hf;cases h;exact ⟨.inr rfl,hf⟩))))
 ·replace h:=zN;refine ab 0 (w0 [0] [] _ _ (xW (fun n st=>∃ (zD:Int),st=mk [(pG z7),(1,.fn 64 [Pp 0]),(7,Ii (lN z7)),(8,Ii zD)] [(0,Vb 69 (qV zP))] 1/\OZ F z7 zP n zD=some zF) F zk ⟨_,rfl,h⟩ (fun _ ⟨_,_,h⟩=>xS h) ?_));rintro yD _ ⟨zD,rfl,h⟩;rw [OZ,LX] at h;refine s0 [] [(9,.bool (decide (zD<(lN z7))))] (sq (ch 9 h (fun zM h=>sk (sq (ab 1 (s0 [] [(5,Ii zD)] (sq (bE h fun zB zW h=>bE h fun zA yP h=>r0 [iF 3 yV zW,iK 5 { ids:=[0] } (zGZ zB zP zA yP)] [(16,.bool zA)] (ch 16 h ?_ ?_))))))) (fun _ h=>by cases h;exact ae 0 ⟨rfl,sZ⟩)))
  rotate_left
  ·intro yU h;refine sk (r0 [] [(8,Ii (zC8 zD))] ?_);exact ⟨_,sZ,_,rfl,h⟩
  intro yU h;refine s1 [] [0,1] [(4,Ii zD)] ?_;cases h;exact rt ry
 rintro z8 rfl;refine s0 [] [(4,Ii (-1))] ?_;cases h;exact rt rx
theorem zOC (F:Nat) (z7:List yW) (zP:wN) (r:Bool) (h:WE F z7 zP=some r):y9 prog 63 [(.var 69 (qV zP))] [] [Sq 2 yV z7,.fn 64 [Pp 0]] [(.var 69 (qV zP))] (.bool r):=by
 refine tI Tryz.f63 ?_;unfold WE at h;refine sE [] [(pG z7),(1,.fn 64 [Pp 0])] [(0,Vb 69 (qV zP))] 1 (sq (bE h fun zA zN h=>r1 [iK 2 { ids:=[0] } (zNP F z7 zP zA zN)] [0,1] [(4,.bool (decide (zA>=0)))] ?_));cases h;exact rt rx
theorem zJ1 (F:Nat) (zN:wR) (r:Int) (h:NC F zN=some r):y9 prog 42 [] [] [zBH zN] [] (Ii r):=by
 refine tI Tryz.f42 ?_;unfold NC at h;refine sE [iH 0 { id:=0 }] [(1,Pp 0)] [(bA zN)] 1 (sq (ab 0 (c0 [iN 2 yZ zN.Xd] 10 h [] ?_ ?_)))
 ·intro zM h;refine s2 [] [1] [(2,Ii 8)] [0] [] 1 ?_;cases h;exact rt rx
 intro zM h;refine c0 [iN 2 yZ zN.Xd] 15 h [] ?_ ?_
 ·intro yU h;refine s2 [] [1] [(2,Ii 7)] [0] [] 1 ?_;cases h;exact rt rx
 intro yU h;refine sk (s2 [iH 0 { id:=1,mag:=false,mks:=[.int .i64] }] [] [(3,.mp 1)] [] [(1,.live l9)] 2 (sq (s0 [iN 2 yZ zN.Xd] [(22,Sq 3 yZ zN.Xd),(23,Ii (lN zN.Xd)),(24,Ii 0)] (bE h fun zF zW h=>cv zF (fun q0=>mk [(1,Pp 0)] [(bA zN)] 1) Tryz.f42 (fun q1=>[]) (fun q1=>Ii q1) ?_ ?_ (by rintro _ rfl _ hf;cases h;exact ⟨.inr rfl,hf⟩)))))
 ·replace h:=zW;refine ab 1 (w0 [0,1] [] _ _ (xW (fun n st=>∃ (zD:Int),∃ (zC:List (Int×Bool)),st=mk [(1,Pp 0),(3,.mp 1),(22,Sq 3 yZ zN.Xd),(23,Ii (lN zN.Xd)),(24,Ii zD)] [(bA zN),(1,.live (NN zC))] 2/\JE F zN n zD zC=some zF) F zk ⟨_,_,rfl,h⟩ (fun _ ⟨_,_,_,h⟩=>xS h) ?_));rintro yD _ ⟨zD,zC,rfl,h⟩;rw [JE,YD] at h;refine s0 [] [(25,.bool (decide (zD<(lN zN.Xd))))] (sq (ch 25 h (fun w9 h=>sk (sq (ab 2 (sq (bE h fun zB yP h=>r2 [iH 2 { id:=2 },iF 0 yZ yP] [] [(5,Pp 2)] [] [(2,Vb 69 (qV zB))] 3 (sq (sq (bE h fun zA xQ h=>r0 [iK 1 {} (zGL F zB zA xQ)] [(6,Ii zA)] (c0 [] 31 h [] ?_ ?_))))))))) (fun _ h=>by cases h;exact ae 1 ⟨rfl,sZ⟩)))
  ·intro v5 h;refine s2 [] [1,3,22,5] [(2,Ii zA)] [0,1,2] [] 3 ?_;cases h;exact rt ry
  intro v5 h;refine sk (sq (c0 [iH 3 { av:=(.bool ((zV zC zB.Id).getD false)),k:=(zV zC zB.Id).isSome },iC (tJ:wW prog 3 false [.int .i64]),iC (kB (f:=(AV.int .i64)) (g:=AV.bool) t5 zC zB.Id false:u0 (List.map kD zC) (Ii zB.Id) (.bool false) (.bool ((zV zC zB.Id).getD false)) (zV zC zB.Id).isSome)] 36 h [] ?_ ?_))
  ·intro uN h;refine s2 [] [1,3,22,5] [(2,Ii 4)] [0,1,2] [] 3 ?_;cases h;exact rt ry
  intro uN h;refine sk (nE h fun wF h=>r2 [iH 3 { es:=(List.map kD (xC zC zB.Id true)) },iC (tJ:wW prog 3 false [.int .i64]),iC (aO (f:=(AV.int .i64)) (g:=AV.bool) t5 zC zB.Id true:jS (List.map kD zC) (Ii zB.Id) (.bool true) (List.map kD (xC zC zB.Id true))),iC (aV (f:=(AV.int .i64)) (g:=AV.bool) (l:=zC) wF:((List.map kD zC):List (AV×AV)).length<maxLen)] [5] [] [2] [(1,.live (.map false [.int .i64] (List.map kD (xC zC zB.Id true))))] 3 (r0 [] [(24,Ii (zC8 zD))] ?_));exact ⟨_,sZ,_,_,rfl,h⟩
 rintro z8 rfl;refine sq (sq (bE h fun zL wU h=>r0 [iK 4 {} (UT F zN.Xi zN.Xl zL wU)] [(7,Ii zL)] (c0 [] 47 h [] ?_ ?_)))
 ·intro t9 h;refine s2 [] [1] [(2,Ii zL)] [0] [] 1 ?_;cases h;exact rt rx
 intro t9 h;refine sk (sq (s0 [iN 2 yZ zN.Xd] [(50,Sq 3 yZ zN.Xd),(51,Ii (lN zN.Xd)),(52,Ii 0)] (bE h fun zT w4 h=>cv zT (fun q0=>mk [] [] 0) Tryz.f42 (fun q1=>[]) (fun q1=>Ii q1) ?_ ?_ (by rintro _ rfl _ hf;cases h;exact ⟨.inr rfl,hf⟩))))
 ·replace h:=w4;refine ab 3 (w0 [0] [] _ _ (xW (fun n st=>∃ (zK:Int),st=mk [(1,Pp 0),(50,Sq 3 yZ zN.Xd),(51,Ii (lN zN.Xd)),(52,Ii zK)] [(bA zN)] 1/\LK F zN n zK=some zT) F zk ⟨_,rfl,h⟩ (fun _ ⟨_,_,h⟩=>xS h) ?_));rintro vY _ ⟨zK,rfl,h⟩;rw [LK,K5] at h;refine s0 [] [(53,.bool (decide (zK<(lN zN.Xd))))] (sq (ch 53 h (fun cI h=>sk (sq (ab 4 (sq (bE h fun zI vA h=>r2 [iH 2 { id:=1 },iF 0 yZ vA] [] [(9,Pp 1)] [] [(1,Vb 69 (qV zI))] 2 (sq (bE h fun yK vU h=>r2 [iJ 3 { ids:=[1] } [Sq 2 yV zN.Xi,.fn 64 [Pp 1]] (zOC F zN.Xi zI yK vU)] [9] [(60,.bool (!yK))] [1] [] 2 (ch 60 h ?_ ?_)))))))) (fun _ h=>by cases h;exact ae 3 ⟨rfl,sZ⟩)))
  rotate_left
  ·intro rD h;refine sk (r0 [] [(52,Ii (zC8 zK))] ?_);exact ⟨_,sZ,_,rfl,h⟩
  intro rD h;refine s2 [] [1,50] [(2,Ii 5)] [0] [] 2 ?_;cases h;exact rt ry
 rintro wC rfl;refine s0 [] [(2,Ii 0)] ?_;cases h;exact rt rx
theorem zGw (r:(List uY)) (h:KT=some r):y9 prog 126 [] [] [] [.row 205 9 (Mp ER r)] (.own 0 r.length):=by
 refine tI Tryz.f126 ?_;unfold KT at h;refine sE [iH 0 { id:=0,m:=1 }] [] [] 1 (s2 [iH 13 { id:=1 }] [] [(0,.own 1 13)] [] [(1,Rb 205 9 (Mp ER W6))] 2 (wz [1] [] [0] [] [(0,.own 0 W6.length)] [(0,Rb 205 9 (Mp ER W6))] (ac (congrArg (AV.own _) (by first | (simp;done) | (simp;omega)):(.own 1 13:AV)=.own 1 W6.length) an) ?_));cases h;exact rt rx
theorem zHP (xI:Int) (r:uY×Bool) (h:L7 xI=some r):y9 prog 119 [] [] [Ii xI] [] (.tuple [ER r.1,.bool r.2]):=by
 refine tI Tryz.f119 ?_;unfold L7 at h;refine sE [iH 0 { id:=0 }] [(0,Ii xI),(2,Pp 0)] [(0,Vb 205 [.str kR,.bool false,.bool false,.bool false,.bool false,Ii 0,Ii 0,Ii 0,Ii 0])] 1 (sq (bE h fun zA zN h=>r2 [iK 0 { ids:=[1] } (zGw zA zN)] [] [(4,.own 1 zA.length)] [] [(1,Rb 205 9 (Mp ER zA))] 2 (sq (ad 13 h ?_ ?_ ?_))))
 ·rcases bft (decide (xI<1)) with yA | yA
  ·exact rm [iG 3 4,iH 7 Ht,iR 5 yA] (ort yA)
  ·exact rm [iH 7 Hf,iR 5 yA] (orf yA rfl)
 ·intro zM h;refine s2 [] [4] [gW] [1] [] 2 ?_;cases h;exact rt rx
 intro zM h;refine sk (sq (bE h fun zB zW h=>r2 [iO 3 ER zW] [4] [(3,.bool true)] [1] [(0,Vb 205 (Q2 zB))] 2 ?_));cases h;exact rt rx
theorem zLX (F:Nat) (zE:List (List Int)) (r:Int) (h:L9 F zE=some r):y9 prog 127 [] [] [Ss zE] [] (Ii r):=by
 refine tI Tryz.f127 ?_;unfold L9 at h;refine sE [] [(0,Ss zE)] [] 0 (sq (c0 [iN 1 AV.str zE] 8 h [] ?_ ?_))
 ·intro zM h;refine s1 [] [0] [(2,Ii 7)] ?_;cases h;exact rt rx
 intro zM h;refine sk (sq (s1 [iN 1 AV.str zE] [0] [(9,Ss zE),(10,Ii (lN zE)),(11,Ii 0)] (bE h fun zF zN h=>cv zF (fun q0=>mk [] [] 0) Tryz.f127 (fun q1=>[]) (fun q1=>Ii q1) ?_ ?_ (by rintro _ rfl _ hf;cases h;exact ⟨.inr rfl,hf⟩))))
 ·replace h:=zN;refine ab 0 (w0 [] [] _ _ (xW (fun n st=>∃ (zD:Int),st=mk [(9,Ss zE),(10,Ii (lN zE)),(11,Ii zD)] [] 0/\QZ F zE n zD=some zF) F zk ⟨_,rfl,h⟩ (fun _ ⟨_,_,h⟩=>xS h) ?_));rintro yD _ ⟨zD,rfl,h⟩;rw [QZ,SI] at h;refine s0 [] [(12,.bool (decide (zD<(lN zE))))] (sq (ch 12 h (fun yU h=>sk (sq (ab 1 (sq (bE h fun zB zW h=>r0 [iF 0 AV.str zW] [(4,.str zB)] (sq (bE h fun zA yP h=>r0 [iK 1 {} (Y5 F zB zA yP)] [(5,Ii zA)] (c0 [] 18 h [] ?_ ?_)))))))) (fun _ h=>by cases h;exact ae 0 ⟨rfl,sZ⟩)))
  rotate_left
  ·intro w9 h;refine sk (r0 [] [(11,Ii (zC8 zD))] ?_);exact ⟨_,sZ,_,rfl,h⟩
  intro w9 h;refine s1 [] [9] [(2,Ii zA)] ?_;cases h;exact rt ry
 rintro z8 rfl;refine s0 [] [(2,Ii 0)] ?_;cases h;exact rt rx
theorem zKD (F:Nat) (f_1:uY) (xJ:y8) (r:Int) (h:N9 F f_1 xJ=some r):y9 prog 120 [] [] [ER f_1,yL xJ] [] (Ii r):=by
 refine tI Tryz.f120 ?_;unfold N9 at h;refine sE [iH 0 { id:=0 },iH 1 { id:=1 }] C2 [(0,Vb 205 (Q2 f_1)),(1,Vb 52 (aP xJ))] 2 (sq (s2 [] [2] [(6,.bool f_1.name)] [0] [] 2 (ch 6 h ?_ ?_)))
 ·intro zM h;refine sq (bE h fun zA zN h=>r2 [iK 2 {} (Y5 F xJ.Yc zA zN)] [3] [(4,Ii zA)] [1] [] 2 ?_);cases h;exact rt rx
 intro zM h;refine sk (sq (bE h fun zL zW h=>r2 [iK 2 {} (zLX F xJ.Xs zL zW)] [3] [(4,Ii zL)] [1] [] 2 ?_));cases h;exact rt rx
theorem zOa (F:Nat) (xJ:y8) (r:Int) (h:O1 F xJ=some r):y9 prog 110 [] [] [yL xJ] [] (Ii r):=by
 refine tI Tryz.f110 ?_;unfold O1 at h;refine sE [iH 0 { id:=0 }] [(1,Pp 0)] [(0,Vb 52 (aP xJ))] 1 (sq (ad 13 h ?_ ?_ ?_))
 ·rcases bft (decide (xJ.At<0)) with yA | yA
  ·exact rm [iG 4 3,iH 7 Ht,iR 4 yA] (ort yA)
  ·exact rm [iH 7 Hf,iR 4 yA] (orf yA rfl)
 ·intro zM h;refine s2 [] [1] [(2,Ii 2)] [0] [] 1 ?_;cases h;exact rt rx
 intro zM h;refine sk (sq (bE h fun zA zN h=>r2 [iH 6 { id:=1 },iK 2 {} (zHP xJ.Xg zA zN)] [] [(3,Pp 1),(4,.bool zA.2)] [] [(1,Vb 205 (Q2 zA.1))] 2 (sq (sq (bE h fun yC zW h=>?_)))));refine xG (mk [(1,Pp 0),(3,Pp 1),(62,.bool yC)] [(0,Vb 52 (aP xJ)),(1,Vb 205 (Q2 zA.1))] 2) ?_ ?_
 ·replace h:=zW;refine bc h ?_ ?_
  ·intro yG h;refine r0 [iG 3 4,iH 10 Hg,iH 11 Ht,iG 13 4,iH 20 Hg,iH 21 Ht,iG 23 4,iH 30 Hg,iH 31 Ht,iG 33 4,iH 41 Hg,iH 42 Ht,iR 6 yG,iX 5,iA true,iX 5,iA true,iX 5,iA true] C4 ?_;cases h;exact ⟨rfl,sZ⟩
  ·intro yG h;refine bc h ?_ ?_
   ·intro xF h;refine bc h ?_ ?_
    ·intro wJ h;refine r0 [iH 10 Ht,iH 11 Hf,iG 13 4,iH 20 Hg,iH 21 Ht,iG 23 4,iH 30 Hg,iH 31 Ht,iG 33 4,iH 41 Hg,iH 42 Ht,iR 4 yG,iR 3 xF,iC yG,iC xF,iC yG,iR 6 wJ,iX 5,iA true,iX 5,iA true] C4 ?_;cases h;exact ⟨rfl,sZ⟩
    ·intro wJ h;refine bc h ?_ ?_
     ·intro tE h;refine bc h ?_ ?_
      ·intro pA h;refine r0 [iH 10 Ht,iH 11 Hf,iH 20 Ht,iH 21 Hf,iG 23 4,iH 30 Hg,iH 31 Ht,iG 33 4,iH 41 Hg,iH 42 Ht,iR 4 yG,iR 3 xF,iC yG,iC xF,iC yG,iR 4 wJ,iR 3 tE,iC wJ,iC tE,iC wJ,iR 6 pA,iX 5,iA true] C4 ?_;cases h;exact ⟨rfl,sZ⟩
      ·intro pA h;refine bc h ?_ ?_
       ·intro tT h;refine bc h ?_ ?_
        ·intro tO h;refine r0 [iH 10 Ht,iH 11 Hf,iH 20 Ht,iH 21 Hf,iH 30 Ht,iH 31 Hf,iG 33 4,iH 41 Hg,iH 42 Ht,iR 4 yG,iR 3 xF,iC yG,iC xF,iC yG,iR 4 wJ,iR 3 tE,iC wJ,iC tE,iC wJ,iR 4 pA,iR 3 tT,iC pA,iC tT,iC pA,iR 6 tO] C4 ?_;cases h;exact ⟨rfl,sZ⟩
        ·intro tO h;refine bc h ?_ ?_
         ·intro pB h;refine r0 [iH 10 Ht,iH 11 Hf,iH 20 Ht,iH 21 Hf,iH 30 Ht,iH 31 Hf,iH 41 Ht,iH 42 Hf,iR 4 yG,iR 3 xF,iC yG,iC xF,iC yG,iR 4 wJ,iR 3 tE,iC wJ,iC tE,iC wJ,iR 4 pA,iR 3 tT,iC pA,iC tT,iC pA,iR 4 tO,iR 3 pB,iN 39 AV.str xJ.Xs,iC pB,iC tO,iC pB,iC tO] (BG xJ) ?_;cases h;exact ⟨rfl,sZ⟩
         ·intro pB h;refine r0 [iH 10 Ht,iH 11 Hf,iH 20 Ht,iH 21 Hf,iH 30 Ht,iH 31 Hf,iG 37 4,iH 41 Hf,iH 42 Hf,iR 4 yG,iR 3 xF,iC yG,iC xF,iC yG,iR 4 wJ,iR 3 tE,iC wJ,iC tE,iC wJ,iR 4 pA,iR 3 tT,iC pA,iC tT,iC pA,iR 4 tO,iR 4 pB,iC tO,iC pB,iC tO] BW ?_;cases h;exact ⟨rfl,sZ⟩
       ·intro tT h;refine bc h ?_ ?_
        ·intro jC h;refine r0 [iH 10 Ht,iH 11 Hf,iH 20 Ht,iH 21 Hf,iG 27 3,iH 30 Hf,iH 31 Hf,iH 41 Ht,iH 42 Hf,iR 4 yG,iR 3 xF,iC yG,iC xF,iC yG,iR 4 wJ,iR 3 tE,iC wJ,iC tE,iC wJ,iR 4 pA,iR 3 tT,iC pA,iC tT,iC pA,iQ 4 false,iR 3 jC,iN 39 AV.str xJ.Xs,iC jC,iA false,iC jC,iA false] (BG xJ) ?_;cases h;exact ⟨rfl,sZ⟩
        ·intro jC h;refine r0 [iH 10 Ht,iH 11 Hf,iH 20 Ht,iH 21 Hf,iG 27 3,iH 30 Hf,iH 31 Hf,iG 37 4,iH 41 Hf,iH 42 Hf,iR 4 yG,iR 3 xF,iC yG,iC xF,iC yG,iR 4 wJ,iR 3 tE,iC wJ,iC tE,iC wJ,iR 4 pA,iR 3 tT,iC pA,iC tT,iC pA,iQ 4 false,iR 4 jC,iA false,iC jC,iA false] BW ?_;cases h;exact ⟨rfl,sZ⟩
     ·intro tE h;refine bc h ?_ ?_
      ·intro jH h;refine bc h ?_ ?_
       ·intro nU h;refine r0 [iH 10 Ht,iH 11 Hf,iG 17 3,iH 20 Hf,iH 21 Hf,iH 30 Ht,iH 31 Hf,iG 33 4,iH 41 Hg,iH 42 Ht,iR 4 yG,iR 3 xF,iC yG,iC xF,iC yG,iR 4 wJ,iR 3 tE,iC wJ,iC tE,iC wJ,iQ 4 false,iR 3 jH,iA false,iC jH,iA false,iR 6 nU] C4 ?_;cases h;exact ⟨rfl,sZ⟩
       ·intro nU h;refine bc h ?_ ?_
        ·intro dU h;refine r0 [iH 10 Ht,iH 11 Hf,iG 17 3,iH 20 Hf,iH 21 Hf,iH 30 Ht,iH 31 Hf,iH 41 Ht,iH 42 Hf,iR 4 yG,iR 3 xF,iC yG,iC xF,iC yG,iR 4 wJ,iR 3 tE,iC wJ,iC tE,iC wJ,iQ 4 false,iR 3 jH,iA false,iC jH,iA false,iR 4 nU,iR 3 dU,iN 39 AV.str xJ.Xs,iC dU,iC nU,iC dU,iC nU] (BG xJ) ?_;cases h;exact ⟨rfl,sZ⟩
        ·intro dU h;refine r0 [iH 10 Ht,iH 11 Hf,iG 17 3,iH 20 Hf,iH 21 Hf,iH 30 Ht,iH 31 Hf,iG 37 4,iH 41 Hf,iH 42 Hf,iR 4 yG,iR 3 xF,iC yG,iC xF,iC yG,iR 4 wJ,iR 3 tE,iC wJ,iC tE,iC wJ,iQ 4 false,iR 3 jH,iA false,iC jH,iA false,iR 4 nU,iR 4 dU,iC nU,iC dU,iC nU] BW ?_;cases h;exact ⟨rfl,sZ⟩
      ·intro jH h;refine bc h ?_ ?_
       ·intro mJ h;refine r0 [iH 10 Ht,iH 11 Hf,iG 17 3,iH 20 Hf,iH 21 Hf,iG 27 3,iH 30 Hf,iH 31 Hf,iH 41 Ht,iH 42 Hf,iR 4 yG,iR 3 xF,iC yG,iC xF,iC yG,iR 4 wJ,iR 3 tE,iC wJ,iC tE,iC wJ,iQ 4 false,iR 3 jH,iA false,iC jH,iQ 5 false,iR 3 mJ,iN 39 AV.str xJ.Xs,iC mJ,iA false,iC mJ,iA false] (BG xJ) ?_;cases h;exact ⟨rfl,sZ⟩
       ·intro mJ h;refine r0 [iH 10 Ht,iH 11 Hf,iG 17 3,iH 20 Hf,iH 21 Hf,iG 27 3,iH 30 Hf,iH 31 Hf,iG 37 4,iH 41 Hf,iH 42 Hf,iR 4 yG,iR 3 xF,iC yG,iC xF,iC yG,iR 4 wJ,iR 3 tE,iC wJ,iC tE,iC wJ,iQ 4 false,iR 3 jH,iA false,iC jH,iQ 5 false,iR 4 mJ,iA false,iC mJ,iA false] BW ?_;cases h;exact ⟨rfl,sZ⟩
   ·intro xF h;refine bc h ?_ ?_
    ·intro kL h;refine bc h ?_ ?_
     ·intro uZ h;refine r0 [iG 7 3,iH 10 Hf,iH 11 Hf,iH 20 Ht,iH 21 Hf,iG 23 4,iH 30 Hg,iH 31 Ht,iG 33 4,iH 41 Hg,iH 42 Ht,iR 4 yG,iR 3 xF,iC yG,iC xF,iC yG,iQ 4 false,iR 3 kL,iA false,iC kL,iA false,iR 6 uZ,iX 5,iA true] C4 ?_;cases h;exact ⟨rfl,sZ⟩
     ·intro uZ h;refine bc h ?_ ?_
      ·intro kM h;refine bc h ?_ ?_
       ·intro DN h;refine r0 [iG 7 3,iH 10 Hf,iH 11 Hf,iH 20 Ht,iH 21 Hf,iH 30 Ht,iH 31 Hf,iG 33 4,iH 41 Hg,iH 42 Ht,iR 4 yG,iR 3 xF,iC yG,iC xF,iC yG,iQ 4 false,iR 3 kL,iA false,iC kL,iA false,iR 4 uZ,iR 3 kM,iC uZ,iC kM,iC uZ,iR 6 DN] C4 ?_;cases h;exact ⟨rfl,sZ⟩
       ·intro DN h;refine bc h ?_ ?_
        ·intro gg_19 h;refine r0 [iG 7 3,iH 10 Hf,iH 11 Hf,iH 20 Ht,iH 21 Hf,iH 30 Ht,iH 31 Hf,iH 41 Ht,iH 42 Hf,iR 4 yG,iR 3 xF,iC yG,iC xF,iC yG,iQ 4 false,iR 3 kL,iA false,iC kL,iA false,iR 4 uZ,iR 3 kM,iC uZ,iC kM,iC uZ,iR 4 DN,iR 3 gg_19,iN 39 AV.str xJ.Xs,iC gg_19,iC DN,iC gg_19,iC DN] (BG xJ) ?_;cases h;exact ⟨rfl,sZ⟩
        ·intro gg_19 h;refine r0 [iG 7 3,iH 10 Hf,iH 11 Hf,iH 20 Ht,iH 21 Hf,iH 30 Ht,iH 31 Hf,iG 37 4,iH 41 Hf,iH 42 Hf,iR 4 yG,iR 3 xF,iC yG,iC xF,iC yG,iQ 4 false,iR 3 kL,iA false,iC kL,iA false,iR 4 uZ,iR 3 kM,iC uZ,iC kM,iC uZ,iR 4 DN,iR 4 gg_19,iC DN,iC gg_19,iC DN] BW ?_;cases h;exact ⟨rfl,sZ⟩
      ·intro kM h;refine bc h ?_ ?_
       ·intro nB h;refine r0 [iG 7 3,iH 10 Hf,iH 11 Hf,iH 20 Ht,iH 21 Hf,iG 27 3,iH 30 Hf,iH 31 Hf,iH 41 Ht,iH 42 Hf,iR 4 yG,iR 3 xF,iC yG,iC xF,iC yG,iQ 4 false,iR 3 kL,iA false,iC kL,iA false,iR 4 uZ,iR 3 kM,iC uZ,iC kM,iC uZ,iQ 4 false,iR 3 nB,iN 39 AV.str xJ.Xs,iC nB,iA false,iC nB,iA false] (BG xJ) ?_;cases h;exact ⟨rfl,sZ⟩
       ·intro nB h;refine r0 [iG 7 3,iH 10 Hf,iH 11 Hf,iH 20 Ht,iH 21 Hf,iG 27 3,iH 30 Hf,iH 31 Hf,iG 37 4,iH 41 Hf,iH 42 Hf,iR 4 yG,iR 3 xF,iC yG,iC xF,iC yG,iQ 4 false,iR 3 kL,iA false,iC kL,iA false,iR 4 uZ,iR 3 kM,iC uZ,iC kM,iC uZ,iQ 4 false,iR 4 nB,iA false,iC nB,iA false] BW ?_;cases h;exact ⟨rfl,sZ⟩
    ·intro kL h;refine bc h ?_ ?_
     ·intro kN h;refine bc h ?_ ?_
      ·intro aR h;refine r0 [iG 7 3,iH 10 Hf,iH 11 Hf,iG 17 3,iH 20 Hf,iH 21 Hf,iH 30 Ht,iH 31 Hf,iG 33 4,iH 41 Hg,iH 42 Ht,iR 4 yG,iR 3 xF,iC yG,iC xF,iC yG,iQ 4 false,iR 3 kL,iA false,iC kL,iQ 5 false,iR 3 kN,iA false,iC kN,iA false,iR 6 aR] C4 ?_;cases h;exact ⟨rfl,sZ⟩
      ·intro aR h;refine bc h ?_ ?_
       ·intro dV h;refine r0 [iG 7 3,iH 10 Hf,iH 11 Hf,iG 17 3,iH 20 Hf,iH 21 Hf,iH 30 Ht,iH 31 Hf,iH 41 Ht,iH 42 Hf,iR 4 yG,iR 3 xF,iC yG,iC xF,iC yG,iQ 4 false,iR 3 kL,iA false,iC kL,iQ 5 false,iR 3 kN,iA false,iC kN,iA false,iR 4 aR,iR 3 dV,iN 39 AV.str xJ.Xs,iC dV,iC aR,iC dV,iC aR] (BG xJ) ?_;cases h;exact ⟨rfl,sZ⟩
       ·intro dV h;refine r0 [iG 7 3,iH 10 Hf,iH 11 Hf,iG 17 3,iH 20 Hf,iH 21 Hf,iH 30 Ht,iH 31 Hf,iG 37 4,iH 41 Hf,iH 42 Hf,iR 4 yG,iR 3 xF,iC yG,iC xF,iC yG,iQ 4 false,iR 3 kL,iA false,iC kL,iQ 5 false,iR 3 kN,iA false,iC kN,iA false,iR 4 aR,iR 4 dV,iC aR,iC dV,iC aR] BW ?_;cases h;exact ⟨rfl,sZ⟩
     ·intro kN h;refine bc h ?_ ?_
      ·intro nV h;refine r0 [iG 7 3,iH 10 Hf,iH 11 Hf,iG 17 3,iH 20 Hf,iH 21 Hf,iG 27 3,iH 30 Hf,iH 31 Hf,iH 41 Ht,iH 42 Hf,iR 4 yG,iR 3 xF,iC yG,iC xF,iC yG,iQ 4 false,iR 3 kL,iA false,iC kL,iQ 5 false,iR 3 kN,iA false,iC kN,iQ 5 false,iR 3 nV,iN 39 AV.str xJ.Xs,iC nV,iA false,iC nV,iA false] (BG xJ) ?_;cases h;exact ⟨rfl,sZ⟩
      ·intro nV h;refine r0 [iG 7 3,iH 10 Hf,iH 11 Hf,iG 17 3,iH 20 Hf,iH 21 Hf,iG 27 3,iH 30 Hf,iH 31 Hf,iG 37 4,iH 41 Hf,iH 42 Hf,iR 4 yG,iR 3 xF,iC yG,iC xF,iC yG,iQ 4 false,iR 3 kL,iA false,iC kL,iQ 5 false,iR 3 kN,iA false,iC kN,iQ 5 false,iR 4 nV,iA false,iC nV,iA false] BW ?_;cases h;exact ⟨rfl,sZ⟩
 refine ch 62 h ?_ ?_
 ·intro yU h;refine s2 [] [1,3] [(2,Ii 1)] [0,1] [] 2 ?_;cases h;exact rt rx
 intro yU h;refine sk (sq (sq (bE h fun zL yP h=>r0 [iK 2 {} (zKD F zA.1 xJ zL yP)] [(5,Ii zL)] (c0 [] 67 h [] ?_ ?_))))
 ·intro w9 h;refine s2 [] [1,3] [(2,Ii zL)] [0,1] [] 2 ?_;cases h;exact rt rx
 intro w9 h;refine sk (sq (ab 0 (ad 69 h ?_ ?_ ?_)))
 ·rcases M8 zA.1.n with pC | pC
  ·rcases bft (decide (xJ.N<zA.1.least)) with j9 | j9
   ·exact rm [iG 9 5,iH 14 Ht,iH 15 Ht,iR 6 pC,iR 5 j9,iC pC,iC j9,iC pC] (nD pC (ort j9))
   ·exact rm [iH 14 Hf,iH 15 Ht,iR 6 pC,iR 5 j9,iC pC,iC j9,iC pC] (nD pC (orf j9 rfl))
  ·exact rm [iG 3 6,iH 14 Hg,iH 15 Hf,iR 8 pC] (gA pC)
 ·intro v5 h;refine s2 [] [1,3] [(2,Ii 2)] [0,1] [] 2 ?_;cases h;exact rt rx
 intro v5 h;refine ad 86 h ?_ ?_ ?_
 ·rcases bft (xJ.Xg==9) with pD | pD
  ·rcases bft (xJ.N != 2) with fV | fV
   ·exact rm [iH 7 Ht,iH 12 Ht,iR 4 pD,iR 4 fV] (nD pD (nD fV rfl))
   ·exact rm [iH 7 Ht,iG 9 3,iH 12 Hf,iR 4 pD,iR 4 fV] (nD pD (gA fV))
  ·exact rm [iG 4 3,iH 7 Hf,iG 9 3,iH 12 Hf,iR 4 pD,iZ,iZ,iZ,iA false] (gA pD)
 ·intro uN h;refine s2 [] [1,3] [(2,Ii 1)] [0,1] [] 2 ?_;cases h;exact rt rx
 intro uN h;refine sq ?_;refine xG (mk [(100,.bool (zA.1.m&&(bif decide (xJ.M<zA.1.mLeast) then (c9 xJ) else (fD xJ zA))))] [] 0) ?_ ?_
 ·rcases M8 zA.1.m with qM | qM
  ·rcases bft (decide (xJ.M<zA.1.mLeast)) with qA | qA
   ·rcases bft (xJ.Xg != 9) with pQ | pQ
    ·refine r2 [iG 9 5,iH 14 Ht,iH 15 Ht,iG 21 3,iH 24 Ht,iH 25 Ht,iR 6 qM,iR 5 qA,iC qM,iC qA,iC qM,iQ 4 true,iR 3 pQ,iA true,iC pQ,iA true] [] [(100,.bool true)] [0,1] [] 2 ?_;exact ⟨rfl,(sw [] [] [.a 100 (.bool (zA.1.m&&(bif decide (xJ.M<zA.1.mLeast) then (c9 xJ) else (fD xJ zA))))] [] (ac (congrArg AV.bool (nD qM (ctr qA (ort pQ))):mP=.bool (zA.1.m&&(bif decide (xJ.M<zA.1.mLeast) then (c9 xJ) else (fD xJ zA)))) an))⟩
    ·refine r2 [iG 9 5,iH 14 Ht,iH 15 Ht,iH 24 Hf,iH 25 Ht,iR 6 qM,iR 5 qA,iC qM,iC qA,iC qM,iQ 4 true,iR 3 pQ,iA true,iC pQ,iA true] [] [(100,.bool (xJ.N==2))] [0,1] [] 2 ?_;exact ⟨rfl,(sw [] [] [.a 100 (.bool (zA.1.m&&(bif decide (xJ.M<zA.1.mLeast) then (c9 xJ) else (fD xJ zA))))] [] (ac (congrArg AV.bool (nD qM (ctr qA (orf pQ rfl))):(.bool (xJ.N==2):AV)=.bool (zA.1.m&&(bif decide (xJ.M<zA.1.mLeast) then (c9 xJ) else (fD xJ zA)))) an))⟩
   ·rcases bft (decide (xJ.M>zA.1.mMost)) with tU | tU
    ·rcases bft (xJ.Xg != 9) with nW | nW
     ·refine r2 [iH 14 Hf,iH 15 Ht,iG 21 3,iH 24 Ht,iH 25 Ht,iR 6 qM,iR 5 qA,iC qM,iC qA,iC qM,iR 4 tU,iR 3 nW,iC tU,iC nW,iC tU] [] [(100,.bool true)] [0,1] [] 2 ?_;exact ⟨rfl,(sw [] [] [.a 100 (.bool (zA.1.m&&(bif decide (xJ.M<zA.1.mLeast) then (c9 xJ) else (fD xJ zA))))] [] (ac (congrArg AV.bool (nD qM (cfr qA (nD tU (ort nW)))):mP=.bool (zA.1.m&&(bif decide (xJ.M<zA.1.mLeast) then (c9 xJ) else (fD xJ zA)))) an))⟩
     ·refine r2 [iH 14 Hf,iH 15 Ht,iH 24 Hf,iH 25 Ht,iR 6 qM,iR 5 qA,iC qM,iC qA,iC qM,iR 4 tU,iR 3 nW,iC tU,iC nW,iC tU] [] [(100,.bool (xJ.N==2))] [0,1] [] 2 ?_;exact ⟨rfl,(sw [] [] [.a 100 (.bool (zA.1.m&&(bif decide (xJ.M<zA.1.mLeast) then (c9 xJ) else (fD xJ zA))))] [] (ac (congrArg AV.bool (nD qM (cfr qA (nD tU (orf nW rfl)))):(.bool (xJ.N==2):AV)=.bool (zA.1.m&&(bif decide (xJ.M<zA.1.mLeast) then (c9 xJ) else (fD xJ zA)))) an))⟩
    ·refine r2 [iH 14 Hf,iH 15 Ht,iG 17 4,iH 24 Hg,iH 25 Hf,iR 6 qM,iR 5 qA,iC qM,iC qA,iC qM,iR 6 tU] [] [(100,.bool false)] [0,1] [] 2 ?_;exact ⟨rfl,(sw [] [] [.a 100 (.bool (zA.1.m&&(bif decide (xJ.M<zA.1.mLeast) then (c9 xJ) else (fD xJ zA))))] [] (ac (congrArg AV.bool (nD qM (cfr qA (gA tU))):(.bool false:AV)=.bool (zA.1.m&&(bif decide (xJ.M<zA.1.mLeast) then (c9 xJ) else (fD xJ zA)))) an))⟩
  ·refine r2 [iG 3 6,iH 14 Hg,iH 15 Hf,iG 17 4,iH 24 Hg,iH 25 Hf,iR 8 qM,iZ,iZ,iZ,iZ,iZ,iA false] [] [(100,.bool false)] [0,1] [] 2 ?_;exact ⟨rfl,(sw [] [] [.a 100 (.bool (zA.1.m&&(bif decide (xJ.M<zA.1.mLeast) then (c9 xJ) else (fD xJ zA))))] [] (ac (congrArg AV.bool (gA qM):(.bool false:AV)=.bool (zA.1.m&&(bif decide (xJ.M<zA.1.mLeast) then (c9 xJ) else (fD xJ zA)))) an))⟩
 refine ch 100 h ?_ ?_
 ·intro t9 h;refine s0 [] [(2,Ii 2)] ?_;cases h;exact rt rx
 intro t9 h;refine sk (s0 [] [(2,Ii 0)] ?_);cases h;exact rt rx
theorem zOw (F:Nat) (zE:List y8) (r:Int) (h:NM F zE=some r):y9 prog 93 [] [] [Sq 6 yL zE] [] (Ii r):=by
 refine tI Tryz.f93 ?_;unfold NM at h;refine sE [] [(0,Sq 6 yL zE)] [] 0 (sq (s0 [iN 1 yL zE] [(6,Sq 6 yL zE),(7,Ii (lN zE)),(8,Ii 0)] (bE h fun zF zN h=>cv zF (fun q0=>mk [] [] 0) Tryz.f93 (fun q1=>[]) (fun q1=>Ii q1) ?_ ?_ (by rintro _ rfl _ hf;cases h;exact ⟨.inr rfl,hf⟩))))
 ·replace h:=zN;refine ab 0 (w0 [] [] _ _ (xW (fun n st=>∃ (zD:Int),st=mk [(0,Sq 6 yL zE),(6,Sq 6 yL zE),(7,Ii (lN zE)),(8,Ii zD)] [] 0/\K3 F zE n zD=some zF) F zk ⟨_,rfl,h⟩ (fun _ ⟨_,_,h⟩=>xS h) ?_));rintro yD _ ⟨zD,rfl,h⟩;rw [K3,WZ] at h;refine s0 [] [(9,.bool (decide (zD<(lN zE))))] (sq (ch 9 h (fun zM h=>sk (sq (ab 1 (sq (bE h fun zB zW h=>r2 [iH 3 { id:=0 },iF 1 yL zW] [] [(3,Ii zD),(4,Pp 0)] [] [(0,Vb 52 (aP zB))] 1 (sq (sq (bE h fun zA yP h=>r0 [iK 1 {} (zOa F zB zA yP)] [(5,Ii zA)] (c0 [] 16 h [] ?_ ?_))))))))) (fun _ h=>by cases h;exact ae 0 ⟨rfl,sZ⟩)))
  ·intro yU h;refine s2 [] [0,6,4] [(2,Ii zA)] [0] [] 1 ?_;cases h;exact rt ry
  intro yU h;refine sk (sq (bE h fun yC wF h=>?_));refine xG (mk [(0,Sq 6 yL zE),(6,Sq 6 yL zE),(7,Ii (lN zE)),(8,Ii zD),(30,.bool yC)] [] 0) ?_ ?_
  ·replace h:=wF;refine bc h ?_ ?_
   ·intro wJ h;refine bE h fun zI xQ h=>r0 [iH 12 Ht,iR 6 wJ,iF 8 yL xQ,iR 4 wJ] [(30,.bool (decide (zB.At<zI.At)))] ?_;cases h;exact ⟨rfl,sZ⟩
   ·intro wJ h;refine r2 [iG 3 9,iH 12 Hf,iR 10 wJ] [] [(30,.bool false)] [0] [] 1 ?_;cases h;exact ⟨rfl,sZ⟩
  refine ch 30 h ?_ ?_
  rotate_left
  ·intro w9 h;refine sk (r0 [] [(8,Ii (zC8 zD))] ?_);exact ⟨_,sZ,_,rfl,h⟩
  intro w9 h;refine s1 [] [0,6] [(2,Ii 11)] ?_;cases h;exact rt ry
 rintro z8 rfl;refine s0 [] [(2,Ii 0)] ?_;cases h;exact rt rx
theorem zPa (F:Nat) (yC:zO) (r:Int) (h:RR F yC=some r):y9 prog 65 [] [] [yE yC] [] (Ii r):=by
 refine tI Tryz.f65 ?_;unfold RR at h;refine sE [iH 0 { id:=0 }] [(1,Pp 0)] [(0,Vb 72 (jF yC))] 1 (sq (s2 [iH 6 { id:=1 }] [] [(11,.own 1 3),(12,Ii ((3:Nat):Int)),(13,Ii 0)] [] [(1,Rb 3 1 (Mi [yC.Xb,yC.Xf,yC.Xh]))] 2 (bE h fun zF zN h=>cv zF (fun q0=>mk [(1,Pp 0)] [(0,Vb 72 (jF yC))] 1) Tryz.f65 (fun q1=>[]) (fun q1=>Ii q1) ?_ ?_ (by rintro _ rfl _ hf;cases h;exact ⟨.inr rfl,hf⟩))))
 ·replace h:=zN;refine ab 0 (wz [0,1] [] [11] [] _ _ (ac (congrArg (AV.own _) (by first | (simp;done) | (simp;omega)):(.own 1 3:AV)=.own 1 (([yC.Xb,yC.Xf,yC.Xh]).length)) an) (xW (fun n st=>∃ (zD:Int),st=mk [(1,Pp 0),(11,.own 1 (([yC.Xb,yC.Xf,yC.Xh]).length)),(12,Ii ((3:Nat):Int)),(13,Ii zD)] [(0,Vb 72 (jF yC)),(1,Rb 3 1 (Mi [yC.Xb,yC.Xf,yC.Xh]))] 2/\QT F yC n zD=some zF) F zk ⟨_,rfl,h⟩ (fun _ ⟨_,_,h⟩=>xS h) ?_));rintro yD _ ⟨zD,rfl,h⟩;rw [QT,BX] at h;refine s0 [] [(14,.bool (decide (zD<((3:Nat):Int))))] (sq (ch 14 h (fun zM h=>sk (sq (ab 1 (sq (bE h fun zB zW h=>r0 [iO 1 Fi zW] [(4,Ii zB)] (ad 22 h ?_ ?_ ?_)))))) (fun _ h=>by cases h;exact ae 0 ⟨rfl,sZ⟩)))
  ·rcases bft (decide (zB<0)) with wJ | wJ
   ·exact rm [iG 3 2,iH 5 Ht,iR 3 wJ] (ort wJ)
   ·exact rm [iH 5 Hf,iR 3 wJ] (orf wJ rfl)
  rotate_left
  ·intro yU h;refine sk (r0 [] [(13,Ii (zC8 zD))] ?_);exact ⟨_,sZ,_,rfl,h⟩
  intro yU h;refine s2 [] [1,11] [(2,Ii 2)] [0,1] [] 2 ?_;cases h;exact rt ry
 rintro z8 rfl;refine sq (ab 2 (sq (s0 [] [(24,.bool (decide (yC.Xh>yC.Xf)))] (bE h fun zT yP h=>?_))));refine xG (mk [(1,Pp 0),(24,.bool zT)] [(0,Vb 72 (jF yC))] 1) ?_ ?_
 ·replace h:=yP;refine ch 24 h ?_ ?_
  ·intro w9 h;refine sk ?_;cases h;exact ⟨rfl,sZ⟩
  intro w9 h;refine r0 [iN 4 yL yC.Xe] [(24,.bool (decide ((zG (yC.Xf+(lN yC.Xe)))>oV)))] ?_;cases h;exact ⟨rfl,sZ⟩
 refine ch 24 h ?_ ?_
 ·intro v5 h;refine s2 [] [1] [(2,Ii 2)] [0] [] 1 ?_;cases h;exact rt rx
 intro v5 h;refine c0 [iN 2 yL yC.Xe] 37 h [] ?_ ?_
 ·intro uN h;refine s2 [] [1] [(2,Ii 8)] [0] [] 1 ?_;cases h;exact rt rx
 intro uN h;refine c0 [iN 2 yL yC.Xe] 42 h [] ?_ ?_
 ·intro t9 h;refine s2 [] [1] [(2,Ii 7)] [0] [] 1 ?_;cases h;exact rt rx
 intro t9 h;refine sk (sq (bE h fun zA xQ h=>r2 [iK 2 {} (zOw F yC.Xe zA xQ)] [1] [(2,Ii zA)] [0] [] 1 ?_));cases h;exact rt rx
theorem zGI (tD:tG) (yC:zO) (r:Bool) (h:MI tD yC=some r):y9 prog 66 [(.var 143 (iD tD))] [] [Pp 0,yE yC] [(.var 143 (iD tD))] (.bool r):=by
 refine tI Tryz.f66 ?_;unfold MI at h;refine sE [iH 0 { id:=1 }] [(0,Pp 0),(3,Pp 1)] [(0,Vb 143 (iD tD)),(1,Vb 72 (jF yC))] 2 (sq (bE h fun nT zW h=>?_));refine xG (mk [(4,.bool nT)] [(0,Vb 143 (iD tD))] 1) ?_ ?_
 ·replace h:=zW;refine bc h ?_ ?_
  ·intro yA h;refine bE h fun zB zN h=>r2 [iH 21 Ht,iR 3 yA,iF 13 yL zN,iR 8 yA] [] [(4,.bool (decide (zB.At>=tD.last)))] [1] [] 2 ?_;cases h;exact ⟨rfl,sZ⟩
  ·intro yA h;refine r2 [iG 11 10,iH 21 Hf,iR 11 yA] [] jP [1] [] 2 ?_;cases h;exact ⟨rfl,sZ⟩
 cases h;exact rt rx
theorem zJj (tD:tG) (yC:zO) (r:tG) (h:OQ tD yC=some r):y9 prog 67 [(.var 143 (iD tD))] [] [Pp 0,yE yC] [(.var 143 (iD r))] (.tuple []):=by
 refine tI Tryz.f67 ?_;unfold OQ at h;refine sE [iH 0 { id:=1 }] [(0,Pp 0),(3,Pp 1)] [(0,Vb 143 (iD tD)),(1,Vb 72 (jF yC))] 2 (s2 [iN 5 yL yC.Xe] [] [] [] [(0,Vb 143 [Ii (zG (yC.Xf+(lN yC.Xe))),Ii tD.last])] 2 (bE h fun zB zN h=>r2 [iN 5 yL yC.Xe,iF 7 yL zN] [0,3] [] [1] [(0,Vb 143 [Ii (zG (yC.Xf+(lN yC.Xe))),Ii zB.At])] 2 ?_));cases h;exact ⟨.inl rfl,zle rfl,zk⟩
theorem zNe (F:Nat) (zN:wR) (zE:List zO) (r:Int) (h:MO F zN zE=some r):y9 prog 43 [] [] [zBH zN,Sq 4 yE zE] [] (Ii r):=by
 refine tI Tryz.f43 ?_;unfold MO at h;refine sE [iH 0 { id:=0 }] [(1,Sq 4 yE zE),(2,Pp 0)] [(bA zN)] 1 (s2 [iH 0 { id:=1,mag:=false,mks:=[.int .i64] }] [] [(5,.mp 1)] [] [(1,.live l9)] 2 ?_);refine zCM 1 2 (ag:=false) (ks:=[.int .i64]) (.pm 143) zk zk (XA zk) (fun zU=>w0 [0,2] [] [(1,Sq 4 yE zE),(2,Pp 0),(5,.rawm zU)] [(bA zN),(1,.live (.fam (.cl zU false [.int .i64] (.pm 143) (List.map bB ([]:List (Int×tG))))))] (sq (s2 [iN 2 yZ zN.Xd] [2] [(16,Sq 3 yZ zN.Xd),(17,Ii (lN zN.Xd)),(18,Ii 0)] [0] [] 2 (bE h fun zF zW h=>?_))));refine xG (mk [(1,Sq 4 yE zE),(5,.rawm zU)] [(0,.live (.fam (.cl zU false [.int .i64] (.pm 143) (List.map bB zF))))] 1) ?_ ?_
 ·replace h:=zW;refine ab 0 (w0 [1] [] _ _ (xW (fun n st=>∃ (zD:Int),∃ (zC:List (Int×tG)),st=mk [(1,Sq 4 yE zE),(5,.rawm zU),(16,Sq 3 yZ zN.Xd),(17,Ii (lN zN.Xd)),(18,Ii zD)] [(0,.live (.fam (.cl zU false [.int .i64] (.pm 143) (List.map bB zC))))] 1/\CW F zN n zD zC=some zF) F zk ⟨_,_,rfl,h⟩ (fun _ ⟨_,_,_,h⟩=>xS h) ?_));rintro yD _ ⟨zD,zC,rfl,h⟩;rw [CW,S2] at h;refine s0 [] [(19,.bool (decide (zD<(lN zN.Xd))))] (sq (ch 19 h (fun zM h=>sk (sq (ab 1 (sq (bE h fun zB yP h=>r2 [iH 2 { id:=1 },iF 0 yZ yP] [] [(7,Pp 1)] [] [(1,Vb 69 (qV zB))] 2 (nE h fun xQ h=>r2 [iH 4 { id:=2 },iH 5 { av:=(.agg [Ii 0,Ii 0]),dep:=true,es:=(List.map bB (xC zC zB.Id (⟨0,0⟩:tG))),ids:=[2],n:=0,x:=true },iA zU,iC trivial,iC (tJ:wW prog 3 false [.int .i64]),iC (aO (f:=(AV.int .i64)) (g:=O6) t5 zC zB.Id (⟨0,0⟩:tG):jS (List.map bB zC) (Ii zB.Id) (.agg [Ii 0,Ii 0]) (List.map bB (xC zC zB.Id (⟨0,0⟩:tG)))),iC (aV (l:=zC) xQ:(List.map bB zC:List (AV×AV)).length<maxLen),iA (Pp 2:AV),iA [Vb 143 [Ii 0,Ii 0]]] [7] [] [1] [(0,.live (.fam (.cl zU false [.int .i64] (.pm 143) (List.map bB (xC zC zB.Id (⟨0,0⟩:tG))))))] 3 (r0 [] [(18,Ii (zC8 zD))] ?_))))))) (fun _ h=>by cases h;exact ae 0 ⟨rfl,sZ⟩)));exact ⟨_,sZ,_,_,rfl,h⟩
 refine s0 [] [(8,Ii 0)] (sq (s1 [iN 1 yE zE] [1] [(28,Sq 4 yE zE),(29,Ii (lN zE)),(30,Ii 0)] (bE h fun zT wF h=>cv zT (fun q0=>mk [(8,Ii q0)] [] 0) Tryz.f43 (fun q1=>[]) (fun q1=>Ii q1) ?_ ?_ (by rintro _ rfl _ hf;cases h;exact ⟨.inr rfl,hf⟩))))
 ·replace h:=wF;refine ab 2 (w0 [0] [] _ _ (xW (fun n st=>∃ (pY:Int),∃ (zK:Int),∃ (zH:List (Int×tG)),st=mk [(5,.rawm zU),(8,Ii pY),(28,Sq 4 yE zE),(29,Ii (lN zE)),(30,Ii zK)] [(0,.live (.fam (.cl zU false [.int .i64] (.pm 143) (List.map bB zH))))] 1/\BM F zE n pY zK zH=some zT) F zk ⟨_,_,_,rfl,h⟩ (fun _ ⟨_,_,_,_,h⟩=>xS h) ?_));rintro vY _ ⟨pY,zK,zH,rfl,h⟩;rw [BM,TF] at h;refine s0 [] [(31,.bool (decide (zK<(lN zE))))] (sq (ch 31 h (fun yU h=>sk (sq (ab 3 (sq (bE h fun zI wU h=>r2 [iH 2 { id:=1 },iF 0 yE wU] [] [(10,Pp 1)] [] [(1,Vb 72 (jF zI))] 2 (sq (sq (bE h fun zA w4 h=>r0 [iK 1 {} (zPa F zI zA w4)] [(11,Ii zA)] (c0 [] 37 h [] ?_ ?_))))))))) (fun _ h=>by cases h;exact ae 2 ⟨rfl,sZ⟩)))
  ·intro w9 h;refine s2 [] [5,28,10] [(4,Ii zA)] [0,1] [] 2 ?_;cases h;exact rt ry
  intro w9 h;refine sk (sq ?_);rcases zOv (zV zH zI.Xb) with vA | ⟨z5,vA⟩
  ·replace h:=zLp vA h;refine r0 [iH 3 { dep:=true,g:=false,n:=0,x:=true },iA zU,iC (tJ:wW prog 3 false [.int .i64]),iC (zHl (f:=(AV.int .i64)) (g:=O6) t5 vA .junk:u0 (List.map bB zH) (Ii zI.Xb) .junk .junk false)] [(12,.nilp),(13,.bool false)] (sq (s0 [] [(47,.bool true)] (cd 47 true ?_ ?_)))
   rotate_left
   ·intro hg;exact Bool.noConfusion hg
   intro _;refine s2 [] [5,28,10,12] [(4,Ii 5)] [0,1] [] 2 ?_;cases h;exact rt ry
  replace h:=zH9 vA h;refine r2 [iH 3 { av:=(.agg [Ii z5.next,Ii z5.last]),dep:=true,id:=2,n:=0,x:=true },iA zU,iC (tJ:wW prog 3 false [.int .i64]),iC (zON (f:=(AV.int .i64)) (g:=O6) vA .junk:u0 (List.map bB zH) (Ii zI.Xb) .junk (.agg [Ii z5.next,Ii z5.last]) true)] [] [(12,Pp 2),(13,.bool true)] [] [(0,.live (.fam (.opp zU false [.int .i64] (.pm 143) (List.map bB zH) (Ii zI.Xb) 2))),(2,Vb 143 (iD z5))] 3 (sq (s0 [] [(47,.bool false)] (cd 47 false ?_ ?_)))
  ·intro hg;exact Bool.noConfusion hg
  intro _;refine sk (sq (sq (bE h fun zL vU h=>r0 [iJ 2 { ids:=[2] } [Pp 2,yE zI] (zGI z5 zI zL vU)] [(51,.bool (!zL))] (ch 51 h ?_ ?_))))
  ·intro v5 h;refine s2 [] [5,28,10,12] [(4,Ii 11)] [0,1,2] [] 3 ?_;cases h;exact rt ry
  intro v5 h;refine sk (sq (bE h fun yK vN h=>r2 [iJ 2 { ids:=[2] } [Pp 2,yE zI] (zJj z5 zI yK vN)] [12] [] [] [(2,Vb 143 (iD yK))] 3 ?_));refine wX (zIC (f:=.cl zU false [.int .i64] (.pm 143) (List.map bB (xC zH zI.Xb yK))) 0 2 [Ii yK.next,Ii yK.last] (List.map bB (xC zH zI.Xb yK)) zk (ac (rfl:(Vb 143 (iD yK):zR)=Vb 143 (iD yK)) (ac (aO (f:=(AV.int .i64)) (g:=O6) t5 zH zI.Xb yK:jS (List.map bB zH) (Ii zI.Xb) (.agg [Ii yK.next,Ii yK.last]) (List.map bB (xC zH zI.Xb yK))) an))) ?_;refine w0 [0,1] [] [(5,.rawm zU),(8,Ii pY),(10,Pp 1),(28,Sq 4 yE zE),(29,Ii (lN zE)),(30,Ii zK)] [(0,.live (.fam (.cl zU false [.int .i64] (.pm 143) (List.map bB (xC zH zI.Xb yK))))),(1,Vb 72 (jF zI))] (r2 [iN 3 yL zI.Xe] [10] [(8,Ii (zG (pY+(lN zI.Xe))))] [1] [] 2 (r0 [] [(30,Ii (zC8 zK))] ?_));exact ⟨_,sZ,_,_,_,rfl,h⟩
 rintro z8 rfl;refine sq (c0 [] 62 h [] ?_ ?_)
 ·intro uN h;refine s0 [] [(4,Ii 7)] ?_;cases h;exact rt rx
 intro uN h;refine sk (s0 [] [(4,Ii 0)] ?_);cases h;exact rt rx
theorem zIV (l:List zO):fzV (d8 l)=Sq 4 yE l:=(congrArg (AV.sl false 4) (Z3 yE l _ rfl)).symm
theorem zGp (l:List zO):DZ (d8 l)/\B3 4 6 (d8 l)=true:=⟨rfl,rfl⟩
theorem zNd (F:Nat) (A6:List zO) (events_1:List y8) (r:(List zO)) (h:RD F A6 events_1=some r):y9 prog 44 [] [(DX A6),(.row 52 6 (AL A6))] [.own 0 A6.length,Sq 6 yL events_1] [(DX r),(.row 52 6 (AL r))] (.own 0 r.length):=by
 refine ZS (fn:=Go.Proofs.Tryz.f44) (code:=BO Go.Proofs.Tryz.f44) zk zk (zle zk) ?_;unfold RD at h;refine sE [iH 0 { id:=2,m:=1 }] [(0,.own 0 A6.length),(1,Sq 6 yL events_1)] [(0,.live (DX A6)),(1,Rb 52 6 (AL A6))] 3 (sq (bE h fun zF zN h=>?_));refine xG (mk [(0,.own 0 zF.length)] [(0,.live (DX zF)),(1,Rb 52 6 (AL zF))] 2) ?_ ?_
 ·replace h:=zN;refine ab 0 (w0 [0,1] [] _ _ (xW (fun n st=>∃ (w6:List y8),∃ (zC:List zO),st=mk [(0,.own 0 zC.length),(1,Sq 6 yL w6)] [(0,.live (DX zC)),(1,Rb 52 6 (AL zC))] 2/\ON F n w6 zC=some zF) F zk ⟨_,_,rfl,h⟩ (fun _ ⟨_,_,_,h⟩=>xS h) ?_));rintro yD _ ⟨w6,zC,rfl,h⟩;rw [ON,XP] at h;refine sq (c0 [iN 1 yL w6] 9 h [] ?_ ?_)
  rotate_left
  ·intro zM h;refine ae 0 ?_;cases h;exact ⟨rfl,sZ⟩
  intro zM h;refine sk (ab 1 (sq (nE h fun zW h=>r0 [iC zW.1,iC zW.2] [(5,.ptr 0 4 ((EP zC).toNat) 0)] (sq (nE h fun yP h=>r0 [iH 3 { x:=true },iC (X8 _ yP:(EP zC).toNat=(Mp yE (ini zC)).length),iC (QH (UM (Nat.succ_pos _) yP):(!zC.isEmpty)=true),iN 7 yL w6] [(6,Ii (D9 zC w6))] (sq (c0 [] 25 h [] ?_ ?_)))))))
  ·intro yU h;refine sq ?_;refine wX (zCK (e:=72) (sz:=4) 0 1 (Mp yE zC) zk (ac ((vL _).symm:((lst zC).Xe).length=(Mp yL (lst zC).Xe:List AV).length) (ac (Z3 yE zC _ rfl:(Mp yE zC:List AV)=List.map yE (ini zC)++bif (!zC.isEmpty) then [.agg (bF (lst zC)++[Sq 6 yL (lst zC).Xe])] else []) an))) ?_;refine w0 [0] [] [(0,.own 0 zC.length),(1,Sq 6 yL w6),(5,.ptr 0 4 ((EP zC).toNat) 0)] [(0,Rb 72 4 (Mp yE zC))] (nE h fun xQ h=>nE h fun wF h=>nE h fun wU h=>r2 [iH 4 { av:=yE (lst zC) },iH 8 { av:=yE (lst zC) },iH 11 { id:=1 },iH 12 { id:=2,l:=(Mp yE zC++(OT zC)),n:=(zC.length+1) },iC (zEj _ xQ:(Mp yE zC)[(EP zC).toNat]?=some (yE (lst zC))),iC (zEj _ wF:(Mp yE zC)[(EP zC).toNat]?=some (yE (lst zC))),iC ((vL _).symm:zC.length=(Mp yE zC).length),iC (rfl:1=((OT zC):List AV).length),iA ((Mp yE zC++(OT zC)):List AV),iC (by simp:(zC.length+1)=((List.map yE zC++[.agg [Ii ((lst zC).Xb),Ii (zG (((lst zC).Xf)+1000)),Ii 0,.nilsl]]):List AV).length),iC (by rw [vL];exact wU:((List.map yE zC:List AV).length+([.agg [Ii ((lst zC).Xb),Ii (zG (((lst zC).Xf)+1000)),Ii 0,.nilsl]]:List AV).length) * 48<=140737488355328)] [5] [(0,.own 2 (zC.length+1))] [0] [(2,Rb 72 4 (Mp yE zC++(OT zC)))] 3 ?_);refine wX (zDP (e:=72) (sz:=4) 2 3 52 6 (Mp yE zC) [Ii ((lst zC).Xb),Ii (zG (((lst zC).Xf)+1000)),Ii 0] zk (ac (rfl:(Mp yE zC++(OT zC):List AV)=List.map yE zC++[.agg ([Ii ((lst zC).Xb),Ii (zG (((lst zC).Xf)+1000)),Ii 0]++[.nilsl])]) an)) ?_;refine wz [2,3] [] [0] [0,1] [(0,.own 0 (((oB zC)).length)),(1,Sq 6 yL w6)] [(0,.live (.rowQ 72 4 (Mp yE (ini (oB zC))) (!((oB zC)).isEmpty) (bF (lst (oB zC))++[.own 1 ((lst (oB zC)).Xe).length]))),(1,Rb 52 6 (Mp yL (lst (oB zC)).Xe))] (ac (congrArg (AV.own _) (by first | (simp;done) | (simp;omega)):(.own 2 (zC.length+1):AV)=.own 2 (((oB zC)).length)) (ar 72 (ar 4 (ac ((congrArg (List.map _) (CY _ _)).symm:((Mp yE zC):List AV)=List.map yE (ini (oB zC))) (ac ((zBr _ _).symm:true=(!((oB zC)).isEmpty)) (ar true (ac (by first | (simp only [v4];done) | simp [v4]:(Ii ((lst zC).Xb):AV)=Ii ((lst (zC++[(⟨(lst zC).Xb,zG (((lst zC).Xf)+1000),0,[]⟩:zO)])).Xb)) (ac (by first | (simp only [v4];done) | simp [v4]:(Ii (zG (((lst zC).Xf)+1000)):AV)=Ii ((lst (zC++[(⟨(lst zC).Xb,zG (((lst zC).Xf)+1000),0,[]⟩:zO)])).Xf)) (ac (by first | (simp only [v4];done) | simp [v4]:(Ii 0:AV)=Ii ((lst (zC++[(⟨(lst zC).Xb,zG (((lst zC).Xf)+1000),0,[]⟩:zO)])).Xh)) (ac (congrArg (AV.own _) (by first | (simp only [v4];done) | simp [v4]):(.own 3 0:AV)=.own 3 (((lst (oB zC)).Xe).length)) (ar 52 (ar 6 (ac (by first | (simp only [v4];done) | simp [v4]:([]:List AV)=List.map yL (lst (zC++[(⟨(lst zC).Xb,zG (((lst zC).Xf)+1000),0,[]⟩:zO)])).Xe) an))))))))))))) (ae 1 ?_);exact ⟨_,sZ,_,_,rfl,h⟩
  intro yU h;refine sk (sq (nE h fun w4 h=>nE h fun vA h=>nE h fun vU h=>nE h fun vN h=>r2 [iH 4 { x:=true },iH 8 { id:=2,l:=(Mp yL (H6 zC w6)),n:=((H6 zC w6)).length },iH 11 { x:=true },iC (X8 _ w4:(EP zC).toNat=(Mp yE (ini zC)).length),iC (QH (UM (Nat.succ_pos _) w4):(!zC.isEmpty)=true),iS 7 yL w6 0 (D9 zC w6) (by decide) vA.1 vA.2,iM yL ((lst zC).Xe),iC trivial,iC (zBW _ _:(Mp yL (H6 zC w6))=(Mp yL ((lst zC).Xe))++(Mp yL (sub w6 0 (D9 zC w6)))),iC (by simp:((((lst zC).Xe)++(sub w6 0 (qY (zG (1000 - ((((lst zC).Xe).length:Nat):Int))) ((w6.length:Nat):Int))))).length=((List.map yL (((lst zC).Xe)++(sub w6 0 (qY (zG (1000 - ((((lst zC).Xe).length:Nat):Int))) ((w6.length:Nat):Int)))))).length),iC (by first | (simp;done) | simpa using vU:(((List.map yL ((lst zC).Xe)):List AV).length+((List.map yL (sub w6 0 (qY (zG (1000 - ((((lst zC).Xe).length:Nat):Int))) ((w6.length:Nat):Int)))):List AV).length) * 72<=140737488355328),iC (X8 _ vN:(EP zC).toNat=(Mp yE (ini zC)).length),iC (QH (UM (Nat.succ_pos _) vN):(!zC.isEmpty)=true)] [5] [] [1] [(0,.live (.rowQ 72 4 (Mp yE (ini zC)) (!zC.isEmpty) [Ii ((lst zC).Xb),Ii ((lst zC).Xf),Ii ((lst zC).Xh),.own 2 (((H6 zC w6)).length)])),(2,Rb 52 6 (Mp yL (H6 zC w6)))] 3 (wz [0,2] [] [0] [0,1] [(0,.own 0 (((zC6 zC w6)).length)),(1,Sq 6 yL w6),(6,Ii (D9 zC w6))] [(0,.live (.rowQ 72 4 (Mp yE (ini (zC6 zC w6))) (!((zC6 zC w6)).isEmpty) (bF (lst (zC6 zC w6))++[.own 1 ((lst (zC6 zC w6)).Xe).length]))),(1,Rb 52 6 (Mp yL (lst (zC6 zC w6)).Xe))] (ac (congrArg (AV.own _) (zH5 _ vN).symm:(.own 0 zC.length:AV)=.own 0 (((zC6 zC w6)).length)) (ar 72 (ar 4 (ac ((congrArg (List.map _) (CY _ _)).symm:((Mp yE (ini zC)):List AV)=List.map yE (ini (zC6 zC w6))) (ac ((QH (UM (Nat.succ_pos _) vN)).trans (zBr _ _).symm:(!zC.isEmpty)=(!((zC6 zC w6)).isEmpty)) (ar true (ac (by first | (simp only [v4];done) | simp [v4]:(Ii ((lst zC).Xb):AV)=Ii ((lst ((ini zC)++[(⟨(lst zC).Xb,(lst zC).Xf,(lst zC).Xh,(((lst zC).Xe)++(sub w6 0 (qY (zG (1000 - ((((lst zC).Xe).length:Nat):Int))) ((w6.length:Nat):Int))))⟩:zO)])).Xb)) (ac (by first | (simp only [v4];done) | simp [v4]:(Ii ((lst zC).Xf):AV)=Ii ((lst ((ini zC)++[(⟨(lst zC).Xb,(lst zC).Xf,(lst zC).Xh,(((lst zC).Xe)++(sub w6 0 (qY (zG (1000 - ((((lst zC).Xe).length:Nat):Int))) ((w6.length:Nat):Int))))⟩:zO)])).Xf)) (ac (by first | (simp only [v4];done) | simp [v4]:(Ii ((lst zC).Xh):AV)=Ii ((lst ((ini zC)++[(⟨(lst zC).Xb,(lst zC).Xf,(lst zC).Xh,(((lst zC).Xe)++(sub w6 0 (qY (zG (1000 - ((((lst zC).Xe).length:Nat):Int))) ((w6.length:Nat):Int))))⟩:zO)])).Xh)) (ac (congrArg (AV.own _) (by first | (simp only [v4];done) | simp [v4]):(.own 2 (((H6 zC w6)).length):AV)=.own 2 (((lst (zC6 zC w6)).Xe).length)) (ar 52 (ar 6 (ac (by first | (simp only [v4];done) | simp [v4]:((List.map yL (((lst zC).Xe)++(sub w6 0 (qY (zG (1000 - ((((lst zC).Xe).length:Nat):Int))) ((w6.length:Nat):Int))))):List AV)=List.map yL (lst ((ini zC)++[(⟨(lst zC).Xb,(lst zC).Xf,(lst zC).Xh,(((lst zC).Xe)++(sub w6 0 (qY (zG (1000 - ((((lst zC).Xe).length:Nat):Int))) ((w6.length:Nat):Int))))⟩:zO)])).Xe) an))))))))))))) (nE h fun uK h=>r0 [iT 2 yL w6 (D9 zC w6) uK.1 uK.2] [(1,Sq 6 yL (sub w6 (D9 zC w6) (lN w6)))] ?_))));exact ⟨_,sZ,_,_,rfl,h⟩
 refine s1 [] [0] [(4,.own 0 zF.length)] ?_;cases h;exact rt rx
theorem zGQ (F:Nat) (zN:wR) (zE:List zO) (r:z6×Int) (h:QQ F zN zE=some r):y9 prog 28 [] [] [zBH zN,Sq 4 yE zE] [] (.tuple [pT r.1,Ii r.2]):=by
 refine tI Tryz.f28 ?_;unfold QQ at h;refine sE [iH 0 { id:=0 },iH 1 { id:=1 }] [(1,Sq 4 yE zE),(2,Pp 0),(4,Pp 1)] [(bA zN),(1,Vb 36 j7)] 2 ?_;refine wX (nR 1 3 2 72 4 zk) ?_;refine w0 [0,1,2] [] [(1,Sq 4 yE zE),(2,Pp 0),(4,Pp 1)] [(bA zN),oQ,oZ] (sq (sq (bE h fun zA zW h=>r0 [iK 1 {} (zJ1 F zN zA zW)] [(6,Ii zA)] (c0 [] 18 h [] ?_ ?_))))
 ·intro zM h;refine s2 [] [1,2] [(5,Ii zA)] [0,2] [(1,Vb 36 j7)] 3 ?_;refine wX (nR 1 3 3 72 4 zk) ?_;refine w0 [1,3] [] [(4,Pp 0),(5,Ii zA)] [T0,(1,Rb 72 4 [])] (wz [0] [1] [] [0] [(4,Pp 0),(5,Ii zA)] zDZ (ar 36 (ar true (ac (sp:0=tM.length) (ar tM (ar tM (ar tM (ar 4 (ar tM (ar true an))))))))) ?_);cases h;exact rt rx
 intro zM h;refine sk (sq (sq (bE h fun zL yP h=>r0 [iK 2 {} (zNe F zN zE zL yP)] [(7,Ii zL)] (c0 [] 25 h [] ?_ ?_))))
 ·intro yU h;refine s2 [] [1,2] [(5,Ii zL)] [0,2] [(1,Vb 36 j7)] 3 ?_;refine wX (nR 1 3 3 72 4 zk) ?_;refine w0 [1,3] [] [(4,Pp 0),(5,Ii zL)] [T0,(1,Rb 72 4 [])] (wz [0] [1] [] [0] [(4,Pp 0),(5,Ii zL)] zDZ (ar 36 (ar true (ac (sp:0=tM.length) (ar tM (ar tM (ar tM (ar 4 (ar tM (ar true an))))))))) ?_);cases h;exact rt rx
 intro yU h;refine sk (s2 [iH 0 { id:=3,mag:=false,mks:=[.int .i64] }] [] [(8,.mp 3)] [] [(3,.live l9)] 4 ?_);refine zCM 3 4 (ag:=false) (ks:=[.int .i64]) (.nm 72 4 52 6) zk zk (XA zk) (fun zU=>w0 [0,1,2,4] [] [(1,Sq 4 yE zE),(2,Pp 0),(4,Pp 1),(8,.rawm zU)] [(bA zN),oQ,oZ,(3,.live (.fam (.cl zU false [.int .i64] (.nm 72 4 52 6) (List.map i5 ([]:List (Int×(List zO)))))))] (sq (s1 [iN 1 yE zE] [1] [(29,Sq 4 yE zE),(30,Ii (lN zE)),(31,Ii 0)] (bE h fun zF xQ h=>?_))));refine xG (mk [(2,Pp 0),(4,Pp 1),(8,.rawm zU)] [(bA zN),oQ,oZ,(3,.live (.fam (.cl zU false [.int .i64] (.nm 72 4 52 6) (List.map i5 zF))))] 4) ?_ ?_
 ·replace h:=xQ;refine ab 0 (w0 [0,1,2,3] [] _ _ (xW (fun n st=>∃ (zD:Int),∃ (zC:List (Int×(List zO))),st=mk [(2,Pp 0),(4,Pp 1),(8,.rawm zU),(29,Sq 4 yE zE),(30,Ii (lN zE)),(31,Ii zD)] [(bA zN),oQ,oZ,(3,.live (.fam (.cl zU false [.int .i64] (.nm 72 4 52 6) (List.map i5 zC))))] 4/\CI F zE n zD zC=some zF) F zk ⟨_,_,rfl,h⟩ (fun _ ⟨_,_,_,h⟩=>xS h) ?_));rintro yD _ ⟨zD,zC,rfl,h⟩;rw [CI,VN] at h;refine s0 [] [(32,.bool (decide (zD<(lN zE))))] (sq (ch 32 h (fun w9 h=>sk (sq (ab 1 (sq (bE h fun zB wF h=>r2 [iH 2 { id:=4 },iF 0 yE wF] [] [(10,Pp 4)] [] [(4,Vb 72 (jF zB))] 5 (s2 [iH 3 { av:=(d8 (v8 zC zB)),dep:=true,g:=(zV zC zB.Xb).isSome,ids:=[5,6],l:=(bF (lst ([]:List zO))),n:=3,x:=true },iA zU,iC (tJ:wW prog 3 false [.int .i64]),iC (kB (f:=(AV.int .i64)) (g:=d8) t5 zC zB.Xb []:u0 (List.map i5 zC) (Ii zB.Xb) (VE (.nm 72 4 52 6) (bF (lst ([]:List zO)))) (d8 (v8 zC zB)) (zV zC zB.Xb).isSome)] [] [(11,.own 5 ((Mp yE (ini (v8 zC zB))).length+bif (!((v8 zC zB)).isEmpty) then 1 else 0))] [] [(OP zU zC zB),(5,.live (.rowQ 72 4 (Mp yE (ini (v8 zC zB))) (!((v8 zC zB)).isEmpty) (bF (lst (v8 zC zB))++[.own 6 (Mp yL (lst (v8 zC zB)).Xe).length]))),(6,Rb 52 6 (Mp yL (lst (v8 zC zB)).Xe))] 7 (wz [0,1,2,3,4,5,6] [] [11] [5] [(2,Pp 0),(4,Pp 1),(8,.rawm zU),(10,Pp 4),(11,.own 5 (((v8 zC zB)).length)),(29,Sq 4 yE zE),(30,Ii (lN zE)),(31,Ii zD)] [(bA zN),oQ,oZ,(OP zU zC zB),(4,Vb 72 (jF zB)),(5,.live (.rowQ 72 4 (Mp yE (ini (v8 zC zB))) (!((v8 zC zB)).isEmpty) (bF (lst (v8 zC zB))++[.own 6 ((lst (v8 zC zB)).Xe).length]))),(6,Rb 52 6 (Mp yL (lst (v8 zC zB)).Xe))] (ac (congrArg (AV.own _) (zD7 _ _):(.own 5 ((Mp yE (ini (v8 zC zB))).length+bif (!((v8 zC zB)).isEmpty) then 1 else 0):AV)=.own 5 (((v8 zC zB)).length)) (ar 72 (ar 4 (ar (Mp yE (ini (v8 zC zB)):List AV) (ar (!((v8 zC zB)).isEmpty) (ar true (ar (Ii ((lst (v8 zC zB)).Xb)) (ar (Ii ((lst (v8 zC zB)).Xf)) (ar (Ii ((lst (v8 zC zB)).Xh)) (ac (congrArg (AV.own _) (vL _):(.own 6 (Mp yL (lst (v8 zC zB)).Xe).length:AV)=.own 6 ((lst (v8 zC zB)).Xe).length) an)))))))))) (sq (sq (am 46 (decide (zB.Xh>0)||((lN ((v8 zC zB)))==0)) ?_ ?_)))))))))) (fun _ h=>by cases h;exact ae 0 ⟨rfl,sZ⟩)))
  ·rcases bft (decide (zB.Xh>0)) with wJ | wJ
   ·exact rm [iG 4 3,iH 7 Ht,iR 4 wJ] (ort wJ)
   ·exact rm [iH 7 Hf,iR 4 wJ] (orf wJ rfl)
  refine bE h fun zT wU h=>?_;refine xG (mk [(2,Pp 0),(4,Pp 1),(8,.rawm zU),(10,Pp 4),(11,.own 5 zT.length),(29,Sq 4 yE zE),(30,Ii (lN zE)),(31,Ii zD)] [(bA zN),oQ,oZ,(OP zU zC zB),(4,Vb 72 (jF zB)),(5,.live (.rowQ 72 4 (Mp yE (ini zT)) (!zT.isEmpty) (bF (lst zT)++[.own 6 ((lst zT).Xe).length]))),(6,Rb 52 6 (AL zT))] 7) ?_ ?_
  ·replace h:=wU;refine ch 46 h ?_ ?_
   rotate_left
   ·intro v5 h;refine sk ?_;cases h;exact ⟨rfl,sZ⟩
   intro v5 h;refine wX (zCK (e:=72) (sz:=4) 5 6 (Mp yE (v8 zC zB)) zk (ac ((vL _).symm:((lst (v8 zC zB)).Xe).length=(Mp yL (lst (v8 zC zB)).Xe:List AV).length) (ac (Z3 yE (v8 zC zB) _ rfl:(Mp yE (v8 zC zB):List AV)=List.map yE (ini (v8 zC zB))++bif (!((v8 zC zB)).isEmpty) then [.agg (bF (lst (v8 zC zB))++[Sq 6 yL (lst (v8 zC zB)).Xe])] else []) an))) ?_;refine w0 [0,1,2,3,4,5] [] [(2,Pp 0),(4,Pp 1),(8,.rawm zU),(10,Pp 4),(11,.own 5 (((v8 zC zB)).length)),(29,Sq 4 yE zE),(30,Ii (lN zE)),(31,Ii zD)] [(bA zN),oQ,oZ,(OP zU zC zB),(4,Vb 72 (jF zB)),(5,Rb 72 4 (Mp yE (v8 zC zB)))] (nE h fun w4 h=>r2 [iH 8 { id:=6 },iH 9 { id:=7,l:=(Mp yE (v8 zC zB)++(RZ zB)),n:=(((v8 zC zB)).length+1) },iC ((vL _).symm:((v8 zC zB)).length=(Mp yE (v8 zC zB)).length),iC (rfl:1=((RZ zB):List AV).length),iA ((Mp yE (v8 zC zB)++(RZ zB)):List AV),iC (by simp:((((zV zC zB.Xb).getD [])).length+1)=((List.map yE ((zV zC zB.Xb).getD [])++[.agg [Ii zB.Xb,Ii zB.Xf,Ii zB.Xh,.nilsl]]):List AV).length),iC (by rw [vL];exact w4:((List.map yE ((zV zC zB.Xb).getD []):List AV).length+([.agg [Ii zB.Xb,Ii zB.Xf,Ii zB.Xh,.nilsl]]:List AV).length) * 48<=140737488355328)] [] [(11,.own 7 (((v8 zC zB)).length+1))] [5] [(7,Rb 72 4 (Mp yE (v8 zC zB)++(RZ zB)))] 8 ?_);cases h;exact ⟨rfl,(Sub.trans (zDP (e:=72) (sz:=4) 7 8 52 6 (Mp yE (v8 zC zB)) [Ii zB.Xb,Ii zB.Xf,Ii zB.Xh] zk (ac (rfl:(Mp yE (v8 zC zB)++(RZ zB):List AV)=List.map yE (v8 zC zB)++[.agg ([Ii zB.Xb,Ii zB.Xf,Ii zB.Xh]++[.nilsl])]) an)) (Sub.trans (mF [0,1,2,3,4,7,8] [] [.s 2,.s 4,.s 8,.s 10,.a 11 (.own 5 (((zC9 zC zB)).length)),.s 29,.s 30,.s 31] [.s 0,.s 1,.s 2,.s 3,.s 4,.a 5 (.live (.rowQ 72 4 (Mp yE (ini (zC9 zC zB))) (!((zC9 zC zB)).isEmpty) (bF (lst (zC9 zC zB))++[.own 6 ((lst (zC9 zC zB)).Xe).length]))),.a 6 (Rb 52 6 (Mp yL (lst (zC9 zC zB)).Xe))] (sl2:=[(2,Pp 0),(4,Pp 1),(8,.rawm zU),(10,Pp 4),(11,.own 5 (((zC9 zC zB)).length)),(29,Sq 4 yE zE),(30,Ii (lN zE)),(31,Ii zD)]) (bx2:=[(bA zN),oQ,oZ,(OP zU zC zB),(4,Vb 72 (jF zB)),(5,.live (.rowQ 72 4 (Mp yE (ini (zC9 zC zB))) (!((zC9 zC zB)).isEmpty) (bF (lst (zC9 zC zB))++[.own 6 ((lst (zC9 zC zB)).Xe).length]))),(6,Rb 52 6 (Mp yL (lst (zC9 zC zB)).Xe))]) zk (ac (congrArg (AV.own _) (by first | (simp;done) | (simp;omega)):(.own 7 (((v8 zC zB)).length+1):AV)=.own 7 (((zC9 zC zB)).length)) (ar 72 (ar 4 (ac ((congrArg (List.map _) (CY _ _)).symm:((Mp yE (v8 zC zB)):List AV)=List.map yE (ini (zC9 zC zB))) (ac ((zBr _ _).symm:true=(!((zC9 zC zB)).isEmpty)) (ac (rfl:t7 (bF (lst (zC9 zC zB))++[.own 8 ((lst (zC9 zC zB)).Xe).length])=true) (ac (by first | (simp only [v4];done) | simp [v4]:(Ii zB.Xb:AV)=Ii ((lst (((zV zC zB.Xb).getD [])++[(⟨zB.Xb,zB.Xf,zB.Xh,[]⟩:zO)])).Xb)) (ac (by first | (simp only [v4];done) | simp [v4]:(Ii zB.Xf:AV)=Ii ((lst (((zV zC zB.Xb).getD [])++[(⟨zB.Xb,zB.Xf,zB.Xh,[]⟩:zO)])).Xf)) (ac (by first | (simp only [v4];done) | simp [v4]:(Ii zB.Xh:AV)=Ii ((lst (((zV zC zB.Xb).getD [])++[(⟨zB.Xb,zB.Xf,zB.Xh,[]⟩:zO)])).Xh)) (ac (congrArg (AV.own _) (by first | (simp only [v4];done) | simp [v4]):(.own 8 0:AV)=.own 8 (((lst (zC9 zC zB)).Xe).length)) (ar 52 (ar 6 (ac (by first | (simp only [v4];done) | simp [v4]:([]:List AV)=List.map yL (lst (((zV zC zB.Xb).getD [])++[(⟨zB.Xb,zB.Xf,zB.Xh,[]⟩:zO)])).Xe) an)))))))))))))) sZ))⟩
  refine bE h fun yK vA h=>nE h fun vU h=>r2 [iH 6 { av:=(.own 0 yK.length),gids:=[5,6],giv:=[(DX zT),(.row 52 6 (AL zT))],ids:=[7,8],l:=[.own 0 zT.length,Sq 6 yL zB.Xe],post:=[(DX yK),(.row 52 6 (AL yK))] },iH 7 { av:=(d8 yK),dep:=true,es:=(List.map i5 (xC zC zB.Xb yK)),ids:=[7,8],n:=3,x:=true },iA ([.own 5 zT.length,Sq 6 yL zB.Xe]:List AV),iA ([.live (.rowQ 72 4 (Mp yE (ini zT)) (!zT.isEmpty) (bF (lst zT)++[.own 6 ((lst zT).Xe).length])),Rb 52 6 (AL zT)]:List zR),iC (zNd F zT zB.Xe yK vA),iA zU,iA (Ii zB.Xb:AV),iC (tJ:wW prog 3 false [.int .i64]),iC (aO (f:=(AV.int .i64)) (g:=d8) t5 zC zB.Xb yK:jS (List.map i5 zC) (Ii zB.Xb) (d8 yK) (List.map i5 (xC zC zB.Xb yK))),iC (aV (l:=zC) vU:(List.map i5 zC:List (AV×AV)).length<maxLen),iC (congrArg (AV.own _) (zD7 _ _).symm:(.own 7 yK.length:AV)=.own 7 ((Mp yE (ini yK)).length+bif (!yK.isEmpty) then 1 else 0)),iC (by rw [vL]:([.live (.rowQ 72 4 (List.map yE (ini yK)) (!yK.isEmpty) (bF (lst yK)++[.own 8 ((lst yK).Xe).length])),Rb 52 6 (List.map yL (lst yK).Xe)]:List zR)=[.live (.rowQ 72 4 (List.map yE (ini yK)) (!yK.isEmpty) (bF (lst yK)++[.own 8 (List.map yL (lst yK).Xe).length])),Rb 52 6 (List.map yL (lst yK).Xe)])] [10,11] [] [4,5,6] [(3,.live (.fam (.cl zU false [.int .i64] (.nm 72 4 52 6) (List.map i5 (xC zC zB.Xb yK)))))] 9 (r0 [] [(31,Ii (zC8 zD))] ?_);exact ⟨_,sZ,_,_,rfl,h⟩
 refine sq ?_;refine wX (zJQ (ag:=false) (ks:=[.int .i64]) 3 4 [8] (HO zF) zk (ar ([.rawm zU]:List AV) (ac (zJT (f:=(AV.int .i64)) (g:=d8) zGp zF:∀ x∈List.map i5 zF,DZ x.2/\B3 4 6 x.2=true) (ac (zKG (f:=(AV.int .i64)) (g:=d8) (g2:=(fun l=>AV.sl false 4 (l.map yE))) zIV zF:(HO zF)=(List.map i5 zF).map fun x=>(x.1,fzV x.2)) an)))) ?_;refine w0 [0,1,2,4] [] [(2,Pp 0),(4,Pp 1),(8,.mp 3)] [(bA zN),oQ,oZ,(3,.live (.map false [.int .i64] (HO zF)))] (r2 [iH 2 { id:=4 }] [] [(12,Pp 4)] [] [(4,Vb 36 [.sl false 3 (Mp yZ zN.Xd),.sl false 2 (Mp yV zN.Xi),.sl false 5 (Mp yQ zN.Xl),.nilsl])] 5 ?_);refine wX (nR 4 3 5 72 4 zk) ?_;refine w0 [0,1,2,3,4,5] [] [(2,Pp 0),(4,Pp 1),(8,.mp 3),(12,Pp 4)] [(bA zN),oQ,oZ,(3,.live (.map false [.int .i64] (HO zF))),(4,Vb 36 [.sl false 3 (Mp yZ zN.Xd),.sl false 2 (Mp yV zN.Xi),.sl false 5 (Mp yQ zN.Xl),.own 5 0]),(5,Rb 72 4 [])] (sq (s2 [iN 2 yZ zN.Xd] [2] [(68,.sl false 3 (Mp yZ zN.Xd)),(69,Ii (lN zN.Xd)),(70,Ii 0)] [0] [] 6 (bE h fun yH vN h=>?_)));refine xG (mk [(4,Pp 0),(12,Pp 2)] [T0,(1,Rb 72 4 []),(2,Vb 36 [Sq 3 yZ zN.Xd,Sq 2 yV zN.Xi,Sq 5 yQ zN.Xl,.own 3 yH.length]),(3,Rb 72 4 (Mp yE yH))] 4) ?_ ?_
 ·replace h:=vN;refine ab 2 (w0 [1,2,3,4,5] [] _ _ (xW (fun n st=>∃ (zK:Int),∃ (zH:List zO),st=mk [(4,Pp 0),(8,.mp 2),(12,Pp 3),(68,.sl false 3 (Mp yZ zN.Xd)),(69,Ii (lN zN.Xd)),(70,Ii zK)] [T0,(1,Rb 72 4 []),(2,.live (.map false [.int .i64] (HO zF))),(3,Vb 36 [.sl false 3 (Mp yZ zN.Xd),.sl false 2 (Mp yV zN.Xi),.sl false 5 (Mp yQ zN.Xl),.own 4 zH.length]),(4,Rb 72 4 (Mp yE zH))] 5/\K6 F zN zF n zK zH=some yH) F zk ⟨_,_,rfl,h⟩ (fun _ ⟨_,_,_,h⟩=>xS h) ?_));rintro vY _ ⟨zK,zH,rfl,h⟩;rw [K6,TY] at h;refine s0 [] [(71,.bool (decide (zK<(lN zN.Xd))))] (sq (ch 71 h (fun uN h=>sk (sq (ab 3 (sq (bE h fun zI uK h=>r2 [iH 2 { id:=5 },iF 0 yZ uK] [] [(14,Pp 5)] [] [(5,Vb 69 (qV zI))] 6 (nE h fun tP h=>r2 [iH 5 { av:=(.sl false 4 (Mp yE ((zV zF zI.Id).getD ([]:List zO)))),b:=true,k:=(zV zF zI.Id).isSome,n:=4 },iC (tJ:wW prog 3 false [.int .i64]),iC (kB (f:=(AV.int .i64)) (g:=(fun l=>AV.sl false 4 (l.map yE))) t5 zF zI.Id ([]:List zO):u0 (HO zF) (Ii zI.Id) (.sl false 4 (Mp yE ([]:List zO))) (.sl false 4 (Mp yE ((zV zF zI.Id).getD ([]:List zO)))) (zV zF zI.Id).isSome),iM yE zH,iC trivial,iP 6 6 yE zH ((zV zF zI.Id).getD ([]:List zO)) 48 tP] [14] [] [4,5] [(3,Vb 36 [.sl false 3 (Mp yZ zN.Xd),.sl false 2 (Mp yV zN.Xi),.sl false 5 (Mp yQ zN.Xl),.own 6 (((zH++((zV zF zI.Id).getD ([]:List zO)))).length)]),(6,Rb 72 4 (Mp yE (zH++((zV zF zI.Id).getD ([]:List zO)))))] 7 (r0 [] [(70,Ii (zC8 zK))] ?_))))))) (fun _ h=>by cases h;exact ae 2 ⟨rfl,(sY [0,1,3,4])⟩)));exact ⟨_,(sY [0,1,2,3,6]),_,_,rfl,h⟩
 refine s2 [] [12] [(5,Ii 0)] [1,2] [(0,Vb 36 [Sq 3 yZ zN.Xd,Sq 2 yV zN.Xi,Sq 5 yQ zN.Xl,.own 3 yH.length])] 4 (wz [0] [3] [] [0] [(4,Pp 0),(5,Ii 0)] [(0,Vb 36 [Sq 3 yZ (((⟨zN,yH⟩:z6).Xc).Xd),Sq 2 yV (((⟨zN,yH⟩:z6).Xc).Xi),Sq 5 yQ (((⟨zN,yH⟩:z6).Xc).Xl),Sq 4 yE ((⟨zN,yH⟩:z6).Xa)])] (ar 36 (ar true (ac (sp:yH.length=((List.map yE yH)).length) (ar 3 (ar (Mp yZ zN.Xd) (ar true (ar 2 (ar (Mp yV zN.Xi) (ar true (ar 5 (ar (Mp yQ zN.Xl) (ar true (ar 4 (ar (Mp yE yH) (ar true an))))))))))))))) ?_);cases h;exact rt rx
theorem S3 (F:Nat) (s1_1:List wN) (s2_1:List wN) (r:Bool) (h:OD F s1_1 s2_1=some r):y9 prog 45 [] [] [Sq 3 yZ s1_1,Sq 3 yZ s2_1] [] (.bool r):=by
 refine tI Tryz.f45 ?_;unfold OD at h;refine sE [] [(0,Sq 3 yZ s1_1),(1,Sq 3 yZ s2_1)] [] 0 (sq (c0 [iN 1 yZ s1_1,iN 3 yZ s2_1] 10 h [] ?_ ?_))
 ·intro zM h;refine s1 [] [0,1] jP ?_;cases h;exact rt rx
 intro zM h;refine sk (sq (s0 [iN 1 yZ s1_1] [(12,Ii (lN s1_1)),(13,Ii 0)] (bE h fun zF zN h=>cv zF (fun q0=>mk [] [] 0) Tryz.f45 (fun q1=>[]) (fun q1=>.bool q1) ?_ ?_ (by rintro _ rfl _ hf;cases h;exact ⟨.inr rfl,hf⟩))))
 ·replace h:=zN;refine ab 0 (w0 [] [] _ _ (xW (fun n st=>∃ (zD:Int),st=mk [(0,Sq 3 yZ s1_1),(1,Sq 3 yZ s2_1),(12,Ii (lN s1_1)),(13,Ii zD)] [] 0/\RF F s1_1 s2_1 n zD=some zF) F zk ⟨_,rfl,h⟩ (fun _ ⟨_,_,h⟩=>xS h) ?_));rintro yD _ ⟨zD,rfl,h⟩;rw [RF,LB] at h;refine s0 [] [(14,.bool (decide (zD<(lN s1_1))))] (sq (ch 14 h (fun yU h=>sk (sq (ab 1 (s0 [] [(5,Ii zD)] (sq (bE h fun zB zW h=>bE h fun zI yP h=>r0 [iH 8 { b:=(decide (zB=zI)),mks:=[.int .i64,.str,.int .i64] },iF 2 yZ zW,iF 6 yZ yP,iC (zJV:bD prog 69 [.int .i64,.str,.int .i64]),iC (D5 (f:=yZ) zIL zB zI:((decide (zB=zI))=true↔AV.agg (qV zB)=AV.agg (qV zI)))] [(24,.bool (!(decide (zB=zI))))] (ch 24 h ?_ ?_))))))) (fun _ h=>by cases h;exact ae 0 ⟨rfl,sZ⟩)))
  rotate_left
  ·intro w9 h;refine sk (r0 [] [(13,Ii (zC8 zD))] ?_);exact ⟨_,sZ,_,rfl,h⟩
  intro w9 h;refine s1 [] [0,1] jP ?_;cases h;exact rt ry
 rintro z8 rfl;refine s0 [] [(4,.bool true)] ?_;cases h;exact rt rx
theorem zBn (F:Nat) (s1_1:List yW) (s2_1:List yW) (r:Bool) (h:NI F s1_1 s2_1=some r):y9 prog 46 [] [] [Sq 2 yV s1_1,Sq 2 yV s2_1] [] (.bool r):=by
 refine tI Tryz.f46 ?_;unfold NI at h;refine sE [] [(pG s1_1),(1,Sq 2 yV s2_1)] [] 0 (sq (c0 [iN 1 yV s1_1,iN 3 yV s2_1] 10 h [] ?_ ?_))
 ·intro zM h;refine s1 [] [0,1] jP ?_;cases h;exact rt rx
 intro zM h;refine sk (sq (s0 [iN 1 yV s1_1] [(12,Ii (lN s1_1)),(13,Ii 0)] (bE h fun zF zN h=>cv zF (fun q0=>mk [] [] 0) Tryz.f46 (fun q1=>[]) (fun q1=>.bool q1) ?_ ?_ (by rintro _ rfl _ hf;cases h;exact ⟨.inr rfl,hf⟩))))
 ·replace h:=zN;refine ab 0 (w0 [] [] _ _ (xW (fun n st=>∃ (zD:Int),st=mk [(pG s1_1),(1,Sq 2 yV s2_1),(12,Ii (lN s1_1)),(13,Ii zD)] [] 0/\MH F s1_1 s2_1 n zD=some zF) F zk ⟨_,rfl,h⟩ (fun _ ⟨_,_,h⟩=>xS h) ?_));rintro yD _ ⟨zD,rfl,h⟩;rw [MH,JV] at h;refine s0 [] [(14,.bool (decide (zD<(lN s1_1))))] (sq (ch 14 h (fun yU h=>sk (sq (ab 1 (s0 [] [(5,Ii zD)] (sq (bE h fun zB zW h=>bE h fun zI yP h=>r0 [iH 8 { b:=(decide (zB=zI)),mks:=zC4 },iF 2 yV zW,iF 6 yV yP,iC (zFF:bD prog 62 zC4),iC (D5 (f:=yV) zEk zB zI:((decide (zB=zI))=true↔AV.agg [Ii zB.Id,Ii zB.Xt]=AV.agg [Ii zI.Id,Ii zI.Xt]))] [(24,.bool (!(decide (zB=zI))))] (ch 24 h ?_ ?_))))))) (fun _ h=>by cases h;exact ae 0 ⟨rfl,sZ⟩)))
  rotate_left
  ·intro w9 h;refine sk (r0 [] [(13,Ii (zC8 zD))] ?_);exact ⟨_,sZ,_,rfl,h⟩
  intro w9 h;refine s1 [] [0,1] jP ?_;cases h;exact rt ry
 rintro z8 rfl;refine s0 [] [(4,.bool true)] ?_;cases h;exact rt rx
end Go.Ab
