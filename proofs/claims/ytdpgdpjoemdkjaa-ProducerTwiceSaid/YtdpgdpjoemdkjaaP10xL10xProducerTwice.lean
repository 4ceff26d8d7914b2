/- Printed: the typed Lean functions of the Go functions, or the proofs that the Go functions meet them. No conditions but those that the theorems name. -/
import Derived.Test.YtdpgdpjoemdkjaaP10x5
namespace Go.Ab
open Go
set_option linter.unusedVariables false
theorem zDZ (F:Nat) (y2:List (y3)) (r:Bool) (h:uT F y2=some r):zS prog 6 [] [] [.sl false 7 (Mp z0 y2)] [] (.bool r):=by
 refine yD (fn:=Go.Proofs.Try.f6) (code:=y5 Go.Proofs.Try.f6) (by kernel_rfl) (by kernel_rfl) (Nat.le_of_ble_eq_true (by kernel_rfl)) ?_
 unfold uT at h
 refine sr [] [0] [] 0 [.sl false 7 (Mp z0 y2)] [] zF an ?_
 refine sq ?_
 refine sq ?_
 obtain ⟨p_1,h_3,h⟩:=bind_some h
 refine yV (mk [(0,.sl false 7 (Mp z0 y2)),(20,.bool p_1)] [] 0) ?_ ?_
 ·replace h:=h_3
  obtain ⟨r_1,h_1,h⟩:=bind_some h
  rcases bft (!r_1) with zX | zX
  ·replace h:=zV zX h
   refine rg [(0,{ av:=.bool r_1,l:=[] }),(3,Hg),(4,Hg),(5,Hg),(6,Ht)] [0,20] [] 0 [.sl false 7 (Mp z0 y2),.bool true] [] zF (ar ([]:List AV) (ac (rfl:([]:List zU)=[]) (ac (zCG F r_1 h_1:zS prog 8 [] [] [] [] (.bool r_1)) (ac zX (ac zX (ac zX (ac zX an))))))) ?_
   cases h
   exact ⟨rfl,(sw [] [] [.s 0,.s 20] [] an)⟩
  ·replace h:=zW zX h
   obtain ⟨r_2,h_2,h⟩:=bind_some h
   refine rg [(0,{ av:=.bool r_1,l:=[] }),(4,{ av:=.bool r_2,l:=[.sl false 7 (Mp z0 y2)] }),(6,Hf)] [0,20] [] 0 [.sl false 7 (Mp z0 y2),.bool (!r_2)] [] zF (ar ([]:List AV) (ac (rfl:([]:List zU)=[]) (ac (zCG F r_1 h_1:zS prog 8 [] [] [] [] (.bool r_1)) (ac zX (ac zX (ar ([.sl false 7 (Mp z0 y2)]:List AV) (ac (rfl:([]:List zU)=[]) (ac (zLe F y2 r_2 h_2:zS prog 16 [] [] [.sl false 7 (Mp z0 y2)] [] (.bool r_2)) (ac zX (ac zX an)))))))))) ?_
   cases h
   exact ⟨rfl,(sw [] [] [.s 0,.s 20] [] an)⟩
 refine cd 20 p_1 ?_ ?_
 ·intro g_1;replace h:=zV g_1 h
  refine sq ?_
  obtain ⟨r_3,h_4,h⟩:=bind_some h
  refine rg [(0,{ av:=.bool r_3,l:=[] })] [2] [] 0 [.bool r_3] [] zF (ar ([]:List AV) (ac (rfl:([]:List zU)=[]) (ac (zCG F r_3 h_4:zS prog 8 [] [] [] [] (.bool r_3)) an))) ?_
  refine rt ?_
  cases h
  exact ⟨.inr rfl,Nat.le_of_ble_eq_true rfl,by kernel_rfl⟩
 intro g_1;replace h:=zW g_1 h
 refine sk ?_
 refine sq ?_
 obtain ⟨r_4,h_5,h⟩:=bind_some h
 refine rg [(1,{ av:=.tuple [zM r_4.1,Ii r_4.2],l:=[.agg [Ii 1,.str ([116]:List Int),Ii 0],Ii 200,Ii 1] }),(5,{ id:=0 })] [0,3] [0] 1 [.sl false 7 (Mp z0 y2),Pp 0] [Vb 32 (zK r_4.1)] zF (ar ([.agg [Ii 1,.str ([116]:List Int),Ii 0],Ii 200,Ii 1]:List AV) (ac (rfl:([]:List zU)=[]) (ac (v8 (args':=[xI (⟨(1:Int),([116]:List Int),(0:Int)⟩:zC),Ii 200,Ii 1]) (zBe F (⟨(1:Int),([116]:List Int),(0:Int)⟩:zC) (200:Int) (1:Int) r_4 h_5) rfl ⟨rfl,rfl,rfl,rfl,rfl,trivial⟩:zS prog 9 [] [] [.agg [Ii 1,.str ([116]:List Int),Ii 0],Ii 200,Ii 1] [] (.tuple [zM r_4.1,Ii r_4.2])) an))) ?_
 refine sq ?_
 refine sr [] [0,3,5] [0] 1 [.sl false 7 (Mp z0 y2),Pp 0,Ii 0] [Vb 32 (zK r_4.1)] zF an ?_
 obtain ⟨o_1,h_6,h⟩:=bind_some h
 refine yV (mk [(3,Pp 0)] [(0,Vb 32 [Ii o_1.1,.str o_1.2.1,Ii o_1.2.2.1,.sl false 1 (Ms o_1.2.2.2.1),.sl false 2 (Mp zD o_1.2.2.2.2.1),Ii o_1.2.2.2.2.2.1,.sl false 1 (Mb o_1.2.2.2.2.2.2.1),Ii o_1.2.2.2.2.2.2.2.1,Ii o_1.2.2.2.2.2.2.2.2.1,Ii o_1.2.2.2.2.2.2.2.2.2.1,Ii o_1.2.2.2.2.2.2.2.2.2.2.1,Ii o_1.2.2.2.2.2.2.2.2.2.2.2.1,Ii o_1.2.2.2.2.2.2.2.2.2.2.2.2])] 1) ?_ ?_
 ·replace h:=h_6
  refine yN (id:=0) (by kernel_rfl) ?_
  refine wk [0] [] [.s 0,.s 3,.s 5] [.s 0] [(0,.sl false 7 (Mp z0 y2)),(3,Pp 0),(5,Ii 0)] [(0,Vb 32 (zK r_4.1))] an ?_
  refine wH (fun n st=>∃ (i_1:Int),∃ (c_1:Int),∃ (c_2:List Int),∃ (c_3:Int),∃ (c_4:List (List Int)),∃ (c_5:List zJ),∃ (c_6:Int),∃ (c_7:List Int),∃ (c_8:Int),∃ (c_9:Int),∃ (xY:Int),∃ (xZ:Int),∃ (x3:Int),∃ (x4:Int),st=mk [(0,.sl false 7 (Mp z0 y2)),(3,Pp 0),(5,Ii i_1)] [(0,Vb 32 [Ii c_1,.str c_2,Ii c_3,.sl false 1 (Ms c_4),.sl false 2 (Mp zD c_5),Ii c_6,.sl false 1 (Mb c_7),Ii c_8,Ii c_9,Ii xY,Ii xZ,Ii x3,Ii x4])] 1∧uM F y2 n i_1 c_1 c_2 c_3 c_4 c_5 c_6 c_7 c_8 c_9 xY xZ x3 x4=some o_1) F (by kernel_rfl) ⟨_,_,_,_,_,_,_,_,_,_,_,_,_,_,rfl,h⟩ ?_ ?_
  ·rintro _ ⟨_,_,_,_,_,_,_,_,_,_,_,_,_,_,_,h⟩;exact w5 (h:(none:Option (Int×(List Int)×Int×(List (List Int))×(List zJ)×Int×(List Int)×Int×Int×Int×Int×Int×Int))=some o_1)
  rintro n_1 _ ⟨i_1,c_1,c_2,c_3,c_4,c_5,c_6,c_7,c_8,c_9,xY,xZ,x3,x4,rfl,h⟩
  replace h:uA F y2 (uM F y2 n_1) i_1 c_1 c_2 c_3 c_4 c_5 c_6 c_7 c_8 c_9 xY xZ x3 x4=some o_1:=h
  unfold uA at h
  refine sq ?_
  refine sr [(2,{ n:=(y2).length })] [0,3,5,30] [0] 1 [.sl false 7 (Mp z0 y2),Pp 0,Ii i_1,.bool (decide (i_1<(lN (y2))))] [Vb 32 [Ii c_1,.str c_2,Ii c_3,.sl false 1 (Ms c_4),.sl false 2 (Mp zD c_5),Ii c_6,.sl false 1 (Mb c_7),Ii c_8,Ii c_9,Ii xY,Ii xZ,Ii x3,Ii x4]] zF (ac (yO _:((Mp z0 y2)).length=(y2).length) an) ?_
  refine cd 30 (decide (i_1<(lN (y2)))) ?_ ?_
  rotate_left
  ·intro g_2;replace h:=zW g_2 h
   refine wS (id:=0) (by kernel_rfl) ?_
   cases h
   exact ⟨rfl,(sw [0] [] [.s 3] [.s 0] an)⟩
  intro g_2;replace h:=zV g_2 h
  refine sk ?_
  refine sq ?_
  obtain ⟨o_2,h_7,h⟩:=bind_some h
  refine yV (mk [(0,.sl false 7 (Mp z0 y2)),(3,Pp 0),(5,Ii i_1)] [(0,Vb 32 [Ii o_2.1,.str o_2.2.1,Ii o_2.2.2.1,.sl false 1 (Ms o_2.2.2.2.1),.sl false 2 (Mp zD o_2.2.2.2.2.1),Ii o_2.2.2.2.2.2.1,.sl false 1 (Mb o_2.2.2.2.2.2.2.1),Ii o_2.2.2.2.2.2.2.2.1,Ii o_2.2.2.2.2.2.2.2.2.1,Ii o_2.2.2.2.2.2.2.2.2.2.1,Ii o_2.2.2.2.2.2.2.2.2.2.2.1,Ii o_2.2.2.2.2.2.2.2.2.2.2.2.1,Ii o_2.2.2.2.2.2.2.2.2.2.2.2.2])] 1) ?_ ?_
  ·replace h:=h_7
   refine yN (id:=1) (by kernel_rfl) ?_
   refine sq ?_
   obtain ⟨x_1,h_8,h⟩:=bind_some h
   obtain ⟨r_5,h_9,h⟩:=bind_some h
   refine rg [(3,{ av:=z0 x_1 }),(6,{ av:=.tuple [zM r_5.1,Ii r_5.2],l:=[.agg [Ii c_1,.str c_2,Ii c_3,.sl false 1 (Ms c_4),.sl false 2 (Mp zD c_5),Ii c_6,.sl false 1 (Mb c_7),Ii c_8,Ii c_9,Ii xY,Ii xZ,Ii x3,Ii x4],zN x_1.E] }),(10,{ id:=1 })] [0,3,5,6,7] [0,1] 2 [.sl false 7 (Mp z0 y2),Pp 0,Ii i_1,Pp 1,Ii r_5.2] [Vb 32 [Ii c_1,.str c_2,Ii c_3,.sl false 1 (Ms c_4),.sl false 2 (Mp zD c_5),Ii c_6,.sl false 1 (Mb c_7),Ii c_8,Ii c_9,Ii xY,Ii xZ,Ii x3,Ii x4],Vb 32 (zK r_5.1)] zF (ac (tJ h_8:jA (Mp z0 y2) i_1=some (z0 x_1)) (ar ([.agg [Ii c_1,.str c_2,Ii c_3,.sl false 1 (Ms c_4),.sl false 2 (Mp zD c_5),Ii c_6,.sl false 1 (Mb c_7),Ii c_8,Ii c_9,Ii xY,Ii xZ,Ii x3,Ii x4],zN x_1.E]:List AV) (ac (rfl:([]:List zU)=[]) (ac (v8 (args':=[.agg [Ii (((⟨(⟨c_1,c_2,c_3⟩:zC),c_4,c_5,(⟨c_6,c_7,c_8,c_9,xY,xZ⟩:zB),x3,x4⟩:zA).Thread).Id),.str (((⟨(⟨c_1,c_2,c_3⟩:zC),c_4,c_5,(⟨c_6,c_7,c_8,c_9,xY,xZ⟩:zB),x3,x4⟩:zA).Thread).Name),Ii (((⟨(⟨c_1,c_2,c_3⟩:zC),c_4,c_5,(⟨c_6,c_7,c_8,c_9,xY,xZ⟩:zB),x3,x4⟩:zA).Thread).Domain),.sl false 1 (Ms ((⟨(⟨c_1,c_2,c_3⟩:zC),c_4,c_5,(⟨c_6,c_7,c_8,c_9,xY,xZ⟩:zB),x3,x4⟩:zA).Names)),.sl false 2 (Mp zD ((⟨(⟨c_1,c_2,c_3⟩:zC),c_4,c_5,(⟨c_6,c_7,c_8,c_9,xY,xZ⟩:zB),x3,x4⟩:zA).Stacks)),Ii (((⟨(⟨c_1,c_2,c_3⟩:zC),c_4,c_5,(⟨c_6,c_7,c_8,c_9,xY,xZ⟩:zB),x3,x4⟩:zA).Ring).Policy),.sl false 1 (Mb (((⟨(⟨c_1,c_2,c_3⟩:zC),c_4,c_5,(⟨c_6,c_7,c_8,c_9,xY,xZ⟩:zB),x3,x4⟩:zA).Ring).Data)),Ii (((⟨(⟨c_1,c_2,c_3⟩:zC),c_4,c_5,(⟨c_6,c_7,c_8,c_9,xY,xZ⟩:zB),x3,x4⟩:zA).Ring).Start),Ii (((⟨(⟨c_1,c_2,c_3⟩:zC),c_4,c_5,(⟨c_6,c_7,c_8,c_9,xY,xZ⟩:zB),x3,x4⟩:zA).Ring).End),Ii (((⟨(⟨c_1,c_2,c_3⟩:zC),c_4,c_5,(⟨c_6,c_7,c_8,c_9,xY,xZ⟩:zB),x3,x4⟩:zA).Ring).First),Ii (((⟨(⟨c_1,c_2,c_3⟩:zC),c_4,c_5,(⟨c_6,c_7,c_8,c_9,xY,xZ⟩:zB),x3,x4⟩:zA).Ring).Next),Ii ((⟨(⟨c_1,c_2,c_3⟩:zC),c_4,c_5,(⟨c_6,c_7,c_8,c_9,xY,xZ⟩:zB),x3,x4⟩:zA).Last),Ii ((⟨(⟨c_1,c_2,c_3⟩:zC),c_4,c_5,(⟨c_6,c_7,c_8,c_9,xY,xZ⟩:zB),x3,x4⟩:zA).Sent)],zN x_1.E]) (tW F (⟨(⟨c_1,c_2,c_3⟩:zC),c_4,c_5,(⟨c_6,c_7,c_8,c_9,xY,xZ⟩:zB),x3,x4⟩:zA) x_1.E r_5 h_9) rfl ⟨rfl,rfl,rfl,rfl,rfl,rfl,rfl,rfl,rfl,rfl,rfl,rfl,rfl,rfl,rfl,rfl,rfl,rfl,rfl,rfl,rfl,rfl,rfl,rfl,rfl,rfl,rfl,trivial⟩:zS prog 21 [] [] [.agg [Ii c_1,.str c_2,Ii c_3,.sl false 1 (Ms c_4),.sl false 2 (Mp zD c_5),Ii c_6,.sl false 1 (Mb c_7),Ii c_8,Ii c_9,Ii xY,Ii xZ,Ii x3,Ii x4],zN x_1.E] [] (.tuple [zM r_5.1,Ii r_5.2])) an)))) ?_
   refine sr [] [0,3,5,6,44] [0,1] 2 [.sl false 7 (Mp z0 y2),Pp 0,Ii i_1,Pp 1,.bool (r_5.2==(0:Int))] [Vb 32 [Ii c_1,.str c_2,Ii c_3,.sl false 1 (Ms c_4),.sl false 2 (Mp zD c_5),Ii c_6,.sl false 1 (Mb c_7),Ii c_8,Ii c_9,Ii xY,Ii xZ,Ii x3,Ii x4],Vb 32 (zK r_5.1)] zF an ?_
   refine cd 44 (r_5.2==(0:Int)) ?_ ?_
   ·intro g_3;replace h:=zV g_3 h
    refine rg [] [0,3,5] [0] 2 [.sl false 7 (Mp z0 y2),Pp 0,Ii i_1] [Vb 32 (zK r_5.1)] zF an ?_
    cases h
    exact ⟨rfl,(sw [0] [] [.s 0,.s 3,.s 5] [.s 0] an)⟩
   intro g_3;replace h:=zW g_3 h
   refine sk ?_
   cases h
   exact ⟨rfl,(sw [0] [] [.s 0,.s 3,.s 5] [.s 0] an)⟩
  refine rg [] [0,3,5] [0] 1 [.sl false 7 (Mp z0 y2),Pp 0,Ii (zG (i_1+(1:Int)))] [Vb 32 [Ii o_2.1,.str o_2.2.1,Ii o_2.2.2.1,.sl false 1 (Ms o_2.2.2.2.1),.sl false 2 (Mp zD o_2.2.2.2.2.1),Ii o_2.2.2.2.2.2.1,.sl false 1 (Mb o_2.2.2.2.2.2.2.1),Ii o_2.2.2.2.2.2.2.2.1,Ii o_2.2.2.2.2.2.2.2.2.1,Ii o_2.2.2.2.2.2.2.2.2.2.1,Ii o_2.2.2.2.2.2.2.2.2.2.2.1,Ii o_2.2.2.2.2.2.2.2.2.2.2.2.1,Ii o_2.2.2.2.2.2.2.2.2.2.2.2.2]] zF an ?_
  exact ⟨_,(sw [0] [] [.s 0,.s 3,.s 5] [.s 0] an),_,_,_,_,_,_,_,_,_,_,_,_,_,_,rfl,h⟩
 refine sq ?_
 refine sr [(2,{ n:=(o_1.2.2.2.1).length })] [3,49] [0] 1 [Pp 0,.bool (decide ((lN (o_1.2.2.2.1))≥(1000:Int)))] [Vb 32 [Ii o_1.1,.str o_1.2.1,Ii o_1.2.2.1,.sl false 1 (Ms o_1.2.2.2.1),.sl false 2 (Mp zD o_1.2.2.2.2.1),Ii o_1.2.2.2.2.2.1,.sl false 1 (Mb o_1.2.2.2.2.2.2.1),Ii o_1.2.2.2.2.2.2.2.1,Ii o_1.2.2.2.2.2.2.2.2.1,Ii o_1.2.2.2.2.2.2.2.2.2.1,Ii o_1.2.2.2.2.2.2.2.2.2.2.1,Ii o_1.2.2.2.2.2.2.2.2.2.2.2.1,Ii o_1.2.2.2.2.2.2.2.2.2.2.2.2]] zF (ac (yO _:((Ms o_1.2.2.2.1)).length=(o_1.2.2.2.1).length) an) ?_
 refine cd 49 (decide ((lN (o_1.2.2.2.1))≥(1000:Int))) ?_ ?_
 ·intro g_4;replace h:=zV g_4 h
  refine sr [] [2] [] 1 [.bool true] [] zF an ?_
  refine rt ?_
  cases h
  exact ⟨.inr rfl,Nat.le_of_ble_eq_true rfl,by kernel_rfl⟩
 intro g_4;replace h:=zW g_4 h
 refine sk ?_
 refine sr [] [3,8] [0] 1 [Pp 0,Ii o_1.2.2.2.2.2.2.2.2.2.2.1] [Vb 32 [Ii o_1.1,.str o_1.2.1,Ii o_1.2.2.1,.sl false 1 (Ms o_1.2.2.2.1),.sl false 2 (Mp zD o_1.2.2.2.2.1),Ii o_1.2.2.2.2.2.1,.sl false 1 (Mb o_1.2.2.2.2.2.2.1),Ii o_1.2.2.2.2.2.2.2.1,Ii o_1.2.2.2.2.2.2.2.2.1,Ii o_1.2.2.2.2.2.2.2.2.2.1,Ii o_1.2.2.2.2.2.2.2.2.2.2.1,Ii o_1.2.2.2.2.2.2.2.2.2.2.2.1,Ii o_1.2.2.2.2.2.2.2.2.2.2.2.2]] zF an ?_
 refine sq ?_
 obtain ⟨r_6,kX,h⟩:=bind_some h
 refine rg [(1,{ av:=.tuple [.own 0 ((r_6.1).length),zM r_6.2],ids:=[1],l:=[.agg [Ii o_1.1,.str o_1.2.1,Ii o_1.2.2.1,.sl false 1 (Ms o_1.2.2.2.1),.sl false 2 (Mp zD o_1.2.2.2.2.1),Ii o_1.2.2.2.2.2.1,.sl false 1 (Mb o_1.2.2.2.2.2.2.1),Ii o_1.2.2.2.2.2.2.2.1,Ii o_1.2.2.2.2.2.2.2.2.1,Ii o_1.2.2.2.2.2.2.2.2.2.1,Ii o_1.2.2.2.2.2.2.2.2.2.2.1,Ii o_1.2.2.2.2.2.2.2.2.2.2.2.1,Ii o_1.2.2.2.2.2.2.2.2.2.2.2.2]],post:=[(.row 59 4 (Mp zO r_6.1))] })] [3,8] [0] 2 [Pp 0,Ii o_1.2.2.2.2.2.2.2.2.2.2.1] [Vb 32 (zK r_6.2)] zF (ar ([.agg [Ii o_1.1,.str o_1.2.1,Ii o_1.2.2.1,.sl false 1 (Ms o_1.2.2.2.1),.sl false 2 (Mp zD o_1.2.2.2.2.1),Ii o_1.2.2.2.2.2.1,.sl false 1 (Mb o_1.2.2.2.2.2.2.1),Ii o_1.2.2.2.2.2.2.2.1,Ii o_1.2.2.2.2.2.2.2.2.1,Ii o_1.2.2.2.2.2.2.2.2.2.1,Ii o_1.2.2.2.2.2.2.2.2.2.2.1,Ii o_1.2.2.2.2.2.2.2.2.2.2.2.1,Ii o_1.2.2.2.2.2.2.2.2.2.2.2.2]]:List AV) (ac (rfl:([]:List zU)=[]) (ac (v8 (args':=[.agg [Ii (((⟨(⟨o_1.1,o_1.2.1,o_1.2.2.1⟩:zC),o_1.2.2.2.1,o_1.2.2.2.2.1,(⟨o_1.2.2.2.2.2.1,o_1.2.2.2.2.2.2.1,o_1.2.2.2.2.2.2.2.1,o_1.2.2.2.2.2.2.2.2.1,o_1.2.2.2.2.2.2.2.2.2.1,o_1.2.2.2.2.2.2.2.2.2.2.1⟩:zB),o_1.2.2.2.2.2.2.2.2.2.2.2.1,o_1.2.2.2.2.2.2.2.2.2.2.2.2⟩:zA).Thread).Id),.str (((⟨(⟨o_1.1,o_1.2.1,o_1.2.2.1⟩:zC),o_1.2.2.2.1,o_1.2.2.2.2.1,(⟨o_1.2.2.2.2.2.1,o_1.2.2.2.2.2.2.1,o_1.2.2.2.2.2.2.2.1,o_1.2.2.2.2.2.2.2.2.1,o_1.2.2.2.2.2.2.2.2.2.1,o_1.2.2.2.2.2.2.2.2.2.2.1⟩:zB),o_1.2.2.2.2.2.2.2.2.2.2.2.1,o_1.2.2.2.2.2.2.2.2.2.2.2.2⟩:zA).Thread).Name),Ii (((⟨(⟨o_1.1,o_1.2.1,o_1.2.2.1⟩:zC),o_1.2.2.2.1,o_1.2.2.2.2.1,(⟨o_1.2.2.2.2.2.1,o_1.2.2.2.2.2.2.1,o_1.2.2.2.2.2.2.2.1,o_1.2.2.2.2.2.2.2.2.1,o_1.2.2.2.2.2.2.2.2.2.1,o_1.2.2.2.2.2.2.2.2.2.2.1⟩:zB),o_1.2.2.2.2.2.2.2.2.2.2.2.1,o_1.2.2.2.2.2.2.2.2.2.2.2.2⟩:zA).Thread).Domain),.sl false 1 (Ms ((⟨(⟨o_1.1,o_1.2.1,o_1.2.2.1⟩:zC),o_1.2.2.2.1,o_1.2.2.2.2.1,(⟨o_1.2.2.2.2.2.1,o_1.2.2.2.2.2.2.1,o_1.2.2.2.2.2.2.2.1,o_1.2.2.2.2.2.2.2.2.1,o_1.2.2.2.2.2.2.2.2.2.1,o_1.2.2.2.2.2.2.2.2.2.2.1⟩:zB),o_1.2.2.2.2.2.2.2.2.2.2.2.1,o_1.2.2.2.2.2.2.2.2.2.2.2.2⟩:zA).Names)),.sl false 2 (Mp zD ((⟨(⟨o_1.1,o_1.2.1,o_1.2.2.1⟩:zC),o_1.2.2.2.1,o_1.2.2.2.2.1,(⟨o_1.2.2.2.2.2.1,o_1.2.2.2.2.2.2.1,o_1.2.2.2.2.2.2.2.1,o_1.2.2.2.2.2.2.2.2.1,o_1.2.2.2.2.2.2.2.2.2.1,o_1.2.2.2.2.2.2.2.2.2.2.1⟩:zB),o_1.2.2.2.2.2.2.2.2.2.2.2.1,o_1.2.2.2.2.2.2.2.2.2.2.2.2⟩:zA).Stacks)),Ii (((⟨(⟨o_1.1,o_1.2.1,o_1.2.2.1⟩:zC),o_1.2.2.2.1,o_1.2.2.2.2.1,(⟨o_1.2.2.2.2.2.1,o_1.2.2.2.2.2.2.1,o_1.2.2.2.2.2.2.2.1,o_1.2.2.2.2.2.2.2.2.1,o_1.2.2.2.2.2.2.2.2.2.1,o_1.2.2.2.2.2.2.2.2.2.2.1⟩:zB),o_1.2.2.2.2.2.2.2.2.2.2.2.1,o_1.2.2.2.2.2.2.2.2.2.2.2.2⟩:zA).Ring).Policy),.sl false 1 (Mb (((⟨(⟨o_1.1,o_1.2.1,o_1.2.2.1⟩:zC),o_1.2.2.2.1,o_1.2.2.2.2.1,(⟨o_1.2.2.2.2.2.1,o_1.2.2.2.2.2.2.1,o_1.2.2.2.2.2.2.2.1,o_1.2.2.2.2.2.2.2.2.1,o_1.2.2.2.2.2.2.2.2.2.1,o_1.2.2.2.2.2.2.2.2.2.2.1⟩:zB),o_1.2.2.2.2.2.2.2.2.2.2.2.1,o_1.2.2.2.2.2.2.2.2.2.2.2.2⟩:zA).Ring).Data)),Ii (((⟨(⟨o_1.1,o_1.2.1,o_1.2.2.1⟩:zC),o_1.2.2.2.1,o_1.2.2.2.2.1,(⟨o_1.2.2.2.2.2.1,o_1.2.2.2.2.2.2.1,o_1.2.2.2.2.2.2.2.1,o_1.2.2.2.2.2.2.2.2.1,o_1.2.2.2.2.2.2.2.2.2.1,o_1.2.2.2.2.2.2.2.2.2.2.1⟩:zB),o_1.2.2.2.2.2.2.2.2.2.2.2.1,o_1.2.2.2.2.2.2.2.2.2.2.2.2⟩:zA).Ring).Start),Ii (((⟨(⟨o_1.1,o_1.2.1,o_1.2.2.1⟩:zC),o_1.2.2.2.1,o_1.2.2.2.2.1,(⟨o_1.2.2.2.2.2.1,o_1.2.2.2.2.2.2.1,o_1.2.2.2.2.2.2.2.1,o_1.2.2.2.2.2.2.2.2.1,o_1.2.2.2.2.2.2.2.2.2.1,o_1.2.2.2.2.2.2.2.2.2.2.1⟩:zB),o_1.2.2.2.2.2.2.2.2.2.2.2.1,o_1.2.2.2.2.2.2.2.2.2.2.2.2⟩:zA).Ring).End),Ii (((⟨(⟨o_1.1,o_1.2.1,o_1.2.2.1⟩:zC),o_1.2.2.2.1,o_1.2.2.2.2.1,(⟨o_1.2.2.2.2.2.1,o_1.2.2.2.2.2.2.1,o_1.2.2.2.2.2.2.2.1,o_1.2.2.2.2.2.2.2.2.1,o_1.2.2.2.2.2.2.2.2.2.1,o_1.2.2.2.2.2.2.2.2.2.2.1⟩:zB),o_1.2.2.2.2.2.2.2.2.2.2.2.1,o_1.2.2.2.2.2.2.2.2.2.2.2.2⟩:zA).Ring).First),Ii (((⟨(⟨o_1.1,o_1.2.1,o_1.2.2.1⟩:zC),o_1.2.2.2.1,o_1.2.2.2.2.1,(⟨o_1.2.2.2.2.2.1,o_1.2.2.2.2.2.2.1,o_1.2.2.2.2.2.2.2.1,o_1.2.2.2.2.2.2.2.2.1,o_1.2.2.2.2.2.2.2.2.2.1,o_1.2.2.2.2.2.2.2.2.2.2.1⟩:zB),o_1.2.2.2.2.2.2.2.2.2.2.2.1,o_1.2.2.2.2.2.2.2.2.2.2.2.2⟩:zA).Ring).Next),Ii ((⟨(⟨o_1.1,o_1.2.1,o_1.2.2.1⟩:zC),o_1.2.2.2.1,o_1.2.2.2.2.1,(⟨o_1.2.2.2.2.2.1,o_1.2.2.2.2.2.2.1,o_1.2.2.2.2.2.2.2.1,o_1.2.2.2.2.2.2.2.2.1,o_1.2.2.2.2.2.2.2.2.2.1,o_1.2.2.2.2.2.2.2.2.2.2.1⟩:zB),o_1.2.2.2.2.2.2.2.2.2.2.2.1,o_1.2.2.2.2.2.2.2.2.2.2.2.2⟩:zA).Last),Ii ((⟨(⟨o_1.1,o_1.2.1,o_1.2.2.1⟩:zC),o_1.2.2.2.1,o_1.2.2.2.2.1,(⟨o_1.2.2.2.2.2.1,o_1.2.2.2.2.2.2.1,o_1.2.2.2.2.2.2.2.1,o_1.2.2.2.2.2.2.2.2.1,o_1.2.2.2.2.2.2.2.2.2.1,o_1.2.2.2.2.2.2.2.2.2.2.1⟩:zB),o_1.2.2.2.2.2.2.2.2.2.2.2.1,o_1.2.2.2.2.2.2.2.2.2.2.2.2⟩:zA).Sent)]]) (jP F (⟨(⟨o_1.1,o_1.2.1,o_1.2.2.1⟩:zC),o_1.2.2.2.1,o_1.2.2.2.2.1,(⟨o_1.2.2.2.2.2.1,o_1.2.2.2.2.2.2.1,o_1.2.2.2.2.2.2.2.1,o_1.2.2.2.2.2.2.2.2.1,o_1.2.2.2.2.2.2.2.2.2.1,o_1.2.2.2.2.2.2.2.2.2.2.1⟩:zB),o_1.2.2.2.2.2.2.2.2.2.2.2.1,o_1.2.2.2.2.2.2.2.2.2.2.2.2⟩:zA) r_6 kX) rfl ⟨rfl,rfl,rfl,rfl,rfl,rfl,rfl,rfl,rfl,rfl,rfl,rfl,rfl,rfl,rfl,rfl,rfl,rfl,rfl,trivial⟩:zS prog 17 [] [] [.agg [Ii o_1.1,.str o_1.2.1,Ii o_1.2.2.1,.sl false 1 (Ms o_1.2.2.2.1),.sl false 2 (Mp zD o_1.2.2.2.2.1),Ii o_1.2.2.2.2.2.1,.sl false 1 (Mb o_1.2.2.2.2.2.2.1),Ii o_1.2.2.2.2.2.2.2.1,Ii o_1.2.2.2.2.2.2.2.2.1,Ii o_1.2.2.2.2.2.2.2.2.2.1,Ii o_1.2.2.2.2.2.2.2.2.2.2.1,Ii o_1.2.2.2.2.2.2.2.2.2.2.2.1,Ii o_1.2.2.2.2.2.2.2.2.2.2.2.2]] [(.row 59 4 (Mp zO r_6.1))] (.tuple [.own 0 ((r_6.1).length),zM r_6.2])) an))) ?_
 refine sq ?_
 obtain ⟨r_7,kC,h⟩:=bind_some h
 refine rg [(1,{ av:=.tuple [.own 0 ((r_7.1).length),zM r_7.2],ids:=[2],l:=[zM r_6.2],post:=[(.row 59 4 (Mp zO r_7.1))] }),(5,{ id:=3 })] [3,8,9,10] [0,2,3] 4 [Pp 0,Ii o_1.2.2.2.2.2.2.2.2.2.2.1,.own 2 ((r_7.1).length),Pp 3] [Vb 32 (zK r_6.2),Rb 59 4 (Mp zO r_7.1),Vb 32 (zK r_7.2)] zF (ar ([zM r_6.2]:List AV) (ac (rfl:([]:List zU)=[]) (ac (jP F r_6.2 r_7 kC:zS prog 17 [] [] [zM r_6.2] [(.row 59 4 (Mp zO r_7.1))] (.tuple [.own 0 ((r_7.1).length),zM r_7.2])) an))) ?_
 refine sq ?_
 refine sq ?_
 obtain ⟨p_2,qT,h⟩:=bind_some h
 refine yV (mk [(3,Pp 0),(8,Ii o_1.2.2.2.2.2.2.2.2.2.2.1),(10,Pp 1),(81,.bool p_2)] [(0,Vb 32 (zK r_6.2)),(1,Vb 32 (zK r_7.2))] 2) ?_ ?_
 ·replace h:=qT
  rcases bft ((lN (r_7.1)) != (0:Int)) with zQ | zQ
  ·replace h:=zV zQ h
   refine rg [(4,Hg),(5,Hg),(6,Hg),(7,Hg),(8,Ht),(10,Hg),(11,Hg),(12,Hg),(13,Ht),(15,Hg),(16,Hg),(17,Hg),(18,Ht)] [3,8,10,81] [0,3] 4 [Pp 0,Ii o_1.2.2.2.2.2.2.2.2.2.2.1,Pp 3,.bool true] [Vb 32 (zK r_6.2),Vb 32 (zK r_7.2)] zF (ac zQ (ac zQ (ac zQ (ac zQ (ac zQ (ax (ax (ax (ar true (ax (ax (ax (ar true an))))))))))))) ?_
   cases h
   exact ⟨rfl,(sw [0,3] [] [.s 3,.s 8,.s 10,.s 81] [.s 0,.s 1] an)⟩
  ·replace h:=zW zQ h
   obtain ⟨r_8,zAh,h⟩:=bind_some h
   rcases bft (!r_8) with zY | zY
   ·replace h:=zV zY h
    refine rg [(6,{ av:=.bool r_8,l:=[zM r_6.2,zM r_7.2] }),(8,Hf),(10,Hg),(11,Hg),(12,Hg),(13,Ht),(15,Hg),(16,Hg),(17,Hg),(18,Ht)] [3,8,10,81] [0,3] 4 [Pp 0,Ii o_1.2.2.2.2.2.2.2.2.2.2.1,Pp 3,.bool true] [Vb 32 (zK r_6.2),Vb 32 (zK r_7.2)] zF (ac zQ (ac zQ (ac zQ (ar ([zM r_6.2,zM r_7.2]:List AV) (ac (rfl:([]:List zU)=[]) (ac (zC3 F r_6.2 r_7.2 r_8 zAh:zS prog 13 [] [] [zM r_6.2,zM r_7.2] [] (.bool r_8)) (ac zQ (ac zQ (ac zY (ac zY (ac zY (ac zY (ax (ax (ax (ar true an)))))))))))))))) ?_
    cases h
    exact ⟨rfl,(sw [0,3] [] [.s 3,.s 8,.s 10,.s 81] [.s 0,.s 1] an)⟩
   ·replace h:=zW zY h
    obtain ⟨r_9,zBF,h⟩:=bind_some h
    rcases bft (r_9 != (0:Int)) with z8 | z8
    ·replace h:=zV z8 h
     refine rg [(6,{ av:=.bool r_8,l:=[zM r_6.2,zM r_7.2] }),(8,Hf),(11,{ av:=Ii r_9,l:=[zM r_6.2] }),(13,Hf),(15,Hg),(16,Hg),(17,Hg),(18,Ht)] [3,8,10,81] [0,3] 4 [Pp 0,Ii o_1.2.2.2.2.2.2.2.2.2.2.1,Pp 3,.bool true] [Vb 32 (zK r_6.2),Vb 32 (zK r_7.2)] zF (ac zQ (ac zQ (ac zQ (ar ([zM r_6.2,zM r_7.2]:List AV) (ac (rfl:([]:List zU)=[]) (ac (zC3 F r_6.2 r_7.2 r_8 zAh:zS prog 13 [] [] [zM r_6.2,zM r_7.2] [] (.bool r_8)) (ac zQ (ac zQ (ac zY (ac zY (ar ([zM r_6.2]:List AV) (ac (rfl:([]:List zU)=[]) (ac (w3 F r_6.2 r_9 zBF:zS prog 15 [] [] [zM r_6.2] [] (Ii r_9)) (ac zY (ac zY (ac z8 (ac z8 (ac z8 (ac z8 an))))))))))))))))))) ?_
     cases h
     exact ⟨rfl,(sw [0,3] [] [.s 3,.s 8,.s 10,.s 81] [.s 0,.s 1] an)⟩
    ·replace h:=zW z8 h
     obtain ⟨yQ,kD,h⟩:=bind_some h
     refine rg [(6,{ av:=.bool r_8,l:=[zM r_6.2,zM r_7.2] }),(8,Hf),(11,{ av:=Ii r_9,l:=[zM r_6.2] }),(13,Hf),(16,{ av:=Ii yQ,l:=[zM r_6.2] }),(18,Hf)] [3,8,10,81] [0,3] 4 [Pp 0,Ii o_1.2.2.2.2.2.2.2.2.2.2.1,Pp 3,.bool (yQ != (0:Int))] [Vb 32 (zK r_6.2),Vb 32 (zK r_7.2)] zF (ac zQ (ac zQ (ac zQ (ar ([zM r_6.2,zM r_7.2]:List AV) (ac (rfl:([]:List zU)=[]) (ac (zC3 F r_6.2 r_7.2 r_8 zAh:zS prog 13 [] [] [zM r_6.2,zM r_7.2] [] (.bool r_8)) (ac zQ (ac zQ (ac zY (ac zY (ar ([zM r_6.2]:List AV) (ac (rfl:([]:List zU)=[]) (ac (w3 F r_6.2 r_9 zBF:zS prog 15 [] [] [zM r_6.2] [] (Ii r_9)) (ac zY (ac zY (ac z8 (ac z8 (ar ([zM r_6.2]:List AV) (ac (rfl:([]:List zU)=[]) (ac (zAA F r_6.2 yQ kD:zS prog 14 [] [] [zM r_6.2] [] (Ii yQ)) (ac z8 (ac z8 an)))))))))))))))))))))) ?_
     cases h
     exact ⟨rfl,(sw [0,3] [] [.s 3,.s 8,.s 10,.s 81] [.s 0,.s 1] an)⟩
 refine cd 81 p_2 ?_ ?_
 ·intro g_5;replace h:=zV g_5 h
  refine sr [] [2] [] 2 [.bool false] [] zF an ?_
  refine rt ?_
  cases h
  exact ⟨.inr rfl,Nat.le_of_ble_eq_true rfl,by kernel_rfl⟩
 intro g_5;replace h:=zW g_5 h
 refine sk ?_
 refine sq ?_
 obtain ⟨y1,kE,h⟩:=bind_some h
 refine rg [(2,{ av:=.tuple [zM y1.1,Ii y1.2],l:=[zM r_6.2,.agg [Ii 1000000000000,Ii 2,.str ([]:List Int),Ii 0,Ii 0,.nilsl]] })] [8,10,11] [1] 2 [Ii o_1.2.2.2.2.2.2.2.2.2.2.1,Pp 1,Ii y1.2] [Vb 32 (zK y1.1)] zF (ar ([zM r_6.2,.agg [Ii 1000000000000,Ii 2,.str ([]:List Int),Ii 0,Ii 0,.nilsl]]:List AV) (ac (rfl:([]:List zU)=[]) (ac (v8 (args':=[zM r_6.2,zN (⟨(1000000000000:Int),(2:Int),([]:List Int),(0:Int),(0:Int),[]⟩:zE)]) (tW F r_6.2 (⟨(1000000000000:Int),(2:Int),([]:List Int),(0:Int),(0:Int),[]⟩:zE) y1 kE) rfl ⟨rfl,rfl,rfl,rfl,rfl,rfl,rfl,rfl,rfl,rfl,rfl,rfl,rfl,rfl,rfl,rfl,rfl,rfl,rfl,rfl,rfl,rfl,rfl,rfl,rfl,trivial⟩:zS prog 21 [] [] [zM r_6.2,.agg [Ii 1000000000000,Ii 2,.str ([]:List Int),Ii 0,Ii 0,.nilsl]] [] (.tuple [zM y1.1,Ii y1.2])) an))) ?_
 refine sq ?_
 obtain ⟨wY,nB,h⟩:=bind_some h
 refine rg [(1,{ av:=.tuple [.own 0 ((wY.1).length),zM wY.2],ids:=[2],l:=[zM y1.1],post:=[(.row 59 4 (Mp zO wY.1))] }),(5,{ id:=3 })] [8,11,12] [2] 4 [Ii o_1.2.2.2.2.2.2.2.2.2.2.1,Ii y1.2,.own 2 ((wY.1).length)] [Rb 59 4 (Mp zO wY.1)] zF (ar ([zM y1.1]:List AV) (ac (rfl:([]:List zU)=[]) (ac (jP F y1.1 wY nB:zS prog 17 [] [] [zM y1.1] [(.row 59 4 (Mp zO wY.1))] (.tuple [.own 0 ((wY.1).length),zM wY.2])) an))) ?_
 refine sq ?_
 obtain ⟨p_3,h_21,h⟩:=bind_some h
 refine yV (mk [(2,.bool p_3)] [] 0) ?_ ?_
 ·replace h:=h_21
  rcases bft (y1.2==(0:Int)) with yB | yB
  ·replace h:=zV yB h
   rcases bft ((lN (wY.1))==(1:Int)) with zZ | zZ
   ·replace h:=zV zZ h
    obtain ⟨x_2,jT,h⟩:=bind_some h
    rcases bft (x_2.Serial==o_1.2.2.2.2.2.2.2.2.2.2.1) with yC | yC
    ·replace h:=zV yC h
     obtain ⟨x_3,zBG,h⟩:=bind_some h
     rcases bft (x_3.Lost==(0:Int)) with z9 | z9
     ·replace h:=zV z9 h
      obtain ⟨x_4,zFR,h⟩:=bind_some h
      refine rg [(6,Ht),(11,{ av:=zO x_2 }),(14,Ht),(19,{ av:=zO x_3 }),(21,Ht),(26,{ av:=zO x_4 }),(27,{ n:=(x_4.Events).length }),(29,Ht)] [2] [] 4 [.bool ((lN (x_4.Events))==(1:Int))] [] zF (ac yB (ac yB (ac yB (ac yB (ac zZ (ac zZ (ac (y6 jT:(0:Int)≤(0:Int)) (ac (by first | (simp;done) | simpa using y7 jT:(0:Int)<(((wY.1).length:Nat):Int)) (ac zZ (ac zZ (ac (xD jT:(Mp zO wY.1)[0]?=some (zO x_2)) (ac zZ (ac zZ (ac zZ (ac yC (ac yC (ac (y6 zBG:(0:Int)≤(0:Int)) (ac (by first | (simp;done) | simpa using y7 zBG:(0:Int)<(((wY.1).length:Nat):Int)) (ac yC (ac yC (ac (xD zBG:(Mp zO wY.1)[0]?=some (zO x_3)) (ac yC (ac yC (ac z9 (ac z9 (ac (y6 zFR:(0:Int)≤(0:Int)) (ac (by first | (simp;done) | simpa using y7 zFR:(0:Int)<(((wY.1).length:Nat):Int)) (ac z9 (ac z9 (ac (xD zFR:(Mp zO wY.1)[0]?=some (zO x_4)) (ac z9 (ac (yO _:((Mp zN x_4.Events)).length=(x_4.Events).length) (ac z9 (ac z9 an)))))))))))))))))))))))))))))))))) ?_
      cases h
      exact ⟨rfl,(sw [] [] [.s 2] [] an)⟩
     ·replace h:=zW z9 h
      refine rg [(6,Ht),(11,{ av:=zO x_2 }),(14,Ht),(19,{ av:=zO x_3 }),(21,Ht),(23,Hg),(24,Hg),(25,Hg),(26,Hg),(27,Hg),(28,Hg),(29,Hf)] [2] [] 4 [.bool false] [] zF (ac yB (ac yB (ac yB (ac yB (ac zZ (ac zZ (ac (y6 jT:(0:Int)≤(0:Int)) (ac (by first | (simp;done) | simpa using y7 jT:(0:Int)<(((wY.1).length:Nat):Int)) (ac zZ (ac zZ (ac (xD jT:(Mp zO wY.1)[0]?=some (zO x_2)) (ac zZ (ac zZ (ac zZ (ac yC (ac yC (ac (y6 zBG:(0:Int)≤(0:Int)) (ac (by first | (simp;done) | simpa using y7 zBG:(0:Int)<(((wY.1).length:Nat):Int)) (ac yC (ac yC (ac (xD zBG:(Mp zO wY.1)[0]?=some (zO x_3)) (ac yC (ac yC (ac z9 (ac z9 (ac z9 (ac z9 (ac z9 (ac z9 (ac z9 an)))))))))))))))))))))))))))))) ?_
      cases h
      exact ⟨rfl,(sw [] [] [.s 2] [] an)⟩
    ·replace h:=zW yC h
     refine rg [(6,Ht),(11,{ av:=zO x_2 }),(14,Ht),(16,Hg),(17,Hg),(18,Hg),(19,Hg),(20,Hg),(21,Hf),(23,Hg),(24,Hg),(25,Hg),(26,Hg),(27,Hg),(28,Hg),(29,Hf)] [2] [] 4 [.bool false] [] zF (ac yB (ac yB (ac yB (ac yB (ac zZ (ac zZ (ac (y6 jT:(0:Int)≤(0:Int)) (ac (by first | (simp;done) | simpa using y7 jT:(0:Int)<(((wY.1).length:Nat):Int)) (ac zZ (ac zZ (ac (xD jT:(Mp zO wY.1)[0]?=some (zO x_2)) (ac zZ (ac zZ (ac zZ (ac yC (ac yC (ac yC (ac yC (ac yC (ac yC (ac (rfl:false=!true) (ac (rfl:false=!true) (ac (rfl:false=!true) (ac (rfl:false=!true) (ac (rfl:false=!true) (ac (rfl:false=!true) (ar false an))))))))))))))))))))))))))) ?_
     cases h
     exact ⟨rfl,(sw [] [] [.s 2] [] an)⟩
   ·replace h:=zW zZ h
    refine rg [(6,Ht),(8,Hg),(9,Hg),(10,Hg),(11,Hg),(12,Hg),(13,Hg),(14,Hf),(16,Hg),(17,Hg),(18,Hg),(19,Hg),(20,Hg),(21,Hf),(23,Hg),(24,Hg),(25,Hg),(26,Hg),(27,Hg),(28,Hg),(29,Hf)] [2] [] 4 [.bool false] [] zF (ac yB (ac yB (ac yB (ac yB (ac zZ (ac zZ (ac zZ (ac zZ (ac zZ (ac zZ (ac zZ (ac (rfl:false=!true) (ac (rfl:false=!true) (ac (rfl:false=!true) (ac (rfl:false=!true) (ac (rfl:false=!true) (ar false (ac (rfl:false=!true) (ac (rfl:false=!true) (ac (rfl:false=!true) (ac (rfl:false=!true) (ac (rfl:false=!true) (ac (rfl:false=!true) (ar false an)))))))))))))))))))))))) ?_
    cases h
    exact ⟨rfl,(sw [] [] [.s 2] [] an)⟩
  ·replace h:=zW yB h
   refine rg [(3,Hg),(4,Hg),(5,Hg),(6,Hf),(8,Hg),(9,Hg),(10,Hg),(11,Hg),(12,Hg),(13,Hg),(14,Hf),(16,Hg),(17,Hg),(18,Hg),(19,Hg),(20,Hg),(21,Hf),(23,Hg),(24,Hg),(25,Hg),(26,Hg),(27,Hg),(28,Hg),(29,Hf)] [2] [] 4 [.bool false] [] zF (ac yB (ac yB (ac yB (ac yB (ac (rfl:false=!true) (ac (rfl:false=!true) (ac (rfl:false=!true) (ac (rfl:false=!true) (ac (rfl:false=!true) (ac (rfl:false=!true) (ar false (ac (rfl:false=!true) (ac (rfl:false=!true) (ac (rfl:false=!true) (ac (rfl:false=!true) (ac (rfl:false=!true) (ar false (ac (rfl:false=!true) (ac (rfl:false=!true) (ac (rfl:false=!true) (ac (rfl:false=!true) (ac (rfl:false=!true) (ac (rfl:false=!true) (ar false an)))))))))))))))))))))))) ?_
   cases h
   exact ⟨rfl,(sw [] [] [.s 2] [] an)⟩
 refine rt ?_
 cases h
 exact ⟨.inr rfl,Nat.le_of_ble_eq_true rfl,by kernel_rfl⟩
end Go.Ab
