/- Printed: the typed Lean functions of the Go functions, or the proofs that the Go functions meet them. No conditions but those that the theorems name. -/
import Derived.Test.YtdpgdpjoemdkjaaP10x1
namespace Go.Ab
open Go
set_option linter.unusedVariables false
theorem zDK (F:Nat) (names_1:List (List Int)) (stacks_1:List (zI)) (b_1:List (Int)) (r:zE×Int×Int) (h:jQ F names_1 stacks_1 b_1=some r):zQ prog 79 [] [] [.sl false 1 (Ms names_1),.sl false 2 (Mp zD stacks_1),.sl false 1 (Mb b_1)] [] (.tuple [zF r.1,Ii r.2.1,Ii r.2.2]):=by
 refine zV (fn:=Go.Proofs.Try.f79) (code:=yI Go.Proofs.Try.f79) (by kernel_rfl) (by kernel_rfl) (Nat.le_of_ble_eq_true (by kernel_rfl)) ?_
 unfold jQ at h
 refine sr [(0,{ id:=0 })] [0,1,2,6] [0] 1 [.sl false 1 (Ms names_1),.sl false 2 (Mp zD stacks_1),.sl false 1 (Mb b_1),Pp 0] [Vb 45 [Ii 0,Ii 0,.str ([]:List Int),Ii 0,Ii 0,.nilsl]] zG an ?_
 refine sq ?_
 refine sq ?_
 obtain ⟨r_1,h_1,h⟩:=bind_some h
 refine rg [(2,{ av:=Ii r_1,l:=[.sl false 1 (Ms names_1),.sl false 2 (Mp zD stacks_1)] })] [0,1,2,6,21] [0] 1 [.sl false 1 (Ms names_1),.sl false 2 (Mp zD stacks_1),.sl false 1 (Mb b_1),Pp 0,.bool (r_1 != (0:Int))] [Vb 45 [Ii 0,Ii 0,.str ([]:List Int),Ii 0,Ii 0,.nilsl]] zG (ar ([.sl false 1 (Ms names_1),.sl false 2 (Mp zD stacks_1)]:List AV) (ac (rfl:([]:List zP)=[]) (ac (j6 F names_1 stacks_1 r_1 h_1:zQ prog 50 [] [] [.sl false 1 (Ms names_1),.sl false 2 (Mp zD stacks_1)] [] (Ii r_1)) an))) ?_
 refine cd 21 (r_1 != (0:Int)) ?_ ?_
 ·intro g_1;replace h:=zR g_1 h
  refine sr [] [6,7,8] [0] 1 [Pp 0,Ii 0,Ii 1] [Vb 45 [Ii 0,Ii 0,.str ([]:List Int),Ii 0,Ii 0,.nilsl]] zG an ?_
  refine wk [0] [] [.s 6,.s 7,.s 8] [.a 0 (Vb 45 (zM (⟨(0:Int),(0:Int),([]:List Int),(0:Int),(0:Int),[]⟩:zE)))] [(6,Pp 0),(7,Ii 0),(8,Ii 1)] [(0,Vb 45 (zM (⟨(0:Int),(0:Int),([]:List Int),(0:Int),(0:Int),[]⟩:zE)))] (ar 45 (ac (rfl:wJ [Ii ((⟨(0:Int),(0:Int),([]:List Int),(0:Int),(0:Int),[]⟩:zE).At),Ii ((⟨(0:Int),(0:Int),([]:List Int),(0:Int),(0:Int),[]⟩:zE).Kind),.str ((⟨(0:Int),(0:Int),([]:List Int),(0:Int),(0:Int),[]⟩:zE).Name),Ii ((⟨(0:Int),(0:Int),([]:List Int),(0:Int),(0:Int),[]⟩:zE).N),Ii ((⟨(0:Int),(0:Int),([]:List Int),(0:Int),(0:Int),[]⟩:zE).M),.sl false 1 (Ms ((⟨(0:Int),(0:Int),([]:List Int),(0:Int),(0:Int),[]⟩:zE).Stack))]=true) (ac (rfl:(Ii 0:AV)=Ii ((⟨(0:Int),(0:Int),([]:List Int),(0:Int),(0:Int),[]⟩:zE).At)) (ac (rfl:(Ii 0:AV)=Ii ((⟨(0:Int),(0:Int),([]:List Int),(0:Int),(0:Int),[]⟩:zE).Kind)) (ac (rfl:(.str ([]:List Int):AV)=.str ((⟨(0:Int),(0:Int),([]:List Int),(0:Int),(0:Int),[]⟩:zE).Name)) (ac (rfl:(Ii 0:AV)=Ii ((⟨(0:Int),(0:Int),([]:List Int),(0:Int),(0:Int),[]⟩:zE).N)) (ac (rfl:(Ii 0:AV)=Ii ((⟨(0:Int),(0:Int),([]:List Int),(0:Int),(0:Int),[]⟩:zE).M)) (ac (rfl:((Ms ((⟨(0:Int),(0:Int),([]:List Int),(0:Int),(0:Int),[]⟩:zE).Stack)):List AV)=[]) an)))))))) ?_
  refine rt ?_
  cases h
  exact ⟨.inr rfl,Nat.le_of_ble_eq_true rfl,by kernel_rfl⟩
 intro g_1;replace h:=zS g_1 h
 refine sk ?_
 refine sr [(2,{ id:=1 })] [0,1,6,9] [0,1] 2 [.sl false 1 (Ms names_1),.sl false 2 (Mp zD stacks_1),Pp 0,Pp 1] [Vb 45 [Ii 0,Ii 0,.str ([]:List Int),Ii 0,Ii 0,.nilsl],Vb 136 [.sl false 1 (Mb b_1),Ii 0,Ii 0]] zG an ?_
 refine sq ?_
 obtain ⟨r_2,h_2,h⟩:=bind_some h
 refine rg [(1,{ av:=Ii r_2.1,ids:=[1],l:=[Pp 0],post:=[(.var 136 (zZ r_2.2))],pre:=[(.var 136 [.sl false 1 (Mb b_1),Ii 0,Ii 0])] })] [0,1,6,9,10] [0,1] 2 [.sl false 1 (Ms names_1),.sl false 2 (Mp zD stacks_1),Pp 0,Pp 1,Ii r_2.1] [Vb 45 [Ii 0,Ii 0,.str ([]:List Int),Ii 0,Ii 0,.nilsl],Vb 136 (zZ r_2.2)] zG (ar ([Pp 1]:List AV) (ac (rfl:([Vb 136 [.sl false 1 (Mb b_1),Ii 0,Ii 0]]:List zP)=[Vb 136 [.sl false 1 (Mb b_1),Ii 0,Ii 0]]) (ac (vN F (⟨b_1,(0:Int),(0:Int)⟩:yB) r_2 h_2:zQ prog 97 [(.var 136 [.sl false 1 (Mb b_1),Ii 0,Ii 0])] [] [Pp 0] [(.var 136 (zZ r_2.2))] (Ii r_2.1)) an))) ?_
 refine sq ?_
 obtain ⟨r_3,h_3,h⟩:=bind_some h
 refine rg [(2,{ av:=Ii r_3.1,ids:=[1],l:=[Pp 0],post:=[(.var 136 (zZ r_3.2))],pre:=[(.var 136 (zZ r_2.2))] }),(4,{ id:=2 })] [0,1,6,9,10,11] [0,1,2] 3 [.sl false 1 (Ms names_1),.sl false 2 (Mp zD stacks_1),Pp 0,Pp 1,Ii r_2.1,Pp 2] [Vb 45 [Ii 0,Ii 0,.str ([]:List Int),Ii 0,Ii 0,.nilsl],Vb 136 (zZ r_3.2),Vb 45 [Ii r_3.1,Ii r_2.1,.str ([]:List Int),Ii 0,Ii 0,.nilsl]] zG (ar ([Pp 1]:List AV) (ac (rfl:([Vb 136 (zZ r_2.2)]:List zP)=[Vb 136 (zZ r_2.2)]) (ac (vN F r_2.2 r_3 h_3:zQ prog 97 [(.var 136 (zZ r_2.2))] [] [Pp 0] [(.var 136 (zZ r_3.2))] (Ii r_3.1)) an))) ?_
 refine sq ?_
 refine sq ?_
 refine yE (mk [(0,.sl false 1 (Ms names_1)),(1,.sl false 2 (Mp zD stacks_1)),(6,Pp 0),(9,Pp 1),(11,Pp 2),(44,.bool ((r_3.2.fault==(0:Int))&&(decide (r_2.1<(1:Int))||decide (r_2.1>(12:Int)))))] [(0,Vb 45 [Ii 0,Ii 0,.str ([]:List Int),Ii 0,Ii 0,.nilsl]),(1,Vb 136 (zZ r_3.2)),(2,Vb 45 [Ii r_3.1,Ii r_2.1,.str ([]:List Int),Ii 0,Ii 0,.nilsl])] 3) ?_ ?_
 ·rcases bft (r_3.2.fault==(0:Int)) with gg_1 | gg_1
  ·rcases bft (decide (r_2.1<(1:Int))) with gg_2 | gg_2
   ·refine rg [(9,Hg),(10,Hg),(11,Ht),(12,Ht)] [0,1,6,9,11,44] [0,1,2] 3 [.sl false 1 (Ms names_1),.sl false 2 (Mp zD stacks_1),Pp 0,Pp 1,Pp 2,.bool true] [Vb 45 [Ii 0,Ii 0,.str ([]:List Int),Ii 0,Ii 0,.nilsl],Vb 136 (zZ r_3.2),Vb 45 [Ii r_3.1,Ii r_2.1,.str ([]:List Int),Ii 0,Ii 0,.nilsl]] zG (ac gg_1 (ac gg_1 (ac gg_1 (ac gg_2 (ac gg_2 (ac gg_1 (ac gg_2 (ac gg_1 an)))))))) ?_
    exact ⟨rfl,(sw [0,1,2] [] [.s 0,.s 1,.s 6,.s 9,.s 11,.a 44 (.bool ((r_3.2.fault==(0:Int))&&(decide (r_2.1<(1:Int))||decide (r_2.1>(12:Int)))))] [.s 0,.s 1,.s 2] (ac (congrArg AV.bool (tQ gg_1 (ort gg_2)):(.bool true:AV)=.bool ((r_3.2.fault==(0:Int))&&(decide (r_2.1<(1:Int))||decide (r_2.1>(12:Int))))) an))⟩
   ·refine rg [(11,Hf),(12,Ht)] [0,1,6,9,11,44] [0,1,2] 3 [.sl false 1 (Ms names_1),.sl false 2 (Mp zD stacks_1),Pp 0,Pp 1,Pp 2,.bool (decide (r_2.1>(12:Int)))] [Vb 45 [Ii 0,Ii 0,.str ([]:List Int),Ii 0,Ii 0,.nilsl],Vb 136 (zZ r_3.2),Vb 45 [Ii r_3.1,Ii r_2.1,.str ([]:List Int),Ii 0,Ii 0,.nilsl]] zG (ac gg_1 (ac gg_1 (ac gg_1 (ac gg_2 (ac gg_2 (ac gg_1 (ac gg_2 (ac gg_1 an)))))))) ?_
    exact ⟨rfl,(sw [0,1,2] [] [.s 0,.s 1,.s 6,.s 9,.s 11,.a 44 (.bool ((r_3.2.fault==(0:Int))&&(decide (r_2.1<(1:Int))||decide (r_2.1>(12:Int)))))] [.s 0,.s 1,.s 2] (ac (congrArg AV.bool (tQ gg_1 (orf gg_2 rfl)):(.bool (decide (r_2.1>(12:Int))):AV)=.bool ((r_3.2.fault==(0:Int))&&(decide (r_2.1<(1:Int))||decide (r_2.1>(12:Int))))) an))⟩
  ·refine rg [(6,Hg),(7,Hg),(8,Hg),(11,Hg),(12,Hf)] [0,1,6,9,11,44] [0,1,2] 3 [.sl false 1 (Ms names_1),.sl false 2 (Mp zD stacks_1),Pp 0,Pp 1,Pp 2,.bool false] [Vb 45 [Ii 0,Ii 0,.str ([]:List Int),Ii 0,Ii 0,.nilsl],Vb 136 (zZ r_3.2),Vb 45 [Ii r_3.1,Ii r_2.1,.str ([]:List Int),Ii 0,Ii 0,.nilsl]] zG (ac gg_1 (ac gg_1 (ac gg_1 (ac gg_1 (ac gg_1 an))))) ?_
   exact ⟨rfl,(sw [0,1,2] [] [.s 0,.s 1,.s 6,.s 9,.s 11,.a 44 (.bool ((r_3.2.fault==(0:Int))&&(decide (r_2.1<(1:Int))||decide (r_2.1>(12:Int)))))] [.s 0,.s 1,.s 2] (ac (congrArg AV.bool (pJ gg_1):(.bool false:AV)=.bool ((r_3.2.fault==(0:Int))&&(decide (r_2.1<(1:Int))||decide (r_2.1>(12:Int))))) an))⟩
 obtain ⟨o_1,h_4,h⟩:=bind_some h
 refine yE (mk [(0,.sl false 1 (Ms names_1)),(1,.sl false 2 (Mp zD stacks_1)),(6,Pp 0),(9,Pp 1),(11,Pp 2)] [(0,Vb 45 [Ii 0,Ii 0,.str ([]:List Int),Ii 0,Ii 0,.nilsl]),(1,Vb 136 [.sl false 1 (Mb r_3.2.b),Ii r_3.2.used,Ii o_1]),(2,Vb 45 [Ii r_3.1,Ii r_2.1,.str ([]:List Int),Ii 0,Ii 0,.nilsl])] 3) ?_ ?_
 ·replace h:=h_4
  refine cd 44 ((r_3.2.fault==(0:Int))&&(decide (r_2.1<(1:Int))||decide (r_2.1>(12:Int)))) ?_ ?_
  ·intro g_2;replace h:=zR g_2 h
   refine rg [] [0,1,6,9,11] [0,1,2] 3 [.sl false 1 (Ms names_1),.sl false 2 (Mp zD stacks_1),Pp 0,Pp 1,Pp 2] [Vb 45 [Ii 0,Ii 0,.str ([]:List Int),Ii 0,Ii 0,.nilsl],Vb 136 [.sl false 1 (Mb r_3.2.b),Ii r_3.2.used,Ii 10],Vb 45 [Ii r_3.1,Ii r_2.1,.str ([]:List Int),Ii 0,Ii 0,.nilsl]] zG an ?_
   cases h
   exact ⟨rfl,(sw [0,1,2] [] [.s 0,.s 1,.s 6,.s 9,.s 11] [.s 0,.s 1,.s 2] an)⟩
  intro g_2;replace h:=zS g_2 h
  refine sk ?_
  cases h
  exact ⟨rfl,(sw [0,1,2] [] [.s 0,.s 1,.s 6,.s 9,.s 11] [.s 0,.s 1,.s 2] an)⟩
 refine sq ?_
 obtain ⟨r_4,h_5,h⟩:=bind_some h
 refine rg [(2,{ av:=.tuple [.bool r_4.1,.bool r_4.2.1,.bool r_4.2.2.1,.bool r_4.2.2.2],l:=[Ii r_2.1] })] [0,1,6,9,11,12,13,14,15] [0,1,2] 3 [.sl false 1 (Ms names_1),.sl false 2 (Mp zD stacks_1),Pp 0,Pp 1,Pp 2,.bool r_4.1,.bool r_4.2.1,.bool r_4.2.2.1,.bool r_4.2.2.2] [Vb 45 [Ii 0,Ii 0,.str ([]:List Int),Ii 0,Ii 0,.nilsl],Vb 136 [.sl false 1 (Mb r_3.2.b),Ii r_3.2.used,Ii o_1],Vb 45 [Ii r_3.1,Ii r_2.1,.str ([]:List Int),Ii 0,Ii 0,.nilsl]] zG (ar ([Ii r_2.1]:List AV) (ac (rfl:([]:List zP)=[]) (ac (zBG r_2.1 r_4 h_5:zQ prog 58 [] [] [Ii r_2.1] [] (.tuple [.bool r_4.1,.bool r_4.2.1,.bool r_4.2.2.1,.bool r_4.2.2.2])) an))) ?_
 refine sr [] [0,1,6,9,11,12,13,14,15,16,17] [0,1,2] 3 [.sl false 1 (Ms names_1),.sl false 2 (Mp zD stacks_1),Pp 0,Pp 1,Pp 2,.bool r_4.1,.bool r_4.2.1,.bool r_4.2.2.1,.bool r_4.2.2.2,Ii 0,Ii (-1)] [Vb 45 [Ii 0,Ii 0,.str ([]:List Int),Ii 0,Ii 0,.nilsl],Vb 136 [.sl false 1 (Mb r_3.2.b),Ii r_3.2.used,Ii o_1],Vb 45 [Ii r_3.1,Ii r_2.1,.str ([]:List Int),Ii 0,Ii 0,.nilsl]] zG an ?_
 refine sq ?_
 refine sr [] [0,1,6,9,11,12,13,14,15,16,17,56] [0,1,2] 3 [.sl false 1 (Ms names_1),.sl false 2 (Mp zD stacks_1),Pp 0,Pp 1,Pp 2,.bool r_4.1,.bool r_4.2.1,.bool r_4.2.2.1,.bool r_4.2.2.2,Ii 0,Ii (-1),.bool r_4.1] [Vb 45 [Ii 0,Ii 0,.str ([]:List Int),Ii 0,Ii 0,.nilsl],Vb 136 [.sl false 1 (Mb r_3.2.b),Ii r_3.2.used,Ii o_1],Vb 45 [Ii r_3.1,Ii r_2.1,.str ([]:List Int),Ii 0,Ii 0,.nilsl]] zG an ?_
 obtain ⟨o_2,h_6,h⟩:=bind_some h
 refine yE (mk [(0,.sl false 1 (Ms names_1)),(1,.sl false 2 (Mp zD stacks_1)),(6,Pp 0),(9,Pp 1),(11,Pp 2),(12,.bool r_4.1),(13,.bool r_4.2.1),(14,.bool r_4.2.2.1),(15,.bool r_4.2.2.2),(16,Ii o_2.1),(17,Ii (-1))] [(0,Vb 45 [Ii 0,Ii 0,.str ([]:List Int),Ii 0,Ii 0,.nilsl]),(1,Vb 136 [.sl false 1 (Mb o_2.2.1),Ii o_2.2.2.1,Ii o_2.2.2.2]),(2,Vb 45 [Ii r_3.1,Ii r_2.1,.str ([]:List Int),Ii 0,Ii 0,.nilsl])] 3) ?_ ?_
 ·replace h:=h_6
  refine cd 56 r_4.1 ?_ ?_
  rotate_left
  ·intro g_3;replace h:=zS g_3 h
   refine sk ?_
   cases h
   exact ⟨rfl,(sw [0,1,2] [] [.s 0,.s 1,.s 6,.s 9,.s 11,.s 12,.s 13,.s 14,.s 15,.s 16,.s 17] [.s 0,.s 1,.s 2] an)⟩
  intro g_3;replace h:=zR g_3 h
  obtain ⟨r_5,h_7,h⟩:=bind_some h
  refine rg [(1,{ av:=Ii r_5.1,ids:=[1],l:=[Pp 0],post:=[(.var 136 (zZ r_5.2))],pre:=[(.var 136 [.sl false 1 (Mb r_3.2.b),Ii r_3.2.used,Ii o_1])] })] [0,1,6,9,11,12,13,14,15,16,17] [0,1,2] 3 [.sl false 1 (Ms names_1),.sl false 2 (Mp zD stacks_1),Pp 0,Pp 1,Pp 2,.bool r_4.1,.bool r_4.2.1,.bool r_4.2.2.1,.bool r_4.2.2.2,Ii r_5.1,Ii (-1)] [Vb 45 [Ii 0,Ii 0,.str ([]:List Int),Ii 0,Ii 0,.nilsl],Vb 136 (zZ r_5.2),Vb 45 [Ii r_3.1,Ii r_2.1,.str ([]:List Int),Ii 0,Ii 0,.nilsl]] zG (ar ([Pp 1]:List AV) (ac (rfl:([Vb 136 [.sl false 1 (Mb r_3.2.b),Ii r_3.2.used,Ii o_1]]:List zP)=[Vb 136 [.sl false 1 (Mb r_3.2.b),Ii r_3.2.used,Ii o_1]]) (ac (vN F (⟨r_3.2.b,r_3.2.used,o_1⟩:yB) r_5 h_7:zQ prog 97 [(.var 136 [.sl false 1 (Mb r_3.2.b),Ii r_3.2.used,Ii o_1])] [] [Pp 0] [(.var 136 (zZ r_5.2))] (Ii r_5.1)) an))) ?_
  cases h
  exact ⟨rfl,(sw [0,1,2] [] [.s 0,.s 1,.s 6,.s 9,.s 11,.s 12,.s 13,.s 14,.s 15,.s 16,.s 17] [.s 0,.s 1,.s 2] an)⟩
 refine sq ?_
 refine sr [] [0,1,6,9,11,12,14,15,16,17,59] [0,1,2] 3 [.sl false 1 (Ms names_1),.sl false 2 (Mp zD stacks_1),Pp 0,Pp 1,Pp 2,.bool r_4.1,.bool r_4.2.2.1,.bool r_4.2.2.2,Ii o_2.1,Ii (-1),.bool r_4.2.1] [Vb 45 [Ii 0,Ii 0,.str ([]:List Int),Ii 0,Ii 0,.nilsl],Vb 136 [.sl false 1 (Mb o_2.2.1),Ii o_2.2.2.1,Ii o_2.2.2.2],Vb 45 [Ii r_3.1,Ii r_2.1,.str ([]:List Int),Ii 0,Ii 0,.nilsl]] zG an ?_
 obtain ⟨o_3,h_8,h⟩:=bind_some h
 refine yE (mk [(0,.sl false 1 (Ms names_1)),(1,.sl false 2 (Mp zD stacks_1)),(6,Pp 0),(9,Pp 1),(11,Pp 2),(12,.bool r_4.1),(14,.bool r_4.2.2.1),(15,.bool r_4.2.2.2),(16,Ii o_2.1),(17,Ii (-1))] [(0,Vb 45 [Ii 0,Ii 0,.str ([]:List Int),Ii 0,Ii 0,.nilsl]),(1,Vb 136 [.sl false 1 (Mb o_3.1),Ii o_3.2.1,Ii o_3.2.2.1]),(2,Vb 45 [Ii r_3.1,Ii r_2.1,.str ([]:List Int),Ii o_3.2.2.2,Ii 0,.nilsl])] 3) ?_ ?_
 ·replace h:=h_8
  refine cd 59 r_4.2.1 ?_ ?_
  rotate_left
  ·intro g_4;replace h:=zS g_4 h
   refine sk ?_
   cases h
   exact ⟨rfl,(sw [0,1,2] [] [.s 0,.s 1,.s 6,.s 9,.s 11,.s 12,.s 14,.s 15,.s 16,.s 17] [.s 0,.s 1,.s 2] an)⟩
  intro g_4;replace h:=zR g_4 h
  obtain ⟨r_6,h_9,h⟩:=bind_some h
  refine rg [(1,{ av:=Ii r_6.1,ids:=[1],l:=[Pp 0],post:=[(.var 136 (zZ r_6.2))],pre:=[(.var 136 [.sl false 1 (Mb o_2.2.1),Ii o_2.2.2.1,Ii o_2.2.2.2])] })] [0,1,6,9,11,12,14,15,16,17] [0,1,2] 3 [.sl false 1 (Ms names_1),.sl false 2 (Mp zD stacks_1),Pp 0,Pp 1,Pp 2,.bool r_4.1,.bool r_4.2.2.1,.bool r_4.2.2.2,Ii o_2.1,Ii (-1)] [Vb 45 [Ii 0,Ii 0,.str ([]:List Int),Ii 0,Ii 0,.nilsl],Vb 136 (zZ r_6.2),Vb 45 [Ii r_3.1,Ii r_2.1,.str ([]:List Int),Ii r_6.1,Ii 0,.nilsl]] zG (ar ([Pp 1]:List AV) (ac (rfl:([Vb 136 [.sl false 1 (Mb o_2.2.1),Ii o_2.2.2.1,Ii o_2.2.2.2]]:List zP)=[Vb 136 [.sl false 1 (Mb o_2.2.1),Ii o_2.2.2.1,Ii o_2.2.2.2]]) (ac (vN F (⟨o_2.2.1,o_2.2.2.1,o_2.2.2.2⟩:yB) r_6 h_9:zQ prog 97 [(.var 136 [.sl false 1 (Mb o_2.2.1),Ii o_2.2.2.1,Ii o_2.2.2.2])] [] [Pp 0] [(.var 136 (zZ r_6.2))] (Ii r_6.1)) an))) ?_
  cases h
  exact ⟨rfl,(sw [0,1,2] [] [.s 0,.s 1,.s 6,.s 9,.s 11,.s 12,.s 14,.s 15,.s 16,.s 17] [.s 0,.s 1,.s 2] an)⟩
 refine sq ?_
 refine sr [] [0,1,6,9,11,12,15,16,17,63] [0,1,2] 3 [.sl false 1 (Ms names_1),.sl false 2 (Mp zD stacks_1),Pp 0,Pp 1,Pp 2,.bool r_4.1,.bool r_4.2.2.2,Ii o_2.1,Ii (-1),.bool r_4.2.2.1] [Vb 45 [Ii 0,Ii 0,.str ([]:List Int),Ii 0,Ii 0,.nilsl],Vb 136 [.sl false 1 (Mb o_3.1),Ii o_3.2.1,Ii o_3.2.2.1],Vb 45 [Ii r_3.1,Ii r_2.1,.str ([]:List Int),Ii o_3.2.2.2,Ii 0,.nilsl]] zG an ?_
 obtain ⟨o_4,h_10,h⟩:=bind_some h
 refine yE (mk [(0,.sl false 1 (Ms names_1)),(1,.sl false 2 (Mp zD stacks_1)),(6,Pp 0),(9,Pp 1),(11,Pp 2),(12,.bool r_4.1),(15,.bool r_4.2.2.2),(16,Ii o_2.1),(17,Ii (-1))] [(0,Vb 45 [Ii 0,Ii 0,.str ([]:List Int),Ii 0,Ii 0,.nilsl]),(1,Vb 136 [.sl false 1 (Mb o_4.1),Ii o_4.2.1,Ii o_4.2.2.1]),(2,Vb 45 [Ii r_3.1,Ii r_2.1,.str ([]:List Int),Ii o_3.2.2.2,Ii o_4.2.2.2,.nilsl])] 3) ?_ ?_
 ·replace h:=h_10
  refine cd 63 r_4.2.2.1 ?_ ?_
  rotate_left
  ·intro g_5;replace h:=zS g_5 h
   refine sk ?_
   cases h
   exact ⟨rfl,(sw [0,1,2] [] [.s 0,.s 1,.s 6,.s 9,.s 11,.s 12,.s 15,.s 16,.s 17] [.s 0,.s 1,.s 2] an)⟩
  intro g_5;replace h:=zR g_5 h
  obtain ⟨r_7,h_11,h⟩:=bind_some h
  refine rg [(1,{ av:=Ii r_7.1,ids:=[1],l:=[Pp 0],post:=[(.var 136 (zZ r_7.2))],pre:=[(.var 136 [.sl false 1 (Mb o_3.1),Ii o_3.2.1,Ii o_3.2.2.1])] })] [0,1,6,9,11,12,15,16,17] [0,1,2] 3 [.sl false 1 (Ms names_1),.sl false 2 (Mp zD stacks_1),Pp 0,Pp 1,Pp 2,.bool r_4.1,.bool r_4.2.2.2,Ii o_2.1,Ii (-1)] [Vb 45 [Ii 0,Ii 0,.str ([]:List Int),Ii 0,Ii 0,.nilsl],Vb 136 (zZ r_7.2),Vb 45 [Ii r_3.1,Ii r_2.1,.str ([]:List Int),Ii o_3.2.2.2,Ii r_7.1,.nilsl]] zG (ar ([Pp 1]:List AV) (ac (rfl:([Vb 136 [.sl false 1 (Mb o_3.1),Ii o_3.2.1,Ii o_3.2.2.1]]:List zP)=[Vb 136 [.sl false 1 (Mb o_3.1),Ii o_3.2.1,Ii o_3.2.2.1]]) (ac (vN F (⟨o_3.1,o_3.2.1,o_3.2.2.1⟩:yB) r_7 h_11:zQ prog 97 [(.var 136 [.sl false 1 (Mb o_3.1),Ii o_3.2.1,Ii o_3.2.2.1])] [] [Pp 0] [(.var 136 (zZ r_7.2))] (Ii r_7.1)) an))) ?_
  cases h
  exact ⟨rfl,(sw [0,1,2] [] [.s 0,.s 1,.s 6,.s 9,.s 11,.s 12,.s 15,.s 16,.s 17] [.s 0,.s 1,.s 2] an)⟩
 refine sq ?_
 refine sr [] [0,1,6,9,11,12,16,17,67] [0,1,2] 3 [.sl false 1 (Ms names_1),.sl false 2 (Mp zD stacks_1),Pp 0,Pp 1,Pp 2,.bool r_4.1,Ii o_2.1,Ii (-1),.bool r_4.2.2.2] [Vb 45 [Ii 0,Ii 0,.str ([]:List Int),Ii 0,Ii 0,.nilsl],Vb 136 [.sl false 1 (Mb o_4.1),Ii o_4.2.1,Ii o_4.2.2.1],Vb 45 [Ii r_3.1,Ii r_2.1,.str ([]:List Int),Ii o_3.2.2.2,Ii o_4.2.2.2,.nilsl]] zG an ?_
 obtain ⟨o_5,h_12,h⟩:=bind_some h
 refine yE (mk [(0,.sl false 1 (Ms names_1)),(1,.sl false 2 (Mp zD stacks_1)),(6,Pp 0),(9,Pp 1),(11,Pp 2),(12,.bool r_4.1),(16,Ii o_2.1),(17,Ii o_5.1)] [(0,Vb 45 [Ii 0,Ii 0,.str ([]:List Int),Ii 0,Ii 0,.nilsl]),(1,Vb 136 [.sl false 1 (Mb o_5.2.1),Ii o_5.2.2.1,Ii o_5.2.2.2]),(2,Vb 45 [Ii r_3.1,Ii r_2.1,.str ([]:List Int),Ii o_3.2.2.2,Ii o_4.2.2.2,.nilsl])] 3) ?_ ?_
 ·replace h:=h_12
  refine cd 67 r_4.2.2.2 ?_ ?_
  rotate_left
  ·intro g_6;replace h:=zS g_6 h
   refine sk ?_
   cases h
   exact ⟨rfl,(sw [0,1,2] [] [.s 0,.s 1,.s 6,.s 9,.s 11,.s 12,.s 16,.s 17] [.s 0,.s 1,.s 2] an)⟩
  intro g_6;replace h:=zR g_6 h
  obtain ⟨r_8,h_13,h⟩:=bind_some h
  refine rg [(1,{ av:=Ii r_8.1,ids:=[1],l:=[Pp 0],post:=[(.var 136 (zZ r_8.2))],pre:=[(.var 136 [.sl false 1 (Mb o_4.1),Ii o_4.2.1,Ii o_4.2.2.1])] })] [0,1,6,9,11,12,16,17] [0,1,2] 3 [.sl false 1 (Ms names_1),.sl false 2 (Mp zD stacks_1),Pp 0,Pp 1,Pp 2,.bool r_4.1,Ii o_2.1,Ii r_8.1] [Vb 45 [Ii 0,Ii 0,.str ([]:List Int),Ii 0,Ii 0,.nilsl],Vb 136 (zZ r_8.2),Vb 45 [Ii r_3.1,Ii r_2.1,.str ([]:List Int),Ii o_3.2.2.2,Ii o_4.2.2.2,.nilsl]] zG (ar ([Pp 1]:List AV) (ac (rfl:([Vb 136 [.sl false 1 (Mb o_4.1),Ii o_4.2.1,Ii o_4.2.2.1]]:List zP)=[Vb 136 [.sl false 1 (Mb o_4.1),Ii o_4.2.1,Ii o_4.2.2.1]]) (ac (vN F (⟨o_4.1,o_4.2.1,o_4.2.2.1⟩:yB) r_8 h_13:zQ prog 97 [(.var 136 [.sl false 1 (Mb o_4.1),Ii o_4.2.1,Ii o_4.2.2.1])] [] [Pp 0] [(.var 136 (zZ r_8.2))] (Ii r_8.1)) an))) ?_
  cases h
  exact ⟨rfl,(sw [0,1,2] [] [.s 0,.s 1,.s 6,.s 9,.s 11,.s 12,.s 16,.s 17] [.s 0,.s 1,.s 2] an)⟩
 refine sq ?_
 obtain ⟨o_6,h_14,h⟩:=bind_some h
 refine wZ (K1:=(fun e st'=>match o_6 with | (.inl q0)=>e=.normal∧Sub 0 st' (mk [(0,.sl false 1 (Ms names_1)),(1,.sl false 2 (Mp zD stacks_1)),(6,Pp 0),(9,Pp 1),(11,Pp 2),(12,.bool r_4.1),(16,Ii o_2.1),(17,Ii o_5.1)] [(0,Vb 45 [Ii 0,Ii 0,.str ([]:List Int),Ii 0,Ii 0,.nilsl]),(1,Vb 136 [.sl false 1 (Mb o_5.2.1),Ii o_5.2.2.1,Ii o_5.2.2.2]),(2,Vb 45 [Ii r_3.1,Ii r_2.1,.str ([]:List Int),Ii o_3.2.2.2,Ii o_4.2.2.2,.nilsl])] 3) | (.inr q1)=>e=.ret∧jB prog Go.Proofs.Try.f79 0 [] (.tuple [zF q1.1,Ii q1.2.1,Ii q1.2.2]) st')) ?_ ?_
 ·replace h:=h_14
  refine z6 (id:=0) (by kernel_rfl) ?_
  refine sr [] [0,1,6,9,11,12,16,17,70] [0,1,2] 3 [.sl false 1 (Ms names_1),.sl false 2 (Mp zD stacks_1),Pp 0,Pp 1,Pp 2,.bool r_4.1,Ii o_2.1,Ii o_5.1,.bool (o_5.2.2.2 != (0:Int))] [Vb 45 [Ii 0,Ii 0,.str ([]:List Int),Ii 0,Ii 0,.nilsl],Vb 136 [.sl false 1 (Mb o_5.2.1),Ii o_5.2.2.1,Ii o_5.2.2.2],Vb 45 [Ii r_3.1,Ii r_2.1,.str ([]:List Int),Ii o_3.2.2.2,Ii o_4.2.2.2,.nilsl]] zG an ?_
  refine cd 70 (o_5.2.2.2 != (0:Int)) ?_ ?_
  ·intro g_7;replace h:=zR g_7 h
   refine sr [] [6,7,8] [0] 3 [Pp 0,Ii 0,Ii o_5.2.2.2] [Vb 45 [Ii 0,Ii 0,.str ([]:List Int),Ii 0,Ii 0,.nilsl]] zG an ?_
   refine wk [0] [] [.s 6,.s 7,.s 8] [.a 0 (Vb 45 (zM (⟨(0:Int),(0:Int),([]:List Int),(0:Int),(0:Int),[]⟩:zE)))] [(6,Pp 0),(7,Ii 0),(8,Ii o_5.2.2.2)] [(0,Vb 45 (zM (⟨(0:Int),(0:Int),([]:List Int),(0:Int),(0:Int),[]⟩:zE)))] (ar 45 (ac (rfl:wJ [Ii ((⟨(0:Int),(0:Int),([]:List Int),(0:Int),(0:Int),[]⟩:zE).At),Ii ((⟨(0:Int),(0:Int),([]:List Int),(0:Int),(0:Int),[]⟩:zE).Kind),.str ((⟨(0:Int),(0:Int),([]:List Int),(0:Int),(0:Int),[]⟩:zE).Name),Ii ((⟨(0:Int),(0:Int),([]:List Int),(0:Int),(0:Int),[]⟩:zE).N),Ii ((⟨(0:Int),(0:Int),([]:List Int),(0:Int),(0:Int),[]⟩:zE).M),.sl false 1 (Ms ((⟨(0:Int),(0:Int),([]:List Int),(0:Int),(0:Int),[]⟩:zE).Stack))]=true) (ac (rfl:(Ii 0:AV)=Ii ((⟨(0:Int),(0:Int),([]:List Int),(0:Int),(0:Int),[]⟩:zE).At)) (ac (rfl:(Ii 0:AV)=Ii ((⟨(0:Int),(0:Int),([]:List Int),(0:Int),(0:Int),[]⟩:zE).Kind)) (ac (rfl:(.str ([]:List Int):AV)=.str ((⟨(0:Int),(0:Int),([]:List Int),(0:Int),(0:Int),[]⟩:zE).Name)) (ac (rfl:(Ii 0:AV)=Ii ((⟨(0:Int),(0:Int),([]:List Int),(0:Int),(0:Int),[]⟩:zE).N)) (ac (rfl:(Ii 0:AV)=Ii ((⟨(0:Int),(0:Int),([]:List Int),(0:Int),(0:Int),[]⟩:zE).M)) (ac (rfl:((Ms ((⟨(0:Int),(0:Int),([]:List Int),(0:Int),(0:Int),[]⟩:zE).Stack)):List AV)=[]) an)))))))) ?_
   refine rt ?_
   cases h
   exact ⟨rfl,Nat.le_of_ble_eq_true rfl,by kernel_rfl⟩
  intro g_7;replace h:=zS g_7 h
  refine sq ?_
  refine sq ?_
  refine yE (mk [(0,.sl false 1 (Ms names_1)),(1,.sl false 2 (Mp zD stacks_1)),(6,Pp 0),(9,Pp 1),(11,Pp 2),(12,.bool r_4.1),(16,Ii o_2.1),(17,Ii o_5.1),(81,.bool (r_4.1&&(decide (o_2.1<(0:Int))||decide (o_2.1≥(lN (names_1))))))] [(0,Vb 45 [Ii 0,Ii 0,.str ([]:List Int),Ii 0,Ii 0,.nilsl]),(1,Vb 136 [.sl false 1 (Mb o_5.2.1),Ii o_5.2.2.1,Ii o_5.2.2.2]),(2,Vb 45 [Ii r_3.1,Ii r_2.1,.str ([]:List Int),Ii o_3.2.2.2,Ii o_4.2.2.2,.nilsl])] 3) ?_ ?_
  ·rcases Bool.eq_false_or_eq_true r_4.1 with gg_6 | gg_6
   ·rcases bft (decide (o_2.1<(0:Int))) with gg_7 | gg_7
    ·refine rg [(5,Hg),(6,Hg),(7,Hg),(8,Hg),(9,Ht),(10,Ht)] [0,1,6,9,11,12,16,17,81] [0,1,2] 3 [.sl false 1 (Ms names_1),.sl false 2 (Mp zD stacks_1),Pp 0,Pp 1,Pp 2,.bool r_4.1,Ii o_2.1,Ii o_5.1,.bool true] [Vb 45 [Ii 0,Ii 0,.str ([]:List Int),Ii 0,Ii 0,.nilsl],Vb 136 [.sl false 1 (Mb o_5.2.1),Ii o_5.2.2.1,Ii o_5.2.2.2],Vb 45 [Ii r_3.1,Ii r_2.1,.str ([]:List Int),Ii o_3.2.2.2,Ii o_4.2.2.2,.nilsl]] zG (ac gg_6 (ac gg_6 (ac gg_6 (ac gg_7 (ac gg_7 (ac gg_7 (ac gg_7 (ac gg_6 (ac gg_7 (ac gg_6 an)))))))))) ?_
     exact ⟨rfl,(sw [0,1,2] [] [.s 0,.s 1,.s 6,.s 9,.s 11,.s 12,.s 16,.s 17,.a 81 (.bool (r_4.1&&(decide (o_2.1<(0:Int))||decide (o_2.1≥(lN (names_1))))))] [.s 0,.s 1,.s 2] (ac (congrArg AV.bool (tQ gg_6 (ort gg_7)):(.bool true:AV)=.bool (r_4.1&&(decide (o_2.1<(0:Int))||decide (o_2.1≥(lN (names_1)))))) an))⟩
    ·refine rg [(7,{ n:=(names_1).length }),(9,Hf),(10,Ht)] [0,1,6,9,11,12,16,17,81] [0,1,2] 3 [.sl false 1 (Ms names_1),.sl false 2 (Mp zD stacks_1),Pp 0,Pp 1,Pp 2,.bool r_4.1,Ii o_2.1,Ii o_5.1,.bool (decide (o_2.1≥(lN (names_1))))] [Vb 45 [Ii 0,Ii 0,.str ([]:List Int),Ii 0,Ii 0,.nilsl],Vb 136 [.sl false 1 (Mb o_5.2.1),Ii o_5.2.2.1,Ii o_5.2.2.2],Vb 45 [Ii r_3.1,Ii r_2.1,.str ([]:List Int),Ii o_3.2.2.2,Ii o_4.2.2.2,.nilsl]] zG (ac gg_6 (ac gg_6 (ac gg_6 (ac gg_7 (ac gg_7 (ac gg_7 (ac (z9 _:((Ms names_1)).length=(names_1).length) (ac gg_7 (ac gg_6 (ac gg_7 (ac gg_6 an))))))))))) ?_
     exact ⟨rfl,(sw [0,1,2] [] [.s 0,.s 1,.s 6,.s 9,.s 11,.s 12,.s 16,.s 17,.a 81 (.bool (r_4.1&&(decide (o_2.1<(0:Int))||decide (o_2.1≥(lN (names_1))))))] [.s 0,.s 1,.s 2] (ac (congrArg AV.bool (tQ gg_6 (orf gg_7 rfl)):(.bool (decide (o_2.1≥(lN (names_1)))):AV)=.bool (r_4.1&&(decide (o_2.1<(0:Int))||decide (o_2.1≥(lN (names_1)))))) an))⟩
   ·refine rg [(2,Hg),(3,Hg),(4,Hg),(9,Hg),(10,Hf)] [0,1,6,9,11,12,16,17,81] [0,1,2] 3 [.sl false 1 (Ms names_1),.sl false 2 (Mp zD stacks_1),Pp 0,Pp 1,Pp 2,.bool r_4.1,Ii o_2.1,Ii o_5.1,.bool false] [Vb 45 [Ii 0,Ii 0,.str ([]:List Int),Ii 0,Ii 0,.nilsl],Vb 136 [.sl false 1 (Mb o_5.2.1),Ii o_5.2.2.1,Ii o_5.2.2.2],Vb 45 [Ii r_3.1,Ii r_2.1,.str ([]:List Int),Ii o_3.2.2.2,Ii o_4.2.2.2,.nilsl]] zG (ac gg_6 (ac gg_6 (ac gg_6 (ac gg_6 (ac gg_6 an))))) ?_
    exact ⟨rfl,(sw [0,1,2] [] [.s 0,.s 1,.s 6,.s 9,.s 11,.s 12,.s 16,.s 17,.a 81 (.bool (r_4.1&&(decide (o_2.1<(0:Int))||decide (o_2.1≥(lN (names_1))))))] [.s 0,.s 1,.s 2] (ac (congrArg AV.bool (pJ gg_6):(.bool false:AV)=.bool (r_4.1&&(decide (o_2.1<(0:Int))||decide (o_2.1≥(lN (names_1)))))) an))⟩
  refine cd 81 (r_4.1&&(decide (o_2.1<(0:Int))||decide (o_2.1≥(lN (names_1))))) ?_ ?_
  ·intro g_8;replace h:=zR g_8 h
   refine sk ?_
   refine cd 81 (r_4.1&&(decide (o_2.1<(0:Int))||decide (o_2.1≥(lN (names_1))))) ?_ ?_
   rotate_left
   ·intro hg;exact Bool.noConfusion ((g_8).symm.trans hg)
   intro _
   refine sr [] [6,7,8] [0] 3 [Pp 0,Ii 0,Ii 2] [Vb 45 [Ii 0,Ii 0,.str ([]:List Int),Ii 0,Ii 0,.nilsl]] zG an ?_
   refine wk [0] [] [.s 6,.s 7,.s 8] [.a 0 (Vb 45 (zM (⟨(0:Int),(0:Int),([]:List Int),(0:Int),(0:Int),[]⟩:zE)))] [(6,Pp 0),(7,Ii 0),(8,Ii 2)] [(0,Vb 45 (zM (⟨(0:Int),(0:Int),([]:List Int),(0:Int),(0:Int),[]⟩:zE)))] (ar 45 (ac (rfl:wJ [Ii ((⟨(0:Int),(0:Int),([]:List Int),(0:Int),(0:Int),[]⟩:zE).At),Ii ((⟨(0:Int),(0:Int),([]:List Int),(0:Int),(0:Int),[]⟩:zE).Kind),.str ((⟨(0:Int),(0:Int),([]:List Int),(0:Int),(0:Int),[]⟩:zE).Name),Ii ((⟨(0:Int),(0:Int),([]:List Int),(0:Int),(0:Int),[]⟩:zE).N),Ii ((⟨(0:Int),(0:Int),([]:List Int),(0:Int),(0:Int),[]⟩:zE).M),.sl false 1 (Ms ((⟨(0:Int),(0:Int),([]:List Int),(0:Int),(0:Int),[]⟩:zE).Stack))]=true) (ac (rfl:(Ii 0:AV)=Ii ((⟨(0:Int),(0:Int),([]:List Int),(0:Int),(0:Int),[]⟩:zE).At)) (ac (rfl:(Ii 0:AV)=Ii ((⟨(0:Int),(0:Int),([]:List Int),(0:Int),(0:Int),[]⟩:zE).Kind)) (ac (rfl:(.str ([]:List Int):AV)=.str ((⟨(0:Int),(0:Int),([]:List Int),(0:Int),(0:Int),[]⟩:zE).Name)) (ac (rfl:(Ii 0:AV)=Ii ((⟨(0:Int),(0:Int),([]:List Int),(0:Int),(0:Int),[]⟩:zE).N)) (ac (rfl:(Ii 0:AV)=Ii ((⟨(0:Int),(0:Int),([]:List Int),(0:Int),(0:Int),[]⟩:zE).M)) (ac (rfl:((Ms ((⟨(0:Int),(0:Int),([]:List Int),(0:Int),(0:Int),[]⟩:zE).Stack)):List AV)=[]) an)))))))) ?_
   refine rt ?_
   cases h
   exact ⟨rfl,Nat.le_of_ble_eq_true rfl,by kernel_rfl⟩
  intro g_8;replace h:=zS g_8 h
  refine yE (mk [(0,.sl false 1 (Ms names_1)),(1,.sl false 2 (Mp zD stacks_1)),(6,Pp 0),(9,Pp 1),(11,Pp 2),(12,.bool r_4.1),(16,Ii o_2.1),(17,Ii o_5.1),(81,.bool (decide (o_5.1<(-1:Int))||decide (o_5.1≥(lN (stacks_1)))))] [(0,Vb 45 [Ii 0,Ii 0,.str ([]:List Int),Ii 0,Ii 0,.nilsl]),(1,Vb 136 [.sl false 1 (Mb o_5.2.1),Ii o_5.2.2.1,Ii o_5.2.2.2]),(2,Vb 45 [Ii r_3.1,Ii r_2.1,.str ([]:List Int),Ii o_3.2.2.2,Ii o_4.2.2.2,.nilsl])] 3) ?_ ?_
  ·rcases bft (decide (o_5.1<(-1:Int))) with gg_8 | gg_8
   ·refine rg [(3,Hg),(4,Hg),(5,Hg),(6,Hg),(7,Ht)] [0,1,6,9,11,12,16,17,81] [0,1,2] 3 [.sl false 1 (Ms names_1),.sl false 2 (Mp zD stacks_1),Pp 0,Pp 1,Pp 2,.bool r_4.1,Ii o_2.1,Ii o_5.1,.bool true] [Vb 45 [Ii 0,Ii 0,.str ([]:List Int),Ii 0,Ii 0,.nilsl],Vb 136 [.sl false 1 (Mb o_5.2.1),Ii o_5.2.2.1,Ii o_5.2.2.2],Vb 45 [Ii r_3.1,Ii r_2.1,.str ([]:List Int),Ii o_3.2.2.2,Ii o_4.2.2.2,.nilsl]] zG (ac gg_8 (ac gg_8 (ac gg_8 (ac gg_8 (ac gg_8 an))))) ?_
    exact ⟨rfl,(sw [0,1,2] [] [.s 0,.s 1,.s 6,.s 9,.s 11,.s 12,.s 16,.s 17,.a 81 (.bool (decide (o_5.1<(-1:Int))||decide (o_5.1≥(lN (stacks_1)))))] [.s 0,.s 1,.s 2] (ac (congrArg AV.bool (ort gg_8):(.bool true:AV)=.bool (decide (o_5.1<(-1:Int))||decide (o_5.1≥(lN (stacks_1))))) an))⟩
   ·refine rg [(5,{ n:=(stacks_1).length }),(7,Hf)] [0,1,6,9,11,12,16,17,81] [0,1,2] 3 [.sl false 1 (Ms names_1),.sl false 2 (Mp zD stacks_1),Pp 0,Pp 1,Pp 2,.bool r_4.1,Ii o_2.1,Ii o_5.1,.bool (decide (o_5.1≥(lN (stacks_1))))] [Vb 45 [Ii 0,Ii 0,.str ([]:List Int),Ii 0,Ii 0,.nilsl],Vb 136 [.sl false 1 (Mb o_5.2.1),Ii o_5.2.2.1,Ii o_5.2.2.2],Vb 45 [Ii r_3.1,Ii r_2.1,.str ([]:List Int),Ii o_3.2.2.2,Ii o_4.2.2.2,.nilsl]] zG (ac gg_8 (ac gg_8 (ac gg_8 (ac (z9 _:((Mp zD stacks_1)).length=(stacks_1).length) (ac gg_8 (ac gg_8 an)))))) ?_
    exact ⟨rfl,(sw [0,1,2] [] [.s 0,.s 1,.s 6,.s 9,.s 11,.s 12,.s 16,.s 17,.a 81 (.bool (decide (o_5.1<(-1:Int))||decide (o_5.1≥(lN (stacks_1)))))] [.s 0,.s 1,.s 2] (ac (congrArg AV.bool (orf gg_8 rfl):(.bool (decide (o_5.1≥(lN (stacks_1)))):AV)=.bool (decide (o_5.1<(-1:Int))||decide (o_5.1≥(lN (stacks_1))))) an))⟩
  refine cd 81 (decide (o_5.1<(-1:Int))||decide (o_5.1≥(lN (stacks_1)))) ?_ ?_
  rotate_left
  ·intro g_9;replace h:=zS g_9 h
   refine sk ?_
   cases h
   exact ⟨rfl,(sw [0,1,2] [] [.s 0,.s 1,.s 6,.s 9,.s 11,.s 12,.s 16,.s 17] [.s 0,.s 1,.s 2] an)⟩
  intro g_9;replace h:=zR g_9 h
  refine sr [] [6,7,8] [0] 3 [Pp 0,Ii 0,Ii 2] [Vb 45 [Ii 0,Ii 0,.str ([]:List Int),Ii 0,Ii 0,.nilsl]] zG an ?_
  refine wk [0] [] [.s 6,.s 7,.s 8] [.a 0 (Vb 45 (zM (⟨(0:Int),(0:Int),([]:List Int),(0:Int),(0:Int),[]⟩:zE)))] [(6,Pp 0),(7,Ii 0),(8,Ii 2)] [(0,Vb 45 (zM (⟨(0:Int),(0:Int),([]:List Int),(0:Int),(0:Int),[]⟩:zE)))] (ar 45 (ac (rfl:wJ [Ii ((⟨(0:Int),(0:Int),([]:List Int),(0:Int),(0:Int),[]⟩:zE).At),Ii ((⟨(0:Int),(0:Int),([]:List Int),(0:Int),(0:Int),[]⟩:zE).Kind),.str ((⟨(0:Int),(0:Int),([]:List Int),(0:Int),(0:Int),[]⟩:zE).Name),Ii ((⟨(0:Int),(0:Int),([]:List Int),(0:Int),(0:Int),[]⟩:zE).N),Ii ((⟨(0:Int),(0:Int),([]:List Int),(0:Int),(0:Int),[]⟩:zE).M),.sl false 1 (Ms ((⟨(0:Int),(0:Int),([]:List Int),(0:Int),(0:Int),[]⟩:zE).Stack))]=true) (ac (rfl:(Ii 0:AV)=Ii ((⟨(0:Int),(0:Int),([]:List Int),(0:Int),(0:Int),[]⟩:zE).At)) (ac (rfl:(Ii 0:AV)=Ii ((⟨(0:Int),(0:Int),([]:List Int),(0:Int),(0:Int),[]⟩:zE).Kind)) (ac (rfl:(.str ([]:List Int):AV)=.str ((⟨(0:Int),(0:Int),([]:List Int),(0:Int),(0:Int),[]⟩:zE).Name)) (ac (rfl:(Ii 0:AV)=Ii ((⟨(0:Int),(0:Int),([]:List Int),(0:Int),(0:Int),[]⟩:zE).N)) (ac (rfl:(Ii 0:AV)=Ii ((⟨(0:Int),(0:Int),([]:List Int),(0:Int),(0:Int),[]⟩:zE).M)) (ac (rfl:((Ms ((⟨(0:Int),(0:Int),([]:List Int),(0:Int),(0:Int),[]⟩:zE).Stack)):List AV)=[]) an)))))))) ?_
  refine rt ?_
  cases h
  exact ⟨rfl,Nat.le_of_ble_eq_true rfl,by kernel_rfl⟩
 intro e st1 hk
 rcases o_6 with q_1 | q_2
 rotate_left
 ·obtain ⟨rfl,hf⟩:=hk
  cases h
  exact ⟨st1,Sub.refl _ _,.inr rfl,hf⟩
 obtain ⟨rfl,hs⟩:=hk
 refine ⟨_,hs,?_⟩
 refine sq ?_
 refine sr [] [0,1,6,9,11,16,17,102] [0,1,2] 3 [.sl false 1 (Ms names_1),.sl false 2 (Mp zD stacks_1),Pp 0,Pp 1,Pp 2,Ii o_2.1,Ii o_5.1,.bool r_4.1] [Vb 45 [Ii 0,Ii 0,.str ([]:List Int),Ii 0,Ii 0,.nilsl],Vb 136 [.sl false 1 (Mb o_5.2.1),Ii o_5.2.2.1,Ii o_5.2.2.2],Vb 45 [Ii r_3.1,Ii r_2.1,.str ([]:List Int),Ii o_3.2.2.2,Ii o_4.2.2.2,.nilsl]] zG an ?_
 obtain ⟨o_7,h_15,h⟩:=bind_some h
 refine yE (mk [(0,.sl false 1 (Ms names_1)),(1,.sl false 2 (Mp zD stacks_1)),(6,Pp 0),(9,Pp 1),(11,Pp 2),(17,Ii o_5.1)] [(0,Vb 45 [Ii 0,Ii 0,.str ([]:List Int),Ii 0,Ii 0,.nilsl]),(1,Vb 136 [.sl false 1 (Mb o_5.2.1),Ii o_5.2.2.1,Ii o_5.2.2.2]),(2,Vb 45 [Ii r_3.1,Ii r_2.1,.str o_7,Ii o_3.2.2.2,Ii o_4.2.2.2,.nilsl])] 3) ?_ ?_
 ·replace h:=h_15
  refine cd 102 r_4.1 ?_ ?_
  rotate_left
  ·intro g_10;replace h:=zS g_10 h
   refine sk ?_
   cases h
   exact ⟨rfl,(sw [0,1,2] [] [.s 0,.s 1,.s 6,.s 9,.s 11,.s 17] [.s 0,.s 1,.s 2] an)⟩
  intro g_10;replace h:=zR g_10 h
  obtain ⟨x_1,h_16,h⟩:=bind_some h
  refine rg [(2,{ av:=.str x_1 })] [0,1,6,9,11,17] [0,1,2] 3 [.sl false 1 (Ms names_1),.sl false 2 (Mp zD stacks_1),Pp 0,Pp 1,Pp 2,Ii o_5.1] [Vb 45 [Ii 0,Ii 0,.str ([]:List Int),Ii 0,Ii 0,.nilsl],Vb 136 [.sl false 1 (Mb o_5.2.1),Ii o_5.2.2.1,Ii o_5.2.2.2],Vb 45 [Ii r_3.1,Ii r_2.1,.str x_1,Ii o_3.2.2.2,Ii o_4.2.2.2,.nilsl]] zG (ac (vQ h_16:uK (Ms names_1) o_2.1=some (.str x_1)) an) ?_
  cases h
  exact ⟨rfl,(sw [0,1,2] [] [.s 0,.s 1,.s 6,.s 9,.s 11,.s 17] [.s 0,.s 1,.s 2] an)⟩
 refine sq ?_
 obtain ⟨r_9,h_17,h⟩:=bind_some h
 refine rg [(3,{ av:=.tuple [.own 0 ((r_9.1).length),Ii r_9.2],ids:=[3],l:=[.sl false 1 (Ms names_1),.sl false 2 (Mp zD stacks_1),Ii o_5.1],post:=[(.row 9 1 (Ms r_9.1))] })] [6,9,11] [0,1,2,3] 4 [Pp 0,Pp 1,Pp 2] [Vb 45 [Ii 0,Ii 0,.str ([]:List Int),Ii 0,Ii 0,.nilsl],Vb 136 [.sl false 1 (Mb o_5.2.1),Ii o_5.2.2.1,Ii o_5.2.2.2],Vb 45 [Ii r_3.1,Ii r_2.1,.str o_7,Ii o_3.2.2.2,Ii o_4.2.2.2,.own 3 ((r_9.1).length)],Rb 9 1 (Ms r_9.1)] zG (ar ([.sl false 1 (Ms names_1),.sl false 2 (Mp zD stacks_1),Ii o_5.1]:List AV) (ac (rfl:([]:List zP)=[]) (ac (zEo F names_1 stacks_1 o_5.1 r_9 h_17:zQ prog 98 [] [] [.sl false 1 (Ms names_1),.sl false 2 (Mp zD stacks_1),Ii o_5.1] [(.row 9 1 (Ms r_9.1))] (.tuple [.own 0 ((r_9.1).length),Ii r_9.2])) an))) ?_
 refine sq ?_
 refine sq ?_
 obtain ⟨r_10,h_18,h⟩:=bind_some h
 refine rg [(1,{ av:=Ii r_10,l:=[.agg [Ii r_3.1,Ii r_2.1,.str o_7,Ii o_3.2.2.2,Ii o_4.2.2.2,.sl false 1 (Ms r_9.1)]],lend:=[3] })] [6,9,11,118] [0,1,2,3] 4 [Pp 0,Pp 1,Pp 2,.bool (r_10 != (0:Int))] [Vb 45 [Ii 0,Ii 0,.str ([]:List Int),Ii 0,Ii 0,.nilsl],Vb 136 [.sl false 1 (Mb o_5.2.1),Ii o_5.2.2.1,Ii o_5.2.2.2],Vb 45 [Ii r_3.1,Ii r_2.1,.str o_7,Ii o_3.2.2.2,Ii o_4.2.2.2,.own 3 ((r_9.1).length)],Rb 9 1 (Ms r_9.1)] zG (ac (by first | (simp;done) | (simp;omega):(r_9.1).length=((List.map AV.str r_9.1)).length) (ar ([.agg [Ii r_3.1,Ii r_2.1,.str o_7,Ii o_3.2.2.2,Ii o_4.2.2.2,.sl false 1 (Ms r_9.1)]]:List AV) (ac (rfl:([]:List zP)=[]) (ac (wK (args':=[zF (⟨r_3.1,r_2.1,o_7,o_3.2.2.2,o_4.2.2.2,r_9.1⟩:zE)]) (nK F (⟨r_3.1,r_2.1,o_7,o_3.2.2.2,o_4.2.2.2,r_9.1⟩:zE) r_10 h_18) rfl ⟨rfl,rfl,rfl,rfl,rfl,rfl,rfl,rfl,trivial⟩:zQ prog 38 [] [] [.agg [Ii r_3.1,Ii r_2.1,.str o_7,Ii o_3.2.2.2,Ii o_4.2.2.2,.sl false 1 (Ms r_9.1)]] [] (Ii r_10)) an)))) ?_
 refine cd 118 (r_10 != (0:Int)) ?_ ?_
 ·intro g_11;replace h:=zR g_11 h
  refine sr [] [6,7,8] [0] 4 [Pp 0,Ii 0,Ii 10] [Vb 45 [Ii 0,Ii 0,.str ([]:List Int),Ii 0,Ii 0,.nilsl]] zG an ?_
  refine wk [0] [] [.s 6,.s 7,.s 8] [.a 0 (Vb 45 (zM (⟨(0:Int),(0:Int),([]:List Int),(0:Int),(0:Int),[]⟩:zE)))] [(6,Pp 0),(7,Ii 0),(8,Ii 10)] [(0,Vb 45 (zM (⟨(0:Int),(0:Int),([]:List Int),(0:Int),(0:Int),[]⟩:zE)))] (ar 45 (ac (rfl:wJ [Ii ((⟨(0:Int),(0:Int),([]:List Int),(0:Int),(0:Int),[]⟩:zE).At),Ii ((⟨(0:Int),(0:Int),([]:List Int),(0:Int),(0:Int),[]⟩:zE).Kind),.str ((⟨(0:Int),(0:Int),([]:List Int),(0:Int),(0:Int),[]⟩:zE).Name),Ii ((⟨(0:Int),(0:Int),([]:List Int),(0:Int),(0:Int),[]⟩:zE).N),Ii ((⟨(0:Int),(0:Int),([]:List Int),(0:Int),(0:Int),[]⟩:zE).M),.sl false 1 (Ms ((⟨(0:Int),(0:Int),([]:List Int),(0:Int),(0:Int),[]⟩:zE).Stack))]=true) (ac (rfl:(Ii 0:AV)=Ii ((⟨(0:Int),(0:Int),([]:List Int),(0:Int),(0:Int),[]⟩:zE).At)) (ac (rfl:(Ii 0:AV)=Ii ((⟨(0:Int),(0:Int),([]:List Int),(0:Int),(0:Int),[]⟩:zE).Kind)) (ac (rfl:(.str ([]:List Int):AV)=.str ((⟨(0:Int),(0:Int),([]:List Int),(0:Int),(0:Int),[]⟩:zE).Name)) (ac (rfl:(Ii 0:AV)=Ii ((⟨(0:Int),(0:Int),([]:List Int),(0:Int),(0:Int),[]⟩:zE).N)) (ac (rfl:(Ii 0:AV)=Ii ((⟨(0:Int),(0:Int),([]:List Int),(0:Int),(0:Int),[]⟩:zE).M)) (ac (rfl:((Ms ((⟨(0:Int),(0:Int),([]:List Int),(0:Int),(0:Int),[]⟩:zE).Stack)):List AV)=[]) an)))))))) ?_
  refine rt ?_
  cases h
  exact ⟨.inr rfl,Nat.le_of_ble_eq_true rfl,by kernel_rfl⟩
 intro g_11;replace h:=zS g_11 h
 refine sk ?_
 refine sr [] [6,7,8] [0,3] 4 [Pp 0,Ii o_5.2.2.1,Ii 0] [Vb 45 [Ii r_3.1,Ii r_2.1,.str o_7,Ii o_3.2.2.2,Ii o_4.2.2.2,.own 3 ((r_9.1).length)],Rb 9 1 (Ms r_9.1)] zG an ?_
 refine wk [0] [3] [.s 6,.s 7,.s 8] [.a 0 (Vb 45 (zM (⟨r_3.1,r_2.1,o_7,o_3.2.2.2,o_4.2.2.2,r_9.1⟩:zE)))] [(6,Pp 0),(7,Ii o_5.2.2.1),(8,Ii 0)] [(0,Vb 45 (zM (⟨r_3.1,r_2.1,o_7,o_3.2.2.2,o_4.2.2.2,r_9.1⟩:zE)))] (ar 45 (ac (rfl:wJ [Ii ((⟨r_3.1,r_2.1,o_7,o_3.2.2.2,o_4.2.2.2,r_9.1⟩:zE).At),Ii ((⟨r_3.1,r_2.1,o_7,o_3.2.2.2,o_4.2.2.2,r_9.1⟩:zE).Kind),.str ((⟨r_3.1,r_2.1,o_7,o_3.2.2.2,o_4.2.2.2,r_9.1⟩:zE).Name),Ii ((⟨r_3.1,r_2.1,o_7,o_3.2.2.2,o_4.2.2.2,r_9.1⟩:zE).N),Ii ((⟨r_3.1,r_2.1,o_7,o_3.2.2.2,o_4.2.2.2,r_9.1⟩:zE).M),.sl false 1 (Ms ((⟨r_3.1,r_2.1,o_7,o_3.2.2.2,o_4.2.2.2,r_9.1⟩:zE).Stack))]=true) (ac (by first | (simp;done) | (simp;omega):(r_9.1).length=((List.map AV.str r_9.1)).length) (ac (rfl:(Ii r_3.1:AV)=Ii ((⟨r_3.1,r_2.1,o_7,o_3.2.2.2,o_4.2.2.2,r_9.1⟩:zE).At)) (ac (rfl:(Ii r_2.1:AV)=Ii ((⟨r_3.1,r_2.1,o_7,o_3.2.2.2,o_4.2.2.2,r_9.1⟩:zE).Kind)) (ac (rfl:(.str o_7:AV)=.str ((⟨r_3.1,r_2.1,o_7,o_3.2.2.2,o_4.2.2.2,r_9.1⟩:zE).Name)) (ac (rfl:(Ii o_3.2.2.2:AV)=Ii ((⟨r_3.1,r_2.1,o_7,o_3.2.2.2,o_4.2.2.2,r_9.1⟩:zE).N)) (ac (rfl:(Ii o_4.2.2.2:AV)=Ii ((⟨r_3.1,r_2.1,o_7,o_3.2.2.2,o_4.2.2.2,r_9.1⟩:zE).M)) (ar 1 (ac (rfl:((Ms r_9.1):List AV)=(Ms ((⟨r_3.1,r_2.1,o_7,o_3.2.2.2,o_4.2.2.2,r_9.1⟩:zE).Stack))) (ac (rfl:(!false||false)=true) an))))))))))) ?_
 refine rt ?_
 cases h
 exact ⟨.inr rfl,Nat.le_of_ble_eq_true rfl,by kernel_rfl⟩
theorem zCz (F:Nat) (p_1:zA) (r:(List (zE))×Bool) (h:qL F p_1=some r):zQ prog 52 [] [] [zO p_1] [.row 45 6 (Mp zF r.1)] (.tuple [.own 0 ((r.1).length),.bool r.2]):=by
 refine zV (fn:=Go.Proofs.Try.f52) (code:=yI Go.Proofs.Try.f52) (by kernel_rfl) (by kernel_rfl) (Nat.le_of_ble_eq_true (by kernel_rfl)) ?_
 unfold qL at h
 refine sr [(0,{ id:=0 }),(1,{ id:=1,m:=1 })] [1] [0] 2 [Pp 0] [Vb 32 (zK p_1)] zG an ?_
 refine sq ?_
 obtain ⟨r_1,h_1,h⟩:=bind_some h
 refine rg [(2,{ av:=.tuple [.own 0 ((r_1.1).length),z5 r_1.2],ids:=[2],l:=[z5 p_1.Ring],post:=[(.row 28 1 (List.map (fun l=>AV.sl false 1 (l.map (AV.int .u8))) r_1.1))] }),(6,{ id:=3 })] [1,4] [0,2] 4 [Pp 0,.own 2 ((r_1.1).length)] [Vb 32 (zK p_1),Rb 28 1 (List.map (fun l=>AV.sl false 1 (l.map (AV.int .u8))) r_1.1)] zG (ar ([z5 p_1.Ring]:List AV) (ac (rfl:([]:List zP)=[]) (ac (zCI F p_1.Ring r_1 h_1:zQ prog 35 [] [] [z5 p_1.Ring] [(.row 28 1 (List.map (fun l=>AV.sl false 1 (l.map (AV.int .u8))) r_1.1))] (.tuple [.own 0 ((r_1.1).length),z5 r_1.2])) an))) ?_
 refine sr [(0,{ id:=4,m:=1 })] [1,4,6] [0,2,4] 5 [Pp 0,.own 2 ((r_1.1).length),.own 4 0] [Vb 32 (zK p_1),Rb 28 1 (List.map (fun l=>AV.sl false 1 (l.map (AV.int .u8))) r_1.1),Rb 45 6 []] zG an ?_
 refine sq ?_
 refine sr [] [1,6,18,19,20] [0,2,4] 5 [Pp 0,.own 4 0,.own 2 ((r_1.1).length),Ii (lN (r_1.1)),Ii 0] [Vb 32 (zK p_1),Rb 28 1 (List.map (fun l=>AV.sl false 1 (l.map (AV.int .u8))) r_1.1),Rb 45 6 []] zG an ?_
 obtain ⟨o_1,h_2,h⟩:=bind_some h
 refine wZ (K1:=(fun e st'=>match o_1 with | (.inl q0)=>e=.normal∧Sub 0 st' (mk [(6,.own 0 ((q0).length))] [(0,Rb 45 6 (Mp zF q0))] 1) | (.inr q1)=>e=.ret∧jB prog Go.Proofs.Try.f52 0 [.row 45 6 (Mp zF q1.1)] (.tuple [.own 0 ((q1.1).length),.bool q1.2]) st')) ?_ ?_
 ·replace h:=h_2
  refine z6 (id:=0) (by kernel_rfl) ?_
  refine wk [0,4,2] [] [.s 1,.s 6,.s 18,.s 19,.s 20] [.s 0,.s 1,.s 2] [(1,Pp 0),(6,.own 1 0),(18,.own 2 ((r_1.1).length)),(19,Ii (lN (r_1.1))),(20,Ii 0)] [(0,Vb 32 (zK p_1)),(1,Rb 45 6 []),(2,Rb 28 1 (List.map (fun l=>AV.sl false 1 (l.map (AV.int .u8))) r_1.1))] an ?_
  refine xQ (fun n st=>∃ (v_1:Int),∃ (row_1:List zE),st=mk [(1,Pp 0),(6,.own 1 ((row_1).length)),(18,.own 2 ((r_1.1).length)),(19,Ii (lN (r_1.1))),(20,Ii v_1)] [(0,Vb 32 (zK p_1)),(1,Rb 45 6 (Mp zF row_1)),(2,Rb 28 1 (List.map (fun l=>AV.sl false 1 (l.map (AV.int .u8))) r_1.1))] 3∧uV F p_1 r_1 n v_1 row_1=some o_1) F (by kernel_rfl) ⟨_,_,rfl,h⟩ ?_ ?_
  ·rintro _ ⟨_,_,_,h⟩;exact wH (h:(none:Option ((List zE)⊕((List (zE))×Bool)))=some o_1)
  rintro n_1 _ ⟨v_1,row_1,rfl,h⟩
  replace h:vC F p_1 r_1 (uV F p_1 r_1 n_1) v_1 row_1=some o_1:=h
  unfold vC at h
  refine sr [] [1,6,18,19,20,21] [0,1,2] 3 [Pp 0,.own 1 ((row_1).length),.own 2 ((r_1.1).length),Ii (lN (r_1.1)),Ii v_1,.bool (decide (v_1<(lN (r_1.1))))] [Vb 32 (zK p_1),Rb 45 6 (Mp zF row_1),Rb 28 1 (List.map (fun l=>AV.sl false 1 (l.map (AV.int .u8))) r_1.1)] zG an ?_
  refine sq ?_
  refine cd 21 (decide (v_1<(lN (r_1.1)))) ?_ ?_
  rotate_left
  ·intro g_1;replace h:=zS g_1 h
   refine xR (id:=0) (by kernel_rfl) ?_
   cases h
   exact ⟨rfl,(sw [1] [] [.s 6] [.s 0] an)⟩
  intro g_1;replace h:=zR g_1 h
  refine sk ?_
  refine sq ?_
  refine z6 (id:=1) (by kernel_rfl) ?_
  refine sq ?_
  obtain ⟨x_1,h_3,h⟩:=bind_some h
  refine rg [(1,{ av:=.sl false 1 (Mb x_1) })] [1,6,8,18,19,20] [0,1,2] 3 [Pp 0,.own 1 ((row_1).length),.sl false 1 (Mb x_1),.own 2 ((r_1.1).length),Ii (lN (r_1.1)),Ii v_1] [Vb 32 (zK p_1),Rb 45 6 (Mp zF row_1),Rb 28 1 (List.map (fun l=>AV.sl false 1 (l.map (AV.int .u8))) r_1.1)] zG (ac (yP h_3:(0:Int)≤v_1) (ac (by first | (simp;done) | simpa using yN h_3:v_1<(((r_1.1).length:Nat):Int)) (ac (y0 h_3:(List.map (fun l=>AV.sl false 1 (l.map (AV.int .u8))) r_1.1)[(v_1).toNat]?=some (.sl false 1 (Mb x_1))) an))) ?_
  refine sq ?_
  obtain ⟨r_2,h_4,h⟩:=bind_some h
  refine rg [(5,{ av:=.tuple [zF r_2.1,Ii r_2.2.1,Ii r_2.2.2],l:=[.sl false 1 (Ms p_1.Names),.sl false 2 (Mp zD p_1.Stacks),.sl false 1 (Mb x_1)] }),(10,{ id:=3 })] [1,6,8,9,10,11,18,19,20] [0,1,2,3] 4 [Pp 0,.own 1 ((row_1).length),.sl false 1 (Mb x_1),Pp 3,Ii r_2.2.1,Ii r_2.2.2,.own 2 ((r_1.1).length),Ii (lN (r_1.1)),Ii v_1] [Vb 32 (zK p_1),Rb 45 6 (Mp zF row_1),Rb 28 1 (List.map (fun l=>AV.sl false 1 (l.map (AV.int .u8))) r_1.1),Vb 45 (zM r_2.1)] zG (ar ([.sl false 1 (Ms p_1.Names),.sl false 2 (Mp zD p_1.Stacks),.sl false 1 (Mb x_1)]:List AV) (ac (rfl:([]:List zP)=[]) (ac (zDK F p_1.Names p_1.Stacks x_1 r_2 h_4:zQ prog 79 [] [] [.sl false 1 (Ms p_1.Names),.sl false 2 (Mp zD p_1.Stacks),.sl false 1 (Mb x_1)] [] (.tuple [zF r_2.1,Ii r_2.2.1,Ii r_2.2.2])) an))) ?_
  refine sq ?_
  refine sq ?_
  refine yE (mk [(1,Pp 0),(6,.own 1 ((row_1).length)),(9,Pp 2),(18,.own 3 ((r_1.1).length)),(19,Ii (lN (r_1.1))),(20,Ii v_1),(41,.bool ((r_2.2.2 != (0:Int))||(r_2.2.1 != (lN (x_1)))))] [(0,Vb 32 (zK p_1)),(1,Rb 45 6 (Mp zF row_1)),(2,Vb 45 (zM r_2.1)),(3,Rb 28 1 (List.map (fun l=>AV.sl false 1 (l.map (AV.int .u8))) r_1.1))] 4) ?_ ?_
  ·rcases bft (r_2.2.2 != (0:Int)) with gg_8 | gg_8
   ·refine rg [(3,Hg),(4,Hg),(5,Hg),(6,Hg),(7,Ht)] [1,6,9,18,19,20,37,38,39,40,41] [0,1,2,3] 4 [Pp 0,.own 1 ((row_1).length),Pp 3,.own 2 ((r_1.1).length),Ii (lN (r_1.1)),Ii v_1,.tuple [],.tuple [],.tuple [],.tuple [],.bool true] [Vb 32 (zK p_1),Rb 45 6 (Mp zF row_1),Rb 28 1 (List.map (fun l=>AV.sl false 1 (l.map (AV.int .u8))) r_1.1),Vb 45 (zM r_2.1)] zG (ac gg_8 (ac gg_8 (ac gg_8 (ac gg_8 (ac gg_8 an))))) ?_
    exact ⟨rfl,(sw [0,1,3,2] [] [.s 1,.s 6,.s 9,.s 18,.s 19,.s 20,.a 41 (.bool ((r_2.2.2 != (0:Int))||(r_2.2.1 != (lN (x_1)))))] [.s 0,.s 1,.s 2,.s 3] (ac (congrArg AV.bool (ort gg_8):(.bool true:AV)=.bool ((r_2.2.2 != (0:Int))||(r_2.2.1 != (lN (x_1))))) an))⟩
   ·refine rg [(5,{ n:=(x_1).length }),(7,Hf)] [1,6,9,18,19,20,37,38,39,40,41] [0,1,2,3] 4 [Pp 0,.own 1 ((row_1).length),Pp 3,.own 2 ((r_1.1).length),Ii (lN (r_1.1)),Ii v_1,Ii r_2.2.1,.sl false 1 (Mb x_1),Ii (lN (x_1)),.bool (r_2.2.1 != (lN (x_1))),.bool (r_2.2.1 != (lN (x_1)))] [Vb 32 (zK p_1),Rb 45 6 (Mp zF row_1),Rb 28 1 (List.map (fun l=>AV.sl false 1 (l.map (AV.int .u8))) r_1.1),Vb 45 (zM r_2.1)] zG (ac gg_8 (ac gg_8 (ac gg_8 (ac (z9 _:((Mb x_1)).length=(x_1).length) (ac gg_8 (ac gg_8 an)))))) ?_
    exact ⟨rfl,(sw [0,1,3,2] [] [.s 1,.s 6,.s 9,.s 18,.s 19,.s 20,.a 41 (.bool ((r_2.2.2 != (0:Int))||(r_2.2.1 != (lN (x_1)))))] [.s 0,.s 1,.s 2,.s 3] (ac (congrArg AV.bool (orf gg_8 rfl):(.bool (r_2.2.1 != (lN (x_1))):AV)=.bool ((r_2.2.2 != (0:Int))||(r_2.2.1 != (lN (x_1))))) an))⟩
  refine cd 41 ((r_2.2.2 != (0:Int))||(r_2.2.1 != (lN (x_1)))) ?_ ?_
  rotate_left
  ·intro g_2;replace h:=zS g_2 h
   refine sk ?_
   obtain ⟨_,h_5,h⟩:=bind_some h;replace h_5:=yD h_5
   refine rg [(2,{ id:=4 }),(3,{ id:=5,l:=(Mp zF (row_1++([r_2.1]:List zE))),n:=((row_1++([r_2.1]:List zE))).length })] [1,6,18,19,20] [0,3,5] 6 [Pp 0,.own 5 (((row_1++([r_2.1]:List zE))).length),.own 3 ((r_1.1).length),Ii (lN (r_1.1)),Ii v_1] [Vb 32 (zK p_1),Rb 28 1 (List.map (fun l=>AV.sl false 1 (l.map (AV.int .u8))) r_1.1),Rb 45 6 (Mp zF (row_1++([r_2.1]:List zE)))] zG (ac (by first | (simp;done) | (simp;omega):(row_1).length=((List.map zF row_1)).length) (ac (by first | (simp;done) | (simp;omega):1=((List.map zF ([r_2.1]:List zE))).length) (ac (zAc _ _:(Mp zF (row_1++([r_2.1]:List zE)))=(Mp zF row_1)++(Mp zF ([r_2.1]:List zE))) (ac (by simp:((row_1++([r_2.1]:List zE))).length=((List.map zF (row_1++([r_2.1]:List zE)))).length) (ac (by first | (simp;done) | simpa using h_5:(((List.map zF row_1):List AV).length+((List.map zF ([r_2.1]:List zE)):List AV).length) * 72≤140737488355328) an))))) ?_
   refine rg [] [1,6,18,19,20] [0,3,5] 6 [Pp 0,.own 5 (((row_1++([r_2.1]:List zE))).length),.own 3 ((r_1.1).length),Ii (lN (r_1.1)),Ii (zH (v_1+(1:Int)))] [Vb 32 (zK p_1),Rb 28 1 (List.map (fun l=>AV.sl false 1 (l.map (AV.int .u8))) r_1.1),Rb 45 6 (Mp zF (row_1++([r_2.1]:List zE)))] zG an ?_
   exact ⟨_,(sw [0,5,3] [] [.s 1,.s 6,.s 18,.s 19,.s 20] [.s 0,.s 1,.s 2] an),_,_,rfl,h⟩
  intro g_2;replace h:=zR g_2 h
  refine sr [(0,{ id:=4,m:=1 })] [2,3] [4] 5 [.own 4 0,.bool false] [Rb 45 6 []] zG an ?_
  refine wk [4] [] [.a 2 (.own 0 ((([]:List zE)).length)),.s 3] [.s 0] [(2,.own 0 ((([]:List zE)).length)),(3,.bool false)] [(0,Rb 45 6 [])] (ac (congrArg (AV.own _) (by first | (simp;done) | (simp;omega)):(.own 4 0:AV)=.own 4 ((([]:List zE)).length)) an) ?_
  refine rt ?_
  cases h
  exact ⟨rfl,Nat.le_of_ble_eq_true rfl,by kernel_rfl⟩
 intro e st1 hk
 rcases o_1 with q_1 | q_2
 rotate_left
 ·obtain ⟨rfl,hf⟩:=hk
  cases h
  exact ⟨st1,Sub.refl _ _,.inr rfl,hf⟩
 obtain ⟨rfl,hs⟩:=hk
 refine ⟨_,hs,?_⟩
 refine sr [] [2,3] [0] 1 [.own 0 ((q_1).length),.bool true] [Rb 45 6 (Mp zF q_1)] zG an ?_
 refine wk [0] [] [.s 2,.s 3] [.s 0] [(2,.own 0 ((q_1).length)),(3,.bool true)] [(0,Rb 45 6 (Mp zF q_1))] an ?_
 refine rt ?_
 cases h
 exact ⟨.inr rfl,Nat.le_of_ble_eq_true rfl,by kernel_rfl⟩
theorem nG (F:Nat) (p_1:zA) (r:(List (zE))×Int) (h:uM F p_1=some r):zQ prog 34 [] [] [zO p_1] [.row 45 6 (Mp zF r.1)] (.tuple [.own 0 ((r.1).length),Ii r.2]):=by
 refine zV (fn:=Go.Proofs.Try.f34) (code:=yI Go.Proofs.Try.f34) (by kernel_rfl) (by kernel_rfl) (Nat.le_of_ble_eq_true (by kernel_rfl)) ?_
 unfold uM at h
 refine sr [(0,{ id:=0 }),(1,{ id:=1,m:=1 })] [1] [0] 2 [Pp 0] [Vb 32 (zK p_1)] zG an ?_
 refine sq ?_
 refine sq ?_
 obtain ⟨r_1,h_1,h⟩:=bind_some h
 refine rg [(2,{ av:=Ii r_1,l:=[wF p_1.Thread] })] [1,4] [0] 2 [Pp 0,Ii r_1] [Vb 32 (zK p_1)] zG (ar ([wF p_1.Thread]:List AV) (ac (rfl:([]:List zP)=[]) (ac (zAi F p_1.Thread r_1 h_1:zQ prog 11 [] [] [wF p_1.Thread] [] (Ii r_1)) an))) ?_
 refine sr [] [1,4,16] [0] 2 [Pp 0,Ii r_1,.bool (r_1 != (0:Int))] [Vb 32 (zK p_1)] zG an ?_
 refine cd 16 (r_1 != (0:Int)) ?_ ?_
 ·intro g_1;replace h:=zR g_1 h
  refine sr [(1,{ id:=2,m:=1 })] [2,3] [2] 3 [.own 2 0,Ii r_1] [Rb 45 6 []] zG an ?_
  refine wk [2] [] [.a 2 (.own 0 ((([]:List zE)).length)),.s 3] [.s 0] [(2,.own 0 ((([]:List zE)).length)),(3,Ii r_1)] [(0,Rb 45 6 [])] (ac (congrArg (AV.own _) (by first | (simp;done) | (simp;omega)):(.own 2 0:AV)=.own 2 ((([]:List zE)).length)) an) ?_
  refine rt ?_
  cases h
  exact ⟨.inr rfl,Nat.le_of_ble_eq_true rfl,by kernel_rfl⟩
 intro g_1;replace h:=zS g_1 h
 refine sk ?_
 refine sq ?_
 refine sq ?_
 obtain ⟨r_2,h_2,h⟩:=bind_some h
 refine rg [(4,{ av:=Ii r_2,l:=[.sl false 1 (Ms p_1.Names),.sl false 2 (Mp zD p_1.Stacks)] })] [1,5] [0] 2 [Pp 0,Ii r_2] [Vb 32 (zK p_1)] zG (ar ([.sl false 1 (Ms p_1.Names),.sl false 2 (Mp zD p_1.Stacks)]:List AV) (ac (rfl:([]:List zP)=[]) (ac (j6 F p_1.Names p_1.Stacks r_2 h_2:zQ prog 50 [] [] [.sl false 1 (Ms p_1.Names),.sl false 2 (Mp zD p_1.Stacks)] [] (Ii r_2)) an))) ?_
 refine sr [] [1,5,24] [0] 2 [Pp 0,Ii r_2,.bool (r_2 != (0:Int))] [Vb 32 (zK p_1)] zG an ?_
 refine cd 24 (r_2 != (0:Int)) ?_ ?_
 ·intro g_2;replace h:=zR g_2 h
  refine sr [(1,{ id:=2,m:=1 })] [2,3] [2] 3 [.own 2 0,Ii r_2] [Rb 45 6 []] zG an ?_
  refine wk [2] [] [.a 2 (.own 0 ((([]:List zE)).length)),.s 3] [.s 0] [(2,.own 0 ((([]:List zE)).length)),(3,Ii r_2)] [(0,Rb 45 6 [])] (ac (congrArg (AV.own _) (by first | (simp;done) | (simp;omega)):(.own 2 0:AV)=.own 2 ((([]:List zE)).length)) an) ?_
  refine rt ?_
  cases h
  exact ⟨.inr rfl,Nat.le_of_ble_eq_true rfl,by kernel_rfl⟩
 intro g_2;replace h:=zS g_2 h
 refine sk ?_
 refine sq ?_
 refine sq ?_
 obtain ⟨r_3,h_3,h⟩:=bind_some h
 refine rg [(2,{ av:=Ii r_3,l:=[z5 p_1.Ring] })] [1,6] [0] 2 [Pp 0,Ii r_3] [Vb 32 (zK p_1)] zG (ar ([z5 p_1.Ring]:List AV) (ac (rfl:([]:List zP)=[]) (ac (zGe F p_1.Ring r_3 h_3:zQ prog 51 [] [] [z5 p_1.Ring] [] (Ii r_3)) an))) ?_
 refine sr [] [1,6,30] [0] 2 [Pp 0,Ii r_3,.bool (r_3 != (0:Int))] [Vb 32 (zK p_1)] zG an ?_
 refine cd 30 (r_3 != (0:Int)) ?_ ?_
 ·intro g_3;replace h:=zR g_3 h
  refine sr [(1,{ id:=2,m:=1 })] [2,3] [2] 3 [.own 2 0,Ii r_3] [Rb 45 6 []] zG an ?_
  refine wk [2] [] [.a 2 (.own 0 ((([]:List zE)).length)),.s 3] [.s 0] [(2,.own 0 ((([]:List zE)).length)),(3,Ii r_3)] [(0,Rb 45 6 [])] (ac (congrArg (AV.own _) (by first | (simp;done) | (simp;omega)):(.own 2 0:AV)=.own 2 ((([]:List zE)).length)) an) ?_
  refine rt ?_
  cases h
  exact ⟨.inr rfl,Nat.le_of_ble_eq_true rfl,by kernel_rfl⟩
 intro g_3;replace h:=zS g_3 h
 refine sk ?_
 refine sq ?_
 refine sq ?_
 refine yE (mk [(1,Pp 0),(52,.bool (decide (p_1.Sent<(0:Int))||(decide (p_1.Sent>p_1.Ring.First)||(decide (p_1.Last<(0:Int))||decide (p_1.Last>(1000000000000:Int))))))] [(0,Vb 32 (zK p_1))] 1) ?_ ?_
 ·rcases bft (decide (p_1.Sent<(0:Int))) with gg_9 | gg_9
  ·refine rg [(4,Hg),(5,Hg),(6,Hg),(7,Hg),(8,Hg),(9,Hg),(10,Ht),(12,Hg),(13,Hg),(14,Hg),(15,Ht),(17,Hg),(18,Hg),(19,Hg),(20,Ht)] [1,52] [0] 2 [Pp 0,.bool true] [Vb 32 (zK p_1)] zG (ac gg_9 (ac gg_9 (ac gg_9 (ac gg_9 (ac gg_9 (ac gg_9 (ac gg_9 (ax (ax (ax (ar true (ax (ax (ax (ar true an))))))))))))))) ?_
   exact ⟨rfl,(sw [0] [] [.s 1,.a 52 (.bool (decide (p_1.Sent<(0:Int))||(decide (p_1.Sent>p_1.Ring.First)||(decide (p_1.Last<(0:Int))||decide (p_1.Last>(1000000000000:Int))))))] [.s 0] (ac (congrArg AV.bool (ort gg_9):(.bool true:AV)=.bool (decide (p_1.Sent<(0:Int))||(decide (p_1.Sent>p_1.Ring.First)||(decide (p_1.Last<(0:Int))||decide (p_1.Last>(1000000000000:Int)))))) an))⟩
  ·rcases bft (decide (p_1.Sent>p_1.Ring.First)) with gg_10 | gg_10
   ·refine rg [(10,Hf),(12,Hg),(13,Hg),(14,Hg),(15,Ht),(17,Hg),(18,Hg),(19,Hg),(20,Ht)] [1,52] [0] 2 [Pp 0,.bool true] [Vb 32 (zK p_1)] zG (ac gg_9 (ac gg_9 (ac gg_9 (ac gg_9 (ac gg_9 (ac gg_9 (ac gg_9 (ac gg_10 (ac gg_10 (ac gg_10 (ac gg_10 (ax (ax (ax (ar true an))))))))))))))) ?_
    exact ⟨rfl,(sw [0] [] [.s 1,.a 52 (.bool (decide (p_1.Sent<(0:Int))||(decide (p_1.Sent>p_1.Ring.First)||(decide (p_1.Last<(0:Int))||decide (p_1.Last>(1000000000000:Int))))))] [.s 0] (ac (congrArg AV.bool (orf gg_9 (ort gg_10)):(.bool true:AV)=.bool (decide (p_1.Sent<(0:Int))||(decide (p_1.Sent>p_1.Ring.First)||(decide (p_1.Last<(0:Int))||decide (p_1.Last>(1000000000000:Int)))))) an))⟩
   ·rcases bft (decide (p_1.Last<(0:Int))) with gg_11 | gg_11
    ·refine rg [(10,Hf),(15,Hf),(17,Hg),(18,Hg),(19,Hg),(20,Ht)] [1,52] [0] 2 [Pp 0,.bool true] [Vb 32 (zK p_1)] zG (ac gg_9 (ac gg_9 (ac gg_9 (ac gg_9 (ac gg_9 (ac gg_9 (ac gg_9 (ac gg_10 (ac gg_10 (ac gg_10 (ac gg_10 (ac gg_11 (ac gg_11 (ac gg_11 (ac gg_11 an))))))))))))))) ?_
     exact ⟨rfl,(sw [0] [] [.s 1,.a 52 (.bool (decide (p_1.Sent<(0:Int))||(decide (p_1.Sent>p_1.Ring.First)||(decide (p_1.Last<(0:Int))||decide (p_1.Last>(1000000000000:Int))))))] [.s 0] (ac (congrArg AV.bool (orf gg_9 (orf gg_10 (ort gg_11))):(.bool true:AV)=.bool (decide (p_1.Sent<(0:Int))||(decide (p_1.Sent>p_1.Ring.First)||(decide (p_1.Last<(0:Int))||decide (p_1.Last>(1000000000000:Int)))))) an))⟩
    ·refine rg [(10,Hf),(15,Hf),(20,Hf)] [1,52] [0] 2 [Pp 0,.bool (decide (p_1.Last>(1000000000000:Int)))] [Vb 32 (zK p_1)] zG (ac gg_9 (ac gg_9 (ac gg_9 (ac gg_9 (ac gg_9 (ac gg_9 (ac gg_9 (ac gg_10 (ac gg_10 (ac gg_10 (ac gg_10 (ac gg_11 (ac gg_11 (ac gg_11 (ac gg_11 an))))))))))))))) ?_
     exact ⟨rfl,(sw [0] [] [.s 1,.a 52 (.bool (decide (p_1.Sent<(0:Int))||(decide (p_1.Sent>p_1.Ring.First)||(decide (p_1.Last<(0:Int))||decide (p_1.Last>(1000000000000:Int))))))] [.s 0] (ac (congrArg AV.bool (orf gg_9 (orf gg_10 (orf gg_11 rfl))):(.bool (decide (p_1.Last>(1000000000000:Int))):AV)=.bool (decide (p_1.Sent<(0:Int))||(decide (p_1.Sent>p_1.Ring.First)||(decide (p_1.Last<(0:Int))||decide (p_1.Last>(1000000000000:Int)))))) an))⟩
 refine cd 52 (decide (p_1.Sent<(0:Int))||(decide (p_1.Sent>p_1.Ring.First)||(decide (p_1.Last<(0:Int))||decide (p_1.Last>(1000000000000:Int))))) ?_ ?_
 ·intro g_4;replace h:=zR g_4 h
  refine sr [(0,{ id:=1,m:=1 })] [2,3] [1] 2 [.own 1 0,Ii 2] [Rb 45 6 []] zG an ?_
  refine wk [1] [] [.a 2 (.own 0 ((([]:List zE)).length)),.s 3] [.s 0] [(2,.own 0 ((([]:List zE)).length)),(3,Ii 2)] [(0,Rb 45 6 [])] (ac (congrArg (AV.own _) (by first | (simp;done) | (simp;omega)):(.own 1 0:AV)=.own 1 ((([]:List zE)).length)) an) ?_
  refine rt ?_
  cases h
  exact ⟨.inr rfl,Nat.le_of_ble_eq_true rfl,by kernel_rfl⟩
 intro g_4;replace h:=zS g_4 h
 refine sk ?_
 refine sq ?_
 obtain ⟨r_4,h_4,h⟩:=bind_some h
 refine rg [(1,{ av:=.tuple [.own 0 ((r_4.1).length),.bool r_4.2],ids:=[1],l:=[zO p_1],post:=[(.row 45 6 (Mp zF r_4.1))] })] [1,7,8] [0,1] 2 [Pp 0,.own 1 ((r_4.1).length),.bool r_4.2] [Vb 32 (zK p_1),Rb 45 6 (Mp zF r_4.1)] zG (ar ([zO p_1]:List AV) (ac (rfl:([]:List zP)=[]) (ac (zCz F p_1 r_4 h_4:zQ prog 52 [] [] [zO p_1] [(.row 45 6 (Mp zF r_4.1))] (.tuple [.own 0 ((r_4.1).length),.bool r_4.2])) an))) ?_
 refine sr [] [1,7,8,9] [0,1] 2 [Pp 0,.own 1 ((r_4.1).length),.bool r_4.2,Ii 0] [Vb 32 (zK p_1),Rb 45 6 (Mp zF r_4.1)] zG an ?_
 refine sq ?_
 refine sr [] [1,7,8,9,58,59,60] [0,1] 2 [Pp 0,.own 1 ((r_4.1).length),.bool r_4.2,Ii 0,.own 1 ((r_4.1).length),Ii (lN (r_4.1)),Ii 0] [Vb 32 (zK p_1),Rb 45 6 (Mp zF r_4.1)] zG an ?_
 obtain ⟨o_1,h_5,h⟩:=bind_some h
 refine yE (mk [(1,Pp 0),(7,.own 1 ((r_4.1).length)),(8,.bool o_1.1),(9,Ii o_1.2)] [(0,Vb 32 (zK p_1)),(1,Rb 45 6 (Mp zF r_4.1))] 2) ?_ ?_
 ·replace h:=h_5
  refine z6 (id:=0) (by kernel_rfl) ?_
  refine wk [0,1] [] [.s 1,.s 7,.s 8,.s 9,.s 58,.s 59,.s 60] [.s 0,.s 1] [(1,Pp 0),(7,.own 1 ((r_4.1).length)),(8,.bool r_4.2),(9,Ii 0),(58,.own 1 ((r_4.1).length)),(59,Ii (lN (r_4.1))),(60,Ii 0)] [(0,Vb 32 (zK p_1)),(1,Rb 45 6 (Mp zF r_4.1))] an ?_
  refine xQ (fun n st=>∃ (ok_1:Bool),∃ (last_1:Int),∃ (v_1:Int),st=mk [(1,Pp 0),(7,.own 1 ((r_4.1).length)),(8,.bool ok_1),(9,Ii last_1),(58,.own 1 ((r_4.1).length)),(59,Ii (lN (r_4.1))),(60,Ii v_1)] [(0,Vb 32 (zK p_1)),(1,Rb 45 6 (Mp zF r_4.1))] 2∧vM F r_4 n ok_1 last_1 v_1=some o_1) F (by kernel_rfl) ⟨_,_,_,rfl,h⟩ ?_ ?_
  ·rintro _ ⟨_,_,_,_,h⟩;exact wH (h:(none:Option (Bool×Int))=some o_1)
  rintro n_1 _ ⟨ok_1,last_1,v_1,rfl,h⟩
  replace h:w7 F r_4 (vM F r_4 n_1) ok_1 last_1 v_1=some o_1:=h
  unfold w7 at h
  refine sr [] [1,7,8,9,58,59,60,61] [0,1] 2 [Pp 0,.own 1 ((r_4.1).length),.bool ok_1,Ii last_1,.own 1 ((r_4.1).length),Ii (lN (r_4.1)),Ii v_1,.bool (decide (v_1<(lN (r_4.1))))] [Vb 32 (zK p_1),Rb 45 6 (Mp zF r_4.1)] zG an ?_
  refine sq ?_
  refine cd 61 (decide (v_1<(lN (r_4.1)))) ?_ ?_
  rotate_left
  ·intro g_5;replace h:=zS g_5 h
   refine xR (id:=0) (by kernel_rfl) ?_
   cases h
   exact ⟨rfl,(sw [0,1] [] [.s 1,.s 7,.s 8,.s 9] [.s 0,.s 1] an)⟩
  intro g_5;replace h:=zR g_5 h
  refine sk ?_
  refine sq ?_
  refine z6 (id:=1) (by kernel_rfl) ?_
  refine sq ?_
  obtain ⟨x_1,h_6,h⟩:=bind_some h
  refine rg [(1,{ av:=zF x_1 }),(2,{ id:=2 })] [1,7,8,9,11,58,59,60] [0,1,2] 3 [Pp 0,.own 1 ((r_4.1).length),.bool ok_1,Ii last_1,Pp 2,.own 1 ((r_4.1).length),Ii (lN (r_4.1)),Ii v_1] [Vb 32 (zK p_1),Rb 45 6 (Mp zF r_4.1),Vb 45 (zM x_1)] zG (ac (yP h_6:(0:Int)≤v_1) (ac (by first | (simp;done) | simpa using yN h_6:v_1<(((r_4.1).length:Nat):Int)) (ac (y0 h_6:(Mp zF r_4.1)[(v_1).toNat]?=some (zF x_1)) an))) ?_
  refine sq ?_
  refine yE (mk [(1,Pp 0),(7,.own 1 ((r_4.1).length)),(8,.bool (ok_1&&decide (x_1.At≥last_1))),(11,Pp 2),(58,.own 1 ((r_4.1).length)),(59,Ii (lN (r_4.1))),(60,Ii v_1)] [(0,Vb 32 (zK p_1)),(1,Rb 45 6 (Mp zF r_4.1)),(2,Vb 45 (zM x_1))] 3) ?_ ?_
  ·rcases Bool.eq_false_or_eq_true ok_1 with gg_15 | gg_15
   ·refine rg [(6,Ht)] [1,7,8,11,58,59,60,66,67,68,69] [0,1,2] 3 [Pp 0,.own 1 ((r_4.1).length),.bool (decide (x_1.At≥last_1)),Pp 2,.own 1 ((r_4.1).length),Ii (lN (r_4.1)),Ii v_1,Pp 2,Ii x_1.At,Ii last_1,.bool (decide (x_1.At≥last_1))] [Vb 32 (zK p_1),Rb 45 6 (Mp zF r_4.1),Vb 45 (zM x_1)] zG (ac gg_15 (ac gg_15 (ac gg_15 (ac gg_15 (ac gg_15 an))))) ?_
    exact ⟨rfl,(sw [0,1,2] [] [.s 1,.s 7,.a 8 (.bool (ok_1&&decide (x_1.At≥last_1))),.s 11,.s 58,.s 59,.s 60] [.s 0,.s 1,.s 2] (ac (congrArg AV.bool (tQ gg_15 rfl):(.bool (decide (x_1.At≥last_1)):AV)=.bool (ok_1&&decide (x_1.At≥last_1))) an))⟩
   ·refine rg [(2,Hg),(3,Hg),(4,Hg),(5,Hg),(6,Hf)] [1,7,8,11,58,59,60,66,67,68,69] [0,1,2] 3 [Pp 0,.own 1 ((r_4.1).length),.bool false,Pp 2,.own 1 ((r_4.1).length),Ii (lN (r_4.1)),Ii v_1,.tuple [],.tuple [],.tuple [],.tuple []] [Vb 32 (zK p_1),Rb 45 6 (Mp zF r_4.1),Vb 45 (zM x_1)] zG (ac gg_15 (ac gg_15 (ac gg_15 (ac gg_15 (ac gg_15 an))))) ?_
    exact ⟨rfl,(sw [0,1,2] [] [.s 1,.s 7,.a 8 (.bool (ok_1&&decide (x_1.At≥last_1))),.s 11,.s 58,.s 59,.s 60] [.s 0,.s 1,.s 2] (ac (congrArg AV.bool (pJ gg_15):(.bool false:AV)=.bool (ok_1&&decide (x_1.At≥last_1))) an))⟩
  refine rg [] [1,7,8,9,58,59,60] [0,1] 3 [Pp 0,.own 1 ((r_4.1).length),.bool (ok_1&&decide (x_1.At≥last_1)),Ii x_1.At,.own 1 ((r_4.1).length),Ii (lN (r_4.1)),Ii v_1] [Vb 32 (zK p_1),Rb 45 6 (Mp zF r_4.1)] zG an ?_
  refine rg [] [1,7,8,9,58,59,60] [0,1] 3 [Pp 0,.own 1 ((r_4.1).length),.bool (ok_1&&decide (x_1.At≥last_1)),Ii x_1.At,.own 1 ((r_4.1).length),Ii (lN (r_4.1)),Ii (zH (v_1+(1:Int)))] [Vb 32 (zK p_1),Rb 45 6 (Mp zF r_4.1)] zG an ?_
  exact ⟨_,(sw [0,1] [] [.s 1,.s 7,.s 8,.s 9,.s 58,.s 59,.s 60] [.s 0,.s 1] an),_,_,_,rfl,h⟩
 refine sq ?_
 refine sq ?_
 refine yE (mk [(7,.own 0 ((r_4.1).length)),(81,.bool (!o_1.1||decide (o_1.2>p_1.Last)))] [(0,Rb 45 6 (Mp zF r_4.1))] 1) ?_ ?_
 ·rcases bft (!o_1.1) with gg_16 | gg_16
  ·refine rg [(3,Hg),(4,Hg),(5,Hg),(6,Hg),(7,Ht)] [7,81] [1] 2 [.own 1 ((r_4.1).length),.bool true] [Rb 45 6 (Mp zF r_4.1)] zG (ac gg_16 (ac gg_16 (ac gg_16 (ac gg_16 (ac gg_16 an))))) ?_
   exact ⟨rfl,(sw [1] [] [.s 7,.a 81 (.bool (!o_1.1||decide (o_1.2>p_1.Last)))] [.s 0] (ac (congrArg AV.bool (ort gg_16):(.bool true:AV)=.bool (!o_1.1||decide (o_1.2>p_1.Last))) an))⟩
  ·refine rg [(7,Hf)] [7,81] [1] 2 [.own 1 ((r_4.1).length),.bool (decide (o_1.2>p_1.Last))] [Rb 45 6 (Mp zF r_4.1)] zG (ac gg_16 (ac gg_16 (ac gg_16 (ac gg_16 (ac gg_16 an))))) ?_
   exact ⟨rfl,(sw [1] [] [.s 7,.a 81 (.bool (!o_1.1||decide (o_1.2>p_1.Last)))] [.s 0] (ac (congrArg AV.bool (orf gg_16 rfl):(.bool (decide (o_1.2>p_1.Last)):AV)=.bool (!o_1.1||decide (o_1.2>p_1.Last))) an))⟩
 refine cd 81 (!o_1.1||decide (o_1.2>p_1.Last)) ?_ ?_
 ·intro g_6;replace h:=zR g_6 h
  refine sr [(0,{ id:=1,m:=1 })] [2,3] [1] 2 [.own 1 0,Ii 10] [Rb 45 6 []] zG an ?_
  refine wk [1] [] [.a 2 (.own 0 ((([]:List zE)).length)),.s 3] [.s 0] [(2,.own 0 ((([]:List zE)).length)),(3,Ii 10)] [(0,Rb 45 6 [])] (ac (congrArg (AV.own _) (by first | (simp;done) | (simp;omega)):(.own 1 0:AV)=.own 1 ((([]:List zE)).length)) an) ?_
  refine rt ?_
  cases h
  exact ⟨.inr rfl,Nat.le_of_ble_eq_true rfl,by kernel_rfl⟩
 intro g_6;replace h:=zS g_6 h
 refine sk ?_
 refine sr [] [2,3] [0] 1 [.own 0 ((r_4.1).length),Ii 0] [Rb 45 6 (Mp zF r_4.1)] zG an ?_
 refine wk [0] [] [.s 2,.s 3] [.s 0] [(2,.own 0 ((r_4.1).length)),(3,Ii 0)] [(0,Rb 45 6 (Mp zF r_4.1))] an ?_
 refine rt ?_
 cases h
 exact ⟨.inr rfl,Nat.le_of_ble_eq_true rfl,by kernel_rfl⟩
theorem zAA (F:Nat) (p_1:zA) (r:Int) (h:tV F p_1=some r):zQ prog 14 [] [] [zO p_1] [] (Ii r):=by
 refine zV (fn:=Go.Proofs.Try.f14) (code:=yI Go.Proofs.Try.f14) (by kernel_rfl) (by kernel_rfl) (Nat.le_of_ble_eq_true (by kernel_rfl)) ?_
 unfold tV at h
 refine sr [(0,{ id:=0 })] [1] [0] 1 [Pp 0] [Vb 32 (zK p_1)] zG an ?_
 refine sq ?_
 obtain ⟨r_1,h_1,h⟩:=bind_some h
 refine rg [(1,{ av:=.tuple [.own 0 ((r_1.1).length),Ii r_1.2],ids:=[1],l:=[zO p_1],post:=[(.row 45 6 (Mp zF r_1.1))] })] [4] [] 2 [Ii r_1.2] [] zG (ar ([zO p_1]:List AV) (ac (rfl:([]:List zP)=[]) (ac (nG F p_1 r_1 h_1:zQ prog 34 [] [] [zO p_1] [(.row 45 6 (Mp zF r_1.1))] (.tuple [.own 0 ((r_1.1).length),Ii r_1.2])) an))) ?_
 refine sr [] [2] [] 2 [Ii r_1.2] [] zG an ?_
 refine rt ?_
 cases h
 exact ⟨.inr rfl,Nat.le_of_ble_eq_true rfl,by kernel_rfl⟩
theorem zEL (n_1:Int) (r:Int) (h:kB n_1=some r):zQ prog 88 [] [] [Ii n_1] [] (.int .u64 r):=by
 refine zV (fn:=Go.Proofs.Try.f88) (code:=yI Go.Proofs.Try.f88) (by kernel_rfl) (by kernel_rfl) (Nat.le_of_ble_eq_true (by kernel_rfl)) ?_
 unfold kB at h
 refine sr [] [0] [] 0 [Ii n_1] [] zG an ?_
 refine sr [] [2] [] 0 [.int .u64 (pK .u64 (qM .u64 (vT n_1) (1:Int)) (vT (j3 .i64 n_1 (63:Int))))] [] zG (ac (by decide:(0:Int)≤(1:Int)) (ac (by decide:(0:Int)≤(63:Int)) an)) ?_
 refine rt ?_
 cases h
 exact ⟨.inr rfl,Nat.le_of_ble_eq_true rfl,by kernel_rfl⟩
theorem vK (F:Nat) (b_1:List (Int)) (n_1:Int) (r:(List (Int))) (h:y5 F b_1 n_1=some r):zQ prog 59 [] [] [.sl false 1 (Mb b_1),Ii n_1] [.row 5 1 (Mb r)] (.own 0 ((r).length)):=by
 refine zV (fn:=Go.Proofs.Try.f59) (code:=yI Go.Proofs.Try.f59) (by kernel_rfl) (by kernel_rfl) (Nat.le_of_ble_eq_true (by kernel_rfl)) ?_
 unfold y5 at h
 refine sr [(0,{ id:=0,m:=1 })] [0,1] [] 1 [.sl false 1 (Mb b_1),Ii n_1] [] zG an ?_
 refine sr [(0,{ b:=true,id:=1 })] [0,1,5] [1] 2 [.sl false 1 (Mb b_1),Ii n_1,Pp 1] [Rb 125 1 (Mb (List.replicate 10 (0:Int)))] zG an ?_
 refine sr [] [0,1,5,6] [1] 2 [.sl false 1 (Mb b_1),Ii n_1,Pp 1,Ii 0] [Rb 125 1 (Mb (List.replicate 10 (0:Int)))] zG an ?_
 refine sq ?_
 refine sq ?_
 obtain ⟨r_1,h_1,h⟩:=bind_some h
 refine rg [(1,{ av:=.int .u64 r_1,l:=[Ii n_1] })] [0,5,6,7] [1] 2 [.sl false 1 (Mb b_1),Pp 1,Ii 0,.int .u64 r_1] [Rb 125 1 (Mb (List.replicate 10 (0:Int)))] zG (ar ([Ii n_1]:List AV) (ac (rfl:([]:List zP)=[]) (ac (zEL n_1 r_1 h_1:zQ prog 88 [] [] [Ii n_1] [] (.int .u64 r_1)) an))) ?_
 obtain ⟨o_1,h_2,h⟩:=bind_some h
 refine yE (mk [(0,.sl false 1 (Mb b_1)),(5,Pp 0),(6,Ii o_1.1)] [(0,Rb 125 1 (Mb o_1.2))] 1) ?_ ?_
 ·replace h:=h_2
  refine z6 (id:=0) (by kernel_rfl) ?_
  refine wk [1] [] [.s 0,.s 5,.s 6,.s 7] [.s 0] [(0,.sl false 1 (Mb b_1)),(5,Pp 0),(6,Ii 0),(7,.int .u64 r_1)] [(0,Rb 125 1 (Mb (List.replicate 10 (0:Int))))] an ?_
  refine xQ (fun n st=>∃ (size_1:Int),∃ (u_1:Int),∃ (row_1:List Int),st=mk [(0,.sl false 1 (Mb b_1)),(5,Pp 0),(6,Ii size_1),(7,.int .u64 u_1)] [(0,Rb 125 1 (Mb row_1))] 1∧vI F n size_1 u_1 row_1=some o_1) F (by kernel_rfl) ⟨_,_,_,rfl,h⟩ ?_ ?_
  ·rintro _ ⟨_,_,_,_,h⟩;exact wH (h:(none:Option (Int×(List Int)))=some o_1)
  rintro n_2 _ ⟨size_1,u_1,row_1,rfl,h⟩
  replace h:wQ F (vI F n_2) size_1 u_1 row_1=some o_1:=h
  unfold wQ at h
  refine sq ?_
  refine z6 (id:=1) (by kernel_rfl) ?_
  refine sq ?_
  obtain ⟨_,h_3,h⟩:=bind_some h;replace h_3:=yD h_3
  obtain ⟨x_1,h_4,h⟩:=bind_some h
  refine rg [(4,Ht),(5,{ av:=Iu x_1,l:=(Mb ((row_1).set ((size_1).toNat) (jJ (wO .u64 u_1 (127:Int))))) })] [0,5,6,7] [0] 1 [.sl false 1 (Mb b_1),Pp 0,Ii size_1,.int .u64 u_1] [Rb 125 1 (Mb ((row_1).set ((size_1).toNat) (jJ (wO .u64 u_1 (127:Int)))))] zG (ac h_3.1 (ac h_3.2 (ac (zFC h_4:(Mb row_1)[(size_1).toNat]?=some (Iu x_1)) (ac (zBT _ _ _:(Mb ((row_1).set ((size_1).toNat) (jJ (wO .u64 u_1 (127:Int)))))=List.set (Mb row_1) ((size_1).toNat) (jY (Iu x_1) 0 [Iu (jJ (wO .u64 u_1 (127:Int)))])) an)))) ?_
  refine sr [] [0,5,6,7] [0] 1 [.sl false 1 (Mb b_1),Pp 0,Ii (zH (size_1+(1:Int))),.int .u64 u_1] [Rb 125 1 (Mb ((row_1).set ((size_1).toNat) (jJ (wO .u64 u_1 (127:Int)))))] zG an ?_
  refine sq ?_
  refine sr [] [0,5,6,7,20] [0] 1 [.sl false 1 (Mb b_1),Pp 0,Ii (zH (size_1+(1:Int))),.int .u64 u_1,.bool (decide (u_1<(128:Int)))] [Rb 125 1 (Mb ((row_1).set ((size_1).toNat) (jJ (wO .u64 u_1 (127:Int)))))] zG an ?_
  refine cd 20 (decide (u_1<(128:Int))) ?_ ?_
  ·intro g_1;replace h:=zR g_1 h
   refine xR (id:=0) (by kernel_rfl) ?_
   cases h
   exact ⟨rfl,(sw [0] [] [.s 0,.s 5,.s 6] [.s 0] an)⟩
  intro g_1;replace h:=zS g_1 h
  refine sk ?_
  obtain ⟨_,h_5,h⟩:=bind_some h;replace h_5:=yD h_5
  obtain ⟨x_2,h_6,h⟩:=bind_some h
  obtain ⟨_,h_7,h⟩:=bind_some h;replace h_7:=yD h_7
  obtain ⟨x_3,h_8,h⟩:=bind_some h
  refine rg [(2,Ht),(3,{ av:=Iu x_2 }),(5,Ht),(6,{ av:=Iu x_3,l:=(Mb (((row_1).set ((size_1).toNat) (jJ (wO .u64 u_1 (127:Int)))).set ((zH ((zH (size_1+(1:Int))) - (1:Int))).toNat) (ior .u8 x_2 (128:Int)))) })] [0,5,6,7] [0] 1 [.sl false 1 (Mb b_1),Pp 0,Ii (zH (size_1+(1:Int))),.int .u64 u_1] [Rb 125 1 (Mb (((row_1).set ((size_1).toNat) (jJ (wO .u64 u_1 (127:Int)))).set ((zH ((zH (size_1+(1:Int))) - (1:Int))).toNat) (ior .u8 x_2 (128:Int))))] zG (ac h_5.1 (ac h_5.2 (ac (zFC h_6:(Mb ((row_1).set ((size_1).toNat) (jJ (wO .u64 u_1 (127:Int)))))[(zH ((zH (size_1+(1:Int))) - (1:Int))).toNat]?=some (Iu x_2)) (ac h_7.1 (ac h_7.2 (ac (zFC h_8:(Mb ((row_1).set ((size_1).toNat) (jJ (wO .u64 u_1 (127:Int)))))[(zH ((zH (size_1+(1:Int))) - (1:Int))).toNat]?=some (Iu x_3)) (ac (zBT _ _ _:(Mb (((row_1).set ((size_1).toNat) (jJ (wO .u64 u_1 (127:Int)))).set ((zH ((zH (size_1+(1:Int))) - (1:Int))).toNat) (ior .u8 x_2 (128:Int))))=List.set (Mb ((row_1).set ((size_1).toNat) (jJ (wO .u64 u_1 (127:Int))))) ((zH ((zH (size_1+(1:Int))) - (1:Int))).toNat) (jY (Iu x_3) 0 [Iu (ior .u8 x_2 (128:Int))])) an))))))) ?_
  refine rg [] [0,5,6,7] [0] 1 [.sl false 1 (Mb b_1),Pp 0,Ii (zH (size_1+(1:Int))),.int .u64 (j3 .u64 u_1 (7:Int))] [Rb 125 1 (Mb (((row_1).set ((size_1).toNat) (jJ (wO .u64 u_1 (127:Int)))).set ((zH ((zH (size_1+(1:Int))) - (1:Int))).toNat) (ior .u8 x_2 (128:Int))))] zG (ac (by decide:(0:Int)≤(7:Int)) an) ?_
  exact ⟨_,(sw [0] [] [.s 0,.s 5,.s 6,.s 7] [.s 0] an),_,_,_,rfl,h⟩
 refine sq ?_
 obtain ⟨_,h_9,h⟩:=bind_some h;replace h_9:=yD h_9
 obtain ⟨_,h_10,h⟩:=bind_some h;replace h_10:=yD h_10
 obtain ⟨_,h_11,h⟩:=bind_some h;replace h_11:=yD h_11
 obtain ⟨_,h_12,h⟩:=bind_some h;replace h_12:=yD h_12
 refine rg [(2,{ n:=(b_1).length }),(4,{ n:=(b_1).length }),(5,{ l:=(Mb (sub b_1 (0:Int) (lN (b_1)))) }),(8,{ dep:=true,id:=1,l:=(Mb ((sub b_1 (0:Int) (lN (b_1)))++(((o_1.2).take ((o_1.1).toNat)).drop 0))),n:=(((sub b_1 (0:Int) (lN (b_1)))++(((o_1.2).take ((o_1.1).toNat)).drop 0))).length })] [4] [1] 2 [.own 1 ((((sub b_1 (0:Int) (lN (b_1)))++(((o_1.2).take ((o_1.1).toNat)).drop 0))).length)] [Rb 5 1 (Mb ((sub b_1 (0:Int) (lN (b_1)))++(((o_1.2).take ((o_1.1).toNat)).drop 0)))] zG (ac (z9 _:((Mb b_1)).length=(b_1).length) (ac (z9 _:((Mb b_1)).length=(b_1).length) (ac (by decide:(0:Int)≤(0:Int)) (ac (Int.natCast_nonneg _:(0:Int)≤(lN (b_1))) (ac (kK (Int.le_refl _):(lN (b_1))≤(lN ((Mb b_1)))) (ar (lN (b_1)) (ac (zEw _ _ _:(Mb (sub b_1 (0:Int) (lN (b_1))))=(((Mb b_1)).take ((lN (b_1))).toNat).drop ((0:Int)).toNat) (ac (by decide:(0:Int)≤(0:Int)) (ac h_9.1 (ac h_9.2.1 (ac (kH h_9.2.2:10≤((Mb o_1.2)).length) (ac (kH h_10.2:((o_1.1).toNat)≤((Mb o_1.2)).length) (ac h_10.1 (ac (zIt _ _ _ _:(Mb ((sub b_1 (0:Int) (lN (b_1)))++(((o_1.2).take ((o_1.1).toNat)).drop 0)))=(Mb (sub b_1 (0:Int) (lN (b_1))))++(((Mb o_1.2)).take ((o_1.1).toNat)).drop 0) (ac (by first | (simp;done) | simpa using h_11:(((List.map (AV.int .u8) (sub b_1 (0:Int) (((b_1).length:Nat):Int))):List AV).length+((((List.map (AV.int .u8) o_1.2)).take ((o_1.1).toNat)).drop 0:List AV).length) * 1≤140737488355328) (ac (by first | (simp;done) | simpa using h_12:0<((((List.map (AV.int .u8) o_1.2)).take ((o_1.1).toNat)).drop 0:List AV).length∨((List.map (AV.int .u8) (sub b_1 (0:Int) (((b_1).length:Nat):Int))):List AV).length=0) (ac (by simp:(((sub b_1 (0:Int) (((b_1).length:Nat):Int))++(((o_1.2).take ((o_1.1).toNat)).drop 0))).length=((List.map (AV.int .u8) ((sub b_1 (0:Int) (((b_1).length:Nat):Int))++(((o_1.2).take ((o_1.1).toNat)).drop 0)))).length) an))))))))))))))))) ?_
 refine wk [1] [] [.s 4] [.s 0] [(4,.own 0 ((((sub b_1 (0:Int) (lN (b_1)))++(((o_1.2).take ((o_1.1).toNat)).drop 0))).length))] [(0,Rb 5 1 (Mb ((sub b_1 (0:Int) (lN (b_1)))++(((o_1.2).take ((o_1.1).toNat)).drop 0))))] an ?_
 refine rt ?_
 cases h
 exact ⟨.inr rfl,Nat.le_of_ble_eq_true rfl,by kernel_rfl⟩
theorem nE (F:Nat) (s_1:List (List Int)) (a_1:List Int) (r:Int) (h:wW F s_1 a_1=some r):zQ prog 89 [] [] [.sl false 1 (Ms s_1),.str a_1] [] (Ii r):=by
 refine zV (fn:=Go.Proofs.Try.f89) (code:=yI Go.Proofs.Try.f89) (by kernel_rfl) (by kernel_rfl) (Nat.le_of_ble_eq_true (by kernel_rfl)) ?_
 unfold wW at h
 refine sr [] [0,1] [] 0 [.sl false 1 (Ms s_1),.str a_1] [] zG an ?_
 refine sq ?_
 refine sr [(1,{ n:=(s_1).length })] [0,1,7,8] [] 0 [.sl false 1 (Ms s_1),.str a_1,Ii (lN (s_1)),Ii 0] [] zG (ac (z9 _:((Ms s_1)).length=(s_1).length) an) ?_
 obtain ⟨o_1,h_1,h⟩:=bind_some h
 refine wZ (K1:=(fun e st'=>match o_1 with | (.inl q0)=>e=.normal∧Sub 0 st' (mk [] [] 0) | (.inr q1)=>e=.ret∧jB prog Go.Proofs.Try.f89 0 [] (Ii q1) st')) ?_ ?_
 ·replace h:=h_1
  refine z6 (id:=0) (by kernel_rfl) ?_
  refine wk [] [] [.s 0,.s 1,.s 7,.s 8] [] [(0,.sl false 1 (Ms s_1)),(1,.str a_1),(7,Ii (lN (s_1))),(8,Ii 0)] [] an ?_
  refine xQ (fun n st=>∃ (v_1:Int),st=mk [(0,.sl false 1 (Ms s_1)),(1,.str a_1),(7,Ii (lN (s_1))),(8,Ii v_1)] [] 0∧x6 F s_1 a_1 n v_1=some o_1) F (by kernel_rfl) ⟨_,rfl,h⟩ ?_ ?_
  ·rintro _ ⟨_,_,h⟩;exact wH (h:(none:Option (Unit⊕Int))=some o_1)
  rintro n_1 _ ⟨v_1,rfl,h⟩
  replace h:yQ F s_1 a_1 (x6 F s_1 a_1 n_1) v_1=some o_1:=h
  unfold yQ at h
  refine sr [] [0,1,7,8,9] [] 0 [.sl false 1 (Ms s_1),.str a_1,Ii (lN (s_1)),Ii v_1,.bool (decide (v_1<(lN (s_1))))] [] zG an ?_
  refine sq ?_
  refine cd 9 (decide (v_1<(lN (s_1)))) ?_ ?_
  rotate_left
  ·intro g_1;replace h:=zS g_1 h
   refine xR (id:=0) (by kernel_rfl) ?_
   cases h
   exact ⟨rfl,(sw [] [] [] [] an)⟩
  intro g_1;replace h:=zR g_1 h
  refine sk ?_
  refine sq ?_
  refine z6 (id:=1) (by kernel_rfl) ?_
  refine sr [] [0,1,5,7,8] [] 0 [.sl false 1 (Ms s_1),.str a_1,Ii v_1,Ii (lN (s_1)),Ii v_1] [] zG an ?_
  refine sq ?_
  obtain ⟨x_1,h_2,h⟩:=bind_some h
  refine rg [(3,{ av:=.str x_1 })] [0,1,5,7,8,16] [] 0 [.sl false 1 (Ms s_1),.str a_1,Ii v_1,Ii (lN (s_1)),Ii v_1,.bool (a_1==x_1)] [] zG (ac (vQ h_2:uK (Ms s_1) v_1=some (.str x_1)) an) ?_
  refine cd 16 (a_1==x_1) ?_ ?_
  rotate_left
  ·intro g_2;replace h:=zS g_2 h
   refine sk ?_
   refine rg [] [0,1,7,8] [] 0 [.sl false 1 (Ms s_1),.str a_1,Ii (lN (s_1)),Ii (zH (v_1+(1:Int)))] [] zG an ?_
   exact ⟨_,(sw [] [] [.s 0,.s 1,.s 7,.s 8] [] an),_,rfl,h⟩
  intro g_2;replace h:=zR g_2 h
  refine sr [] [4] [] 0 [Ii v_1] [] zG an ?_
  refine rt ?_
  cases h
  exact ⟨rfl,Nat.le_of_ble_eq_true rfl,by kernel_rfl⟩
 intro e st1 hk
 rcases o_1 with q_1 | q_2
 rotate_left
 ·obtain ⟨rfl,hf⟩:=hk
  cases h
  exact ⟨st1,Sub.refl _ _,.inr rfl,hf⟩
 obtain ⟨rfl,hs⟩:=hk
 refine ⟨_,hs,?_⟩
 refine sr [] [4] [] 0 [Ii (-1)] [] zG an ?_
 refine rt ?_
 cases h
 exact ⟨.inr rfl,Nat.le_of_ble_eq_true rfl,by kernel_rfl⟩
theorem nD (s_1:List (List Int)) (r:(List (List Int))) (h:vU s_1=some r):zQ prog 90 [] [] [.sl false 1 (Ms s_1)] [.row 9 1 (Ms r)] (.own 0 ((r).length)):=by
 refine zV (fn:=Go.Proofs.Try.f90) (code:=yI Go.Proofs.Try.f90) (by kernel_rfl) (by kernel_rfl) (Nat.le_of_ble_eq_true (by kernel_rfl)) ?_
 unfold vU at h
 refine sr [(0,{ id:=0,m:=1 })] [0] [] 1 [.sl false 1 (Ms s_1)] [] zG an ?_
 refine sq ?_
 refine sr [] [0,4] [] 1 [.sl false 1 (Ms s_1),.nb (Ms s_1)] [] zG an ?_
 refine zDP (t:=4) (l:=(Ms s_1)) (by kernel_rfl) (by kernel_rfl) ?_ ?_
 ·intro h_2;replace h_2:=List.map_eq_nil_iff.1 h_2
  replace h:=Eq.trans (show (some [])=((need (((([]:List (List Int))).length+(s_1).length) * 16≤140737488355328)).bind fun _ =>
 some ([]++s_1)) from by simp [h_2,need]) h
  refine sr [(0,{ id:=1,m:=1 })] [2] [1] 2 [.own 1 0] [Rb 9 1 []] zG an ?_
  refine wk [1] [] [.a 2 (.own 0 ((([]:List (List Int))).length))] [.s 0] [(2,.own 0 ((([]:List (List Int))).length))] [(0,Rb 9 1 [])] (ac (congrArg (AV.own _) (by first | (simp;done) | (simp;omega)):(.own 1 0:AV)=.own 1 ((([]:List (List Int))).length)) an) ?_
  refine rt ?_
  cases h
  exact ⟨.inr rfl,Nat.le_of_ble_eq_true rfl,by kernel_rfl⟩
 refine sk ?_
 refine sq ?_
 obtain ⟨_,h_1,h⟩:=bind_some h;replace h_1:=yD h_1
 refine rg [(0,{ id:=1 }),(2,{ id:=2,l:=(Ms ([]++s_1)),n:=(([]++s_1)).length })] [2] [2] 3 [.own 2 ((([]++s_1)).length)] [Rb 9 1 (Ms ([]++s_1))] zG (ac (by first | (simp;done) | (simp;omega):0=(([]:List AV)).length) (ac (trivial:True) (ac (by simp:(List.map AV.str ([]++s_1))=[]++(List.map AV.str s_1)) (ac (by simp:(([]++s_1)).length=((List.map AV.str ([]++s_1))).length) (ac (by first | (simp;done) | simpa using h_1:(([]:List AV).length+((List.map AV.str s_1):List AV).length) * 16≤140737488355328) an))))) ?_
 refine wk [2] [] [.s 2] [.s 0] [(2,.own 0 ((([]++s_1)).length))] [(0,Rb 9 1 (Ms ([]++s_1)))] an ?_
 refine rt ?_
 cases h
 exact ⟨.inr rfl,Nat.le_of_ble_eq_true rfl,by kernel_rfl⟩
theorem zCr (F:Nat) (names_1:List (List Int)) (s_1:List Int) (r:Int×(List (List Int))×Int) (h:kX F names_1 s_1=some r):zQ prog 60 [] [] [.sl false 1 (Ms names_1),.str s_1] [] (.tuple [Ii r.1,.sl false 1 (Ms r.2.1),Ii r.2.2]):=by
 refine zV (fn:=Go.Proofs.Try.f60) (code:=yI Go.Proofs.Try.f60) (by kernel_rfl) (by kernel_rfl) (Nat.le_of_ble_eq_true (by kernel_rfl)) ?_
 unfold kX at h
 refine sr [] [0,1] [] 0 [.sl false 1 (Ms names_1),.str s_1] [] zG an ?_
 refine sq ?_
 refine sq ?_
 obtain ⟨r_1,h_1,h⟩:=bind_some h
 refine rg [(1,{ av:=Ii r_1,l:=[.str s_1] })] [0,1,7] [] 0 [.sl false 1 (Ms names_1),.str s_1,Ii r_1] [] zG (ar ([.str s_1]:List AV) (ac (rfl:([]:List zP)=[]) (ac (qZ F s_1 r_1 h_1:zQ prog 29 [] [] [.str s_1] [] (Ii r_1)) an))) ?_
 refine sr [] [0,1,7,12] [] 0 [.sl false 1 (Ms names_1),.str s_1,Ii r_1,.bool (r_1 != (0:Int))] [] zG an ?_
 refine cd 12 (r_1 != (0:Int)) ?_ ?_
 ·intro g_1;replace h:=zR g_1 h
  refine sr [] [4,5,6] [] 0 [Ii 0,.sl false 1 (Ms names_1),Ii r_1] [] zG an ?_
  refine rt ?_
  cases h
  exact ⟨.inr rfl,Nat.le_of_ble_eq_true rfl,by kernel_rfl⟩
 intro g_1;replace h:=zS g_1 h
 refine sk ?_
 refine sq ?_
 refine sq ?_
 obtain ⟨r_2,h_2,h⟩:=bind_some h
 refine rg [(2,{ av:=Ii r_2,l:=[.sl false 1 (Ms names_1),.str s_1] })] [0,1,8] [] 0 [.sl false 1 (Ms names_1),.str s_1,Ii r_2] [] zG (ar ([.sl false 1 (Ms names_1),.str s_1]:List AV) (ac (rfl:([]:List zP)=[]) (ac (nE F names_1 s_1 r_2 h_2:zQ prog 89 [] [] [.sl false 1 (Ms names_1),.str s_1] [] (Ii r_2)) an))) ?_
 refine sr [] [0,1,8,19] [] 0 [.sl false 1 (Ms names_1),.str s_1,Ii r_2,.bool (decide (r_2≥(0:Int)))] [] zG an ?_
 refine cd 19 (decide (r_2≥(0:Int))) ?_ ?_
 ·intro g_2;replace h:=zR g_2 h
  refine sr [] [4,5,6] [] 0 [Ii r_2,.sl false 1 (Ms names_1),Ii 0] [] zG an ?_
  refine rt ?_
  cases h
  exact ⟨.inr rfl,Nat.le_of_ble_eq_true rfl,by kernel_rfl⟩
 intro g_2;replace h:=zS g_2 h
 refine sk ?_
 refine sq ?_
 refine sr [(1,{ n:=(names_1).length })] [0,1,24] [] 0 [.sl false 1 (Ms names_1),.str s_1,.bool (decide ((lN (names_1))≥(1000:Int)))] [] zG (ac (z9 _:((Ms names_1)).length=(names_1).length) an) ?_
 refine cd 24 (decide ((lN (names_1))≥(1000:Int))) ?_ ?_
 ·intro g_3;replace h:=zR g_3 h
  refine sr [] [4,5,6] [] 0 [Ii 0,.sl false 1 (Ms names_1),Ii 6] [] zG an ?_
  refine rt ?_
  cases h
  exact ⟨.inr rfl,Nat.le_of_ble_eq_true rfl,by kernel_rfl⟩
 intro g_3;replace h:=zS g_3 h
 refine sk ?_
 refine sq ?_
 obtain ⟨r_3,h_3,h⟩:=bind_some h
 obtain ⟨_,h_4,h⟩:=bind_some h;replace h_4:=yD h_4
 refine rg [(1,{ n:=(names_1).length }),(3,{ av:=.own 0 ((r_3).length),ids:=[0],l:=[.sl false 1 (Ms names_1)],post:=[(.row 9 1 (Ms r_3))] }),(5,{ id:=1 }),(6,{ id:=2,l:=(Ms (r_3++([s_1]:List (List Int)))),n:=((r_3++([s_1]:List (List Int)))).length })] [4,5,6] [2] 3 [Ii (lN (names_1)),.own 2 (((r_3++([s_1]:List (List Int)))).length),Ii 0] [Rb 9 1 (Ms (r_3++([s_1]:List (List Int))))] zG (ac (z9 _:((Ms names_1)).length=(names_1).length) (ar ([.sl false 1 (Ms names_1)]:List AV) (ac (rfl:([]:List zP)=[]) (ac (nD names_1 r_3 h_3:zQ prog 90 [] [] [.sl false 1 (Ms names_1)] [(.row 9 1 (Ms r_3))] (.own 0 ((r_3).length))) (ac (by first | (simp;done) | (simp;omega):(r_3).length=((List.map AV.str r_3)).length) (ac (by first | (simp;done) | (simp;omega):1=((List.map AV.str ([s_1]:List (List Int)))).length) (ac (zAc _ _:(Ms (r_3++([s_1]:List (List Int))))=(Ms r_3)++(Ms ([s_1]:List (List Int)))) (ac (by simp:((r_3++([s_1]:List (List Int)))).length=((List.map AV.str (r_3++([s_1]:List (List Int))))).length) (ac (by first | (simp;done) | simpa using h_4:(((List.map AV.str r_3):List AV).length+((List.map AV.str ([s_1]:List (List Int))):List AV).length) * 16≤140737488355328) an))))))))) ?_
 refine wk [] [2] [.s 4,.a 5 (.sl false 1 (Ms (r_3++([s_1]:List (List Int))))),.s 6] [] [(4,Ii (lN (names_1))),(5,.sl false 1 (Ms (r_3++([s_1]:List (List Int))))),(6,Ii 0)] [] (ac (by first | (simp;done) | (simp;omega):((r_3++([s_1]:List (List Int)))).length=((List.map AV.str (r_3++([s_1]:List (List Int))))).length) (ar 1 (ar ((Ms (r_3++([s_1]:List (List Int)))):List AV) (ac (rfl:(!false||false)=true) an)))) ?_
 refine rt ?_
 cases h
 exact ⟨.inr rfl,Nat.le_of_ble_eq_true rfl,by kernel_rfl⟩
theorem zAe (s_1:List (zI)) (r:(List (zI))) (h:v7 s_1=some r):zQ prog 91 [] [] [.sl false 2 (Mp zD s_1)] [.row 84 2 (Mp zD r)] (.own 0 ((r).length)):=by
 refine zV (fn:=Go.Proofs.Try.f91) (code:=yI Go.Proofs.Try.f91) (by kernel_rfl) (by kernel_rfl) (Nat.le_of_ble_eq_true (by kernel_rfl)) ?_
 unfold v7 at h
 refine sr [(0,{ id:=0,m:=1 })] [0] [] 1 [.sl false 2 (Mp zD s_1)] [] zG an ?_
 refine sq ?_
 refine sr [] [0,4] [] 1 [.sl false 2 (Mp zD s_1),.nb (Mp zD s_1)] [] zG an ?_
 refine zDP (t:=4) (l:=(Mp zD s_1)) (by kernel_rfl) (by kernel_rfl) ?_ ?_
 ·intro h_2;replace h_2:=List.map_eq_nil_iff.1 h_2
  replace h:=Eq.trans (show (some [])=((need (((([]:List zI)).length+(s_1).length) * 16≤140737488355328)).bind fun _ =>
 some ([]++s_1)) from by simp [h_2,need]) h
  refine sr [(0,{ id:=1,m:=1 })] [2] [1] 2 [.own 1 0] [Rb 84 2 []] zG an ?_
  refine wk [1] [] [.a 2 (.own 0 ((([]:List zI)).length))] [.s 0] [(2,.own 0 ((([]:List zI)).length))] [(0,Rb 84 2 [])] (ac (congrArg (AV.own _) (by first | (simp;done) | (simp;omega)):(.own 1 0:AV)=.own 1 ((([]:List zI)).length)) an) ?_
  refine rt ?_
  cases h
  exact ⟨.inr rfl,Nat.le_of_ble_eq_true rfl,by kernel_rfl⟩
 refine sk ?_
 refine sq ?_
 obtain ⟨_,h_1,h⟩:=bind_some h;replace h_1:=yD h_1
 refine rg [(0,{ id:=1 }),(2,{ id:=2,l:=(Mp zD ([]++s_1)),n:=(([]++s_1)).length })] [2] [2] 3 [.own 2 ((([]++s_1)).length)] [Rb 84 2 (Mp zD ([]++s_1))] zG (ac (by first | (simp;done) | (simp;omega):0=(([]:List AV)).length) (ac (trivial:True) (ac (by simp:(List.map zD ([]++s_1))=[]++(List.map zD s_1)) (ac (by simp:(([]++s_1)).length=((List.map zD ([]++s_1))).length) (ac (by first | (simp;done) | simpa using h_1:(([]:List AV).length+((List.map zD s_1):List AV).length) * 16≤140737488355328) an))))) ?_
 refine wk [2] [] [.s 2] [.s 0] [(2,.own 0 ((([]++s_1)).length))] [(0,Rb 84 2 (Mp zD ([]++s_1)))] an ?_
 refine rt ?_
 cases h
 exact ⟨.inr rfl,Nat.le_of_ble_eq_true rfl,by kernel_rfl⟩
theorem zAg (F:Nat) (s_1:List (zI)) (a_1:zI) (r:Int) (h:w6 F s_1 a_1=some r):zQ prog 92 [] [] [.sl false 2 (Mp zD s_1),.agg [Ii a_1.c0,Ii a_1.c1]] [] (Ii r):=by
 refine zV (fn:=Go.Proofs.Try.f92) (code:=yI Go.Proofs.Try.f92) (by kernel_rfl) (by kernel_rfl) (Nat.le_of_ble_eq_true (by kernel_rfl)) ?_
 unfold w6 at h
 refine sr [(0,{ id:=0 })] [0,3] [0] 1 [.sl false 2 (Mp zD s_1),Pp 0] [Vb 84 [Ii a_1.c0,Ii a_1.c1]] zG an ?_
 refine sq ?_
 refine sr [(1,{ n:=(s_1).length })] [0,3,7,8] [0] 1 [.sl false 2 (Mp zD s_1),Pp 0,Ii (lN (s_1)),Ii 0] [Vb 84 [Ii a_1.c0,Ii a_1.c1]] zG (ac (z9 _:((Mp zD s_1)).length=(s_1).length) an) ?_
 obtain ⟨o_1,h_1,h⟩:=bind_some h
 refine wZ (K1:=(fun e st'=>match o_1 with | (.inl q0)=>e=.normal∧Sub 0 st' (mk [] [] 0) | (.inr q1)=>e=.ret∧jB prog Go.Proofs.Try.f92 0 [] (Ii q1) st')) ?_ ?_
 ·replace h:=h_1
  refine z6 (id:=0) (by kernel_rfl) ?_
  refine wk [0] [] [.s 0,.s 3,.s 7,.s 8] [.s 0] [(0,.sl false 2 (Mp zD s_1)),(3,Pp 0),(7,Ii (lN (s_1))),(8,Ii 0)] [(0,Vb 84 [Ii a_1.c0,Ii a_1.c1])] an ?_
  refine xQ (fun n st=>∃ (v_1:Int),st=mk [(0,.sl false 2 (Mp zD s_1)),(3,Pp 0),(7,Ii (lN (s_1))),(8,Ii v_1)] [(0,Vb 84 [Ii a_1.c0,Ii a_1.c1])] 1∧wM F s_1 a_1 n v_1=some o_1) F (by kernel_rfl) ⟨_,rfl,h⟩ ?_ ?_
  ·rintro _ ⟨_,_,h⟩;exact wH (h:(none:Option (Unit⊕Int))=some o_1)
  rintro n_1 _ ⟨v_1,rfl,h⟩
  replace h:yV F s_1 a_1 (wM F s_1 a_1 n_1) v_1=some o_1:=h
  unfold yV at h
  refine sr [] [0,3,7,8,9] [0] 1 [.sl false 2 (Mp zD s_1),Pp 0,Ii (lN (s_1)),Ii v_1,.bool (decide (v_1<(lN (s_1))))] [Vb 84 [Ii a_1.c0,Ii a_1.c1]] zG an ?_
  refine sq ?_
  refine cd 9 (decide (v_1<(lN (s_1)))) ?_ ?_
  rotate_left
  ·intro g_1;replace h:=zS g_1 h
   refine xR (id:=0) (by kernel_rfl) ?_
   cases h
   exact ⟨rfl,(sw [] [] [] [] an)⟩
  intro g_1;replace h:=zR g_1 h
  refine sk ?_
  refine sq ?_
  refine z6 (id:=1) (by kernel_rfl) ?_
  refine sr [] [0,3,5,7,8] [0] 1 [.sl false 2 (Mp zD s_1),Pp 0,Ii v_1,Ii (lN (s_1)),Ii v_1] [Vb 84 [Ii a_1.c0,Ii a_1.c1]] zG an ?_
  refine sq ?_
  obtain ⟨x_1,h_2,h⟩:=bind_some h
  refine rg [(3,{ av:=.agg [Ii x_1.c0,Ii x_1.c1] }),(5,{ b:=(decide (a_1=x_1)),mks:=[.int .i64,.int .i64] })] [0,3,5,7,8,16] [0] 1 [.sl false 2 (Mp zD s_1),Pp 0,Ii v_1,Ii (lN (s_1)),Ii v_1,.bool (decide (a_1=x_1))] [Vb 84 [Ii a_1.c0,Ii a_1.c1]] zG (ac (vQ h_2:uK (Mp zD s_1) v_1=some (.agg [Ii x_1.c0,Ii x_1.c1])) (ac (zMf:zCK prog 84 [.int .i64,.int .i64]) (ac (zMA (f:=zD) zBf a_1 x_1:((decide (a_1=x_1))=true↔AV.agg [Ii a_1.c0,Ii a_1.c1]=AV.agg [Ii x_1.c0,Ii x_1.c1])) an))) ?_
  refine cd 16 (decide (a_1=x_1)) ?_ ?_
  rotate_left
  ·intro g_2;replace h:=zS g_2 h
   refine sk ?_
   refine rg [] [0,3,7,8] [0] 1 [.sl false 2 (Mp zD s_1),Pp 0,Ii (lN (s_1)),Ii (zH (v_1+(1:Int)))] [Vb 84 [Ii a_1.c0,Ii a_1.c1]] zG an ?_
   exact ⟨_,(sw [0] [] [.s 0,.s 3,.s 7,.s 8] [.s 0] an),_,rfl,h⟩
  intro g_2;replace h:=zR g_2 h
  refine sr [] [4] [] 1 [Ii v_1] [] zG an ?_
  refine rt ?_
  cases h
  exact ⟨rfl,Nat.le_of_ble_eq_true rfl,by kernel_rfl⟩
 intro e st1 hk
 rcases o_1 with q_1 | q_2
 rotate_left
 ·obtain ⟨rfl,hf⟩:=hk
  cases h
  exact ⟨st1,Sub.refl _ _,.inr rfl,hf⟩
 obtain ⟨rfl,hs⟩:=hk
 refine ⟨_,hs,?_⟩
 refine sr [] [4] [] 0 [Ii (-1)] [] zG an ?_
 refine rt ?_
 cases h
 exact ⟨.inr rfl,Nat.le_of_ble_eq_true rfl,by kernel_rfl⟩
theorem zCu (F:Nat) (names_1:List (List Int)) (stacks_1:List (zI)) (l_1:List (List Int)) (r:Int×(List (List Int))×(List (zI))×Int) (h:tB F names_1 stacks_1 l_1=some r):zQ prog 61 [] [] [.sl false 1 (Ms names_1),.sl false 2 (Mp zD stacks_1),.sl false 1 (Ms l_1)] [] (.tuple [Ii r.1,.sl false 1 (Ms r.2.1),.sl false 2 (Mp zD r.2.2.1),Ii r.2.2.2]):=by
 refine zV (fn:=Go.Proofs.Try.f61) (code:=yI Go.Proofs.Try.f61) (by kernel_rfl) (by kernel_rfl) (Nat.le_of_ble_eq_true (by kernel_rfl)) ?_
 unfold tB at h
 refine sr [] [0,1,2] [] 0 [.sl false 1 (Ms names_1),.sl false 2 (Mp zD stacks_1),.sl false 1 (Ms l_1)] [] zG an ?_
 refine sq ?_
 refine sq ?_
 obtain ⟨r_1,h_1,h⟩:=bind_some h
 refine rg [(1,{ av:=Ii r_1,l:=[.sl false 1 (Ms l_1)] })] [0,1,2,10] [] 0 [.sl false 1 (Ms names_1),.sl false 2 (Mp zD stacks_1),.sl false 1 (Ms l_1),Ii r_1] [] zG (ar ([.sl false 1 (Ms l_1)]:List AV) (ac (rfl:([]:List zP)=[]) (ac (zBj F l_1 r_1 h_1:zQ prog 87 [] [] [.sl false 1 (Ms l_1)] [] (Ii r_1)) an))) ?_
 refine sr [] [0,1,2,10,23] [] 0 [.sl false 1 (Ms names_1),.sl false 2 (Mp zD stacks_1),.sl false 1 (Ms l_1),Ii r_1,.bool (r_1 != (0:Int))] [] zG an ?_
 refine cd 23 (r_1 != (0:Int)) ?_ ?_
 ·intro g_1;replace h:=zR g_1 h
  refine sr [] [6,7,8,9] [] 0 [Ii 0,.sl false 1 (Ms names_1),.sl false 2 (Mp zD stacks_1),Ii r_1] [] zG an ?_
  refine rt ?_
  cases h
  exact ⟨.inr rfl,Nat.le_of_ble_eq_true rfl,by kernel_rfl⟩
 intro g_1;replace h:=zS g_1 h
 refine sk ?_
 refine sq ?_
 obtain ⟨r_2,h_2,h⟩:=bind_some h
 refine rg [(2,{ av:=.own 0 ((r_2).length),ids:=[0],l:=[.sl false 2 (Mp zD stacks_1)],post:=[(.row 84 2 (Mp zD r_2))] })] [0,1,2,11,12,13] [0] 1 [.sl false 1 (Ms names_1),.sl false 2 (Mp zD stacks_1),.sl false 1 (Ms l_1),Ii (-1),.sl false 1 (Ms names_1),.own 0 ((r_2).length)] [Rb 84 2 (Mp zD r_2)] zG (ar ([.sl false 2 (Mp zD stacks_1)]:List AV) (ac (rfl:([]:List zP)=[]) (ac (zAe stacks_1 r_2 h_2:zQ prog 91 [] [] [.sl false 2 (Mp zD stacks_1)] [(.row 84 2 (Mp zD r_2))] (.own 0 ((r_2).length))) an))) ?_
 refine sq ?_
 refine sr [(1,{ n:=(l_1).length })] [0,1,11,12,13,30,31,32] [0] 1 [.sl false 1 (Ms names_1),.sl false 2 (Mp zD stacks_1),Ii (-1),.sl false 1 (Ms names_1),.own 0 ((r_2).length),.sl false 1 (Ms l_1),Ii (lN (l_1)),Ii 0] [Rb 84 2 (Mp zD r_2)] zG (ac (z9 _:((Ms l_1)).length=(l_1).length) an) ?_
 obtain ⟨o_1,h_3,h⟩:=bind_some h
 refine wZ (K1:=(fun e st'=>match o_1 with | (.inl q0)=>e=.normal∧Sub 0 st' (mk [(11,Ii q0.1),(12,.sl false 1 (Ms q0.2.1)),(13,.own 0 ((q0.2.2).length))] [(0,Rb 84 2 (Mp zD q0.2.2))] 1) | (.inr q1)=>e=.ret∧jB prog Go.Proofs.Try.f61 0 [] (.tuple [Ii q1.1,.sl false 1 (Ms q1.2.1),.sl false 2 (Mp zD q1.2.2.1),Ii q1.2.2.2]) st')) ?_ ?_
 ·replace h:=h_3
  refine z6 (id:=0) (by kernel_rfl) ?_
  refine wk [0] [] [.s 0,.s 1,.s 11,.s 12,.s 13,.s 30,.s 31,.s 32] [.s 0] [(0,.sl false 1 (Ms names_1)),(1,.sl false 2 (Mp zD stacks_1)),(11,Ii (-1)),(12,.sl false 1 (Ms names_1)),(13,.own 0 ((r_2).length)),(30,.sl false 1 (Ms l_1)),(31,Ii (lN (l_1))),(32,Ii 0)] [(0,Rb 84 2 (Mp zD r_2))] an ?_
  refine xQ (fun n st=>∃ (at__1:Int),∃ (n_1:List (List Int)),∃ (v_1:Int),∃ (row_1:List zI),st=mk [(0,.sl false 1 (Ms names_1)),(1,.sl false 2 (Mp zD stacks_1)),(11,Ii at__1),(12,.sl false 1 (Ms n_1)),(13,.own 0 ((row_1).length)),(30,.sl false 1 (Ms l_1)),(31,Ii (lN (l_1))),(32,Ii v_1)] [(0,Rb 84 2 (Mp zD row_1))] 1∧vY F names_1 stacks_1 l_1 n at__1 n_1 v_1 row_1=some o_1) F (by kernel_rfl) ⟨_,_,_,_,rfl,h⟩ ?_ ?_
  ·rintro _ ⟨_,_,_,_,_,h⟩;exact wH (h:(none:Option ((Int×(List (List Int))×(List zI))⊕(Int×(List (List Int))×(List (zI))×Int)))=some o_1)
  rintro n_2 _ ⟨at__1,n_1,v_1,row_1,rfl,h⟩
  replace h:vD F names_1 stacks_1 l_1 (vY F names_1 stacks_1 l_1 n_2) at__1 n_1 v_1 row_1=some o_1:=h
  unfold vD at h
  refine sr [] [0,1,11,12,13,30,31,32,33] [0] 1 [.sl false 1 (Ms names_1),.sl false 2 (Mp zD stacks_1),Ii at__1,.sl false 1 (Ms n_1),.own 0 ((row_1).length),.sl false 1 (Ms l_1),Ii (lN (l_1)),Ii v_1,.bool (decide (v_1<(lN (l_1))))] [Rb 84 2 (Mp zD row_1)] zG an ?_
  refine sq ?_
  refine cd 33 (decide (v_1<(lN (l_1)))) ?_ ?_
  rotate_left
  ·intro g_2;replace h:=zS g_2 h
   refine xR (id:=0) (by kernel_rfl) ?_
   cases h
   exact ⟨rfl,(sw [0] [] [.s 11,.s 12,.s 13] [.s 0] an)⟩
  intro g_2;replace h:=zR g_2 h
  refine sk ?_
  refine sq ?_
  refine z6 (id:=1) (by kernel_rfl) ?_
  refine sq ?_
  obtain ⟨x_1,h_4,h⟩:=bind_some h
  refine rg [(0,{ av:=.str x_1 })] [0,1,11,12,13,15,30,31,32] [0] 1 [.sl false 1 (Ms names_1),.sl false 2 (Mp zD stacks_1),Ii at__1,.sl false 1 (Ms n_1),.own 0 ((row_1).length),.str x_1,.sl false 1 (Ms l_1),Ii (lN (l_1)),Ii v_1] [Rb 84 2 (Mp zD row_1)] zG (ac (vQ h_4:uK (Ms l_1) v_1=some (.str x_1)) an) ?_
  refine sq ?_
  obtain ⟨r_3,h_5,h⟩:=bind_some h
  refine rg [(2,{ av:=.tuple [Ii r_3.1,.sl false 1 (Ms r_3.2.1),Ii r_3.2.2],l:=[.sl false 1 (Ms n_1),.str x_1] })] [0,1,11,13,16,17,18,30,31,32] [0] 1 [.sl false 1 (Ms names_1),.sl false 2 (Mp zD stacks_1),Ii at__1,.own 0 ((row_1).length),Ii r_3.1,.sl false 1 (Ms r_3.2.1),Ii r_3.2.2,.sl false 1 (Ms l_1),Ii (lN (l_1)),Ii v_1] [Rb 84 2 (Mp zD row_1)] zG (ar ([.sl false 1 (Ms n_1),.str x_1]:List AV) (ac (rfl:([]:List zP)=[]) (ac (zCr F n_1 x_1 r_3 h_5:zQ prog 60 [] [] [.sl false 1 (Ms n_1),.str x_1] [] (.tuple [Ii r_3.1,.sl false 1 (Ms r_3.2.1),Ii r_3.2.2])) an))) ?_
  refine sq ?_
  refine sr [] [0,1,11,13,16,17,18,30,31,32,44] [0] 1 [.sl false 1 (Ms names_1),.sl false 2 (Mp zD stacks_1),Ii at__1,.own 0 ((row_1).length),Ii r_3.1,.sl false 1 (Ms r_3.2.1),Ii r_3.2.2,.sl false 1 (Ms l_1),Ii (lN (l_1)),Ii v_1,.bool (r_3.2.2 != (0:Int))] [Rb 84 2 (Mp zD row_1)] zG an ?_
  refine cd 44 (r_3.2.2 != (0:Int)) ?_ ?_
  ·intro g_3;replace h:=zR g_3 h
   refine sr [] [6,7,8,9] [] 1 [Ii 0,.sl false 1 (Ms names_1),.sl false 2 (Mp zD stacks_1),Ii r_3.2.2] [] zG an ?_
   refine rt ?_
   cases h
   exact ⟨rfl,Nat.le_of_ble_eq_true rfl,by kernel_rfl⟩
  intro g_3;replace h:=zS g_3 h
  refine sk ?_
  refine sr [] [0,1,11,12,13,16,30,31,32] [0] 1 [.sl false 1 (Ms names_1),.sl false 2 (Mp zD stacks_1),Ii at__1,.sl false 1 (Ms r_3.2.1),.own 0 ((row_1).length),Ii r_3.1,.sl false 1 (Ms l_1),Ii (lN (l_1)),Ii v_1] [Rb 84 2 (Mp zD row_1)] zG an ?_
  refine sr [(3,{ id:=1 })] [0,1,12,13,19,30,31,32] [0,1] 2 [.sl false 1 (Ms names_1),.sl false 2 (Mp zD stacks_1),.sl false 1 (Ms r_3.2.1),.own 0 ((row_1).length),Pp 1,.sl false 1 (Ms l_1),Ii (lN (l_1)),Ii v_1] [Rb 84 2 (Mp zD row_1),Vb 84 [Ii at__1,Ii r_3.1]] zG an ?_
  refine sq ?_
  refine sq ?_
  obtain ⟨r_4,h_6,h⟩:=bind_some h
  refine rg [(2,{ av:=Ii r_4,l:=[.sl false 2 (Mp zD row_1),.agg [Ii at__1,Ii r_3.1]],lend:=[0] })] [0,1,11,12,13,19,30,31,32] [0,1] 2 [.sl false 1 (Ms names_1),.sl false 2 (Mp zD stacks_1),Ii r_4,.sl false 1 (Ms r_3.2.1),.own 0 ((row_1).length),Pp 1,.sl false 1 (Ms l_1),Ii (lN (l_1)),Ii v_1] [Rb 84 2 (Mp zD row_1),Vb 84 [Ii at__1,Ii r_3.1]] zG (ac (by first | (simp;done) | (simp;omega):(row_1).length=((List.map zD row_1)).length) (ar ([.sl false 2 (Mp zD row_1),.agg [Ii at__1,Ii r_3.1]]:List AV) (ac (rfl:([]:List zP)=[]) (ac (wK (args':=[.sl false 2 (Mp zD row_1),.agg [Ii ((⟨at__1,r_3.1⟩:zI).c0),Ii ((⟨at__1,r_3.1⟩:zI).c1)]]) (zAg F row_1 (⟨at__1,r_3.1⟩:zI) r_4 h_6) rfl ⟨rfl,rfl,rfl,rfl,rfl,trivial⟩:zQ prog 92 [] [] [.sl false 2 (Mp zD row_1),.agg [Ii at__1,Ii r_3.1]] [] (Ii r_4)) an)))) ?_
  refine sr [] [0,1,11,12,13,19,30,31,32,56] [0,1] 2 [.sl false 1 (Ms names_1),.sl false 2 (Mp zD stacks_1),Ii r_4,.sl false 1 (Ms r_3.2.1),.own 0 ((row_1).length),Pp 1,.sl false 1 (Ms l_1),Ii (lN (l_1)),Ii v_1,.bool (decide (r_4≥(0:Int)))] [Rb 84 2 (Mp zD row_1),Vb 84 [Ii at__1,Ii r_3.1]] zG an ?_
  refine cd 56 (decide (r_4≥(0:Int))) ?_ ?_
  ·intro g_4;replace h:=zR g_4 h
   refine xR (id:=1) (by kernel_rfl) ?_
   refine rg [] [0,1,11,12,13,30,31,32] [0] 2 [.sl false 1 (Ms names_1),.sl false 2 (Mp zD stacks_1),Ii r_4,.sl false 1 (Ms r_3.2.1),.own 0 ((row_1).length),.sl false 1 (Ms l_1),Ii (lN (l_1)),Ii (zH (v_1+(1:Int)))] [Rb 84 2 (Mp zD row_1)] zG an ?_
   exact ⟨_,(sw [0] [] [.s 0,.s 1,.s 11,.s 12,.s 13,.s 30,.s 31,.s 32] [.s 0] an),_,_,_,_,rfl,h⟩
  intro g_4;replace h:=zS g_4 h
  refine sk ?_
  refine sq ?_
  refine sr [] [0,1,12,13,19,30,31,32,59] [0,1] 2 [.sl false 1 (Ms names_1),.sl false 2 (Mp zD stacks_1),.sl false 1 (Ms r_3.2.1),.own 0 ((row_1).length),Pp 1,.sl false 1 (Ms l_1),Ii (lN (l_1)),Ii v_1,.bool (decide ((lN (row_1))≥(1000:Int)))] [Rb 84 2 (Mp zD row_1),Vb 84 [Ii at__1,Ii r_3.1]] zG an ?_
  refine cd 59 (decide ((lN (row_1))≥(1000:Int))) ?_ ?_
  ·intro g_5;replace h:=zR g_5 h
   refine sr [] [6,7,8,9] [] 2 [Ii 0,.sl false 1 (Ms names_1),.sl false 2 (Mp zD stacks_1),Ii 6] [] zG an ?_
   refine rt ?_
   cases h
   exact ⟨rfl,Nat.le_of_ble_eq_true rfl,by kernel_rfl⟩
  intro g_5;replace h:=zS g_5 h
  refine sk ?_
  refine sr [] [0,1,11,12,13,19,30,31,32] [0,1] 2 [.sl false 1 (Ms names_1),.sl false 2 (Mp zD stacks_1),Ii (lN (row_1)),.sl false 1 (Ms r_3.2.1),.own 0 ((row_1).length),Pp 1,.sl false 1 (Ms l_1),Ii (lN (l_1)),Ii v_1] [Rb 84 2 (Mp zD row_1),Vb 84 [Ii at__1,Ii r_3.1]] zG an ?_
  obtain ⟨_,h_7,h⟩:=bind_some h;replace h_7:=yD h_7
  refine rg [(2,{ id:=2 }),(3,{ id:=3,l:=(Mp zD (row_1++([(⟨at__1,r_3.1⟩:zI)]:List zI))),n:=((row_1++([(⟨at__1,r_3.1⟩:zI)]:List zI))).length })] [0,1,11,12,13,30,31,32] [3] 4 [.sl false 1 (Ms names_1),.sl false 2 (Mp zD stacks_1),Ii (lN (row_1)),.sl false 1 (Ms r_3.2.1),.own 3 (((row_1++([(⟨at__1,r_3.1⟩:zI)]:List zI))).length),.sl false 1 (Ms l_1),Ii (lN (l_1)),Ii v_1] [Rb 84 2 (Mp zD (row_1++([(⟨at__1,r_3.1⟩:zI)]:List zI)))] zG (ac (by first | (simp;done) | (simp;omega):(row_1).length=((List.map zD row_1)).length) (ac (by first | (simp;done) | (simp;omega):1=((List.map zD ([(⟨at__1,r_3.1⟩:zI)]:List zI))).length) (ac (zAc _ _:(Mp zD (row_1++([(⟨at__1,r_3.1⟩:zI)]:List zI)))=(Mp zD row_1)++(Mp zD ([(⟨at__1,r_3.1⟩:zI)]:List zI))) (ac (by simp:((row_1++([(⟨at__1,r_3.1⟩:zI)]:List zI))).length=((List.map zD (row_1++([(⟨at__1,r_3.1⟩:zI)]:List zI)))).length) (ac (by first | (simp;done) | simpa using h_7:(((List.map zD row_1):List AV).length+((List.map zD ([(⟨at__1,r_3.1⟩:zI)]:List zI)):List AV).length) * 16≤140737488355328) an))))) ?_
  refine rg [] [0,1,11,12,13,30,31,32] [3] 4 [.sl false 1 (Ms names_1),.sl false 2 (Mp zD stacks_1),Ii (lN (row_1)),.sl false 1 (Ms r_3.2.1),.own 3 (((row_1++([(⟨at__1,r_3.1⟩:zI)]:List zI))).length),.sl false 1 (Ms l_1),Ii (lN (l_1)),Ii (zH (v_1+(1:Int)))] [Rb 84 2 (Mp zD (row_1++([(⟨at__1,r_3.1⟩:zI)]:List zI)))] zG an ?_
  exact ⟨_,(sw [3] [] [.s 0,.s 1,.s 11,.s 12,.s 13,.s 30,.s 31,.s 32] [.s 0] an),_,_,_,_,rfl,h⟩
 intro e st1 hk
 rcases o_1 with q_1 | q_2
 rotate_left
 ·obtain ⟨rfl,hf⟩:=hk
  cases h
  exact ⟨st1,Sub.refl _ _,.inr rfl,hf⟩
 obtain ⟨rfl,hs⟩:=hk
 refine ⟨_,hs,?_⟩
 refine sr [] [6,7,8,9] [0] 1 [Ii q_1.1,.sl false 1 (Ms q_1.2.1),.own 0 ((q_1.2.2).length),Ii 0] [Rb 84 2 (Mp zD q_1.2.2)] zG an ?_
 refine wk [] [0] [.s 6,.s 7,.a 8 (.sl false 2 (Mp zD q_1.2.2)),.s 9] [] [(6,Ii q_1.1),(7,.sl false 1 (Ms q_1.2.1)),(8,.sl false 2 (Mp zD q_1.2.2)),(9,Ii 0)] [] (ac (by first | (simp;done) | (simp;omega):(q_1.2.2).length=((List.map zD q_1.2.2)).length) (ar 2 (ar ((Mp zD q_1.2.2):List AV) (ac (rfl:(!false||false)=true) an)))) ?_
 refine rt ?_
 cases h
 exact ⟨.inr rfl,Nat.le_of_ble_eq_true rfl,by kernel_rfl⟩
theorem zEc (F:Nat) (names_1:List (List Int)) (stacks_1:List (zI)) (e_1:zE) (r:(List (Int))×(List (List Int))×(List (zI))×Int) (h:jU F names_1 stacks_1 e_1=some r):zQ prog 39 [] [] [.sl false 1 (Ms names_1),.sl false 2 (Mp zD stacks_1),zF e_1] [.row 5 1 (Mb r.1)] (.tuple [.own 0 ((r.1).length),.sl false 1 (Ms r.2.1),.sl false 2 (Mp zD r.2.2.1),Ii r.2.2.2]):=by
 refine zV (fn:=Go.Proofs.Try.f39) (code:=yI Go.Proofs.Try.f39) (by kernel_rfl) (by kernel_rfl) (Nat.le_of_ble_eq_true (by kernel_rfl)) ?_
 unfold jU at h
 refine sr [(0,{ id:=0 }),(1,{ id:=1,m:=1 })] [0,1,5] [0] 2 [.sl false 1 (Ms names_1),.sl false 2 (Mp zD stacks_1),Pp 0] [Vb 45 (zM e_1)] zG an ?_
 refine sq ?_
 refine sq ?_
 obtain ⟨r_1,h_1,h⟩:=bind_some h
 refine rg [(2,{ av:=Ii r_1,l:=[.sl false 1 (Ms names_1),.sl false 2 (Mp zD stacks_1)] })] [0,1,5,26] [0] 2 [.sl false 1 (Ms names_1),.sl false 2 (Mp zD stacks_1),Pp 0,.bool (r_1 != (0:Int))] [Vb 45 (zM e_1)] zG (ar ([.sl false 1 (Ms names_1),.sl false 2 (Mp zD stacks_1)]:List AV) (ac (rfl:([]:List zP)=[]) (ac (j6 F names_1 stacks_1 r_1 h_1:zQ prog 50 [] [] [.sl false 1 (Ms names_1),.sl false 2 (Mp zD stacks_1)] [] (Ii r_1)) an))) ?_
 refine cd 26 (r_1 != (0:Int)) ?_ ?_
 ·intro g_1;replace h:=zR g_1 h
  refine sr [(0,{ id:=2,m:=1 })] [6,7,8,9] [2] 3 [.own 2 0,.nilsl,.nilsl,Ii 1] [Rb 5 1 []] zG an ?_
  refine wk [2] [] [.a 6 (.own 0 ((([]:List Int)).length)),.a 7 (.sl false 1 []),.a 8 (.sl false 2 []),.s 9] [.s 0] [(6,.own 0 ((([]:List Int)).length)),(7,.sl false 1 []),(8,.sl false 2 []),(9,Ii 1)] [(0,Rb 5 1 [])] (ac (congrArg (AV.own _) (by first | (simp;done) | (simp;omega)):(.own 2 0:AV)=.own 2 ((([]:List Int)).length)) (ar ([]:List AV) (ar ([]:List AV) an))) ?_
  refine rt ?_
  cases h
  exact ⟨.inr rfl,Nat.le_of_ble_eq_true rfl,by kernel_rfl⟩
 intro g_1;replace h:=zS g_1 h
 refine sk ?_
 refine sq ?_
 refine sq ?_
 obtain ⟨r_2,h_2,h⟩:=bind_some h
 refine rg [(1,{ av:=Ii r_2,l:=[zF e_1] })] [0,1,5,10] [0] 2 [.sl false 1 (Ms names_1),.sl false 2 (Mp zD stacks_1),Pp 0,Ii r_2] [Vb 45 (zM e_1)] zG (ar ([zF e_1]:List AV) (ac (rfl:([]:List zP)=[]) (ac (nK F e_1 r_2 h_2:zQ prog 38 [] [] [zF e_1] [] (Ii r_2)) an))) ?_
 refine sr [] [0,1,5,10,30] [0] 2 [.sl false 1 (Ms names_1),.sl false 2 (Mp zD stacks_1),Pp 0,Ii r_2,.bool (r_2 != (0:Int))] [Vb 45 (zM e_1)] zG an ?_
 refine cd 30 (r_2 != (0:Int)) ?_ ?_
 ·intro g_2;replace h:=zR g_2 h
  refine sr [(1,{ id:=2,m:=1 })] [6,7,8,9] [2] 3 [.own 2 0,.nilsl,.nilsl,Ii r_2] [Rb 5 1 []] zG an ?_
  refine wk [2] [] [.a 6 (.own 0 ((([]:List Int)).length)),.a 7 (.sl false 1 []),.a 8 (.sl false 2 []),.s 9] [.s 0] [(6,.own 0 ((([]:List Int)).length)),(7,.sl false 1 []),(8,.sl false 2 []),(9,Ii r_2)] [(0,Rb 5 1 [])] (ac (congrArg (AV.own _) (by first | (simp;done) | (simp;omega)):(.own 2 0:AV)=.own 2 ((([]:List Int)).length)) (ar ([]:List AV) (ar ([]:List AV) an))) ?_
  refine rt ?_
  cases h
  exact ⟨.inr rfl,Nat.le_of_ble_eq_true rfl,by kernel_rfl⟩
 intro g_2;replace h:=zS g_2 h
 refine sk ?_
 refine sq ?_
 obtain ⟨r_3,h_3,h⟩:=bind_some h
 refine rg [(2,{ av:=.tuple [.bool r_3.1,.bool r_3.2.1,.bool r_3.2.2.1,.bool r_3.2.2.2],l:=[Ii e_1.Kind] })] [0,1,5,11,12,13,14] [0] 2 [.sl false 1 (Ms names_1),.sl false 2 (Mp zD stacks_1),Pp 0,.bool r_3.1,.bool r_3.2.1,.bool r_3.2.2.1,.bool r_3.2.2.2] [Vb 45 (zM e_1)] zG (ar ([Ii e_1.Kind]:List AV) (ac (rfl:([]:List zP)=[]) (ac (zBG e_1.Kind r_3 h_3:zQ prog 58 [] [] [Ii e_1.Kind] [] (.tuple [.bool r_3.1,.bool r_3.2.1,.bool r_3.2.2.1,.bool r_3.2.2.2])) an))) ?_
 refine sq ?_
 obtain ⟨r_4,h_4,h⟩:=bind_some h
 obtain ⟨r_5,h_5,h⟩:=bind_some h
 refine rg [(2,{ av:=.own 0 ((r_4).length),ids:=[2],l:=[.nilsl,Ii e_1.Kind],post:=[(.row 5 1 (Mb r_4))] }),(5,{ av:=.own 0 ((r_5).length),frz:=[2],ids:=[3],l:=[.sl false 1 (Mb r_4),Ii e_1.At],post:=[(.row 5 1 (Mb r_5))] })] [0,1,5,11,12,13,14,15] [0,3] 4 [.sl false 1 (Ms names_1),.sl false 2 (Mp zD stacks_1),Pp 0,.bool r_3.1,.bool r_3.2.1,.bool r_3.2.2.1,.bool r_3.2.2.2,.own 3 ((r_5).length)] [Vb 45 (zM e_1),Rb 5 1 (Mb r_5)] zG (ar ([.nilsl,Ii e_1.Kind]:List AV) (ac (rfl:([]:List zP)=[]) (ac (wK (args':=[.sl false 1 [],Ii e_1.Kind]) (vK F [] e_1.Kind r_4 h_4) rfl ⟨rfl,rfl,trivial⟩:zQ prog 59 [] [] [.nilsl,Ii e_1.Kind] [(.row 5 1 (Mb r_4))] (.own 0 ((r_4).length))) (ac (by first | (simp;done) | (simp;omega):(r_4).length=((List.map (AV.int .u8) r_4)).length) (ar ([.sl false 1 (Mb r_4),Ii e_1.At]:List AV) (ac (rfl:([]:List zP)=[]) (ac (vK F r_4 e_1.At r_5 h_5:zQ prog 59 [] [] [.sl false 1 (Mb r_4),Ii e_1.At] [(.row 5 1 (Mb r_5))] (.own 0 ((r_5).length))) an))))))) ?_
 refine sq ?_
 refine sr [] [0,1,5,12,13,14,15,46] [0,3] 4 [.sl false 1 (Ms names_1),.sl false 2 (Mp zD stacks_1),Pp 0,.bool r_3.2.1,.bool r_3.2.2.1,.bool r_3.2.2.2,.own 3 ((r_5).length),.bool r_3.1] [Vb 45 (zM e_1),Rb 5 1 (Mb r_5)] zG an ?_
 obtain ⟨o_1,h_6,h⟩:=bind_some h
 refine wZ (K1:=(fun e st'=>match o_1 with | (.inl q0)=>e=.normal∧Sub 0 st' (mk [(0,.sl false 1 (Ms q0.1)),(1,.sl false 2 (Mp zD stacks_1)),(5,Pp 0),(12,.bool r_3.2.1),(13,.bool r_3.2.2.1),(14,.bool r_3.2.2.2),(15,.own 1 ((q0.2).length))] [(0,Vb 45 (zM e_1)),(1,Rb 5 1 (Mb q0.2))] 2) | (.inr q1)=>e=.ret∧jB prog Go.Proofs.Try.f39 0 [.row 5 1 (Mb q1.1)] (.tuple [.own 0 ((q1.1).length),.sl false 1 (Ms q1.2.1),.sl false 2 (Mp zD q1.2.2.1),Ii q1.2.2.2]) st')) ?_ ?_
 ·replace h:=h_6
  refine cd 46 r_3.1 ?_ ?_
  rotate_left
  ·intro g_3;replace h:=zS g_3 h
   refine sk ?_
   cases h
   exact ⟨rfl,(sw [0,3] [] [.s 0,.s 1,.s 5,.s 12,.s 13,.s 14,.s 15] [.s 0,.s 1] an)⟩
  intro g_3;replace h:=zR g_3 h
  refine sq ?_
  obtain ⟨r_6,h_7,h⟩:=bind_some h
  refine rg [(3,{ av:=.tuple [Ii r_6.1,.sl false 1 (Ms r_6.2.1),Ii r_6.2.2],l:=[.sl false 1 (Ms names_1),.str e_1.Name] })] [1,5,12,13,14,15,16,17,18] [0,3] 4 [.sl false 2 (Mp zD stacks_1),Pp 0,.bool r_3.2.1,.bool r_3.2.2.1,.bool r_3.2.2.2,.own 3 ((r_5).length),Ii r_6.1,.sl false 1 (Ms r_6.2.1),Ii r_6.2.2] [Vb 45 (zM e_1),Rb 5 1 (Mb r_5)] zG (ar ([.sl false 1 (Ms names_1),.str e_1.Name]:List AV) (ac (rfl:([]:List zP)=[]) (ac (zCr F names_1 e_1.Name r_6 h_7:zQ prog 60 [] [] [.sl false 1 (Ms names_1),.str e_1.Name] [] (.tuple [Ii r_6.1,.sl false 1 (Ms r_6.2.1),Ii r_6.2.2])) an))) ?_
  refine sq ?_
  refine sr [] [1,5,12,13,14,15,16,17,18,56] [0,3] 4 [.sl false 2 (Mp zD stacks_1),Pp 0,.bool r_3.2.1,.bool r_3.2.2.1,.bool r_3.2.2.2,.own 3 ((r_5).length),Ii r_6.1,.sl false 1 (Ms r_6.2.1),Ii r_6.2.2,.bool (r_6.2.2 != (0:Int))] [Vb 45 (zM e_1),Rb 5 1 (Mb r_5)] zG an ?_
  refine cd 56 (r_6.2.2 != (0:Int)) ?_ ?_
  rotate_left
  ·intro g_4;replace h:=zS g_4 h
   refine sk ?_
   obtain ⟨r_7,h_8,h⟩:=bind_some h
   refine rg [(2,{ av:=.own 0 ((r_7).length),frz:=[3],ids:=[4],l:=[.sl false 1 (Mb r_5),Ii r_6.1],post:=[(.row 5 1 (Mb r_7))] })] [0,1,5,12,13,14,15] [0,4] 5 [.sl false 1 (Ms r_6.2.1),.sl false 2 (Mp zD stacks_1),Pp 0,.bool r_3.2.1,.bool r_3.2.2.1,.bool r_3.2.2.2,.own 4 ((r_7).length)] [Vb 45 (zM e_1),Rb 5 1 (Mb r_7)] zG (ac (by first | (simp;done) | (simp;omega):(r_5).length=((List.map (AV.int .u8) r_5)).length) (ar ([.sl false 1 (Mb r_5),Ii r_6.1]:List AV) (ac (rfl:([]:List zP)=[]) (ac (vK F r_5 r_6.1 r_7 h_8:zQ prog 59 [] [] [.sl false 1 (Mb r_5),Ii r_6.1] [(.row 5 1 (Mb r_7))] (.own 0 ((r_7).length))) an)))) ?_
   cases h
   exact ⟨rfl,(sw [0,4] [] [.s 0,.s 1,.s 5,.s 12,.s 13,.s 14,.s 15] [.s 0,.s 1] an)⟩
  intro g_4;replace h:=zR g_4 h
  refine sr [(1,{ id:=4,m:=1 })] [6,7,8,9] [4] 5 [.own 4 0,.nilsl,.nilsl,Ii r_6.2.2] [Rb 5 1 []] zG an ?_
  refine wk [4] [] [.a 6 (.own 0 ((([]:List Int)).length)),.a 7 (.sl false 1 []),.a 8 (.sl false 2 []),.s 9] [.s 0] [(6,.own 0 ((([]:List Int)).length)),(7,.sl false 1 []),(8,.sl false 2 []),(9,Ii r_6.2.2)] [(0,Rb 5 1 [])] (ac (congrArg (AV.own _) (by first | (simp;done) | (simp;omega)):(.own 4 0:AV)=.own 4 ((([]:List Int)).length)) (ar ([]:List AV) (ar ([]:List AV) an))) ?_
  refine rt ?_
  cases h
  exact ⟨rfl,Nat.le_of_ble_eq_true rfl,by kernel_rfl⟩
 intro e st1 hk
 rcases o_1 with q_1 | q_2
 rotate_left
 ·obtain ⟨rfl,hf⟩:=hk
  cases h
  exact ⟨st1,Sub.refl _ _,.inr rfl,hf⟩
 obtain ⟨rfl,hs⟩:=hk
 refine ⟨_,hs,?_⟩
 refine sq ?_
 refine sr [] [0,1,5,13,14,15,62] [0,1] 2 [.sl false 1 (Ms q_1.1),.sl false 2 (Mp zD stacks_1),Pp 0,.bool r_3.2.2.1,.bool r_3.2.2.2,.own 1 ((q_1.2).length),.bool r_3.2.1] [Vb 45 (zM e_1),Rb 5 1 (Mb q_1.2)] zG an ?_
 obtain ⟨o_2,h_9,h⟩:=bind_some h
 refine yE (mk [(0,.sl false 1 (Ms q_1.1)),(1,.sl false 2 (Mp zD stacks_1)),(5,Pp 0),(13,.bool r_3.2.2.1),(14,.bool r_3.2.2.2),(15,.own 1 ((o_2).length))] [(0,Vb 45 (zM e_1)),(1,Rb 5 1 (Mb o_2))] 2) ?_ ?_
 ·replace h:=h_9
  refine cd 62 r_3.2.1 ?_ ?_
  rotate_left
  ·intro g_5;replace h:=zS g_5 h
   refine sk ?_
   cases h
   exact ⟨rfl,(sw [0,1] [] [.s 0,.s 1,.s 5,.s 13,.s 14,.s 15] [.s 0,.s 1] an)⟩
  intro g_5;replace h:=zR g_5 h
  obtain ⟨r_8,h_10,h⟩:=bind_some h
  refine rg [(3,{ av:=.own 0 ((r_8).length),frz:=[1],ids:=[2],l:=[.sl false 1 (Mb q_1.2),Ii e_1.N],post:=[(.row 5 1 (Mb r_8))] })] [0,1,5,13,14,15] [0,2] 3 [.sl false 1 (Ms q_1.1),.sl false 2 (Mp zD stacks_1),Pp 0,.bool r_3.2.2.1,.bool r_3.2.2.2,.own 2 ((r_8).length)] [Vb 45 (zM e_1),Rb 5 1 (Mb r_8)] zG (ac (by first | (simp;done) | (simp;omega):(q_1.2).length=((List.map (AV.int .u8) q_1.2)).length) (ar ([.sl false 1 (Mb q_1.2),Ii e_1.N]:List AV) (ac (rfl:([]:List zP)=[]) (ac (vK F q_1.2 e_1.N r_8 h_10:zQ prog 59 [] [] [.sl false 1 (Mb q_1.2),Ii e_1.N] [(.row 5 1 (Mb r_8))] (.own 0 ((r_8).length))) an)))) ?_
  cases h
  exact ⟨rfl,(sw [0,2] [] [.s 0,.s 1,.s 5,.s 13,.s 14,.s 15] [.s 0,.s 1] an)⟩
 refine sq ?_
 refine sr [] [0,1,5,14,15,67] [0,1] 2 [.sl false 1 (Ms q_1.1),.sl false 2 (Mp zD stacks_1),Pp 0,.bool r_3.2.2.2,.own 1 ((o_2).length),.bool r_3.2.2.1] [Vb 45 (zM e_1),Rb 5 1 (Mb o_2)] zG an ?_
 obtain ⟨o_3,h_11,h⟩:=bind_some h
 refine yE (mk [(0,.sl false 1 (Ms q_1.1)),(1,.sl false 2 (Mp zD stacks_1)),(5,Pp 0),(14,.bool r_3.2.2.2),(15,.own 1 ((o_3).length))] [(0,Vb 45 (zM e_1)),(1,Rb 5 1 (Mb o_3))] 2) ?_ ?_
 ·replace h:=h_11
  refine cd 67 r_3.2.2.1 ?_ ?_
  rotate_left
  ·intro g_6;replace h:=zS g_6 h
   refine sk ?_
   cases h
   exact ⟨rfl,(sw [0,1] [] [.s 0,.s 1,.s 5,.s 14,.s 15] [.s 0,.s 1] an)⟩
  intro g_6;replace h:=zR g_6 h
  obtain ⟨r_9,h_12,h⟩:=bind_some h
  refine rg [(3,{ av:=.own 0 ((r_9).length),frz:=[1],ids:=[2],l:=[.sl false 1 (Mb o_2),Ii e_1.M],post:=[(.row 5 1 (Mb r_9))] })] [0,1,5,14,15] [0,2] 3 [.sl false 1 (Ms q_1.1),.sl false 2 (Mp zD stacks_1),Pp 0,.bool r_3.2.2.2,.own 2 ((r_9).length)] [Vb 45 (zM e_1),Rb 5 1 (Mb r_9)] zG (ac (by first | (simp;done) | (simp;omega):(o_2).length=((List.map (AV.int .u8) o_2)).length) (ar ([.sl false 1 (Mb o_2),Ii e_1.M]:List AV) (ac (rfl:([]:List zP)=[]) (ac (vK F o_2 e_1.M r_9 h_12:zQ prog 59 [] [] [.sl false 1 (Mb o_2),Ii e_1.M] [(.row 5 1 (Mb r_9))] (.own 0 ((r_9).length))) an)))) ?_
  cases h
  exact ⟨rfl,(sw [0,2] [] [.s 0,.s 1,.s 5,.s 14,.s 15] [.s 0,.s 1] an)⟩
 refine sq ?_
 refine sr [] [0,1,5,15,72] [0,1] 2 [.sl false 1 (Ms q_1.1),.sl false 2 (Mp zD stacks_1),Pp 0,.own 1 ((o_3).length),.bool r_3.2.2.2] [Vb 45 (zM e_1),Rb 5 1 (Mb o_3)] zG an ?_
 obtain ⟨o_4,h_13,h⟩:=bind_some h
 refine wZ (K1:=(fun e st'=>match o_4 with | (.inl q0)=>e=.normal∧Sub 0 st' (mk [(0,.sl false 1 (Ms q0.1)),(1,.sl false 2 (Mp zD q0.2.1)),(15,.own 0 ((q0.2.2).length))] [(0,Rb 5 1 (Mb q0.2.2))] 1) | (.inr q1)=>e=.ret∧jB prog Go.Proofs.Try.f39 0 [.row 5 1 (Mb q1.1)] (.tuple [.own 0 ((q1.1).length),.sl false 1 (Ms q1.2.1),.sl false 2 (Mp zD q1.2.2.1),Ii q1.2.2.2]) st')) ?_ ?_
 ·replace h:=h_13
  refine cd 72 r_3.2.2.2 ?_ ?_
  rotate_left
  ·intro g_7;replace h:=zS g_7 h
   refine sk ?_
   cases h
   exact ⟨rfl,(sw [1] [] [.s 0,.s 1,.s 15] [.s 0] an)⟩
  intro g_7;replace h:=zR g_7 h
  refine sq ?_
  obtain ⟨r_10,h_14,h⟩:=bind_some h
  refine rg [(4,{ av:=.tuple [Ii r_10.1,.sl false 1 (Ms r_10.2.1),.sl false 2 (Mp zD r_10.2.2.1),Ii r_10.2.2.2],l:=[.sl false 1 (Ms q_1.1),.sl false 2 (Mp zD stacks_1),.sl false 1 (Ms e_1.Stack)] })] [15,19,20,21,22] [1] 2 [.own 1 ((o_3).length),Ii r_10.1,.sl false 1 (Ms r_10.2.1),.sl false 2 (Mp zD r_10.2.2.1),Ii r_10.2.2.2] [Rb 5 1 (Mb o_3)] zG (ar ([.sl false 1 (Ms q_1.1),.sl false 2 (Mp zD stacks_1),.sl false 1 (Ms e_1.Stack)]:List AV) (ac (rfl:([]:List zP)=[]) (ac (zCu F q_1.1 stacks_1 e_1.Stack r_10 h_14:zQ prog 61 [] [] [.sl false 1 (Ms q_1.1),.sl false 2 (Mp zD stacks_1),.sl false 1 (Ms e_1.Stack)] [] (.tuple [Ii r_10.1,.sl false 1 (Ms r_10.2.1),.sl false 2 (Mp zD r_10.2.2.1),Ii r_10.2.2.2])) an))) ?_
  refine sq ?_
  refine sr [] [15,19,20,21,22,84] [1] 2 [.own 1 ((o_3).length),Ii r_10.1,.sl false 1 (Ms r_10.2.1),.sl false 2 (Mp zD r_10.2.2.1),Ii r_10.2.2.2,.bool (r_10.2.2.2 != (0:Int))] [Rb 5 1 (Mb o_3)] zG an ?_
  refine cd 84 (r_10.2.2.2 != (0:Int)) ?_ ?_
  rotate_left
  ·intro g_8;replace h:=zS g_8 h
   refine sk ?_
   obtain ⟨r_11,h_15,h⟩:=bind_some h
   refine rg [(2,{ av:=.own 0 ((r_11).length),frz:=[1],ids:=[2],l:=[.sl false 1 (Mb o_3),Ii r_10.1],post:=[(.row 5 1 (Mb r_11))] })] [0,1,15] [2] 3 [.sl false 1 (Ms r_10.2.1),.sl false 2 (Mp zD r_10.2.2.1),.own 2 ((r_11).length)] [Rb 5 1 (Mb r_11)] zG (ac (by first | (simp;done) | (simp;omega):(o_3).length=((List.map (AV.int .u8) o_3)).length) (ar ([.sl false 1 (Mb o_3),Ii r_10.1]:List AV) (ac (rfl:([]:List zP)=[]) (ac (vK F o_3 r_10.1 r_11 h_15:zQ prog 59 [] [] [.sl false 1 (Mb o_3),Ii r_10.1] [(.row 5 1 (Mb r_11))] (.own 0 ((r_11).length))) an)))) ?_
   cases h
   exact ⟨rfl,(sw [2] [] [.s 0,.s 1,.s 15] [.s 0] an)⟩
  intro g_8;replace h:=zR g_8 h
  refine sr [(1,{ id:=2,m:=1 })] [6,7,8,9] [2] 3 [.own 2 0,.nilsl,.nilsl,Ii r_10.2.2.2] [Rb 5 1 []] zG an ?_
  refine wk [2] [] [.a 6 (.own 0 ((([]:List Int)).length)),.a 7 (.sl false 1 []),.a 8 (.sl false 2 []),.s 9] [.s 0] [(6,.own 0 ((([]:List Int)).length)),(7,.sl false 1 []),(8,.sl false 2 []),(9,Ii r_10.2.2.2)] [(0,Rb 5 1 [])] (ac (congrArg (AV.own _) (by first | (simp;done) | (simp;omega)):(.own 2 0:AV)=.own 2 ((([]:List Int)).length)) (ar ([]:List AV) (ar ([]:List AV) an))) ?_
  refine rt ?_
  cases h
  exact ⟨rfl,Nat.le_of_ble_eq_true rfl,by kernel_rfl⟩
 intro e st1 hk
 rcases o_4 with q_3 | q_4
 rotate_left
 ·obtain ⟨rfl,hf⟩:=hk
  cases h
  exact ⟨st1,Sub.refl _ _,.inr rfl,hf⟩
 obtain ⟨rfl,hs⟩:=hk
 refine ⟨_,hs,?_⟩
 refine sr [] [6,7,8,9] [0] 1 [.own 0 ((q_3.2.2).length),.sl false 1 (Ms q_3.1),.sl false 2 (Mp zD q_3.2.1),Ii 0] [Rb 5 1 (Mb q_3.2.2)] zG an ?_
 refine wk [0] [] [.s 6,.s 7,.s 8,.s 9] [.s 0] [(6,.own 0 ((q_3.2.2).length)),(7,.sl false 1 (Ms q_3.1)),(8,.sl false 2 (Mp zD q_3.2.1)),(9,Ii 0)] [(0,Rb 5 1 (Mb q_3.2.2))] an ?_
 refine rt ?_
 cases h
 exact ⟨.inr rfl,Nat.le_of_ble_eq_true rfl,by kernel_rfl⟩
theorem zAH (s_1:List (Int)) (r:(List (Int))) (h:vO s_1=some r):zQ prog 62 [] [] [.sl false 1 (Mb s_1)] [.row 5 1 (Mb r)] (.own 0 ((r).length)):=by
 refine zV (fn:=Go.Proofs.Try.f62) (code:=yI Go.Proofs.Try.f62) (by kernel_rfl) (by kernel_rfl) (Nat.le_of_ble_eq_true (by kernel_rfl)) ?_
 unfold vO at h
 refine sr [(0,{ id:=0,m:=1 })] [0] [] 1 [.sl false 1 (Mb s_1)] [] zG an ?_
 refine sq ?_
 refine sr [] [0,4] [] 1 [.sl false 1 (Mb s_1),.nb (Mb s_1)] [] zG an ?_
 refine zDP (t:=4) (l:=(Mb s_1)) (by kernel_rfl) (by kernel_rfl) ?_ ?_
 ·intro h_2;replace h_2:=List.map_eq_nil_iff.1 h_2
  replace h:=Eq.trans (show (some [])=((need (((([]:List Int)).length+(s_1).length) * 1≤140737488355328)).bind fun _ =>
 some ([]++s_1)) from by simp [h_2,need]) h
  refine sr [(0,{ id:=1,m:=1 })] [2] [1] 2 [.own 1 0] [Rb 5 1 []] zG an ?_
  refine wk [1] [] [.a 2 (.own 0 ((([]:List Int)).length))] [.s 0] [(2,.own 0 ((([]:List Int)).length))] [(0,Rb 5 1 [])] (ac (congrArg (AV.own _) (by first | (simp;done) | (simp;omega)):(.own 1 0:AV)=.own 1 ((([]:List Int)).length)) an) ?_
  refine rt ?_
  cases h
  exact ⟨.inr rfl,Nat.le_of_ble_eq_true rfl,by kernel_rfl⟩
 refine sk ?_
 refine sq ?_
 obtain ⟨_,h_1,h⟩:=bind_some h;replace h_1:=yD h_1
 refine rg [(0,{ id:=1 }),(2,{ id:=2,l:=(Mb ([]++s_1)),n:=(([]++s_1)).length })] [2] [2] 3 [.own 2 ((([]++s_1)).length)] [Rb 5 1 (Mb ([]++s_1))] zG (ac (by first | (simp;done) | (simp;omega):0=(([]:List AV)).length) (ac (trivial:True) (ac (by simp:(List.map (AV.int .u8) ([]++s_1))=[]++(List.map (AV.int .u8) s_1)) (ac (by simp:(([]++s_1)).length=((List.map (AV.int .u8) ([]++s_1))).length) (ac (by first | (simp;done) | simpa using h_1:(([]:List AV).length+((List.map (AV.int .u8) s_1):List AV).length) * 1≤140737488355328) an))))) ?_
 refine wk [2] [] [.s 2] [.s 0] [(2,.own 0 ((([]++s_1)).length))] [(0,Rb 5 1 (Mb ([]++s_1)))] an ?_
 refine rt ?_
 cases h
 exact ⟨.inr rfl,Nat.le_of_ble_eq_true rfl,by kernel_rfl⟩
theorem zIb (F:Nat) (r_1:zB) (b_1:List (Int)) (r:zB×Int×Int) (h:zAZ F r_1 b_1=some r):zQ prog 40 [] [] [z5 r_1,.sl false 1 (Mb b_1)] [] (.tuple [z5 r.1,Ii r.2.1,Ii r.2.2]):=by
 refine zV (fn:=Go.Proofs.Try.f40) (code:=yI Go.Proofs.Try.f40) (by kernel_rfl) (by kernel_rfl) (Nat.le_of_ble_eq_true (by kernel_rfl)) ?_
 unfold zAZ at h
 refine sr [(0,{ id:=0 }),(1,{ id:=1 })] [1,2,4] [0,1] 2 [.sl false 1 (Mb b_1),Pp 0,Pp 1] [Vb 30 (zT r_1),Vb 30 [Ii 0,.nilsl,Ii 0,Ii 0,Ii 0,Ii 0]] zG an ?_
 refine sq ?_
 obtain ⟨r_2,h_1,h⟩:=bind_some h
 refine rg [(1,{ av:=.tuple [.own 0 ((r_2.1).length),Ii r_2.2],ids:=[2],l:=[z5 r_1],post:=[(.row 28 1 (List.map (fun l=>AV.sl false 1 (l.map (AV.int .u8))) r_2.1))] })] [1,2,4,7,8] [0,1,2] 3 [.sl false 1 (Mb b_1),Pp 0,Pp 1,.own 2 ((r_2.1).length),Ii r_2.2] [Vb 30 (zT r_1),Vb 30 [Ii 0,.nilsl,Ii 0,Ii 0,Ii 0,Ii 0],Rb 28 1 (List.map (fun l=>AV.sl false 1 (l.map (AV.int .u8))) r_2.1)] zG (ar ([z5 r_1]:List AV) (ac (rfl:([]:List zP)=[]) (ac (zA3 F r_1 r_2 h_1:zQ prog 53 [] [] [z5 r_1] [(.row 28 1 (List.map (fun l=>AV.sl false 1 (l.map (AV.int .u8))) r_2.1))] (.tuple [.own 0 ((r_2.1).length),Ii r_2.2])) an))) ?_
 refine sq ?_
 refine sr [] [1,2,4,7,8,21] [0,1,2] 3 [.sl false 1 (Mb b_1),Pp 0,Pp 1,.own 2 ((r_2.1).length),Ii r_2.2,.bool (r_2.2 != (0:Int))] [Vb 30 (zT r_1),Vb 30 [Ii 0,.nilsl,Ii 0,Ii 0,Ii 0,Ii 0],Rb 28 1 (List.map (fun l=>AV.sl false 1 (l.map (AV.int .u8))) r_2.1)] zG an ?_
 refine cd 21 (r_2.2 != (0:Int)) ?_ ?_
 ·intro g_1;replace h:=zR g_1 h
  refine sr [] [4,5,6] [1] 3 [Pp 1,Ii 0,Ii r_2.2] [Vb 30 (zT r_1)] zG an ?_
  refine wk [1] [] [.s 4,.s 5,.s 6] [.s 0] [(4,Pp 0),(5,Ii 0),(6,Ii r_2.2)] [(0,Vb 30 (zT r_1))] an ?_
  refine rt ?_
  cases h
  exact ⟨.inr rfl,Nat.le_of_ble_eq_true rfl,by kernel_rfl⟩
 intro g_1;replace h:=zS g_1 h
 refine sk ?_
 refine sq ?_
 obtain ⟨r_3,h_2,h⟩:=bind_some h
 obtain ⟨_,h_3,h⟩:=bind_some h;replace h_3:=yD h_3
 refine rg [(1,{ n:=(b_1).length }),(2,{ av:=.own 0 ((r_3).length),ids:=[3],l:=[.nilsl,Ii (lN (b_1))],post:=[(.row 5 1 (Mb r_3))] }),(4,{ id:=4,l:=(Mb (r_3++b_1)),n:=((r_3++b_1)).length })] [1,2,4,7,9] [0,1,2,4] 5 [.sl false 1 (Mb b_1),Pp 0,Pp 1,.own 2 ((r_2.1).length),.own 4 (((r_3++b_1)).length)] [Vb 30 (zT r_1),Vb 30 [Ii 0,.nilsl,Ii 0,Ii 0,Ii 0,Ii 0],Rb 28 1 (List.map (fun l=>AV.sl false 1 (l.map (AV.int .u8))) r_2.1),Rb 5 1 (Mb (r_3++b_1))] zG (ac (z9 _:((Mb b_1)).length=(b_1).length) (ar ([.nilsl,Ii (lN (b_1))]:List AV) (ac (rfl:([]:List zP)=[]) (ac (wK (args':=[.sl false 1 [],Ii (lN (b_1))]) (vK F [] (lN (b_1)) r_3 h_2) rfl ⟨rfl,rfl,trivial⟩:zQ prog 59 [] [] [.nilsl,Ii (lN (b_1))] [(.row 5 1 (Mb r_3))] (.own 0 ((r_3).length))) (ac (by first | (simp;done) | (simp;omega):(r_3).length=((List.map (AV.int .u8) r_3)).length) (ac (trivial:True) (ac (zAc _ _:(Mb (r_3++b_1))=(Mb r_3)++(Mb b_1)) (ac (by simp:((r_3++b_1)).length=((List.map (AV.int .u8) (r_3++b_1))).length) (ac (by first | (simp;done) | simpa using h_3:(((List.map (AV.int .u8) r_3):List AV).length+((List.map (AV.int .u8) b_1):List AV).length) * 1≤140737488355328) an))))))))) ?_
 refine sr [(2,{ n:=(r_1.Data).length })] [1,2,4,7,9,10] [0,1,2,4] 5 [.sl false 1 (Mb b_1),Pp 0,Pp 1,.own 2 ((r_2.1).length),.own 4 (((r_3++b_1)).length),Ii (zH ((lN (r_1.Data)) - (zH (r_1.End - r_1.Start))))] [Vb 30 (zT r_1),Vb 30 [Ii 0,.nilsl,Ii 0,Ii 0,Ii 0,Ii 0],Rb 28 1 (List.map (fun l=>AV.sl false 1 (l.map (AV.int .u8))) r_2.1),Rb 5 1 (Mb (r_3++b_1))] zG (ac (z9 _:((Mb r_1.Data)).length=(r_1.Data).length) an) ?_
 refine sq ?_
 refine z6 (id:=0) (by kernel_rfl) ?_
 refine sq ?_
 refine yE (mk [(2,Pp 0),(4,Pp 1),(7,.own 2 ((r_2.1).length)),(9,.own 3 (((r_3++b_1)).length)),(10,Ii (zH ((lN (r_1.Data)) - (zH (r_1.End - r_1.Start))))),(38,.bool (decide ((lN (b_1))>(2000:Int))||decide ((lN ((r_3++b_1)))>(lN (r_1.Data)))))] [(0,Vb 30 (zT r_1)),(1,Vb 30 [Ii 0,.nilsl,Ii 0,Ii 0,Ii 0,Ii 0]),(2,Rb 28 1 (List.map (fun l=>AV.sl false 1 (l.map (AV.int .u8))) r_2.1)),(3,Rb 5 1 (Mb (r_3++b_1)))] 4) ?_ ?_
 ·rcases bft (decide ((lN (b_1))>(2000:Int))) with gg_1 | gg_1
  ·refine rg [(1,{ n:=(b_1).length }),(4,Hg),(5,Hg),(6,Hg),(7,Hg),(8,Hg),(9,Hg),(10,Ht)] [2,4,7,9,10,38] [0,1,2,4] 5 [Pp 0,Pp 1,.own 2 ((r_2.1).length),.own 4 (((r_3++b_1)).length),Ii (zH ((lN (r_1.Data)) - (zH (r_1.End - r_1.Start)))),.bool true] [Vb 30 (zT r_1),Vb 30 [Ii 0,.nilsl,Ii 0,Ii 0,Ii 0,Ii 0],Rb 28 1 (List.map (fun l=>AV.sl false 1 (l.map (AV.int .u8))) r_2.1),Rb 5 1 (Mb (r_3++b_1))] zG (ac (z9 _:((Mb b_1)).length=(b_1).length) (ac gg_1 (ac gg_1 (ac gg_1 (ac gg_1 (ac gg_1 (ac gg_1 (ac gg_1 an)))))))) ?_
   exact ⟨rfl,(sw [0,1,2,4] [] [.s 2,.s 4,.s 7,.s 9,.s 10,.a 38 (.bool (decide ((lN (b_1))>(2000:Int))||decide ((lN ((r_3++b_1)))>(lN (r_1.Data)))))] [.s 0,.s 1,.s 2,.s 3] (ac (congrArg AV.bool (ort gg_1):(.bool true:AV)=.bool (decide ((lN (b_1))>(2000:Int))||decide ((lN ((r_3++b_1)))>(lN (r_1.Data))))) an))⟩
  ·refine rg [(1,{ n:=(b_1).length }),(8,{ n:=(r_1.Data).length }),(10,Hf)] [2,4,7,9,10,38] [0,1,2,4] 5 [Pp 0,Pp 1,.own 2 ((r_2.1).length),.own 4 (((r_3++b_1)).length),Ii (zH ((lN (r_1.Data)) - (zH (r_1.End - r_1.Start)))),.bool (decide ((lN ((r_3++b_1)))>(lN (r_1.Data))))] [Vb 30 (zT r_1),Vb 30 [Ii 0,.nilsl,Ii 0,Ii 0,Ii 0,Ii 0],Rb 28 1 (List.map (fun l=>AV.sl false 1 (l.map (AV.int .u8))) r_2.1),Rb 5 1 (Mb (r_3++b_1))] zG (ac (z9 _:((Mb b_1)).length=(b_1).length) (ac gg_1 (ac gg_1 (ac gg_1 (ac gg_1 (ac gg_1 (ac (z9 _:((Mb r_1.Data)).length=(r_1.Data).length) (ac gg_1 (ac gg_1 an))))))))) ?_
   exact ⟨rfl,(sw [0,1,2,4] [] [.s 2,.s 4,.s 7,.s 9,.s 10,.a 38 (.bool (decide ((lN (b_1))>(2000:Int))||decide ((lN ((r_3++b_1)))>(lN (r_1.Data)))))] [.s 0,.s 1,.s 2,.s 3] (ac (congrArg AV.bool (orf gg_1 rfl):(.bool (decide ((lN ((r_3++b_1)))>(lN (r_1.Data)))):AV)=.bool (decide ((lN (b_1))>(2000:Int))||decide ((lN ((r_3++b_1)))>(lN (r_1.Data))))) an))⟩
 refine cd 38 (decide ((lN (b_1))>(2000:Int))||decide ((lN ((r_3++b_1)))>(lN (r_1.Data)))) ?_ ?_
 ·intro g_2;replace h:=zR g_2 h
  refine sr [] [4,5,6] [1] 4 [Pp 1,Ii 0,Ii 7] [Vb 30 (zT r_1)] zG an ?_
  refine wk [1] [] [.s 4,.s 5,.s 6] [.s 0] [(4,Pp 0),(5,Ii 0),(6,Ii 7)] [(0,Vb 30 (zT r_1))] an ?_
  refine rt ?_
  cases h
  exact ⟨.inr rfl,Nat.le_of_ble_eq_true rfl,by kernel_rfl⟩
 intro g_2;replace h:=zS g_2 h
 refine sq ?_
 refine yE (mk [(2,Pp 0),(4,Pp 1),(7,.own 2 ((r_2.1).length)),(9,.own 3 (((r_3++b_1)).length)),(10,Ii (zH ((lN (r_1.Data)) - (zH (r_1.End - r_1.Start))))),(51,.bool ((r_1.Policy==(2:Int))&&decide ((lN ((r_3++b_1)))>(zH ((lN (r_1.Data)) - (zH (r_1.End - r_1.Start)))))))] [(0,Vb 30 (zT r_1)),(1,Vb 30 [Ii 0,.nilsl,Ii 0,Ii 0,Ii 0,Ii 0]),(2,Rb 28 1 (List.map (fun l=>AV.sl false 1 (l.map (AV.int .u8))) r_2.1)),(3,Rb 5 1 (Mb (r_3++b_1)))] 4) ?_ ?_
 ·rcases bft (r_1.Policy==(2:Int)) with gg_2 | gg_2
  ·refine rg [(8,Ht)] [2,4,7,9,10,51] [0,1,2,3] 4 [Pp 0,Pp 1,.own 2 ((r_2.1).length),.own 3 (((r_3++b_1)).length),Ii (zH ((lN (r_1.Data)) - (zH (r_1.End - r_1.Start)))),.bool (decide ((lN ((r_3++b_1)))>(zH ((lN (r_1.Data)) - (zH (r_1.End - r_1.Start))))))] [Vb 30 (zT r_1),Vb 30 [Ii 0,.nilsl,Ii 0,Ii 0,Ii 0,Ii 0],Rb 28 1 (List.map (fun l=>AV.sl false 1 (l.map (AV.int .u8))) r_2.1),Rb 5 1 (Mb (r_3++b_1))] zG (ac gg_2 (ac gg_2 (ac gg_2 (ac gg_2 (ac gg_2 an))))) ?_
   exact ⟨rfl,(sw [0,1,2,3] [] [.s 2,.s 4,.s 7,.s 9,.s 10,.a 51 (.bool ((r_1.Policy==(2:Int))&&decide ((lN ((r_3++b_1)))>(zH ((lN (r_1.Data)) - (zH (r_1.End - r_1.Start)))))))] [.s 0,.s 1,.s 2,.s 3] (ac (congrArg AV.bool (tQ gg_2 rfl):(.bool (decide ((lN ((r_3++b_1)))>(zH ((lN (r_1.Data)) - (zH (r_1.End - r_1.Start)))))):AV)=.bool ((r_1.Policy==(2:Int))&&decide ((lN ((r_3++b_1)))>(zH ((lN (r_1.Data)) - (zH (r_1.End - r_1.Start))))))) an))⟩
  ·refine rg [(4,Hg),(5,Hg),(6,Hg),(7,Hg),(8,Hf)] [2,4,7,9,10,51] [0,1,2,3] 4 [Pp 0,Pp 1,.own 2 ((r_2.1).length),.own 3 (((r_3++b_1)).length),Ii (zH ((lN (r_1.Data)) - (zH (r_1.End - r_1.Start)))),.bool false] [Vb 30 (zT r_1),Vb 30 [Ii 0,.nilsl,Ii 0,Ii 0,Ii 0,Ii 0],Rb 28 1 (List.map (fun l=>AV.sl false 1 (l.map (AV.int .u8))) r_2.1),Rb 5 1 (Mb (r_3++b_1))] zG (ac gg_2 (ac gg_2 (ac gg_2 (ac gg_2 (ac gg_2 an))))) ?_
   exact ⟨rfl,(sw [0,1,2,3] [] [.s 2,.s 4,.s 7,.s 9,.s 10,.a 51 (.bool ((r_1.Policy==(2:Int))&&decide ((lN ((r_3++b_1)))>(zH ((lN (r_1.Data)) - (zH (r_1.End - r_1.Start)))))))] [.s 0,.s 1,.s 2,.s 3] (ac (congrArg AV.bool (pJ gg_2):(.bool false:AV)=.bool ((r_1.Policy==(2:Int))&&decide ((lN ((r_3++b_1)))>(zH ((lN (r_1.Data)) - (zH (r_1.End - r_1.Start))))))) an))⟩
 refine cd 51 ((r_1.Policy==(2:Int))&&decide ((lN ((r_3++b_1)))>(zH ((lN (r_1.Data)) - (zH (r_1.End - r_1.Start)))))) ?_ ?_
 ·intro g_3;replace h:=zR g_3 h
  refine sr [] [4,5,6] [1] 4 [Pp 1,Ii 0,Ii 6] [Vb 30 (zT r_1)] zG an ?_
  refine wk [1] [] [.s 4,.s 5,.s 6] [.s 0] [(4,Pp 0),(5,Ii 0),(6,Ii 6)] [(0,Vb 30 (zT r_1))] an ?_
  refine rt ?_
  cases h
  exact ⟨.inr rfl,Nat.le_of_ble_eq_true rfl,by kernel_rfl⟩
 intro g_3;replace h:=zS g_3 h
 refine sq ?_
 refine yE (mk [(2,Pp 0),(4,Pp 1),(7,.own 2 ((r_2.1).length)),(9,.own 3 (((r_3++b_1)).length)),(10,Ii (zH ((lN (r_1.Data)) - (zH (r_1.End - r_1.Start))))),(62,.bool (decide ((zH (r_1.End+(lN ((r_3++b_1)))))>(1000000000000000:Int))||decide (r_1.Next≥(1000000000000000:Int))))] [(0,Vb 30 (zT r_1)),(1,Vb 30 [Ii 0,.nilsl,Ii 0,Ii 0,Ii 0,Ii 0]),(2,Rb 28 1 (List.map (fun l=>AV.sl false 1 (l.map (AV.int .u8))) r_2.1)),(3,Rb 5 1 (Mb (r_3++b_1)))] 4) ?_ ?_
 ·rcases bft (decide ((zH (r_1.End+(lN ((r_3++b_1)))))>(1000000000000000:Int))) with gg_3 | gg_3
  ·refine rg [(7,Hg),(8,Hg),(9,Hg),(10,Ht)] [2,4,7,9,10,62] [0,1,2,3] 4 [Pp 0,Pp 1,.own 2 ((r_2.1).length),.own 3 (((r_3++b_1)).length),Ii (zH ((lN (r_1.Data)) - (zH (r_1.End - r_1.Start)))),.bool true] [Vb 30 (zT r_1),Vb 30 [Ii 0,.nilsl,Ii 0,Ii 0,Ii 0,Ii 0],Rb 28 1 (List.map (fun l=>AV.sl false 1 (l.map (AV.int .u8))) r_2.1),Rb 5 1 (Mb (r_3++b_1))] zG (ac gg_3 (ac gg_3 (ac gg_3 (ac gg_3 an)))) ?_
   exact ⟨rfl,(sw [0,1,2,3] [] [.s 2,.s 4,.s 7,.s 9,.s 10,.a 62 (.bool (decide ((zH (r_1.End+(lN ((r_3++b_1)))))>(1000000000000000:Int))||decide (r_1.Next≥(1000000000000000:Int))))] [.s 0,.s 1,.s 2,.s 3] (ac (congrArg AV.bool (ort gg_3):(.bool true:AV)=.bool (decide ((zH (r_1.End+(lN ((r_3++b_1)))))>(1000000000000000:Int))||decide (r_1.Next≥(1000000000000000:Int)))) an))⟩
  ·refine rg [(10,Hf)] [2,4,7,9,10,62] [0,1,2,3] 4 [Pp 0,Pp 1,.own 2 ((r_2.1).length),.own 3 (((r_3++b_1)).length),Ii (zH ((lN (r_1.Data)) - (zH (r_1.End - r_1.Start)))),.bool (decide (r_1.Next≥(1000000000000000:Int)))] [Vb 30 (zT r_1),Vb 30 [Ii 0,.nilsl,Ii 0,Ii 0,Ii 0,Ii 0],Rb 28 1 (List.map (fun l=>AV.sl false 1 (l.map (AV.int .u8))) r_2.1),Rb 5 1 (Mb (r_3++b_1))] zG (ac gg_3 (ac gg_3 (ac gg_3 (ac gg_3 an)))) ?_
   exact ⟨rfl,(sw [0,1,2,3] [] [.s 2,.s 4,.s 7,.s 9,.s 10,.a 62 (.bool (decide ((zH (r_1.End+(lN ((r_3++b_1)))))>(1000000000000000:Int))||decide (r_1.Next≥(1000000000000000:Int))))] [.s 0,.s 1,.s 2,.s 3] (ac (congrArg AV.bool (orf gg_3 rfl):(.bool (decide (r_1.Next≥(1000000000000000:Int))):AV)=.bool (decide ((zH (r_1.End+(lN ((r_3++b_1)))))>(1000000000000000:Int))||decide (r_1.Next≥(1000000000000000:Int)))) an))⟩
 refine cd 62 (decide ((zH (r_1.End+(lN ((r_3++b_1)))))>(1000000000000000:Int))||decide (r_1.Next≥(1000000000000000:Int))) ?_ ?_
 ·intro g_4;replace h:=zR g_4 h
  refine sr [] [4,5,6] [1] 4 [Pp 1,Ii 0,Ii 2] [Vb 30 (zT r_1)] zG an ?_
  refine wk [1] [] [.s 4,.s 5,.s 6] [.s 0] [(4,Pp 0),(5,Ii 0),(6,Ii 2)] [(0,Vb 30 (zT r_1))] an ?_
  refine rt ?_
  cases h
  exact ⟨.inr rfl,Nat.le_of_ble_eq_true rfl,by kernel_rfl⟩
 intro g_4;replace h:=zS g_4 h
 refine sk ?_
 refine sr [(1,{ id:=4 })] [2,4,7,9,10,11,12] [0,1,2,3,4] 5 [Pp 0,Pp 1,.own 2 ((r_2.1).length),.own 3 (((r_3++b_1)).length),Ii (zH ((lN (r_1.Data)) - (zH (r_1.End - r_1.Start)))),Pp 4,Ii 0] [Vb 30 (zT r_1),Vb 30 [Ii 0,.nilsl,Ii 0,Ii 0,Ii 0,Ii 0],Rb 28 1 (List.map (fun l=>AV.sl false 1 (l.map (AV.int .u8))) r_2.1),Rb 5 1 (Mb (r_3++b_1)),Vb 30 (zT r_1)] zG an ?_
 refine sq ?_
 obtain ⟨o_1,h_4,h⟩:=bind_some h
 refine yE (mk [(2,Pp 0),(4,Pp 1),(9,.own 2 (((r_3++b_1)).length)),(11,Pp 3),(12,Ii o_1.1)] [(0,Vb 30 (zT r_1)),(1,Vb 30 [Ii 0,.nilsl,Ii 0,Ii 0,Ii 0,Ii 0]),(2,Rb 5 1 (Mb (r_3++b_1))),(3,Vb 30 [Ii r_1.Policy,.sl false 1 (Mb r_1.Data),Ii o_1.2,Ii r_1.End,Ii r_1.First,Ii r_1.Next])] 4) ?_ ?_
 ·replace h:=h_4
  refine z6 (id:=1) (by kernel_rfl) ?_
  refine wk [0,1,2,3,4] [] [.s 2,.s 4,.s 7,.s 9,.s 10,.s 11,.s 12] [.s 0,.s 1,.s 2,.s 3,.s 4] [(2,Pp 0),(4,Pp 1),(7,.own 2 ((r_2.1).length)),(9,.own 3 (((r_3++b_1)).length)),(10,Ii (zH ((lN (r_1.Data)) - (zH (r_1.End - r_1.Start))))),(11,Pp 4),(12,Ii 0)] [(0,Vb 30 (zT r_1)),(1,Vb 30 [Ii 0,.nilsl,Ii 0,Ii 0,Ii 0,Ii 0]),(2,Rb 28 1 (List.map (fun l=>AV.sl false 1 (l.map (AV.int .u8))) r_2.1)),(3,Rb 5 1 (Mb (r_3++b_1))),(4,Vb 30 (zT r_1))] an ?_
  refine xQ (fun n st=>∃ (room_1:Int),∃ (lost_1:Int),∃ (c_1:Int),st=mk [(2,Pp 0),(4,Pp 1),(7,.own 2 ((r_2.1).length)),(9,.own 3 (((r_3++b_1)).length)),(10,Ii room_1),(11,Pp 4),(12,Ii lost_1)] [(0,Vb 30 (zT r_1)),(1,Vb 30 [Ii 0,.nilsl,Ii 0,Ii 0,Ii 0,Ii 0]),(2,Rb 28 1 (List.map (fun l=>AV.sl false 1 (l.map (AV.int .u8))) r_2.1)),(3,Rb 5 1 (Mb (r_3++b_1))),(4,Vb 30 [Ii r_1.Policy,.sl false 1 (Mb r_1.Data),Ii c_1,Ii r_1.End,Ii r_1.First,Ii r_1.Next])] 5∧j2 F b_1 r_2 r_3 n room_1 lost_1 c_1=some o_1) F (by kernel_rfl) ⟨_,_,_,rfl,h⟩ ?_ ?_
  ·rintro _ ⟨_,_,_,_,h⟩;exact wH (h:(none:Option (Int×Int))=some o_1)
  rintro n_1 _ ⟨room_1,lost_1,c_1,rfl,h⟩
  replace h:vW F b_1 r_2 r_3 (j2 F b_1 r_2 r_3 n_1) room_1 lost_1 c_1=some o_1:=h
  unfold vW at h
  refine sq ?_
  refine sr [] [2,4,7,9,10,11,12,79] [0,1,2,3,4] 5 [Pp 0,Pp 1,.own 2 ((r_2.1).length),.own 3 (((r_3++b_1)).length),Ii room_1,Pp 4,Ii lost_1,.bool (decide ((lN ((r_3++b_1)))>room_1))] [Vb 30 (zT r_1),Vb 30 [Ii 0,.nilsl,Ii 0,Ii 0,Ii 0,Ii 0],Rb 28 1 (List.map (fun l=>AV.sl false 1 (l.map (AV.int .u8))) r_2.1),Rb 5 1 (Mb (r_3++b_1)),Vb 30 [Ii r_1.Policy,.sl false 1 (Mb r_1.Data),Ii c_1,Ii r_1.End,Ii r_1.First,Ii r_1.Next]] zG an ?_
  refine cd 79 (decide ((lN ((r_3++b_1)))>room_1)) ?_ ?_
  rotate_left
  ·intro g_5;replace h:=zS g_5 h
   refine xR (id:=1) (by kernel_rfl) ?_
   cases h
   exact ⟨rfl,(sw [0,1,3,4] [] [.s 2,.s 4,.s 9,.s 11,.s 12] [.s 0,.s 1,.s 2,.s 3] an)⟩
  intro g_5;replace h:=zR g_5 h
  refine sk ?_
  refine sq ?_
  refine z6 (id:=2) (by kernel_rfl) ?_
  refine sq ?_
  obtain ⟨x_1,h_5,h⟩:=bind_some h
  obtain ⟨r_4,h_6,h⟩:=bind_some h
  obtain ⟨x_2,h_7,h⟩:=bind_some h
  refine rg [(3,{ av:=.sl false 1 (Mb x_1) }),(4,{ n:=(x_1).length }),(5,{ av:=.own 0 ((r_4).length),ids:=[5],l:=[.nilsl,Ii (lN (x_1))],post:=[(.row 5 1 (Mb r_4))] }),(10,{ av:=.sl false 1 (Mb x_2) }),(11,{ n:=(x_2).length })] [2,4,7,9,10,11,12,13] [0,1,2,3,4] 6 [Pp 0,Pp 1,.own 2 ((r_2.1).length),.own 3 (((r_3++b_1)).length),Ii room_1,Pp 4,Ii lost_1,Ii (zH ((lN (r_4))+(lN (x_2))))] [Vb 30 (zT r_1),Vb 30 [Ii 0,.nilsl,Ii 0,Ii 0,Ii 0,Ii 0],Rb 28 1 (List.map (fun l=>AV.sl false 1 (l.map (AV.int .u8))) r_2.1),Rb 5 1 (Mb (r_3++b_1)),Vb 30 [Ii r_1.Policy,.sl false 1 (Mb r_1.Data),Ii c_1,Ii r_1.End,Ii r_1.First,Ii r_1.Next]] zG (ac (yP h_5:(0:Int)≤lost_1) (ac (by first | (simp;done) | simpa using yN h_5:lost_1<(((r_2.1).length:Nat):Int)) (ac (y0 h_5:(List.map (fun l=>AV.sl false 1 (l.map (AV.int .u8))) r_2.1)[(lost_1).toNat]?=some (.sl false 1 (Mb x_1))) (ac (z9 _:((Mb x_1)).length=(x_1).length) (ar ([.nilsl,Ii (lN (x_1))]:List AV) (ac (rfl:([]:List zP)=[]) (ac (wK (args':=[.sl false 1 [],Ii (lN (x_1))]) (vK F [] (lN (x_1)) r_4 h_6) rfl ⟨rfl,rfl,trivial⟩:zQ prog 59 [] [] [.nilsl,Ii (lN (x_1))] [(.row 5 1 (Mb r_4))] (.own 0 ((r_4).length))) (ac (yP h_7:(0:Int)≤lost_1) (ac (by first | (simp;done) | simpa using yN h_7:lost_1<(((r_2.1).length:Nat):Int)) (ac (y0 h_7:(List.map (fun l=>AV.sl false 1 (l.map (AV.int .u8))) r_2.1)[(lost_1).toNat]?=some (.sl false 1 (Mb x_2))) (ac (z9 _:((Mb x_2)).length=(x_2).length) an))))))))))) ?_
  refine sr [] [2,4,7,9,10,11,12,13] [0,1,2,3,4] 6 [Pp 0,Pp 1,.own 2 ((r_2.1).length),.own 3 (((r_3++b_1)).length),Ii (zH (room_1+(zH ((lN (r_4))+(lN (x_2)))))),Pp 4,Ii lost_1,Ii (zH ((lN (r_4))+(lN (x_2))))] [Vb 30 (zT r_1),Vb 30 [Ii 0,.nilsl,Ii 0,Ii 0,Ii 0,Ii 0],Rb 28 1 (List.map (fun l=>AV.sl false 1 (l.map (AV.int .u8))) r_2.1),Rb 5 1 (Mb (r_3++b_1)),Vb 30 [Ii r_1.Policy,.sl false 1 (Mb r_1.Data),Ii c_1,Ii r_1.End,Ii r_1.First,Ii r_1.Next]] zG an ?_
  refine rg [] [2,4,7,9,10,11,12] [0,1,2,3,4] 6 [Pp 0,Pp 1,.own 2 ((r_2.1).length),.own 3 (((r_3++b_1)).length),Ii (zH (room_1+(zH ((lN (r_4))+(lN (x_2)))))),Pp 4,Ii lost_1] [Vb 30 (zT r_1),Vb 30 [Ii 0,.nilsl,Ii 0,Ii 0,Ii 0,Ii 0],Rb 28 1 (List.map (fun l=>AV.sl false 1 (l.map (AV.int .u8))) r_2.1),Rb 5 1 (Mb (r_3++b_1)),Vb 30 [Ii r_1.Policy,.sl false 1 (Mb r_1.Data),Ii (zH (c_1+(zH ((lN (r_4))+(lN (x_2)))))),Ii r_1.End,Ii r_1.First,Ii r_1.Next]] zG an ?_
  refine rg [] [2,4,7,9,10,11,12] [0,1,2,3,4] 6 [Pp 0,Pp 1,.own 2 ((r_2.1).length),.own 3 (((r_3++b_1)).length),Ii (zH (room_1+(zH ((lN (r_4))+(lN (x_2)))))),Pp 4,Ii (zH (lost_1+(1:Int)))] [Vb 30 (zT r_1),Vb 30 [Ii 0,.nilsl,Ii 0,Ii 0,Ii 0,Ii 0],Rb 28 1 (List.map (fun l=>AV.sl false 1 (l.map (AV.int .u8))) r_2.1),Rb 5 1 (Mb (r_3++b_1)),Vb 30 [Ii r_1.Policy,.sl false 1 (Mb r_1.Data),Ii (zH (c_1+(zH ((lN (r_4))+(lN (x_2)))))),Ii r_1.End,Ii r_1.First,Ii r_1.Next]] zG an ?_
  exact ⟨_,(sw [0,1,2,3,4] [] [.s 2,.s 4,.s 7,.s 9,.s 10,.s 11,.s 12] [.s 0,.s 1,.s 2,.s 3,.s 4] an),_,_,_,rfl,h⟩
 refine sr [] [2,4,9,11,12] [0,1,2,3] 4 [Pp 0,Pp 1,.own 2 (((r_3++b_1)).length),Pp 3,Ii o_1.1] [Vb 30 (zT r_1),Vb 30 [Ii 0,.nilsl,Ii 0,Ii 0,Ii 0,Ii 0],Rb 5 1 (Mb (r_3++b_1)),Vb 30 [Ii r_1.Policy,.sl false 1 (Mb r_1.Data),Ii o_1.2,Ii r_1.End,Ii (zH (r_1.First+o_1.1)),Ii r_1.Next]] zG an ?_
 refine sq ?_
 obtain ⟨r_5,h_8,h⟩:=bind_some h
 refine rg [(2,{ av:=.own 0 ((r_5).length),ids:=[4],l:=[.sl false 1 (Mb r_1.Data)],post:=[(.row 5 1 (Mb r_5))] })] [4,9,11,12] [1,2,3,4] 5 [Pp 1,.own 2 (((r_3++b_1)).length),Pp 3,Ii o_1.1] [Vb 30 [Ii 0,.nilsl,Ii 0,Ii 0,Ii 0,Ii 0],Rb 5 1 (Mb (r_3++b_1)),Vb 30 [Ii r_1.Policy,.own 4 ((r_5).length),Ii o_1.2,Ii r_1.End,Ii (zH (r_1.First+o_1.1)),Ii r_1.Next],Rb 5 1 (Mb r_5)] zG (ar ([.sl false 1 (Mb r_1.Data)]:List AV) (ac (rfl:([]:List zP)=[]) (ac (zAH r_1.Data r_5 h_8:zQ prog 62 [] [] [.sl false 1 (Mb r_1.Data)] [(.row 5 1 (Mb r_5))] (.own 0 ((r_5).length))) an))) ?_
 refine sq ?_
 obtain ⟨_,h_9,h⟩:=bind_some h;replace h_9:=yD h_9
 obtain ⟨_,h_10,h⟩:=bind_some h;replace h_10:=yD h_10
 obtain ⟨_,h_11,h⟩:=bind_some h;replace h_11:=yD h_11
 refine rg [(10,{ l:=(Mb (cpy r_5 ((z0 r_1.End (lN (r_5))).toNat) ((r_5).length) (r_3++b_1))),n:=(min ((r_3++b_1)).length ((r_5).length - (z0 r_1.End (lN (r_5))).toNat)) })] [4,9,11,12,14] [1,2,3,4] 5 [Pp 1,.own 2 (((r_3++b_1)).length),Pp 3,Ii o_1.1,Ii (((min ((r_3++b_1)).length ((r_5).length - (z0 r_1.End (lN (r_5))).toNat)):Nat):Int)] [Vb 30 [Ii 0,.nilsl,Ii 0,Ii 0,Ii 0,Ii 0],Rb 5 1 (Mb (r_3++b_1)),Vb 30 [Ii r_1.Policy,.own 4 ((r_5).length),Ii o_1.2,Ii r_1.End,Ii (zH (r_1.First+o_1.1)),Ii r_1.Next],Rb 5 1 (Mb (cpy r_5 ((z0 r_1.End (lN (r_5))).toNat) ((r_5).length) (r_3++b_1)))] zG (ac h_9 (ac h_10.1 (ac h_10.2 (ac (Int.le_refl _:(lN (r_5))≤(lN (r_5))) (ac (by first | (simp;done) | (simp;omega):((r_3++b_1)).length=((List.map (AV.int .u8) (r_3++b_1))).length) (ac h_11.1 (ac (kH h_11.2:((r_5).length)≤((Mb r_5)).length) (ac (by simp:(min ((r_3++b_1)).length ((r_5).length - (z0 r_1.End (((r_5).length:Nat):Int)).toNat))=min ((List.map (AV.int .u8) (r_3++b_1)):List AV).length ((r_5).length - (z0 r_1.End (((r_5).length:Nat):Int)).toNat)) (ac (by simp [cpy]:(List.map (AV.int .u8) (cpy r_5 ((z0 r_1.End (((r_5).length:Nat):Int)).toNat) ((r_5).length) (r_3++b_1)))=((List.map (AV.int .u8) r_5)).take ((z0 r_1.End (((r_5).length:Nat):Int)).toNat)++((List.map (AV.int .u8) (r_3++b_1)):List AV).take (min ((r_3++b_1)).length ((r_5).length - (z0 r_1.End (((r_5).length:Nat):Int)).toNat))++((List.map (AV.int .u8) r_5)).drop ((z0 r_1.End (((r_5).length:Nat):Int)).toNat+(min ((r_3++b_1)).length ((r_5).length - (z0 r_1.End (((r_5).length:Nat):Int)).toNat)))) an))))))))) ?_
 refine sq ?_
 obtain ⟨_,h_12,h⟩:=bind_some h;replace h_12:=yD h_12
 obtain ⟨_,h_13,h⟩:=bind_some h;replace h_13:=yD h_13
 obtain ⟨_,h_14,h⟩:=bind_some h;replace h_14:=yD h_14
 refine rg [(5,{ l:=(Mb (cpy (cpy r_5 ((z0 r_1.End (lN (r_5))).toNat) ((r_5).length) (r_3++b_1)) 0 ((r_5).length) ((((r_3++b_1)).take (((r_3++b_1)).length)).drop (min ((r_3++b_1)).length ((r_5).length - (z0 r_1.End (lN (r_5))).toNat))))),n:=(min ((((r_3++b_1)).take (((r_3++b_1)).length)).drop (min ((r_3++b_1)).length ((r_5).length - (z0 r_1.End (lN (r_5))).toNat))).length ((r_5).length - 0)) })] [4,9,11,12] [1,2,3,4] 5 [Pp 1,.own 2 (((r_3++b_1)).length),Pp 3,Ii o_1.1] [Vb 30 [Ii 0,.nilsl,Ii 0,Ii 0,Ii 0,Ii 0],Rb 5 1 (Mb (r_3++b_1)),Vb 30 [Ii r_1.Policy,.own 4 ((r_5).length),Ii o_1.2,Ii r_1.End,Ii (zH (r_1.First+o_1.1)),Ii r_1.Next],Rb 5 1 (Mb (cpy (cpy r_5 ((z0 r_1.End (lN (r_5))).toNat) ((r_5).length) (r_3++b_1)) 0 ((r_5).length) ((((r_3++b_1)).take (((r_3++b_1)).length)).drop (min ((r_3++b_1)).length ((r_5).length - (z0 r_1.End (lN (r_5))).toNat)))))] zG (ac (Int.natCast_nonneg _:(0:Int)≤(((min ((r_3++b_1)).length ((r_5).length - (z0 r_1.End (lN (r_5))).toNat)):Nat):Int)) (ac h_12 (ac (Int.le_refl _:(lN ((r_3++b_1)))≤(lN ((r_3++b_1)))) (ac (kH h_13.2:(((r_3++b_1)).length)≤((Mb (r_3++b_1))).length) (ac h_13.1 (ac h_14.1 (ac (kH h_14.2:((r_5).length)≤((Mb (cpy r_5 ((z0 r_1.End (lN (r_5))).toNat) ((r_5).length) (r_3++b_1)))).length) (ac (by simp:(min ((((r_3++b_1)).take (((r_3++b_1)).length)).drop (min ((r_3++b_1)).length ((r_5).length - (z0 r_1.End (((r_5).length:Nat):Int)).toNat))).length ((r_5).length - 0))=min ((((List.map (AV.int .u8) (r_3++b_1))).take (((r_3++b_1)).length)).drop (min ((r_3++b_1)).length ((r_5).length - (z0 r_1.End (((r_5).length:Nat):Int)).toNat)):List AV).length ((r_5).length - 0)) (ac (by simp [cpy]:(List.map (AV.int .u8) (cpy (cpy r_5 ((z0 r_1.End (((r_5).length:Nat):Int)).toNat) ((r_5).length) (r_3++b_1)) 0 ((r_5).length) ((((r_3++b_1)).take (((r_3++b_1)).length)).drop (min ((r_3++b_1)).length ((r_5).length - (z0 r_1.End (((r_5).length:Nat):Int)).toNat)))))=((List.map (AV.int .u8) (cpy r_5 ((z0 r_1.End (((r_5).length:Nat):Int)).toNat) ((r_5).length) (r_3++b_1)))).take 0++((((List.map (AV.int .u8) (r_3++b_1))).take (((r_3++b_1)).length)).drop (min ((r_3++b_1)).length ((r_5).length - (z0 r_1.End (((r_5).length:Nat):Int)).toNat)):List AV).take (min ((((r_3++b_1)).take (((r_3++b_1)).length)).drop (min ((r_3++b_1)).length ((r_5).length - (z0 r_1.End (((r_5).length:Nat):Int)).toNat))).length ((r_5).length - 0))++((List.map (AV.int .u8) (cpy r_5 ((z0 r_1.End (((r_5).length:Nat):Int)).toNat) ((r_5).length) (r_3++b_1)))).drop (0+(min ((((r_3++b_1)).take (((r_3++b_1)).length)).drop (min ((r_3++b_1)).length ((r_5).length - (z0 r_1.End (((r_5).length:Nat):Int)).toNat))).length ((r_5).length - 0)))) an))))))))) ?_
 refine sr [] [4,11,12] [1,3,4] 5 [Pp 1,Pp 3,Ii o_1.1] [Vb 30 [Ii 0,.nilsl,Ii 0,Ii 0,Ii 0,Ii 0],Vb 30 [Ii r_1.Policy,.own 4 ((r_5).length),Ii o_1.2,Ii (zH (r_1.End+(lN ((r_3++b_1))))),Ii (zH (r_1.First+o_1.1)),Ii r_1.Next],Rb 5 1 (Mb (cpy (cpy r_5 ((z0 r_1.End (lN (r_5))).toNat) ((r_5).length) (r_3++b_1)) 0 ((r_5).length) ((((r_3++b_1)).take (((r_3++b_1)).length)).drop (min ((r_3++b_1)).length ((r_5).length - (z0 r_1.End (lN (r_5))).toNat)))))] zG an ?_
 refine sr [] [4,11,12] [1,3,4] 5 [Pp 1,Pp 3,Ii o_1.1] [Vb 30 [Ii 0,.nilsl,Ii 0,Ii 0,Ii 0,Ii 0],Vb 30 [Ii r_1.Policy,.own 4 ((r_5).length),Ii o_1.2,Ii (zH (r_1.End+(lN ((r_3++b_1))))),Ii (zH (r_1.First+o_1.1)),Ii (zH (r_1.Next+(1:Int)))],Rb 5 1 (Mb (cpy (cpy r_5 ((z0 r_1.End (lN (r_5))).toNat) ((r_5).length) (r_3++b_1)) 0 ((r_5).length) ((((r_3++b_1)).take (((r_3++b_1)).length)).drop (min ((r_3++b_1)).length ((r_5).length - (z0 r_1.End (lN (r_5))).toNat)))))] zG an ?_
 refine sr [] [4,5,6] [1,4] 5 [Pp 1,Ii o_1.1,Ii 0] [Vb 30 [Ii r_1.Policy,.own 4 ((r_5).length),Ii o_1.2,Ii (zH (r_1.End+(lN ((r_3++b_1))))),Ii (zH (r_1.First+o_1.1)),Ii (zH (r_1.Next+(1:Int)))],Rb 5 1 (Mb (cpy (cpy r_5 ((z0 r_1.End (lN (r_5))).toNat) ((r_5).length) (r_3++b_1)) 0 ((r_5).length) ((((r_3++b_1)).take (((r_3++b_1)).length)).drop (min ((r_3++b_1)).length ((r_5).length - (z0 r_1.End (lN (r_5))).toNat)))))] zG an ?_
 refine wk [1] [4] [.s 4,.s 5,.s 6] [.a 0 (Vb 30 (zT (⟨r_1.Policy,(cpy (cpy r_5 ((z0 r_1.End (lN (r_5))).toNat) ((r_5).length) (r_3++b_1)) 0 ((r_5).length) ((((r_3++b_1)).take (((r_3++b_1)).length)).drop (min ((r_3++b_1)).length ((r_5).length - (z0 r_1.End (lN (r_5))).toNat)))),o_1.2,zH (r_1.End+(lN ((r_3++b_1)))),zH (r_1.First+o_1.1),zH (r_1.Next+(1:Int))⟩:zB)))] [(4,Pp 0),(5,Ii o_1.1),(6,Ii 0)] [(0,Vb 30 (zT (⟨r_1.Policy,(cpy (cpy r_5 ((z0 r_1.End (lN (r_5))).toNat) ((r_5).length) (r_3++b_1)) 0 ((r_5).length) ((((r_3++b_1)).take (((r_3++b_1)).length)).drop (min ((r_3++b_1)).length ((r_5).length - (z0 r_1.End (lN (r_5))).toNat)))),o_1.2,zH (r_1.End+(lN ((r_3++b_1)))),zH (r_1.First+o_1.1),zH (r_1.Next+(1:Int))⟩:zB)))] (ar 30 (ac (rfl:wJ [Ii ((⟨r_1.Policy,(cpy (cpy r_5 ((z0 r_1.End (lN (r_5))).toNat) ((r_5).length) (r_3++b_1)) 0 ((r_5).length) ((((r_3++b_1)).take (((r_3++b_1)).length)).drop (min ((r_3++b_1)).length ((r_5).length - (z0 r_1.End (lN (r_5))).toNat)))),o_1.2,zH (r_1.End+(lN ((r_3++b_1)))),zH (r_1.First+o_1.1),zH (r_1.Next+(1:Int))⟩:zB).Policy),.sl false 1 (Mb ((⟨r_1.Policy,(cpy (cpy r_5 ((z0 r_1.End (lN (r_5))).toNat) ((r_5).length) (r_3++b_1)) 0 ((r_5).length) ((((r_3++b_1)).take (((r_3++b_1)).length)).drop (min ((r_3++b_1)).length ((r_5).length - (z0 r_1.End (lN (r_5))).toNat)))),o_1.2,zH (r_1.End+(lN ((r_3++b_1)))),zH (r_1.First+o_1.1),zH (r_1.Next+(1:Int))⟩:zB).Data)),Ii ((⟨r_1.Policy,(cpy (cpy r_5 ((z0 r_1.End (lN (r_5))).toNat) ((r_5).length) (r_3++b_1)) 0 ((r_5).length) ((((r_3++b_1)).take (((r_3++b_1)).length)).drop (min ((r_3++b_1)).length ((r_5).length - (z0 r_1.End (lN (r_5))).toNat)))),o_1.2,zH (r_1.End+(lN ((r_3++b_1)))),zH (r_1.First+o_1.1),zH (r_1.Next+(1:Int))⟩:zB).Start),Ii ((⟨r_1.Policy,(cpy (cpy r_5 ((z0 r_1.End (lN (r_5))).toNat) ((r_5).length) (r_3++b_1)) 0 ((r_5).length) ((((r_3++b_1)).take (((r_3++b_1)).length)).drop (min ((r_3++b_1)).length ((r_5).length - (z0 r_1.End (lN (r_5))).toNat)))),o_1.2,zH (r_1.End+(lN ((r_3++b_1)))),zH (r_1.First+o_1.1),zH (r_1.Next+(1:Int))⟩:zB).End),Ii ((⟨r_1.Policy,(cpy (cpy r_5 ((z0 r_1.End (lN (r_5))).toNat) ((r_5).length) (r_3++b_1)) 0 ((r_5).length) ((((r_3++b_1)).take (((r_3++b_1)).length)).drop (min ((r_3++b_1)).length ((r_5).length - (z0 r_1.End (lN (r_5))).toNat)))),o_1.2,zH (r_1.End+(lN ((r_3++b_1)))),zH (r_1.First+o_1.1),zH (r_1.Next+(1:Int))⟩:zB).First),Ii ((⟨r_1.Policy,(cpy (cpy r_5 ((z0 r_1.End (lN (r_5))).toNat) ((r_5).length) (r_3++b_1)) 0 ((r_5).length) ((((r_3++b_1)).take (((r_3++b_1)).length)).drop (min ((r_3++b_1)).length ((r_5).length - (z0 r_1.End (lN (r_5))).toNat)))),o_1.2,zH (r_1.End+(lN ((r_3++b_1)))),zH (r_1.First+o_1.1),zH (r_1.Next+(1:Int))⟩:zB).Next)]=true) (ac (by rw [List.length_map];exact ((jD h_14.1 h_14.2).trans (jD h_11.1 h_11.2)).symm:(r_5).length=((List.map (AV.int .u8) (cpy (cpy r_5 ((z0 r_1.End (((r_5).length:Nat):Int)).toNat) ((r_5).length) (r_3++b_1)) 0 ((r_5).length) ((((r_3++b_1)).take (((r_3++b_1)).length)).drop (min ((r_3++b_1)).length ((r_5).length - (z0 r_1.End (((r_5).length:Nat):Int)).toNat)))))).length) (ac (rfl:(Ii r_1.Policy:AV)=Ii ((⟨r_1.Policy,(cpy (cpy r_5 ((z0 r_1.End (lN (r_5))).toNat) ((r_5).length) (r_3++b_1)) 0 ((r_5).length) ((((r_3++b_1)).take (((r_3++b_1)).length)).drop (min ((r_3++b_1)).length ((r_5).length - (z0 r_1.End (lN (r_5))).toNat)))),o_1.2,zH (r_1.End+(lN ((r_3++b_1)))),zH (r_1.First+o_1.1),zH (r_1.Next+(1:Int))⟩:zB).Policy)) (ar 1 (ac (rfl:((Mb (cpy (cpy r_5 ((z0 r_1.End (lN (r_5))).toNat) ((r_5).length) (r_3++b_1)) 0 ((r_5).length) ((((r_3++b_1)).take (((r_3++b_1)).length)).drop (min ((r_3++b_1)).length ((r_5).length - (z0 r_1.End (lN (r_5))).toNat))))):List AV)=(Mb ((⟨r_1.Policy,(cpy (cpy r_5 ((z0 r_1.End (lN (r_5))).toNat) ((r_5).length) (r_3++b_1)) 0 ((r_5).length) ((((r_3++b_1)).take (((r_3++b_1)).length)).drop (min ((r_3++b_1)).length ((r_5).length - (z0 r_1.End (lN (r_5))).toNat)))),o_1.2,zH (r_1.End+(lN ((r_3++b_1)))),zH (r_1.First+o_1.1),zH (r_1.Next+(1:Int))⟩:zB).Data))) (ac (rfl:(!false||false)=true) (ac (rfl:(Ii o_1.2:AV)=Ii ((⟨r_1.Policy,(cpy (cpy r_5 ((z0 r_1.End (lN (r_5))).toNat) ((r_5).length) (r_3++b_1)) 0 ((r_5).length) ((((r_3++b_1)).take (((r_3++b_1)).length)).drop (min ((r_3++b_1)).length ((r_5).length - (z0 r_1.End (lN (r_5))).toNat)))),o_1.2,zH (r_1.End+(lN ((r_3++b_1)))),zH (r_1.First+o_1.1),zH (r_1.Next+(1:Int))⟩:zB).Start)) (ac (rfl:(Ii (zH (r_1.End+(lN ((r_3++b_1))))):AV)=Ii ((⟨r_1.Policy,(cpy (cpy r_5 ((z0 r_1.End (lN (r_5))).toNat) ((r_5).length) (r_3++b_1)) 0 ((r_5).length) ((((r_3++b_1)).take (((r_3++b_1)).length)).drop (min ((r_3++b_1)).length ((r_5).length - (z0 r_1.End (lN (r_5))).toNat)))),o_1.2,zH (r_1.End+(lN ((r_3++b_1)))),zH (r_1.First+o_1.1),zH (r_1.Next+(1:Int))⟩:zB).End)) (ac (rfl:(Ii (zH (r_1.First+o_1.1)):AV)=Ii ((⟨r_1.Policy,(cpy (cpy r_5 ((z0 r_1.End (lN (r_5))).toNat) ((r_5).length) (r_3++b_1)) 0 ((r_5).length) ((((r_3++b_1)).take (((r_3++b_1)).length)).drop (min ((r_3++b_1)).length ((r_5).length - (z0 r_1.End (lN (r_5))).toNat)))),o_1.2,zH (r_1.End+(lN ((r_3++b_1)))),zH (r_1.First+o_1.1),zH (r_1.Next+(1:Int))⟩:zB).First)) (ac (rfl:(Ii (zH (r_1.Next+(1:Int))):AV)=Ii ((⟨r_1.Policy,(cpy (cpy r_5 ((z0 r_1.End (lN (r_5))).toNat) ((r_5).length) (r_3++b_1)) 0 ((r_5).length) ((((r_3++b_1)).take (((r_3++b_1)).length)).drop (min ((r_3++b_1)).length ((r_5).length - (z0 r_1.End (lN (r_5))).toNat)))),o_1.2,zH (r_1.End+(lN ((r_3++b_1)))),zH (r_1.First+o_1.1),zH (r_1.Next+(1:Int))⟩:zB).Next)) an))))))))))) ?_
 refine rt ?_
 cases h
 exact ⟨.inr rfl,Nat.le_of_ble_eq_true rfl,by kernel_rfl⟩
theorem tJ (F:Nat) (p_1:zA) (e_1:zE) (r:zA×Int) (h:vA F p_1 e_1=some r):zQ prog 21 [] [] [zO p_1,zF e_1] [] (.tuple [zO r.1,Ii r.2]):=by
 refine zV (fn:=Go.Proofs.Try.f21) (code:=yI Go.Proofs.Try.f21) (by kernel_rfl) (by kernel_rfl) (Nat.le_of_ble_eq_true (by kernel_rfl)) ?_
 unfold vA at h
 refine sr [(0,{ id:=0 }),(1,{ id:=1 }),(2,{ id:=2 })] [2,3,4] [0,1,2] 3 [Pp 0,Pp 1,Pp 2] [Vb 32 (zK p_1),Vb 45 (zM e_1),Vb 32 [Ii 0,.str ([]:List Int),Ii 0,.nilsl,.nilsl,Ii 0,.nilsl,Ii 0,Ii 0,Ii 0,Ii 0,Ii 0,Ii 0]] zG an ?_
 refine sq ?_
 refine sq ?_
 obtain ⟨r_1,h_1,h⟩:=bind_some h
 refine rg [(1,{ av:=Ii r_1,l:=[zO p_1] })] [2,3,4,6] [0,1,2] 3 [Pp 0,Pp 1,Pp 2,Ii r_1] [Vb 32 (zK p_1),Vb 45 (zM e_1),Vb 32 [Ii 0,.str ([]:List Int),Ii 0,.nilsl,.nilsl,Ii 0,.nilsl,Ii 0,Ii 0,Ii 0,Ii 0,Ii 0,Ii 0]] zG (ar ([zO p_1]:List AV) (ac (rfl:([]:List zP)=[]) (ac (zAA F p_1 r_1 h_1:zQ prog 14 [] [] [zO p_1] [] (Ii r_1)) an))) ?_
 refine sr [] [2,3,4,6,17] [0,1,2] 3 [Pp 0,Pp 1,Pp 2,Ii r_1,.bool (r_1 != (0:Int))] [Vb 32 (zK p_1),Vb 45 (zM e_1),Vb 32 [Ii 0,.str ([]:List Int),Ii 0,.nilsl,.nilsl,Ii 0,.nilsl,Ii 0,Ii 0,Ii 0,Ii 0,Ii 0,Ii 0]] zG an ?_
 refine cd 17 (r_1 != (0:Int)) ?_ ?_
 ·intro g_1;replace h:=zR g_1 h
  refine sr [] [4,5] [2] 3 [Pp 2,Ii r_1] [Vb 32 [Ii 0,.str ([]:List Int),Ii 0,.nilsl,.nilsl,Ii 0,.nilsl,Ii 0,Ii 0,Ii 0,Ii 0,Ii 0,Ii 0]] zG an ?_
  refine wk [2] [] [.s 4,.s 5] [.a 0 (Vb 32 [Ii (((⟨(⟨(0:Int),([]:List Int),(0:Int)⟩:zC),[],[],(⟨(0:Int),[],(0:Int),(0:Int),(0:Int),(0:Int)⟩:zB),(0:Int),(0:Int)⟩:zA).Thread).Id),.str (((⟨(⟨(0:Int),([]:List Int),(0:Int)⟩:zC),[],[],(⟨(0:Int),[],(0:Int),(0:Int),(0:Int),(0:Int)⟩:zB),(0:Int),(0:Int)⟩:zA).Thread).Name),Ii (((⟨(⟨(0:Int),([]:List Int),(0:Int)⟩:zC),[],[],(⟨(0:Int),[],(0:Int),(0:Int),(0:Int),(0:Int)⟩:zB),(0:Int),(0:Int)⟩:zA).Thread).Domain),.sl false 1 (Ms ((⟨(⟨(0:Int),([]:List Int),(0:Int)⟩:zC),[],[],(⟨(0:Int),[],(0:Int),(0:Int),(0:Int),(0:Int)⟩:zB),(0:Int),(0:Int)⟩:zA).Names)),.sl false 2 (Mp zD ((⟨(⟨(0:Int),([]:List Int),(0:Int)⟩:zC),[],[],(⟨(0:Int),[],(0:Int),(0:Int),(0:Int),(0:Int)⟩:zB),(0:Int),(0:Int)⟩:zA).Stacks)),Ii (((⟨(⟨(0:Int),([]:List Int),(0:Int)⟩:zC),[],[],(⟨(0:Int),[],(0:Int),(0:Int),(0:Int),(0:Int)⟩:zB),(0:Int),(0:Int)⟩:zA).Ring).Policy),.sl false 1 (Mb (((⟨(⟨(0:Int),([]:List Int),(0:Int)⟩:zC),[],[],(⟨(0:Int),[],(0:Int),(0:Int),(0:Int),(0:Int)⟩:zB),(0:Int),(0:Int)⟩:zA).Ring).Data)),Ii (((⟨(⟨(0:Int),([]:List Int),(0:Int)⟩:zC),[],[],(⟨(0:Int),[],(0:Int),(0:Int),(0:Int),(0:Int)⟩:zB),(0:Int),(0:Int)⟩:zA).Ring).Start),Ii (((⟨(⟨(0:Int),([]:List Int),(0:Int)⟩:zC),[],[],(⟨(0:Int),[],(0:Int),(0:Int),(0:Int),(0:Int)⟩:zB),(0:Int),(0:Int)⟩:zA).Ring).End),Ii (((⟨(⟨(0:Int),([]:List Int),(0:Int)⟩:zC),[],[],(⟨(0:Int),[],(0:Int),(0:Int),(0:Int),(0:Int)⟩:zB),(0:Int),(0:Int)⟩:zA).Ring).First),Ii (((⟨(⟨(0:Int),([]:List Int),(0:Int)⟩:zC),[],[],(⟨(0:Int),[],(0:Int),(0:Int),(0:Int),(0:Int)⟩:zB),(0:Int),(0:Int)⟩:zA).Ring).Next),Ii ((⟨(⟨(0:Int),([]:List Int),(0:Int)⟩:zC),[],[],(⟨(0:Int),[],(0:Int),(0:Int),(0:Int),(0:Int)⟩:zB),(0:Int),(0:Int)⟩:zA).Last),Ii ((⟨(⟨(0:Int),([]:List Int),(0:Int)⟩:zC),[],[],(⟨(0:Int),[],(0:Int),(0:Int),(0:Int),(0:Int)⟩:zB),(0:Int),(0:Int)⟩:zA).Sent)])] [(4,Pp 0),(5,Ii r_1)] [(0,Vb 32 [Ii (((⟨(⟨(0:Int),([]:List Int),(0:Int)⟩:zC),[],[],(⟨(0:Int),[],(0:Int),(0:Int),(0:Int),(0:Int)⟩:zB),(0:Int),(0:Int)⟩:zA).Thread).Id),.str (((⟨(⟨(0:Int),([]:List Int),(0:Int)⟩:zC),[],[],(⟨(0:Int),[],(0:Int),(0:Int),(0:Int),(0:Int)⟩:zB),(0:Int),(0:Int)⟩:zA).Thread).Name),Ii (((⟨(⟨(0:Int),([]:List Int),(0:Int)⟩:zC),[],[],(⟨(0:Int),[],(0:Int),(0:Int),(0:Int),(0:Int)⟩:zB),(0:Int),(0:Int)⟩:zA).Thread).Domain),.sl false 1 (Ms ((⟨(⟨(0:Int),([]:List Int),(0:Int)⟩:zC),[],[],(⟨(0:Int),[],(0:Int),(0:Int),(0:Int),(0:Int)⟩:zB),(0:Int),(0:Int)⟩:zA).Names)),.sl false 2 (Mp zD ((⟨(⟨(0:Int),([]:List Int),(0:Int)⟩:zC),[],[],(⟨(0:Int),[],(0:Int),(0:Int),(0:Int),(0:Int)⟩:zB),(0:Int),(0:Int)⟩:zA).Stacks)),Ii (((⟨(⟨(0:Int),([]:List Int),(0:Int)⟩:zC),[],[],(⟨(0:Int),[],(0:Int),(0:Int),(0:Int),(0:Int)⟩:zB),(0:Int),(0:Int)⟩:zA).Ring).Policy),.sl false 1 (Mb (((⟨(⟨(0:Int),([]:List Int),(0:Int)⟩:zC),[],[],(⟨(0:Int),[],(0:Int),(0:Int),(0:Int),(0:Int)⟩:zB),(0:Int),(0:Int)⟩:zA).Ring).Data)),Ii (((⟨(⟨(0:Int),([]:List Int),(0:Int)⟩:zC),[],[],(⟨(0:Int),[],(0:Int),(0:Int),(0:Int),(0:Int)⟩:zB),(0:Int),(0:Int)⟩:zA).Ring).Start),Ii (((⟨(⟨(0:Int),([]:List Int),(0:Int)⟩:zC),[],[],(⟨(0:Int),[],(0:Int),(0:Int),(0:Int),(0:Int)⟩:zB),(0:Int),(0:Int)⟩:zA).Ring).End),Ii (((⟨(⟨(0:Int),([]:List Int),(0:Int)⟩:zC),[],[],(⟨(0:Int),[],(0:Int),(0:Int),(0:Int),(0:Int)⟩:zB),(0:Int),(0:Int)⟩:zA).Ring).First),Ii (((⟨(⟨(0:Int),([]:List Int),(0:Int)⟩:zC),[],[],(⟨(0:Int),[],(0:Int),(0:Int),(0:Int),(0:Int)⟩:zB),(0:Int),(0:Int)⟩:zA).Ring).Next),Ii ((⟨(⟨(0:Int),([]:List Int),(0:Int)⟩:zC),[],[],(⟨(0:Int),[],(0:Int),(0:Int),(0:Int),(0:Int)⟩:zB),(0:Int),(0:Int)⟩:zA).Last),Ii ((⟨(⟨(0:Int),([]:List Int),(0:Int)⟩:zC),[],[],(⟨(0:Int),[],(0:Int),(0:Int),(0:Int),(0:Int)⟩:zB),(0:Int),(0:Int)⟩:zA).Sent)])] (ar 32 (ac (rfl:wJ [Ii (((⟨(⟨(0:Int),([]:List Int),(0:Int)⟩:zC),[],[],(⟨(0:Int),[],(0:Int),(0:Int),(0:Int),(0:Int)⟩:zB),(0:Int),(0:Int)⟩:zA).Thread).Id),.str (((⟨(⟨(0:Int),([]:List Int),(0:Int)⟩:zC),[],[],(⟨(0:Int),[],(0:Int),(0:Int),(0:Int),(0:Int)⟩:zB),(0:Int),(0:Int)⟩:zA).Thread).Name),Ii (((⟨(⟨(0:Int),([]:List Int),(0:Int)⟩:zC),[],[],(⟨(0:Int),[],(0:Int),(0:Int),(0:Int),(0:Int)⟩:zB),(0:Int),(0:Int)⟩:zA).Thread).Domain),.sl false 1 (Ms ((⟨(⟨(0:Int),([]:List Int),(0:Int)⟩:zC),[],[],(⟨(0:Int),[],(0:Int),(0:Int),(0:Int),(0:Int)⟩:zB),(0:Int),(0:Int)⟩:zA).Names)),.sl false 2 (Mp zD ((⟨(⟨(0:Int),([]:List Int),(0:Int)⟩:zC),[],[],(⟨(0:Int),[],(0:Int),(0:Int),(0:Int),(0:Int)⟩:zB),(0:Int),(0:Int)⟩:zA).Stacks)),Ii (((⟨(⟨(0:Int),([]:List Int),(0:Int)⟩:zC),[],[],(⟨(0:Int),[],(0:Int),(0:Int),(0:Int),(0:Int)⟩:zB),(0:Int),(0:Int)⟩:zA).Ring).Policy),.sl false 1 (Mb (((⟨(⟨(0:Int),([]:List Int),(0:Int)⟩:zC),[],[],(⟨(0:Int),[],(0:Int),(0:Int),(0:Int),(0:Int)⟩:zB),(0:Int),(0:Int)⟩:zA).Ring).Data)),Ii (((⟨(⟨(0:Int),([]:List Int),(0:Int)⟩:zC),[],[],(⟨(0:Int),[],(0:Int),(0:Int),(0:Int),(0:Int)⟩:zB),(0:Int),(0:Int)⟩:zA).Ring).Start),Ii (((⟨(⟨(0:Int),([]:List Int),(0:Int)⟩:zC),[],[],(⟨(0:Int),[],(0:Int),(0:Int),(0:Int),(0:Int)⟩:zB),(0:Int),(0:Int)⟩:zA).Ring).End),Ii (((⟨(⟨(0:Int),([]:List Int),(0:Int)⟩:zC),[],[],(⟨(0:Int),[],(0:Int),(0:Int),(0:Int),(0:Int)⟩:zB),(0:Int),(0:Int)⟩:zA).Ring).First),Ii (((⟨(⟨(0:Int),([]:List Int),(0:Int)⟩:zC),[],[],(⟨(0:Int),[],(0:Int),(0:Int),(0:Int),(0:Int)⟩:zB),(0:Int),(0:Int)⟩:zA).Ring).Next),Ii ((⟨(⟨(0:Int),([]:List Int),(0:Int)⟩:zC),[],[],(⟨(0:Int),[],(0:Int),(0:Int),(0:Int),(0:Int)⟩:zB),(0:Int),(0:Int)⟩:zA).Last),Ii ((⟨(⟨(0:Int),([]:List Int),(0:Int)⟩:zC),[],[],(⟨(0:Int),[],(0:Int),(0:Int),(0:Int),(0:Int)⟩:zB),(0:Int),(0:Int)⟩:zA).Sent)]=true) (ac (rfl:(Ii 0:AV)=Ii (((⟨(⟨(0:Int),([]:List Int),(0:Int)⟩:zC),[],[],(⟨(0:Int),[],(0:Int),(0:Int),(0:Int),(0:Int)⟩:zB),(0:Int),(0:Int)⟩:zA).Thread).Id)) (ac (rfl:(.str ([]:List Int):AV)=.str (((⟨(⟨(0:Int),([]:List Int),(0:Int)⟩:zC),[],[],(⟨(0:Int),[],(0:Int),(0:Int),(0:Int),(0:Int)⟩:zB),(0:Int),(0:Int)⟩:zA).Thread).Name)) (ac (rfl:(Ii 0:AV)=Ii (((⟨(⟨(0:Int),([]:List Int),(0:Int)⟩:zC),[],[],(⟨(0:Int),[],(0:Int),(0:Int),(0:Int),(0:Int)⟩:zB),(0:Int),(0:Int)⟩:zA).Thread).Domain)) (ac (rfl:((Ms ((⟨(⟨(0:Int),([]:List Int),(0:Int)⟩:zC),[],[],(⟨(0:Int),[],(0:Int),(0:Int),(0:Int),(0:Int)⟩:zB),(0:Int),(0:Int)⟩:zA).Names)):List AV)=[]) (ac (rfl:((Mp zD ((⟨(⟨(0:Int),([]:List Int),(0:Int)⟩:zC),[],[],(⟨(0:Int),[],(0:Int),(0:Int),(0:Int),(0:Int)⟩:zB),(0:Int),(0:Int)⟩:zA).Stacks)):List AV)=[]) (ac (rfl:(Ii 0:AV)=Ii (((⟨(⟨(0:Int),([]:List Int),(0:Int)⟩:zC),[],[],(⟨(0:Int),[],(0:Int),(0:Int),(0:Int),(0:Int)⟩:zB),(0:Int),(0:Int)⟩:zA).Ring).Policy)) (ac (rfl:((Mb (((⟨(⟨(0:Int),([]:List Int),(0:Int)⟩:zC),[],[],(⟨(0:Int),[],(0:Int),(0:Int),(0:Int),(0:Int)⟩:zB),(0:Int),(0:Int)⟩:zA).Ring).Data)):List AV)=[]) (ac (rfl:(Ii 0:AV)=Ii (((⟨(⟨(0:Int),([]:List Int),(0:Int)⟩:zC),[],[],(⟨(0:Int),[],(0:Int),(0:Int),(0:Int),(0:Int)⟩:zB),(0:Int),(0:Int)⟩:zA).Ring).Start)) (ac (rfl:(Ii 0:AV)=Ii (((⟨(⟨(0:Int),([]:List Int),(0:Int)⟩:zC),[],[],(⟨(0:Int),[],(0:Int),(0:Int),(0:Int),(0:Int)⟩:zB),(0:Int),(0:Int)⟩:zA).Ring).End)) (ac (rfl:(Ii 0:AV)=Ii (((⟨(⟨(0:Int),([]:List Int),(0:Int)⟩:zC),[],[],(⟨(0:Int),[],(0:Int),(0:Int),(0:Int),(0:Int)⟩:zB),(0:Int),(0:Int)⟩:zA).Ring).First)) (ac (rfl:(Ii 0:AV)=Ii (((⟨(⟨(0:Int),([]:List Int),(0:Int)⟩:zC),[],[],(⟨(0:Int),[],(0:Int),(0:Int),(0:Int),(0:Int)⟩:zB),(0:Int),(0:Int)⟩:zA).Ring).Next)) (ac (rfl:(Ii 0:AV)=Ii ((⟨(⟨(0:Int),([]:List Int),(0:Int)⟩:zC),[],[],(⟨(0:Int),[],(0:Int),(0:Int),(0:Int),(0:Int)⟩:zB),(0:Int),(0:Int)⟩:zA).Last)) (ac (rfl:(Ii 0:AV)=Ii ((⟨(⟨(0:Int),([]:List Int),(0:Int)⟩:zC),[],[],(⟨(0:Int),[],(0:Int),(0:Int),(0:Int),(0:Int)⟩:zB),(0:Int),(0:Int)⟩:zA).Sent)) an))))))))))))))) ?_
  refine rt ?_
  cases h
  exact ⟨.inr rfl,Nat.le_of_ble_eq_true rfl,by kernel_rfl⟩
 intro g_1;replace h:=zS g_1 h
 refine sk ?_
 refine sq ?_
 refine sq ?_
 obtain ⟨r_2,h_2,h⟩:=bind_some h
 refine rg [(1,{ av:=Ii r_2,l:=[zF e_1] })] [2,3,4,7] [0,1,2] 3 [Pp 0,Pp 1,Pp 2,Ii r_2] [Vb 32 (zK p_1),Vb 45 (zM e_1),Vb 32 [Ii 0,.str ([]:List Int),Ii 0,.nilsl,.nilsl,Ii 0,.nilsl,Ii 0,Ii 0,Ii 0,Ii 0,Ii 0,Ii 0]] zG (ar ([zF e_1]:List AV) (ac (rfl:([]:List zP)=[]) (ac (nK F e_1 r_2 h_2:zQ prog 38 [] [] [zF e_1] [] (Ii r_2)) an))) ?_
 refine sr [] [2,3,4,7,23] [0,1,2] 3 [Pp 0,Pp 1,Pp 2,Ii r_2,.bool (r_2 != (0:Int))] [Vb 32 (zK p_1),Vb 45 (zM e_1),Vb 32 [Ii 0,.str ([]:List Int),Ii 0,.nilsl,.nilsl,Ii 0,.nilsl,Ii 0,Ii 0,Ii 0,Ii 0,Ii 0,Ii 0]] zG an ?_
 refine cd 23 (r_2 != (0:Int)) ?_ ?_
 ·intro g_2;replace h:=zR g_2 h
  refine sr [] [4,5] [2] 3 [Pp 2,Ii r_2] [Vb 32 [Ii 0,.str ([]:List Int),Ii 0,.nilsl,.nilsl,Ii 0,.nilsl,Ii 0,Ii 0,Ii 0,Ii 0,Ii 0,Ii 0]] zG an ?_
  refine wk [2] [] [.s 4,.s 5] [.a 0 (Vb 32 [Ii (((⟨(⟨(0:Int),([]:List Int),(0:Int)⟩:zC),[],[],(⟨(0:Int),[],(0:Int),(0:Int),(0:Int),(0:Int)⟩:zB),(0:Int),(0:Int)⟩:zA).Thread).Id),.str (((⟨(⟨(0:Int),([]:List Int),(0:Int)⟩:zC),[],[],(⟨(0:Int),[],(0:Int),(0:Int),(0:Int),(0:Int)⟩:zB),(0:Int),(0:Int)⟩:zA).Thread).Name),Ii (((⟨(⟨(0:Int),([]:List Int),(0:Int)⟩:zC),[],[],(⟨(0:Int),[],(0:Int),(0:Int),(0:Int),(0:Int)⟩:zB),(0:Int),(0:Int)⟩:zA).Thread).Domain),.sl false 1 (Ms ((⟨(⟨(0:Int),([]:List Int),(0:Int)⟩:zC),[],[],(⟨(0:Int),[],(0:Int),(0:Int),(0:Int),(0:Int)⟩:zB),(0:Int),(0:Int)⟩:zA).Names)),.sl false 2 (Mp zD ((⟨(⟨(0:Int),([]:List Int),(0:Int)⟩:zC),[],[],(⟨(0:Int),[],(0:Int),(0:Int),(0:Int),(0:Int)⟩:zB),(0:Int),(0:Int)⟩:zA).Stacks)),Ii (((⟨(⟨(0:Int),([]:List Int),(0:Int)⟩:zC),[],[],(⟨(0:Int),[],(0:Int),(0:Int),(0:Int),(0:Int)⟩:zB),(0:Int),(0:Int)⟩:zA).Ring).Policy),.sl false 1 (Mb (((⟨(⟨(0:Int),([]:List Int),(0:Int)⟩:zC),[],[],(⟨(0:Int),[],(0:Int),(0:Int),(0:Int),(0:Int)⟩:zB),(0:Int),(0:Int)⟩:zA).Ring).Data)),Ii (((⟨(⟨(0:Int),([]:List Int),(0:Int)⟩:zC),[],[],(⟨(0:Int),[],(0:Int),(0:Int),(0:Int),(0:Int)⟩:zB),(0:Int),(0:Int)⟩:zA).Ring).Start),Ii (((⟨(⟨(0:Int),([]:List Int),(0:Int)⟩:zC),[],[],(⟨(0:Int),[],(0:Int),(0:Int),(0:Int),(0:Int)⟩:zB),(0:Int),(0:Int)⟩:zA).Ring).End),Ii (((⟨(⟨(0:Int),([]:List Int),(0:Int)⟩:zC),[],[],(⟨(0:Int),[],(0:Int),(0:Int),(0:Int),(0:Int)⟩:zB),(0:Int),(0:Int)⟩:zA).Ring).First),Ii (((⟨(⟨(0:Int),([]:List Int),(0:Int)⟩:zC),[],[],(⟨(0:Int),[],(0:Int),(0:Int),(0:Int),(0:Int)⟩:zB),(0:Int),(0:Int)⟩:zA).Ring).Next),Ii ((⟨(⟨(0:Int),([]:List Int),(0:Int)⟩:zC),[],[],(⟨(0:Int),[],(0:Int),(0:Int),(0:Int),(0:Int)⟩:zB),(0:Int),(0:Int)⟩:zA).Last),Ii ((⟨(⟨(0:Int),([]:List Int),(0:Int)⟩:zC),[],[],(⟨(0:Int),[],(0:Int),(0:Int),(0:Int),(0:Int)⟩:zB),(0:Int),(0:Int)⟩:zA).Sent)])] [(4,Pp 0),(5,Ii r_2)] [(0,Vb 32 [Ii (((⟨(⟨(0:Int),([]:List Int),(0:Int)⟩:zC),[],[],(⟨(0:Int),[],(0:Int),(0:Int),(0:Int),(0:Int)⟩:zB),(0:Int),(0:Int)⟩:zA).Thread).Id),.str (((⟨(⟨(0:Int),([]:List Int),(0:Int)⟩:zC),[],[],(⟨(0:Int),[],(0:Int),(0:Int),(0:Int),(0:Int)⟩:zB),(0:Int),(0:Int)⟩:zA).Thread).Name),Ii (((⟨(⟨(0:Int),([]:List Int),(0:Int)⟩:zC),[],[],(⟨(0:Int),[],(0:Int),(0:Int),(0:Int),(0:Int)⟩:zB),(0:Int),(0:Int)⟩:zA).Thread).Domain),.sl false 1 (Ms ((⟨(⟨(0:Int),([]:List Int),(0:Int)⟩:zC),[],[],(⟨(0:Int),[],(0:Int),(0:Int),(0:Int),(0:Int)⟩:zB),(0:Int),(0:Int)⟩:zA).Names)),.sl false 2 (Mp zD ((⟨(⟨(0:Int),([]:List Int),(0:Int)⟩:zC),[],[],(⟨(0:Int),[],(0:Int),(0:Int),(0:Int),(0:Int)⟩:zB),(0:Int),(0:Int)⟩:zA).Stacks)),Ii (((⟨(⟨(0:Int),([]:List Int),(0:Int)⟩:zC),[],[],(⟨(0:Int),[],(0:Int),(0:Int),(0:Int),(0:Int)⟩:zB),(0:Int),(0:Int)⟩:zA).Ring).Policy),.sl false 1 (Mb (((⟨(⟨(0:Int),([]:List Int),(0:Int)⟩:zC),[],[],(⟨(0:Int),[],(0:Int),(0:Int),(0:Int),(0:Int)⟩:zB),(0:Int),(0:Int)⟩:zA).Ring).Data)),Ii (((⟨(⟨(0:Int),([]:List Int),(0:Int)⟩:zC),[],[],(⟨(0:Int),[],(0:Int),(0:Int),(0:Int),(0:Int)⟩:zB),(0:Int),(0:Int)⟩:zA).Ring).Start),Ii (((⟨(⟨(0:Int),([]:List Int),(0:Int)⟩:zC),[],[],(⟨(0:Int),[],(0:Int),(0:Int),(0:Int),(0:Int)⟩:zB),(0:Int),(0:Int)⟩:zA).Ring).End),Ii (((⟨(⟨(0:Int),([]:List Int),(0:Int)⟩:zC),[],[],(⟨(0:Int),[],(0:Int),(0:Int),(0:Int),(0:Int)⟩:zB),(0:Int),(0:Int)⟩:zA).Ring).First),Ii (((⟨(⟨(0:Int),([]:List Int),(0:Int)⟩:zC),[],[],(⟨(0:Int),[],(0:Int),(0:Int),(0:Int),(0:Int)⟩:zB),(0:Int),(0:Int)⟩:zA).Ring).Next),Ii ((⟨(⟨(0:Int),([]:List Int),(0:Int)⟩:zC),[],[],(⟨(0:Int),[],(0:Int),(0:Int),(0:Int),(0:Int)⟩:zB),(0:Int),(0:Int)⟩:zA).Last),Ii ((⟨(⟨(0:Int),([]:List Int),(0:Int)⟩:zC),[],[],(⟨(0:Int),[],(0:Int),(0:Int),(0:Int),(0:Int)⟩:zB),(0:Int),(0:Int)⟩:zA).Sent)])] (ar 32 (ac (rfl:wJ [Ii (((⟨(⟨(0:Int),([]:List Int),(0:Int)⟩:zC),[],[],(⟨(0:Int),[],(0:Int),(0:Int),(0:Int),(0:Int)⟩:zB),(0:Int),(0:Int)⟩:zA).Thread).Id),.str (((⟨(⟨(0:Int),([]:List Int),(0:Int)⟩:zC),[],[],(⟨(0:Int),[],(0:Int),(0:Int),(0:Int),(0:Int)⟩:zB),(0:Int),(0:Int)⟩:zA).Thread).Name),Ii (((⟨(⟨(0:Int),([]:List Int),(0:Int)⟩:zC),[],[],(⟨(0:Int),[],(0:Int),(0:Int),(0:Int),(0:Int)⟩:zB),(0:Int),(0:Int)⟩:zA).Thread).Domain),.sl false 1 (Ms ((⟨(⟨(0:Int),([]:List Int),(0:Int)⟩:zC),[],[],(⟨(0:Int),[],(0:Int),(0:Int),(0:Int),(0:Int)⟩:zB),(0:Int),(0:Int)⟩:zA).Names)),.sl false 2 (Mp zD ((⟨(⟨(0:Int),([]:List Int),(0:Int)⟩:zC),[],[],(⟨(0:Int),[],(0:Int),(0:Int),(0:Int),(0:Int)⟩:zB),(0:Int),(0:Int)⟩:zA).Stacks)),Ii (((⟨(⟨(0:Int),([]:List Int),(0:Int)⟩:zC),[],[],(⟨(0:Int),[],(0:Int),(0:Int),(0:Int),(0:Int)⟩:zB),(0:Int),(0:Int)⟩:zA).Ring).Policy),.sl false 1 (Mb (((⟨(⟨(0:Int),([]:List Int),(0:Int)⟩:zC),[],[],(⟨(0:Int),[],(0:Int),(0:Int),(0:Int),(0:Int)⟩:zB),(0:Int),(0:Int)⟩:zA).Ring).Data)),Ii (((⟨(⟨(0:Int),([]:List Int),(0:Int)⟩:zC),[],[],(⟨(0:Int),[],(0:Int),(0:Int),(0:Int),(0:Int)⟩:zB),(0:Int),(0:Int)⟩:zA).Ring).Start),Ii (((⟨(⟨(0:Int),([]:List Int),(0:Int)⟩:zC),[],[],(⟨(0:Int),[],(0:Int),(0:Int),(0:Int),(0:Int)⟩:zB),(0:Int),(0:Int)⟩:zA).Ring).End),Ii (((⟨(⟨(0:Int),([]:List Int),(0:Int)⟩:zC),[],[],(⟨(0:Int),[],(0:Int),(0:Int),(0:Int),(0:Int)⟩:zB),(0:Int),(0:Int)⟩:zA).Ring).First),Ii (((⟨(⟨(0:Int),([]:List Int),(0:Int)⟩:zC),[],[],(⟨(0:Int),[],(0:Int),(0:Int),(0:Int),(0:Int)⟩:zB),(0:Int),(0:Int)⟩:zA).Ring).Next),Ii ((⟨(⟨(0:Int),([]:List Int),(0:Int)⟩:zC),[],[],(⟨(0:Int),[],(0:Int),(0:Int),(0:Int),(0:Int)⟩:zB),(0:Int),(0:Int)⟩:zA).Last),Ii ((⟨(⟨(0:Int),([]:List Int),(0:Int)⟩:zC),[],[],(⟨(0:Int),[],(0:Int),(0:Int),(0:Int),(0:Int)⟩:zB),(0:Int),(0:Int)⟩:zA).Sent)]=true) (ac (rfl:(Ii 0:AV)=Ii (((⟨(⟨(0:Int),([]:List Int),(0:Int)⟩:zC),[],[],(⟨(0:Int),[],(0:Int),(0:Int),(0:Int),(0:Int)⟩:zB),(0:Int),(0:Int)⟩:zA).Thread).Id)) (ac (rfl:(.str ([]:List Int):AV)=.str (((⟨(⟨(0:Int),([]:List Int),(0:Int)⟩:zC),[],[],(⟨(0:Int),[],(0:Int),(0:Int),(0:Int),(0:Int)⟩:zB),(0:Int),(0:Int)⟩:zA).Thread).Name)) (ac (rfl:(Ii 0:AV)=Ii (((⟨(⟨(0:Int),([]:List Int),(0:Int)⟩:zC),[],[],(⟨(0:Int),[],(0:Int),(0:Int),(0:Int),(0:Int)⟩:zB),(0:Int),(0:Int)⟩:zA).Thread).Domain)) (ac (rfl:((Ms ((⟨(⟨(0:Int),([]:List Int),(0:Int)⟩:zC),[],[],(⟨(0:Int),[],(0:Int),(0:Int),(0:Int),(0:Int)⟩:zB),(0:Int),(0:Int)⟩:zA).Names)):List AV)=[]) (ac (rfl:((Mp zD ((⟨(⟨(0:Int),([]:List Int),(0:Int)⟩:zC),[],[],(⟨(0:Int),[],(0:Int),(0:Int),(0:Int),(0:Int)⟩:zB),(0:Int),(0:Int)⟩:zA).Stacks)):List AV)=[]) (ac (rfl:(Ii 0:AV)=Ii (((⟨(⟨(0:Int),([]:List Int),(0:Int)⟩:zC),[],[],(⟨(0:Int),[],(0:Int),(0:Int),(0:Int),(0:Int)⟩:zB),(0:Int),(0:Int)⟩:zA).Ring).Policy)) (ac (rfl:((Mb (((⟨(⟨(0:Int),([]:List Int),(0:Int)⟩:zC),[],[],(⟨(0:Int),[],(0:Int),(0:Int),(0:Int),(0:Int)⟩:zB),(0:Int),(0:Int)⟩:zA).Ring).Data)):List AV)=[]) (ac (rfl:(Ii 0:AV)=Ii (((⟨(⟨(0:Int),([]:List Int),(0:Int)⟩:zC),[],[],(⟨(0:Int),[],(0:Int),(0:Int),(0:Int),(0:Int)⟩:zB),(0:Int),(0:Int)⟩:zA).Ring).Start)) (ac (rfl:(Ii 0:AV)=Ii (((⟨(⟨(0:Int),([]:List Int),(0:Int)⟩:zC),[],[],(⟨(0:Int),[],(0:Int),(0:Int),(0:Int),(0:Int)⟩:zB),(0:Int),(0:Int)⟩:zA).Ring).End)) (ac (rfl:(Ii 0:AV)=Ii (((⟨(⟨(0:Int),([]:List Int),(0:Int)⟩:zC),[],[],(⟨(0:Int),[],(0:Int),(0:Int),(0:Int),(0:Int)⟩:zB),(0:Int),(0:Int)⟩:zA).Ring).First)) (ac (rfl:(Ii 0:AV)=Ii (((⟨(⟨(0:Int),([]:List Int),(0:Int)⟩:zC),[],[],(⟨(0:Int),[],(0:Int),(0:Int),(0:Int),(0:Int)⟩:zB),(0:Int),(0:Int)⟩:zA).Ring).Next)) (ac (rfl:(Ii 0:AV)=Ii ((⟨(⟨(0:Int),([]:List Int),(0:Int)⟩:zC),[],[],(⟨(0:Int),[],(0:Int),(0:Int),(0:Int),(0:Int)⟩:zB),(0:Int),(0:Int)⟩:zA).Last)) (ac (rfl:(Ii 0:AV)=Ii ((⟨(⟨(0:Int),([]:List Int),(0:Int)⟩:zC),[],[],(⟨(0:Int),[],(0:Int),(0:Int),(0:Int),(0:Int)⟩:zB),(0:Int),(0:Int)⟩:zA).Sent)) an))))))))))))))) ?_
  refine rt ?_
  cases h
  exact ⟨.inr rfl,Nat.le_of_ble_eq_true rfl,by kernel_rfl⟩
 intro g_2;replace h:=zS g_2 h
 refine sk ?_
 refine sq ?_
 refine sr [] [2,3,4,30] [0,1,2] 3 [Pp 0,Pp 1,Pp 2,.bool (decide (e_1.At<p_1.Last))] [Vb 32 (zK p_1),Vb 45 (zM e_1),Vb 32 [Ii 0,.str ([]:List Int),Ii 0,.nilsl,.nilsl,Ii 0,.nilsl,Ii 0,Ii 0,Ii 0,Ii 0,Ii 0,Ii 0]] zG an ?_
 refine cd 30 (decide (e_1.At<p_1.Last)) ?_ ?_
 ·intro g_3;replace h:=zR g_3 h
  refine sr [] [4,5] [2] 3 [Pp 2,Ii 11] [Vb 32 [Ii 0,.str ([]:List Int),Ii 0,.nilsl,.nilsl,Ii 0,.nilsl,Ii 0,Ii 0,Ii 0,Ii 0,Ii 0,Ii 0]] zG an ?_
  refine wk [2] [] [.s 4,.s 5] [.a 0 (Vb 32 [Ii (((⟨(⟨(0:Int),([]:List Int),(0:Int)⟩:zC),[],[],(⟨(0:Int),[],(0:Int),(0:Int),(0:Int),(0:Int)⟩:zB),(0:Int),(0:Int)⟩:zA).Thread).Id),.str (((⟨(⟨(0:Int),([]:List Int),(0:Int)⟩:zC),[],[],(⟨(0:Int),[],(0:Int),(0:Int),(0:Int),(0:Int)⟩:zB),(0:Int),(0:Int)⟩:zA).Thread).Name),Ii (((⟨(⟨(0:Int),([]:List Int),(0:Int)⟩:zC),[],[],(⟨(0:Int),[],(0:Int),(0:Int),(0:Int),(0:Int)⟩:zB),(0:Int),(0:Int)⟩:zA).Thread).Domain),.sl false 1 (Ms ((⟨(⟨(0:Int),([]:List Int),(0:Int)⟩:zC),[],[],(⟨(0:Int),[],(0:Int),(0:Int),(0:Int),(0:Int)⟩:zB),(0:Int),(0:Int)⟩:zA).Names)),.sl false 2 (Mp zD ((⟨(⟨(0:Int),([]:List Int),(0:Int)⟩:zC),[],[],(⟨(0:Int),[],(0:Int),(0:Int),(0:Int),(0:Int)⟩:zB),(0:Int),(0:Int)⟩:zA).Stacks)),Ii (((⟨(⟨(0:Int),([]:List Int),(0:Int)⟩:zC),[],[],(⟨(0:Int),[],(0:Int),(0:Int),(0:Int),(0:Int)⟩:zB),(0:Int),(0:Int)⟩:zA).Ring).Policy),.sl false 1 (Mb (((⟨(⟨(0:Int),([]:List Int),(0:Int)⟩:zC),[],[],(⟨(0:Int),[],(0:Int),(0:Int),(0:Int),(0:Int)⟩:zB),(0:Int),(0:Int)⟩:zA).Ring).Data)),Ii (((⟨(⟨(0:Int),([]:List Int),(0:Int)⟩:zC),[],[],(⟨(0:Int),[],(0:Int),(0:Int),(0:Int),(0:Int)⟩:zB),(0:Int),(0:Int)⟩:zA).Ring).Start),Ii (((⟨(⟨(0:Int),([]:List Int),(0:Int)⟩:zC),[],[],(⟨(0:Int),[],(0:Int),(0:Int),(0:Int),(0:Int)⟩:zB),(0:Int),(0:Int)⟩:zA).Ring).End),Ii (((⟨(⟨(0:Int),([]:List Int),(0:Int)⟩:zC),[],[],(⟨(0:Int),[],(0:Int),(0:Int),(0:Int),(0:Int)⟩:zB),(0:Int),(0:Int)⟩:zA).Ring).First),Ii (((⟨(⟨(0:Int),([]:List Int),(0:Int)⟩:zC),[],[],(⟨(0:Int),[],(0:Int),(0:Int),(0:Int),(0:Int)⟩:zB),(0:Int),(0:Int)⟩:zA).Ring).Next),Ii ((⟨(⟨(0:Int),([]:List Int),(0:Int)⟩:zC),[],[],(⟨(0:Int),[],(0:Int),(0:Int),(0:Int),(0:Int)⟩:zB),(0:Int),(0:Int)⟩:zA).Last),Ii ((⟨(⟨(0:Int),([]:List Int),(0:Int)⟩:zC),[],[],(⟨(0:Int),[],(0:Int),(0:Int),(0:Int),(0:Int)⟩:zB),(0:Int),(0:Int)⟩:zA).Sent)])] [(4,Pp 0),(5,Ii 11)] [(0,Vb 32 [Ii (((⟨(⟨(0:Int),([]:List Int),(0:Int)⟩:zC),[],[],(⟨(0:Int),[],(0:Int),(0:Int),(0:Int),(0:Int)⟩:zB),(0:Int),(0:Int)⟩:zA).Thread).Id),.str (((⟨(⟨(0:Int),([]:List Int),(0:Int)⟩:zC),[],[],(⟨(0:Int),[],(0:Int),(0:Int),(0:Int),(0:Int)⟩:zB),(0:Int),(0:Int)⟩:zA).Thread).Name),Ii (((⟨(⟨(0:Int),([]:List Int),(0:Int)⟩:zC),[],[],(⟨(0:Int),[],(0:Int),(0:Int),(0:Int),(0:Int)⟩:zB),(0:Int),(0:Int)⟩:zA).Thread).Domain),.sl false 1 (Ms ((⟨(⟨(0:Int),([]:List Int),(0:Int)⟩:zC),[],[],(⟨(0:Int),[],(0:Int),(0:Int),(0:Int),(0:Int)⟩:zB),(0:Int),(0:Int)⟩:zA).Names)),.sl false 2 (Mp zD ((⟨(⟨(0:Int),([]:List Int),(0:Int)⟩:zC),[],[],(⟨(0:Int),[],(0:Int),(0:Int),(0:Int),(0:Int)⟩:zB),(0:Int),(0:Int)⟩:zA).Stacks)),Ii (((⟨(⟨(0:Int),([]:List Int),(0:Int)⟩:zC),[],[],(⟨(0:Int),[],(0:Int),(0:Int),(0:Int),(0:Int)⟩:zB),(0:Int),(0:Int)⟩:zA).Ring).Policy),.sl false 1 (Mb (((⟨(⟨(0:Int),([]:List Int),(0:Int)⟩:zC),[],[],(⟨(0:Int),[],(0:Int),(0:Int),(0:Int),(0:Int)⟩:zB),(0:Int),(0:Int)⟩:zA).Ring).Data)),Ii (((⟨(⟨(0:Int),([]:List Int),(0:Int)⟩:zC),[],[],(⟨(0:Int),[],(0:Int),(0:Int),(0:Int),(0:Int)⟩:zB),(0:Int),(0:Int)⟩:zA).Ring).Start),Ii (((⟨(⟨(0:Int),([]:List Int),(0:Int)⟩:zC),[],[],(⟨(0:Int),[],(0:Int),(0:Int),(0:Int),(0:Int)⟩:zB),(0:Int),(0:Int)⟩:zA).Ring).End),Ii (((⟨(⟨(0:Int),([]:List Int),(0:Int)⟩:zC),[],[],(⟨(0:Int),[],(0:Int),(0:Int),(0:Int),(0:Int)⟩:zB),(0:Int),(0:Int)⟩:zA).Ring).First),Ii (((⟨(⟨(0:Int),([]:List Int),(0:Int)⟩:zC),[],[],(⟨(0:Int),[],(0:Int),(0:Int),(0:Int),(0:Int)⟩:zB),(0:Int),(0:Int)⟩:zA).Ring).Next),Ii ((⟨(⟨(0:Int),([]:List Int),(0:Int)⟩:zC),[],[],(⟨(0:Int),[],(0:Int),(0:Int),(0:Int),(0:Int)⟩:zB),(0:Int),(0:Int)⟩:zA).Last),Ii ((⟨(⟨(0:Int),([]:List Int),(0:Int)⟩:zC),[],[],(⟨(0:Int),[],(0:Int),(0:Int),(0:Int),(0:Int)⟩:zB),(0:Int),(0:Int)⟩:zA).Sent)])] (ar 32 (ac (rfl:wJ [Ii (((⟨(⟨(0:Int),([]:List Int),(0:Int)⟩:zC),[],[],(⟨(0:Int),[],(0:Int),(0:Int),(0:Int),(0:Int)⟩:zB),(0:Int),(0:Int)⟩:zA).Thread).Id),.str (((⟨(⟨(0:Int),([]:List Int),(0:Int)⟩:zC),[],[],(⟨(0:Int),[],(0:Int),(0:Int),(0:Int),(0:Int)⟩:zB),(0:Int),(0:Int)⟩:zA).Thread).Name),Ii (((⟨(⟨(0:Int),([]:List Int),(0:Int)⟩:zC),[],[],(⟨(0:Int),[],(0:Int),(0:Int),(0:Int),(0:Int)⟩:zB),(0:Int),(0:Int)⟩:zA).Thread).Domain),.sl false 1 (Ms ((⟨(⟨(0:Int),([]:List Int),(0:Int)⟩:zC),[],[],(⟨(0:Int),[],(0:Int),(0:Int),(0:Int),(0:Int)⟩:zB),(0:Int),(0:Int)⟩:zA).Names)),.sl false 2 (Mp zD ((⟨(⟨(0:Int),([]:List Int),(0:Int)⟩:zC),[],[],(⟨(0:Int),[],(0:Int),(0:Int),(0:Int),(0:Int)⟩:zB),(0:Int),(0:Int)⟩:zA).Stacks)),Ii (((⟨(⟨(0:Int),([]:List Int),(0:Int)⟩:zC),[],[],(⟨(0:Int),[],(0:Int),(0:Int),(0:Int),(0:Int)⟩:zB),(0:Int),(0:Int)⟩:zA).Ring).Policy),.sl false 1 (Mb (((⟨(⟨(0:Int),([]:List Int),(0:Int)⟩:zC),[],[],(⟨(0:Int),[],(0:Int),(0:Int),(0:Int),(0:Int)⟩:zB),(0:Int),(0:Int)⟩:zA).Ring).Data)),Ii (((⟨(⟨(0:Int),([]:List Int),(0:Int)⟩:zC),[],[],(⟨(0:Int),[],(0:Int),(0:Int),(0:Int),(0:Int)⟩:zB),(0:Int),(0:Int)⟩:zA).Ring).Start),Ii (((⟨(⟨(0:Int),([]:List Int),(0:Int)⟩:zC),[],[],(⟨(0:Int),[],(0:Int),(0:Int),(0:Int),(0:Int)⟩:zB),(0:Int),(0:Int)⟩:zA).Ring).End),Ii (((⟨(⟨(0:Int),([]:List Int),(0:Int)⟩:zC),[],[],(⟨(0:Int),[],(0:Int),(0:Int),(0:Int),(0:Int)⟩:zB),(0:Int),(0:Int)⟩:zA).Ring).First),Ii (((⟨(⟨(0:Int),([]:List Int),(0:Int)⟩:zC),[],[],(⟨(0:Int),[],(0:Int),(0:Int),(0:Int),(0:Int)⟩:zB),(0:Int),(0:Int)⟩:zA).Ring).Next),Ii ((⟨(⟨(0:Int),([]:List Int),(0:Int)⟩:zC),[],[],(⟨(0:Int),[],(0:Int),(0:Int),(0:Int),(0:Int)⟩:zB),(0:Int),(0:Int)⟩:zA).Last),Ii ((⟨(⟨(0:Int),([]:List Int),(0:Int)⟩:zC),[],[],(⟨(0:Int),[],(0:Int),(0:Int),(0:Int),(0:Int)⟩:zB),(0:Int),(0:Int)⟩:zA).Sent)]=true) (ac (rfl:(Ii 0:AV)=Ii (((⟨(⟨(0:Int),([]:List Int),(0:Int)⟩:zC),[],[],(⟨(0:Int),[],(0:Int),(0:Int),(0:Int),(0:Int)⟩:zB),(0:Int),(0:Int)⟩:zA).Thread).Id)) (ac (rfl:(.str ([]:List Int):AV)=.str (((⟨(⟨(0:Int),([]:List Int),(0:Int)⟩:zC),[],[],(⟨(0:Int),[],(0:Int),(0:Int),(0:Int),(0:Int)⟩:zB),(0:Int),(0:Int)⟩:zA).Thread).Name)) (ac (rfl:(Ii 0:AV)=Ii (((⟨(⟨(0:Int),([]:List Int),(0:Int)⟩:zC),[],[],(⟨(0:Int),[],(0:Int),(0:Int),(0:Int),(0:Int)⟩:zB),(0:Int),(0:Int)⟩:zA).Thread).Domain)) (ac (rfl:((Ms ((⟨(⟨(0:Int),([]:List Int),(0:Int)⟩:zC),[],[],(⟨(0:Int),[],(0:Int),(0:Int),(0:Int),(0:Int)⟩:zB),(0:Int),(0:Int)⟩:zA).Names)):List AV)=[]) (ac (rfl:((Mp zD ((⟨(⟨(0:Int),([]:List Int),(0:Int)⟩:zC),[],[],(⟨(0:Int),[],(0:Int),(0:Int),(0:Int),(0:Int)⟩:zB),(0:Int),(0:Int)⟩:zA).Stacks)):List AV)=[]) (ac (rfl:(Ii 0:AV)=Ii (((⟨(⟨(0:Int),([]:List Int),(0:Int)⟩:zC),[],[],(⟨(0:Int),[],(0:Int),(0:Int),(0:Int),(0:Int)⟩:zB),(0:Int),(0:Int)⟩:zA).Ring).Policy)) (ac (rfl:((Mb (((⟨(⟨(0:Int),([]:List Int),(0:Int)⟩:zC),[],[],(⟨(0:Int),[],(0:Int),(0:Int),(0:Int),(0:Int)⟩:zB),(0:Int),(0:Int)⟩:zA).Ring).Data)):List AV)=[]) (ac (rfl:(Ii 0:AV)=Ii (((⟨(⟨(0:Int),([]:List Int),(0:Int)⟩:zC),[],[],(⟨(0:Int),[],(0:Int),(0:Int),(0:Int),(0:Int)⟩:zB),(0:Int),(0:Int)⟩:zA).Ring).Start)) (ac (rfl:(Ii 0:AV)=Ii (((⟨(⟨(0:Int),([]:List Int),(0:Int)⟩:zC),[],[],(⟨(0:Int),[],(0:Int),(0:Int),(0:Int),(0:Int)⟩:zB),(0:Int),(0:Int)⟩:zA).Ring).End)) (ac (rfl:(Ii 0:AV)=Ii (((⟨(⟨(0:Int),([]:List Int),(0:Int)⟩:zC),[],[],(⟨(0:Int),[],(0:Int),(0:Int),(0:Int),(0:Int)⟩:zB),(0:Int),(0:Int)⟩:zA).Ring).First)) (ac (rfl:(Ii 0:AV)=Ii (((⟨(⟨(0:Int),([]:List Int),(0:Int)⟩:zC),[],[],(⟨(0:Int),[],(0:Int),(0:Int),(0:Int),(0:Int)⟩:zB),(0:Int),(0:Int)⟩:zA).Ring).Next)) (ac (rfl:(Ii 0:AV)=Ii ((⟨(⟨(0:Int),([]:List Int),(0:Int)⟩:zC),[],[],(⟨(0:Int),[],(0:Int),(0:Int),(0:Int),(0:Int)⟩:zB),(0:Int),(0:Int)⟩:zA).Last)) (ac (rfl:(Ii 0:AV)=Ii ((⟨(⟨(0:Int),([]:List Int),(0:Int)⟩:zC),[],[],(⟨(0:Int),[],(0:Int),(0:Int),(0:Int),(0:Int)⟩:zB),(0:Int),(0:Int)⟩:zA).Sent)) an))))))))))))))) ?_
  refine rt ?_
  cases h
  exact ⟨.inr rfl,Nat.le_of_ble_eq_true rfl,by kernel_rfl⟩
 intro g_3;replace h:=zS g_3 h
 refine sk ?_
 refine sq ?_
 obtain ⟨r_3,h_3,h⟩:=bind_some h
 refine rg [(5,{ av:=.tuple [.own 0 ((r_3.1).length),.sl false 1 (Ms r_3.2.1),.sl false 2 (Mp zD r_3.2.2.1),Ii r_3.2.2.2],ids:=[3],l:=[.sl false 1 (Ms p_1.Names),.sl false 2 (Mp zD p_1.Stacks),zF e_1],post:=[(.row 5 1 (Mb r_3.1))] })] [2,3,4,8,9,10,11] [0,1,2,3] 4 [Pp 0,Pp 1,Pp 2,.own 3 ((r_3.1).length),.sl false 1 (Ms r_3.2.1),.sl false 2 (Mp zD r_3.2.2.1),Ii r_3.2.2.2] [Vb 32 (zK p_1),Vb 45 (zM e_1),Vb 32 [Ii 0,.str ([]:List Int),Ii 0,.nilsl,.nilsl,Ii 0,.nilsl,Ii 0,Ii 0,Ii 0,Ii 0,Ii 0,Ii 0],Rb 5 1 (Mb r_3.1)] zG (ar ([.sl false 1 (Ms p_1.Names),.sl false 2 (Mp zD p_1.Stacks),zF e_1]:List AV) (ac (rfl:([]:List zP)=[]) (ac (zEc F p_1.Names p_1.Stacks e_1 r_3 h_3:zQ prog 39 [] [] [.sl false 1 (Ms p_1.Names),.sl false 2 (Mp zD p_1.Stacks),zF e_1] [(.row 5 1 (Mb r_3.1))] (.tuple [.own 0 ((r_3.1).length),.sl false 1 (Ms r_3.2.1),.sl false 2 (Mp zD r_3.2.2.1),Ii r_3.2.2.2])) an))) ?_
 refine sq ?_
 refine sr [] [2,3,4,8,9,10,11,44] [0,1,2,3] 4 [Pp 0,Pp 1,Pp 2,.own 3 ((r_3.1).length),.sl false 1 (Ms r_3.2.1),.sl false 2 (Mp zD r_3.2.2.1),Ii r_3.2.2.2,.bool (r_3.2.2.2 != (0:Int))] [Vb 32 (zK p_1),Vb 45 (zM e_1),Vb 32 [Ii 0,.str ([]:List Int),Ii 0,.nilsl,.nilsl,Ii 0,.nilsl,Ii 0,Ii 0,Ii 0,Ii 0,Ii 0,Ii 0],Rb 5 1 (Mb r_3.1)] zG an ?_
 refine cd 44 (r_3.2.2.2 != (0:Int)) ?_ ?_
 ·intro g_4;replace h:=zR g_4 h
  refine sr [] [4,5] [2] 4 [Pp 2,Ii r_3.2.2.2] [Vb 32 [Ii 0,.str ([]:List Int),Ii 0,.nilsl,.nilsl,Ii 0,.nilsl,Ii 0,Ii 0,Ii 0,Ii 0,Ii 0,Ii 0]] zG an ?_
  refine wk [2] [] [.s 4,.s 5] [.a 0 (Vb 32 [Ii (((⟨(⟨(0:Int),([]:List Int),(0:Int)⟩:zC),[],[],(⟨(0:Int),[],(0:Int),(0:Int),(0:Int),(0:Int)⟩:zB),(0:Int),(0:Int)⟩:zA).Thread).Id),.str (((⟨(⟨(0:Int),([]:List Int),(0:Int)⟩:zC),[],[],(⟨(0:Int),[],(0:Int),(0:Int),(0:Int),(0:Int)⟩:zB),(0:Int),(0:Int)⟩:zA).Thread).Name),Ii (((⟨(⟨(0:Int),([]:List Int),(0:Int)⟩:zC),[],[],(⟨(0:Int),[],(0:Int),(0:Int),(0:Int),(0:Int)⟩:zB),(0:Int),(0:Int)⟩:zA).Thread).Domain),.sl false 1 (Ms ((⟨(⟨(0:Int),([]:List Int),(0:Int)⟩:zC),[],[],(⟨(0:Int),[],(0:Int),(0:Int),(0:Int),(0:Int)⟩:zB),(0:Int),(0:Int)⟩:zA).Names)),.sl false 2 (Mp zD ((⟨(⟨(0:Int),([]:List Int),(0:Int)⟩:zC),[],[],(⟨(0:Int),[],(0:Int),(0:Int),(0:Int),(0:Int)⟩:zB),(0:Int),(0:Int)⟩:zA).Stacks)),Ii (((⟨(⟨(0:Int),([]:List Int),(0:Int)⟩:zC),[],[],(⟨(0:Int),[],(0:Int),(0:Int),(0:Int),(0:Int)⟩:zB),(0:Int),(0:Int)⟩:zA).Ring).Policy),.sl false 1 (Mb (((⟨(⟨(0:Int),([]:List Int),(0:Int)⟩:zC),[],[],(⟨(0:Int),[],(0:Int),(0:Int),(0:Int),(0:Int)⟩:zB),(0:Int),(0:Int)⟩:zA).Ring).Data)),Ii (((⟨(⟨(0:Int),([]:List Int),(0:Int)⟩:zC),[],[],(⟨(0:Int),[],(0:Int),(0:Int),(0:Int),(0:Int)⟩:zB),(0:Int),(0:Int)⟩:zA).Ring).Start),Ii (((⟨(⟨(0:Int),([]:List Int),(0:Int)⟩:zC),[],[],(⟨(0:Int),[],(0:Int),(0:Int),(0:Int),(0:Int)⟩:zB),(0:Int),(0:Int)⟩:zA).Ring).End),Ii (((⟨(⟨(0:Int),([]:List Int),(0:Int)⟩:zC),[],[],(⟨(0:Int),[],(0:Int),(0:Int),(0:Int),(0:Int)⟩:zB),(0:Int),(0:Int)⟩:zA).Ring).First),Ii (((⟨(⟨(0:Int),([]:List Int),(0:Int)⟩:zC),[],[],(⟨(0:Int),[],(0:Int),(0:Int),(0:Int),(0:Int)⟩:zB),(0:Int),(0:Int)⟩:zA).Ring).Next),Ii ((⟨(⟨(0:Int),([]:List Int),(0:Int)⟩:zC),[],[],(⟨(0:Int),[],(0:Int),(0:Int),(0:Int),(0:Int)⟩:zB),(0:Int),(0:Int)⟩:zA).Last),Ii ((⟨(⟨(0:Int),([]:List Int),(0:Int)⟩:zC),[],[],(⟨(0:Int),[],(0:Int),(0:Int),(0:Int),(0:Int)⟩:zB),(0:Int),(0:Int)⟩:zA).Sent)])] [(4,Pp 0),(5,Ii r_3.2.2.2)] [(0,Vb 32 [Ii (((⟨(⟨(0:Int),([]:List Int),(0:Int)⟩:zC),[],[],(⟨(0:Int),[],(0:Int),(0:Int),(0:Int),(0:Int)⟩:zB),(0:Int),(0:Int)⟩:zA).Thread).Id),.str (((⟨(⟨(0:Int),([]:List Int),(0:Int)⟩:zC),[],[],(⟨(0:Int),[],(0:Int),(0:Int),(0:Int),(0:Int)⟩:zB),(0:Int),(0:Int)⟩:zA).Thread).Name),Ii (((⟨(⟨(0:Int),([]:List Int),(0:Int)⟩:zC),[],[],(⟨(0:Int),[],(0:Int),(0:Int),(0:Int),(0:Int)⟩:zB),(0:Int),(0:Int)⟩:zA).Thread).Domain),.sl false 1 (Ms ((⟨(⟨(0:Int),([]:List Int),(0:Int)⟩:zC),[],[],(⟨(0:Int),[],(0:Int),(0:Int),(0:Int),(0:Int)⟩:zB),(0:Int),(0:Int)⟩:zA).Names)),.sl false 2 (Mp zD ((⟨(⟨(0:Int),([]:List Int),(0:Int)⟩:zC),[],[],(⟨(0:Int),[],(0:Int),(0:Int),(0:Int),(0:Int)⟩:zB),(0:Int),(0:Int)⟩:zA).Stacks)),Ii (((⟨(⟨(0:Int),([]:List Int),(0:Int)⟩:zC),[],[],(⟨(0:Int),[],(0:Int),(0:Int),(0:Int),(0:Int)⟩:zB),(0:Int),(0:Int)⟩:zA).Ring).Policy),.sl false 1 (Mb (((⟨(⟨(0:Int),([]:List Int),(0:Int)⟩:zC),[],[],(⟨(0:Int),[],(0:Int),(0:Int),(0:Int),(0:Int)⟩:zB),(0:Int),(0:Int)⟩:zA).Ring).Data)),Ii (((⟨(⟨(0:Int),([]:List Int),(0:Int)⟩:zC),[],[],(⟨(0:Int),[],(0:Int),(0:Int),(0:Int),(0:Int)⟩:zB),(0:Int),(0:Int)⟩:zA).Ring).Start),Ii (((⟨(⟨(0:Int),([]:List Int),(0:Int)⟩:zC),[],[],(⟨(0:Int),[],(0:Int),(0:Int),(0:Int),(0:Int)⟩:zB),(0:Int),(0:Int)⟩:zA).Ring).End),Ii (((⟨(⟨(0:Int),([]:List Int),(0:Int)⟩:zC),[],[],(⟨(0:Int),[],(0:Int),(0:Int),(0:Int),(0:Int)⟩:zB),(0:Int),(0:Int)⟩:zA).Ring).First),Ii (((⟨(⟨(0:Int),([]:List Int),(0:Int)⟩:zC),[],[],(⟨(0:Int),[],(0:Int),(0:Int),(0:Int),(0:Int)⟩:zB),(0:Int),(0:Int)⟩:zA).Ring).Next),Ii ((⟨(⟨(0:Int),([]:List Int),(0:Int)⟩:zC),[],[],(⟨(0:Int),[],(0:Int),(0:Int),(0:Int),(0:Int)⟩:zB),(0:Int),(0:Int)⟩:zA).Last),Ii ((⟨(⟨(0:Int),([]:List Int),(0:Int)⟩:zC),[],[],(⟨(0:Int),[],(0:Int),(0:Int),(0:Int),(0:Int)⟩:zB),(0:Int),(0:Int)⟩:zA).Sent)])] (ar 32 (ac (rfl:wJ [Ii (((⟨(⟨(0:Int),([]:List Int),(0:Int)⟩:zC),[],[],(⟨(0:Int),[],(0:Int),(0:Int),(0:Int),(0:Int)⟩:zB),(0:Int),(0:Int)⟩:zA).Thread).Id),.str (((⟨(⟨(0:Int),([]:List Int),(0:Int)⟩:zC),[],[],(⟨(0:Int),[],(0:Int),(0:Int),(0:Int),(0:Int)⟩:zB),(0:Int),(0:Int)⟩:zA).Thread).Name),Ii (((⟨(⟨(0:Int),([]:List Int),(0:Int)⟩:zC),[],[],(⟨(0:Int),[],(0:Int),(0:Int),(0:Int),(0:Int)⟩:zB),(0:Int),(0:Int)⟩:zA).Thread).Domain),.sl false 1 (Ms ((⟨(⟨(0:Int),([]:List Int),(0:Int)⟩:zC),[],[],(⟨(0:Int),[],(0:Int),(0:Int),(0:Int),(0:Int)⟩:zB),(0:Int),(0:Int)⟩:zA).Names)),.sl false 2 (Mp zD ((⟨(⟨(0:Int),([]:List Int),(0:Int)⟩:zC),[],[],(⟨(0:Int),[],(0:Int),(0:Int),(0:Int),(0:Int)⟩:zB),(0:Int),(0:Int)⟩:zA).Stacks)),Ii (((⟨(⟨(0:Int),([]:List Int),(0:Int)⟩:zC),[],[],(⟨(0:Int),[],(0:Int),(0:Int),(0:Int),(0:Int)⟩:zB),(0:Int),(0:Int)⟩:zA).Ring).Policy),.sl false 1 (Mb (((⟨(⟨(0:Int),([]:List Int),(0:Int)⟩:zC),[],[],(⟨(0:Int),[],(0:Int),(0:Int),(0:Int),(0:Int)⟩:zB),(0:Int),(0:Int)⟩:zA).Ring).Data)),Ii (((⟨(⟨(0:Int),([]:List Int),(0:Int)⟩:zC),[],[],(⟨(0:Int),[],(0:Int),(0:Int),(0:Int),(0:Int)⟩:zB),(0:Int),(0:Int)⟩:zA).Ring).Start),Ii (((⟨(⟨(0:Int),([]:List Int),(0:Int)⟩:zC),[],[],(⟨(0:Int),[],(0:Int),(0:Int),(0:Int),(0:Int)⟩:zB),(0:Int),(0:Int)⟩:zA).Ring).End),Ii (((⟨(⟨(0:Int),([]:List Int),(0:Int)⟩:zC),[],[],(⟨(0:Int),[],(0:Int),(0:Int),(0:Int),(0:Int)⟩:zB),(0:Int),(0:Int)⟩:zA).Ring).First),Ii (((⟨(⟨(0:Int),([]:List Int),(0:Int)⟩:zC),[],[],(⟨(0:Int),[],(0:Int),(0:Int),(0:Int),(0:Int)⟩:zB),(0:Int),(0:Int)⟩:zA).Ring).Next),Ii ((⟨(⟨(0:Int),([]:List Int),(0:Int)⟩:zC),[],[],(⟨(0:Int),[],(0:Int),(0:Int),(0:Int),(0:Int)⟩:zB),(0:Int),(0:Int)⟩:zA).Last),Ii ((⟨(⟨(0:Int),([]:List Int),(0:Int)⟩:zC),[],[],(⟨(0:Int),[],(0:Int),(0:Int),(0:Int),(0:Int)⟩:zB),(0:Int),(0:Int)⟩:zA).Sent)]=true) (ac (rfl:(Ii 0:AV)=Ii (((⟨(⟨(0:Int),([]:List Int),(0:Int)⟩:zC),[],[],(⟨(0:Int),[],(0:Int),(0:Int),(0:Int),(0:Int)⟩:zB),(0:Int),(0:Int)⟩:zA).Thread).Id)) (ac (rfl:(.str ([]:List Int):AV)=.str (((⟨(⟨(0:Int),([]:List Int),(0:Int)⟩:zC),[],[],(⟨(0:Int),[],(0:Int),(0:Int),(0:Int),(0:Int)⟩:zB),(0:Int),(0:Int)⟩:zA).Thread).Name)) (ac (rfl:(Ii 0:AV)=Ii (((⟨(⟨(0:Int),([]:List Int),(0:Int)⟩:zC),[],[],(⟨(0:Int),[],(0:Int),(0:Int),(0:Int),(0:Int)⟩:zB),(0:Int),(0:Int)⟩:zA).Thread).Domain)) (ac (rfl:((Ms ((⟨(⟨(0:Int),([]:List Int),(0:Int)⟩:zC),[],[],(⟨(0:Int),[],(0:Int),(0:Int),(0:Int),(0:Int)⟩:zB),(0:Int),(0:Int)⟩:zA).Names)):List AV)=[]) (ac (rfl:((Mp zD ((⟨(⟨(0:Int),([]:List Int),(0:Int)⟩:zC),[],[],(⟨(0:Int),[],(0:Int),(0:Int),(0:Int),(0:Int)⟩:zB),(0:Int),(0:Int)⟩:zA).Stacks)):List AV)=[]) (ac (rfl:(Ii 0:AV)=Ii (((⟨(⟨(0:Int),([]:List Int),(0:Int)⟩:zC),[],[],(⟨(0:Int),[],(0:Int),(0:Int),(0:Int),(0:Int)⟩:zB),(0:Int),(0:Int)⟩:zA).Ring).Policy)) (ac (rfl:((Mb (((⟨(⟨(0:Int),([]:List Int),(0:Int)⟩:zC),[],[],(⟨(0:Int),[],(0:Int),(0:Int),(0:Int),(0:Int)⟩:zB),(0:Int),(0:Int)⟩:zA).Ring).Data)):List AV)=[]) (ac (rfl:(Ii 0:AV)=Ii (((⟨(⟨(0:Int),([]:List Int),(0:Int)⟩:zC),[],[],(⟨(0:Int),[],(0:Int),(0:Int),(0:Int),(0:Int)⟩:zB),(0:Int),(0:Int)⟩:zA).Ring).Start)) (ac (rfl:(Ii 0:AV)=Ii (((⟨(⟨(0:Int),([]:List Int),(0:Int)⟩:zC),[],[],(⟨(0:Int),[],(0:Int),(0:Int),(0:Int),(0:Int)⟩:zB),(0:Int),(0:Int)⟩:zA).Ring).End)) (ac (rfl:(Ii 0:AV)=Ii (((⟨(⟨(0:Int),([]:List Int),(0:Int)⟩:zC),[],[],(⟨(0:Int),[],(0:Int),(0:Int),(0:Int),(0:Int)⟩:zB),(0:Int),(0:Int)⟩:zA).Ring).First)) (ac (rfl:(Ii 0:AV)=Ii (((⟨(⟨(0:Int),([]:List Int),(0:Int)⟩:zC),[],[],(⟨(0:Int),[],(0:Int),(0:Int),(0:Int),(0:Int)⟩:zB),(0:Int),(0:Int)⟩:zA).Ring).Next)) (ac (rfl:(Ii 0:AV)=Ii ((⟨(⟨(0:Int),([]:List Int),(0:Int)⟩:zC),[],[],(⟨(0:Int),[],(0:Int),(0:Int),(0:Int),(0:Int)⟩:zB),(0:Int),(0:Int)⟩:zA).Last)) (ac (rfl:(Ii 0:AV)=Ii ((⟨(⟨(0:Int),([]:List Int),(0:Int)⟩:zC),[],[],(⟨(0:Int),[],(0:Int),(0:Int),(0:Int),(0:Int)⟩:zB),(0:Int),(0:Int)⟩:zA).Sent)) an))))))))))))))) ?_
  refine rt ?_
  cases h
  exact ⟨.inr rfl,Nat.le_of_ble_eq_true rfl,by kernel_rfl⟩
 intro g_4;replace h:=zS g_4 h
 refine sk ?_
 refine sq ?_
 obtain ⟨r_4,h_4,h⟩:=bind_some h
 refine rg [(3,{ av:=.tuple [z5 r_4.1,Ii r_4.2.1,Ii r_4.2.2],frz:=[3],l:=[z5 p_1.Ring,.sl false 1 (Mb r_3.1)] }),(8,{ id:=4 })] [2,3,4,9,10,11,12] [0,1,2,4] 5 [Pp 0,Pp 1,Pp 2,.sl false 1 (Ms r_3.2.1),.sl false 2 (Mp zD r_3.2.2.1),Ii r_4.2.2,Pp 4] [Vb 32 (zK p_1),Vb 45 (zM e_1),Vb 32 [Ii 0,.str ([]:List Int),Ii 0,.nilsl,.nilsl,Ii 0,.nilsl,Ii 0,Ii 0,Ii 0,Ii 0,Ii 0,Ii 0],Vb 30 (zT r_4.1)] zG (ac (by first | (simp;done) | (simp;omega):(r_3.1).length=((List.map (AV.int .u8) r_3.1)).length) (ar ([z5 p_1.Ring,.sl false 1 (Mb r_3.1)]:List AV) (ac (rfl:([]:List zP)=[]) (ac (zIb F p_1.Ring r_3.1 r_4 h_4:zQ prog 40 [] [] [z5 p_1.Ring,.sl false 1 (Mb r_3.1)] [] (.tuple [z5 r_4.1,Ii r_4.2.1,Ii r_4.2.2])) an)))) ?_
 refine sq ?_
 refine sr [] [2,3,4,9,10,11,12,56] [0,1,2,4] 5 [Pp 0,Pp 1,Pp 2,.sl false 1 (Ms r_3.2.1),.sl false 2 (Mp zD r_3.2.2.1),Ii r_4.2.2,Pp 4,.bool (r_4.2.2 != (0:Int))] [Vb 32 (zK p_1),Vb 45 (zM e_1),Vb 32 [Ii 0,.str ([]:List Int),Ii 0,.nilsl,.nilsl,Ii 0,.nilsl,Ii 0,Ii 0,Ii 0,Ii 0,Ii 0,Ii 0],Vb 30 (zT r_4.1)] zG an ?_
 refine cd 56 (r_4.2.2 != (0:Int)) ?_ ?_
 ·intro g_5;replace h:=zR g_5 h
  refine sr [] [4,5] [2] 5 [Pp 2,Ii r_4.2.2] [Vb 32 [Ii 0,.str ([]:List Int),Ii 0,.nilsl,.nilsl,Ii 0,.nilsl,Ii 0,Ii 0,Ii 0,Ii 0,Ii 0,Ii 0]] zG an ?_
  refine wk [2] [] [.s 4,.s 5] [.a 0 (Vb 32 [Ii (((⟨(⟨(0:Int),([]:List Int),(0:Int)⟩:zC),[],[],(⟨(0:Int),[],(0:Int),(0:Int),(0:Int),(0:Int)⟩:zB),(0:Int),(0:Int)⟩:zA).Thread).Id),.str (((⟨(⟨(0:Int),([]:List Int),(0:Int)⟩:zC),[],[],(⟨(0:Int),[],(0:Int),(0:Int),(0:Int),(0:Int)⟩:zB),(0:Int),(0:Int)⟩:zA).Thread).Name),Ii (((⟨(⟨(0:Int),([]:List Int),(0:Int)⟩:zC),[],[],(⟨(0:Int),[],(0:Int),(0:Int),(0:Int),(0:Int)⟩:zB),(0:Int),(0:Int)⟩:zA).Thread).Domain),.sl false 1 (Ms ((⟨(⟨(0:Int),([]:List Int),(0:Int)⟩:zC),[],[],(⟨(0:Int),[],(0:Int),(0:Int),(0:Int),(0:Int)⟩:zB),(0:Int),(0:Int)⟩:zA).Names)),.sl false 2 (Mp zD ((⟨(⟨(0:Int),([]:List Int),(0:Int)⟩:zC),[],[],(⟨(0:Int),[],(0:Int),(0:Int),(0:Int),(0:Int)⟩:zB),(0:Int),(0:Int)⟩:zA).Stacks)),Ii (((⟨(⟨(0:Int),([]:List Int),(0:Int)⟩:zC),[],[],(⟨(0:Int),[],(0:Int),(0:Int),(0:Int),(0:Int)⟩:zB),(0:Int),(0:Int)⟩:zA).Ring).Policy),.sl false 1 (Mb (((⟨(⟨(0:Int),([]:List Int),(0:Int)⟩:zC),[],[],(⟨(0:Int),[],(0:Int),(0:Int),(0:Int),(0:Int)⟩:zB),(0:Int),(0:Int)⟩:zA).Ring).Data)),Ii (((⟨(⟨(0:Int),([]:List Int),(0:Int)⟩:zC),[],[],(⟨(0:Int),[],(0:Int),(0:Int),(0:Int),(0:Int)⟩:zB),(0:Int),(0:Int)⟩:zA).Ring).Start),Ii (((⟨(⟨(0:Int),([]:List Int),(0:Int)⟩:zC),[],[],(⟨(0:Int),[],(0:Int),(0:Int),(0:Int),(0:Int)⟩:zB),(0:Int),(0:Int)⟩:zA).Ring).End),Ii (((⟨(⟨(0:Int),([]:List Int),(0:Int)⟩:zC),[],[],(⟨(0:Int),[],(0:Int),(0:Int),(0:Int),(0:Int)⟩:zB),(0:Int),(0:Int)⟩:zA).Ring).First),Ii (((⟨(⟨(0:Int),([]:List Int),(0:Int)⟩:zC),[],[],(⟨(0:Int),[],(0:Int),(0:Int),(0:Int),(0:Int)⟩:zB),(0:Int),(0:Int)⟩:zA).Ring).Next),Ii ((⟨(⟨(0:Int),([]:List Int),(0:Int)⟩:zC),[],[],(⟨(0:Int),[],(0:Int),(0:Int),(0:Int),(0:Int)⟩:zB),(0:Int),(0:Int)⟩:zA).Last),Ii ((⟨(⟨(0:Int),([]:List Int),(0:Int)⟩:zC),[],[],(⟨(0:Int),[],(0:Int),(0:Int),(0:Int),(0:Int)⟩:zB),(0:Int),(0:Int)⟩:zA).Sent)])] [(4,Pp 0),(5,Ii r_4.2.2)] [(0,Vb 32 [Ii (((⟨(⟨(0:Int),([]:List Int),(0:Int)⟩:zC),[],[],(⟨(0:Int),[],(0:Int),(0:Int),(0:Int),(0:Int)⟩:zB),(0:Int),(0:Int)⟩:zA).Thread).Id),.str (((⟨(⟨(0:Int),([]:List Int),(0:Int)⟩:zC),[],[],(⟨(0:Int),[],(0:Int),(0:Int),(0:Int),(0:Int)⟩:zB),(0:Int),(0:Int)⟩:zA).Thread).Name),Ii (((⟨(⟨(0:Int),([]:List Int),(0:Int)⟩:zC),[],[],(⟨(0:Int),[],(0:Int),(0:Int),(0:Int),(0:Int)⟩:zB),(0:Int),(0:Int)⟩:zA).Thread).Domain),.sl false 1 (Ms ((⟨(⟨(0:Int),([]:List Int),(0:Int)⟩:zC),[],[],(⟨(0:Int),[],(0:Int),(0:Int),(0:Int),(0:Int)⟩:zB),(0:Int),(0:Int)⟩:zA).Names)),.sl false 2 (Mp zD ((⟨(⟨(0:Int),([]:List Int),(0:Int)⟩:zC),[],[],(⟨(0:Int),[],(0:Int),(0:Int),(0:Int),(0:Int)⟩:zB),(0:Int),(0:Int)⟩:zA).Stacks)),Ii (((⟨(⟨(0:Int),([]:List Int),(0:Int)⟩:zC),[],[],(⟨(0:Int),[],(0:Int),(0:Int),(0:Int),(0:Int)⟩:zB),(0:Int),(0:Int)⟩:zA).Ring).Policy),.sl false 1 (Mb (((⟨(⟨(0:Int),([]:List Int),(0:Int)⟩:zC),[],[],(⟨(0:Int),[],(0:Int),(0:Int),(0:Int),(0:Int)⟩:zB),(0:Int),(0:Int)⟩:zA).Ring).Data)),Ii (((⟨(⟨(0:Int),([]:List Int),(0:Int)⟩:zC),[],[],(⟨(0:Int),[],(0:Int),(0:Int),(0:Int),(0:Int)⟩:zB),(0:Int),(0:Int)⟩:zA).Ring).Start),Ii (((⟨(⟨(0:Int),([]:List Int),(0:Int)⟩:zC),[],[],(⟨(0:Int),[],(0:Int),(0:Int),(0:Int),(0:Int)⟩:zB),(0:Int),(0:Int)⟩:zA).Ring).End),Ii (((⟨(⟨(0:Int),([]:List Int),(0:Int)⟩:zC),[],[],(⟨(0:Int),[],(0:Int),(0:Int),(0:Int),(0:Int)⟩:zB),(0:Int),(0:Int)⟩:zA).Ring).First),Ii (((⟨(⟨(0:Int),([]:List Int),(0:Int)⟩:zC),[],[],(⟨(0:Int),[],(0:Int),(0:Int),(0:Int),(0:Int)⟩:zB),(0:Int),(0:Int)⟩:zA).Ring).Next),Ii ((⟨(⟨(0:Int),([]:List Int),(0:Int)⟩:zC),[],[],(⟨(0:Int),[],(0:Int),(0:Int),(0:Int),(0:Int)⟩:zB),(0:Int),(0:Int)⟩:zA).Last),Ii ((⟨(⟨(0:Int),([]:List Int),(0:Int)⟩:zC),[],[],(⟨(0:Int),[],(0:Int),(0:Int),(0:Int),(0:Int)⟩:zB),(0:Int),(0:Int)⟩:zA).Sent)])] (ar 32 (ac (rfl:wJ [Ii (((⟨(⟨(0:Int),([]:List Int),(0:Int)⟩:zC),[],[],(⟨(0:Int),[],(0:Int),(0:Int),(0:Int),(0:Int)⟩:zB),(0:Int),(0:Int)⟩:zA).Thread).Id),.str (((⟨(⟨(0:Int),([]:List Int),(0:Int)⟩:zC),[],[],(⟨(0:Int),[],(0:Int),(0:Int),(0:Int),(0:Int)⟩:zB),(0:Int),(0:Int)⟩:zA).Thread).Name),Ii (((⟨(⟨(0:Int),([]:List Int),(0:Int)⟩:zC),[],[],(⟨(0:Int),[],(0:Int),(0:Int),(0:Int),(0:Int)⟩:zB),(0:Int),(0:Int)⟩:zA).Thread).Domain),.sl false 1 (Ms ((⟨(⟨(0:Int),([]:List Int),(0:Int)⟩:zC),[],[],(⟨(0:Int),[],(0:Int),(0:Int),(0:Int),(0:Int)⟩:zB),(0:Int),(0:Int)⟩:zA).Names)),.sl false 2 (Mp zD ((⟨(⟨(0:Int),([]:List Int),(0:Int)⟩:zC),[],[],(⟨(0:Int),[],(0:Int),(0:Int),(0:Int),(0:Int)⟩:zB),(0:Int),(0:Int)⟩:zA).Stacks)),Ii (((⟨(⟨(0:Int),([]:List Int),(0:Int)⟩:zC),[],[],(⟨(0:Int),[],(0:Int),(0:Int),(0:Int),(0:Int)⟩:zB),(0:Int),(0:Int)⟩:zA).Ring).Policy),.sl false 1 (Mb (((⟨(⟨(0:Int),([]:List Int),(0:Int)⟩:zC),[],[],(⟨(0:Int),[],(0:Int),(0:Int),(0:Int),(0:Int)⟩:zB),(0:Int),(0:Int)⟩:zA).Ring).Data)),Ii (((⟨(⟨(0:Int),([]:List Int),(0:Int)⟩:zC),[],[],(⟨(0:Int),[],(0:Int),(0:Int),(0:Int),(0:Int)⟩:zB),(0:Int),(0:Int)⟩:zA).Ring).Start),Ii (((⟨(⟨(0:Int),([]:List Int),(0:Int)⟩:zC),[],[],(⟨(0:Int),[],(0:Int),(0:Int),(0:Int),(0:Int)⟩:zB),(0:Int),(0:Int)⟩:zA).Ring).End),Ii (((⟨(⟨(0:Int),([]:List Int),(0:Int)⟩:zC),[],[],(⟨(0:Int),[],(0:Int),(0:Int),(0:Int),(0:Int)⟩:zB),(0:Int),(0:Int)⟩:zA).Ring).First),Ii (((⟨(⟨(0:Int),([]:List Int),(0:Int)⟩:zC),[],[],(⟨(0:Int),[],(0:Int),(0:Int),(0:Int),(0:Int)⟩:zB),(0:Int),(0:Int)⟩:zA).Ring).Next),Ii ((⟨(⟨(0:Int),([]:List Int),(0:Int)⟩:zC),[],[],(⟨(0:Int),[],(0:Int),(0:Int),(0:Int),(0:Int)⟩:zB),(0:Int),(0:Int)⟩:zA).Last),Ii ((⟨(⟨(0:Int),([]:List Int),(0:Int)⟩:zC),[],[],(⟨(0:Int),[],(0:Int),(0:Int),(0:Int),(0:Int)⟩:zB),(0:Int),(0:Int)⟩:zA).Sent)]=true) (ac (rfl:(Ii 0:AV)=Ii (((⟨(⟨(0:Int),([]:List Int),(0:Int)⟩:zC),[],[],(⟨(0:Int),[],(0:Int),(0:Int),(0:Int),(0:Int)⟩:zB),(0:Int),(0:Int)⟩:zA).Thread).Id)) (ac (rfl:(.str ([]:List Int):AV)=.str (((⟨(⟨(0:Int),([]:List Int),(0:Int)⟩:zC),[],[],(⟨(0:Int),[],(0:Int),(0:Int),(0:Int),(0:Int)⟩:zB),(0:Int),(0:Int)⟩:zA).Thread).Name)) (ac (rfl:(Ii 0:AV)=Ii (((⟨(⟨(0:Int),([]:List Int),(0:Int)⟩:zC),[],[],(⟨(0:Int),[],(0:Int),(0:Int),(0:Int),(0:Int)⟩:zB),(0:Int),(0:Int)⟩:zA).Thread).Domain)) (ac (rfl:((Ms ((⟨(⟨(0:Int),([]:List Int),(0:Int)⟩:zC),[],[],(⟨(0:Int),[],(0:Int),(0:Int),(0:Int),(0:Int)⟩:zB),(0:Int),(0:Int)⟩:zA).Names)):List AV)=[]) (ac (rfl:((Mp zD ((⟨(⟨(0:Int),([]:List Int),(0:Int)⟩:zC),[],[],(⟨(0:Int),[],(0:Int),(0:Int),(0:Int),(0:Int)⟩:zB),(0:Int),(0:Int)⟩:zA).Stacks)):List AV)=[]) (ac (rfl:(Ii 0:AV)=Ii (((⟨(⟨(0:Int),([]:List Int),(0:Int)⟩:zC),[],[],(⟨(0:Int),[],(0:Int),(0:Int),(0:Int),(0:Int)⟩:zB),(0:Int),(0:Int)⟩:zA).Ring).Policy)) (ac (rfl:((Mb (((⟨(⟨(0:Int),([]:List Int),(0:Int)⟩:zC),[],[],(⟨(0:Int),[],(0:Int),(0:Int),(0:Int),(0:Int)⟩:zB),(0:Int),(0:Int)⟩:zA).Ring).Data)):List AV)=[]) (ac (rfl:(Ii 0:AV)=Ii (((⟨(⟨(0:Int),([]:List Int),(0:Int)⟩:zC),[],[],(⟨(0:Int),[],(0:Int),(0:Int),(0:Int),(0:Int)⟩:zB),(0:Int),(0:Int)⟩:zA).Ring).Start)) (ac (rfl:(Ii 0:AV)=Ii (((⟨(⟨(0:Int),([]:List Int),(0:Int)⟩:zC),[],[],(⟨(0:Int),[],(0:Int),(0:Int),(0:Int),(0:Int)⟩:zB),(0:Int),(0:Int)⟩:zA).Ring).End)) (ac (rfl:(Ii 0:AV)=Ii (((⟨(⟨(0:Int),([]:List Int),(0:Int)⟩:zC),[],[],(⟨(0:Int),[],(0:Int),(0:Int),(0:Int),(0:Int)⟩:zB),(0:Int),(0:Int)⟩:zA).Ring).First)) (ac (rfl:(Ii 0:AV)=Ii (((⟨(⟨(0:Int),([]:List Int),(0:Int)⟩:zC),[],[],(⟨(0:Int),[],(0:Int),(0:Int),(0:Int),(0:Int)⟩:zB),(0:Int),(0:Int)⟩:zA).Ring).Next)) (ac (rfl:(Ii 0:AV)=Ii ((⟨(⟨(0:Int),([]:List Int),(0:Int)⟩:zC),[],[],(⟨(0:Int),[],(0:Int),(0:Int),(0:Int),(0:Int)⟩:zB),(0:Int),(0:Int)⟩:zA).Last)) (ac (rfl:(Ii 0:AV)=Ii ((⟨(⟨(0:Int),([]:List Int),(0:Int)⟩:zC),[],[],(⟨(0:Int),[],(0:Int),(0:Int),(0:Int),(0:Int)⟩:zB),(0:Int),(0:Int)⟩:zA).Sent)) an))))))))))))))) ?_
  refine rt ?_
  cases h
  exact ⟨.inr rfl,Nat.le_of_ble_eq_true rfl,by kernel_rfl⟩
 intro g_5;replace h:=zS g_5 h
 refine sk ?_
 refine sr [] [2,4] [0,2] 5 [Pp 0,Pp 2] [Vb 32 [Ii p_1.Thread.Id,.str p_1.Thread.Name,Ii p_1.Thread.Domain,.sl false 1 (Ms r_3.2.1),.sl false 2 (Mp zD r_3.2.2.1),Ii r_4.1.Policy,.sl false 1 (Mb r_4.1.Data),Ii r_4.1.Start,Ii r_4.1.End,Ii r_4.1.First,Ii r_4.1.Next,Ii e_1.At,Ii p_1.Sent],Vb 32 [Ii 0,.str ([]:List Int),Ii 0,.nilsl,.nilsl,Ii 0,.nilsl,Ii 0,Ii 0,Ii 0,Ii 0,Ii 0,Ii 0]] zG an ?_
 refine sr [] [4,5] [2] 5 [Pp 2,Ii 0] [Vb 32 [Ii p_1.Thread.Id,.str p_1.Thread.Name,Ii p_1.Thread.Domain,.sl false 1 (Ms r_3.2.1),.sl false 2 (Mp zD r_3.2.2.1),Ii r_4.1.Policy,.sl false 1 (Mb r_4.1.Data),Ii r_4.1.Start,Ii r_4.1.End,Ii r_4.1.First,Ii r_4.1.Next,Ii e_1.At,Ii p_1.Sent]] zG an ?_
 refine wk [2] [] [.s 4,.s 5] [.a 0 (Vb 32 [Ii (((⟨p_1.Thread,r_3.2.1,r_3.2.2.1,r_4.1,e_1.At,p_1.Sent⟩:zA).Thread).Id),.str (((⟨p_1.Thread,r_3.2.1,r_3.2.2.1,r_4.1,e_1.At,p_1.Sent⟩:zA).Thread).Name),Ii (((⟨p_1.Thread,r_3.2.1,r_3.2.2.1,r_4.1,e_1.At,p_1.Sent⟩:zA).Thread).Domain),.sl false 1 (Ms ((⟨p_1.Thread,r_3.2.1,r_3.2.2.1,r_4.1,e_1.At,p_1.Sent⟩:zA).Names)),.sl false 2 (Mp zD ((⟨p_1.Thread,r_3.2.1,r_3.2.2.1,r_4.1,e_1.At,p_1.Sent⟩:zA).Stacks)),Ii (((⟨p_1.Thread,r_3.2.1,r_3.2.2.1,r_4.1,e_1.At,p_1.Sent⟩:zA).Ring).Policy),.sl false 1 (Mb (((⟨p_1.Thread,r_3.2.1,r_3.2.2.1,r_4.1,e_1.At,p_1.Sent⟩:zA).Ring).Data)),Ii (((⟨p_1.Thread,r_3.2.1,r_3.2.2.1,r_4.1,e_1.At,p_1.Sent⟩:zA).Ring).Start),Ii (((⟨p_1.Thread,r_3.2.1,r_3.2.2.1,r_4.1,e_1.At,p_1.Sent⟩:zA).Ring).End),Ii (((⟨p_1.Thread,r_3.2.1,r_3.2.2.1,r_4.1,e_1.At,p_1.Sent⟩:zA).Ring).First),Ii (((⟨p_1.Thread,r_3.2.1,r_3.2.2.1,r_4.1,e_1.At,p_1.Sent⟩:zA).Ring).Next),Ii ((⟨p_1.Thread,r_3.2.1,r_3.2.2.1,r_4.1,e_1.At,p_1.Sent⟩:zA).Last),Ii ((⟨p_1.Thread,r_3.2.1,r_3.2.2.1,r_4.1,e_1.At,p_1.Sent⟩:zA).Sent)])] [(4,Pp 0),(5,Ii 0)] [(0,Vb 32 [Ii (((⟨p_1.Thread,r_3.2.1,r_3.2.2.1,r_4.1,e_1.At,p_1.Sent⟩:zA).Thread).Id),.str (((⟨p_1.Thread,r_3.2.1,r_3.2.2.1,r_4.1,e_1.At,p_1.Sent⟩:zA).Thread).Name),Ii (((⟨p_1.Thread,r_3.2.1,r_3.2.2.1,r_4.1,e_1.At,p_1.Sent⟩:zA).Thread).Domain),.sl false 1 (Ms ((⟨p_1.Thread,r_3.2.1,r_3.2.2.1,r_4.1,e_1.At,p_1.Sent⟩:zA).Names)),.sl false 2 (Mp zD ((⟨p_1.Thread,r_3.2.1,r_3.2.2.1,r_4.1,e_1.At,p_1.Sent⟩:zA).Stacks)),Ii (((⟨p_1.Thread,r_3.2.1,r_3.2.2.1,r_4.1,e_1.At,p_1.Sent⟩:zA).Ring).Policy),.sl false 1 (Mb (((⟨p_1.Thread,r_3.2.1,r_3.2.2.1,r_4.1,e_1.At,p_1.Sent⟩:zA).Ring).Data)),Ii (((⟨p_1.Thread,r_3.2.1,r_3.2.2.1,r_4.1,e_1.At,p_1.Sent⟩:zA).Ring).Start),Ii (((⟨p_1.Thread,r_3.2.1,r_3.2.2.1,r_4.1,e_1.At,p_1.Sent⟩:zA).Ring).End),Ii (((⟨p_1.Thread,r_3.2.1,r_3.2.2.1,r_4.1,e_1.At,p_1.Sent⟩:zA).Ring).First),Ii (((⟨p_1.Thread,r_3.2.1,r_3.2.2.1,r_4.1,e_1.At,p_1.Sent⟩:zA).Ring).Next),Ii ((⟨p_1.Thread,r_3.2.1,r_3.2.2.1,r_4.1,e_1.At,p_1.Sent⟩:zA).Last),Ii ((⟨p_1.Thread,r_3.2.1,r_3.2.2.1,r_4.1,e_1.At,p_1.Sent⟩:zA).Sent)])] (ar 32 (ac (rfl:wJ [Ii (((⟨p_1.Thread,r_3.2.1,r_3.2.2.1,r_4.1,e_1.At,p_1.Sent⟩:zA).Thread).Id),.str (((⟨p_1.Thread,r_3.2.1,r_3.2.2.1,r_4.1,e_1.At,p_1.Sent⟩:zA).Thread).Name),Ii (((⟨p_1.Thread,r_3.2.1,r_3.2.2.1,r_4.1,e_1.At,p_1.Sent⟩:zA).Thread).Domain),.sl false 1 (Ms ((⟨p_1.Thread,r_3.2.1,r_3.2.2.1,r_4.1,e_1.At,p_1.Sent⟩:zA).Names)),.sl false 2 (Mp zD ((⟨p_1.Thread,r_3.2.1,r_3.2.2.1,r_4.1,e_1.At,p_1.Sent⟩:zA).Stacks)),Ii (((⟨p_1.Thread,r_3.2.1,r_3.2.2.1,r_4.1,e_1.At,p_1.Sent⟩:zA).Ring).Policy),.sl false 1 (Mb (((⟨p_1.Thread,r_3.2.1,r_3.2.2.1,r_4.1,e_1.At,p_1.Sent⟩:zA).Ring).Data)),Ii (((⟨p_1.Thread,r_3.2.1,r_3.2.2.1,r_4.1,e_1.At,p_1.Sent⟩:zA).Ring).Start),Ii (((⟨p_1.Thread,r_3.2.1,r_3.2.2.1,r_4.1,e_1.At,p_1.Sent⟩:zA).Ring).End),Ii (((⟨p_1.Thread,r_3.2.1,r_3.2.2.1,r_4.1,e_1.At,p_1.Sent⟩:zA).Ring).First),Ii (((⟨p_1.Thread,r_3.2.1,r_3.2.2.1,r_4.1,e_1.At,p_1.Sent⟩:zA).Ring).Next),Ii ((⟨p_1.Thread,r_3.2.1,r_3.2.2.1,r_4.1,e_1.At,p_1.Sent⟩:zA).Last),Ii ((⟨p_1.Thread,r_3.2.1,r_3.2.2.1,r_4.1,e_1.At,p_1.Sent⟩:zA).Sent)]=true) (ac (rfl:(Ii p_1.Thread.Id:AV)=Ii (((⟨p_1.Thread,r_3.2.1,r_3.2.2.1,r_4.1,e_1.At,p_1.Sent⟩:zA).Thread).Id)) (ac (rfl:(.str p_1.Thread.Name:AV)=.str (((⟨p_1.Thread,r_3.2.1,r_3.2.2.1,r_4.1,e_1.At,p_1.Sent⟩:zA).Thread).Name)) (ac (rfl:(Ii p_1.Thread.Domain:AV)=Ii (((⟨p_1.Thread,r_3.2.1,r_3.2.2.1,r_4.1,e_1.At,p_1.Sent⟩:zA).Thread).Domain)) (ar 1 (ac (rfl:((Ms r_3.2.1):List AV)=(Ms ((⟨p_1.Thread,r_3.2.1,r_3.2.2.1,r_4.1,e_1.At,p_1.Sent⟩:zA).Names))) (ac (rfl:(!false||false)=true) (ar 2 (ac (rfl:((Mp zD r_3.2.2.1):List AV)=(Mp zD ((⟨p_1.Thread,r_3.2.1,r_3.2.2.1,r_4.1,e_1.At,p_1.Sent⟩:zA).Stacks))) (ac (rfl:(!false||false)=true) (ac (rfl:(Ii r_4.1.Policy:AV)=Ii (((⟨p_1.Thread,r_3.2.1,r_3.2.2.1,r_4.1,e_1.At,p_1.Sent⟩:zA).Ring).Policy)) (ar 1 (ac (rfl:((Mb r_4.1.Data):List AV)=(Mb (((⟨p_1.Thread,r_3.2.1,r_3.2.2.1,r_4.1,e_1.At,p_1.Sent⟩:zA).Ring).Data))) (ac (rfl:(!false||false)=true) (ac (rfl:(Ii r_4.1.Start:AV)=Ii (((⟨p_1.Thread,r_3.2.1,r_3.2.2.1,r_4.1,e_1.At,p_1.Sent⟩:zA).Ring).Start)) (ac (rfl:(Ii r_4.1.End:AV)=Ii (((⟨p_1.Thread,r_3.2.1,r_3.2.2.1,r_4.1,e_1.At,p_1.Sent⟩:zA).Ring).End)) (ac (rfl:(Ii r_4.1.First:AV)=Ii (((⟨p_1.Thread,r_3.2.1,r_3.2.2.1,r_4.1,e_1.At,p_1.Sent⟩:zA).Ring).First)) (ac (rfl:(Ii r_4.1.Next:AV)=Ii (((⟨p_1.Thread,r_3.2.1,r_3.2.2.1,r_4.1,e_1.At,p_1.Sent⟩:zA).Ring).Next)) (ac (rfl:(Ii e_1.At:AV)=Ii ((⟨p_1.Thread,r_3.2.1,r_3.2.2.1,r_4.1,e_1.At,p_1.Sent⟩:zA).Last)) (ac (rfl:(Ii p_1.Sent:AV)=Ii ((⟨p_1.Thread,r_3.2.1,r_3.2.2.1,r_4.1,e_1.At,p_1.Sent⟩:zA).Sent)) an))))))))))))))))))))) ?_
 refine rt ?_
 cases h
 exact ⟨.inr rfl,Nat.le_of_ble_eq_true rfl,by kernel_rfl⟩
theorem qW (F:Nat) (p_1:zA) (r:(List (zW))×zA) (h:vZ F p_1=some r):zQ prog 17 [] [] [zO p_1] [.row 59 4 (Mp zJ r.1)] (.tuple [.own 0 ((r.1).length),zO r.2]):=by
 refine zV (fn:=Go.Proofs.Try.f17) (code:=yI Go.Proofs.Try.f17) (by kernel_rfl) (by kernel_rfl) (Nat.le_of_ble_eq_true (by kernel_rfl)) ?_
 unfold vZ at h
 refine sr [(0,{ id:=0 }),(1,{ id:=1,m:=1 }),(2,{ id:=2 })] [1,3] [0,2] 3 [Pp 0,Pp 2] [Vb 32 (zK p_1),Vb 32 [Ii 0,.str ([]:List Int),Ii 0,.nilsl,.nilsl,Ii 0,.nilsl,Ii 0,Ii 0,Ii 0,Ii 0,Ii 0,Ii 0]] zG an ?_
 refine sq ?_
 obtain ⟨r_1,h_1,h⟩:=bind_some h
 refine rg [(1,{ av:=.tuple [.own 0 ((r_1.1).length),Ii r_1.2],ids:=[3],l:=[zO p_1],post:=[(.row 45 6 (Mp zF r_1.1))] })] [1,3,4,5] [0,2,3] 4 [Pp 0,Pp 2,.own 3 ((r_1.1).length),Ii r_1.2] [Vb 32 (zK p_1),Vb 32 [Ii 0,.str ([]:List Int),Ii 0,.nilsl,.nilsl,Ii 0,.nilsl,Ii 0,Ii 0,Ii 0,Ii 0,Ii 0,Ii 0],Rb 45 6 (Mp zF r_1.1)] zG (ar ([zO p_1]:List AV) (ac (rfl:([]:List zP)=[]) (ac (nG F p_1 r_1 h_1:zQ prog 34 [] [] [zO p_1] [(.row 45 6 (Mp zF r_1.1))] (.tuple [.own 0 ((r_1.1).length),Ii r_1.2])) an))) ?_
 refine sq ?_
 refine sr [] [1,3,4,16] [0,2,3] 4 [Pp 0,Pp 2,.own 3 ((r_1.1).length),.bool (r_1.2 != (0:Int))] [Vb 32 (zK p_1),Vb 32 [Ii 0,.str ([]:List Int),Ii 0,.nilsl,.nilsl,Ii 0,.nilsl,Ii 0,Ii 0,Ii 0,Ii 0,Ii 0,Ii 0],Rb 45 6 (Mp zF r_1.1)] zG an ?_
 refine cd 16 (r_1.2 != (0:Int)) ?_ ?_
 ·intro g_1;replace h:=zR g_1 h
  refine sr [(1,{ id:=4,m:=1 })] [2,3] [2,4] 5 [.own 4 0,Pp 2] [Vb 32 (zK p_1),Rb 59 4 []] zG an ?_
  refine wk [4,2] [] [.a 2 (.own 0 ((([]:List zW)).length)),.s 3] [.s 0,.s 1] [(2,.own 0 ((([]:List zW)).length)),(3,Pp 1)] [(0,Rb 59 4 []),(1,Vb 32 (zK p_1))] (ac (congrArg (AV.own _) (by first | (simp;done) | (simp;omega)):(.own 4 0:AV)=.own 4 ((([]:List zW)).length)) an) ?_
  refine rt ?_
  cases h
  exact ⟨.inr rfl,Nat.le_of_ble_eq_true rfl,by kernel_rfl⟩
 intro g_1;replace h:=zS g_1 h
 refine sk ?_
 refine sr [(0,{ id:=4,m:=1 })] [1,3,4,6] [0,2,3,4] 5 [Pp 0,Pp 2,.own 3 ((r_1.1).length),.own 4 0] [Vb 32 (zK p_1),Vb 32 [Ii 0,.str ([]:List Int),Ii 0,.nilsl,.nilsl,Ii 0,.nilsl,Ii 0,Ii 0,Ii 0,Ii 0,Ii 0,Ii 0],Rb 45 6 (Mp zF r_1.1),Rb 59 4 []] zG an ?_
 refine sr [] [1,3,4,6,7,8] [0,2,3,4] 5 [Pp 0,Pp 2,.own 3 ((r_1.1).length),.own 4 0,Ii p_1.Ring.First,Ii (zH (p_1.Ring.First - p_1.Sent))] [Vb 32 (zK p_1),Vb 32 [Ii 0,.str ([]:List Int),Ii 0,.nilsl,.nilsl,Ii 0,.nilsl,Ii 0,Ii 0,Ii 0,Ii 0,Ii 0,Ii 0],Rb 45 6 (Mp zF r_1.1),Rb 59 4 []] zG an ?_
 refine sq ?_
 obtain ⟨o_1,h_2,h⟩:=bind_some h
 refine yE (mk [(1,Pp 0),(3,Pp 1),(6,.own 2 ((o_1).length))] [(0,Vb 32 (zK p_1)),(1,Vb 32 [Ii 0,.str ([]:List Int),Ii 0,.nilsl,.nilsl,Ii 0,.nilsl,Ii 0,Ii 0,Ii 0,Ii 0,Ii 0,Ii 0]),(2,Rb 59 4 (Mp zJ o_1))] 3) ?_ ?_
 ·replace h:=h_2
  refine z6 (id:=0) (by kernel_rfl) ?_
  refine wk [0,2,4] [3] [.s 1,.s 3,.a 4 (.sl false 6 (Mp zF r_1.1)),.s 6,.s 7,.s 8] [.s 0,.s 1,.s 2] [(1,Pp 0),(3,Pp 1),(4,.sl false 6 (Mp zF r_1.1)),(6,.own 2 0),(7,Ii p_1.Ring.First),(8,Ii (zH (p_1.Ring.First - p_1.Sent)))] [(0,Vb 32 (zK p_1)),(1,Vb 32 [Ii 0,.str ([]:List Int),Ii 0,.nilsl,.nilsl,Ii 0,.nilsl,Ii 0,Ii 0,Ii 0,Ii 0,Ii 0,Ii 0]),(2,Rb 59 4 [])] (ac (by first | (simp;done) | (simp;omega):(r_1.1).length=((List.map zF r_1.1)).length) (ar 6 (ar ((Mp zF r_1.1):List AV) (ac (rfl:(!false||false)=true) an)))) ?_
  refine wk [0,1,2] [] [.s 1,.s 3,.s 4,.s 6,.s 7,.s 8] [.s 0,.s 1,.s 2] [(1,Pp 0),(3,Pp 1),(4,.sl false 6 (Mp zF r_1.1)),(6,.own 2 0),(7,Ii p_1.Ring.First),(8,Ii (zH (p_1.Ring.First - p_1.Sent)))] [(0,Vb 32 (zK p_1)),(1,Vb 32 [Ii 0,.str ([]:List Int),Ii 0,.nilsl,.nilsl,Ii 0,.nilsl,Ii 0,Ii 0,Ii 0,Ii 0,Ii 0,Ii 0]),(2,Rb 59 4 [])] an ?_
  refine xQ (fun n st=>∃ (l_1:List zE),∃ (serial_1:Int),∃ (lost_1:Int),∃ (row_1:List zW),st=mk [(1,Pp 0),(3,Pp 1),(4,.sl false 6 (Mp zF l_1)),(6,.own 2 ((row_1).length)),(7,Ii serial_1),(8,Ii lost_1)] [(0,Vb 32 (zK p_1)),(1,Vb 32 [Ii 0,.str ([]:List Int),Ii 0,.nilsl,.nilsl,Ii 0,.nilsl,Ii 0,Ii 0,Ii 0,Ii 0,Ii 0,Ii 0]),(2,Rb 59 4 (Mp zJ row_1))] 3∧vG F p_1 n l_1 serial_1 lost_1 row_1=some o_1) F (by kernel_rfl) ⟨_,_,_,_,rfl,h⟩ ?_ ?_
  ·rintro _ ⟨_,_,_,_,_,h⟩;exact wH (h:(none:Option (List zW))=some o_1)
  rintro n_1 _ ⟨l_1,serial_1,lost_1,row_1,rfl,h⟩
  replace h:xY F p_1 (vG F p_1 n_1) l_1 serial_1 lost_1 row_1=some o_1:=h
  unfold xY at h
  refine sq ?_
  refine sr [(1,{ n:=(l_1).length })] [1,3,4,6,7,8,29] [0,1,2] 3 [Pp 0,Pp 1,.sl false 6 (Mp zF l_1),.own 2 ((row_1).length),Ii serial_1,Ii lost_1,.bool (decide ((lN (l_1))>(0:Int)))] [Vb 32 (zK p_1),Vb 32 [Ii 0,.str ([]:List Int),Ii 0,.nilsl,.nilsl,Ii 0,.nilsl,Ii 0,Ii 0,Ii 0,Ii 0,Ii 0,Ii 0],Rb 59 4 (Mp zJ row_1)] zG (ac (z9 _:((Mp zF l_1)).length=(l_1).length) an) ?_
  refine cd 29 (decide ((lN (l_1))>(0:Int))) ?_ ?_
  rotate_left
  ·intro g_2;replace h:=zS g_2 h
   refine xR (id:=0) (by kernel_rfl) ?_
   cases h
   exact ⟨rfl,(sw [0,1,2] [] [.s 1,.s 3,.s 6] [.s 0,.s 1,.s 2] an)⟩
  intro g_2;replace h:=zR g_2 h
  refine sk ?_
  refine z6 (id:=1) (by kernel_rfl) ?_
  refine sr [(1,{ n:=(l_1).length })] [1,3,4,6,7,8,9] [0,1,2] 3 [Pp 0,Pp 1,.sl false 6 (Mp zF l_1),.own 2 ((row_1).length),Ii serial_1,Ii lost_1,Ii (xL (lN (l_1)) (1000:Int))] [Vb 32 (zK p_1),Vb 32 [Ii 0,.str ([]:List Int),Ii 0,.nilsl,.nilsl,Ii 0,.nilsl,Ii 0,Ii 0,Ii 0,Ii 0,Ii 0,Ii 0],Rb 59 4 (Mp zJ row_1)] zG (ac (z9 _:((Mp zF l_1)).length=(l_1).length) an) ?_
  refine sq ?_
  obtain ⟨_,h_3,h⟩:=bind_some h;replace h_3:=yD h_3
  obtain ⟨_,h_4,h⟩:=bind_some h;replace h_4:=yD h_4
  refine rg [(9,{ l:=(Mp zF (sub l_1 (0:Int) (xL (lN (l_1)) (1000:Int)))) }),(11,{ id:=3,lo:=[(43,[0,0,0,6])] }),(12,{ id:=4,l:=(Mp zJ (row_1++([(⟨p_1.Thread.Id,serial_1,lost_1,sub l_1 (0:Int) (xL (lN (l_1)) (1000:Int))⟩:zW)]:List zW))),n:=((row_1++([(⟨p_1.Thread.Id,serial_1,lost_1,sub l_1 (0:Int) (xL (lN (l_1)) (1000:Int))⟩:zW)]:List zW))).length })] [1,3,4,6,7,9] [0,1,4] 5 [Pp 0,Pp 1,.sl false 6 (Mp zF l_1),.own 4 (((row_1++([(⟨p_1.Thread.Id,serial_1,lost_1,sub l_1 (0:Int) (xL (lN (l_1)) (1000:Int))⟩:zW)]:List zW))).length),Ii serial_1,Ii (xL (lN (l_1)) (1000:Int))] [Vb 32 (zK p_1),Vb 32 [Ii 0,.str ([]:List Int),Ii 0,.nilsl,.nilsl,Ii 0,.nilsl,Ii 0,Ii 0,Ii 0,Ii 0,Ii 0,Ii 0],Rb 59 4 (Mp zJ (row_1++([(⟨p_1.Thread.Id,serial_1,lost_1,sub l_1 (0:Int) (xL (lN (l_1)) (1000:Int))⟩:zW)]:List zW)))] zG (ac (by decide:(0:Int)≤(0:Int)) (ac h_3.1 (ac (kK h_3.2:(xL (lN (l_1)) (1000:Int))≤(lN ((Mp zF l_1)))) (ar (xL (lN (l_1)) (1000:Int)) (ac (zEw _ _ _:(Mp zF (sub l_1 (0:Int) (xL (lN (l_1)) (1000:Int))))=(((Mp zF l_1)).take (xL (lN (l_1)) (1000:Int)).toNat).drop ((0:Int)).toNat) (ac (by first | (simp;done) | (simp;omega):(row_1).length=((List.map zJ row_1)).length) (ac (by first | (simp;done) | (simp;omega):1=((List.map zJ ([(⟨p_1.Thread.Id,serial_1,lost_1,sub l_1 (0:Int) (xL (((l_1).length:Nat):Int) (1000:Int))⟩:zW)]:List zW))).length) (ac (zAc _ _:(Mp zJ (row_1++([(⟨p_1.Thread.Id,serial_1,lost_1,sub l_1 (0:Int) (xL (lN (l_1)) (1000:Int))⟩:zW)]:List zW)))=(Mp zJ row_1)++(Mp zJ ([(⟨p_1.Thread.Id,serial_1,lost_1,sub l_1 (0:Int) (xL (lN (l_1)) (1000:Int))⟩:zW)]:List zW))) (ac (by simp:((row_1++([(⟨p_1.Thread.Id,serial_1,lost_1,sub l_1 (0:Int) (xL (((l_1).length:Nat):Int) (1000:Int))⟩:zW)]:List zW))).length=((List.map zJ (row_1++([(⟨p_1.Thread.Id,serial_1,lost_1,sub l_1 (0:Int) (xL (((l_1).length:Nat):Int) (1000:Int))⟩:zW)]:List zW)))).length) (ac (by first | (simp;done) | simpa using h_4:(((List.map zJ row_1):List AV).length+((List.map zJ ([(⟨p_1.Thread.Id,serial_1,lost_1,sub l_1 (0:Int) (xL (((l_1).length:Nat):Int) (1000:Int))⟩:zW)]:List zW)):List AV).length) * 48≤140737488355328) an)))))))))) ?_
  obtain ⟨_,h_5,h⟩:=bind_some h;replace h_5:=yD h_5
  refine rg [(2,{ l:=(Mp zF (sub l_1 (xL (lN (l_1)) (1000:Int)) (lN (l_1)))) })] [1,3,4,6,7,8] [0,1,4] 5 [Pp 0,Pp 1,.sl false 6 (Mp zF (sub l_1 (xL (lN (l_1)) (1000:Int)) (lN (l_1)))),.own 4 (((row_1++([(⟨p_1.Thread.Id,serial_1,lost_1,sub l_1 (0:Int) (xL (lN (l_1)) (1000:Int))⟩:zW)]:List zW))).length),Ii (zH (serial_1+(xL (lN (l_1)) (1000:Int)))),Ii 0] [Vb 32 (zK p_1),Vb 32 [Ii 0,.str ([]:List Int),Ii 0,.nilsl,.nilsl,Ii 0,.nilsl,Ii 0,Ii 0,Ii 0,Ii 0,Ii 0,Ii 0],Rb 59 4 (Mp zJ (row_1++([(⟨p_1.Thread.Id,serial_1,lost_1,sub l_1 (0:Int) (xL (lN (l_1)) (1000:Int))⟩:zW)]:List zW)))] zG (ac h_5.1 (ac (kK h_5.2:(xL (lN (l_1)) (1000:Int))≤(lN ((Mp zF l_1)))) (ac (Int.le_refl _:(lN ((Mp zF l_1)))≤(lN ((Mp zF l_1)))) (ac (zDb _ _:(Mp zF (sub l_1 (xL (lN (l_1)) (1000:Int)) (lN (l_1))))=(((Mp zF l_1)).take ((lN ((Mp zF l_1)))).toNat).drop (xL (lN (l_1)) (1000:Int)).toNat) an)))) ?_
  exact ⟨_,(sw [0,1,4] [] [.s 1,.s 3,.s 4,.s 6,.s 7,.s 8] [.s 0,.s 1,.s 2] an),_,_,_,_,rfl,h⟩
 refine sq ?_
 obtain ⟨r_2,h_6,h⟩:=bind_some h
 refine rg [(2,{ av:=.tuple [.own 0 ((r_2.1).length),z5 r_2.2],ids:=[3],l:=[z5 p_1.Ring],post:=[(.row 28 1 (List.map (fun l=>AV.sl false 1 (l.map (AV.int .u8))) r_2.1))] })] [1,3,6] [0,1,2] 4 [Pp 0,Pp 1,.own 2 ((o_1).length)] [Vb 32 [Ii p_1.Thread.Id,.str p_1.Thread.Name,Ii p_1.Thread.Domain,.sl false 1 (Ms p_1.Names),.sl false 2 (Mp zD p_1.Stacks),Ii r_2.2.Policy,.sl false 1 (Mb r_2.2.Data),Ii r_2.2.Start,Ii r_2.2.End,Ii r_2.2.First,Ii r_2.2.Next,Ii p_1.Last,Ii p_1.Sent],Vb 32 [Ii 0,.str ([]:List Int),Ii 0,.nilsl,.nilsl,Ii 0,.nilsl,Ii 0,Ii 0,Ii 0,Ii 0,Ii 0,Ii 0],Rb 59 4 (Mp zJ o_1)] zG (ar ([z5 p_1.Ring]:List AV) (ac (rfl:([]:List zP)=[]) (ac (zCI F p_1.Ring r_2 h_6:zQ prog 35 [] [] [z5 p_1.Ring] [(.row 28 1 (List.map (fun l=>AV.sl false 1 (l.map (AV.int .u8))) r_2.1))] (.tuple [.own 0 ((r_2.1).length),z5 r_2.2])) an))) ?_
 refine sr [] [1,3,6] [0,1,2] 4 [Pp 0,Pp 1,.own 2 ((o_1).length)] [Vb 32 [Ii p_1.Thread.Id,.str p_1.Thread.Name,Ii p_1.Thread.Domain,.sl false 1 (Ms p_1.Names),.sl false 2 (Mp zD p_1.Stacks),Ii r_2.2.Policy,.sl false 1 (Mb r_2.2.Data),Ii r_2.2.Start,Ii r_2.2.End,Ii r_2.2.First,Ii r_2.2.Next,Ii p_1.Last,Ii r_2.2.Next],Vb 32 [Ii 0,.str ([]:List Int),Ii 0,.nilsl,.nilsl,Ii 0,.nilsl,Ii 0,Ii 0,Ii 0,Ii 0,Ii 0,Ii 0],Rb 59 4 (Mp zJ o_1)] zG an ?_
 refine sr [] [2,3] [1,2] 4 [.own 2 ((o_1).length),Pp 1] [Vb 32 [Ii p_1.Thread.Id,.str p_1.Thread.Name,Ii p_1.Thread.Domain,.sl false 1 (Ms p_1.Names),.sl false 2 (Mp zD p_1.Stacks),Ii r_2.2.Policy,.sl false 1 (Mb r_2.2.Data),Ii r_2.2.Start,Ii r_2.2.End,Ii r_2.2.First,Ii r_2.2.Next,Ii p_1.Last,Ii r_2.2.Next],Rb 59 4 (Mp zJ o_1)] zG an ?_
 refine wk [2,1] [] [.s 2,.s 3] [.s 0,.a 1 (Vb 32 [Ii (((⟨p_1.Thread,p_1.Names,p_1.Stacks,r_2.2,p_1.Last,r_2.2.Next⟩:zA).Thread).Id),.str (((⟨p_1.Thread,p_1.Names,p_1.Stacks,r_2.2,p_1.Last,r_2.2.Next⟩:zA).Thread).Name),Ii (((⟨p_1.Thread,p_1.Names,p_1.Stacks,r_2.2,p_1.Last,r_2.2.Next⟩:zA).Thread).Domain),.sl false 1 (Ms ((⟨p_1.Thread,p_1.Names,p_1.Stacks,r_2.2,p_1.Last,r_2.2.Next⟩:zA).Names)),.sl false 2 (Mp zD ((⟨p_1.Thread,p_1.Names,p_1.Stacks,r_2.2,p_1.Last,r_2.2.Next⟩:zA).Stacks)),Ii (((⟨p_1.Thread,p_1.Names,p_1.Stacks,r_2.2,p_1.Last,r_2.2.Next⟩:zA).Ring).Policy),.sl false 1 (Mb (((⟨p_1.Thread,p_1.Names,p_1.Stacks,r_2.2,p_1.Last,r_2.2.Next⟩:zA).Ring).Data)),Ii (((⟨p_1.Thread,p_1.Names,p_1.Stacks,r_2.2,p_1.Last,r_2.2.Next⟩:zA).Ring).Start),Ii (((⟨p_1.Thread,p_1.Names,p_1.Stacks,r_2.2,p_1.Last,r_2.2.Next⟩:zA).Ring).End),Ii (((⟨p_1.Thread,p_1.Names,p_1.Stacks,r_2.2,p_1.Last,r_2.2.Next⟩:zA).Ring).First),Ii (((⟨p_1.Thread,p_1.Names,p_1.Stacks,r_2.2,p_1.Last,r_2.2.Next⟩:zA).Ring).Next),Ii ((⟨p_1.Thread,p_1.Names,p_1.Stacks,r_2.2,p_1.Last,r_2.2.Next⟩:zA).Last),Ii ((⟨p_1.Thread,p_1.Names,p_1.Stacks,r_2.2,p_1.Last,r_2.2.Next⟩:zA).Sent)])] [(2,.own 0 ((o_1).length)),(3,Pp 1)] [(0,Rb 59 4 (Mp zJ o_1)),(1,Vb 32 [Ii (((⟨p_1.Thread,p_1.Names,p_1.Stacks,r_2.2,p_1.Last,r_2.2.Next⟩:zA).Thread).Id),.str (((⟨p_1.Thread,p_1.Names,p_1.Stacks,r_2.2,p_1.Last,r_2.2.Next⟩:zA).Thread).Name),Ii (((⟨p_1.Thread,p_1.Names,p_1.Stacks,r_2.2,p_1.Last,r_2.2.Next⟩:zA).Thread).Domain),.sl false 1 (Ms ((⟨p_1.Thread,p_1.Names,p_1.Stacks,r_2.2,p_1.Last,r_2.2.Next⟩:zA).Names)),.sl false 2 (Mp zD ((⟨p_1.Thread,p_1.Names,p_1.Stacks,r_2.2,p_1.Last,r_2.2.Next⟩:zA).Stacks)),Ii (((⟨p_1.Thread,p_1.Names,p_1.Stacks,r_2.2,p_1.Last,r_2.2.Next⟩:zA).Ring).Policy),.sl false 1 (Mb (((⟨p_1.Thread,p_1.Names,p_1.Stacks,r_2.2,p_1.Last,r_2.2.Next⟩:zA).Ring).Data)),Ii (((⟨p_1.Thread,p_1.Names,p_1.Stacks,r_2.2,p_1.Last,r_2.2.Next⟩:zA).Ring).Start),Ii (((⟨p_1.Thread,p_1.Names,p_1.Stacks,r_2.2,p_1.Last,r_2.2.Next⟩:zA).Ring).End),Ii (((⟨p_1.Thread,p_1.Names,p_1.Stacks,r_2.2,p_1.Last,r_2.2.Next⟩:zA).Ring).First),Ii (((⟨p_1.Thread,p_1.Names,p_1.Stacks,r_2.2,p_1.Last,r_2.2.Next⟩:zA).Ring).Next),Ii ((⟨p_1.Thread,p_1.Names,p_1.Stacks,r_2.2,p_1.Last,r_2.2.Next⟩:zA).Last),Ii ((⟨p_1.Thread,p_1.Names,p_1.Stacks,r_2.2,p_1.Last,r_2.2.Next⟩:zA).Sent)])] (ar 32 (ac (rfl:wJ [Ii (((⟨p_1.Thread,p_1.Names,p_1.Stacks,r_2.2,p_1.Last,r_2.2.Next⟩:zA).Thread).Id),.str (((⟨p_1.Thread,p_1.Names,p_1.Stacks,r_2.2,p_1.Last,r_2.2.Next⟩:zA).Thread).Name),Ii (((⟨p_1.Thread,p_1.Names,p_1.Stacks,r_2.2,p_1.Last,r_2.2.Next⟩:zA).Thread).Domain),.sl false 1 (Ms ((⟨p_1.Thread,p_1.Names,p_1.Stacks,r_2.2,p_1.Last,r_2.2.Next⟩:zA).Names)),.sl false 2 (Mp zD ((⟨p_1.Thread,p_1.Names,p_1.Stacks,r_2.2,p_1.Last,r_2.2.Next⟩:zA).Stacks)),Ii (((⟨p_1.Thread,p_1.Names,p_1.Stacks,r_2.2,p_1.Last,r_2.2.Next⟩:zA).Ring).Policy),.sl false 1 (Mb (((⟨p_1.Thread,p_1.Names,p_1.Stacks,r_2.2,p_1.Last,r_2.2.Next⟩:zA).Ring).Data)),Ii (((⟨p_1.Thread,p_1.Names,p_1.Stacks,r_2.2,p_1.Last,r_2.2.Next⟩:zA).Ring).Start),Ii (((⟨p_1.Thread,p_1.Names,p_1.Stacks,r_2.2,p_1.Last,r_2.2.Next⟩:zA).Ring).End),Ii (((⟨p_1.Thread,p_1.Names,p_1.Stacks,r_2.2,p_1.Last,r_2.2.Next⟩:zA).Ring).First),Ii (((⟨p_1.Thread,p_1.Names,p_1.Stacks,r_2.2,p_1.Last,r_2.2.Next⟩:zA).Ring).Next),Ii ((⟨p_1.Thread,p_1.Names,p_1.Stacks,r_2.2,p_1.Last,r_2.2.Next⟩:zA).Last),Ii ((⟨p_1.Thread,p_1.Names,p_1.Stacks,r_2.2,p_1.Last,r_2.2.Next⟩:zA).Sent)]=true) (ac (rfl:(Ii p_1.Thread.Id:AV)=Ii (((⟨p_1.Thread,p_1.Names,p_1.Stacks,r_2.2,p_1.Last,r_2.2.Next⟩:zA).Thread).Id)) (ac (rfl:(.str p_1.Thread.Name:AV)=.str (((⟨p_1.Thread,p_1.Names,p_1.Stacks,r_2.2,p_1.Last,r_2.2.Next⟩:zA).Thread).Name)) (ac (rfl:(Ii p_1.Thread.Domain:AV)=Ii (((⟨p_1.Thread,p_1.Names,p_1.Stacks,r_2.2,p_1.Last,r_2.2.Next⟩:zA).Thread).Domain)) (ar 1 (ac (rfl:((Ms p_1.Names):List AV)=(Ms ((⟨p_1.Thread,p_1.Names,p_1.Stacks,r_2.2,p_1.Last,r_2.2.Next⟩:zA).Names))) (ac (rfl:(!false||false)=true) (ar 2 (ac (rfl:((Mp zD p_1.Stacks):List AV)=(Mp zD ((⟨p_1.Thread,p_1.Names,p_1.Stacks,r_2.2,p_1.Last,r_2.2.Next⟩:zA).Stacks))) (ac (rfl:(!false||false)=true) (ac (rfl:(Ii r_2.2.Policy:AV)=Ii (((⟨p_1.Thread,p_1.Names,p_1.Stacks,r_2.2,p_1.Last,r_2.2.Next⟩:zA).Ring).Policy)) (ar 1 (ac (rfl:((Mb r_2.2.Data):List AV)=(Mb (((⟨p_1.Thread,p_1.Names,p_1.Stacks,r_2.2,p_1.Last,r_2.2.Next⟩:zA).Ring).Data))) (ac (rfl:(!false||false)=true) (ac (rfl:(Ii r_2.2.Start:AV)=Ii (((⟨p_1.Thread,p_1.Names,p_1.Stacks,r_2.2,p_1.Last,r_2.2.Next⟩:zA).Ring).Start)) (ac (rfl:(Ii r_2.2.End:AV)=Ii (((⟨p_1.Thread,p_1.Names,p_1.Stacks,r_2.2,p_1.Last,r_2.2.Next⟩:zA).Ring).End)) (ac (rfl:(Ii r_2.2.First:AV)=Ii (((⟨p_1.Thread,p_1.Names,p_1.Stacks,r_2.2,p_1.Last,r_2.2.Next⟩:zA).Ring).First)) (ac (rfl:(Ii r_2.2.Next:AV)=Ii (((⟨p_1.Thread,p_1.Names,p_1.Stacks,r_2.2,p_1.Last,r_2.2.Next⟩:zA).Ring).Next)) (ac (rfl:(Ii p_1.Last:AV)=Ii ((⟨p_1.Thread,p_1.Names,p_1.Stacks,r_2.2,p_1.Last,r_2.2.Next⟩:zA).Last)) (ac (rfl:(Ii r_2.2.Next:AV)=Ii ((⟨p_1.Thread,p_1.Names,p_1.Stacks,r_2.2,p_1.Last,r_2.2.Next⟩:zA).Sent)) an))))))))))))))))))))) ?_
 refine rt ?_
 cases h
 exact ⟨.inr rfl,Nat.le_of_ble_eq_true rfl,by kernel_rfl⟩
theorem x3 (F:Nat) (p_1:zA) (r:Int) (h:tH F p_1=some r):zQ prog 15 [] [] [zO p_1] [] (Ii r):=by
 refine zV (fn:=Go.Proofs.Try.f15) (code:=yI Go.Proofs.Try.f15) (by kernel_rfl) (by kernel_rfl) (Nat.le_of_ble_eq_true (by kernel_rfl)) ?_
 unfold tH at h
 refine sr [(0,{ id:=0 })] [1] [0] 1 [Pp 0] [Vb 32 (zK p_1)] zG an ?_
 refine sq ?_
 refine sq ?_
 obtain ⟨r_1,h_1,h⟩:=bind_some h
 refine rg [(1,{ av:=Ii r_1,l:=[zO p_1] })] [1,5] [0] 1 [Pp 0,.bool (r_1 != (0:Int))] [Vb 32 (zK p_1)] zG (ar ([zO p_1]:List AV) (ac (rfl:([]:List zP)=[]) (ac (zAA F p_1 r_1 h_1:zQ prog 14 [] [] [zO p_1] [] (Ii r_1)) an))) ?_
 refine cd 5 (r_1 != (0:Int)) ?_ ?_
 ·intro g_1;replace h:=zR g_1 h
  refine sr [] [2] [] 1 [Ii 0] [] zG an ?_
  refine rt ?_
  cases h
  exact ⟨.inr rfl,Nat.le_of_ble_eq_true rfl,by kernel_rfl⟩
 intro g_1;replace h:=zS g_1 h
 refine sk ?_
 refine sr [] [2] [] 1 [Ii (zH (p_1.Ring.First - p_1.Sent))] [] zG an ?_
 refine rt ?_
 cases h
 exact ⟨.inr rfl,Nat.le_of_ble_eq_true rfl,by kernel_rfl⟩
end Go.Ab
