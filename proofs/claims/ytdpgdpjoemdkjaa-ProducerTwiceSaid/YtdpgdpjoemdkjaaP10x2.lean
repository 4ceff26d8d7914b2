/- Printed: the typed Lean functions of the Go functions, or the proofs that the Go functions meet them. No conditions but those that the theorems name. -/
import Derived.Test.YtdpgdpjoemdkjaaP10x1
namespace Go.Ab
open Go
set_option linter.unusedVariables false
theorem zFB (F:Nat) (zI:List (List Int)) (zH:List (zJ)) (b_1:List (Int)) (r:zE×Int×Int) (h:nK F zI zH b_1=some r):zS prog 79 [] [] [.sl false 1 (Ms zI),.sl false 2 (Mp zD zH),.sl false 1 (Mb b_1)] [] (.tuple [zN r.1,Ii r.2.1,Ii r.2.2]):=by
 refine yD (fn:=Go.Proofs.Try.f79) (code:=y5 Go.Proofs.Try.f79) (by kernel_rfl) (by kernel_rfl) (Nat.le_of_ble_eq_true (by kernel_rfl)) ?_
 unfold nK at h
 refine sr [(0,{ id:=0 })] [0,1,2,6] [0] 1 [.sl false 1 (Ms zI),.sl false 2 (Mp zD zH),.sl false 1 (Mb b_1),Pp 0] [Vb 45 [Ii 0,Ii 0,.str ([]:List Int),Ii 0,Ii 0,.nilsl]] zF an ?_
 refine sq ?_
 refine sq ?_
 obtain ⟨r_1,h_1,h⟩:=bind_some h
 refine rg [(2,{ av:=Ii r_1,l:=[.sl false 1 (Ms zI),.sl false 2 (Mp zD zH)] })] [0,1,2,6,21] [0] 1 [.sl false 1 (Ms zI),.sl false 2 (Mp zD zH),.sl false 1 (Mb b_1),Pp 0,.bool (r_1 != (0:Int))] [Vb 45 [Ii 0,Ii 0,.str ([]:List Int),Ii 0,Ii 0,.nilsl]] zF (ar ([.sl false 1 (Ms zI),.sl false 2 (Mp zD zH)]:List AV) (ac (rfl:([]:List zU)=[]) (ac (nW F zI zH r_1 h_1:zS prog 50 [] [] [.sl false 1 (Ms zI),.sl false 2 (Mp zD zH)] [] (Ii r_1)) an))) ?_
 refine cd 21 (r_1 != (0:Int)) ?_ ?_
 ·intro g_1;replace h:=zV g_1 h
  refine sr [] [6,7,8] [0] 1 [Pp 0,Ii 0,Ii 1] [Vb 45 [Ii 0,Ii 0,.str ([]:List Int),Ii 0,Ii 0,.nilsl]] zF an ?_
  refine wk [0] [] [.s 6,.s 7,.s 8] [.a 0 (Vb 45 (zT (⟨(0:Int),(0:Int),([]:List Int),(0:Int),(0:Int),[]⟩:zE)))] [(6,Pp 0),(7,Ii 0),(8,Ii 1)] [(0,Vb 45 (zT (⟨(0:Int),(0:Int),([]:List Int),(0:Int),(0:Int),[]⟩:zE)))] (ar 45 (ac (rfl:vI [Ii ((⟨(0:Int),(0:Int),([]:List Int),(0:Int),(0:Int),[]⟩:zE).At),Ii ((⟨(0:Int),(0:Int),([]:List Int),(0:Int),(0:Int),[]⟩:zE).Kind),.str ((⟨(0:Int),(0:Int),([]:List Int),(0:Int),(0:Int),[]⟩:zE).Name),Ii ((⟨(0:Int),(0:Int),([]:List Int),(0:Int),(0:Int),[]⟩:zE).N),Ii ((⟨(0:Int),(0:Int),([]:List Int),(0:Int),(0:Int),[]⟩:zE).M),.sl false 1 (Ms ((⟨(0:Int),(0:Int),([]:List Int),(0:Int),(0:Int),[]⟩:zE).Stack))]=true) (ac (rfl:(Ii 0:AV)=Ii ((⟨(0:Int),(0:Int),([]:List Int),(0:Int),(0:Int),[]⟩:zE).At)) (ac (rfl:(Ii 0:AV)=Ii ((⟨(0:Int),(0:Int),([]:List Int),(0:Int),(0:Int),[]⟩:zE).Kind)) (ac (rfl:(.str ([]:List Int):AV)=.str ((⟨(0:Int),(0:Int),([]:List Int),(0:Int),(0:Int),[]⟩:zE).Name)) (ac (rfl:(Ii 0:AV)=Ii ((⟨(0:Int),(0:Int),([]:List Int),(0:Int),(0:Int),[]⟩:zE).N)) (ac (rfl:(Ii 0:AV)=Ii ((⟨(0:Int),(0:Int),([]:List Int),(0:Int),(0:Int),[]⟩:zE).M)) (ac (rfl:((Ms ((⟨(0:Int),(0:Int),([]:List Int),(0:Int),(0:Int),[]⟩:zE).Stack)):List AV)=[]) an)))))))) ?_
  refine rt ?_
  cases h
  exact ⟨.inr rfl,Nat.le_of_ble_eq_true rfl,by kernel_rfl⟩
 intro g_1;replace h:=zW g_1 h
 refine sk ?_
 refine sr [(2,{ id:=1 })] [0,1,6,9] [0,1] 2 [.sl false 1 (Ms zI),.sl false 2 (Mp zD zH),Pp 0,Pp 1] [Vb 45 [Ii 0,Ii 0,.str ([]:List Int),Ii 0,Ii 0,.nilsl],Vb 136 [.sl false 1 (Mb b_1),Ii 0,Ii 0]] zF an ?_
 refine sq ?_
 obtain ⟨r_2,h_2,h⟩:=bind_some h
 refine rg [(1,{ av:=Ii r_2.1,ids:=[1],l:=[Pp 0],post:=[(.var 136 (yL r_2.2))],pre:=[(.var 136 [.sl false 1 (Mb b_1),Ii 0,Ii 0])] })] [0,1,6,9,10] [0,1] 2 [.sl false 1 (Ms zI),.sl false 2 (Mp zD zH),Pp 0,Pp 1,Ii r_2.1] [Vb 45 [Ii 0,Ii 0,.str ([]:List Int),Ii 0,Ii 0,.nilsl],Vb 136 (yL r_2.2)] zF (ar ([Pp 1]:List AV) (ac (rfl:([Vb 136 [.sl false 1 (Mb b_1),Ii 0,Ii 0]]:List zU)=[Vb 136 [.sl false 1 (Mb b_1),Ii 0,Ii 0]]) (ac (uY F (⟨b_1,(0:Int),(0:Int)⟩:yY) r_2 h_2:zS prog 97 [(.var 136 [.sl false 1 (Mb b_1),Ii 0,Ii 0])] [] [Pp 0] [(.var 136 (yL r_2.2))] (Ii r_2.1)) an))) ?_
 refine sq ?_
 obtain ⟨r_3,h_3,h⟩:=bind_some h
 refine rg [(2,{ av:=Ii r_3.1,ids:=[1],l:=[Pp 0],post:=[(.var 136 (yL r_3.2))],pre:=[(.var 136 (yL r_2.2))] }),(4,{ id:=2 })] [0,1,6,9,10,11] [0,1,2] 3 [.sl false 1 (Ms zI),.sl false 2 (Mp zD zH),Pp 0,Pp 1,Ii r_2.1,Pp 2] [Vb 45 [Ii 0,Ii 0,.str ([]:List Int),Ii 0,Ii 0,.nilsl],Vb 136 (yL r_3.2),Vb 45 [Ii r_3.1,Ii r_2.1,.str ([]:List Int),Ii 0,Ii 0,.nilsl]] zF (ar ([Pp 1]:List AV) (ac (rfl:([Vb 136 (yL r_2.2)]:List zU)=[Vb 136 (yL r_2.2)]) (ac (uY F r_2.2 r_3 h_3:zS prog 97 [(.var 136 (yL r_2.2))] [] [Pp 0] [(.var 136 (yL r_3.2))] (Ii r_3.1)) an))) ?_
 refine sq ?_
 refine sq ?_
 refine yV (mk [(0,.sl false 1 (Ms zI)),(1,.sl false 2 (Mp zD zH)),(6,Pp 0),(9,Pp 1),(11,Pp 2),(44,.bool ((r_3.2.fault==(0:Int))&&(decide (r_2.1<(1:Int))||decide (r_2.1>(12:Int)))))] [(0,Vb 45 [Ii 0,Ii 0,.str ([]:List Int),Ii 0,Ii 0,.nilsl]),(1,Vb 136 (yL r_3.2)),(2,Vb 45 [Ii r_3.1,Ii r_2.1,.str ([]:List Int),Ii 0,Ii 0,.nilsl])] 3) ?_ ?_
 ·rcases bft (r_3.2.fault==(0:Int)) with zX | zX
  ·rcases bft (decide (r_2.1<(1:Int))) with zQ | zQ
   ·refine rg [(9,Hg),(10,Hg),(11,Ht),(12,Ht)] [0,1,6,9,11,44] [0,1,2] 3 [.sl false 1 (Ms zI),.sl false 2 (Mp zD zH),Pp 0,Pp 1,Pp 2,.bool true] [Vb 45 [Ii 0,Ii 0,.str ([]:List Int),Ii 0,Ii 0,.nilsl],Vb 136 (yL r_3.2),Vb 45 [Ii r_3.1,Ii r_2.1,.str ([]:List Int),Ii 0,Ii 0,.nilsl]] zF (ac zX (ac zX (ac zX (ac zQ (ac zQ (ac zX (ac zQ (ac zX an)))))))) ?_
    exact ⟨rfl,(sw [0,1,2] [] [.s 0,.s 1,.s 6,.s 9,.s 11,.a 44 (.bool ((r_3.2.fault==(0:Int))&&(decide (r_2.1<(1:Int))||decide (r_2.1>(12:Int)))))] [.s 0,.s 1,.s 2] (ac (congrArg AV.bool (qS zX (ort zQ)):(.bool true:AV)=.bool ((r_3.2.fault==(0:Int))&&(decide (r_2.1<(1:Int))||decide (r_2.1>(12:Int))))) an))⟩
   ·refine rg [(11,Hf),(12,Ht)] [0,1,6,9,11,44] [0,1,2] 3 [.sl false 1 (Ms zI),.sl false 2 (Mp zD zH),Pp 0,Pp 1,Pp 2,.bool (decide (r_2.1>(12:Int)))] [Vb 45 [Ii 0,Ii 0,.str ([]:List Int),Ii 0,Ii 0,.nilsl],Vb 136 (yL r_3.2),Vb 45 [Ii r_3.1,Ii r_2.1,.str ([]:List Int),Ii 0,Ii 0,.nilsl]] zF (ac zX (ac zX (ac zX (ac zQ (ac zQ (ac zX (ac zQ (ac zX an)))))))) ?_
    exact ⟨rfl,(sw [0,1,2] [] [.s 0,.s 1,.s 6,.s 9,.s 11,.a 44 (.bool ((r_3.2.fault==(0:Int))&&(decide (r_2.1<(1:Int))||decide (r_2.1>(12:Int)))))] [.s 0,.s 1,.s 2] (ac (congrArg AV.bool (qS zX (orf zQ rfl)):(.bool (decide (r_2.1>(12:Int))):AV)=.bool ((r_3.2.fault==(0:Int))&&(decide (r_2.1<(1:Int))||decide (r_2.1>(12:Int))))) an))⟩
  ·refine rg [(6,Hg),(7,Hg),(8,Hg),(11,Hg),(12,Hf)] [0,1,6,9,11,44] [0,1,2] 3 [.sl false 1 (Ms zI),.sl false 2 (Mp zD zH),Pp 0,Pp 1,Pp 2,.bool false] [Vb 45 [Ii 0,Ii 0,.str ([]:List Int),Ii 0,Ii 0,.nilsl],Vb 136 (yL r_3.2),Vb 45 [Ii r_3.1,Ii r_2.1,.str ([]:List Int),Ii 0,Ii 0,.nilsl]] zF (ac zX (ac zX (ac zX (ac zX (ac zX an))))) ?_
   exact ⟨rfl,(sw [0,1,2] [] [.s 0,.s 1,.s 6,.s 9,.s 11,.a 44 (.bool ((r_3.2.fault==(0:Int))&&(decide (r_2.1<(1:Int))||decide (r_2.1>(12:Int)))))] [.s 0,.s 1,.s 2] (ac (congrArg AV.bool (n8 zX):(.bool false:AV)=.bool ((r_3.2.fault==(0:Int))&&(decide (r_2.1<(1:Int))||decide (r_2.1>(12:Int))))) an))⟩
 obtain ⟨o_1,h_4,h⟩:=bind_some h
 refine yV (mk [(0,.sl false 1 (Ms zI)),(1,.sl false 2 (Mp zD zH)),(6,Pp 0),(9,Pp 1),(11,Pp 2)] [(0,Vb 45 [Ii 0,Ii 0,.str ([]:List Int),Ii 0,Ii 0,.nilsl]),(1,Vb 136 [.sl false 1 (Mb r_3.2.b),Ii r_3.2.used,Ii o_1]),(2,Vb 45 [Ii r_3.1,Ii r_2.1,.str ([]:List Int),Ii 0,Ii 0,.nilsl])] 3) ?_ ?_
 ·replace h:=h_4
  refine cd 44 ((r_3.2.fault==(0:Int))&&(decide (r_2.1<(1:Int))||decide (r_2.1>(12:Int)))) ?_ ?_
  ·intro g_2;replace h:=zV g_2 h
   refine rg [] [0,1,6,9,11] [0,1,2] 3 [.sl false 1 (Ms zI),.sl false 2 (Mp zD zH),Pp 0,Pp 1,Pp 2] [Vb 45 [Ii 0,Ii 0,.str ([]:List Int),Ii 0,Ii 0,.nilsl],Vb 136 [.sl false 1 (Mb r_3.2.b),Ii r_3.2.used,Ii 10],Vb 45 [Ii r_3.1,Ii r_2.1,.str ([]:List Int),Ii 0,Ii 0,.nilsl]] zF an ?_
   cases h
   exact ⟨rfl,(sw [0,1,2] [] [.s 0,.s 1,.s 6,.s 9,.s 11] [.s 0,.s 1,.s 2] an)⟩
  intro g_2;replace h:=zW g_2 h
  refine sk ?_
  cases h
  exact ⟨rfl,(sw [0,1,2] [] [.s 0,.s 1,.s 6,.s 9,.s 11] [.s 0,.s 1,.s 2] an)⟩
 refine sq ?_
 obtain ⟨r_4,h_5,h⟩:=bind_some h
 refine rg [(2,{ av:=.tuple [.bool r_4.1,.bool r_4.2.1,.bool r_4.2.2.1,.bool r_4.2.2.2],l:=[Ii r_2.1] })] [0,1,6,9,11,12,13,14,15] [0,1,2] 3 [.sl false 1 (Ms zI),.sl false 2 (Mp zD zH),Pp 0,Pp 1,Pp 2,.bool r_4.1,.bool r_4.2.1,.bool r_4.2.2.1,.bool r_4.2.2.2] [Vb 45 [Ii 0,Ii 0,.str ([]:List Int),Ii 0,Ii 0,.nilsl],Vb 136 [.sl false 1 (Mb r_3.2.b),Ii r_3.2.used,Ii o_1],Vb 45 [Ii r_3.1,Ii r_2.1,.str ([]:List Int),Ii 0,Ii 0,.nilsl]] zF (ar ([Ii r_2.1]:List AV) (ac (rfl:([]:List zU)=[]) (ac (zDq r_2.1 r_4 h_5:zS prog 58 [] [] [Ii r_2.1] [] (.tuple [.bool r_4.1,.bool r_4.2.1,.bool r_4.2.2.1,.bool r_4.2.2.2])) an))) ?_
 refine sr [] [0,1,6,9,11,12,13,14,15,16,17] [0,1,2] 3 [.sl false 1 (Ms zI),.sl false 2 (Mp zD zH),Pp 0,Pp 1,Pp 2,.bool r_4.1,.bool r_4.2.1,.bool r_4.2.2.1,.bool r_4.2.2.2,Ii 0,Ii (-1)] [Vb 45 [Ii 0,Ii 0,.str ([]:List Int),Ii 0,Ii 0,.nilsl],Vb 136 [.sl false 1 (Mb r_3.2.b),Ii r_3.2.used,Ii o_1],Vb 45 [Ii r_3.1,Ii r_2.1,.str ([]:List Int),Ii 0,Ii 0,.nilsl]] zF an ?_
 refine sq ?_
 refine sr [] [0,1,6,9,11,12,13,14,15,16,17,56] [0,1,2] 3 [.sl false 1 (Ms zI),.sl false 2 (Mp zD zH),Pp 0,Pp 1,Pp 2,.bool r_4.1,.bool r_4.2.1,.bool r_4.2.2.1,.bool r_4.2.2.2,Ii 0,Ii (-1),.bool r_4.1] [Vb 45 [Ii 0,Ii 0,.str ([]:List Int),Ii 0,Ii 0,.nilsl],Vb 136 [.sl false 1 (Mb r_3.2.b),Ii r_3.2.used,Ii o_1],Vb 45 [Ii r_3.1,Ii r_2.1,.str ([]:List Int),Ii 0,Ii 0,.nilsl]] zF an ?_
 obtain ⟨o_2,h_6,h⟩:=bind_some h
 refine yV (mk [(0,.sl false 1 (Ms zI)),(1,.sl false 2 (Mp zD zH)),(6,Pp 0),(9,Pp 1),(11,Pp 2),(12,.bool r_4.1),(13,.bool r_4.2.1),(14,.bool r_4.2.2.1),(15,.bool r_4.2.2.2),(16,Ii o_2.1),(17,Ii (-1))] [(0,Vb 45 [Ii 0,Ii 0,.str ([]:List Int),Ii 0,Ii 0,.nilsl]),(1,Vb 136 [.sl false 1 (Mb o_2.2.1),Ii o_2.2.2.1,Ii o_2.2.2.2]),(2,Vb 45 [Ii r_3.1,Ii r_2.1,.str ([]:List Int),Ii 0,Ii 0,.nilsl])] 3) ?_ ?_
 ·replace h:=h_6
  refine cd 56 r_4.1 ?_ ?_
  rotate_left
  ·intro g_3;replace h:=zW g_3 h
   refine sk ?_
   cases h
   exact ⟨rfl,(sw [0,1,2] [] [.s 0,.s 1,.s 6,.s 9,.s 11,.s 12,.s 13,.s 14,.s 15,.s 16,.s 17] [.s 0,.s 1,.s 2] an)⟩
  intro g_3;replace h:=zV g_3 h
  obtain ⟨r_5,h_7,h⟩:=bind_some h
  refine rg [(1,{ av:=Ii r_5.1,ids:=[1],l:=[Pp 0],post:=[(.var 136 (yL r_5.2))],pre:=[(.var 136 [.sl false 1 (Mb r_3.2.b),Ii r_3.2.used,Ii o_1])] })] [0,1,6,9,11,12,13,14,15,16,17] [0,1,2] 3 [.sl false 1 (Ms zI),.sl false 2 (Mp zD zH),Pp 0,Pp 1,Pp 2,.bool r_4.1,.bool r_4.2.1,.bool r_4.2.2.1,.bool r_4.2.2.2,Ii r_5.1,Ii (-1)] [Vb 45 [Ii 0,Ii 0,.str ([]:List Int),Ii 0,Ii 0,.nilsl],Vb 136 (yL r_5.2),Vb 45 [Ii r_3.1,Ii r_2.1,.str ([]:List Int),Ii 0,Ii 0,.nilsl]] zF (ar ([Pp 1]:List AV) (ac (rfl:([Vb 136 [.sl false 1 (Mb r_3.2.b),Ii r_3.2.used,Ii o_1]]:List zU)=[Vb 136 [.sl false 1 (Mb r_3.2.b),Ii r_3.2.used,Ii o_1]]) (ac (uY F (⟨r_3.2.b,r_3.2.used,o_1⟩:yY) r_5 h_7:zS prog 97 [(.var 136 [.sl false 1 (Mb r_3.2.b),Ii r_3.2.used,Ii o_1])] [] [Pp 0] [(.var 136 (yL r_5.2))] (Ii r_5.1)) an))) ?_
  cases h
  exact ⟨rfl,(sw [0,1,2] [] [.s 0,.s 1,.s 6,.s 9,.s 11,.s 12,.s 13,.s 14,.s 15,.s 16,.s 17] [.s 0,.s 1,.s 2] an)⟩
 refine sq ?_
 refine sr [] [0,1,6,9,11,12,14,15,16,17,59] [0,1,2] 3 [.sl false 1 (Ms zI),.sl false 2 (Mp zD zH),Pp 0,Pp 1,Pp 2,.bool r_4.1,.bool r_4.2.2.1,.bool r_4.2.2.2,Ii o_2.1,Ii (-1),.bool r_4.2.1] [Vb 45 [Ii 0,Ii 0,.str ([]:List Int),Ii 0,Ii 0,.nilsl],Vb 136 [.sl false 1 (Mb o_2.2.1),Ii o_2.2.2.1,Ii o_2.2.2.2],Vb 45 [Ii r_3.1,Ii r_2.1,.str ([]:List Int),Ii 0,Ii 0,.nilsl]] zF an ?_
 obtain ⟨o_3,h_8,h⟩:=bind_some h
 refine yV (mk [(0,.sl false 1 (Ms zI)),(1,.sl false 2 (Mp zD zH)),(6,Pp 0),(9,Pp 1),(11,Pp 2),(12,.bool r_4.1),(14,.bool r_4.2.2.1),(15,.bool r_4.2.2.2),(16,Ii o_2.1),(17,Ii (-1))] [(0,Vb 45 [Ii 0,Ii 0,.str ([]:List Int),Ii 0,Ii 0,.nilsl]),(1,Vb 136 [.sl false 1 (Mb o_3.1),Ii o_3.2.1,Ii o_3.2.2.1]),(2,Vb 45 [Ii r_3.1,Ii r_2.1,.str ([]:List Int),Ii o_3.2.2.2,Ii 0,.nilsl])] 3) ?_ ?_
 ·replace h:=h_8
  refine cd 59 r_4.2.1 ?_ ?_
  rotate_left
  ·intro g_4;replace h:=zW g_4 h
   refine sk ?_
   cases h
   exact ⟨rfl,(sw [0,1,2] [] [.s 0,.s 1,.s 6,.s 9,.s 11,.s 12,.s 14,.s 15,.s 16,.s 17] [.s 0,.s 1,.s 2] an)⟩
  intro g_4;replace h:=zV g_4 h
  obtain ⟨r_6,h_9,h⟩:=bind_some h
  refine rg [(1,{ av:=Ii r_6.1,ids:=[1],l:=[Pp 0],post:=[(.var 136 (yL r_6.2))],pre:=[(.var 136 [.sl false 1 (Mb o_2.2.1),Ii o_2.2.2.1,Ii o_2.2.2.2])] })] [0,1,6,9,11,12,14,15,16,17] [0,1,2] 3 [.sl false 1 (Ms zI),.sl false 2 (Mp zD zH),Pp 0,Pp 1,Pp 2,.bool r_4.1,.bool r_4.2.2.1,.bool r_4.2.2.2,Ii o_2.1,Ii (-1)] [Vb 45 [Ii 0,Ii 0,.str ([]:List Int),Ii 0,Ii 0,.nilsl],Vb 136 (yL r_6.2),Vb 45 [Ii r_3.1,Ii r_2.1,.str ([]:List Int),Ii r_6.1,Ii 0,.nilsl]] zF (ar ([Pp 1]:List AV) (ac (rfl:([Vb 136 [.sl false 1 (Mb o_2.2.1),Ii o_2.2.2.1,Ii o_2.2.2.2]]:List zU)=[Vb 136 [.sl false 1 (Mb o_2.2.1),Ii o_2.2.2.1,Ii o_2.2.2.2]]) (ac (uY F (⟨o_2.2.1,o_2.2.2.1,o_2.2.2.2⟩:yY) r_6 h_9:zS prog 97 [(.var 136 [.sl false 1 (Mb o_2.2.1),Ii o_2.2.2.1,Ii o_2.2.2.2])] [] [Pp 0] [(.var 136 (yL r_6.2))] (Ii r_6.1)) an))) ?_
  cases h
  exact ⟨rfl,(sw [0,1,2] [] [.s 0,.s 1,.s 6,.s 9,.s 11,.s 12,.s 14,.s 15,.s 16,.s 17] [.s 0,.s 1,.s 2] an)⟩
 refine sq ?_
 refine sr [] [0,1,6,9,11,12,15,16,17,63] [0,1,2] 3 [.sl false 1 (Ms zI),.sl false 2 (Mp zD zH),Pp 0,Pp 1,Pp 2,.bool r_4.1,.bool r_4.2.2.2,Ii o_2.1,Ii (-1),.bool r_4.2.2.1] [Vb 45 [Ii 0,Ii 0,.str ([]:List Int),Ii 0,Ii 0,.nilsl],Vb 136 [.sl false 1 (Mb o_3.1),Ii o_3.2.1,Ii o_3.2.2.1],Vb 45 [Ii r_3.1,Ii r_2.1,.str ([]:List Int),Ii o_3.2.2.2,Ii 0,.nilsl]] zF an ?_
 obtain ⟨o_4,kX,h⟩:=bind_some h
 refine yV (mk [(0,.sl false 1 (Ms zI)),(1,.sl false 2 (Mp zD zH)),(6,Pp 0),(9,Pp 1),(11,Pp 2),(12,.bool r_4.1),(15,.bool r_4.2.2.2),(16,Ii o_2.1),(17,Ii (-1))] [(0,Vb 45 [Ii 0,Ii 0,.str ([]:List Int),Ii 0,Ii 0,.nilsl]),(1,Vb 136 [.sl false 1 (Mb o_4.1),Ii o_4.2.1,Ii o_4.2.2.1]),(2,Vb 45 [Ii r_3.1,Ii r_2.1,.str ([]:List Int),Ii o_3.2.2.2,Ii o_4.2.2.2,.nilsl])] 3) ?_ ?_
 ·replace h:=kX
  refine cd 63 r_4.2.2.1 ?_ ?_
  rotate_left
  ·intro g_5;replace h:=zW g_5 h
   refine sk ?_
   cases h
   exact ⟨rfl,(sw [0,1,2] [] [.s 0,.s 1,.s 6,.s 9,.s 11,.s 12,.s 15,.s 16,.s 17] [.s 0,.s 1,.s 2] an)⟩
  intro g_5;replace h:=zV g_5 h
  obtain ⟨r_7,kC,h⟩:=bind_some h
  refine rg [(1,{ av:=Ii r_7.1,ids:=[1],l:=[Pp 0],post:=[(.var 136 (yL r_7.2))],pre:=[(.var 136 [.sl false 1 (Mb o_3.1),Ii o_3.2.1,Ii o_3.2.2.1])] })] [0,1,6,9,11,12,15,16,17] [0,1,2] 3 [.sl false 1 (Ms zI),.sl false 2 (Mp zD zH),Pp 0,Pp 1,Pp 2,.bool r_4.1,.bool r_4.2.2.2,Ii o_2.1,Ii (-1)] [Vb 45 [Ii 0,Ii 0,.str ([]:List Int),Ii 0,Ii 0,.nilsl],Vb 136 (yL r_7.2),Vb 45 [Ii r_3.1,Ii r_2.1,.str ([]:List Int),Ii o_3.2.2.2,Ii r_7.1,.nilsl]] zF (ar ([Pp 1]:List AV) (ac (rfl:([Vb 136 [.sl false 1 (Mb o_3.1),Ii o_3.2.1,Ii o_3.2.2.1]]:List zU)=[Vb 136 [.sl false 1 (Mb o_3.1),Ii o_3.2.1,Ii o_3.2.2.1]]) (ac (uY F (⟨o_3.1,o_3.2.1,o_3.2.2.1⟩:yY) r_7 kC:zS prog 97 [(.var 136 [.sl false 1 (Mb o_3.1),Ii o_3.2.1,Ii o_3.2.2.1])] [] [Pp 0] [(.var 136 (yL r_7.2))] (Ii r_7.1)) an))) ?_
  cases h
  exact ⟨rfl,(sw [0,1,2] [] [.s 0,.s 1,.s 6,.s 9,.s 11,.s 12,.s 15,.s 16,.s 17] [.s 0,.s 1,.s 2] an)⟩
 refine sq ?_
 refine sr [] [0,1,6,9,11,12,16,17,67] [0,1,2] 3 [.sl false 1 (Ms zI),.sl false 2 (Mp zD zH),Pp 0,Pp 1,Pp 2,.bool r_4.1,Ii o_2.1,Ii (-1),.bool r_4.2.2.2] [Vb 45 [Ii 0,Ii 0,.str ([]:List Int),Ii 0,Ii 0,.nilsl],Vb 136 [.sl false 1 (Mb o_4.1),Ii o_4.2.1,Ii o_4.2.2.1],Vb 45 [Ii r_3.1,Ii r_2.1,.str ([]:List Int),Ii o_3.2.2.2,Ii o_4.2.2.2,.nilsl]] zF an ?_
 obtain ⟨o_5,zAh,h⟩:=bind_some h
 refine yV (mk [(0,.sl false 1 (Ms zI)),(1,.sl false 2 (Mp zD zH)),(6,Pp 0),(9,Pp 1),(11,Pp 2),(12,.bool r_4.1),(16,Ii o_2.1),(17,Ii o_5.1)] [(0,Vb 45 [Ii 0,Ii 0,.str ([]:List Int),Ii 0,Ii 0,.nilsl]),(1,Vb 136 [.sl false 1 (Mb o_5.2.1),Ii o_5.2.2.1,Ii o_5.2.2.2]),(2,Vb 45 [Ii r_3.1,Ii r_2.1,.str ([]:List Int),Ii o_3.2.2.2,Ii o_4.2.2.2,.nilsl])] 3) ?_ ?_
 ·replace h:=zAh
  refine cd 67 r_4.2.2.2 ?_ ?_
  rotate_left
  ·intro g_6;replace h:=zW g_6 h
   refine sk ?_
   cases h
   exact ⟨rfl,(sw [0,1,2] [] [.s 0,.s 1,.s 6,.s 9,.s 11,.s 12,.s 16,.s 17] [.s 0,.s 1,.s 2] an)⟩
  intro g_6;replace h:=zV g_6 h
  obtain ⟨r_8,zBF,h⟩:=bind_some h
  refine rg [(1,{ av:=Ii r_8.1,ids:=[1],l:=[Pp 0],post:=[(.var 136 (yL r_8.2))],pre:=[(.var 136 [.sl false 1 (Mb o_4.1),Ii o_4.2.1,Ii o_4.2.2.1])] })] [0,1,6,9,11,12,16,17] [0,1,2] 3 [.sl false 1 (Ms zI),.sl false 2 (Mp zD zH),Pp 0,Pp 1,Pp 2,.bool r_4.1,Ii o_2.1,Ii r_8.1] [Vb 45 [Ii 0,Ii 0,.str ([]:List Int),Ii 0,Ii 0,.nilsl],Vb 136 (yL r_8.2),Vb 45 [Ii r_3.1,Ii r_2.1,.str ([]:List Int),Ii o_3.2.2.2,Ii o_4.2.2.2,.nilsl]] zF (ar ([Pp 1]:List AV) (ac (rfl:([Vb 136 [.sl false 1 (Mb o_4.1),Ii o_4.2.1,Ii o_4.2.2.1]]:List zU)=[Vb 136 [.sl false 1 (Mb o_4.1),Ii o_4.2.1,Ii o_4.2.2.1]]) (ac (uY F (⟨o_4.1,o_4.2.1,o_4.2.2.1⟩:yY) r_8 zBF:zS prog 97 [(.var 136 [.sl false 1 (Mb o_4.1),Ii o_4.2.1,Ii o_4.2.2.1])] [] [Pp 0] [(.var 136 (yL r_8.2))] (Ii r_8.1)) an))) ?_
  cases h
  exact ⟨rfl,(sw [0,1,2] [] [.s 0,.s 1,.s 6,.s 9,.s 11,.s 12,.s 16,.s 17] [.s 0,.s 1,.s 2] an)⟩
 refine sq ?_
 obtain ⟨o_6,kD,h⟩:=bind_some h
 refine vL (K1:=(fun e st'=>match o_6 with | (.inl q0)=>e=.normal∧Sub 0 st' (mk [(0,.sl false 1 (Ms zI)),(1,.sl false 2 (Mp zD zH)),(6,Pp 0),(9,Pp 1),(11,Pp 2),(12,.bool r_4.1),(16,Ii o_2.1),(17,Ii o_5.1)] [(0,Vb 45 [Ii 0,Ii 0,.str ([]:List Int),Ii 0,Ii 0,.nilsl]),(1,Vb 136 [.sl false 1 (Mb o_5.2.1),Ii o_5.2.2.1,Ii o_5.2.2.2]),(2,Vb 45 [Ii r_3.1,Ii r_2.1,.str ([]:List Int),Ii o_3.2.2.2,Ii o_4.2.2.2,.nilsl])] 3) | (.inr q1)=>e=.ret∧kB prog Go.Proofs.Try.f79 0 [] (.tuple [zN q1.1,Ii q1.2.1,Ii q1.2.2]) st')) ?_ ?_
 ·replace h:=kD
  refine yN (id:=0) (by kernel_rfl) ?_
  refine sr [] [0,1,6,9,11,12,16,17,70] [0,1,2] 3 [.sl false 1 (Ms zI),.sl false 2 (Mp zD zH),Pp 0,Pp 1,Pp 2,.bool r_4.1,Ii o_2.1,Ii o_5.1,.bool (o_5.2.2.2 != (0:Int))] [Vb 45 [Ii 0,Ii 0,.str ([]:List Int),Ii 0,Ii 0,.nilsl],Vb 136 [.sl false 1 (Mb o_5.2.1),Ii o_5.2.2.1,Ii o_5.2.2.2],Vb 45 [Ii r_3.1,Ii r_2.1,.str ([]:List Int),Ii o_3.2.2.2,Ii o_4.2.2.2,.nilsl]] zF an ?_
  refine cd 70 (o_5.2.2.2 != (0:Int)) ?_ ?_
  ·intro g_7;replace h:=zV g_7 h
   refine sr [] [6,7,8] [0] 3 [Pp 0,Ii 0,Ii o_5.2.2.2] [Vb 45 [Ii 0,Ii 0,.str ([]:List Int),Ii 0,Ii 0,.nilsl]] zF an ?_
   refine wk [0] [] [.s 6,.s 7,.s 8] [.a 0 (Vb 45 (zT (⟨(0:Int),(0:Int),([]:List Int),(0:Int),(0:Int),[]⟩:zE)))] [(6,Pp 0),(7,Ii 0),(8,Ii o_5.2.2.2)] [(0,Vb 45 (zT (⟨(0:Int),(0:Int),([]:List Int),(0:Int),(0:Int),[]⟩:zE)))] (ar 45 (ac (rfl:vI [Ii ((⟨(0:Int),(0:Int),([]:List Int),(0:Int),(0:Int),[]⟩:zE).At),Ii ((⟨(0:Int),(0:Int),([]:List Int),(0:Int),(0:Int),[]⟩:zE).Kind),.str ((⟨(0:Int),(0:Int),([]:List Int),(0:Int),(0:Int),[]⟩:zE).Name),Ii ((⟨(0:Int),(0:Int),([]:List Int),(0:Int),(0:Int),[]⟩:zE).N),Ii ((⟨(0:Int),(0:Int),([]:List Int),(0:Int),(0:Int),[]⟩:zE).M),.sl false 1 (Ms ((⟨(0:Int),(0:Int),([]:List Int),(0:Int),(0:Int),[]⟩:zE).Stack))]=true) (ac (rfl:(Ii 0:AV)=Ii ((⟨(0:Int),(0:Int),([]:List Int),(0:Int),(0:Int),[]⟩:zE).At)) (ac (rfl:(Ii 0:AV)=Ii ((⟨(0:Int),(0:Int),([]:List Int),(0:Int),(0:Int),[]⟩:zE).Kind)) (ac (rfl:(.str ([]:List Int):AV)=.str ((⟨(0:Int),(0:Int),([]:List Int),(0:Int),(0:Int),[]⟩:zE).Name)) (ac (rfl:(Ii 0:AV)=Ii ((⟨(0:Int),(0:Int),([]:List Int),(0:Int),(0:Int),[]⟩:zE).N)) (ac (rfl:(Ii 0:AV)=Ii ((⟨(0:Int),(0:Int),([]:List Int),(0:Int),(0:Int),[]⟩:zE).M)) (ac (rfl:((Ms ((⟨(0:Int),(0:Int),([]:List Int),(0:Int),(0:Int),[]⟩:zE).Stack)):List AV)=[]) an)))))))) ?_
   refine rt ?_
   cases h
   exact ⟨rfl,Nat.le_of_ble_eq_true rfl,by kernel_rfl⟩
  intro g_7;replace h:=zW g_7 h
  refine sq ?_
  refine sq ?_
  refine yV (mk [(0,.sl false 1 (Ms zI)),(1,.sl false 2 (Mp zD zH)),(6,Pp 0),(9,Pp 1),(11,Pp 2),(12,.bool r_4.1),(16,Ii o_2.1),(17,Ii o_5.1),(81,.bool (r_4.1&&(decide (o_2.1<(0:Int))||decide (o_2.1≥(lN (zI))))))] [(0,Vb 45 [Ii 0,Ii 0,.str ([]:List Int),Ii 0,Ii 0,.nilsl]),(1,Vb 136 [.sl false 1 (Mb o_5.2.1),Ii o_5.2.2.1,Ii o_5.2.2.2]),(2,Vb 45 [Ii r_3.1,Ii r_2.1,.str ([]:List Int),Ii o_3.2.2.2,Ii o_4.2.2.2,.nilsl])] 3) ?_ ?_
  ·rcases Bool.eq_false_or_eq_true r_4.1 with zZ | zZ
   ·rcases bft (decide (o_2.1<(0:Int))) with yC | yC
    ·refine rg [(5,Hg),(6,Hg),(7,Hg),(8,Hg),(9,Ht),(10,Ht)] [0,1,6,9,11,12,16,17,81] [0,1,2] 3 [.sl false 1 (Ms zI),.sl false 2 (Mp zD zH),Pp 0,Pp 1,Pp 2,.bool r_4.1,Ii o_2.1,Ii o_5.1,.bool true] [Vb 45 [Ii 0,Ii 0,.str ([]:List Int),Ii 0,Ii 0,.nilsl],Vb 136 [.sl false 1 (Mb o_5.2.1),Ii o_5.2.2.1,Ii o_5.2.2.2],Vb 45 [Ii r_3.1,Ii r_2.1,.str ([]:List Int),Ii o_3.2.2.2,Ii o_4.2.2.2,.nilsl]] zF (ac zZ (ac zZ (ac zZ (ac yC (ac yC (ac yC (ac yC (ac zZ (ac yC (ac zZ an)))))))))) ?_
     exact ⟨rfl,(sw [0,1,2] [] [.s 0,.s 1,.s 6,.s 9,.s 11,.s 12,.s 16,.s 17,.a 81 (.bool (r_4.1&&(decide (o_2.1<(0:Int))||decide (o_2.1≥(lN (zI))))))] [.s 0,.s 1,.s 2] (ac (congrArg AV.bool (qS zZ (ort yC)):(.bool true:AV)=.bool (r_4.1&&(decide (o_2.1<(0:Int))||decide (o_2.1≥(lN (zI)))))) an))⟩
    ·refine rg [(7,{ n:=(zI).length }),(9,Hf),(10,Ht)] [0,1,6,9,11,12,16,17,81] [0,1,2] 3 [.sl false 1 (Ms zI),.sl false 2 (Mp zD zH),Pp 0,Pp 1,Pp 2,.bool r_4.1,Ii o_2.1,Ii o_5.1,.bool (decide (o_2.1≥(lN (zI))))] [Vb 45 [Ii 0,Ii 0,.str ([]:List Int),Ii 0,Ii 0,.nilsl],Vb 136 [.sl false 1 (Mb o_5.2.1),Ii o_5.2.2.1,Ii o_5.2.2.2],Vb 45 [Ii r_3.1,Ii r_2.1,.str ([]:List Int),Ii o_3.2.2.2,Ii o_4.2.2.2,.nilsl]] zF (ac zZ (ac zZ (ac zZ (ac yC (ac yC (ac yC (ac (yO _:((Ms zI)).length=(zI).length) (ac yC (ac zZ (ac yC (ac zZ an))))))))))) ?_
     exact ⟨rfl,(sw [0,1,2] [] [.s 0,.s 1,.s 6,.s 9,.s 11,.s 12,.s 16,.s 17,.a 81 (.bool (r_4.1&&(decide (o_2.1<(0:Int))||decide (o_2.1≥(lN (zI))))))] [.s 0,.s 1,.s 2] (ac (congrArg AV.bool (qS zZ (orf yC rfl)):(.bool (decide (o_2.1≥(lN (zI)))):AV)=.bool (r_4.1&&(decide (o_2.1<(0:Int))||decide (o_2.1≥(lN (zI)))))) an))⟩
   ·refine rg [(2,Hg),(3,Hg),(4,Hg),(9,Hg),(10,Hf)] [0,1,6,9,11,12,16,17,81] [0,1,2] 3 [.sl false 1 (Ms zI),.sl false 2 (Mp zD zH),Pp 0,Pp 1,Pp 2,.bool r_4.1,Ii o_2.1,Ii o_5.1,.bool false] [Vb 45 [Ii 0,Ii 0,.str ([]:List Int),Ii 0,Ii 0,.nilsl],Vb 136 [.sl false 1 (Mb o_5.2.1),Ii o_5.2.2.1,Ii o_5.2.2.2],Vb 45 [Ii r_3.1,Ii r_2.1,.str ([]:List Int),Ii o_3.2.2.2,Ii o_4.2.2.2,.nilsl]] zF (ac zZ (ac zZ (ac zZ (ac zZ (ac zZ an))))) ?_
    exact ⟨rfl,(sw [0,1,2] [] [.s 0,.s 1,.s 6,.s 9,.s 11,.s 12,.s 16,.s 17,.a 81 (.bool (r_4.1&&(decide (o_2.1<(0:Int))||decide (o_2.1≥(lN (zI))))))] [.s 0,.s 1,.s 2] (ac (congrArg AV.bool (n8 zZ):(.bool false:AV)=.bool (r_4.1&&(decide (o_2.1<(0:Int))||decide (o_2.1≥(lN (zI)))))) an))⟩
  refine cd 81 (r_4.1&&(decide (o_2.1<(0:Int))||decide (o_2.1≥(lN (zI))))) ?_ ?_
  ·intro g_8;replace h:=zV g_8 h
   refine sk ?_
   refine cd 81 (r_4.1&&(decide (o_2.1<(0:Int))||decide (o_2.1≥(lN (zI))))) ?_ ?_
   rotate_left
   ·intro hg;exact Bool.noConfusion ((g_8).symm.trans hg)
   intro _
   refine sr [] [6,7,8] [0] 3 [Pp 0,Ii 0,Ii 2] [Vb 45 [Ii 0,Ii 0,.str ([]:List Int),Ii 0,Ii 0,.nilsl]] zF an ?_
   refine wk [0] [] [.s 6,.s 7,.s 8] [.a 0 (Vb 45 (zT (⟨(0:Int),(0:Int),([]:List Int),(0:Int),(0:Int),[]⟩:zE)))] [(6,Pp 0),(7,Ii 0),(8,Ii 2)] [(0,Vb 45 (zT (⟨(0:Int),(0:Int),([]:List Int),(0:Int),(0:Int),[]⟩:zE)))] (ar 45 (ac (rfl:vI [Ii ((⟨(0:Int),(0:Int),([]:List Int),(0:Int),(0:Int),[]⟩:zE).At),Ii ((⟨(0:Int),(0:Int),([]:List Int),(0:Int),(0:Int),[]⟩:zE).Kind),.str ((⟨(0:Int),(0:Int),([]:List Int),(0:Int),(0:Int),[]⟩:zE).Name),Ii ((⟨(0:Int),(0:Int),([]:List Int),(0:Int),(0:Int),[]⟩:zE).N),Ii ((⟨(0:Int),(0:Int),([]:List Int),(0:Int),(0:Int),[]⟩:zE).M),.sl false 1 (Ms ((⟨(0:Int),(0:Int),([]:List Int),(0:Int),(0:Int),[]⟩:zE).Stack))]=true) (ac (rfl:(Ii 0:AV)=Ii ((⟨(0:Int),(0:Int),([]:List Int),(0:Int),(0:Int),[]⟩:zE).At)) (ac (rfl:(Ii 0:AV)=Ii ((⟨(0:Int),(0:Int),([]:List Int),(0:Int),(0:Int),[]⟩:zE).Kind)) (ac (rfl:(.str ([]:List Int):AV)=.str ((⟨(0:Int),(0:Int),([]:List Int),(0:Int),(0:Int),[]⟩:zE).Name)) (ac (rfl:(Ii 0:AV)=Ii ((⟨(0:Int),(0:Int),([]:List Int),(0:Int),(0:Int),[]⟩:zE).N)) (ac (rfl:(Ii 0:AV)=Ii ((⟨(0:Int),(0:Int),([]:List Int),(0:Int),(0:Int),[]⟩:zE).M)) (ac (rfl:((Ms ((⟨(0:Int),(0:Int),([]:List Int),(0:Int),(0:Int),[]⟩:zE).Stack)):List AV)=[]) an)))))))) ?_
   refine rt ?_
   cases h
   exact ⟨rfl,Nat.le_of_ble_eq_true rfl,by kernel_rfl⟩
  intro g_8;replace h:=zW g_8 h
  refine yV (mk [(0,.sl false 1 (Ms zI)),(1,.sl false 2 (Mp zD zH)),(6,Pp 0),(9,Pp 1),(11,Pp 2),(12,.bool r_4.1),(16,Ii o_2.1),(17,Ii o_5.1),(81,.bool (decide (o_5.1<(-1:Int))||decide (o_5.1≥(lN (zH)))))] [(0,Vb 45 [Ii 0,Ii 0,.str ([]:List Int),Ii 0,Ii 0,.nilsl]),(1,Vb 136 [.sl false 1 (Mb o_5.2.1),Ii o_5.2.2.1,Ii o_5.2.2.2]),(2,Vb 45 [Ii r_3.1,Ii r_2.1,.str ([]:List Int),Ii o_3.2.2.2,Ii o_4.2.2.2,.nilsl])] 3) ?_ ?_
  ·rcases bft (decide (o_5.1<(-1:Int))) with z9 | z9
   ·refine rg [(3,Hg),(4,Hg),(5,Hg),(6,Hg),(7,Ht)] [0,1,6,9,11,12,16,17,81] [0,1,2] 3 [.sl false 1 (Ms zI),.sl false 2 (Mp zD zH),Pp 0,Pp 1,Pp 2,.bool r_4.1,Ii o_2.1,Ii o_5.1,.bool true] [Vb 45 [Ii 0,Ii 0,.str ([]:List Int),Ii 0,Ii 0,.nilsl],Vb 136 [.sl false 1 (Mb o_5.2.1),Ii o_5.2.2.1,Ii o_5.2.2.2],Vb 45 [Ii r_3.1,Ii r_2.1,.str ([]:List Int),Ii o_3.2.2.2,Ii o_4.2.2.2,.nilsl]] zF (ac z9 (ac z9 (ac z9 (ac z9 (ac z9 an))))) ?_
    exact ⟨rfl,(sw [0,1,2] [] [.s 0,.s 1,.s 6,.s 9,.s 11,.s 12,.s 16,.s 17,.a 81 (.bool (decide (o_5.1<(-1:Int))||decide (o_5.1≥(lN (zH)))))] [.s 0,.s 1,.s 2] (ac (congrArg AV.bool (ort z9):(.bool true:AV)=.bool (decide (o_5.1<(-1:Int))||decide (o_5.1≥(lN (zH))))) an))⟩
   ·refine rg [(5,{ n:=(zH).length }),(7,Hf)] [0,1,6,9,11,12,16,17,81] [0,1,2] 3 [.sl false 1 (Ms zI),.sl false 2 (Mp zD zH),Pp 0,Pp 1,Pp 2,.bool r_4.1,Ii o_2.1,Ii o_5.1,.bool (decide (o_5.1≥(lN (zH))))] [Vb 45 [Ii 0,Ii 0,.str ([]:List Int),Ii 0,Ii 0,.nilsl],Vb 136 [.sl false 1 (Mb o_5.2.1),Ii o_5.2.2.1,Ii o_5.2.2.2],Vb 45 [Ii r_3.1,Ii r_2.1,.str ([]:List Int),Ii o_3.2.2.2,Ii o_4.2.2.2,.nilsl]] zF (ac z9 (ac z9 (ac z9 (ac (yO _:((Mp zD zH)).length=(zH).length) (ac z9 (ac z9 an)))))) ?_
    exact ⟨rfl,(sw [0,1,2] [] [.s 0,.s 1,.s 6,.s 9,.s 11,.s 12,.s 16,.s 17,.a 81 (.bool (decide (o_5.1<(-1:Int))||decide (o_5.1≥(lN (zH)))))] [.s 0,.s 1,.s 2] (ac (congrArg AV.bool (orf z9 rfl):(.bool (decide (o_5.1≥(lN (zH)))):AV)=.bool (decide (o_5.1<(-1:Int))||decide (o_5.1≥(lN (zH))))) an))⟩
  refine cd 81 (decide (o_5.1<(-1:Int))||decide (o_5.1≥(lN (zH)))) ?_ ?_
  rotate_left
  ·intro g_9;replace h:=zW g_9 h
   refine sk ?_
   cases h
   exact ⟨rfl,(sw [0,1,2] [] [.s 0,.s 1,.s 6,.s 9,.s 11,.s 12,.s 16,.s 17] [.s 0,.s 1,.s 2] an)⟩
  intro g_9;replace h:=zV g_9 h
  refine sr [] [6,7,8] [0] 3 [Pp 0,Ii 0,Ii 2] [Vb 45 [Ii 0,Ii 0,.str ([]:List Int),Ii 0,Ii 0,.nilsl]] zF an ?_
  refine wk [0] [] [.s 6,.s 7,.s 8] [.a 0 (Vb 45 (zT (⟨(0:Int),(0:Int),([]:List Int),(0:Int),(0:Int),[]⟩:zE)))] [(6,Pp 0),(7,Ii 0),(8,Ii 2)] [(0,Vb 45 (zT (⟨(0:Int),(0:Int),([]:List Int),(0:Int),(0:Int),[]⟩:zE)))] (ar 45 (ac (rfl:vI [Ii ((⟨(0:Int),(0:Int),([]:List Int),(0:Int),(0:Int),[]⟩:zE).At),Ii ((⟨(0:Int),(0:Int),([]:List Int),(0:Int),(0:Int),[]⟩:zE).Kind),.str ((⟨(0:Int),(0:Int),([]:List Int),(0:Int),(0:Int),[]⟩:zE).Name),Ii ((⟨(0:Int),(0:Int),([]:List Int),(0:Int),(0:Int),[]⟩:zE).N),Ii ((⟨(0:Int),(0:Int),([]:List Int),(0:Int),(0:Int),[]⟩:zE).M),.sl false 1 (Ms ((⟨(0:Int),(0:Int),([]:List Int),(0:Int),(0:Int),[]⟩:zE).Stack))]=true) (ac (rfl:(Ii 0:AV)=Ii ((⟨(0:Int),(0:Int),([]:List Int),(0:Int),(0:Int),[]⟩:zE).At)) (ac (rfl:(Ii 0:AV)=Ii ((⟨(0:Int),(0:Int),([]:List Int),(0:Int),(0:Int),[]⟩:zE).Kind)) (ac (rfl:(.str ([]:List Int):AV)=.str ((⟨(0:Int),(0:Int),([]:List Int),(0:Int),(0:Int),[]⟩:zE).Name)) (ac (rfl:(Ii 0:AV)=Ii ((⟨(0:Int),(0:Int),([]:List Int),(0:Int),(0:Int),[]⟩:zE).N)) (ac (rfl:(Ii 0:AV)=Ii ((⟨(0:Int),(0:Int),([]:List Int),(0:Int),(0:Int),[]⟩:zE).M)) (ac (rfl:((Ms ((⟨(0:Int),(0:Int),([]:List Int),(0:Int),(0:Int),[]⟩:zE).Stack)):List AV)=[]) an)))))))) ?_
  refine rt ?_
  cases h
  exact ⟨rfl,Nat.le_of_ble_eq_true rfl,by kernel_rfl⟩
 intro e st1 hk
 rcases o_6 with q_1 | q_2
 rotate_left
 ·obtain ⟨rfl,hf⟩:=hk
  cases h
  exact ⟨st1,Sub.refl _ _,.inr rfl,hf⟩
 obtain ⟨rfl,hs⟩:=hk
 refine ⟨_,hs,?_⟩
 refine sq ?_
 refine sr [] [0,1,6,9,11,16,17,102] [0,1,2] 3 [.sl false 1 (Ms zI),.sl false 2 (Mp zD zH),Pp 0,Pp 1,Pp 2,Ii o_2.1,Ii o_5.1,.bool r_4.1] [Vb 45 [Ii 0,Ii 0,.str ([]:List Int),Ii 0,Ii 0,.nilsl],Vb 136 [.sl false 1 (Mb o_5.2.1),Ii o_5.2.2.1,Ii o_5.2.2.2],Vb 45 [Ii r_3.1,Ii r_2.1,.str ([]:List Int),Ii o_3.2.2.2,Ii o_4.2.2.2,.nilsl]] zF an ?_
 obtain ⟨o_7,qT,h⟩:=bind_some h
 refine yV (mk [(0,.sl false 1 (Ms zI)),(1,.sl false 2 (Mp zD zH)),(6,Pp 0),(9,Pp 1),(11,Pp 2),(17,Ii o_5.1)] [(0,Vb 45 [Ii 0,Ii 0,.str ([]:List Int),Ii 0,Ii 0,.nilsl]),(1,Vb 136 [.sl false 1 (Mb o_5.2.1),Ii o_5.2.2.1,Ii o_5.2.2.2]),(2,Vb 45 [Ii r_3.1,Ii r_2.1,.str o_7,Ii o_3.2.2.2,Ii o_4.2.2.2,.nilsl])] 3) ?_ ?_
 ·replace h:=qT
  refine cd 102 r_4.1 ?_ ?_
  rotate_left
  ·intro zFQ;replace h:=zW zFQ h
   refine sk ?_
   cases h
   exact ⟨rfl,(sw [0,1,2] [] [.s 0,.s 1,.s 6,.s 9,.s 11,.s 17] [.s 0,.s 1,.s 2] an)⟩
  intro zFQ;replace h:=zV zFQ h
  obtain ⟨x_1,kE,h⟩:=bind_some h
  refine rg [(2,{ av:=.str x_1 })] [0,1,6,9,11,17] [0,1,2] 3 [.sl false 1 (Ms zI),.sl false 2 (Mp zD zH),Pp 0,Pp 1,Pp 2,Ii o_5.1] [Vb 45 [Ii 0,Ii 0,.str ([]:List Int),Ii 0,Ii 0,.nilsl],Vb 136 [.sl false 1 (Mb o_5.2.1),Ii o_5.2.2.1,Ii o_5.2.2.2],Vb 45 [Ii r_3.1,Ii r_2.1,.str x_1,Ii o_3.2.2.2,Ii o_4.2.2.2,.nilsl]] zF (ac (tJ kE:jA (Ms zI) o_2.1=some (.str x_1)) an) ?_
  cases h
  exact ⟨rfl,(sw [0,1,2] [] [.s 0,.s 1,.s 6,.s 9,.s 11,.s 17] [.s 0,.s 1,.s 2] an)⟩
 refine sq ?_
 obtain ⟨r_9,nB,h⟩:=bind_some h
 refine rg [(3,{ av:=.tuple [.own 0 ((r_9.1).length),Ii r_9.2],ids:=[3],l:=[.sl false 1 (Ms zI),.sl false 2 (Mp zD zH),Ii o_5.1],post:=[(.row 9 1 (Ms r_9.1))] })] [6,9,11] [0,1,2,3] 4 [Pp 0,Pp 1,Pp 2] [Vb 45 [Ii 0,Ii 0,.str ([]:List Int),Ii 0,Ii 0,.nilsl],Vb 136 [.sl false 1 (Mb o_5.2.1),Ii o_5.2.2.1,Ii o_5.2.2.2],Vb 45 [Ii r_3.1,Ii r_2.1,.str o_7,Ii o_3.2.2.2,Ii o_4.2.2.2,.own 3 ((r_9.1).length)],Rb 9 1 (Ms r_9.1)] zF (ar ([.sl false 1 (Ms zI),.sl false 2 (Mp zD zH),Ii o_5.1]:List AV) (ac (rfl:([]:List zU)=[]) (ac (zGt F zI zH o_5.1 r_9 nB:zS prog 98 [] [] [.sl false 1 (Ms zI),.sl false 2 (Mp zD zH),Ii o_5.1] [(.row 9 1 (Ms r_9.1))] (.tuple [.own 0 ((r_9.1).length),Ii r_9.2])) an))) ?_
 refine sq ?_
 refine sq ?_
 obtain ⟨yQ,jT,h⟩:=bind_some h
 refine rg [(1,{ av:=Ii yQ,l:=[.agg [Ii r_3.1,Ii r_2.1,.str o_7,Ii o_3.2.2.2,Ii o_4.2.2.2,.sl false 1 (Ms r_9.1)]],lend:=[3] })] [6,9,11,118] [0,1,2,3] 4 [Pp 0,Pp 1,Pp 2,.bool (yQ != (0:Int))] [Vb 45 [Ii 0,Ii 0,.str ([]:List Int),Ii 0,Ii 0,.nilsl],Vb 136 [.sl false 1 (Mb o_5.2.1),Ii o_5.2.2.1,Ii o_5.2.2.2],Vb 45 [Ii r_3.1,Ii r_2.1,.str o_7,Ii o_3.2.2.2,Ii o_4.2.2.2,.own 3 ((r_9.1).length)],Rb 9 1 (Ms r_9.1)] zF (ac (by first | (simp;done) | (simp;omega):(r_9.1).length=((List.map AV.str r_9.1)).length) (ar ([.agg [Ii r_3.1,Ii r_2.1,.str o_7,Ii o_3.2.2.2,Ii o_4.2.2.2,.sl false 1 (Ms r_9.1)]]:List AV) (ac (rfl:([]:List zU)=[]) (ac (v8 (args':=[zN (⟨r_3.1,r_2.1,o_7,o_3.2.2.2,o_4.2.2.2,r_9.1⟩:zE)]) (zBo F (⟨r_3.1,r_2.1,o_7,o_3.2.2.2,o_4.2.2.2,r_9.1⟩:zE) yQ jT) rfl ⟨rfl,rfl,rfl,rfl,rfl,rfl,rfl,rfl,trivial⟩:zS prog 38 [] [] [.agg [Ii r_3.1,Ii r_2.1,.str o_7,Ii o_3.2.2.2,Ii o_4.2.2.2,.sl false 1 (Ms r_9.1)]] [] (Ii yQ)) an)))) ?_
 refine cd 118 (yQ != (0:Int)) ?_ ?_
 ·intro g_11;replace h:=zV g_11 h
  refine sr [] [6,7,8] [0] 4 [Pp 0,Ii 0,Ii 10] [Vb 45 [Ii 0,Ii 0,.str ([]:List Int),Ii 0,Ii 0,.nilsl]] zF an ?_
  refine wk [0] [] [.s 6,.s 7,.s 8] [.a 0 (Vb 45 (zT (⟨(0:Int),(0:Int),([]:List Int),(0:Int),(0:Int),[]⟩:zE)))] [(6,Pp 0),(7,Ii 0),(8,Ii 10)] [(0,Vb 45 (zT (⟨(0:Int),(0:Int),([]:List Int),(0:Int),(0:Int),[]⟩:zE)))] (ar 45 (ac (rfl:vI [Ii ((⟨(0:Int),(0:Int),([]:List Int),(0:Int),(0:Int),[]⟩:zE).At),Ii ((⟨(0:Int),(0:Int),([]:List Int),(0:Int),(0:Int),[]⟩:zE).Kind),.str ((⟨(0:Int),(0:Int),([]:List Int),(0:Int),(0:Int),[]⟩:zE).Name),Ii ((⟨(0:Int),(0:Int),([]:List Int),(0:Int),(0:Int),[]⟩:zE).N),Ii ((⟨(0:Int),(0:Int),([]:List Int),(0:Int),(0:Int),[]⟩:zE).M),.sl false 1 (Ms ((⟨(0:Int),(0:Int),([]:List Int),(0:Int),(0:Int),[]⟩:zE).Stack))]=true) (ac (rfl:(Ii 0:AV)=Ii ((⟨(0:Int),(0:Int),([]:List Int),(0:Int),(0:Int),[]⟩:zE).At)) (ac (rfl:(Ii 0:AV)=Ii ((⟨(0:Int),(0:Int),([]:List Int),(0:Int),(0:Int),[]⟩:zE).Kind)) (ac (rfl:(.str ([]:List Int):AV)=.str ((⟨(0:Int),(0:Int),([]:List Int),(0:Int),(0:Int),[]⟩:zE).Name)) (ac (rfl:(Ii 0:AV)=Ii ((⟨(0:Int),(0:Int),([]:List Int),(0:Int),(0:Int),[]⟩:zE).N)) (ac (rfl:(Ii 0:AV)=Ii ((⟨(0:Int),(0:Int),([]:List Int),(0:Int),(0:Int),[]⟩:zE).M)) (ac (rfl:((Ms ((⟨(0:Int),(0:Int),([]:List Int),(0:Int),(0:Int),[]⟩:zE).Stack)):List AV)=[]) an)))))))) ?_
  refine rt ?_
  cases h
  exact ⟨.inr rfl,Nat.le_of_ble_eq_true rfl,by kernel_rfl⟩
 intro g_11;replace h:=zW g_11 h
 refine sk ?_
 refine sr [] [6,7,8] [0,3] 4 [Pp 0,Ii o_5.2.2.1,Ii 0] [Vb 45 [Ii r_3.1,Ii r_2.1,.str o_7,Ii o_3.2.2.2,Ii o_4.2.2.2,.own 3 ((r_9.1).length)],Rb 9 1 (Ms r_9.1)] zF an ?_
 refine wk [0] [3] [.s 6,.s 7,.s 8] [.a 0 (Vb 45 (zT (⟨r_3.1,r_2.1,o_7,o_3.2.2.2,o_4.2.2.2,r_9.1⟩:zE)))] [(6,Pp 0),(7,Ii o_5.2.2.1),(8,Ii 0)] [(0,Vb 45 (zT (⟨r_3.1,r_2.1,o_7,o_3.2.2.2,o_4.2.2.2,r_9.1⟩:zE)))] (ar 45 (ac (rfl:vI [Ii ((⟨r_3.1,r_2.1,o_7,o_3.2.2.2,o_4.2.2.2,r_9.1⟩:zE).At),Ii ((⟨r_3.1,r_2.1,o_7,o_3.2.2.2,o_4.2.2.2,r_9.1⟩:zE).Kind),.str ((⟨r_3.1,r_2.1,o_7,o_3.2.2.2,o_4.2.2.2,r_9.1⟩:zE).Name),Ii ((⟨r_3.1,r_2.1,o_7,o_3.2.2.2,o_4.2.2.2,r_9.1⟩:zE).N),Ii ((⟨r_3.1,r_2.1,o_7,o_3.2.2.2,o_4.2.2.2,r_9.1⟩:zE).M),.sl false 1 (Ms ((⟨r_3.1,r_2.1,o_7,o_3.2.2.2,o_4.2.2.2,r_9.1⟩:zE).Stack))]=true) (ac (by first | (simp;done) | (simp;omega):(r_9.1).length=((List.map AV.str r_9.1)).length) (ac (rfl:(Ii r_3.1:AV)=Ii ((⟨r_3.1,r_2.1,o_7,o_3.2.2.2,o_4.2.2.2,r_9.1⟩:zE).At)) (ac (rfl:(Ii r_2.1:AV)=Ii ((⟨r_3.1,r_2.1,o_7,o_3.2.2.2,o_4.2.2.2,r_9.1⟩:zE).Kind)) (ac (rfl:(.str o_7:AV)=.str ((⟨r_3.1,r_2.1,o_7,o_3.2.2.2,o_4.2.2.2,r_9.1⟩:zE).Name)) (ac (rfl:(Ii o_3.2.2.2:AV)=Ii ((⟨r_3.1,r_2.1,o_7,o_3.2.2.2,o_4.2.2.2,r_9.1⟩:zE).N)) (ac (rfl:(Ii o_4.2.2.2:AV)=Ii ((⟨r_3.1,r_2.1,o_7,o_3.2.2.2,o_4.2.2.2,r_9.1⟩:zE).M)) (ar 1 (ac (rfl:((Ms r_9.1):List AV)=(Ms ((⟨r_3.1,r_2.1,o_7,o_3.2.2.2,o_4.2.2.2,r_9.1⟩:zE).Stack))) (ac (rfl:(!false||false)=true) an))))))))))) ?_
 refine rt ?_
 cases h
 exact ⟨.inr rfl,Nat.le_of_ble_eq_true rfl,by kernel_rfl⟩
theorem zEe (F:Nat) (p_1:zA) (r:(List (zE))×Bool) (h:kM F p_1=some r):zS prog 52 [] [] [zM p_1] [.row 45 6 (Mp zN r.1)] (.tuple [.own 0 ((r.1).length),.bool r.2]):=by
 refine yD (fn:=Go.Proofs.Try.f52) (code:=y5 Go.Proofs.Try.f52) (by kernel_rfl) (by kernel_rfl) (Nat.le_of_ble_eq_true (by kernel_rfl)) ?_
 unfold kM at h
 refine sr [(0,{ id:=0 }),(1,{ id:=1,m:=1 })] [1] [0] 2 [Pp 0] [Vb 32 (zK p_1)] zF an ?_
 refine sq ?_
 obtain ⟨r_1,h_1,h⟩:=bind_some h
 refine rg [(2,{ av:=.tuple [.own 0 ((r_1.1).length),z6 r_1.2],ids:=[2],l:=[z6 p_1.Ring],post:=[(.row 28 1 (List.map (fun l=>AV.sl false 1 (l.map (AV.int .u8))) r_1.1))] }),(6,{ id:=3 })] [1,4] [0,2] 4 [Pp 0,.own 2 ((r_1.1).length)] [Vb 32 (zK p_1),Rb 28 1 (List.map (fun l=>AV.sl false 1 (l.map (AV.int .u8))) r_1.1)] zF (ar ([z6 p_1.Ring]:List AV) (ac (rfl:([]:List zU)=[]) (ac (zEn F p_1.Ring r_1 h_1:zS prog 35 [] [] [z6 p_1.Ring] [(.row 28 1 (List.map (fun l=>AV.sl false 1 (l.map (AV.int .u8))) r_1.1))] (.tuple [.own 0 ((r_1.1).length),z6 r_1.2])) an))) ?_
 refine sr [(0,{ id:=4,m:=1 })] [1,4,6] [0,2,4] 5 [Pp 0,.own 2 ((r_1.1).length),.own 4 0] [Vb 32 (zK p_1),Rb 28 1 (List.map (fun l=>AV.sl false 1 (l.map (AV.int .u8))) r_1.1),Rb 45 6 []] zF an ?_
 refine sq ?_
 refine sr [] [1,6,18,19,20] [0,2,4] 5 [Pp 0,.own 4 0,.own 2 ((r_1.1).length),Ii (lN (r_1.1)),Ii 0] [Vb 32 (zK p_1),Rb 28 1 (List.map (fun l=>AV.sl false 1 (l.map (AV.int .u8))) r_1.1),Rb 45 6 []] zF an ?_
 obtain ⟨o_1,h_2,h⟩:=bind_some h
 refine vL (K1:=(fun e st'=>match o_1 with | (.inl q0)=>e=.normal∧Sub 0 st' (mk [(6,.own 0 ((q0).length))] [(0,Rb 45 6 (Mp zN q0))] 1) | (.inr q1)=>e=.ret∧kB prog Go.Proofs.Try.f52 0 [.row 45 6 (Mp zN q1.1)] (.tuple [.own 0 ((q1.1).length),.bool q1.2]) st')) ?_ ?_
 ·replace h:=h_2
  refine yN (id:=0) (by kernel_rfl) ?_
  refine wk [0,4,2] [] [.s 1,.s 6,.s 18,.s 19,.s 20] [.s 0,.s 1,.s 2] [(1,Pp 0),(6,.own 1 0),(18,.own 2 ((r_1.1).length)),(19,Ii (lN (r_1.1))),(20,Ii 0)] [(0,Vb 32 (zK p_1)),(1,Rb 45 6 []),(2,Rb 28 1 (List.map (fun l=>AV.sl false 1 (l.map (AV.int .u8))) r_1.1))] an ?_
  refine wH (fun n st=>∃ (v_1:Int),∃ (zL:List zE),st=mk [(1,Pp 0),(6,.own 1 ((zL).length)),(18,.own 2 ((r_1.1).length)),(19,Ii (lN (r_1.1))),(20,Ii v_1)] [(0,Vb 32 (zK p_1)),(1,Rb 45 6 (Mp zN zL)),(2,Rb 28 1 (List.map (fun l=>AV.sl false 1 (l.map (AV.int .u8))) r_1.1))] 3∧q8 F p_1 r_1 n v_1 zL=some o_1) F (by kernel_rfl) ⟨_,_,rfl,h⟩ ?_ ?_
  ·rintro _ ⟨_,_,_,h⟩;exact w5 (h:(none:Option ((List zE)⊕((List (zE))×Bool)))=some o_1)
  rintro n_1 _ ⟨v_1,zL,rfl,h⟩
  replace h:uN F p_1 r_1 (q8 F p_1 r_1 n_1) v_1 zL=some o_1:=h
  unfold uN at h
  refine sr [] [1,6,18,19,20,21] [0,1,2] 3 [Pp 0,.own 1 ((zL).length),.own 2 ((r_1.1).length),Ii (lN (r_1.1)),Ii v_1,.bool (decide (v_1<(lN (r_1.1))))] [Vb 32 (zK p_1),Rb 45 6 (Mp zN zL),Rb 28 1 (List.map (fun l=>AV.sl false 1 (l.map (AV.int .u8))) r_1.1)] zF an ?_
  refine sq ?_
  refine cd 21 (decide (v_1<(lN (r_1.1)))) ?_ ?_
  rotate_left
  ·intro g_1;replace h:=zW g_1 h
   refine wS (id:=0) (by kernel_rfl) ?_
   cases h
   exact ⟨rfl,(sw [1] [] [.s 6] [.s 0] an)⟩
  intro g_1;replace h:=zV g_1 h
  refine sk ?_
  refine sq ?_
  refine yN (id:=1) (by kernel_rfl) ?_
  refine sq ?_
  obtain ⟨x_1,h_3,h⟩:=bind_some h
  refine rg [(1,{ av:=.sl false 1 (Mb x_1) })] [1,6,8,18,19,20] [0,1,2] 3 [Pp 0,.own 1 ((zL).length),.sl false 1 (Mb x_1),.own 2 ((r_1.1).length),Ii (lN (r_1.1)),Ii v_1] [Vb 32 (zK p_1),Rb 45 6 (Mp zN zL),Rb 28 1 (List.map (fun l=>AV.sl false 1 (l.map (AV.int .u8))) r_1.1)] zF (ac (y6 h_3:(0:Int)≤v_1) (ac (by first | (simp;done) | simpa using y7 h_3:v_1<(((r_1.1).length:Nat):Int)) (ac (xD h_3:(List.map (fun l=>AV.sl false 1 (l.map (AV.int .u8))) r_1.1)[(v_1).toNat]?=some (.sl false 1 (Mb x_1))) an))) ?_
  refine sq ?_
  obtain ⟨r_2,h_4,h⟩:=bind_some h
  refine rg [(5,{ av:=.tuple [zN r_2.1,Ii r_2.2.1,Ii r_2.2.2],l:=[.sl false 1 (Ms p_1.Names),.sl false 2 (Mp zD p_1.Stacks),.sl false 1 (Mb x_1)] }),(10,{ id:=3 })] [1,6,8,9,10,11,18,19,20] [0,1,2,3] 4 [Pp 0,.own 1 ((zL).length),.sl false 1 (Mb x_1),Pp 3,Ii r_2.2.1,Ii r_2.2.2,.own 2 ((r_1.1).length),Ii (lN (r_1.1)),Ii v_1] [Vb 32 (zK p_1),Rb 45 6 (Mp zN zL),Rb 28 1 (List.map (fun l=>AV.sl false 1 (l.map (AV.int .u8))) r_1.1),Vb 45 (zT r_2.1)] zF (ar ([.sl false 1 (Ms p_1.Names),.sl false 2 (Mp zD p_1.Stacks),.sl false 1 (Mb x_1)]:List AV) (ac (rfl:([]:List zU)=[]) (ac (zFB F p_1.Names p_1.Stacks x_1 r_2 h_4:zS prog 79 [] [] [.sl false 1 (Ms p_1.Names),.sl false 2 (Mp zD p_1.Stacks),.sl false 1 (Mb x_1)] [] (.tuple [zN r_2.1,Ii r_2.2.1,Ii r_2.2.2])) an))) ?_
  refine sq ?_
  refine sq ?_
  refine yV (mk [(1,Pp 0),(6,.own 1 ((zL).length)),(9,Pp 2),(18,.own 3 ((r_1.1).length)),(19,Ii (lN (r_1.1))),(20,Ii v_1),(41,.bool ((r_2.2.2 != (0:Int))||(r_2.2.1 != (lN (x_1)))))] [(0,Vb 32 (zK p_1)),(1,Rb 45 6 (Mp zN zL)),(2,Vb 45 (zT r_2.1)),(3,Rb 28 1 (List.map (fun l=>AV.sl false 1 (l.map (AV.int .u8))) r_1.1))] 4) ?_ ?_
  ·rcases bft (r_2.2.2 != (0:Int)) with z9 | z9
   ·refine rg [(3,Hg),(4,Hg),(5,Hg),(6,Hg),(7,Ht)] [1,6,9,18,19,20,37,38,39,40,41] [0,1,2,3] 4 [Pp 0,.own 1 ((zL).length),Pp 3,.own 2 ((r_1.1).length),Ii (lN (r_1.1)),Ii v_1,.tuple [],.tuple [],.tuple [],.tuple [],.bool true] [Vb 32 (zK p_1),Rb 45 6 (Mp zN zL),Rb 28 1 (List.map (fun l=>AV.sl false 1 (l.map (AV.int .u8))) r_1.1),Vb 45 (zT r_2.1)] zF (ac z9 (ac z9 (ac z9 (ac z9 (ac z9 an))))) ?_
    exact ⟨rfl,(sw [0,1,3,2] [] [.s 1,.s 6,.s 9,.s 18,.s 19,.s 20,.a 41 (.bool ((r_2.2.2 != (0:Int))||(r_2.2.1 != (lN (x_1)))))] [.s 0,.s 1,.s 2,.s 3] (ac (congrArg AV.bool (ort z9):(.bool true:AV)=.bool ((r_2.2.2 != (0:Int))||(r_2.2.1 != (lN (x_1))))) an))⟩
   ·refine rg [(5,{ n:=(x_1).length }),(7,Hf)] [1,6,9,18,19,20,37,38,39,40,41] [0,1,2,3] 4 [Pp 0,.own 1 ((zL).length),Pp 3,.own 2 ((r_1.1).length),Ii (lN (r_1.1)),Ii v_1,Ii r_2.2.1,.sl false 1 (Mb x_1),Ii (lN (x_1)),.bool (r_2.2.1 != (lN (x_1))),.bool (r_2.2.1 != (lN (x_1)))] [Vb 32 (zK p_1),Rb 45 6 (Mp zN zL),Rb 28 1 (List.map (fun l=>AV.sl false 1 (l.map (AV.int .u8))) r_1.1),Vb 45 (zT r_2.1)] zF (ac z9 (ac z9 (ac z9 (ac (yO _:((Mb x_1)).length=(x_1).length) (ac z9 (ac z9 an)))))) ?_
    exact ⟨rfl,(sw [0,1,3,2] [] [.s 1,.s 6,.s 9,.s 18,.s 19,.s 20,.a 41 (.bool ((r_2.2.2 != (0:Int))||(r_2.2.1 != (lN (x_1)))))] [.s 0,.s 1,.s 2,.s 3] (ac (congrArg AV.bool (orf z9 rfl):(.bool (r_2.2.1 != (lN (x_1))):AV)=.bool ((r_2.2.2 != (0:Int))||(r_2.2.1 != (lN (x_1))))) an))⟩
  refine cd 41 ((r_2.2.2 != (0:Int))||(r_2.2.1 != (lN (x_1)))) ?_ ?_
  rotate_left
  ·intro g_2;replace h:=zW g_2 h
   refine sk ?_
   obtain ⟨_,h_5,h⟩:=bind_some h;replace h_5:=yU h_5
   refine rg [(2,{ id:=4 }),(3,{ id:=5,l:=(Mp zN (zL++([r_2.1]:List zE))),n:=((zL++([r_2.1]:List zE))).length })] [1,6,18,19,20] [0,3,5] 6 [Pp 0,.own 5 (((zL++([r_2.1]:List zE))).length),.own 3 ((r_1.1).length),Ii (lN (r_1.1)),Ii v_1] [Vb 32 (zK p_1),Rb 28 1 (List.map (fun l=>AV.sl false 1 (l.map (AV.int .u8))) r_1.1),Rb 45 6 (Mp zN (zL++([r_2.1]:List zE)))] zF (ac (by first | (simp;done) | (simp;omega):(zL).length=((List.map zN zL)).length) (ac (by first | (simp;done) | (simp;omega):1=((List.map zN ([r_2.1]:List zE))).length) (ac (zA2 _ _:(Mp zN (zL++([r_2.1]:List zE)))=(Mp zN zL)++(Mp zN ([r_2.1]:List zE))) (ac (by simp:((zL++([r_2.1]:List zE))).length=((List.map zN (zL++([r_2.1]:List zE)))).length) (ac (by first | (simp;done) | simpa using h_5:(((List.map zN zL):List AV).length+((List.map zN ([r_2.1]:List zE)):List AV).length) * 72≤140737488355328) an))))) ?_
   refine rg [] [1,6,18,19,20] [0,3,5] 6 [Pp 0,.own 5 (((zL++([r_2.1]:List zE))).length),.own 3 ((r_1.1).length),Ii (lN (r_1.1)),Ii (zG (v_1+(1:Int)))] [Vb 32 (zK p_1),Rb 28 1 (List.map (fun l=>AV.sl false 1 (l.map (AV.int .u8))) r_1.1),Rb 45 6 (Mp zN (zL++([r_2.1]:List zE)))] zF an ?_
   exact ⟨_,(sw [0,5,3] [] [.s 1,.s 6,.s 18,.s 19,.s 20] [.s 0,.s 1,.s 2] an),_,_,rfl,h⟩
  intro g_2;replace h:=zV g_2 h
  refine sr [(0,{ id:=4,m:=1 })] [2,3] [4] 5 [.own 4 0,.bool false] [Rb 45 6 []] zF an ?_
  refine wk [4] [] [.a 2 (.own 0 ((([]:List zE)).length)),.s 3] [.s 0] [(2,.own 0 ((([]:List zE)).length)),(3,.bool false)] [(0,Rb 45 6 [])] (ac (congrArg (AV.own _) (by first | (simp;done) | (simp;omega)):(.own 4 0:AV)=.own 4 ((([]:List zE)).length)) an) ?_
  refine rt ?_
  cases h
  exact ⟨rfl,Nat.le_of_ble_eq_true rfl,by kernel_rfl⟩
 intro e st1 hk
 rcases o_1 with q_1 | q_2
 rotate_left
 ·obtain ⟨rfl,hf⟩:=hk
  cases h
  exact ⟨st1,Sub.refl _ _,.inr rfl,hf⟩
 obtain ⟨rfl,hs⟩:=hk
 refine ⟨_,hs,?_⟩
 refine sr [] [2,3] [0] 1 [.own 0 ((q_1).length),.bool true] [Rb 45 6 (Mp zN q_1)] zF an ?_
 refine wk [0] [] [.s 2,.s 3] [.s 0] [(2,.own 0 ((q_1).length)),(3,.bool true)] [(0,Rb 45 6 (Mp zN q_1))] an ?_
 refine rt ?_
 cases h
 exact ⟨.inr rfl,Nat.le_of_ble_eq_true rfl,by kernel_rfl⟩
theorem zBm (F:Nat) (p_1:zA) (r:(List (zE))×Int) (h:qP F p_1=some r):zS prog 34 [] [] [zM p_1] [.row 45 6 (Mp zN r.1)] (.tuple [.own 0 ((r.1).length),Ii r.2]):=by
 refine yD (fn:=Go.Proofs.Try.f34) (code:=y5 Go.Proofs.Try.f34) (by kernel_rfl) (by kernel_rfl) (Nat.le_of_ble_eq_true (by kernel_rfl)) ?_
 unfold qP at h
 refine sr [(0,{ id:=0 }),(1,{ id:=1,m:=1 })] [1] [0] 2 [Pp 0] [Vb 32 (zK p_1)] zF an ?_
 refine sq ?_
 refine sq ?_
 obtain ⟨r_1,h_1,h⟩:=bind_some h
 refine rg [(2,{ av:=Ii r_1,l:=[xI p_1.Thread] })] [1,4] [0] 2 [Pp 0,Ii r_1] [Vb 32 (zK p_1)] zF (ar ([xI p_1.Thread]:List AV) (ac (rfl:([]:List zU)=[]) (ac (zBY F p_1.Thread r_1 h_1:zS prog 11 [] [] [xI p_1.Thread] [] (Ii r_1)) an))) ?_
 refine sr [] [1,4,16] [0] 2 [Pp 0,Ii r_1,.bool (r_1 != (0:Int))] [Vb 32 (zK p_1)] zF an ?_
 refine cd 16 (r_1 != (0:Int)) ?_ ?_
 ·intro g_1;replace h:=zV g_1 h
  refine sr [(1,{ id:=2,m:=1 })] [2,3] [2] 3 [.own 2 0,Ii r_1] [Rb 45 6 []] zF an ?_
  refine wk [2] [] [.a 2 (.own 0 ((([]:List zE)).length)),.s 3] [.s 0] [(2,.own 0 ((([]:List zE)).length)),(3,Ii r_1)] [(0,Rb 45 6 [])] (ac (congrArg (AV.own _) (by first | (simp;done) | (simp;omega)):(.own 2 0:AV)=.own 2 ((([]:List zE)).length)) an) ?_
  refine rt ?_
  cases h
  exact ⟨.inr rfl,Nat.le_of_ble_eq_true rfl,by kernel_rfl⟩
 intro g_1;replace h:=zW g_1 h
 refine sk ?_
 refine sq ?_
 refine sq ?_
 obtain ⟨r_2,h_2,h⟩:=bind_some h
 refine rg [(4,{ av:=Ii r_2,l:=[.sl false 1 (Ms p_1.Names),.sl false 2 (Mp zD p_1.Stacks)] })] [1,5] [0] 2 [Pp 0,Ii r_2] [Vb 32 (zK p_1)] zF (ar ([.sl false 1 (Ms p_1.Names),.sl false 2 (Mp zD p_1.Stacks)]:List AV) (ac (rfl:([]:List zU)=[]) (ac (nW F p_1.Names p_1.Stacks r_2 h_2:zS prog 50 [] [] [.sl false 1 (Ms p_1.Names),.sl false 2 (Mp zD p_1.Stacks)] [] (Ii r_2)) an))) ?_
 refine sr [] [1,5,24] [0] 2 [Pp 0,Ii r_2,.bool (r_2 != (0:Int))] [Vb 32 (zK p_1)] zF an ?_
 refine cd 24 (r_2 != (0:Int)) ?_ ?_
 ·intro g_2;replace h:=zV g_2 h
  refine sr [(1,{ id:=2,m:=1 })] [2,3] [2] 3 [.own 2 0,Ii r_2] [Rb 45 6 []] zF an ?_
  refine wk [2] [] [.a 2 (.own 0 ((([]:List zE)).length)),.s 3] [.s 0] [(2,.own 0 ((([]:List zE)).length)),(3,Ii r_2)] [(0,Rb 45 6 [])] (ac (congrArg (AV.own _) (by first | (simp;done) | (simp;omega)):(.own 2 0:AV)=.own 2 ((([]:List zE)).length)) an) ?_
  refine rt ?_
  cases h
  exact ⟨.inr rfl,Nat.le_of_ble_eq_true rfl,by kernel_rfl⟩
 intro g_2;replace h:=zW g_2 h
 refine sk ?_
 refine sq ?_
 refine sq ?_
 obtain ⟨r_3,h_3,h⟩:=bind_some h
 refine rg [(2,{ av:=Ii r_3,l:=[z6 p_1.Ring] })] [1,6] [0] 2 [Pp 0,Ii r_3] [Vb 32 (zK p_1)] zF (ar ([z6 p_1.Ring]:List AV) (ac (rfl:([]:List zU)=[]) (ac (zHI F p_1.Ring r_3 h_3:zS prog 51 [] [] [z6 p_1.Ring] [] (Ii r_3)) an))) ?_
 refine sr [] [1,6,30] [0] 2 [Pp 0,Ii r_3,.bool (r_3 != (0:Int))] [Vb 32 (zK p_1)] zF an ?_
 refine cd 30 (r_3 != (0:Int)) ?_ ?_
 ·intro g_3;replace h:=zV g_3 h
  refine sr [(1,{ id:=2,m:=1 })] [2,3] [2] 3 [.own 2 0,Ii r_3] [Rb 45 6 []] zF an ?_
  refine wk [2] [] [.a 2 (.own 0 ((([]:List zE)).length)),.s 3] [.s 0] [(2,.own 0 ((([]:List zE)).length)),(3,Ii r_3)] [(0,Rb 45 6 [])] (ac (congrArg (AV.own _) (by first | (simp;done) | (simp;omega)):(.own 2 0:AV)=.own 2 ((([]:List zE)).length)) an) ?_
  refine rt ?_
  cases h
  exact ⟨.inr rfl,Nat.le_of_ble_eq_true rfl,by kernel_rfl⟩
 intro g_3;replace h:=zW g_3 h
 refine sk ?_
 refine sq ?_
 refine sq ?_
 refine yV (mk [(1,Pp 0),(52,.bool (decide (p_1.Sent<(0:Int))||(decide (p_1.Sent>p_1.Ring.First)||(decide (p_1.Last<(0:Int))||decide (p_1.Last>(1000000000000:Int))))))] [(0,Vb 32 (zK p_1))] 1) ?_ ?_
 ·rcases bft (decide (p_1.Sent<(0:Int))) with yE | yE
  ·refine rg [(4,Hg),(5,Hg),(6,Hg),(7,Hg),(8,Hg),(9,Hg),(10,Ht),(12,Hg),(13,Hg),(14,Hg),(15,Ht),(17,Hg),(18,Hg),(19,Hg),(20,Ht)] [1,52] [0] 2 [Pp 0,.bool true] [Vb 32 (zK p_1)] zF (ac yE (ac yE (ac yE (ac yE (ac yE (ac yE (ac yE (ax (ax (ax (ar true (ax (ax (ax (ar true an))))))))))))))) ?_
   exact ⟨rfl,(sw [0] [] [.s 1,.a 52 (.bool (decide (p_1.Sent<(0:Int))||(decide (p_1.Sent>p_1.Ring.First)||(decide (p_1.Last<(0:Int))||decide (p_1.Last>(1000000000000:Int))))))] [.s 0] (ac (congrArg AV.bool (ort yE):(.bool true:AV)=.bool (decide (p_1.Sent<(0:Int))||(decide (p_1.Sent>p_1.Ring.First)||(decide (p_1.Last<(0:Int))||decide (p_1.Last>(1000000000000:Int)))))) an))⟩
  ·rcases bft (decide (p_1.Sent>p_1.Ring.First)) with z5 | z5
   ·refine rg [(10,Hf),(12,Hg),(13,Hg),(14,Hg),(15,Ht),(17,Hg),(18,Hg),(19,Hg),(20,Ht)] [1,52] [0] 2 [Pp 0,.bool true] [Vb 32 (zK p_1)] zF (ac yE (ac yE (ac yE (ac yE (ac yE (ac yE (ac yE (ac z5 (ac z5 (ac z5 (ac z5 (ax (ax (ax (ar true an))))))))))))))) ?_
    exact ⟨rfl,(sw [0] [] [.s 1,.a 52 (.bool (decide (p_1.Sent<(0:Int))||(decide (p_1.Sent>p_1.Ring.First)||(decide (p_1.Last<(0:Int))||decide (p_1.Last>(1000000000000:Int))))))] [.s 0] (ac (congrArg AV.bool (orf yE (ort z5)):(.bool true:AV)=.bool (decide (p_1.Sent<(0:Int))||(decide (p_1.Sent>p_1.Ring.First)||(decide (p_1.Last<(0:Int))||decide (p_1.Last>(1000000000000:Int)))))) an))⟩
   ·rcases bft (decide (p_1.Last<(0:Int))) with yF | yF
    ·refine rg [(10,Hf),(15,Hf),(17,Hg),(18,Hg),(19,Hg),(20,Ht)] [1,52] [0] 2 [Pp 0,.bool true] [Vb 32 (zK p_1)] zF (ac yE (ac yE (ac yE (ac yE (ac yE (ac yE (ac yE (ac z5 (ac z5 (ac z5 (ac z5 (ac yF (ac yF (ac yF (ac yF an))))))))))))))) ?_
     exact ⟨rfl,(sw [0] [] [.s 1,.a 52 (.bool (decide (p_1.Sent<(0:Int))||(decide (p_1.Sent>p_1.Ring.First)||(decide (p_1.Last<(0:Int))||decide (p_1.Last>(1000000000000:Int))))))] [.s 0] (ac (congrArg AV.bool (orf yE (orf z5 (ort yF))):(.bool true:AV)=.bool (decide (p_1.Sent<(0:Int))||(decide (p_1.Sent>p_1.Ring.First)||(decide (p_1.Last<(0:Int))||decide (p_1.Last>(1000000000000:Int)))))) an))⟩
    ·refine rg [(10,Hf),(15,Hf),(20,Hf)] [1,52] [0] 2 [Pp 0,.bool (decide (p_1.Last>(1000000000000:Int)))] [Vb 32 (zK p_1)] zF (ac yE (ac yE (ac yE (ac yE (ac yE (ac yE (ac yE (ac z5 (ac z5 (ac z5 (ac z5 (ac yF (ac yF (ac yF (ac yF an))))))))))))))) ?_
     exact ⟨rfl,(sw [0] [] [.s 1,.a 52 (.bool (decide (p_1.Sent<(0:Int))||(decide (p_1.Sent>p_1.Ring.First)||(decide (p_1.Last<(0:Int))||decide (p_1.Last>(1000000000000:Int))))))] [.s 0] (ac (congrArg AV.bool (orf yE (orf z5 (orf yF rfl))):(.bool (decide (p_1.Last>(1000000000000:Int))):AV)=.bool (decide (p_1.Sent<(0:Int))||(decide (p_1.Sent>p_1.Ring.First)||(decide (p_1.Last<(0:Int))||decide (p_1.Last>(1000000000000:Int)))))) an))⟩
 refine cd 52 (decide (p_1.Sent<(0:Int))||(decide (p_1.Sent>p_1.Ring.First)||(decide (p_1.Last<(0:Int))||decide (p_1.Last>(1000000000000:Int))))) ?_ ?_
 ·intro g_4;replace h:=zV g_4 h
  refine sr [(0,{ id:=1,m:=1 })] [2,3] [1] 2 [.own 1 0,Ii 2] [Rb 45 6 []] zF an ?_
  refine wk [1] [] [.a 2 (.own 0 ((([]:List zE)).length)),.s 3] [.s 0] [(2,.own 0 ((([]:List zE)).length)),(3,Ii 2)] [(0,Rb 45 6 [])] (ac (congrArg (AV.own _) (by first | (simp;done) | (simp;omega)):(.own 1 0:AV)=.own 1 ((([]:List zE)).length)) an) ?_
  refine rt ?_
  cases h
  exact ⟨.inr rfl,Nat.le_of_ble_eq_true rfl,by kernel_rfl⟩
 intro g_4;replace h:=zW g_4 h
 refine sk ?_
 refine sq ?_
 obtain ⟨r_4,h_4,h⟩:=bind_some h
 refine rg [(1,{ av:=.tuple [.own 0 ((r_4.1).length),.bool r_4.2],ids:=[1],l:=[zM p_1],post:=[(.row 45 6 (Mp zN r_4.1))] })] [1,7,8] [0,1] 2 [Pp 0,.own 1 ((r_4.1).length),.bool r_4.2] [Vb 32 (zK p_1),Rb 45 6 (Mp zN r_4.1)] zF (ar ([zM p_1]:List AV) (ac (rfl:([]:List zU)=[]) (ac (zEe F p_1 r_4 h_4:zS prog 52 [] [] [zM p_1] [(.row 45 6 (Mp zN r_4.1))] (.tuple [.own 0 ((r_4.1).length),.bool r_4.2])) an))) ?_
 refine sr [] [1,7,8,9] [0,1] 2 [Pp 0,.own 1 ((r_4.1).length),.bool r_4.2,Ii 0] [Vb 32 (zK p_1),Rb 45 6 (Mp zN r_4.1)] zF an ?_
 refine sq ?_
 refine sr [] [1,7,8,9,58,59,60] [0,1] 2 [Pp 0,.own 1 ((r_4.1).length),.bool r_4.2,Ii 0,.own 1 ((r_4.1).length),Ii (lN (r_4.1)),Ii 0] [Vb 32 (zK p_1),Rb 45 6 (Mp zN r_4.1)] zF an ?_
 obtain ⟨o_1,h_5,h⟩:=bind_some h
 refine yV (mk [(1,Pp 0),(7,.own 1 ((r_4.1).length)),(8,.bool o_1.1),(9,Ii o_1.2)] [(0,Vb 32 (zK p_1)),(1,Rb 45 6 (Mp zN r_4.1))] 2) ?_ ?_
 ·replace h:=h_5
  refine yN (id:=0) (by kernel_rfl) ?_
  refine wk [0,1] [] [.s 1,.s 7,.s 8,.s 9,.s 58,.s 59,.s 60] [.s 0,.s 1] [(1,Pp 0),(7,.own 1 ((r_4.1).length)),(8,.bool r_4.2),(9,Ii 0),(58,.own 1 ((r_4.1).length)),(59,Ii (lN (r_4.1))),(60,Ii 0)] [(0,Vb 32 (zK p_1)),(1,Rb 45 6 (Mp zN r_4.1))] an ?_
  refine wH (fun n st=>∃ (p9:Bool),∃ (uP:Int),∃ (v_1:Int),st=mk [(1,Pp 0),(7,.own 1 ((r_4.1).length)),(8,.bool p9),(9,Ii uP),(58,.own 1 ((r_4.1).length)),(59,Ii (lN (r_4.1))),(60,Ii v_1)] [(0,Vb 32 (zK p_1)),(1,Rb 45 6 (Mp zN r_4.1))] 2∧uX F r_4 n p9 uP v_1=some o_1) F (by kernel_rfl) ⟨_,_,_,rfl,h⟩ ?_ ?_
  ·rintro _ ⟨_,_,_,_,h⟩;exact w5 (h:(none:Option (Bool×Int))=some o_1)
  rintro n_1 _ ⟨p9,uP,v_1,rfl,h⟩
  replace h:uE F r_4 (uX F r_4 n_1) p9 uP v_1=some o_1:=h
  unfold uE at h
  refine sr [] [1,7,8,9,58,59,60,61] [0,1] 2 [Pp 0,.own 1 ((r_4.1).length),.bool p9,Ii uP,.own 1 ((r_4.1).length),Ii (lN (r_4.1)),Ii v_1,.bool (decide (v_1<(lN (r_4.1))))] [Vb 32 (zK p_1),Rb 45 6 (Mp zN r_4.1)] zF an ?_
  refine sq ?_
  refine cd 61 (decide (v_1<(lN (r_4.1)))) ?_ ?_
  rotate_left
  ·intro g_5;replace h:=zW g_5 h
   refine wS (id:=0) (by kernel_rfl) ?_
   cases h
   exact ⟨rfl,(sw [0,1] [] [.s 1,.s 7,.s 8,.s 9] [.s 0,.s 1] an)⟩
  intro g_5;replace h:=zV g_5 h
  refine sk ?_
  refine sq ?_
  refine yN (id:=1) (by kernel_rfl) ?_
  refine sq ?_
  obtain ⟨x_1,h_6,h⟩:=bind_some h
  refine rg [(1,{ av:=zN x_1 }),(2,{ id:=2 })] [1,7,8,9,11,58,59,60] [0,1,2] 3 [Pp 0,.own 1 ((r_4.1).length),.bool p9,Ii uP,Pp 2,.own 1 ((r_4.1).length),Ii (lN (r_4.1)),Ii v_1] [Vb 32 (zK p_1),Rb 45 6 (Mp zN r_4.1),Vb 45 (zT x_1)] zF (ac (y6 h_6:(0:Int)≤v_1) (ac (by first | (simp;done) | simpa using y7 h_6:v_1<(((r_4.1).length:Nat):Int)) (ac (xD h_6:(Mp zN r_4.1)[(v_1).toNat]?=some (zN x_1)) an))) ?_
  refine sq ?_
  refine yV (mk [(1,Pp 0),(7,.own 1 ((r_4.1).length)),(8,.bool (p9&&decide (x_1.At≥uP))),(11,Pp 2),(58,.own 1 ((r_4.1).length)),(59,Ii (lN (r_4.1))),(60,Ii v_1)] [(0,Vb 32 (zK p_1)),(1,Rb 45 6 (Mp zN r_4.1)),(2,Vb 45 (zT x_1))] 3) ?_ ?_
  ·rcases Bool.eq_false_or_eq_true p9 with yX | yX
   ·refine rg [(6,Ht)] [1,7,8,11,58,59,60,66,67,68,69] [0,1,2] 3 [Pp 0,.own 1 ((r_4.1).length),.bool (decide (x_1.At≥uP)),Pp 2,.own 1 ((r_4.1).length),Ii (lN (r_4.1)),Ii v_1,Pp 2,Ii x_1.At,Ii uP,.bool (decide (x_1.At≥uP))] [Vb 32 (zK p_1),Rb 45 6 (Mp zN r_4.1),Vb 45 (zT x_1)] zF (ac yX (ac yX (ac yX (ac yX (ac yX an))))) ?_
    exact ⟨rfl,(sw [0,1,2] [] [.s 1,.s 7,.a 8 (.bool (p9&&decide (x_1.At≥uP))),.s 11,.s 58,.s 59,.s 60] [.s 0,.s 1,.s 2] (ac (congrArg AV.bool (qS yX rfl):(.bool (decide (x_1.At≥uP)):AV)=.bool (p9&&decide (x_1.At≥uP))) an))⟩
   ·refine rg [(2,Hg),(3,Hg),(4,Hg),(5,Hg),(6,Hf)] [1,7,8,11,58,59,60,66,67,68,69] [0,1,2] 3 [Pp 0,.own 1 ((r_4.1).length),.bool false,Pp 2,.own 1 ((r_4.1).length),Ii (lN (r_4.1)),Ii v_1,.tuple [],.tuple [],.tuple [],.tuple []] [Vb 32 (zK p_1),Rb 45 6 (Mp zN r_4.1),Vb 45 (zT x_1)] zF (ac yX (ac yX (ac yX (ac yX (ac yX an))))) ?_
    exact ⟨rfl,(sw [0,1,2] [] [.s 1,.s 7,.a 8 (.bool (p9&&decide (x_1.At≥uP))),.s 11,.s 58,.s 59,.s 60] [.s 0,.s 1,.s 2] (ac (congrArg AV.bool (n8 yX):(.bool false:AV)=.bool (p9&&decide (x_1.At≥uP))) an))⟩
  refine rg [] [1,7,8,9,58,59,60] [0,1] 3 [Pp 0,.own 1 ((r_4.1).length),.bool (p9&&decide (x_1.At≥uP)),Ii x_1.At,.own 1 ((r_4.1).length),Ii (lN (r_4.1)),Ii v_1] [Vb 32 (zK p_1),Rb 45 6 (Mp zN r_4.1)] zF an ?_
  refine rg [] [1,7,8,9,58,59,60] [0,1] 3 [Pp 0,.own 1 ((r_4.1).length),.bool (p9&&decide (x_1.At≥uP)),Ii x_1.At,.own 1 ((r_4.1).length),Ii (lN (r_4.1)),Ii (zG (v_1+(1:Int)))] [Vb 32 (zK p_1),Rb 45 6 (Mp zN r_4.1)] zF an ?_
  exact ⟨_,(sw [0,1] [] [.s 1,.s 7,.s 8,.s 9,.s 58,.s 59,.s 60] [.s 0,.s 1] an),_,_,_,rfl,h⟩
 refine sq ?_
 refine sq ?_
 refine yV (mk [(7,.own 0 ((r_4.1).length)),(81,.bool (!o_1.1||decide (o_1.2>p_1.Last)))] [(0,Rb 45 6 (Mp zN r_4.1))] 1) ?_ ?_
 ·rcases bft (!o_1.1) with xP | xP
  ·refine rg [(3,Hg),(4,Hg),(5,Hg),(6,Hg),(7,Ht)] [7,81] [1] 2 [.own 1 ((r_4.1).length),.bool true] [Rb 45 6 (Mp zN r_4.1)] zF (ac xP (ac xP (ac xP (ac xP (ac xP an))))) ?_
   exact ⟨rfl,(sw [1] [] [.s 7,.a 81 (.bool (!o_1.1||decide (o_1.2>p_1.Last)))] [.s 0] (ac (congrArg AV.bool (ort xP):(.bool true:AV)=.bool (!o_1.1||decide (o_1.2>p_1.Last))) an))⟩
  ·refine rg [(7,Hf)] [7,81] [1] 2 [.own 1 ((r_4.1).length),.bool (decide (o_1.2>p_1.Last))] [Rb 45 6 (Mp zN r_4.1)] zF (ac xP (ac xP (ac xP (ac xP (ac xP an))))) ?_
   exact ⟨rfl,(sw [1] [] [.s 7,.a 81 (.bool (!o_1.1||decide (o_1.2>p_1.Last)))] [.s 0] (ac (congrArg AV.bool (orf xP rfl):(.bool (decide (o_1.2>p_1.Last)):AV)=.bool (!o_1.1||decide (o_1.2>p_1.Last))) an))⟩
 refine cd 81 (!o_1.1||decide (o_1.2>p_1.Last)) ?_ ?_
 ·intro g_6;replace h:=zV g_6 h
  refine sr [(0,{ id:=1,m:=1 })] [2,3] [1] 2 [.own 1 0,Ii 10] [Rb 45 6 []] zF an ?_
  refine wk [1] [] [.a 2 (.own 0 ((([]:List zE)).length)),.s 3] [.s 0] [(2,.own 0 ((([]:List zE)).length)),(3,Ii 10)] [(0,Rb 45 6 [])] (ac (congrArg (AV.own _) (by first | (simp;done) | (simp;omega)):(.own 1 0:AV)=.own 1 ((([]:List zE)).length)) an) ?_
  refine rt ?_
  cases h
  exact ⟨.inr rfl,Nat.le_of_ble_eq_true rfl,by kernel_rfl⟩
 intro g_6;replace h:=zW g_6 h
 refine sk ?_
 refine sr [] [2,3] [0] 1 [.own 0 ((r_4.1).length),Ii 0] [Rb 45 6 (Mp zN r_4.1)] zF an ?_
 refine wk [0] [] [.s 2,.s 3] [.s 0] [(2,.own 0 ((r_4.1).length)),(3,Ii 0)] [(0,Rb 45 6 (Mp zN r_4.1))] an ?_
 refine rt ?_
 cases h
 exact ⟨.inr rfl,Nat.le_of_ble_eq_true rfl,by kernel_rfl⟩
theorem zAA (F:Nat) (p_1:zA) (r:Int) (h:qN F p_1=some r):zS prog 14 [] [] [zM p_1] [] (Ii r):=by
 refine yD (fn:=Go.Proofs.Try.f14) (code:=y5 Go.Proofs.Try.f14) (by kernel_rfl) (by kernel_rfl) (Nat.le_of_ble_eq_true (by kernel_rfl)) ?_
 unfold qN at h
 refine sr [(0,{ id:=0 })] [1] [0] 1 [Pp 0] [Vb 32 (zK p_1)] zF an ?_
 refine sq ?_
 obtain ⟨r_1,h_1,h⟩:=bind_some h
 refine rg [(1,{ av:=.tuple [.own 0 ((r_1.1).length),Ii r_1.2],ids:=[1],l:=[zM p_1],post:=[(.row 45 6 (Mp zN r_1.1))] })] [4] [] 2 [Ii r_1.2] [] zF (ar ([zM p_1]:List AV) (ac (rfl:([]:List zU)=[]) (ac (zBm F p_1 r_1 h_1:zS prog 34 [] [] [zM p_1] [(.row 45 6 (Mp zN r_1.1))] (.tuple [.own 0 ((r_1.1).length),Ii r_1.2])) an))) ?_
 refine sr [] [2] [] 2 [Ii r_1.2] [] zF an ?_
 refine rt ?_
 cases h
 exact ⟨.inr rfl,Nat.le_of_ble_eq_true rfl,by kernel_rfl⟩
theorem zFS (n_1:Int) (r:Int) (h:zAf n_1=some r):zS prog 88 [] [] [Ii n_1] [] (.int .u64 r):=by
 refine yD (fn:=Go.Proofs.Try.f88) (code:=y5 Go.Proofs.Try.f88) (by kernel_rfl) (by kernel_rfl) (Nat.le_of_ble_eq_true (by kernel_rfl)) ?_
 unfold zAf at h
 refine sr [] [0] [] 0 [Ii n_1] [] zF an ?_
 refine sr [] [2] [] 0 [.int .u64 (zAJ .u64 (kU .u64 (yG n_1) (1:Int)) (yG (nT .i64 n_1 (63:Int))))] [] zF (ac (by decide:(0:Int)≤(1:Int)) (ac (by decide:(0:Int)≤(63:Int)) an)) ?_
 refine rt ?_
 cases h
 exact ⟨.inr rfl,Nat.le_of_ble_eq_true rfl,by kernel_rfl⟩
theorem uV (F:Nat) (b_1:List (Int)) (n_1:Int) (r:(List (Int))) (h:x9 F b_1 n_1=some r):zS prog 59 [] [] [.sl false 1 (Mb b_1),Ii n_1] [.row 5 1 (Mb r)] (.own 0 ((r).length)):=by
 refine yD (fn:=Go.Proofs.Try.f59) (code:=y5 Go.Proofs.Try.f59) (by kernel_rfl) (by kernel_rfl) (Nat.le_of_ble_eq_true (by kernel_rfl)) ?_
 unfold x9 at h
 refine sr [(0,{ id:=0,m:=1 })] [0,1] [] 1 [.sl false 1 (Mb b_1),Ii n_1] [] zF an ?_
 refine sr [(0,{ b:=true,id:=1 })] [0,1,5] [1] 2 [.sl false 1 (Mb b_1),Ii n_1,Pp 1] [Rb 125 1 (Mb (List.replicate 10 (0:Int)))] zF an ?_
 refine sr [] [0,1,5,6] [1] 2 [.sl false 1 (Mb b_1),Ii n_1,Pp 1,Ii 0] [Rb 125 1 (Mb (List.replicate 10 (0:Int)))] zF an ?_
 refine sq ?_
 refine sq ?_
 obtain ⟨r_1,h_1,h⟩:=bind_some h
 refine rg [(1,{ av:=.int .u64 r_1,l:=[Ii n_1] })] [0,5,6,7] [1] 2 [.sl false 1 (Mb b_1),Pp 1,Ii 0,.int .u64 r_1] [Rb 125 1 (Mb (List.replicate 10 (0:Int)))] zF (ar ([Ii n_1]:List AV) (ac (rfl:([]:List zU)=[]) (ac (zFS n_1 r_1 h_1:zS prog 88 [] [] [Ii n_1] [] (.int .u64 r_1)) an))) ?_
 obtain ⟨o_1,h_2,h⟩:=bind_some h
 refine yV (mk [(0,.sl false 1 (Mb b_1)),(5,Pp 0),(6,Ii o_1.1)] [(0,Rb 125 1 (Mb o_1.2))] 1) ?_ ?_
 ·replace h:=h_2
  refine yN (id:=0) (by kernel_rfl) ?_
  refine wk [1] [] [.s 0,.s 5,.s 6,.s 7] [.s 0] [(0,.sl false 1 (Mb b_1)),(5,Pp 0),(6,Ii 0),(7,.int .u64 r_1)] [(0,Rb 125 1 (Mb (List.replicate 10 (0:Int))))] an ?_
  refine wH (fun n st=>∃ (yA:Int),∃ (u_1:Int),∃ (zL:List Int),st=mk [(0,.sl false 1 (Mb b_1)),(5,Pp 0),(6,Ii yA),(7,.int .u64 u_1)] [(0,Rb 125 1 (Mb zL))] 1∧uW F n yA u_1 zL=some o_1) F (by kernel_rfl) ⟨_,_,_,rfl,h⟩ ?_ ?_
  ·rintro _ ⟨_,_,_,_,h⟩;exact w5 (h:(none:Option (Int×(List Int)))=some o_1)
  rintro n_2 _ ⟨yA,u_1,zL,rfl,h⟩
  replace h:vV F (uW F n_2) yA u_1 zL=some o_1:=h
  unfold vV at h
  refine sq ?_
  refine yN (id:=1) (by kernel_rfl) ?_
  refine sq ?_
  obtain ⟨_,h_3,h⟩:=bind_some h;replace h_3:=yU h_3
  obtain ⟨x_1,h_4,h⟩:=bind_some h
  refine rg [(4,Ht),(5,{ av:=Iu x_1,l:=(Mb ((zL).set ((yA).toNat) (p8 (vT .u64 u_1 (127:Int))))) })] [0,5,6,7] [0] 1 [.sl false 1 (Mb b_1),Pp 0,Ii yA,.int .u64 u_1] [Rb 125 1 (Mb ((zL).set ((yA).toNat) (p8 (vT .u64 u_1 (127:Int)))))] zF (ac h_3.1 (ac h_3.2 (ac (zGH h_4:(Mb zL)[(yA).toNat]?=some (Iu x_1)) (ac (zDo _ _ _:(Mb ((zL).set ((yA).toNat) (p8 (vT .u64 u_1 (127:Int)))))=List.set (Mb zL) ((yA).toNat) (nO (Iu x_1) 0 [Iu (p8 (vT .u64 u_1 (127:Int)))])) an)))) ?_
  refine sr [] [0,5,6,7] [0] 1 [.sl false 1 (Mb b_1),Pp 0,Ii (zG (yA+(1:Int))),.int .u64 u_1] [Rb 125 1 (Mb ((zL).set ((yA).toNat) (p8 (vT .u64 u_1 (127:Int)))))] zF an ?_
  refine sq ?_
  refine sr [] [0,5,6,7,20] [0] 1 [.sl false 1 (Mb b_1),Pp 0,Ii (zG (yA+(1:Int))),.int .u64 u_1,.bool (decide (u_1<(128:Int)))] [Rb 125 1 (Mb ((zL).set ((yA).toNat) (p8 (vT .u64 u_1 (127:Int)))))] zF an ?_
  refine cd 20 (decide (u_1<(128:Int))) ?_ ?_
  ·intro g_1;replace h:=zV g_1 h
   refine wS (id:=0) (by kernel_rfl) ?_
   cases h
   exact ⟨rfl,(sw [0] [] [.s 0,.s 5,.s 6] [.s 0] an)⟩
  intro g_1;replace h:=zW g_1 h
  refine sk ?_
  obtain ⟨_,h_5,h⟩:=bind_some h;replace h_5:=yU h_5
  obtain ⟨x_2,h_6,h⟩:=bind_some h
  obtain ⟨_,h_7,h⟩:=bind_some h;replace h_7:=yU h_7
  obtain ⟨x_3,h_8,h⟩:=bind_some h
  refine rg [(2,Ht),(3,{ av:=Iu x_2 }),(5,Ht),(6,{ av:=Iu x_3,l:=(Mb (((zL).set ((yA).toNat) (p8 (vT .u64 u_1 (127:Int)))).set ((zG ((zG (yA+(1:Int))) - (1:Int))).toNat) (ior .u8 x_2 (128:Int)))) })] [0,5,6,7] [0] 1 [.sl false 1 (Mb b_1),Pp 0,Ii (zG (yA+(1:Int))),.int .u64 u_1] [Rb 125 1 (Mb (((zL).set ((yA).toNat) (p8 (vT .u64 u_1 (127:Int)))).set ((zG ((zG (yA+(1:Int))) - (1:Int))).toNat) (ior .u8 x_2 (128:Int))))] zF (ac h_5.1 (ac h_5.2 (ac (zGH h_6:(Mb ((zL).set ((yA).toNat) (p8 (vT .u64 u_1 (127:Int)))))[(zG ((zG (yA+(1:Int))) - (1:Int))).toNat]?=some (Iu x_2)) (ac h_7.1 (ac h_7.2 (ac (zGH h_8:(Mb ((zL).set ((yA).toNat) (p8 (vT .u64 u_1 (127:Int)))))[(zG ((zG (yA+(1:Int))) - (1:Int))).toNat]?=some (Iu x_3)) (ac (zDo _ _ _:(Mb (((zL).set ((yA).toNat) (p8 (vT .u64 u_1 (127:Int)))).set ((zG ((zG (yA+(1:Int))) - (1:Int))).toNat) (ior .u8 x_2 (128:Int))))=List.set (Mb ((zL).set ((yA).toNat) (p8 (vT .u64 u_1 (127:Int))))) ((zG ((zG (yA+(1:Int))) - (1:Int))).toNat) (nO (Iu x_3) 0 [Iu (ior .u8 x_2 (128:Int))])) an))))))) ?_
  refine rg [] [0,5,6,7] [0] 1 [.sl false 1 (Mb b_1),Pp 0,Ii (zG (yA+(1:Int))),.int .u64 (nT .u64 u_1 (7:Int))] [Rb 125 1 (Mb (((zL).set ((yA).toNat) (p8 (vT .u64 u_1 (127:Int)))).set ((zG ((zG (yA+(1:Int))) - (1:Int))).toNat) (ior .u8 x_2 (128:Int))))] zF (ac (by decide:(0:Int)≤(7:Int)) an) ?_
  exact ⟨_,(sw [0] [] [.s 0,.s 5,.s 6,.s 7] [.s 0] an),_,_,_,rfl,h⟩
 refine sq ?_
 obtain ⟨_,h_9,h⟩:=bind_some h;replace h_9:=yU h_9
 obtain ⟨_,kX,h⟩:=bind_some h;replace kX:=yU kX
 obtain ⟨_,kC,h⟩:=bind_some h;replace kC:=yU kC
 obtain ⟨_,zAh,h⟩:=bind_some h;replace zAh:=yU zAh
 refine rg [(2,{ n:=(b_1).length }),(4,{ n:=(b_1).length }),(5,{ l:=(Mb (sub b_1 (0:Int) (lN (b_1)))) }),(8,{ dep:=true,id:=1,l:=(Mb ((sub b_1 (0:Int) (lN (b_1)))++(((o_1.2).take ((o_1.1).toNat)).drop 0))),n:=(((sub b_1 (0:Int) (lN (b_1)))++(((o_1.2).take ((o_1.1).toNat)).drop 0))).length })] [4] [1] 2 [.own 1 ((((sub b_1 (0:Int) (lN (b_1)))++(((o_1.2).take ((o_1.1).toNat)).drop 0))).length)] [Rb 5 1 (Mb ((sub b_1 (0:Int) (lN (b_1)))++(((o_1.2).take ((o_1.1).toNat)).drop 0)))] zF (ac (yO _:((Mb b_1)).length=(b_1).length) (ac (yO _:((Mb b_1)).length=(b_1).length) (ac (by decide:(0:Int)≤(0:Int)) (ac (Int.natCast_nonneg _:(0:Int)≤(lN (b_1))) (ac (p7 (Int.le_refl _):(lN (b_1))≤(lN ((Mb b_1)))) (ar (lN (b_1)) (ac (zF8 _ _ _:(Mb (sub b_1 (0:Int) (lN (b_1))))=(((Mb b_1)).take ((lN (b_1))).toNat).drop ((0:Int)).toNat) (ac (by decide:(0:Int)≤(0:Int)) (ac h_9.1 (ac h_9.2.1 (ac (nZ h_9.2.2:10≤((Mb o_1.2)).length) (ac (nZ kX.2:((o_1.1).toNat)≤((Mb o_1.2)).length) (ac kX.1 (ac (zJV _ _ _ _:(Mb ((sub b_1 (0:Int) (lN (b_1)))++(((o_1.2).take ((o_1.1).toNat)).drop 0)))=(Mb (sub b_1 (0:Int) (lN (b_1))))++(((Mb o_1.2)).take ((o_1.1).toNat)).drop 0) (ac (by first | (simp;done) | simpa using kC:(((List.map (AV.int .u8) (sub b_1 (0:Int) (((b_1).length:Nat):Int))):List AV).length+((((List.map (AV.int .u8) o_1.2)).take ((o_1.1).toNat)).drop 0:List AV).length) * 1≤140737488355328) (ac (by first | (simp;done) | simpa using zAh:0<((((List.map (AV.int .u8) o_1.2)).take ((o_1.1).toNat)).drop 0:List AV).length∨((List.map (AV.int .u8) (sub b_1 (0:Int) (((b_1).length:Nat):Int))):List AV).length=0) (ac (by simp:(((sub b_1 (0:Int) (((b_1).length:Nat):Int))++(((o_1.2).take ((o_1.1).toNat)).drop 0))).length=((List.map (AV.int .u8) ((sub b_1 (0:Int) (((b_1).length:Nat):Int))++(((o_1.2).take ((o_1.1).toNat)).drop 0)))).length) an))))))))))))))))) ?_
 refine wk [1] [] [.s 4] [.s 0] [(4,.own 0 ((((sub b_1 (0:Int) (lN (b_1)))++(((o_1.2).take ((o_1.1).toNat)).drop 0))).length))] [(0,Rb 5 1 (Mb ((sub b_1 (0:Int) (lN (b_1)))++(((o_1.2).take ((o_1.1).toNat)).drop 0))))] an ?_
 refine rt ?_
 cases h
 exact ⟨.inr rfl,Nat.le_of_ble_eq_true rfl,by kernel_rfl⟩
theorem zBk (F:Nat) (s_1:List (List Int)) (a_1:List Int) (r:Int) (h:v5 F s_1 a_1=some r):zS prog 89 [] [] [.sl false 1 (Ms s_1),.str a_1] [] (Ii r):=by
 refine yD (fn:=Go.Proofs.Try.f89) (code:=y5 Go.Proofs.Try.f89) (by kernel_rfl) (by kernel_rfl) (Nat.le_of_ble_eq_true (by kernel_rfl)) ?_
 unfold v5 at h
 refine sr [] [0,1] [] 0 [.sl false 1 (Ms s_1),.str a_1] [] zF an ?_
 refine sq ?_
 refine sr [(1,{ n:=(s_1).length })] [0,1,7,8] [] 0 [.sl false 1 (Ms s_1),.str a_1,Ii (lN (s_1)),Ii 0] [] zF (ac (yO _:((Ms s_1)).length=(s_1).length) an) ?_
 obtain ⟨o_1,h_1,h⟩:=bind_some h
 refine vL (K1:=(fun e st'=>match o_1 with | (.inl q0)=>e=.normal∧Sub 0 st' (mk [] [] 0) | (.inr q1)=>e=.ret∧kB prog Go.Proofs.Try.f89 0 [] (Ii q1) st')) ?_ ?_
 ·replace h:=h_1
  refine yN (id:=0) (by kernel_rfl) ?_
  refine wk [] [] [.s 0,.s 1,.s 7,.s 8] [] [(0,.sl false 1 (Ms s_1)),(1,.str a_1),(7,Ii (lN (s_1))),(8,Ii 0)] [] an ?_
  refine wH (fun n st=>∃ (v_1:Int),st=mk [(0,.sl false 1 (Ms s_1)),(1,.str a_1),(7,Ii (lN (s_1))),(8,Ii v_1)] [] 0∧vF F s_1 a_1 n v_1=some o_1) F (by kernel_rfl) ⟨_,rfl,h⟩ ?_ ?_
  ·rintro _ ⟨_,_,h⟩;exact w5 (h:(none:Option (Unit⊕Int))=some o_1)
  rintro n_1 _ ⟨v_1,rfl,h⟩
  replace h:xN F s_1 a_1 (vF F s_1 a_1 n_1) v_1=some o_1:=h
  unfold xN at h
  refine sr [] [0,1,7,8,9] [] 0 [.sl false 1 (Ms s_1),.str a_1,Ii (lN (s_1)),Ii v_1,.bool (decide (v_1<(lN (s_1))))] [] zF an ?_
  refine sq ?_
  refine cd 9 (decide (v_1<(lN (s_1)))) ?_ ?_
  rotate_left
  ·intro g_1;replace h:=zW g_1 h
   refine wS (id:=0) (by kernel_rfl) ?_
   cases h
   exact ⟨rfl,(sw [] [] [] [] an)⟩
  intro g_1;replace h:=zV g_1 h
  refine sk ?_
  refine sq ?_
  refine yN (id:=1) (by kernel_rfl) ?_
  refine sr [] [0,1,5,7,8] [] 0 [.sl false 1 (Ms s_1),.str a_1,Ii v_1,Ii (lN (s_1)),Ii v_1] [] zF an ?_
  refine sq ?_
  obtain ⟨x_1,h_2,h⟩:=bind_some h
  refine rg [(3,{ av:=.str x_1 })] [0,1,5,7,8,16] [] 0 [.sl false 1 (Ms s_1),.str a_1,Ii v_1,Ii (lN (s_1)),Ii v_1,.bool (a_1==x_1)] [] zF (ac (tJ h_2:jA (Ms s_1) v_1=some (.str x_1)) an) ?_
  refine cd 16 (a_1==x_1) ?_ ?_
  rotate_left
  ·intro g_2;replace h:=zW g_2 h
   refine sk ?_
   refine rg [] [0,1,7,8] [] 0 [.sl false 1 (Ms s_1),.str a_1,Ii (lN (s_1)),Ii (zG (v_1+(1:Int)))] [] zF an ?_
   exact ⟨_,(sw [] [] [.s 0,.s 1,.s 7,.s 8] [] an),_,rfl,h⟩
  intro g_2;replace h:=zV g_2 h
  refine sr [] [4] [] 0 [Ii v_1] [] zF an ?_
  refine rt ?_
  cases h
  exact ⟨rfl,Nat.le_of_ble_eq_true rfl,by kernel_rfl⟩
 intro e st1 hk
 rcases o_1 with q_1 | q_2
 rotate_left
 ·obtain ⟨rfl,hf⟩:=hk
  cases h
  exact ⟨st1,Sub.refl _ _,.inr rfl,hf⟩
 obtain ⟨rfl,hs⟩:=hk
 refine ⟨_,hs,?_⟩
 refine sr [] [4] [] 0 [Ii (-1)] [] zF an ?_
 refine rt ?_
 cases h
 exact ⟨.inr rfl,Nat.le_of_ble_eq_true rfl,by kernel_rfl⟩
theorem zBi (s_1:List (List Int)) (r:(List (List Int))) (h:tB s_1=some r):zS prog 90 [] [] [.sl false 1 (Ms s_1)] [.row 9 1 (Ms r)] (.own 0 ((r).length)):=by
 refine yD (fn:=Go.Proofs.Try.f90) (code:=y5 Go.Proofs.Try.f90) (by kernel_rfl) (by kernel_rfl) (Nat.le_of_ble_eq_true (by kernel_rfl)) ?_
 unfold tB at h
 refine sr [(0,{ id:=0,m:=1 })] [0] [] 1 [.sl false 1 (Ms s_1)] [] zF an ?_
 refine sq ?_
 refine sr [] [0,4] [] 1 [.sl false 1 (Ms s_1),.nb (Ms s_1)] [] zF an ?_
 refine zFF (t:=4) (l:=(Ms s_1)) (by kernel_rfl) (by kernel_rfl) ?_ ?_
 ·intro h_2;replace h_2:=List.map_eq_nil_iff.1 h_2
  replace h:=Eq.trans (show (some [])=((need (((([]:List (List Int))).length+(s_1).length) * 16≤140737488355328)).bind fun _ =>
 some ([]++s_1)) from by simp [h_2,need]) h
  refine sr [(0,{ id:=1,m:=1 })] [2] [1] 2 [.own 1 0] [Rb 9 1 []] zF an ?_
  refine wk [1] [] [.a 2 (.own 0 ((([]:List (List Int))).length))] [.s 0] [(2,.own 0 ((([]:List (List Int))).length))] [(0,Rb 9 1 [])] (ac (congrArg (AV.own _) (by first | (simp;done) | (simp;omega)):(.own 1 0:AV)=.own 1 ((([]:List (List Int))).length)) an) ?_
  refine rt ?_
  cases h
  exact ⟨.inr rfl,Nat.le_of_ble_eq_true rfl,by kernel_rfl⟩
 refine sk ?_
 refine sq ?_
 obtain ⟨_,h_1,h⟩:=bind_some h;replace h_1:=yU h_1
 refine rg [(0,{ id:=1 }),(2,{ id:=2,l:=(Ms ([]++s_1)),n:=(([]++s_1)).length })] [2] [2] 3 [.own 2 ((([]++s_1)).length)] [Rb 9 1 (Ms ([]++s_1))] zF (ac (by first | (simp;done) | (simp;omega):0=(([]:List AV)).length) (ac (trivial:True) (ac (by simp:(List.map AV.str ([]++s_1))=[]++(List.map AV.str s_1)) (ac (by simp:(([]++s_1)).length=((List.map AV.str ([]++s_1))).length) (ac (by first | (simp;done) | simpa using h_1:(([]:List AV).length+((List.map AV.str s_1):List AV).length) * 16≤140737488355328) an))))) ?_
 refine wk [2] [] [.s 2] [.s 0] [(2,.own 0 ((([]++s_1)).length))] [(0,Rb 9 1 (Ms ([]++s_1)))] an ?_
 refine rt ?_
 cases h
 exact ⟨.inr rfl,Nat.le_of_ble_eq_true rfl,by kernel_rfl⟩
theorem zD4 (F:Nat) (zI:List (List Int)) (s_1:List Int) (r:Int×(List (List Int))×Int) (h:zAp F zI s_1=some r):zS prog 60 [] [] [.sl false 1 (Ms zI),.str s_1] [] (.tuple [Ii r.1,.sl false 1 (Ms r.2.1),Ii r.2.2]):=by
 refine yD (fn:=Go.Proofs.Try.f60) (code:=y5 Go.Proofs.Try.f60) (by kernel_rfl) (by kernel_rfl) (Nat.le_of_ble_eq_true (by kernel_rfl)) ?_
 unfold zAp at h
 refine sr [] [0,1] [] 0 [.sl false 1 (Ms zI),.str s_1] [] zF an ?_
 refine sq ?_
 refine sq ?_
 obtain ⟨r_1,h_1,h⟩:=bind_some h
 refine rg [(1,{ av:=Ii r_1,l:=[.str s_1] })] [0,1,7] [] 0 [.sl false 1 (Ms zI),.str s_1,Ii r_1] [] zF (ar ([.str s_1]:List AV) (ac (rfl:([]:List zU)=[]) (ac (pL F s_1 r_1 h_1:zS prog 29 [] [] [.str s_1] [] (Ii r_1)) an))) ?_
 refine sr [] [0,1,7,12] [] 0 [.sl false 1 (Ms zI),.str s_1,Ii r_1,.bool (r_1 != (0:Int))] [] zF an ?_
 refine cd 12 (r_1 != (0:Int)) ?_ ?_
 ·intro g_1;replace h:=zV g_1 h
  refine sr [] [4,5,6] [] 0 [Ii 0,.sl false 1 (Ms zI),Ii r_1] [] zF an ?_
  refine rt ?_
  cases h
  exact ⟨.inr rfl,Nat.le_of_ble_eq_true rfl,by kernel_rfl⟩
 intro g_1;replace h:=zW g_1 h
 refine sk ?_
 refine sq ?_
 refine sq ?_
 obtain ⟨r_2,h_2,h⟩:=bind_some h
 refine rg [(2,{ av:=Ii r_2,l:=[.sl false 1 (Ms zI),.str s_1] })] [0,1,8] [] 0 [.sl false 1 (Ms zI),.str s_1,Ii r_2] [] zF (ar ([.sl false 1 (Ms zI),.str s_1]:List AV) (ac (rfl:([]:List zU)=[]) (ac (zBk F zI s_1 r_2 h_2:zS prog 89 [] [] [.sl false 1 (Ms zI),.str s_1] [] (Ii r_2)) an))) ?_
 refine sr [] [0,1,8,19] [] 0 [.sl false 1 (Ms zI),.str s_1,Ii r_2,.bool (decide (r_2≥(0:Int)))] [] zF an ?_
 refine cd 19 (decide (r_2≥(0:Int))) ?_ ?_
 ·intro g_2;replace h:=zV g_2 h
  refine sr [] [4,5,6] [] 0 [Ii r_2,.sl false 1 (Ms zI),Ii 0] [] zF an ?_
  refine rt ?_
  cases h
  exact ⟨.inr rfl,Nat.le_of_ble_eq_true rfl,by kernel_rfl⟩
 intro g_2;replace h:=zW g_2 h
 refine sk ?_
 refine sq ?_
 refine sr [(1,{ n:=(zI).length })] [0,1,24] [] 0 [.sl false 1 (Ms zI),.str s_1,.bool (decide ((lN (zI))≥(1000:Int)))] [] zF (ac (yO _:((Ms zI)).length=(zI).length) an) ?_
 refine cd 24 (decide ((lN (zI))≥(1000:Int))) ?_ ?_
 ·intro g_3;replace h:=zV g_3 h
  refine sr [] [4,5,6] [] 0 [Ii 0,.sl false 1 (Ms zI),Ii 6] [] zF an ?_
  refine rt ?_
  cases h
  exact ⟨.inr rfl,Nat.le_of_ble_eq_true rfl,by kernel_rfl⟩
 intro g_3;replace h:=zW g_3 h
 refine sk ?_
 refine sq ?_
 obtain ⟨r_3,h_3,h⟩:=bind_some h
 obtain ⟨_,h_4,h⟩:=bind_some h;replace h_4:=yU h_4
 refine rg [(1,{ n:=(zI).length }),(3,{ av:=.own 0 ((r_3).length),ids:=[0],l:=[.sl false 1 (Ms zI)],post:=[(.row 9 1 (Ms r_3))] }),(5,{ id:=1 }),(6,{ id:=2,l:=(Ms (r_3++([s_1]:List (List Int)))),n:=((r_3++([s_1]:List (List Int)))).length })] [4,5,6] [2] 3 [Ii (lN (zI)),.own 2 (((r_3++([s_1]:List (List Int)))).length),Ii 0] [Rb 9 1 (Ms (r_3++([s_1]:List (List Int))))] zF (ac (yO _:((Ms zI)).length=(zI).length) (ar ([.sl false 1 (Ms zI)]:List AV) (ac (rfl:([]:List zU)=[]) (ac (zBi zI r_3 h_3:zS prog 90 [] [] [.sl false 1 (Ms zI)] [(.row 9 1 (Ms r_3))] (.own 0 ((r_3).length))) (ac (by first | (simp;done) | (simp;omega):(r_3).length=((List.map AV.str r_3)).length) (ac (by first | (simp;done) | (simp;omega):1=((List.map AV.str ([s_1]:List (List Int)))).length) (ac (zA2 _ _:(Ms (r_3++([s_1]:List (List Int))))=(Ms r_3)++(Ms ([s_1]:List (List Int)))) (ac (by simp:((r_3++([s_1]:List (List Int)))).length=((List.map AV.str (r_3++([s_1]:List (List Int))))).length) (ac (by first | (simp;done) | simpa using h_4:(((List.map AV.str r_3):List AV).length+((List.map AV.str ([s_1]:List (List Int))):List AV).length) * 16≤140737488355328) an))))))))) ?_
 refine wk [] [2] [.s 4,.a 5 (.sl false 1 (Ms (r_3++([s_1]:List (List Int))))),.s 6] [] [(4,Ii (lN (zI))),(5,.sl false 1 (Ms (r_3++([s_1]:List (List Int))))),(6,Ii 0)] [] (ac (by first | (simp;done) | (simp;omega):((r_3++([s_1]:List (List Int)))).length=((List.map AV.str (r_3++([s_1]:List (List Int))))).length) (ar 1 (ar ((Ms (r_3++([s_1]:List (List Int)))):List AV) (ac (rfl:(!false||false)=true) an)))) ?_
 refine rt ?_
 cases h
 exact ⟨.inr rfl,Nat.le_of_ble_eq_true rfl,by kernel_rfl⟩
theorem zB1 (s_1:List (zJ)) (r:(List (zJ))) (h:tT s_1=some r):zS prog 91 [] [] [.sl false 2 (Mp zD s_1)] [.row 84 2 (Mp zD r)] (.own 0 ((r).length)):=by
 refine yD (fn:=Go.Proofs.Try.f91) (code:=y5 Go.Proofs.Try.f91) (by kernel_rfl) (by kernel_rfl) (Nat.le_of_ble_eq_true (by kernel_rfl)) ?_
 unfold tT at h
 refine sr [(0,{ id:=0,m:=1 })] [0] [] 1 [.sl false 2 (Mp zD s_1)] [] zF an ?_
 refine sq ?_
 refine sr [] [0,4] [] 1 [.sl false 2 (Mp zD s_1),.nb (Mp zD s_1)] [] zF an ?_
 refine zFF (t:=4) (l:=(Mp zD s_1)) (by kernel_rfl) (by kernel_rfl) ?_ ?_
 ·intro h_2;replace h_2:=List.map_eq_nil_iff.1 h_2
  replace h:=Eq.trans (show (some [])=((need (((([]:List zJ)).length+(s_1).length) * 16≤140737488355328)).bind fun _ =>
 some ([]++s_1)) from by simp [h_2,need]) h
  refine sr [(0,{ id:=1,m:=1 })] [2] [1] 2 [.own 1 0] [Rb 84 2 []] zF an ?_
  refine wk [1] [] [.a 2 (.own 0 ((([]:List zJ)).length))] [.s 0] [(2,.own 0 ((([]:List zJ)).length))] [(0,Rb 84 2 [])] (ac (congrArg (AV.own _) (by first | (simp;done) | (simp;omega)):(.own 1 0:AV)=.own 1 ((([]:List zJ)).length)) an) ?_
  refine rt ?_
  cases h
  exact ⟨.inr rfl,Nat.le_of_ble_eq_true rfl,by kernel_rfl⟩
 refine sk ?_
 refine sq ?_
 obtain ⟨_,h_1,h⟩:=bind_some h;replace h_1:=yU h_1
 refine rg [(0,{ id:=1 }),(2,{ id:=2,l:=(Mp zD ([]++s_1)),n:=(([]++s_1)).length })] [2] [2] 3 [.own 2 ((([]++s_1)).length)] [Rb 84 2 (Mp zD ([]++s_1))] zF (ac (by first | (simp;done) | (simp;omega):0=(([]:List AV)).length) (ac (trivial:True) (ac (by simp:(List.map zD ([]++s_1))=[]++(List.map zD s_1)) (ac (by simp:(([]++s_1)).length=((List.map zD ([]++s_1))).length) (ac (by first | (simp;done) | simpa using h_1:(([]:List AV).length+((List.map zD s_1):List AV).length) * 16≤140737488355328) an))))) ?_
 refine wk [2] [] [.s 2] [.s 0] [(2,.own 0 ((([]++s_1)).length))] [(0,Rb 84 2 (Mp zD ([]++s_1)))] an ?_
 refine rt ?_
 cases h
 exact ⟨.inr rfl,Nat.le_of_ble_eq_true rfl,by kernel_rfl⟩
theorem zBW (F:Nat) (s_1:List (zJ)) (a_1:zJ) (r:Int) (h:uG F s_1 a_1=some r):zS prog 92 [] [] [.sl false 2 (Mp zD s_1),.agg [Ii a_1.c0,Ii a_1.c1]] [] (Ii r):=by
 refine yD (fn:=Go.Proofs.Try.f92) (code:=y5 Go.Proofs.Try.f92) (by kernel_rfl) (by kernel_rfl) (Nat.le_of_ble_eq_true (by kernel_rfl)) ?_
 unfold uG at h
 refine sr [(0,{ id:=0 })] [0,3] [0] 1 [.sl false 2 (Mp zD s_1),Pp 0] [Vb 84 [Ii a_1.c0,Ii a_1.c1]] zF an ?_
 refine sq ?_
 refine sr [(1,{ n:=(s_1).length })] [0,3,7,8] [0] 1 [.sl false 2 (Mp zD s_1),Pp 0,Ii (lN (s_1)),Ii 0] [Vb 84 [Ii a_1.c0,Ii a_1.c1]] zF (ac (yO _:((Mp zD s_1)).length=(s_1).length) an) ?_
 obtain ⟨o_1,h_1,h⟩:=bind_some h
 refine vL (K1:=(fun e st'=>match o_1 with | (.inl q0)=>e=.normal∧Sub 0 st' (mk [] [] 0) | (.inr q1)=>e=.ret∧kB prog Go.Proofs.Try.f92 0 [] (Ii q1) st')) ?_ ?_
 ·replace h:=h_1
  refine yN (id:=0) (by kernel_rfl) ?_
  refine wk [0] [] [.s 0,.s 3,.s 7,.s 8] [.s 0] [(0,.sl false 2 (Mp zD s_1)),(3,Pp 0),(7,Ii (lN (s_1))),(8,Ii 0)] [(0,Vb 84 [Ii a_1.c0,Ii a_1.c1])] an ?_
  refine wH (fun n st=>∃ (v_1:Int),st=mk [(0,.sl false 2 (Mp zD s_1)),(3,Pp 0),(7,Ii (lN (s_1))),(8,Ii v_1)] [(0,Vb 84 [Ii a_1.c0,Ii a_1.c1])] 1∧vQ F s_1 a_1 n v_1=some o_1) F (by kernel_rfl) ⟨_,rfl,h⟩ ?_ ?_
  ·rintro _ ⟨_,_,h⟩;exact w5 (h:(none:Option (Unit⊕Int))=some o_1)
  rintro n_1 _ ⟨v_1,rfl,h⟩
  replace h:xV F s_1 a_1 (vQ F s_1 a_1 n_1) v_1=some o_1:=h
  unfold xV at h
  refine sr [] [0,3,7,8,9] [0] 1 [.sl false 2 (Mp zD s_1),Pp 0,Ii (lN (s_1)),Ii v_1,.bool (decide (v_1<(lN (s_1))))] [Vb 84 [Ii a_1.c0,Ii a_1.c1]] zF an ?_
  refine sq ?_
  refine cd 9 (decide (v_1<(lN (s_1)))) ?_ ?_
  rotate_left
  ·intro g_1;replace h:=zW g_1 h
   refine wS (id:=0) (by kernel_rfl) ?_
   cases h
   exact ⟨rfl,(sw [] [] [] [] an)⟩
  intro g_1;replace h:=zV g_1 h
  refine sk ?_
  refine sq ?_
  refine yN (id:=1) (by kernel_rfl) ?_
  refine sr [] [0,3,5,7,8] [0] 1 [.sl false 2 (Mp zD s_1),Pp 0,Ii v_1,Ii (lN (s_1)),Ii v_1] [Vb 84 [Ii a_1.c0,Ii a_1.c1]] zF an ?_
  refine sq ?_
  obtain ⟨x_1,h_2,h⟩:=bind_some h
  refine rg [(3,{ av:=.agg [Ii x_1.c0,Ii x_1.c1] }),(5,{ b:=(decide (a_1=x_1)),mks:=[.int .i64,.int .i64] })] [0,3,5,7,8,16] [0] 1 [.sl false 2 (Mp zD s_1),Pp 0,Ii v_1,Ii (lN (s_1)),Ii v_1,.bool (decide (a_1=x_1))] [Vb 84 [Ii a_1.c0,Ii a_1.c1]] zF (ac (tJ h_2:jA (Mp zD s_1) v_1=some (.agg [Ii x_1.c0,Ii x_1.c1])) (ac (zKs:zAO prog 84 [.int .i64,.int .i64]) (ac (zCx (f:=zD) zA9 a_1 x_1:((decide (a_1=x_1))=true↔AV.agg [Ii a_1.c0,Ii a_1.c1]=AV.agg [Ii x_1.c0,Ii x_1.c1])) an))) ?_
  refine cd 16 (decide (a_1=x_1)) ?_ ?_
  rotate_left
  ·intro g_2;replace h:=zW g_2 h
   refine sk ?_
   refine rg [] [0,3,7,8] [0] 1 [.sl false 2 (Mp zD s_1),Pp 0,Ii (lN (s_1)),Ii (zG (v_1+(1:Int)))] [Vb 84 [Ii a_1.c0,Ii a_1.c1]] zF an ?_
   exact ⟨_,(sw [0] [] [.s 0,.s 3,.s 7,.s 8] [.s 0] an),_,rfl,h⟩
  intro g_2;replace h:=zV g_2 h
  refine sr [] [4] [] 1 [Ii v_1] [] zF an ?_
  refine rt ?_
  cases h
  exact ⟨rfl,Nat.le_of_ble_eq_true rfl,by kernel_rfl⟩
 intro e st1 hk
 rcases o_1 with q_1 | q_2
 rotate_left
 ·obtain ⟨rfl,hf⟩:=hk
  cases h
  exact ⟨st1,Sub.refl _ _,.inr rfl,hf⟩
 obtain ⟨rfl,hs⟩:=hk
 refine ⟨_,hs,?_⟩
 refine sr [] [4] [] 0 [Ii (-1)] [] zF an ?_
 refine rt ?_
 cases h
 exact ⟨.inr rfl,Nat.le_of_ble_eq_true rfl,by kernel_rfl⟩
theorem zEf (F:Nat) (zI:List (List Int)) (zH:List (zJ)) (l_1:List (List Int)) (r:Int×(List (List Int))×(List (zJ))×Int) (h:jD F zI zH l_1=some r):zS prog 61 [] [] [.sl false 1 (Ms zI),.sl false 2 (Mp zD zH),.sl false 1 (Ms l_1)] [] (.tuple [Ii r.1,.sl false 1 (Ms r.2.1),.sl false 2 (Mp zD r.2.2.1),Ii r.2.2.2]):=by
 refine yD (fn:=Go.Proofs.Try.f61) (code:=y5 Go.Proofs.Try.f61) (by kernel_rfl) (by kernel_rfl) (Nat.le_of_ble_eq_true (by kernel_rfl)) ?_
 unfold jD at h
 refine sr [] [0,1,2] [] 0 [.sl false 1 (Ms zI),.sl false 2 (Mp zD zH),.sl false 1 (Ms l_1)] [] zF an ?_
 refine sq ?_
 refine sq ?_
 obtain ⟨r_1,h_1,h⟩:=bind_some h
 refine rg [(1,{ av:=Ii r_1,l:=[.sl false 1 (Ms l_1)] })] [0,1,2,10] [] 0 [.sl false 1 (Ms zI),.sl false 2 (Mp zD zH),.sl false 1 (Ms l_1),Ii r_1] [] zF (ar ([.sl false 1 (Ms l_1)]:List AV) (ac (rfl:([]:List zU)=[]) (ac (zCA F l_1 r_1 h_1:zS prog 87 [] [] [.sl false 1 (Ms l_1)] [] (Ii r_1)) an))) ?_
 refine sr [] [0,1,2,10,23] [] 0 [.sl false 1 (Ms zI),.sl false 2 (Mp zD zH),.sl false 1 (Ms l_1),Ii r_1,.bool (r_1 != (0:Int))] [] zF an ?_
 refine cd 23 (r_1 != (0:Int)) ?_ ?_
 ·intro g_1;replace h:=zV g_1 h
  refine sr [] [6,7,8,9] [] 0 [Ii 0,.sl false 1 (Ms zI),.sl false 2 (Mp zD zH),Ii r_1] [] zF an ?_
  refine rt ?_
  cases h
  exact ⟨.inr rfl,Nat.le_of_ble_eq_true rfl,by kernel_rfl⟩
 intro g_1;replace h:=zW g_1 h
 refine sk ?_
 refine sq ?_
 obtain ⟨r_2,h_2,h⟩:=bind_some h
 refine rg [(2,{ av:=.own 0 ((r_2).length),ids:=[0],l:=[.sl false 2 (Mp zD zH)],post:=[(.row 84 2 (Mp zD r_2))] })] [0,1,2,11,12,13] [0] 1 [.sl false 1 (Ms zI),.sl false 2 (Mp zD zH),.sl false 1 (Ms l_1),Ii (-1),.sl false 1 (Ms zI),.own 0 ((r_2).length)] [Rb 84 2 (Mp zD r_2)] zF (ar ([.sl false 2 (Mp zD zH)]:List AV) (ac (rfl:([]:List zU)=[]) (ac (zB1 zH r_2 h_2:zS prog 91 [] [] [.sl false 2 (Mp zD zH)] [(.row 84 2 (Mp zD r_2))] (.own 0 ((r_2).length))) an))) ?_
 refine sq ?_
 refine sr [(1,{ n:=(l_1).length })] [0,1,11,12,13,30,31,32] [0] 1 [.sl false 1 (Ms zI),.sl false 2 (Mp zD zH),Ii (-1),.sl false 1 (Ms zI),.own 0 ((r_2).length),.sl false 1 (Ms l_1),Ii (lN (l_1)),Ii 0] [Rb 84 2 (Mp zD r_2)] zF (ac (yO _:((Ms l_1)).length=(l_1).length) an) ?_
 obtain ⟨o_1,h_3,h⟩:=bind_some h
 refine vL (K1:=(fun e st'=>match o_1 with | (.inl q0)=>e=.normal∧Sub 0 st' (mk [(11,Ii q0.1),(12,.sl false 1 (Ms q0.2.1)),(13,.own 0 ((q0.2.2).length))] [(0,Rb 84 2 (Mp zD q0.2.2))] 1) | (.inr q1)=>e=.ret∧kB prog Go.Proofs.Try.f61 0 [] (.tuple [Ii q1.1,.sl false 1 (Ms q1.2.1),.sl false 2 (Mp zD q1.2.2.1),Ii q1.2.2.2]) st')) ?_ ?_
 ·replace h:=h_3
  refine yN (id:=0) (by kernel_rfl) ?_
  refine wk [0] [] [.s 0,.s 1,.s 11,.s 12,.s 13,.s 30,.s 31,.s 32] [.s 0] [(0,.sl false 1 (Ms zI)),(1,.sl false 2 (Mp zD zH)),(11,Ii (-1)),(12,.sl false 1 (Ms zI)),(13,.own 0 ((r_2).length)),(30,.sl false 1 (Ms l_1)),(31,Ii (lN (l_1))),(32,Ii 0)] [(0,Rb 84 2 (Mp zD r_2))] an ?_
  refine wH (fun n st=>∃ (yP:Int),∃ (n_1:List (List Int)),∃ (v_1:Int),∃ (zL:List zJ),st=mk [(0,.sl false 1 (Ms zI)),(1,.sl false 2 (Mp zD zH)),(11,Ii yP),(12,.sl false 1 (Ms n_1)),(13,.own 0 ((zL).length)),(30,.sl false 1 (Ms l_1)),(31,Ii (lN (l_1))),(32,Ii v_1)] [(0,Rb 84 2 (Mp zD zL))] 1∧tE F zI zH l_1 n yP n_1 v_1 zL=some o_1) F (by kernel_rfl) ⟨_,_,_,_,rfl,h⟩ ?_ ?_
  ·rintro _ ⟨_,_,_,_,_,h⟩;exact w5 (h:(none:Option ((Int×(List (List Int))×(List zJ))⊕(Int×(List (List Int))×(List (zJ))×Int)))=some o_1)
  rintro n_2 _ ⟨yP,n_1,v_1,zL,rfl,h⟩
  replace h:uO F zI zH l_1 (tE F zI zH l_1 n_2) yP n_1 v_1 zL=some o_1:=h
  unfold uO at h
  refine sr [] [0,1,11,12,13,30,31,32,33] [0] 1 [.sl false 1 (Ms zI),.sl false 2 (Mp zD zH),Ii yP,.sl false 1 (Ms n_1),.own 0 ((zL).length),.sl false 1 (Ms l_1),Ii (lN (l_1)),Ii v_1,.bool (decide (v_1<(lN (l_1))))] [Rb 84 2 (Mp zD zL)] zF an ?_
  refine sq ?_
  refine cd 33 (decide (v_1<(lN (l_1)))) ?_ ?_
  rotate_left
  ·intro g_2;replace h:=zW g_2 h
   refine wS (id:=0) (by kernel_rfl) ?_
   cases h
   exact ⟨rfl,(sw [0] [] [.s 11,.s 12,.s 13] [.s 0] an)⟩
  intro g_2;replace h:=zV g_2 h
  refine sk ?_
  refine sq ?_
  refine yN (id:=1) (by kernel_rfl) ?_
  refine sq ?_
  obtain ⟨x_1,h_4,h⟩:=bind_some h
  refine rg [(0,{ av:=.str x_1 })] [0,1,11,12,13,15,30,31,32] [0] 1 [.sl false 1 (Ms zI),.sl false 2 (Mp zD zH),Ii yP,.sl false 1 (Ms n_1),.own 0 ((zL).length),.str x_1,.sl false 1 (Ms l_1),Ii (lN (l_1)),Ii v_1] [Rb 84 2 (Mp zD zL)] zF (ac (tJ h_4:jA (Ms l_1) v_1=some (.str x_1)) an) ?_
  refine sq ?_
  obtain ⟨r_3,h_5,h⟩:=bind_some h
  refine rg [(2,{ av:=.tuple [Ii r_3.1,.sl false 1 (Ms r_3.2.1),Ii r_3.2.2],l:=[.sl false 1 (Ms n_1),.str x_1] })] [0,1,11,13,16,17,18,30,31,32] [0] 1 [.sl false 1 (Ms zI),.sl false 2 (Mp zD zH),Ii yP,.own 0 ((zL).length),Ii r_3.1,.sl false 1 (Ms r_3.2.1),Ii r_3.2.2,.sl false 1 (Ms l_1),Ii (lN (l_1)),Ii v_1] [Rb 84 2 (Mp zD zL)] zF (ar ([.sl false 1 (Ms n_1),.str x_1]:List AV) (ac (rfl:([]:List zU)=[]) (ac (zD4 F n_1 x_1 r_3 h_5:zS prog 60 [] [] [.sl false 1 (Ms n_1),.str x_1] [] (.tuple [Ii r_3.1,.sl false 1 (Ms r_3.2.1),Ii r_3.2.2])) an))) ?_
  refine sq ?_
  refine sr [] [0,1,11,13,16,17,18,30,31,32,44] [0] 1 [.sl false 1 (Ms zI),.sl false 2 (Mp zD zH),Ii yP,.own 0 ((zL).length),Ii r_3.1,.sl false 1 (Ms r_3.2.1),Ii r_3.2.2,.sl false 1 (Ms l_1),Ii (lN (l_1)),Ii v_1,.bool (r_3.2.2 != (0:Int))] [Rb 84 2 (Mp zD zL)] zF an ?_
  refine cd 44 (r_3.2.2 != (0:Int)) ?_ ?_
  ·intro g_3;replace h:=zV g_3 h
   refine sr [] [6,7,8,9] [] 1 [Ii 0,.sl false 1 (Ms zI),.sl false 2 (Mp zD zH),Ii r_3.2.2] [] zF an ?_
   refine rt ?_
   cases h
   exact ⟨rfl,Nat.le_of_ble_eq_true rfl,by kernel_rfl⟩
  intro g_3;replace h:=zW g_3 h
  refine sk ?_
  refine sr [] [0,1,11,12,13,16,30,31,32] [0] 1 [.sl false 1 (Ms zI),.sl false 2 (Mp zD zH),Ii yP,.sl false 1 (Ms r_3.2.1),.own 0 ((zL).length),Ii r_3.1,.sl false 1 (Ms l_1),Ii (lN (l_1)),Ii v_1] [Rb 84 2 (Mp zD zL)] zF an ?_
  refine sr [(3,{ id:=1 })] [0,1,12,13,19,30,31,32] [0,1] 2 [.sl false 1 (Ms zI),.sl false 2 (Mp zD zH),.sl false 1 (Ms r_3.2.1),.own 0 ((zL).length),Pp 1,.sl false 1 (Ms l_1),Ii (lN (l_1)),Ii v_1] [Rb 84 2 (Mp zD zL),Vb 84 [Ii yP,Ii r_3.1]] zF an ?_
  refine sq ?_
  refine sq ?_
  obtain ⟨r_4,h_6,h⟩:=bind_some h
  refine rg [(2,{ av:=Ii r_4,l:=[.sl false 2 (Mp zD zL),.agg [Ii yP,Ii r_3.1]],lend:=[0] })] [0,1,11,12,13,19,30,31,32] [0,1] 2 [.sl false 1 (Ms zI),.sl false 2 (Mp zD zH),Ii r_4,.sl false 1 (Ms r_3.2.1),.own 0 ((zL).length),Pp 1,.sl false 1 (Ms l_1),Ii (lN (l_1)),Ii v_1] [Rb 84 2 (Mp zD zL),Vb 84 [Ii yP,Ii r_3.1]] zF (ac (by first | (simp;done) | (simp;omega):(zL).length=((List.map zD zL)).length) (ar ([.sl false 2 (Mp zD zL),.agg [Ii yP,Ii r_3.1]]:List AV) (ac (rfl:([]:List zU)=[]) (ac (v8 (args':=[.sl false 2 (Mp zD zL),.agg [Ii ((⟨yP,r_3.1⟩:zJ).c0),Ii ((⟨yP,r_3.1⟩:zJ).c1)]]) (zBW F zL (⟨yP,r_3.1⟩:zJ) r_4 h_6) rfl ⟨rfl,rfl,rfl,rfl,rfl,trivial⟩:zS prog 92 [] [] [.sl false 2 (Mp zD zL),.agg [Ii yP,Ii r_3.1]] [] (Ii r_4)) an)))) ?_
  refine sr [] [0,1,11,12,13,19,30,31,32,56] [0,1] 2 [.sl false 1 (Ms zI),.sl false 2 (Mp zD zH),Ii r_4,.sl false 1 (Ms r_3.2.1),.own 0 ((zL).length),Pp 1,.sl false 1 (Ms l_1),Ii (lN (l_1)),Ii v_1,.bool (decide (r_4≥(0:Int)))] [Rb 84 2 (Mp zD zL),Vb 84 [Ii yP,Ii r_3.1]] zF an ?_
  refine cd 56 (decide (r_4≥(0:Int))) ?_ ?_
  ·intro g_4;replace h:=zV g_4 h
   refine wS (id:=1) (by kernel_rfl) ?_
   refine rg [] [0,1,11,12,13,30,31,32] [0] 2 [.sl false 1 (Ms zI),.sl false 2 (Mp zD zH),Ii r_4,.sl false 1 (Ms r_3.2.1),.own 0 ((zL).length),.sl false 1 (Ms l_1),Ii (lN (l_1)),Ii (zG (v_1+(1:Int)))] [Rb 84 2 (Mp zD zL)] zF an ?_
   exact ⟨_,(sw [0] [] [.s 0,.s 1,.s 11,.s 12,.s 13,.s 30,.s 31,.s 32] [.s 0] an),_,_,_,_,rfl,h⟩
  intro g_4;replace h:=zW g_4 h
  refine sk ?_
  refine sq ?_
  refine sr [] [0,1,12,13,19,30,31,32,59] [0,1] 2 [.sl false 1 (Ms zI),.sl false 2 (Mp zD zH),.sl false 1 (Ms r_3.2.1),.own 0 ((zL).length),Pp 1,.sl false 1 (Ms l_1),Ii (lN (l_1)),Ii v_1,.bool (decide ((lN (zL))≥(1000:Int)))] [Rb 84 2 (Mp zD zL),Vb 84 [Ii yP,Ii r_3.1]] zF an ?_
  refine cd 59 (decide ((lN (zL))≥(1000:Int))) ?_ ?_
  ·intro g_5;replace h:=zV g_5 h
   refine sr [] [6,7,8,9] [] 2 [Ii 0,.sl false 1 (Ms zI),.sl false 2 (Mp zD zH),Ii 6] [] zF an ?_
   refine rt ?_
   cases h
   exact ⟨rfl,Nat.le_of_ble_eq_true rfl,by kernel_rfl⟩
  intro g_5;replace h:=zW g_5 h
  refine sk ?_
  refine sr [] [0,1,11,12,13,19,30,31,32] [0,1] 2 [.sl false 1 (Ms zI),.sl false 2 (Mp zD zH),Ii (lN (zL)),.sl false 1 (Ms r_3.2.1),.own 0 ((zL).length),Pp 1,.sl false 1 (Ms l_1),Ii (lN (l_1)),Ii v_1] [Rb 84 2 (Mp zD zL),Vb 84 [Ii yP,Ii r_3.1]] zF an ?_
  obtain ⟨_,h_7,h⟩:=bind_some h;replace h_7:=yU h_7
  refine rg [(2,{ id:=2 }),(3,{ id:=3,l:=(Mp zD (zL++([(⟨yP,r_3.1⟩:zJ)]:List zJ))),n:=((zL++([(⟨yP,r_3.1⟩:zJ)]:List zJ))).length })] [0,1,11,12,13,30,31,32] [3] 4 [.sl false 1 (Ms zI),.sl false 2 (Mp zD zH),Ii (lN (zL)),.sl false 1 (Ms r_3.2.1),.own 3 (((zL++([(⟨yP,r_3.1⟩:zJ)]:List zJ))).length),.sl false 1 (Ms l_1),Ii (lN (l_1)),Ii v_1] [Rb 84 2 (Mp zD (zL++([(⟨yP,r_3.1⟩:zJ)]:List zJ)))] zF (ac (by first | (simp;done) | (simp;omega):(zL).length=((List.map zD zL)).length) (ac (by first | (simp;done) | (simp;omega):1=((List.map zD ([(⟨yP,r_3.1⟩:zJ)]:List zJ))).length) (ac (zA2 _ _:(Mp zD (zL++([(⟨yP,r_3.1⟩:zJ)]:List zJ)))=(Mp zD zL)++(Mp zD ([(⟨yP,r_3.1⟩:zJ)]:List zJ))) (ac (by simp:((zL++([(⟨yP,r_3.1⟩:zJ)]:List zJ))).length=((List.map zD (zL++([(⟨yP,r_3.1⟩:zJ)]:List zJ)))).length) (ac (by first | (simp;done) | simpa using h_7:(((List.map zD zL):List AV).length+((List.map zD ([(⟨yP,r_3.1⟩:zJ)]:List zJ)):List AV).length) * 16≤140737488355328) an))))) ?_
  refine rg [] [0,1,11,12,13,30,31,32] [3] 4 [.sl false 1 (Ms zI),.sl false 2 (Mp zD zH),Ii (lN (zL)),.sl false 1 (Ms r_3.2.1),.own 3 (((zL++([(⟨yP,r_3.1⟩:zJ)]:List zJ))).length),.sl false 1 (Ms l_1),Ii (lN (l_1)),Ii (zG (v_1+(1:Int)))] [Rb 84 2 (Mp zD (zL++([(⟨yP,r_3.1⟩:zJ)]:List zJ)))] zF an ?_
  exact ⟨_,(sw [3] [] [.s 0,.s 1,.s 11,.s 12,.s 13,.s 30,.s 31,.s 32] [.s 0] an),_,_,_,_,rfl,h⟩
 intro e st1 hk
 rcases o_1 with q_1 | q_2
 rotate_left
 ·obtain ⟨rfl,hf⟩:=hk
  cases h
  exact ⟨st1,Sub.refl _ _,.inr rfl,hf⟩
 obtain ⟨rfl,hs⟩:=hk
 refine ⟨_,hs,?_⟩
 refine sr [] [6,7,8,9] [0] 1 [Ii q_1.1,.sl false 1 (Ms q_1.2.1),.own 0 ((q_1.2.2).length),Ii 0] [Rb 84 2 (Mp zD q_1.2.2)] zF an ?_
 refine wk [] [0] [.s 6,.s 7,.a 8 (.sl false 2 (Mp zD q_1.2.2)),.s 9] [] [(6,Ii q_1.1),(7,.sl false 1 (Ms q_1.2.1)),(8,.sl false 2 (Mp zD q_1.2.2)),(9,Ii 0)] [] (ac (by first | (simp;done) | (simp;omega):(q_1.2.2).length=((List.map zD q_1.2.2)).length) (ar 2 (ar ((Mp zD q_1.2.2):List AV) (ac (rfl:(!false||false)=true) an)))) ?_
 refine rt ?_
 cases h
 exact ⟨.inr rfl,Nat.le_of_ble_eq_true rfl,by kernel_rfl⟩
theorem zFG (F:Nat) (zI:List (List Int)) (zH:List (zJ)) (e_1:zE) (r:(List (Int))×(List (List Int))×(List (zJ))×Int) (h:nI F zI zH e_1=some r):zS prog 39 [] [] [.sl false 1 (Ms zI),.sl false 2 (Mp zD zH),zN e_1] [.row 5 1 (Mb r.1)] (.tuple [.own 0 ((r.1).length),.sl false 1 (Ms r.2.1),.sl false 2 (Mp zD r.2.2.1),Ii r.2.2.2]):=by
 refine yD (fn:=Go.Proofs.Try.f39) (code:=y5 Go.Proofs.Try.f39) (by kernel_rfl) (by kernel_rfl) (Nat.le_of_ble_eq_true (by kernel_rfl)) ?_
 unfold nI at h
 refine sr [(0,{ id:=0 }),(1,{ id:=1,m:=1 })] [0,1,5] [0] 2 [.sl false 1 (Ms zI),.sl false 2 (Mp zD zH),Pp 0] [Vb 45 (zT e_1)] zF an ?_
 refine sq ?_
 refine sq ?_
 obtain ⟨r_1,h_1,h⟩:=bind_some h
 refine rg [(2,{ av:=Ii r_1,l:=[.sl false 1 (Ms zI),.sl false 2 (Mp zD zH)] })] [0,1,5,26] [0] 2 [.sl false 1 (Ms zI),.sl false 2 (Mp zD zH),Pp 0,.bool (r_1 != (0:Int))] [Vb 45 (zT e_1)] zF (ar ([.sl false 1 (Ms zI),.sl false 2 (Mp zD zH)]:List AV) (ac (rfl:([]:List zU)=[]) (ac (nW F zI zH r_1 h_1:zS prog 50 [] [] [.sl false 1 (Ms zI),.sl false 2 (Mp zD zH)] [] (Ii r_1)) an))) ?_
 refine cd 26 (r_1 != (0:Int)) ?_ ?_
 ·intro g_1;replace h:=zV g_1 h
  refine sr [(0,{ id:=2,m:=1 })] [6,7,8,9] [2] 3 [.own 2 0,.nilsl,.nilsl,Ii 1] [Rb 5 1 []] zF an ?_
  refine wk [2] [] [.a 6 (.own 0 ((([]:List Int)).length)),.a 7 (.sl false 1 []),.a 8 (.sl false 2 []),.s 9] [.s 0] [(6,.own 0 ((([]:List Int)).length)),(7,.sl false 1 []),(8,.sl false 2 []),(9,Ii 1)] [(0,Rb 5 1 [])] (ac (congrArg (AV.own _) (by first | (simp;done) | (simp;omega)):(.own 2 0:AV)=.own 2 ((([]:List Int)).length)) (ar ([]:List AV) (ar ([]:List AV) an))) ?_
  refine rt ?_
  cases h
  exact ⟨.inr rfl,Nat.le_of_ble_eq_true rfl,by kernel_rfl⟩
 intro g_1;replace h:=zW g_1 h
 refine sk ?_
 refine sq ?_
 refine sq ?_
 obtain ⟨r_2,h_2,h⟩:=bind_some h
 refine rg [(1,{ av:=Ii r_2,l:=[zN e_1] })] [0,1,5,10] [0] 2 [.sl false 1 (Ms zI),.sl false 2 (Mp zD zH),Pp 0,Ii r_2] [Vb 45 (zT e_1)] zF (ar ([zN e_1]:List AV) (ac (rfl:([]:List zU)=[]) (ac (zBo F e_1 r_2 h_2:zS prog 38 [] [] [zN e_1] [] (Ii r_2)) an))) ?_
 refine sr [] [0,1,5,10,30] [0] 2 [.sl false 1 (Ms zI),.sl false 2 (Mp zD zH),Pp 0,Ii r_2,.bool (r_2 != (0:Int))] [Vb 45 (zT e_1)] zF an ?_
 refine cd 30 (r_2 != (0:Int)) ?_ ?_
 ·intro g_2;replace h:=zV g_2 h
  refine sr [(1,{ id:=2,m:=1 })] [6,7,8,9] [2] 3 [.own 2 0,.nilsl,.nilsl,Ii r_2] [Rb 5 1 []] zF an ?_
  refine wk [2] [] [.a 6 (.own 0 ((([]:List Int)).length)),.a 7 (.sl false 1 []),.a 8 (.sl false 2 []),.s 9] [.s 0] [(6,.own 0 ((([]:List Int)).length)),(7,.sl false 1 []),(8,.sl false 2 []),(9,Ii r_2)] [(0,Rb 5 1 [])] (ac (congrArg (AV.own _) (by first | (simp;done) | (simp;omega)):(.own 2 0:AV)=.own 2 ((([]:List Int)).length)) (ar ([]:List AV) (ar ([]:List AV) an))) ?_
  refine rt ?_
  cases h
  exact ⟨.inr rfl,Nat.le_of_ble_eq_true rfl,by kernel_rfl⟩
 intro g_2;replace h:=zW g_2 h
 refine sk ?_
 refine sq ?_
 obtain ⟨r_3,h_3,h⟩:=bind_some h
 refine rg [(2,{ av:=.tuple [.bool r_3.1,.bool r_3.2.1,.bool r_3.2.2.1,.bool r_3.2.2.2],l:=[Ii e_1.Kind] })] [0,1,5,11,12,13,14] [0] 2 [.sl false 1 (Ms zI),.sl false 2 (Mp zD zH),Pp 0,.bool r_3.1,.bool r_3.2.1,.bool r_3.2.2.1,.bool r_3.2.2.2] [Vb 45 (zT e_1)] zF (ar ([Ii e_1.Kind]:List AV) (ac (rfl:([]:List zU)=[]) (ac (zDq e_1.Kind r_3 h_3:zS prog 58 [] [] [Ii e_1.Kind] [] (.tuple [.bool r_3.1,.bool r_3.2.1,.bool r_3.2.2.1,.bool r_3.2.2.2])) an))) ?_
 refine sq ?_
 obtain ⟨r_4,h_4,h⟩:=bind_some h
 obtain ⟨r_5,h_5,h⟩:=bind_some h
 refine rg [(2,{ av:=.own 0 ((r_4).length),ids:=[2],l:=[.nilsl,Ii e_1.Kind],post:=[(.row 5 1 (Mb r_4))] }),(5,{ av:=.own 0 ((r_5).length),frz:=[2],ids:=[3],l:=[.sl false 1 (Mb r_4),Ii e_1.At],post:=[(.row 5 1 (Mb r_5))] })] [0,1,5,11,12,13,14,15] [0,3] 4 [.sl false 1 (Ms zI),.sl false 2 (Mp zD zH),Pp 0,.bool r_3.1,.bool r_3.2.1,.bool r_3.2.2.1,.bool r_3.2.2.2,.own 3 ((r_5).length)] [Vb 45 (zT e_1),Rb 5 1 (Mb r_5)] zF (ar ([.nilsl,Ii e_1.Kind]:List AV) (ac (rfl:([]:List zU)=[]) (ac (v8 (args':=[.sl false 1 [],Ii e_1.Kind]) (uV F [] e_1.Kind r_4 h_4) rfl ⟨rfl,rfl,trivial⟩:zS prog 59 [] [] [.nilsl,Ii e_1.Kind] [(.row 5 1 (Mb r_4))] (.own 0 ((r_4).length))) (ac (by first | (simp;done) | (simp;omega):(r_4).length=((List.map (AV.int .u8) r_4)).length) (ar ([.sl false 1 (Mb r_4),Ii e_1.At]:List AV) (ac (rfl:([]:List zU)=[]) (ac (uV F r_4 e_1.At r_5 h_5:zS prog 59 [] [] [.sl false 1 (Mb r_4),Ii e_1.At] [(.row 5 1 (Mb r_5))] (.own 0 ((r_5).length))) an))))))) ?_
 refine sq ?_
 refine sr [] [0,1,5,12,13,14,15,46] [0,3] 4 [.sl false 1 (Ms zI),.sl false 2 (Mp zD zH),Pp 0,.bool r_3.2.1,.bool r_3.2.2.1,.bool r_3.2.2.2,.own 3 ((r_5).length),.bool r_3.1] [Vb 45 (zT e_1),Rb 5 1 (Mb r_5)] zF an ?_
 obtain ⟨o_1,h_6,h⟩:=bind_some h
 refine vL (K1:=(fun e st'=>match o_1 with | (.inl q0)=>e=.normal∧Sub 0 st' (mk [(0,.sl false 1 (Ms q0.1)),(1,.sl false 2 (Mp zD zH)),(5,Pp 0),(12,.bool r_3.2.1),(13,.bool r_3.2.2.1),(14,.bool r_3.2.2.2),(15,.own 1 ((q0.2).length))] [(0,Vb 45 (zT e_1)),(1,Rb 5 1 (Mb q0.2))] 2) | (.inr q1)=>e=.ret∧kB prog Go.Proofs.Try.f39 0 [.row 5 1 (Mb q1.1)] (.tuple [.own 0 ((q1.1).length),.sl false 1 (Ms q1.2.1),.sl false 2 (Mp zD q1.2.2.1),Ii q1.2.2.2]) st')) ?_ ?_
 ·replace h:=h_6
  refine cd 46 r_3.1 ?_ ?_
  rotate_left
  ·intro g_3;replace h:=zW g_3 h
   refine sk ?_
   cases h
   exact ⟨rfl,(sw [0,3] [] [.s 0,.s 1,.s 5,.s 12,.s 13,.s 14,.s 15] [.s 0,.s 1] an)⟩
  intro g_3;replace h:=zV g_3 h
  refine sq ?_
  obtain ⟨r_6,h_7,h⟩:=bind_some h
  refine rg [(3,{ av:=.tuple [Ii r_6.1,.sl false 1 (Ms r_6.2.1),Ii r_6.2.2],l:=[.sl false 1 (Ms zI),.str e_1.Name] })] [1,5,12,13,14,15,16,17,18] [0,3] 4 [.sl false 2 (Mp zD zH),Pp 0,.bool r_3.2.1,.bool r_3.2.2.1,.bool r_3.2.2.2,.own 3 ((r_5).length),Ii r_6.1,.sl false 1 (Ms r_6.2.1),Ii r_6.2.2] [Vb 45 (zT e_1),Rb 5 1 (Mb r_5)] zF (ar ([.sl false 1 (Ms zI),.str e_1.Name]:List AV) (ac (rfl:([]:List zU)=[]) (ac (zD4 F zI e_1.Name r_6 h_7:zS prog 60 [] [] [.sl false 1 (Ms zI),.str e_1.Name] [] (.tuple [Ii r_6.1,.sl false 1 (Ms r_6.2.1),Ii r_6.2.2])) an))) ?_
  refine sq ?_
  refine sr [] [1,5,12,13,14,15,16,17,18,56] [0,3] 4 [.sl false 2 (Mp zD zH),Pp 0,.bool r_3.2.1,.bool r_3.2.2.1,.bool r_3.2.2.2,.own 3 ((r_5).length),Ii r_6.1,.sl false 1 (Ms r_6.2.1),Ii r_6.2.2,.bool (r_6.2.2 != (0:Int))] [Vb 45 (zT e_1),Rb 5 1 (Mb r_5)] zF an ?_
  refine cd 56 (r_6.2.2 != (0:Int)) ?_ ?_
  rotate_left
  ·intro g_4;replace h:=zW g_4 h
   refine sk ?_
   obtain ⟨r_7,h_8,h⟩:=bind_some h
   refine rg [(2,{ av:=.own 0 ((r_7).length),frz:=[3],ids:=[4],l:=[.sl false 1 (Mb r_5),Ii r_6.1],post:=[(.row 5 1 (Mb r_7))] })] [0,1,5,12,13,14,15] [0,4] 5 [.sl false 1 (Ms r_6.2.1),.sl false 2 (Mp zD zH),Pp 0,.bool r_3.2.1,.bool r_3.2.2.1,.bool r_3.2.2.2,.own 4 ((r_7).length)] [Vb 45 (zT e_1),Rb 5 1 (Mb r_7)] zF (ac (by first | (simp;done) | (simp;omega):(r_5).length=((List.map (AV.int .u8) r_5)).length) (ar ([.sl false 1 (Mb r_5),Ii r_6.1]:List AV) (ac (rfl:([]:List zU)=[]) (ac (uV F r_5 r_6.1 r_7 h_8:zS prog 59 [] [] [.sl false 1 (Mb r_5),Ii r_6.1] [(.row 5 1 (Mb r_7))] (.own 0 ((r_7).length))) an)))) ?_
   cases h
   exact ⟨rfl,(sw [0,4] [] [.s 0,.s 1,.s 5,.s 12,.s 13,.s 14,.s 15] [.s 0,.s 1] an)⟩
  intro g_4;replace h:=zV g_4 h
  refine sr [(1,{ id:=4,m:=1 })] [6,7,8,9] [4] 5 [.own 4 0,.nilsl,.nilsl,Ii r_6.2.2] [Rb 5 1 []] zF an ?_
  refine wk [4] [] [.a 6 (.own 0 ((([]:List Int)).length)),.a 7 (.sl false 1 []),.a 8 (.sl false 2 []),.s 9] [.s 0] [(6,.own 0 ((([]:List Int)).length)),(7,.sl false 1 []),(8,.sl false 2 []),(9,Ii r_6.2.2)] [(0,Rb 5 1 [])] (ac (congrArg (AV.own _) (by first | (simp;done) | (simp;omega)):(.own 4 0:AV)=.own 4 ((([]:List Int)).length)) (ar ([]:List AV) (ar ([]:List AV) an))) ?_
  refine rt ?_
  cases h
  exact ⟨rfl,Nat.le_of_ble_eq_true rfl,by kernel_rfl⟩
 intro e st1 hk
 rcases o_1 with q_1 | q_2
 rotate_left
 ·obtain ⟨rfl,hf⟩:=hk
  cases h
  exact ⟨st1,Sub.refl _ _,.inr rfl,hf⟩
 obtain ⟨rfl,hs⟩:=hk
 refine ⟨_,hs,?_⟩
 refine sq ?_
 refine sr [] [0,1,5,13,14,15,62] [0,1] 2 [.sl false 1 (Ms q_1.1),.sl false 2 (Mp zD zH),Pp 0,.bool r_3.2.2.1,.bool r_3.2.2.2,.own 1 ((q_1.2).length),.bool r_3.2.1] [Vb 45 (zT e_1),Rb 5 1 (Mb q_1.2)] zF an ?_
 obtain ⟨o_2,h_9,h⟩:=bind_some h
 refine yV (mk [(0,.sl false 1 (Ms q_1.1)),(1,.sl false 2 (Mp zD zH)),(5,Pp 0),(13,.bool r_3.2.2.1),(14,.bool r_3.2.2.2),(15,.own 1 ((o_2).length))] [(0,Vb 45 (zT e_1)),(1,Rb 5 1 (Mb o_2))] 2) ?_ ?_
 ·replace h:=h_9
  refine cd 62 r_3.2.1 ?_ ?_
  rotate_left
  ·intro g_5;replace h:=zW g_5 h
   refine sk ?_
   cases h
   exact ⟨rfl,(sw [0,1] [] [.s 0,.s 1,.s 5,.s 13,.s 14,.s 15] [.s 0,.s 1] an)⟩
  intro g_5;replace h:=zV g_5 h
  obtain ⟨r_8,kX,h⟩:=bind_some h
  refine rg [(3,{ av:=.own 0 ((r_8).length),frz:=[1],ids:=[2],l:=[.sl false 1 (Mb q_1.2),Ii e_1.N],post:=[(.row 5 1 (Mb r_8))] })] [0,1,5,13,14,15] [0,2] 3 [.sl false 1 (Ms q_1.1),.sl false 2 (Mp zD zH),Pp 0,.bool r_3.2.2.1,.bool r_3.2.2.2,.own 2 ((r_8).length)] [Vb 45 (zT e_1),Rb 5 1 (Mb r_8)] zF (ac (by first | (simp;done) | (simp;omega):(q_1.2).length=((List.map (AV.int .u8) q_1.2)).length) (ar ([.sl false 1 (Mb q_1.2),Ii e_1.N]:List AV) (ac (rfl:([]:List zU)=[]) (ac (uV F q_1.2 e_1.N r_8 kX:zS prog 59 [] [] [.sl false 1 (Mb q_1.2),Ii e_1.N] [(.row 5 1 (Mb r_8))] (.own 0 ((r_8).length))) an)))) ?_
  cases h
  exact ⟨rfl,(sw [0,2] [] [.s 0,.s 1,.s 5,.s 13,.s 14,.s 15] [.s 0,.s 1] an)⟩
 refine sq ?_
 refine sr [] [0,1,5,14,15,67] [0,1] 2 [.sl false 1 (Ms q_1.1),.sl false 2 (Mp zD zH),Pp 0,.bool r_3.2.2.2,.own 1 ((o_2).length),.bool r_3.2.2.1] [Vb 45 (zT e_1),Rb 5 1 (Mb o_2)] zF an ?_
 obtain ⟨o_3,kC,h⟩:=bind_some h
 refine yV (mk [(0,.sl false 1 (Ms q_1.1)),(1,.sl false 2 (Mp zD zH)),(5,Pp 0),(14,.bool r_3.2.2.2),(15,.own 1 ((o_3).length))] [(0,Vb 45 (zT e_1)),(1,Rb 5 1 (Mb o_3))] 2) ?_ ?_
 ·replace h:=kC
  refine cd 67 r_3.2.2.1 ?_ ?_
  rotate_left
  ·intro g_6;replace h:=zW g_6 h
   refine sk ?_
   cases h
   exact ⟨rfl,(sw [0,1] [] [.s 0,.s 1,.s 5,.s 14,.s 15] [.s 0,.s 1] an)⟩
  intro g_6;replace h:=zV g_6 h
  obtain ⟨r_9,zAh,h⟩:=bind_some h
  refine rg [(3,{ av:=.own 0 ((r_9).length),frz:=[1],ids:=[2],l:=[.sl false 1 (Mb o_2),Ii e_1.M],post:=[(.row 5 1 (Mb r_9))] })] [0,1,5,14,15] [0,2] 3 [.sl false 1 (Ms q_1.1),.sl false 2 (Mp zD zH),Pp 0,.bool r_3.2.2.2,.own 2 ((r_9).length)] [Vb 45 (zT e_1),Rb 5 1 (Mb r_9)] zF (ac (by first | (simp;done) | (simp;omega):(o_2).length=((List.map (AV.int .u8) o_2)).length) (ar ([.sl false 1 (Mb o_2),Ii e_1.M]:List AV) (ac (rfl:([]:List zU)=[]) (ac (uV F o_2 e_1.M r_9 zAh:zS prog 59 [] [] [.sl false 1 (Mb o_2),Ii e_1.M] [(.row 5 1 (Mb r_9))] (.own 0 ((r_9).length))) an)))) ?_
  cases h
  exact ⟨rfl,(sw [0,2] [] [.s 0,.s 1,.s 5,.s 14,.s 15] [.s 0,.s 1] an)⟩
 refine sq ?_
 refine sr [] [0,1,5,15,72] [0,1] 2 [.sl false 1 (Ms q_1.1),.sl false 2 (Mp zD zH),Pp 0,.own 1 ((o_3).length),.bool r_3.2.2.2] [Vb 45 (zT e_1),Rb 5 1 (Mb o_3)] zF an ?_
 obtain ⟨o_4,zBF,h⟩:=bind_some h
 refine vL (K1:=(fun e st'=>match o_4 with | (.inl q0)=>e=.normal∧Sub 0 st' (mk [(0,.sl false 1 (Ms q0.1)),(1,.sl false 2 (Mp zD q0.2.1)),(15,.own 0 ((q0.2.2).length))] [(0,Rb 5 1 (Mb q0.2.2))] 1) | (.inr q1)=>e=.ret∧kB prog Go.Proofs.Try.f39 0 [.row 5 1 (Mb q1.1)] (.tuple [.own 0 ((q1.1).length),.sl false 1 (Ms q1.2.1),.sl false 2 (Mp zD q1.2.2.1),Ii q1.2.2.2]) st')) ?_ ?_
 ·replace h:=zBF
  refine cd 72 r_3.2.2.2 ?_ ?_
  rotate_left
  ·intro g_7;replace h:=zW g_7 h
   refine sk ?_
   cases h
   exact ⟨rfl,(sw [1] [] [.s 0,.s 1,.s 15] [.s 0] an)⟩
  intro g_7;replace h:=zV g_7 h
  refine sq ?_
  obtain ⟨yQ,kD,h⟩:=bind_some h
  refine rg [(4,{ av:=.tuple [Ii yQ.1,.sl false 1 (Ms yQ.2.1),.sl false 2 (Mp zD yQ.2.2.1),Ii yQ.2.2.2],l:=[.sl false 1 (Ms q_1.1),.sl false 2 (Mp zD zH),.sl false 1 (Ms e_1.Stack)] })] [15,19,20,21,22] [1] 2 [.own 1 ((o_3).length),Ii yQ.1,.sl false 1 (Ms yQ.2.1),.sl false 2 (Mp zD yQ.2.2.1),Ii yQ.2.2.2] [Rb 5 1 (Mb o_3)] zF (ar ([.sl false 1 (Ms q_1.1),.sl false 2 (Mp zD zH),.sl false 1 (Ms e_1.Stack)]:List AV) (ac (rfl:([]:List zU)=[]) (ac (zEf F q_1.1 zH e_1.Stack yQ kD:zS prog 61 [] [] [.sl false 1 (Ms q_1.1),.sl false 2 (Mp zD zH),.sl false 1 (Ms e_1.Stack)] [] (.tuple [Ii yQ.1,.sl false 1 (Ms yQ.2.1),.sl false 2 (Mp zD yQ.2.2.1),Ii yQ.2.2.2])) an))) ?_
  refine sq ?_
  refine sr [] [15,19,20,21,22,84] [1] 2 [.own 1 ((o_3).length),Ii yQ.1,.sl false 1 (Ms yQ.2.1),.sl false 2 (Mp zD yQ.2.2.1),Ii yQ.2.2.2,.bool (yQ.2.2.2 != (0:Int))] [Rb 5 1 (Mb o_3)] zF an ?_
  refine cd 84 (yQ.2.2.2 != (0:Int)) ?_ ?_
  rotate_left
  ·intro g_8;replace h:=zW g_8 h
   refine sk ?_
   obtain ⟨y1,qT,h⟩:=bind_some h
   refine rg [(2,{ av:=.own 0 ((y1).length),frz:=[1],ids:=[2],l:=[.sl false 1 (Mb o_3),Ii yQ.1],post:=[(.row 5 1 (Mb y1))] })] [0,1,15] [2] 3 [.sl false 1 (Ms yQ.2.1),.sl false 2 (Mp zD yQ.2.2.1),.own 2 ((y1).length)] [Rb 5 1 (Mb y1)] zF (ac (by first | (simp;done) | (simp;omega):(o_3).length=((List.map (AV.int .u8) o_3)).length) (ar ([.sl false 1 (Mb o_3),Ii yQ.1]:List AV) (ac (rfl:([]:List zU)=[]) (ac (uV F o_3 yQ.1 y1 qT:zS prog 59 [] [] [.sl false 1 (Mb o_3),Ii yQ.1] [(.row 5 1 (Mb y1))] (.own 0 ((y1).length))) an)))) ?_
   cases h
   exact ⟨rfl,(sw [2] [] [.s 0,.s 1,.s 15] [.s 0] an)⟩
  intro g_8;replace h:=zV g_8 h
  refine sr [(1,{ id:=2,m:=1 })] [6,7,8,9] [2] 3 [.own 2 0,.nilsl,.nilsl,Ii yQ.2.2.2] [Rb 5 1 []] zF an ?_
  refine wk [2] [] [.a 6 (.own 0 ((([]:List Int)).length)),.a 7 (.sl false 1 []),.a 8 (.sl false 2 []),.s 9] [.s 0] [(6,.own 0 ((([]:List Int)).length)),(7,.sl false 1 []),(8,.sl false 2 []),(9,Ii yQ.2.2.2)] [(0,Rb 5 1 [])] (ac (congrArg (AV.own _) (by first | (simp;done) | (simp;omega)):(.own 2 0:AV)=.own 2 ((([]:List Int)).length)) (ar ([]:List AV) (ar ([]:List AV) an))) ?_
  refine rt ?_
  cases h
  exact ⟨rfl,Nat.le_of_ble_eq_true rfl,by kernel_rfl⟩
 intro e st1 hk
 rcases o_4 with q_3 | q_4
 rotate_left
 ·obtain ⟨rfl,hf⟩:=hk
  cases h
  exact ⟨st1,Sub.refl _ _,.inr rfl,hf⟩
 obtain ⟨rfl,hs⟩:=hk
 refine ⟨_,hs,?_⟩
 refine sr [] [6,7,8,9] [0] 1 [.own 0 ((q_3.2.2).length),.sl false 1 (Ms q_3.1),.sl false 2 (Mp zD q_3.2.1),Ii 0] [Rb 5 1 (Mb q_3.2.2)] zF an ?_
 refine wk [0] [] [.s 6,.s 7,.s 8,.s 9] [.s 0] [(6,.own 0 ((q_3.2.2).length)),(7,.sl false 1 (Ms q_3.1)),(8,.sl false 2 (Mp zD q_3.2.1)),(9,Ii 0)] [(0,Rb 5 1 (Mb q_3.2.2))] an ?_
 refine rt ?_
 cases h
 exact ⟨.inr rfl,Nat.le_of_ble_eq_true rfl,by kernel_rfl⟩
theorem zCk (s_1:List (Int)) (r:(List (Int))) (h:u6 s_1=some r):zS prog 62 [] [] [.sl false 1 (Mb s_1)] [.row 5 1 (Mb r)] (.own 0 ((r).length)):=by
 refine yD (fn:=Go.Proofs.Try.f62) (code:=y5 Go.Proofs.Try.f62) (by kernel_rfl) (by kernel_rfl) (Nat.le_of_ble_eq_true (by kernel_rfl)) ?_
 unfold u6 at h
 refine sr [(0,{ id:=0,m:=1 })] [0] [] 1 [.sl false 1 (Mb s_1)] [] zF an ?_
 refine sq ?_
 refine sr [] [0,4] [] 1 [.sl false 1 (Mb s_1),.nb (Mb s_1)] [] zF an ?_
 refine zFF (t:=4) (l:=(Mb s_1)) (by kernel_rfl) (by kernel_rfl) ?_ ?_
 ·intro h_2;replace h_2:=List.map_eq_nil_iff.1 h_2
  replace h:=Eq.trans (show (some [])=((need (((([]:List Int)).length+(s_1).length) * 1≤140737488355328)).bind fun _ =>
 some ([]++s_1)) from by simp [h_2,need]) h
  refine sr [(0,{ id:=1,m:=1 })] [2] [1] 2 [.own 1 0] [Rb 5 1 []] zF an ?_
  refine wk [1] [] [.a 2 (.own 0 ((([]:List Int)).length))] [.s 0] [(2,.own 0 ((([]:List Int)).length))] [(0,Rb 5 1 [])] (ac (congrArg (AV.own _) (by first | (simp;done) | (simp;omega)):(.own 1 0:AV)=.own 1 ((([]:List Int)).length)) an) ?_
  refine rt ?_
  cases h
  exact ⟨.inr rfl,Nat.le_of_ble_eq_true rfl,by kernel_rfl⟩
 refine sk ?_
 refine sq ?_
 obtain ⟨_,h_1,h⟩:=bind_some h;replace h_1:=yU h_1
 refine rg [(0,{ id:=1 }),(2,{ id:=2,l:=(Mb ([]++s_1)),n:=(([]++s_1)).length })] [2] [2] 3 [.own 2 ((([]++s_1)).length)] [Rb 5 1 (Mb ([]++s_1))] zF (ac (by first | (simp;done) | (simp;omega):0=(([]:List AV)).length) (ac (trivial:True) (ac (by simp:(List.map (AV.int .u8) ([]++s_1))=[]++(List.map (AV.int .u8) s_1)) (ac (by simp:(([]++s_1)).length=((List.map (AV.int .u8) ([]++s_1))).length) (ac (by first | (simp;done) | simpa using h_1:(([]:List AV).length+((List.map (AV.int .u8) s_1):List AV).length) * 1≤140737488355328) an))))) ?_
 refine wk [2] [] [.s 2] [.s 0] [(2,.own 0 ((([]++s_1)).length))] [(0,Rb 5 1 (Mb ([]++s_1)))] an ?_
 refine rt ?_
 cases h
 exact ⟨.inr rfl,Nat.le_of_ble_eq_true rfl,by kernel_rfl⟩
theorem zJX (F:Nat) (r_1:zB) (b_1:List (Int)) (r:zB×Int×Int) (h:zCI F r_1 b_1=some r):zS prog 40 [] [] [z6 r_1,.sl false 1 (Mb b_1)] [] (.tuple [z6 r.1,Ii r.2.1,Ii r.2.2]):=by
 refine yD (fn:=Go.Proofs.Try.f40) (code:=y5 Go.Proofs.Try.f40) (by kernel_rfl) (by kernel_rfl) (Nat.le_of_ble_eq_true (by kernel_rfl)) ?_
 unfold zCI at h
 refine sr [(0,{ id:=0 }),(1,{ id:=1 })] [1,2,4] [0,1] 2 [.sl false 1 (Mb b_1),Pp 0,Pp 1] [Vb 30 (zP r_1),Vb 30 [Ii 0,.nilsl,Ii 0,Ii 0,Ii 0,Ii 0]] zF an ?_
 refine sq ?_
 obtain ⟨r_2,h_1,h⟩:=bind_some h
 refine rg [(1,{ av:=.tuple [.own 0 ((r_2.1).length),Ii r_2.2],ids:=[2],l:=[z6 r_1],post:=[(.row 28 1 (List.map (fun l=>AV.sl false 1 (l.map (AV.int .u8))) r_2.1))] })] [1,2,4,7,8] [0,1,2] 3 [.sl false 1 (Mb b_1),Pp 0,Pp 1,.own 2 ((r_2.1).length),Ii r_2.2] [Vb 30 (zP r_1),Vb 30 [Ii 0,.nilsl,Ii 0,Ii 0,Ii 0,Ii 0],Rb 28 1 (List.map (fun l=>AV.sl false 1 (l.map (AV.int .u8))) r_2.1)] zF (ar ([z6 r_1]:List AV) (ac (rfl:([]:List zU)=[]) (ac (zCE F r_1 r_2 h_1:zS prog 53 [] [] [z6 r_1] [(.row 28 1 (List.map (fun l=>AV.sl false 1 (l.map (AV.int .u8))) r_2.1))] (.tuple [.own 0 ((r_2.1).length),Ii r_2.2])) an))) ?_
 refine sq ?_
 refine sr [] [1,2,4,7,8,21] [0,1,2] 3 [.sl false 1 (Mb b_1),Pp 0,Pp 1,.own 2 ((r_2.1).length),Ii r_2.2,.bool (r_2.2 != (0:Int))] [Vb 30 (zP r_1),Vb 30 [Ii 0,.nilsl,Ii 0,Ii 0,Ii 0,Ii 0],Rb 28 1 (List.map (fun l=>AV.sl false 1 (l.map (AV.int .u8))) r_2.1)] zF an ?_
 refine cd 21 (r_2.2 != (0:Int)) ?_ ?_
 ·intro g_1;replace h:=zV g_1 h
  refine sr [] [4,5,6] [1] 3 [Pp 1,Ii 0,Ii r_2.2] [Vb 30 (zP r_1)] zF an ?_
  refine wk [1] [] [.s 4,.s 5,.s 6] [.s 0] [(4,Pp 0),(5,Ii 0),(6,Ii r_2.2)] [(0,Vb 30 (zP r_1))] an ?_
  refine rt ?_
  cases h
  exact ⟨.inr rfl,Nat.le_of_ble_eq_true rfl,by kernel_rfl⟩
 intro g_1;replace h:=zW g_1 h
 refine sk ?_
 refine sq ?_
 obtain ⟨r_3,h_2,h⟩:=bind_some h
 obtain ⟨_,h_3,h⟩:=bind_some h;replace h_3:=yU h_3
 refine rg [(1,{ n:=(b_1).length }),(2,{ av:=.own 0 ((r_3).length),ids:=[3],l:=[.nilsl,Ii (lN (b_1))],post:=[(.row 5 1 (Mb r_3))] }),(4,{ id:=4,l:=(Mb (r_3++b_1)),n:=((r_3++b_1)).length })] [1,2,4,7,9] [0,1,2,4] 5 [.sl false 1 (Mb b_1),Pp 0,Pp 1,.own 2 ((r_2.1).length),.own 4 (((r_3++b_1)).length)] [Vb 30 (zP r_1),Vb 30 [Ii 0,.nilsl,Ii 0,Ii 0,Ii 0,Ii 0],Rb 28 1 (List.map (fun l=>AV.sl false 1 (l.map (AV.int .u8))) r_2.1),Rb 5 1 (Mb (r_3++b_1))] zF (ac (yO _:((Mb b_1)).length=(b_1).length) (ar ([.nilsl,Ii (lN (b_1))]:List AV) (ac (rfl:([]:List zU)=[]) (ac (v8 (args':=[.sl false 1 [],Ii (lN (b_1))]) (uV F [] (lN (b_1)) r_3 h_2) rfl ⟨rfl,rfl,trivial⟩:zS prog 59 [] [] [.nilsl,Ii (lN (b_1))] [(.row 5 1 (Mb r_3))] (.own 0 ((r_3).length))) (ac (by first | (simp;done) | (simp;omega):(r_3).length=((List.map (AV.int .u8) r_3)).length) (ac (trivial:True) (ac (zA2 _ _:(Mb (r_3++b_1))=(Mb r_3)++(Mb b_1)) (ac (by simp:((r_3++b_1)).length=((List.map (AV.int .u8) (r_3++b_1))).length) (ac (by first | (simp;done) | simpa using h_3:(((List.map (AV.int .u8) r_3):List AV).length+((List.map (AV.int .u8) b_1):List AV).length) * 1≤140737488355328) an))))))))) ?_
 refine sr [(2,{ n:=(r_1.Data).length })] [1,2,4,7,9,10] [0,1,2,4] 5 [.sl false 1 (Mb b_1),Pp 0,Pp 1,.own 2 ((r_2.1).length),.own 4 (((r_3++b_1)).length),Ii (zG ((lN (r_1.Data)) - (zG (r_1.End - r_1.Start))))] [Vb 30 (zP r_1),Vb 30 [Ii 0,.nilsl,Ii 0,Ii 0,Ii 0,Ii 0],Rb 28 1 (List.map (fun l=>AV.sl false 1 (l.map (AV.int .u8))) r_2.1),Rb 5 1 (Mb (r_3++b_1))] zF (ac (yO _:((Mb r_1.Data)).length=(r_1.Data).length) an) ?_
 refine sq ?_
 refine yN (id:=0) (by kernel_rfl) ?_
 refine sq ?_
 refine yV (mk [(2,Pp 0),(4,Pp 1),(7,.own 2 ((r_2.1).length)),(9,.own 3 (((r_3++b_1)).length)),(10,Ii (zG ((lN (r_1.Data)) - (zG (r_1.End - r_1.Start))))),(38,.bool (decide ((lN (b_1))>(2000:Int))||decide ((lN ((r_3++b_1)))>(lN (r_1.Data)))))] [(0,Vb 30 (zP r_1)),(1,Vb 30 [Ii 0,.nilsl,Ii 0,Ii 0,Ii 0,Ii 0]),(2,Rb 28 1 (List.map (fun l=>AV.sl false 1 (l.map (AV.int .u8))) r_2.1)),(3,Rb 5 1 (Mb (r_3++b_1)))] 4) ?_ ?_
 ·rcases bft (decide ((lN (b_1))>(2000:Int))) with zX | zX
  ·refine rg [(1,{ n:=(b_1).length }),(4,Hg),(5,Hg),(6,Hg),(7,Hg),(8,Hg),(9,Hg),(10,Ht)] [2,4,7,9,10,38] [0,1,2,4] 5 [Pp 0,Pp 1,.own 2 ((r_2.1).length),.own 4 (((r_3++b_1)).length),Ii (zG ((lN (r_1.Data)) - (zG (r_1.End - r_1.Start)))),.bool true] [Vb 30 (zP r_1),Vb 30 [Ii 0,.nilsl,Ii 0,Ii 0,Ii 0,Ii 0],Rb 28 1 (List.map (fun l=>AV.sl false 1 (l.map (AV.int .u8))) r_2.1),Rb 5 1 (Mb (r_3++b_1))] zF (ac (yO _:((Mb b_1)).length=(b_1).length) (ac zX (ac zX (ac zX (ac zX (ac zX (ac zX (ac zX an)))))))) ?_
   exact ⟨rfl,(sw [0,1,2,4] [] [.s 2,.s 4,.s 7,.s 9,.s 10,.a 38 (.bool (decide ((lN (b_1))>(2000:Int))||decide ((lN ((r_3++b_1)))>(lN (r_1.Data)))))] [.s 0,.s 1,.s 2,.s 3] (ac (congrArg AV.bool (ort zX):(.bool true:AV)=.bool (decide ((lN (b_1))>(2000:Int))||decide ((lN ((r_3++b_1)))>(lN (r_1.Data))))) an))⟩
  ·refine rg [(1,{ n:=(b_1).length }),(8,{ n:=(r_1.Data).length }),(10,Hf)] [2,4,7,9,10,38] [0,1,2,4] 5 [Pp 0,Pp 1,.own 2 ((r_2.1).length),.own 4 (((r_3++b_1)).length),Ii (zG ((lN (r_1.Data)) - (zG (r_1.End - r_1.Start)))),.bool (decide ((lN ((r_3++b_1)))>(lN (r_1.Data))))] [Vb 30 (zP r_1),Vb 30 [Ii 0,.nilsl,Ii 0,Ii 0,Ii 0,Ii 0],Rb 28 1 (List.map (fun l=>AV.sl false 1 (l.map (AV.int .u8))) r_2.1),Rb 5 1 (Mb (r_3++b_1))] zF (ac (yO _:((Mb b_1)).length=(b_1).length) (ac zX (ac zX (ac zX (ac zX (ac zX (ac (yO _:((Mb r_1.Data)).length=(r_1.Data).length) (ac zX (ac zX an))))))))) ?_
   exact ⟨rfl,(sw [0,1,2,4] [] [.s 2,.s 4,.s 7,.s 9,.s 10,.a 38 (.bool (decide ((lN (b_1))>(2000:Int))||decide ((lN ((r_3++b_1)))>(lN (r_1.Data)))))] [.s 0,.s 1,.s 2,.s 3] (ac (congrArg AV.bool (orf zX rfl):(.bool (decide ((lN ((r_3++b_1)))>(lN (r_1.Data)))):AV)=.bool (decide ((lN (b_1))>(2000:Int))||decide ((lN ((r_3++b_1)))>(lN (r_1.Data))))) an))⟩
 refine cd 38 (decide ((lN (b_1))>(2000:Int))||decide ((lN ((r_3++b_1)))>(lN (r_1.Data)))) ?_ ?_
 ·intro g_2;replace h:=zV g_2 h
  refine sr [] [4,5,6] [1] 4 [Pp 1,Ii 0,Ii 7] [Vb 30 (zP r_1)] zF an ?_
  refine wk [1] [] [.s 4,.s 5,.s 6] [.s 0] [(4,Pp 0),(5,Ii 0),(6,Ii 7)] [(0,Vb 30 (zP r_1))] an ?_
  refine rt ?_
  cases h
  exact ⟨.inr rfl,Nat.le_of_ble_eq_true rfl,by kernel_rfl⟩
 intro g_2;replace h:=zW g_2 h
 refine sq ?_
 refine yV (mk [(2,Pp 0),(4,Pp 1),(7,.own 2 ((r_2.1).length)),(9,.own 3 (((r_3++b_1)).length)),(10,Ii (zG ((lN (r_1.Data)) - (zG (r_1.End - r_1.Start))))),(51,.bool ((r_1.Policy==(2:Int))&&decide ((lN ((r_3++b_1)))>(zG ((lN (r_1.Data)) - (zG (r_1.End - r_1.Start)))))))] [(0,Vb 30 (zP r_1)),(1,Vb 30 [Ii 0,.nilsl,Ii 0,Ii 0,Ii 0,Ii 0]),(2,Rb 28 1 (List.map (fun l=>AV.sl false 1 (l.map (AV.int .u8))) r_2.1)),(3,Rb 5 1 (Mb (r_3++b_1)))] 4) ?_ ?_
 ·rcases bft (r_1.Policy==(2:Int)) with zQ | zQ
  ·refine rg [(8,Ht)] [2,4,7,9,10,51] [0,1,2,3] 4 [Pp 0,Pp 1,.own 2 ((r_2.1).length),.own 3 (((r_3++b_1)).length),Ii (zG ((lN (r_1.Data)) - (zG (r_1.End - r_1.Start)))),.bool (decide ((lN ((r_3++b_1)))>(zG ((lN (r_1.Data)) - (zG (r_1.End - r_1.Start))))))] [Vb 30 (zP r_1),Vb 30 [Ii 0,.nilsl,Ii 0,Ii 0,Ii 0,Ii 0],Rb 28 1 (List.map (fun l=>AV.sl false 1 (l.map (AV.int .u8))) r_2.1),Rb 5 1 (Mb (r_3++b_1))] zF (ac zQ (ac zQ (ac zQ (ac zQ (ac zQ an))))) ?_
   exact ⟨rfl,(sw [0,1,2,3] [] [.s 2,.s 4,.s 7,.s 9,.s 10,.a 51 (.bool ((r_1.Policy==(2:Int))&&decide ((lN ((r_3++b_1)))>(zG ((lN (r_1.Data)) - (zG (r_1.End - r_1.Start)))))))] [.s 0,.s 1,.s 2,.s 3] (ac (congrArg AV.bool (qS zQ rfl):(.bool (decide ((lN ((r_3++b_1)))>(zG ((lN (r_1.Data)) - (zG (r_1.End - r_1.Start)))))):AV)=.bool ((r_1.Policy==(2:Int))&&decide ((lN ((r_3++b_1)))>(zG ((lN (r_1.Data)) - (zG (r_1.End - r_1.Start))))))) an))⟩
  ·refine rg [(4,Hg),(5,Hg),(6,Hg),(7,Hg),(8,Hf)] [2,4,7,9,10,51] [0,1,2,3] 4 [Pp 0,Pp 1,.own 2 ((r_2.1).length),.own 3 (((r_3++b_1)).length),Ii (zG ((lN (r_1.Data)) - (zG (r_1.End - r_1.Start)))),.bool false] [Vb 30 (zP r_1),Vb 30 [Ii 0,.nilsl,Ii 0,Ii 0,Ii 0,Ii 0],Rb 28 1 (List.map (fun l=>AV.sl false 1 (l.map (AV.int .u8))) r_2.1),Rb 5 1 (Mb (r_3++b_1))] zF (ac zQ (ac zQ (ac zQ (ac zQ (ac zQ an))))) ?_
   exact ⟨rfl,(sw [0,1,2,3] [] [.s 2,.s 4,.s 7,.s 9,.s 10,.a 51 (.bool ((r_1.Policy==(2:Int))&&decide ((lN ((r_3++b_1)))>(zG ((lN (r_1.Data)) - (zG (r_1.End - r_1.Start)))))))] [.s 0,.s 1,.s 2,.s 3] (ac (congrArg AV.bool (n8 zQ):(.bool false:AV)=.bool ((r_1.Policy==(2:Int))&&decide ((lN ((r_3++b_1)))>(zG ((lN (r_1.Data)) - (zG (r_1.End - r_1.Start))))))) an))⟩
 refine cd 51 ((r_1.Policy==(2:Int))&&decide ((lN ((r_3++b_1)))>(zG ((lN (r_1.Data)) - (zG (r_1.End - r_1.Start)))))) ?_ ?_
 ·intro g_3;replace h:=zV g_3 h
  refine sr [] [4,5,6] [1] 4 [Pp 1,Ii 0,Ii 6] [Vb 30 (zP r_1)] zF an ?_
  refine wk [1] [] [.s 4,.s 5,.s 6] [.s 0] [(4,Pp 0),(5,Ii 0),(6,Ii 6)] [(0,Vb 30 (zP r_1))] an ?_
  refine rt ?_
  cases h
  exact ⟨.inr rfl,Nat.le_of_ble_eq_true rfl,by kernel_rfl⟩
 intro g_3;replace h:=zW g_3 h
 refine sq ?_
 refine yV (mk [(2,Pp 0),(4,Pp 1),(7,.own 2 ((r_2.1).length)),(9,.own 3 (((r_3++b_1)).length)),(10,Ii (zG ((lN (r_1.Data)) - (zG (r_1.End - r_1.Start))))),(62,.bool (decide ((zG (r_1.End+(lN ((r_3++b_1)))))>(1000000000000000:Int))||decide (r_1.Next≥(1000000000000000:Int))))] [(0,Vb 30 (zP r_1)),(1,Vb 30 [Ii 0,.nilsl,Ii 0,Ii 0,Ii 0,Ii 0]),(2,Rb 28 1 (List.map (fun l=>AV.sl false 1 (l.map (AV.int .u8))) r_2.1)),(3,Rb 5 1 (Mb (r_3++b_1)))] 4) ?_ ?_
 ·rcases bft (decide ((zG (r_1.End+(lN ((r_3++b_1)))))>(1000000000000000:Int))) with zY | zY
  ·refine rg [(7,Hg),(8,Hg),(9,Hg),(10,Ht)] [2,4,7,9,10,62] [0,1,2,3] 4 [Pp 0,Pp 1,.own 2 ((r_2.1).length),.own 3 (((r_3++b_1)).length),Ii (zG ((lN (r_1.Data)) - (zG (r_1.End - r_1.Start)))),.bool true] [Vb 30 (zP r_1),Vb 30 [Ii 0,.nilsl,Ii 0,Ii 0,Ii 0,Ii 0],Rb 28 1 (List.map (fun l=>AV.sl false 1 (l.map (AV.int .u8))) r_2.1),Rb 5 1 (Mb (r_3++b_1))] zF (ac zY (ac zY (ac zY (ac zY an)))) ?_
   exact ⟨rfl,(sw [0,1,2,3] [] [.s 2,.s 4,.s 7,.s 9,.s 10,.a 62 (.bool (decide ((zG (r_1.End+(lN ((r_3++b_1)))))>(1000000000000000:Int))||decide (r_1.Next≥(1000000000000000:Int))))] [.s 0,.s 1,.s 2,.s 3] (ac (congrArg AV.bool (ort zY):(.bool true:AV)=.bool (decide ((zG (r_1.End+(lN ((r_3++b_1)))))>(1000000000000000:Int))||decide (r_1.Next≥(1000000000000000:Int)))) an))⟩
  ·refine rg [(10,Hf)] [2,4,7,9,10,62] [0,1,2,3] 4 [Pp 0,Pp 1,.own 2 ((r_2.1).length),.own 3 (((r_3++b_1)).length),Ii (zG ((lN (r_1.Data)) - (zG (r_1.End - r_1.Start)))),.bool (decide (r_1.Next≥(1000000000000000:Int)))] [Vb 30 (zP r_1),Vb 30 [Ii 0,.nilsl,Ii 0,Ii 0,Ii 0,Ii 0],Rb 28 1 (List.map (fun l=>AV.sl false 1 (l.map (AV.int .u8))) r_2.1),Rb 5 1 (Mb (r_3++b_1))] zF (ac zY (ac zY (ac zY (ac zY an)))) ?_
   exact ⟨rfl,(sw [0,1,2,3] [] [.s 2,.s 4,.s 7,.s 9,.s 10,.a 62 (.bool (decide ((zG (r_1.End+(lN ((r_3++b_1)))))>(1000000000000000:Int))||decide (r_1.Next≥(1000000000000000:Int))))] [.s 0,.s 1,.s 2,.s 3] (ac (congrArg AV.bool (orf zY rfl):(.bool (decide (r_1.Next≥(1000000000000000:Int))):AV)=.bool (decide ((zG (r_1.End+(lN ((r_3++b_1)))))>(1000000000000000:Int))||decide (r_1.Next≥(1000000000000000:Int)))) an))⟩
 refine cd 62 (decide ((zG (r_1.End+(lN ((r_3++b_1)))))>(1000000000000000:Int))||decide (r_1.Next≥(1000000000000000:Int))) ?_ ?_
 ·intro g_4;replace h:=zV g_4 h
  refine sr [] [4,5,6] [1] 4 [Pp 1,Ii 0,Ii 2] [Vb 30 (zP r_1)] zF an ?_
  refine wk [1] [] [.s 4,.s 5,.s 6] [.s 0] [(4,Pp 0),(5,Ii 0),(6,Ii 2)] [(0,Vb 30 (zP r_1))] an ?_
  refine rt ?_
  cases h
  exact ⟨.inr rfl,Nat.le_of_ble_eq_true rfl,by kernel_rfl⟩
 intro g_4;replace h:=zW g_4 h
 refine sk ?_
 refine sr [(1,{ id:=4 })] [2,4,7,9,10,11,12] [0,1,2,3,4] 5 [Pp 0,Pp 1,.own 2 ((r_2.1).length),.own 3 (((r_3++b_1)).length),Ii (zG ((lN (r_1.Data)) - (zG (r_1.End - r_1.Start)))),Pp 4,Ii 0] [Vb 30 (zP r_1),Vb 30 [Ii 0,.nilsl,Ii 0,Ii 0,Ii 0,Ii 0],Rb 28 1 (List.map (fun l=>AV.sl false 1 (l.map (AV.int .u8))) r_2.1),Rb 5 1 (Mb (r_3++b_1)),Vb 30 (zP r_1)] zF an ?_
 refine sq ?_
 obtain ⟨o_1,h_4,h⟩:=bind_some h
 refine yV (mk [(2,Pp 0),(4,Pp 1),(9,.own 2 (((r_3++b_1)).length)),(11,Pp 3),(12,Ii o_1.1)] [(0,Vb 30 (zP r_1)),(1,Vb 30 [Ii 0,.nilsl,Ii 0,Ii 0,Ii 0,Ii 0]),(2,Rb 5 1 (Mb (r_3++b_1))),(3,Vb 30 [Ii r_1.Policy,.sl false 1 (Mb r_1.Data),Ii o_1.2,Ii r_1.End,Ii r_1.First,Ii r_1.Next])] 4) ?_ ?_
 ·replace h:=h_4
  refine yN (id:=1) (by kernel_rfl) ?_
  refine wk [0,1,2,3,4] [] [.s 2,.s 4,.s 7,.s 9,.s 10,.s 11,.s 12] [.s 0,.s 1,.s 2,.s 3,.s 4] [(2,Pp 0),(4,Pp 1),(7,.own 2 ((r_2.1).length)),(9,.own 3 (((r_3++b_1)).length)),(10,Ii (zG ((lN (r_1.Data)) - (zG (r_1.End - r_1.Start))))),(11,Pp 4),(12,Ii 0)] [(0,Vb 30 (zP r_1)),(1,Vb 30 [Ii 0,.nilsl,Ii 0,Ii 0,Ii 0,Ii 0]),(2,Rb 28 1 (List.map (fun l=>AV.sl false 1 (l.map (AV.int .u8))) r_2.1)),(3,Rb 5 1 (Mb (r_3++b_1))),(4,Vb 30 (zP r_1))] an ?_
  refine wH (fun n st=>∃ (jR:Int),∃ (xG:Int),∃ (c_1:Int),st=mk [(2,Pp 0),(4,Pp 1),(7,.own 2 ((r_2.1).length)),(9,.own 3 (((r_3++b_1)).length)),(10,Ii jR),(11,Pp 4),(12,Ii xG)] [(0,Vb 30 (zP r_1)),(1,Vb 30 [Ii 0,.nilsl,Ii 0,Ii 0,Ii 0,Ii 0]),(2,Rb 28 1 (List.map (fun l=>AV.sl false 1 (l.map (AV.int .u8))) r_2.1)),(3,Rb 5 1 (Mb (r_3++b_1))),(4,Vb 30 [Ii r_1.Policy,.sl false 1 (Mb r_1.Data),Ii c_1,Ii r_1.End,Ii r_1.First,Ii r_1.Next])] 5∧nP F b_1 r_2 r_3 n jR xG c_1=some o_1) F (by kernel_rfl) ⟨_,_,_,rfl,h⟩ ?_ ?_
  ·rintro _ ⟨_,_,_,_,h⟩;exact w5 (h:(none:Option (Int×Int))=some o_1)
  rintro n_1 _ ⟨jR,xG,c_1,rfl,h⟩
  replace h:tD F b_1 r_2 r_3 (nP F b_1 r_2 r_3 n_1) jR xG c_1=some o_1:=h
  unfold tD at h
  refine sq ?_
  refine sr [] [2,4,7,9,10,11,12,79] [0,1,2,3,4] 5 [Pp 0,Pp 1,.own 2 ((r_2.1).length),.own 3 (((r_3++b_1)).length),Ii jR,Pp 4,Ii xG,.bool (decide ((lN ((r_3++b_1)))>jR))] [Vb 30 (zP r_1),Vb 30 [Ii 0,.nilsl,Ii 0,Ii 0,Ii 0,Ii 0],Rb 28 1 (List.map (fun l=>AV.sl false 1 (l.map (AV.int .u8))) r_2.1),Rb 5 1 (Mb (r_3++b_1)),Vb 30 [Ii r_1.Policy,.sl false 1 (Mb r_1.Data),Ii c_1,Ii r_1.End,Ii r_1.First,Ii r_1.Next]] zF an ?_
  refine cd 79 (decide ((lN ((r_3++b_1)))>jR)) ?_ ?_
  rotate_left
  ·intro g_5;replace h:=zW g_5 h
   refine wS (id:=1) (by kernel_rfl) ?_
   cases h
   exact ⟨rfl,(sw [0,1,3,4] [] [.s 2,.s 4,.s 9,.s 11,.s 12] [.s 0,.s 1,.s 2,.s 3] an)⟩
  intro g_5;replace h:=zV g_5 h
  refine sk ?_
  refine sq ?_
  refine yN (id:=2) (by kernel_rfl) ?_
  refine sq ?_
  obtain ⟨x_1,h_5,h⟩:=bind_some h
  obtain ⟨r_4,h_6,h⟩:=bind_some h
  obtain ⟨x_2,h_7,h⟩:=bind_some h
  refine rg [(3,{ av:=.sl false 1 (Mb x_1) }),(4,{ n:=(x_1).length }),(5,{ av:=.own 0 ((r_4).length),ids:=[5],l:=[.nilsl,Ii (lN (x_1))],post:=[(.row 5 1 (Mb r_4))] }),(10,{ av:=.sl false 1 (Mb x_2) }),(11,{ n:=(x_2).length })] [2,4,7,9,10,11,12,13] [0,1,2,3,4] 6 [Pp 0,Pp 1,.own 2 ((r_2.1).length),.own 3 (((r_3++b_1)).length),Ii jR,Pp 4,Ii xG,Ii (zG ((lN (r_4))+(lN (x_2))))] [Vb 30 (zP r_1),Vb 30 [Ii 0,.nilsl,Ii 0,Ii 0,Ii 0,Ii 0],Rb 28 1 (List.map (fun l=>AV.sl false 1 (l.map (AV.int .u8))) r_2.1),Rb 5 1 (Mb (r_3++b_1)),Vb 30 [Ii r_1.Policy,.sl false 1 (Mb r_1.Data),Ii c_1,Ii r_1.End,Ii r_1.First,Ii r_1.Next]] zF (ac (y6 h_5:(0:Int)≤xG) (ac (by first | (simp;done) | simpa using y7 h_5:xG<(((r_2.1).length:Nat):Int)) (ac (xD h_5:(List.map (fun l=>AV.sl false 1 (l.map (AV.int .u8))) r_2.1)[(xG).toNat]?=some (.sl false 1 (Mb x_1))) (ac (yO _:((Mb x_1)).length=(x_1).length) (ar ([.nilsl,Ii (lN (x_1))]:List AV) (ac (rfl:([]:List zU)=[]) (ac (v8 (args':=[.sl false 1 [],Ii (lN (x_1))]) (uV F [] (lN (x_1)) r_4 h_6) rfl ⟨rfl,rfl,trivial⟩:zS prog 59 [] [] [.nilsl,Ii (lN (x_1))] [(.row 5 1 (Mb r_4))] (.own 0 ((r_4).length))) (ac (y6 h_7:(0:Int)≤xG) (ac (by first | (simp;done) | simpa using y7 h_7:xG<(((r_2.1).length:Nat):Int)) (ac (xD h_7:(List.map (fun l=>AV.sl false 1 (l.map (AV.int .u8))) r_2.1)[(xG).toNat]?=some (.sl false 1 (Mb x_2))) (ac (yO _:((Mb x_2)).length=(x_2).length) an))))))))))) ?_
  refine sr [] [2,4,7,9,10,11,12,13] [0,1,2,3,4] 6 [Pp 0,Pp 1,.own 2 ((r_2.1).length),.own 3 (((r_3++b_1)).length),Ii (zG (jR+(zG ((lN (r_4))+(lN (x_2)))))),Pp 4,Ii xG,Ii (zG ((lN (r_4))+(lN (x_2))))] [Vb 30 (zP r_1),Vb 30 [Ii 0,.nilsl,Ii 0,Ii 0,Ii 0,Ii 0],Rb 28 1 (List.map (fun l=>AV.sl false 1 (l.map (AV.int .u8))) r_2.1),Rb 5 1 (Mb (r_3++b_1)),Vb 30 [Ii r_1.Policy,.sl false 1 (Mb r_1.Data),Ii c_1,Ii r_1.End,Ii r_1.First,Ii r_1.Next]] zF an ?_
  refine rg [] [2,4,7,9,10,11,12] [0,1,2,3,4] 6 [Pp 0,Pp 1,.own 2 ((r_2.1).length),.own 3 (((r_3++b_1)).length),Ii (zG (jR+(zG ((lN (r_4))+(lN (x_2)))))),Pp 4,Ii xG] [Vb 30 (zP r_1),Vb 30 [Ii 0,.nilsl,Ii 0,Ii 0,Ii 0,Ii 0],Rb 28 1 (List.map (fun l=>AV.sl false 1 (l.map (AV.int .u8))) r_2.1),Rb 5 1 (Mb (r_3++b_1)),Vb 30 [Ii r_1.Policy,.sl false 1 (Mb r_1.Data),Ii (zG (c_1+(zG ((lN (r_4))+(lN (x_2)))))),Ii r_1.End,Ii r_1.First,Ii r_1.Next]] zF an ?_
  refine rg [] [2,4,7,9,10,11,12] [0,1,2,3,4] 6 [Pp 0,Pp 1,.own 2 ((r_2.1).length),.own 3 (((r_3++b_1)).length),Ii (zG (jR+(zG ((lN (r_4))+(lN (x_2)))))),Pp 4,Ii (zG (xG+(1:Int)))] [Vb 30 (zP r_1),Vb 30 [Ii 0,.nilsl,Ii 0,Ii 0,Ii 0,Ii 0],Rb 28 1 (List.map (fun l=>AV.sl false 1 (l.map (AV.int .u8))) r_2.1),Rb 5 1 (Mb (r_3++b_1)),Vb 30 [Ii r_1.Policy,.sl false 1 (Mb r_1.Data),Ii (zG (c_1+(zG ((lN (r_4))+(lN (x_2)))))),Ii r_1.End,Ii r_1.First,Ii r_1.Next]] zF an ?_
  exact ⟨_,(sw [0,1,2,3,4] [] [.s 2,.s 4,.s 7,.s 9,.s 10,.s 11,.s 12] [.s 0,.s 1,.s 2,.s 3,.s 4] an),_,_,_,rfl,h⟩
 refine sr [] [2,4,9,11,12] [0,1,2,3] 4 [Pp 0,Pp 1,.own 2 (((r_3++b_1)).length),Pp 3,Ii o_1.1] [Vb 30 (zP r_1),Vb 30 [Ii 0,.nilsl,Ii 0,Ii 0,Ii 0,Ii 0],Rb 5 1 (Mb (r_3++b_1)),Vb 30 [Ii r_1.Policy,.sl false 1 (Mb r_1.Data),Ii o_1.2,Ii r_1.End,Ii (zG (r_1.First+o_1.1)),Ii r_1.Next]] zF an ?_
 refine sq ?_
 obtain ⟨r_5,h_8,h⟩:=bind_some h
 refine rg [(2,{ av:=.own 0 ((r_5).length),ids:=[4],l:=[.sl false 1 (Mb r_1.Data)],post:=[(.row 5 1 (Mb r_5))] })] [4,9,11,12] [1,2,3,4] 5 [Pp 1,.own 2 (((r_3++b_1)).length),Pp 3,Ii o_1.1] [Vb 30 [Ii 0,.nilsl,Ii 0,Ii 0,Ii 0,Ii 0],Rb 5 1 (Mb (r_3++b_1)),Vb 30 [Ii r_1.Policy,.own 4 ((r_5).length),Ii o_1.2,Ii r_1.End,Ii (zG (r_1.First+o_1.1)),Ii r_1.Next],Rb 5 1 (Mb r_5)] zF (ar ([.sl false 1 (Mb r_1.Data)]:List AV) (ac (rfl:([]:List zU)=[]) (ac (zCk r_1.Data r_5 h_8:zS prog 62 [] [] [.sl false 1 (Mb r_1.Data)] [(.row 5 1 (Mb r_5))] (.own 0 ((r_5).length))) an))) ?_
 refine sq ?_
 obtain ⟨_,h_9,h⟩:=bind_some h;replace h_9:=yU h_9
 obtain ⟨_,kX,h⟩:=bind_some h;replace kX:=yU kX
 obtain ⟨_,kC,h⟩:=bind_some h;replace kC:=yU kC
 refine rg [(10,{ l:=(Mb (cpy r_5 ((yH r_1.End (lN (r_5))).toNat) ((r_5).length) (r_3++b_1))),n:=(min ((r_3++b_1)).length ((r_5).length - (yH r_1.End (lN (r_5))).toNat)) })] [4,9,11,12,14] [1,2,3,4] 5 [Pp 1,.own 2 (((r_3++b_1)).length),Pp 3,Ii o_1.1,Ii (((min ((r_3++b_1)).length ((r_5).length - (yH r_1.End (lN (r_5))).toNat)):Nat):Int)] [Vb 30 [Ii 0,.nilsl,Ii 0,Ii 0,Ii 0,Ii 0],Rb 5 1 (Mb (r_3++b_1)),Vb 30 [Ii r_1.Policy,.own 4 ((r_5).length),Ii o_1.2,Ii r_1.End,Ii (zG (r_1.First+o_1.1)),Ii r_1.Next],Rb 5 1 (Mb (cpy r_5 ((yH r_1.End (lN (r_5))).toNat) ((r_5).length) (r_3++b_1)))] zF (ac h_9 (ac kX.1 (ac kX.2 (ac (Int.le_refl _:(lN (r_5))≤(lN (r_5))) (ac (by first | (simp;done) | (simp;omega):((r_3++b_1)).length=((List.map (AV.int .u8) (r_3++b_1))).length) (ac kC.1 (ac (nZ kC.2:((r_5).length)≤((Mb r_5)).length) (ac (by simp:(min ((r_3++b_1)).length ((r_5).length - (yH r_1.End (((r_5).length:Nat):Int)).toNat))=min ((List.map (AV.int .u8) (r_3++b_1)):List AV).length ((r_5).length - (yH r_1.End (((r_5).length:Nat):Int)).toNat)) (ac (by simp [cpy]:(List.map (AV.int .u8) (cpy r_5 ((yH r_1.End (((r_5).length:Nat):Int)).toNat) ((r_5).length) (r_3++b_1)))=((List.map (AV.int .u8) r_5)).take ((yH r_1.End (((r_5).length:Nat):Int)).toNat)++((List.map (AV.int .u8) (r_3++b_1)):List AV).take (min ((r_3++b_1)).length ((r_5).length - (yH r_1.End (((r_5).length:Nat):Int)).toNat))++((List.map (AV.int .u8) r_5)).drop ((yH r_1.End (((r_5).length:Nat):Int)).toNat+(min ((r_3++b_1)).length ((r_5).length - (yH r_1.End (((r_5).length:Nat):Int)).toNat)))) an))))))))) ?_
 refine sq ?_
 obtain ⟨_,zAh,h⟩:=bind_some h;replace zAh:=yU zAh
 obtain ⟨_,zBF,h⟩:=bind_some h;replace zBF:=yU zBF
 obtain ⟨_,kD,h⟩:=bind_some h;replace kD:=yU kD
 refine rg [(5,{ l:=(Mb (cpy (cpy r_5 ((yH r_1.End (lN (r_5))).toNat) ((r_5).length) (r_3++b_1)) 0 ((r_5).length) ((((r_3++b_1)).take (((r_3++b_1)).length)).drop (min ((r_3++b_1)).length ((r_5).length - (yH r_1.End (lN (r_5))).toNat))))),n:=(min ((((r_3++b_1)).take (((r_3++b_1)).length)).drop (min ((r_3++b_1)).length ((r_5).length - (yH r_1.End (lN (r_5))).toNat))).length ((r_5).length - 0)) })] [4,9,11,12] [1,2,3,4] 5 [Pp 1,.own 2 (((r_3++b_1)).length),Pp 3,Ii o_1.1] [Vb 30 [Ii 0,.nilsl,Ii 0,Ii 0,Ii 0,Ii 0],Rb 5 1 (Mb (r_3++b_1)),Vb 30 [Ii r_1.Policy,.own 4 ((r_5).length),Ii o_1.2,Ii r_1.End,Ii (zG (r_1.First+o_1.1)),Ii r_1.Next],Rb 5 1 (Mb (cpy (cpy r_5 ((yH r_1.End (lN (r_5))).toNat) ((r_5).length) (r_3++b_1)) 0 ((r_5).length) ((((r_3++b_1)).take (((r_3++b_1)).length)).drop (min ((r_3++b_1)).length ((r_5).length - (yH r_1.End (lN (r_5))).toNat)))))] zF (ac (Int.natCast_nonneg _:(0:Int)≤(((min ((r_3++b_1)).length ((r_5).length - (yH r_1.End (lN (r_5))).toNat)):Nat):Int)) (ac zAh (ac (Int.le_refl _:(lN ((r_3++b_1)))≤(lN ((r_3++b_1)))) (ac (nZ zBF.2:(((r_3++b_1)).length)≤((Mb (r_3++b_1))).length) (ac zBF.1 (ac kD.1 (ac (nZ kD.2:((r_5).length)≤((Mb (cpy r_5 ((yH r_1.End (lN (r_5))).toNat) ((r_5).length) (r_3++b_1)))).length) (ac (by simp:(min ((((r_3++b_1)).take (((r_3++b_1)).length)).drop (min ((r_3++b_1)).length ((r_5).length - (yH r_1.End (((r_5).length:Nat):Int)).toNat))).length ((r_5).length - 0))=min ((((List.map (AV.int .u8) (r_3++b_1))).take (((r_3++b_1)).length)).drop (min ((r_3++b_1)).length ((r_5).length - (yH r_1.End (((r_5).length:Nat):Int)).toNat)):List AV).length ((r_5).length - 0)) (ac (by simp [cpy]:(List.map (AV.int .u8) (cpy (cpy r_5 ((yH r_1.End (((r_5).length:Nat):Int)).toNat) ((r_5).length) (r_3++b_1)) 0 ((r_5).length) ((((r_3++b_1)).take (((r_3++b_1)).length)).drop (min ((r_3++b_1)).length ((r_5).length - (yH r_1.End (((r_5).length:Nat):Int)).toNat)))))=((List.map (AV.int .u8) (cpy r_5 ((yH r_1.End (((r_5).length:Nat):Int)).toNat) ((r_5).length) (r_3++b_1)))).take 0++((((List.map (AV.int .u8) (r_3++b_1))).take (((r_3++b_1)).length)).drop (min ((r_3++b_1)).length ((r_5).length - (yH r_1.End (((r_5).length:Nat):Int)).toNat)):List AV).take (min ((((r_3++b_1)).take (((r_3++b_1)).length)).drop (min ((r_3++b_1)).length ((r_5).length - (yH r_1.End (((r_5).length:Nat):Int)).toNat))).length ((r_5).length - 0))++((List.map (AV.int .u8) (cpy r_5 ((yH r_1.End (((r_5).length:Nat):Int)).toNat) ((r_5).length) (r_3++b_1)))).drop (0+(min ((((r_3++b_1)).take (((r_3++b_1)).length)).drop (min ((r_3++b_1)).length ((r_5).length - (yH r_1.End (((r_5).length:Nat):Int)).toNat))).length ((r_5).length - 0)))) an))))))))) ?_
 refine sr [] [4,11,12] [1,3,4] 5 [Pp 1,Pp 3,Ii o_1.1] [Vb 30 [Ii 0,.nilsl,Ii 0,Ii 0,Ii 0,Ii 0],Vb 30 [Ii r_1.Policy,.own 4 ((r_5).length),Ii o_1.2,Ii (zG (r_1.End+(lN ((r_3++b_1))))),Ii (zG (r_1.First+o_1.1)),Ii r_1.Next],Rb 5 1 (Mb (cpy (cpy r_5 ((yH r_1.End (lN (r_5))).toNat) ((r_5).length) (r_3++b_1)) 0 ((r_5).length) ((((r_3++b_1)).take (((r_3++b_1)).length)).drop (min ((r_3++b_1)).length ((r_5).length - (yH r_1.End (lN (r_5))).toNat)))))] zF an ?_
 refine sr [] [4,11,12] [1,3,4] 5 [Pp 1,Pp 3,Ii o_1.1] [Vb 30 [Ii 0,.nilsl,Ii 0,Ii 0,Ii 0,Ii 0],Vb 30 [Ii r_1.Policy,.own 4 ((r_5).length),Ii o_1.2,Ii (zG (r_1.End+(lN ((r_3++b_1))))),Ii (zG (r_1.First+o_1.1)),Ii (zG (r_1.Next+(1:Int)))],Rb 5 1 (Mb (cpy (cpy r_5 ((yH r_1.End (lN (r_5))).toNat) ((r_5).length) (r_3++b_1)) 0 ((r_5).length) ((((r_3++b_1)).take (((r_3++b_1)).length)).drop (min ((r_3++b_1)).length ((r_5).length - (yH r_1.End (lN (r_5))).toNat)))))] zF an ?_
 refine sr [] [4,5,6] [1,4] 5 [Pp 1,Ii o_1.1,Ii 0] [Vb 30 [Ii r_1.Policy,.own 4 ((r_5).length),Ii o_1.2,Ii (zG (r_1.End+(lN ((r_3++b_1))))),Ii (zG (r_1.First+o_1.1)),Ii (zG (r_1.Next+(1:Int)))],Rb 5 1 (Mb (cpy (cpy r_5 ((yH r_1.End (lN (r_5))).toNat) ((r_5).length) (r_3++b_1)) 0 ((r_5).length) ((((r_3++b_1)).take (((r_3++b_1)).length)).drop (min ((r_3++b_1)).length ((r_5).length - (yH r_1.End (lN (r_5))).toNat)))))] zF an ?_
 refine wk [1] [4] [.s 4,.s 5,.s 6] [.a 0 (Vb 30 (zP (⟨r_1.Policy,(cpy (cpy r_5 ((yH r_1.End (lN (r_5))).toNat) ((r_5).length) (r_3++b_1)) 0 ((r_5).length) ((((r_3++b_1)).take (((r_3++b_1)).length)).drop (min ((r_3++b_1)).length ((r_5).length - (yH r_1.End (lN (r_5))).toNat)))),o_1.2,zG (r_1.End+(lN ((r_3++b_1)))),zG (r_1.First+o_1.1),zG (r_1.Next+(1:Int))⟩:zB)))] [(4,Pp 0),(5,Ii o_1.1),(6,Ii 0)] [(0,Vb 30 (zP (⟨r_1.Policy,(cpy (cpy r_5 ((yH r_1.End (lN (r_5))).toNat) ((r_5).length) (r_3++b_1)) 0 ((r_5).length) ((((r_3++b_1)).take (((r_3++b_1)).length)).drop (min ((r_3++b_1)).length ((r_5).length - (yH r_1.End (lN (r_5))).toNat)))),o_1.2,zG (r_1.End+(lN ((r_3++b_1)))),zG (r_1.First+o_1.1),zG (r_1.Next+(1:Int))⟩:zB)))] (ar 30 (ac (rfl:vI [Ii ((⟨r_1.Policy,(cpy (cpy r_5 ((yH r_1.End (lN (r_5))).toNat) ((r_5).length) (r_3++b_1)) 0 ((r_5).length) ((((r_3++b_1)).take (((r_3++b_1)).length)).drop (min ((r_3++b_1)).length ((r_5).length - (yH r_1.End (lN (r_5))).toNat)))),o_1.2,zG (r_1.End+(lN ((r_3++b_1)))),zG (r_1.First+o_1.1),zG (r_1.Next+(1:Int))⟩:zB).Policy),.sl false 1 (Mb ((⟨r_1.Policy,(cpy (cpy r_5 ((yH r_1.End (lN (r_5))).toNat) ((r_5).length) (r_3++b_1)) 0 ((r_5).length) ((((r_3++b_1)).take (((r_3++b_1)).length)).drop (min ((r_3++b_1)).length ((r_5).length - (yH r_1.End (lN (r_5))).toNat)))),o_1.2,zG (r_1.End+(lN ((r_3++b_1)))),zG (r_1.First+o_1.1),zG (r_1.Next+(1:Int))⟩:zB).Data)),Ii ((⟨r_1.Policy,(cpy (cpy r_5 ((yH r_1.End (lN (r_5))).toNat) ((r_5).length) (r_3++b_1)) 0 ((r_5).length) ((((r_3++b_1)).take (((r_3++b_1)).length)).drop (min ((r_3++b_1)).length ((r_5).length - (yH r_1.End (lN (r_5))).toNat)))),o_1.2,zG (r_1.End+(lN ((r_3++b_1)))),zG (r_1.First+o_1.1),zG (r_1.Next+(1:Int))⟩:zB).Start),Ii ((⟨r_1.Policy,(cpy (cpy r_5 ((yH r_1.End (lN (r_5))).toNat) ((r_5).length) (r_3++b_1)) 0 ((r_5).length) ((((r_3++b_1)).take (((r_3++b_1)).length)).drop (min ((r_3++b_1)).length ((r_5).length - (yH r_1.End (lN (r_5))).toNat)))),o_1.2,zG (r_1.End+(lN ((r_3++b_1)))),zG (r_1.First+o_1.1),zG (r_1.Next+(1:Int))⟩:zB).End),Ii ((⟨r_1.Policy,(cpy (cpy r_5 ((yH r_1.End (lN (r_5))).toNat) ((r_5).length) (r_3++b_1)) 0 ((r_5).length) ((((r_3++b_1)).take (((r_3++b_1)).length)).drop (min ((r_3++b_1)).length ((r_5).length - (yH r_1.End (lN (r_5))).toNat)))),o_1.2,zG (r_1.End+(lN ((r_3++b_1)))),zG (r_1.First+o_1.1),zG (r_1.Next+(1:Int))⟩:zB).First),Ii ((⟨r_1.Policy,(cpy (cpy r_5 ((yH r_1.End (lN (r_5))).toNat) ((r_5).length) (r_3++b_1)) 0 ((r_5).length) ((((r_3++b_1)).take (((r_3++b_1)).length)).drop (min ((r_3++b_1)).length ((r_5).length - (yH r_1.End (lN (r_5))).toNat)))),o_1.2,zG (r_1.End+(lN ((r_3++b_1)))),zG (r_1.First+o_1.1),zG (r_1.Next+(1:Int))⟩:zB).Next)]=true) (ac (by rw [List.length_map];exact ((pI kD.1 kD.2).trans (pI kC.1 kC.2)).symm:(r_5).length=((List.map (AV.int .u8) (cpy (cpy r_5 ((yH r_1.End (((r_5).length:Nat):Int)).toNat) ((r_5).length) (r_3++b_1)) 0 ((r_5).length) ((((r_3++b_1)).take (((r_3++b_1)).length)).drop (min ((r_3++b_1)).length ((r_5).length - (yH r_1.End (((r_5).length:Nat):Int)).toNat)))))).length) (ac (rfl:(Ii r_1.Policy:AV)=Ii ((⟨r_1.Policy,(cpy (cpy r_5 ((yH r_1.End (lN (r_5))).toNat) ((r_5).length) (r_3++b_1)) 0 ((r_5).length) ((((r_3++b_1)).take (((r_3++b_1)).length)).drop (min ((r_3++b_1)).length ((r_5).length - (yH r_1.End (lN (r_5))).toNat)))),o_1.2,zG (r_1.End+(lN ((r_3++b_1)))),zG (r_1.First+o_1.1),zG (r_1.Next+(1:Int))⟩:zB).Policy)) (ar 1 (ac (rfl:((Mb (cpy (cpy r_5 ((yH r_1.End (lN (r_5))).toNat) ((r_5).length) (r_3++b_1)) 0 ((r_5).length) ((((r_3++b_1)).take (((r_3++b_1)).length)).drop (min ((r_3++b_1)).length ((r_5).length - (yH r_1.End (lN (r_5))).toNat))))):List AV)=(Mb ((⟨r_1.Policy,(cpy (cpy r_5 ((yH r_1.End (lN (r_5))).toNat) ((r_5).length) (r_3++b_1)) 0 ((r_5).length) ((((r_3++b_1)).take (((r_3++b_1)).length)).drop (min ((r_3++b_1)).length ((r_5).length - (yH r_1.End (lN (r_5))).toNat)))),o_1.2,zG (r_1.End+(lN ((r_3++b_1)))),zG (r_1.First+o_1.1),zG (r_1.Next+(1:Int))⟩:zB).Data))) (ac (rfl:(!false||false)=true) (ac (rfl:(Ii o_1.2:AV)=Ii ((⟨r_1.Policy,(cpy (cpy r_5 ((yH r_1.End (lN (r_5))).toNat) ((r_5).length) (r_3++b_1)) 0 ((r_5).length) ((((r_3++b_1)).take (((r_3++b_1)).length)).drop (min ((r_3++b_1)).length ((r_5).length - (yH r_1.End (lN (r_5))).toNat)))),o_1.2,zG (r_1.End+(lN ((r_3++b_1)))),zG (r_1.First+o_1.1),zG (r_1.Next+(1:Int))⟩:zB).Start)) (ac (rfl:(Ii (zG (r_1.End+(lN ((r_3++b_1))))):AV)=Ii ((⟨r_1.Policy,(cpy (cpy r_5 ((yH r_1.End (lN (r_5))).toNat) ((r_5).length) (r_3++b_1)) 0 ((r_5).length) ((((r_3++b_1)).take (((r_3++b_1)).length)).drop (min ((r_3++b_1)).length ((r_5).length - (yH r_1.End (lN (r_5))).toNat)))),o_1.2,zG (r_1.End+(lN ((r_3++b_1)))),zG (r_1.First+o_1.1),zG (r_1.Next+(1:Int))⟩:zB).End)) (ac (rfl:(Ii (zG (r_1.First+o_1.1)):AV)=Ii ((⟨r_1.Policy,(cpy (cpy r_5 ((yH r_1.End (lN (r_5))).toNat) ((r_5).length) (r_3++b_1)) 0 ((r_5).length) ((((r_3++b_1)).take (((r_3++b_1)).length)).drop (min ((r_3++b_1)).length ((r_5).length - (yH r_1.End (lN (r_5))).toNat)))),o_1.2,zG (r_1.End+(lN ((r_3++b_1)))),zG (r_1.First+o_1.1),zG (r_1.Next+(1:Int))⟩:zB).First)) (ac (rfl:(Ii (zG (r_1.Next+(1:Int))):AV)=Ii ((⟨r_1.Policy,(cpy (cpy r_5 ((yH r_1.End (lN (r_5))).toNat) ((r_5).length) (r_3++b_1)) 0 ((r_5).length) ((((r_3++b_1)).take (((r_3++b_1)).length)).drop (min ((r_3++b_1)).length ((r_5).length - (yH r_1.End (lN (r_5))).toNat)))),o_1.2,zG (r_1.End+(lN ((r_3++b_1)))),zG (r_1.First+o_1.1),zG (r_1.Next+(1:Int))⟩:zB).Next)) an))))))))))) ?_
 refine rt ?_
 cases h
 exact ⟨.inr rfl,Nat.le_of_ble_eq_true rfl,by kernel_rfl⟩
theorem tW (F:Nat) (p_1:zA) (e_1:zE) (r:zA×Int) (h:vN F p_1 e_1=some r):zS prog 21 [] [] [zM p_1,zN e_1] [] (.tuple [zM r.1,Ii r.2]):=by
 refine yD (fn:=Go.Proofs.Try.f21) (code:=y5 Go.Proofs.Try.f21) (by kernel_rfl) (by kernel_rfl) (Nat.le_of_ble_eq_true (by kernel_rfl)) ?_
 unfold vN at h
 refine sr [(0,{ id:=0 }),(1,{ id:=1 }),(2,{ id:=2 })] [2,3,4] [0,1,2] 3 [Pp 0,Pp 1,Pp 2] [Vb 32 (zK p_1),Vb 45 (zT e_1),Vb 32 [Ii 0,.str ([]:List Int),Ii 0,.nilsl,.nilsl,Ii 0,.nilsl,Ii 0,Ii 0,Ii 0,Ii 0,Ii 0,Ii 0]] zF an ?_
 refine sq ?_
 refine sq ?_
 obtain ⟨r_1,h_1,h⟩:=bind_some h
 refine rg [(1,{ av:=Ii r_1,l:=[zM p_1] })] [2,3,4,6] [0,1,2] 3 [Pp 0,Pp 1,Pp 2,Ii r_1] [Vb 32 (zK p_1),Vb 45 (zT e_1),Vb 32 [Ii 0,.str ([]:List Int),Ii 0,.nilsl,.nilsl,Ii 0,.nilsl,Ii 0,Ii 0,Ii 0,Ii 0,Ii 0,Ii 0]] zF (ar ([zM p_1]:List AV) (ac (rfl:([]:List zU)=[]) (ac (zAA F p_1 r_1 h_1:zS prog 14 [] [] [zM p_1] [] (Ii r_1)) an))) ?_
 refine sr [] [2,3,4,6,17] [0,1,2] 3 [Pp 0,Pp 1,Pp 2,Ii r_1,.bool (r_1 != (0:Int))] [Vb 32 (zK p_1),Vb 45 (zT e_1),Vb 32 [Ii 0,.str ([]:List Int),Ii 0,.nilsl,.nilsl,Ii 0,.nilsl,Ii 0,Ii 0,Ii 0,Ii 0,Ii 0,Ii 0]] zF an ?_
 refine cd 17 (r_1 != (0:Int)) ?_ ?_
 ·intro g_1;replace h:=zV g_1 h
  refine sr [] [4,5] [2] 3 [Pp 2,Ii r_1] [Vb 32 [Ii 0,.str ([]:List Int),Ii 0,.nilsl,.nilsl,Ii 0,.nilsl,Ii 0,Ii 0,Ii 0,Ii 0,Ii 0,Ii 0]] zF an ?_
  refine wk [2] [] [.s 4,.s 5] [.a 0 (Vb 32 [Ii (((⟨(⟨(0:Int),([]:List Int),(0:Int)⟩:zC),[],[],(⟨(0:Int),[],(0:Int),(0:Int),(0:Int),(0:Int)⟩:zB),(0:Int),(0:Int)⟩:zA).Thread).Id),.str (((⟨(⟨(0:Int),([]:List Int),(0:Int)⟩:zC),[],[],(⟨(0:Int),[],(0:Int),(0:Int),(0:Int),(0:Int)⟩:zB),(0:Int),(0:Int)⟩:zA).Thread).Name),Ii (((⟨(⟨(0:Int),([]:List Int),(0:Int)⟩:zC),[],[],(⟨(0:Int),[],(0:Int),(0:Int),(0:Int),(0:Int)⟩:zB),(0:Int),(0:Int)⟩:zA).Thread).Domain),.sl false 1 (Ms ((⟨(⟨(0:Int),([]:List Int),(0:Int)⟩:zC),[],[],(⟨(0:Int),[],(0:Int),(0:Int),(0:Int),(0:Int)⟩:zB),(0:Int),(0:Int)⟩:zA).Names)),.sl false 2 (Mp zD ((⟨(⟨(0:Int),([]:List Int),(0:Int)⟩:zC),[],[],(⟨(0:Int),[],(0:Int),(0:Int),(0:Int),(0:Int)⟩:zB),(0:Int),(0:Int)⟩:zA).Stacks)),Ii (((⟨(⟨(0:Int),([]:List Int),(0:Int)⟩:zC),[],[],(⟨(0:Int),[],(0:Int),(0:Int),(0:Int),(0:Int)⟩:zB),(0:Int),(0:Int)⟩:zA).Ring).Policy),.sl false 1 (Mb (((⟨(⟨(0:Int),([]:List Int),(0:Int)⟩:zC),[],[],(⟨(0:Int),[],(0:Int),(0:Int),(0:Int),(0:Int)⟩:zB),(0:Int),(0:Int)⟩:zA).Ring).Data)),Ii (((⟨(⟨(0:Int),([]:List Int),(0:Int)⟩:zC),[],[],(⟨(0:Int),[],(0:Int),(0:Int),(0:Int),(0:Int)⟩:zB),(0:Int),(0:Int)⟩:zA).Ring).Start),Ii (((⟨(⟨(0:Int),([]:List Int),(0:Int)⟩:zC),[],[],(⟨(0:Int),[],(0:Int),(0:Int),(0:Int),(0:Int)⟩:zB),(0:Int),(0:Int)⟩:zA).Ring).End),Ii (((⟨(⟨(0:Int),([]:List Int),(0:Int)⟩:zC),[],[],(⟨(0:Int),[],(0:Int),(0:Int),(0:Int),(0:Int)⟩:zB),(0:Int),(0:Int)⟩:zA).Ring).First),Ii (((⟨(⟨(0:Int),([]:List Int),(0:Int)⟩:zC),[],[],(⟨(0:Int),[],(0:Int),(0:Int),(0:Int),(0:Int)⟩:zB),(0:Int),(0:Int)⟩:zA).Ring).Next),Ii ((⟨(⟨(0:Int),([]:List Int),(0:Int)⟩:zC),[],[],(⟨(0:Int),[],(0:Int),(0:Int),(0:Int),(0:Int)⟩:zB),(0:Int),(0:Int)⟩:zA).Last),Ii ((⟨(⟨(0:Int),([]:List Int),(0:Int)⟩:zC),[],[],(⟨(0:Int),[],(0:Int),(0:Int),(0:Int),(0:Int)⟩:zB),(0:Int),(0:Int)⟩:zA).Sent)])] [(4,Pp 0),(5,Ii r_1)] [(0,Vb 32 [Ii (((⟨(⟨(0:Int),([]:List Int),(0:Int)⟩:zC),[],[],(⟨(0:Int),[],(0:Int),(0:Int),(0:Int),(0:Int)⟩:zB),(0:Int),(0:Int)⟩:zA).Thread).Id),.str (((⟨(⟨(0:Int),([]:List Int),(0:Int)⟩:zC),[],[],(⟨(0:Int),[],(0:Int),(0:Int),(0:Int),(0:Int)⟩:zB),(0:Int),(0:Int)⟩:zA).Thread).Name),Ii (((⟨(⟨(0:Int),([]:List Int),(0:Int)⟩:zC),[],[],(⟨(0:Int),[],(0:Int),(0:Int),(0:Int),(0:Int)⟩:zB),(0:Int),(0:Int)⟩:zA).Thread).Domain),.sl false 1 (Ms ((⟨(⟨(0:Int),([]:List Int),(0:Int)⟩:zC),[],[],(⟨(0:Int),[],(0:Int),(0:Int),(0:Int),(0:Int)⟩:zB),(0:Int),(0:Int)⟩:zA).Names)),.sl false 2 (Mp zD ((⟨(⟨(0:Int),([]:List Int),(0:Int)⟩:zC),[],[],(⟨(0:Int),[],(0:Int),(0:Int),(0:Int),(0:Int)⟩:zB),(0:Int),(0:Int)⟩:zA).Stacks)),Ii (((⟨(⟨(0:Int),([]:List Int),(0:Int)⟩:zC),[],[],(⟨(0:Int),[],(0:Int),(0:Int),(0:Int),(0:Int)⟩:zB),(0:Int),(0:Int)⟩:zA).Ring).Policy),.sl false 1 (Mb (((⟨(⟨(0:Int),([]:List Int),(0:Int)⟩:zC),[],[],(⟨(0:Int),[],(0:Int),(0:Int),(0:Int),(0:Int)⟩:zB),(0:Int),(0:Int)⟩:zA).Ring).Data)),Ii (((⟨(⟨(0:Int),([]:List Int),(0:Int)⟩:zC),[],[],(⟨(0:Int),[],(0:Int),(0:Int),(0:Int),(0:Int)⟩:zB),(0:Int),(0:Int)⟩:zA).Ring).Start),Ii (((⟨(⟨(0:Int),([]:List Int),(0:Int)⟩:zC),[],[],(⟨(0:Int),[],(0:Int),(0:Int),(0:Int),(0:Int)⟩:zB),(0:Int),(0:Int)⟩:zA).Ring).End),Ii (((⟨(⟨(0:Int),([]:List Int),(0:Int)⟩:zC),[],[],(⟨(0:Int),[],(0:Int),(0:Int),(0:Int),(0:Int)⟩:zB),(0:Int),(0:Int)⟩:zA).Ring).First),Ii (((⟨(⟨(0:Int),([]:List Int),(0:Int)⟩:zC),[],[],(⟨(0:Int),[],(0:Int),(0:Int),(0:Int),(0:Int)⟩:zB),(0:Int),(0:Int)⟩:zA).Ring).Next),Ii ((⟨(⟨(0:Int),([]:List Int),(0:Int)⟩:zC),[],[],(⟨(0:Int),[],(0:Int),(0:Int),(0:Int),(0:Int)⟩:zB),(0:Int),(0:Int)⟩:zA).Last),Ii ((⟨(⟨(0:Int),([]:List Int),(0:Int)⟩:zC),[],[],(⟨(0:Int),[],(0:Int),(0:Int),(0:Int),(0:Int)⟩:zB),(0:Int),(0:Int)⟩:zA).Sent)])] (ar 32 (ac (rfl:vI [Ii (((⟨(⟨(0:Int),([]:List Int),(0:Int)⟩:zC),[],[],(⟨(0:Int),[],(0:Int),(0:Int),(0:Int),(0:Int)⟩:zB),(0:Int),(0:Int)⟩:zA).Thread).Id),.str (((⟨(⟨(0:Int),([]:List Int),(0:Int)⟩:zC),[],[],(⟨(0:Int),[],(0:Int),(0:Int),(0:Int),(0:Int)⟩:zB),(0:Int),(0:Int)⟩:zA).Thread).Name),Ii (((⟨(⟨(0:Int),([]:List Int),(0:Int)⟩:zC),[],[],(⟨(0:Int),[],(0:Int),(0:Int),(0:Int),(0:Int)⟩:zB),(0:Int),(0:Int)⟩:zA).Thread).Domain),.sl false 1 (Ms ((⟨(⟨(0:Int),([]:List Int),(0:Int)⟩:zC),[],[],(⟨(0:Int),[],(0:Int),(0:Int),(0:Int),(0:Int)⟩:zB),(0:Int),(0:Int)⟩:zA).Names)),.sl false 2 (Mp zD ((⟨(⟨(0:Int),([]:List Int),(0:Int)⟩:zC),[],[],(⟨(0:Int),[],(0:Int),(0:Int),(0:Int),(0:Int)⟩:zB),(0:Int),(0:Int)⟩:zA).Stacks)),Ii (((⟨(⟨(0:Int),([]:List Int),(0:Int)⟩:zC),[],[],(⟨(0:Int),[],(0:Int),(0:Int),(0:Int),(0:Int)⟩:zB),(0:Int),(0:Int)⟩:zA).Ring).Policy),.sl false 1 (Mb (((⟨(⟨(0:Int),([]:List Int),(0:Int)⟩:zC),[],[],(⟨(0:Int),[],(0:Int),(0:Int),(0:Int),(0:Int)⟩:zB),(0:Int),(0:Int)⟩:zA).Ring).Data)),Ii (((⟨(⟨(0:Int),([]:List Int),(0:Int)⟩:zC),[],[],(⟨(0:Int),[],(0:Int),(0:Int),(0:Int),(0:Int)⟩:zB),(0:Int),(0:Int)⟩:zA).Ring).Start),Ii (((⟨(⟨(0:Int),([]:List Int),(0:Int)⟩:zC),[],[],(⟨(0:Int),[],(0:Int),(0:Int),(0:Int),(0:Int)⟩:zB),(0:Int),(0:Int)⟩:zA).Ring).End),Ii (((⟨(⟨(0:Int),([]:List Int),(0:Int)⟩:zC),[],[],(⟨(0:Int),[],(0:Int),(0:Int),(0:Int),(0:Int)⟩:zB),(0:Int),(0:Int)⟩:zA).Ring).First),Ii (((⟨(⟨(0:Int),([]:List Int),(0:Int)⟩:zC),[],[],(⟨(0:Int),[],(0:Int),(0:Int),(0:Int),(0:Int)⟩:zB),(0:Int),(0:Int)⟩:zA).Ring).Next),Ii ((⟨(⟨(0:Int),([]:List Int),(0:Int)⟩:zC),[],[],(⟨(0:Int),[],(0:Int),(0:Int),(0:Int),(0:Int)⟩:zB),(0:Int),(0:Int)⟩:zA).Last),Ii ((⟨(⟨(0:Int),([]:List Int),(0:Int)⟩:zC),[],[],(⟨(0:Int),[],(0:Int),(0:Int),(0:Int),(0:Int)⟩:zB),(0:Int),(0:Int)⟩:zA).Sent)]=true) (ac (rfl:(Ii 0:AV)=Ii (((⟨(⟨(0:Int),([]:List Int),(0:Int)⟩:zC),[],[],(⟨(0:Int),[],(0:Int),(0:Int),(0:Int),(0:Int)⟩:zB),(0:Int),(0:Int)⟩:zA).Thread).Id)) (ac (rfl:(.str ([]:List Int):AV)=.str (((⟨(⟨(0:Int),([]:List Int),(0:Int)⟩:zC),[],[],(⟨(0:Int),[],(0:Int),(0:Int),(0:Int),(0:Int)⟩:zB),(0:Int),(0:Int)⟩:zA).Thread).Name)) (ac (rfl:(Ii 0:AV)=Ii (((⟨(⟨(0:Int),([]:List Int),(0:Int)⟩:zC),[],[],(⟨(0:Int),[],(0:Int),(0:Int),(0:Int),(0:Int)⟩:zB),(0:Int),(0:Int)⟩:zA).Thread).Domain)) (ac (rfl:((Ms ((⟨(⟨(0:Int),([]:List Int),(0:Int)⟩:zC),[],[],(⟨(0:Int),[],(0:Int),(0:Int),(0:Int),(0:Int)⟩:zB),(0:Int),(0:Int)⟩:zA).Names)):List AV)=[]) (ac (rfl:((Mp zD ((⟨(⟨(0:Int),([]:List Int),(0:Int)⟩:zC),[],[],(⟨(0:Int),[],(0:Int),(0:Int),(0:Int),(0:Int)⟩:zB),(0:Int),(0:Int)⟩:zA).Stacks)):List AV)=[]) (ac (rfl:(Ii 0:AV)=Ii (((⟨(⟨(0:Int),([]:List Int),(0:Int)⟩:zC),[],[],(⟨(0:Int),[],(0:Int),(0:Int),(0:Int),(0:Int)⟩:zB),(0:Int),(0:Int)⟩:zA).Ring).Policy)) (ac (rfl:((Mb (((⟨(⟨(0:Int),([]:List Int),(0:Int)⟩:zC),[],[],(⟨(0:Int),[],(0:Int),(0:Int),(0:Int),(0:Int)⟩:zB),(0:Int),(0:Int)⟩:zA).Ring).Data)):List AV)=[]) (ac (rfl:(Ii 0:AV)=Ii (((⟨(⟨(0:Int),([]:List Int),(0:Int)⟩:zC),[],[],(⟨(0:Int),[],(0:Int),(0:Int),(0:Int),(0:Int)⟩:zB),(0:Int),(0:Int)⟩:zA).Ring).Start)) (ac (rfl:(Ii 0:AV)=Ii (((⟨(⟨(0:Int),([]:List Int),(0:Int)⟩:zC),[],[],(⟨(0:Int),[],(0:Int),(0:Int),(0:Int),(0:Int)⟩:zB),(0:Int),(0:Int)⟩:zA).Ring).End)) (ac (rfl:(Ii 0:AV)=Ii (((⟨(⟨(0:Int),([]:List Int),(0:Int)⟩:zC),[],[],(⟨(0:Int),[],(0:Int),(0:Int),(0:Int),(0:Int)⟩:zB),(0:Int),(0:Int)⟩:zA).Ring).First)) (ac (rfl:(Ii 0:AV)=Ii (((⟨(⟨(0:Int),([]:List Int),(0:Int)⟩:zC),[],[],(⟨(0:Int),[],(0:Int),(0:Int),(0:Int),(0:Int)⟩:zB),(0:Int),(0:Int)⟩:zA).Ring).Next)) (ac (rfl:(Ii 0:AV)=Ii ((⟨(⟨(0:Int),([]:List Int),(0:Int)⟩:zC),[],[],(⟨(0:Int),[],(0:Int),(0:Int),(0:Int),(0:Int)⟩:zB),(0:Int),(0:Int)⟩:zA).Last)) (ac (rfl:(Ii 0:AV)=Ii ((⟨(⟨(0:Int),([]:List Int),(0:Int)⟩:zC),[],[],(⟨(0:Int),[],(0:Int),(0:Int),(0:Int),(0:Int)⟩:zB),(0:Int),(0:Int)⟩:zA).Sent)) an))))))))))))))) ?_
  refine rt ?_
  cases h
  exact ⟨.inr rfl,Nat.le_of_ble_eq_true rfl,by kernel_rfl⟩
 intro g_1;replace h:=zW g_1 h
 refine sk ?_
 refine sq ?_
 refine sq ?_
 obtain ⟨r_2,h_2,h⟩:=bind_some h
 refine rg [(1,{ av:=Ii r_2,l:=[zN e_1] })] [2,3,4,7] [0,1,2] 3 [Pp 0,Pp 1,Pp 2,Ii r_2] [Vb 32 (zK p_1),Vb 45 (zT e_1),Vb 32 [Ii 0,.str ([]:List Int),Ii 0,.nilsl,.nilsl,Ii 0,.nilsl,Ii 0,Ii 0,Ii 0,Ii 0,Ii 0,Ii 0]] zF (ar ([zN e_1]:List AV) (ac (rfl:([]:List zU)=[]) (ac (zBo F e_1 r_2 h_2:zS prog 38 [] [] [zN e_1] [] (Ii r_2)) an))) ?_
 refine sr [] [2,3,4,7,23] [0,1,2] 3 [Pp 0,Pp 1,Pp 2,Ii r_2,.bool (r_2 != (0:Int))] [Vb 32 (zK p_1),Vb 45 (zT e_1),Vb 32 [Ii 0,.str ([]:List Int),Ii 0,.nilsl,.nilsl,Ii 0,.nilsl,Ii 0,Ii 0,Ii 0,Ii 0,Ii 0,Ii 0]] zF an ?_
 refine cd 23 (r_2 != (0:Int)) ?_ ?_
 ·intro g_2;replace h:=zV g_2 h
  refine sr [] [4,5] [2] 3 [Pp 2,Ii r_2] [Vb 32 [Ii 0,.str ([]:List Int),Ii 0,.nilsl,.nilsl,Ii 0,.nilsl,Ii 0,Ii 0,Ii 0,Ii 0,Ii 0,Ii 0]] zF an ?_
  refine wk [2] [] [.s 4,.s 5] [.a 0 (Vb 32 [Ii (((⟨(⟨(0:Int),([]:List Int),(0:Int)⟩:zC),[],[],(⟨(0:Int),[],(0:Int),(0:Int),(0:Int),(0:Int)⟩:zB),(0:Int),(0:Int)⟩:zA).Thread).Id),.str (((⟨(⟨(0:Int),([]:List Int),(0:Int)⟩:zC),[],[],(⟨(0:Int),[],(0:Int),(0:Int),(0:Int),(0:Int)⟩:zB),(0:Int),(0:Int)⟩:zA).Thread).Name),Ii (((⟨(⟨(0:Int),([]:List Int),(0:Int)⟩:zC),[],[],(⟨(0:Int),[],(0:Int),(0:Int),(0:Int),(0:Int)⟩:zB),(0:Int),(0:Int)⟩:zA).Thread).Domain),.sl false 1 (Ms ((⟨(⟨(0:Int),([]:List Int),(0:Int)⟩:zC),[],[],(⟨(0:Int),[],(0:Int),(0:Int),(0:Int),(0:Int)⟩:zB),(0:Int),(0:Int)⟩:zA).Names)),.sl false 2 (Mp zD ((⟨(⟨(0:Int),([]:List Int),(0:Int)⟩:zC),[],[],(⟨(0:Int),[],(0:Int),(0:Int),(0:Int),(0:Int)⟩:zB),(0:Int),(0:Int)⟩:zA).Stacks)),Ii (((⟨(⟨(0:Int),([]:List Int),(0:Int)⟩:zC),[],[],(⟨(0:Int),[],(0:Int),(0:Int),(0:Int),(0:Int)⟩:zB),(0:Int),(0:Int)⟩:zA).Ring).Policy),.sl false 1 (Mb (((⟨(⟨(0:Int),([]:List Int),(0:Int)⟩:zC),[],[],(⟨(0:Int),[],(0:Int),(0:Int),(0:Int),(0:Int)⟩:zB),(0:Int),(0:Int)⟩:zA).Ring).Data)),Ii (((⟨(⟨(0:Int),([]:List Int),(0:Int)⟩:zC),[],[],(⟨(0:Int),[],(0:Int),(0:Int),(0:Int),(0:Int)⟩:zB),(0:Int),(0:Int)⟩:zA).Ring).Start),Ii (((⟨(⟨(0:Int),([]:List Int),(0:Int)⟩:zC),[],[],(⟨(0:Int),[],(0:Int),(0:Int),(0:Int),(0:Int)⟩:zB),(0:Int),(0:Int)⟩:zA).Ring).End),Ii (((⟨(⟨(0:Int),([]:List Int),(0:Int)⟩:zC),[],[],(⟨(0:Int),[],(0:Int),(0:Int),(0:Int),(0:Int)⟩:zB),(0:Int),(0:Int)⟩:zA).Ring).First),Ii (((⟨(⟨(0:Int),([]:List Int),(0:Int)⟩:zC),[],[],(⟨(0:Int),[],(0:Int),(0:Int),(0:Int),(0:Int)⟩:zB),(0:Int),(0:Int)⟩:zA).Ring).Next),Ii ((⟨(⟨(0:Int),([]:List Int),(0:Int)⟩:zC),[],[],(⟨(0:Int),[],(0:Int),(0:Int),(0:Int),(0:Int)⟩:zB),(0:Int),(0:Int)⟩:zA).Last),Ii ((⟨(⟨(0:Int),([]:List Int),(0:Int)⟩:zC),[],[],(⟨(0:Int),[],(0:Int),(0:Int),(0:Int),(0:Int)⟩:zB),(0:Int),(0:Int)⟩:zA).Sent)])] [(4,Pp 0),(5,Ii r_2)] [(0,Vb 32 [Ii (((⟨(⟨(0:Int),([]:List Int),(0:Int)⟩:zC),[],[],(⟨(0:Int),[],(0:Int),(0:Int),(0:Int),(0:Int)⟩:zB),(0:Int),(0:Int)⟩:zA).Thread).Id),.str (((⟨(⟨(0:Int),([]:List Int),(0:Int)⟩:zC),[],[],(⟨(0:Int),[],(0:Int),(0:Int),(0:Int),(0:Int)⟩:zB),(0:Int),(0:Int)⟩:zA).Thread).Name),Ii (((⟨(⟨(0:Int),([]:List Int),(0:Int)⟩:zC),[],[],(⟨(0:Int),[],(0:Int),(0:Int),(0:Int),(0:Int)⟩:zB),(0:Int),(0:Int)⟩:zA).Thread).Domain),.sl false 1 (Ms ((⟨(⟨(0:Int),([]:List Int),(0:Int)⟩:zC),[],[],(⟨(0:Int),[],(0:Int),(0:Int),(0:Int),(0:Int)⟩:zB),(0:Int),(0:Int)⟩:zA).Names)),.sl false 2 (Mp zD ((⟨(⟨(0:Int),([]:List Int),(0:Int)⟩:zC),[],[],(⟨(0:Int),[],(0:Int),(0:Int),(0:Int),(0:Int)⟩:zB),(0:Int),(0:Int)⟩:zA).Stacks)),Ii (((⟨(⟨(0:Int),([]:List Int),(0:Int)⟩:zC),[],[],(⟨(0:Int),[],(0:Int),(0:Int),(0:Int),(0:Int)⟩:zB),(0:Int),(0:Int)⟩:zA).Ring).Policy),.sl false 1 (Mb (((⟨(⟨(0:Int),([]:List Int),(0:Int)⟩:zC),[],[],(⟨(0:Int),[],(0:Int),(0:Int),(0:Int),(0:Int)⟩:zB),(0:Int),(0:Int)⟩:zA).Ring).Data)),Ii (((⟨(⟨(0:Int),([]:List Int),(0:Int)⟩:zC),[],[],(⟨(0:Int),[],(0:Int),(0:Int),(0:Int),(0:Int)⟩:zB),(0:Int),(0:Int)⟩:zA).Ring).Start),Ii (((⟨(⟨(0:Int),([]:List Int),(0:Int)⟩:zC),[],[],(⟨(0:Int),[],(0:Int),(0:Int),(0:Int),(0:Int)⟩:zB),(0:Int),(0:Int)⟩:zA).Ring).End),Ii (((⟨(⟨(0:Int),([]:List Int),(0:Int)⟩:zC),[],[],(⟨(0:Int),[],(0:Int),(0:Int),(0:Int),(0:Int)⟩:zB),(0:Int),(0:Int)⟩:zA).Ring).First),Ii (((⟨(⟨(0:Int),([]:List Int),(0:Int)⟩:zC),[],[],(⟨(0:Int),[],(0:Int),(0:Int),(0:Int),(0:Int)⟩:zB),(0:Int),(0:Int)⟩:zA).Ring).Next),Ii ((⟨(⟨(0:Int),([]:List Int),(0:Int)⟩:zC),[],[],(⟨(0:Int),[],(0:Int),(0:Int),(0:Int),(0:Int)⟩:zB),(0:Int),(0:Int)⟩:zA).Last),Ii ((⟨(⟨(0:Int),([]:List Int),(0:Int)⟩:zC),[],[],(⟨(0:Int),[],(0:Int),(0:Int),(0:Int),(0:Int)⟩:zB),(0:Int),(0:Int)⟩:zA).Sent)])] (ar 32 (ac (rfl:vI [Ii (((⟨(⟨(0:Int),([]:List Int),(0:Int)⟩:zC),[],[],(⟨(0:Int),[],(0:Int),(0:Int),(0:Int),(0:Int)⟩:zB),(0:Int),(0:Int)⟩:zA).Thread).Id),.str (((⟨(⟨(0:Int),([]:List Int),(0:Int)⟩:zC),[],[],(⟨(0:Int),[],(0:Int),(0:Int),(0:Int),(0:Int)⟩:zB),(0:Int),(0:Int)⟩:zA).Thread).Name),Ii (((⟨(⟨(0:Int),([]:List Int),(0:Int)⟩:zC),[],[],(⟨(0:Int),[],(0:Int),(0:Int),(0:Int),(0:Int)⟩:zB),(0:Int),(0:Int)⟩:zA).Thread).Domain),.sl false 1 (Ms ((⟨(⟨(0:Int),([]:List Int),(0:Int)⟩:zC),[],[],(⟨(0:Int),[],(0:Int),(0:Int),(0:Int),(0:Int)⟩:zB),(0:Int),(0:Int)⟩:zA).Names)),.sl false 2 (Mp zD ((⟨(⟨(0:Int),([]:List Int),(0:Int)⟩:zC),[],[],(⟨(0:Int),[],(0:Int),(0:Int),(0:Int),(0:Int)⟩:zB),(0:Int),(0:Int)⟩:zA).Stacks)),Ii (((⟨(⟨(0:Int),([]:List Int),(0:Int)⟩:zC),[],[],(⟨(0:Int),[],(0:Int),(0:Int),(0:Int),(0:Int)⟩:zB),(0:Int),(0:Int)⟩:zA).Ring).Policy),.sl false 1 (Mb (((⟨(⟨(0:Int),([]:List Int),(0:Int)⟩:zC),[],[],(⟨(0:Int),[],(0:Int),(0:Int),(0:Int),(0:Int)⟩:zB),(0:Int),(0:Int)⟩:zA).Ring).Data)),Ii (((⟨(⟨(0:Int),([]:List Int),(0:Int)⟩:zC),[],[],(⟨(0:Int),[],(0:Int),(0:Int),(0:Int),(0:Int)⟩:zB),(0:Int),(0:Int)⟩:zA).Ring).Start),Ii (((⟨(⟨(0:Int),([]:List Int),(0:Int)⟩:zC),[],[],(⟨(0:Int),[],(0:Int),(0:Int),(0:Int),(0:Int)⟩:zB),(0:Int),(0:Int)⟩:zA).Ring).End),Ii (((⟨(⟨(0:Int),([]:List Int),(0:Int)⟩:zC),[],[],(⟨(0:Int),[],(0:Int),(0:Int),(0:Int),(0:Int)⟩:zB),(0:Int),(0:Int)⟩:zA).Ring).First),Ii (((⟨(⟨(0:Int),([]:List Int),(0:Int)⟩:zC),[],[],(⟨(0:Int),[],(0:Int),(0:Int),(0:Int),(0:Int)⟩:zB),(0:Int),(0:Int)⟩:zA).Ring).Next),Ii ((⟨(⟨(0:Int),([]:List Int),(0:Int)⟩:zC),[],[],(⟨(0:Int),[],(0:Int),(0:Int),(0:Int),(0:Int)⟩:zB),(0:Int),(0:Int)⟩:zA).Last),Ii ((⟨(⟨(0:Int),([]:List Int),(0:Int)⟩:zC),[],[],(⟨(0:Int),[],(0:Int),(0:Int),(0:Int),(0:Int)⟩:zB),(0:Int),(0:Int)⟩:zA).Sent)]=true) (ac (rfl:(Ii 0:AV)=Ii (((⟨(⟨(0:Int),([]:List Int),(0:Int)⟩:zC),[],[],(⟨(0:Int),[],(0:Int),(0:Int),(0:Int),(0:Int)⟩:zB),(0:Int),(0:Int)⟩:zA).Thread).Id)) (ac (rfl:(.str ([]:List Int):AV)=.str (((⟨(⟨(0:Int),([]:List Int),(0:Int)⟩:zC),[],[],(⟨(0:Int),[],(0:Int),(0:Int),(0:Int),(0:Int)⟩:zB),(0:Int),(0:Int)⟩:zA).Thread).Name)) (ac (rfl:(Ii 0:AV)=Ii (((⟨(⟨(0:Int),([]:List Int),(0:Int)⟩:zC),[],[],(⟨(0:Int),[],(0:Int),(0:Int),(0:Int),(0:Int)⟩:zB),(0:Int),(0:Int)⟩:zA).Thread).Domain)) (ac (rfl:((Ms ((⟨(⟨(0:Int),([]:List Int),(0:Int)⟩:zC),[],[],(⟨(0:Int),[],(0:Int),(0:Int),(0:Int),(0:Int)⟩:zB),(0:Int),(0:Int)⟩:zA).Names)):List AV)=[]) (ac (rfl:((Mp zD ((⟨(⟨(0:Int),([]:List Int),(0:Int)⟩:zC),[],[],(⟨(0:Int),[],(0:Int),(0:Int),(0:Int),(0:Int)⟩:zB),(0:Int),(0:Int)⟩:zA).Stacks)):List AV)=[]) (ac (rfl:(Ii 0:AV)=Ii (((⟨(⟨(0:Int),([]:List Int),(0:Int)⟩:zC),[],[],(⟨(0:Int),[],(0:Int),(0:Int),(0:Int),(0:Int)⟩:zB),(0:Int),(0:Int)⟩:zA).Ring).Policy)) (ac (rfl:((Mb (((⟨(⟨(0:Int),([]:List Int),(0:Int)⟩:zC),[],[],(⟨(0:Int),[],(0:Int),(0:Int),(0:Int),(0:Int)⟩:zB),(0:Int),(0:Int)⟩:zA).Ring).Data)):List AV)=[]) (ac (rfl:(Ii 0:AV)=Ii (((⟨(⟨(0:Int),([]:List Int),(0:Int)⟩:zC),[],[],(⟨(0:Int),[],(0:Int),(0:Int),(0:Int),(0:Int)⟩:zB),(0:Int),(0:Int)⟩:zA).Ring).Start)) (ac (rfl:(Ii 0:AV)=Ii (((⟨(⟨(0:Int),([]:List Int),(0:Int)⟩:zC),[],[],(⟨(0:Int),[],(0:Int),(0:Int),(0:Int),(0:Int)⟩:zB),(0:Int),(0:Int)⟩:zA).Ring).End)) (ac (rfl:(Ii 0:AV)=Ii (((⟨(⟨(0:Int),([]:List Int),(0:Int)⟩:zC),[],[],(⟨(0:Int),[],(0:Int),(0:Int),(0:Int),(0:Int)⟩:zB),(0:Int),(0:Int)⟩:zA).Ring).First)) (ac (rfl:(Ii 0:AV)=Ii (((⟨(⟨(0:Int),([]:List Int),(0:Int)⟩:zC),[],[],(⟨(0:Int),[],(0:Int),(0:Int),(0:Int),(0:Int)⟩:zB),(0:Int),(0:Int)⟩:zA).Ring).Next)) (ac (rfl:(Ii 0:AV)=Ii ((⟨(⟨(0:Int),([]:List Int),(0:Int)⟩:zC),[],[],(⟨(0:Int),[],(0:Int),(0:Int),(0:Int),(0:Int)⟩:zB),(0:Int),(0:Int)⟩:zA).Last)) (ac (rfl:(Ii 0:AV)=Ii ((⟨(⟨(0:Int),([]:List Int),(0:Int)⟩:zC),[],[],(⟨(0:Int),[],(0:Int),(0:Int),(0:Int),(0:Int)⟩:zB),(0:Int),(0:Int)⟩:zA).Sent)) an))))))))))))))) ?_
  refine rt ?_
  cases h
  exact ⟨.inr rfl,Nat.le_of_ble_eq_true rfl,by kernel_rfl⟩
 intro g_2;replace h:=zW g_2 h
 refine sk ?_
 refine sq ?_
 refine sr [] [2,3,4,30] [0,1,2] 3 [Pp 0,Pp 1,Pp 2,.bool (decide (e_1.At<p_1.Last))] [Vb 32 (zK p_1),Vb 45 (zT e_1),Vb 32 [Ii 0,.str ([]:List Int),Ii 0,.nilsl,.nilsl,Ii 0,.nilsl,Ii 0,Ii 0,Ii 0,Ii 0,Ii 0,Ii 0]] zF an ?_
 refine cd 30 (decide (e_1.At<p_1.Last)) ?_ ?_
 ·intro g_3;replace h:=zV g_3 h
  refine sr [] [4,5] [2] 3 [Pp 2,Ii 11] [Vb 32 [Ii 0,.str ([]:List Int),Ii 0,.nilsl,.nilsl,Ii 0,.nilsl,Ii 0,Ii 0,Ii 0,Ii 0,Ii 0,Ii 0]] zF an ?_
  refine wk [2] [] [.s 4,.s 5] [.a 0 (Vb 32 [Ii (((⟨(⟨(0:Int),([]:List Int),(0:Int)⟩:zC),[],[],(⟨(0:Int),[],(0:Int),(0:Int),(0:Int),(0:Int)⟩:zB),(0:Int),(0:Int)⟩:zA).Thread).Id),.str (((⟨(⟨(0:Int),([]:List Int),(0:Int)⟩:zC),[],[],(⟨(0:Int),[],(0:Int),(0:Int),(0:Int),(0:Int)⟩:zB),(0:Int),(0:Int)⟩:zA).Thread).Name),Ii (((⟨(⟨(0:Int),([]:List Int),(0:Int)⟩:zC),[],[],(⟨(0:Int),[],(0:Int),(0:Int),(0:Int),(0:Int)⟩:zB),(0:Int),(0:Int)⟩:zA).Thread).Domain),.sl false 1 (Ms ((⟨(⟨(0:Int),([]:List Int),(0:Int)⟩:zC),[],[],(⟨(0:Int),[],(0:Int),(0:Int),(0:Int),(0:Int)⟩:zB),(0:Int),(0:Int)⟩:zA).Names)),.sl false 2 (Mp zD ((⟨(⟨(0:Int),([]:List Int),(0:Int)⟩:zC),[],[],(⟨(0:Int),[],(0:Int),(0:Int),(0:Int),(0:Int)⟩:zB),(0:Int),(0:Int)⟩:zA).Stacks)),Ii (((⟨(⟨(0:Int),([]:List Int),(0:Int)⟩:zC),[],[],(⟨(0:Int),[],(0:Int),(0:Int),(0:Int),(0:Int)⟩:zB),(0:Int),(0:Int)⟩:zA).Ring).Policy),.sl false 1 (Mb (((⟨(⟨(0:Int),([]:List Int),(0:Int)⟩:zC),[],[],(⟨(0:Int),[],(0:Int),(0:Int),(0:Int),(0:Int)⟩:zB),(0:Int),(0:Int)⟩:zA).Ring).Data)),Ii (((⟨(⟨(0:Int),([]:List Int),(0:Int)⟩:zC),[],[],(⟨(0:Int),[],(0:Int),(0:Int),(0:Int),(0:Int)⟩:zB),(0:Int),(0:Int)⟩:zA).Ring).Start),Ii (((⟨(⟨(0:Int),([]:List Int),(0:Int)⟩:zC),[],[],(⟨(0:Int),[],(0:Int),(0:Int),(0:Int),(0:Int)⟩:zB),(0:Int),(0:Int)⟩:zA).Ring).End),Ii (((⟨(⟨(0:Int),([]:List Int),(0:Int)⟩:zC),[],[],(⟨(0:Int),[],(0:Int),(0:Int),(0:Int),(0:Int)⟩:zB),(0:Int),(0:Int)⟩:zA).Ring).First),Ii (((⟨(⟨(0:Int),([]:List Int),(0:Int)⟩:zC),[],[],(⟨(0:Int),[],(0:Int),(0:Int),(0:Int),(0:Int)⟩:zB),(0:Int),(0:Int)⟩:zA).Ring).Next),Ii ((⟨(⟨(0:Int),([]:List Int),(0:Int)⟩:zC),[],[],(⟨(0:Int),[],(0:Int),(0:Int),(0:Int),(0:Int)⟩:zB),(0:Int),(0:Int)⟩:zA).Last),Ii ((⟨(⟨(0:Int),([]:List Int),(0:Int)⟩:zC),[],[],(⟨(0:Int),[],(0:Int),(0:Int),(0:Int),(0:Int)⟩:zB),(0:Int),(0:Int)⟩:zA).Sent)])] [(4,Pp 0),(5,Ii 11)] [(0,Vb 32 [Ii (((⟨(⟨(0:Int),([]:List Int),(0:Int)⟩:zC),[],[],(⟨(0:Int),[],(0:Int),(0:Int),(0:Int),(0:Int)⟩:zB),(0:Int),(0:Int)⟩:zA).Thread).Id),.str (((⟨(⟨(0:Int),([]:List Int),(0:Int)⟩:zC),[],[],(⟨(0:Int),[],(0:Int),(0:Int),(0:Int),(0:Int)⟩:zB),(0:Int),(0:Int)⟩:zA).Thread).Name),Ii (((⟨(⟨(0:Int),([]:List Int),(0:Int)⟩:zC),[],[],(⟨(0:Int),[],(0:Int),(0:Int),(0:Int),(0:Int)⟩:zB),(0:Int),(0:Int)⟩:zA).Thread).Domain),.sl false 1 (Ms ((⟨(⟨(0:Int),([]:List Int),(0:Int)⟩:zC),[],[],(⟨(0:Int),[],(0:Int),(0:Int),(0:Int),(0:Int)⟩:zB),(0:Int),(0:Int)⟩:zA).Names)),.sl false 2 (Mp zD ((⟨(⟨(0:Int),([]:List Int),(0:Int)⟩:zC),[],[],(⟨(0:Int),[],(0:Int),(0:Int),(0:Int),(0:Int)⟩:zB),(0:Int),(0:Int)⟩:zA).Stacks)),Ii (((⟨(⟨(0:Int),([]:List Int),(0:Int)⟩:zC),[],[],(⟨(0:Int),[],(0:Int),(0:Int),(0:Int),(0:Int)⟩:zB),(0:Int),(0:Int)⟩:zA).Ring).Policy),.sl false 1 (Mb (((⟨(⟨(0:Int),([]:List Int),(0:Int)⟩:zC),[],[],(⟨(0:Int),[],(0:Int),(0:Int),(0:Int),(0:Int)⟩:zB),(0:Int),(0:Int)⟩:zA).Ring).Data)),Ii (((⟨(⟨(0:Int),([]:List Int),(0:Int)⟩:zC),[],[],(⟨(0:Int),[],(0:Int),(0:Int),(0:Int),(0:Int)⟩:zB),(0:Int),(0:Int)⟩:zA).Ring).Start),Ii (((⟨(⟨(0:Int),([]:List Int),(0:Int)⟩:zC),[],[],(⟨(0:Int),[],(0:Int),(0:Int),(0:Int),(0:Int)⟩:zB),(0:Int),(0:Int)⟩:zA).Ring).End),Ii (((⟨(⟨(0:Int),([]:List Int),(0:Int)⟩:zC),[],[],(⟨(0:Int),[],(0:Int),(0:Int),(0:Int),(0:Int)⟩:zB),(0:Int),(0:Int)⟩:zA).Ring).First),Ii (((⟨(⟨(0:Int),([]:List Int),(0:Int)⟩:zC),[],[],(⟨(0:Int),[],(0:Int),(0:Int),(0:Int),(0:Int)⟩:zB),(0:Int),(0:Int)⟩:zA).Ring).Next),Ii ((⟨(⟨(0:Int),([]:List Int),(0:Int)⟩:zC),[],[],(⟨(0:Int),[],(0:Int),(0:Int),(0:Int),(0:Int)⟩:zB),(0:Int),(0:Int)⟩:zA).Last),Ii ((⟨(⟨(0:Int),([]:List Int),(0:Int)⟩:zC),[],[],(⟨(0:Int),[],(0:Int),(0:Int),(0:Int),(0:Int)⟩:zB),(0:Int),(0:Int)⟩:zA).Sent)])] (ar 32 (ac (rfl:vI [Ii (((⟨(⟨(0:Int),([]:List Int),(0:Int)⟩:zC),[],[],(⟨(0:Int),[],(0:Int),(0:Int),(0:Int),(0:Int)⟩:zB),(0:Int),(0:Int)⟩:zA).Thread).Id),.str (((⟨(⟨(0:Int),([]:List Int),(0:Int)⟩:zC),[],[],(⟨(0:Int),[],(0:Int),(0:Int),(0:Int),(0:Int)⟩:zB),(0:Int),(0:Int)⟩:zA).Thread).Name),Ii (((⟨(⟨(0:Int),([]:List Int),(0:Int)⟩:zC),[],[],(⟨(0:Int),[],(0:Int),(0:Int),(0:Int),(0:Int)⟩:zB),(0:Int),(0:Int)⟩:zA).Thread).Domain),.sl false 1 (Ms ((⟨(⟨(0:Int),([]:List Int),(0:Int)⟩:zC),[],[],(⟨(0:Int),[],(0:Int),(0:Int),(0:Int),(0:Int)⟩:zB),(0:Int),(0:Int)⟩:zA).Names)),.sl false 2 (Mp zD ((⟨(⟨(0:Int),([]:List Int),(0:Int)⟩:zC),[],[],(⟨(0:Int),[],(0:Int),(0:Int),(0:Int),(0:Int)⟩:zB),(0:Int),(0:Int)⟩:zA).Stacks)),Ii (((⟨(⟨(0:Int),([]:List Int),(0:Int)⟩:zC),[],[],(⟨(0:Int),[],(0:Int),(0:Int),(0:Int),(0:Int)⟩:zB),(0:Int),(0:Int)⟩:zA).Ring).Policy),.sl false 1 (Mb (((⟨(⟨(0:Int),([]:List Int),(0:Int)⟩:zC),[],[],(⟨(0:Int),[],(0:Int),(0:Int),(0:Int),(0:Int)⟩:zB),(0:Int),(0:Int)⟩:zA).Ring).Data)),Ii (((⟨(⟨(0:Int),([]:List Int),(0:Int)⟩:zC),[],[],(⟨(0:Int),[],(0:Int),(0:Int),(0:Int),(0:Int)⟩:zB),(0:Int),(0:Int)⟩:zA).Ring).Start),Ii (((⟨(⟨(0:Int),([]:List Int),(0:Int)⟩:zC),[],[],(⟨(0:Int),[],(0:Int),(0:Int),(0:Int),(0:Int)⟩:zB),(0:Int),(0:Int)⟩:zA).Ring).End),Ii (((⟨(⟨(0:Int),([]:List Int),(0:Int)⟩:zC),[],[],(⟨(0:Int),[],(0:Int),(0:Int),(0:Int),(0:Int)⟩:zB),(0:Int),(0:Int)⟩:zA).Ring).First),Ii (((⟨(⟨(0:Int),([]:List Int),(0:Int)⟩:zC),[],[],(⟨(0:Int),[],(0:Int),(0:Int),(0:Int),(0:Int)⟩:zB),(0:Int),(0:Int)⟩:zA).Ring).Next),Ii ((⟨(⟨(0:Int),([]:List Int),(0:Int)⟩:zC),[],[],(⟨(0:Int),[],(0:Int),(0:Int),(0:Int),(0:Int)⟩:zB),(0:Int),(0:Int)⟩:zA).Last),Ii ((⟨(⟨(0:Int),([]:List Int),(0:Int)⟩:zC),[],[],(⟨(0:Int),[],(0:Int),(0:Int),(0:Int),(0:Int)⟩:zB),(0:Int),(0:Int)⟩:zA).Sent)]=true) (ac (rfl:(Ii 0:AV)=Ii (((⟨(⟨(0:Int),([]:List Int),(0:Int)⟩:zC),[],[],(⟨(0:Int),[],(0:Int),(0:Int),(0:Int),(0:Int)⟩:zB),(0:Int),(0:Int)⟩:zA).Thread).Id)) (ac (rfl:(.str ([]:List Int):AV)=.str (((⟨(⟨(0:Int),([]:List Int),(0:Int)⟩:zC),[],[],(⟨(0:Int),[],(0:Int),(0:Int),(0:Int),(0:Int)⟩:zB),(0:Int),(0:Int)⟩:zA).Thread).Name)) (ac (rfl:(Ii 0:AV)=Ii (((⟨(⟨(0:Int),([]:List Int),(0:Int)⟩:zC),[],[],(⟨(0:Int),[],(0:Int),(0:Int),(0:Int),(0:Int)⟩:zB),(0:Int),(0:Int)⟩:zA).Thread).Domain)) (ac (rfl:((Ms ((⟨(⟨(0:Int),([]:List Int),(0:Int)⟩:zC),[],[],(⟨(0:Int),[],(0:Int),(0:Int),(0:Int),(0:Int)⟩:zB),(0:Int),(0:Int)⟩:zA).Names)):List AV)=[]) (ac (rfl:((Mp zD ((⟨(⟨(0:Int),([]:List Int),(0:Int)⟩:zC),[],[],(⟨(0:Int),[],(0:Int),(0:Int),(0:Int),(0:Int)⟩:zB),(0:Int),(0:Int)⟩:zA).Stacks)):List AV)=[]) (ac (rfl:(Ii 0:AV)=Ii (((⟨(⟨(0:Int),([]:List Int),(0:Int)⟩:zC),[],[],(⟨(0:Int),[],(0:Int),(0:Int),(0:Int),(0:Int)⟩:zB),(0:Int),(0:Int)⟩:zA).Ring).Policy)) (ac (rfl:((Mb (((⟨(⟨(0:Int),([]:List Int),(0:Int)⟩:zC),[],[],(⟨(0:Int),[],(0:Int),(0:Int),(0:Int),(0:Int)⟩:zB),(0:Int),(0:Int)⟩:zA).Ring).Data)):List AV)=[]) (ac (rfl:(Ii 0:AV)=Ii (((⟨(⟨(0:Int),([]:List Int),(0:Int)⟩:zC),[],[],(⟨(0:Int),[],(0:Int),(0:Int),(0:Int),(0:Int)⟩:zB),(0:Int),(0:Int)⟩:zA).Ring).Start)) (ac (rfl:(Ii 0:AV)=Ii (((⟨(⟨(0:Int),([]:List Int),(0:Int)⟩:zC),[],[],(⟨(0:Int),[],(0:Int),(0:Int),(0:Int),(0:Int)⟩:zB),(0:Int),(0:Int)⟩:zA).Ring).End)) (ac (rfl:(Ii 0:AV)=Ii (((⟨(⟨(0:Int),([]:List Int),(0:Int)⟩:zC),[],[],(⟨(0:Int),[],(0:Int),(0:Int),(0:Int),(0:Int)⟩:zB),(0:Int),(0:Int)⟩:zA).Ring).First)) (ac (rfl:(Ii 0:AV)=Ii (((⟨(⟨(0:Int),([]:List Int),(0:Int)⟩:zC),[],[],(⟨(0:Int),[],(0:Int),(0:Int),(0:Int),(0:Int)⟩:zB),(0:Int),(0:Int)⟩:zA).Ring).Next)) (ac (rfl:(Ii 0:AV)=Ii ((⟨(⟨(0:Int),([]:List Int),(0:Int)⟩:zC),[],[],(⟨(0:Int),[],(0:Int),(0:Int),(0:Int),(0:Int)⟩:zB),(0:Int),(0:Int)⟩:zA).Last)) (ac (rfl:(Ii 0:AV)=Ii ((⟨(⟨(0:Int),([]:List Int),(0:Int)⟩:zC),[],[],(⟨(0:Int),[],(0:Int),(0:Int),(0:Int),(0:Int)⟩:zB),(0:Int),(0:Int)⟩:zA).Sent)) an))))))))))))))) ?_
  refine rt ?_
  cases h
  exact ⟨.inr rfl,Nat.le_of_ble_eq_true rfl,by kernel_rfl⟩
 intro g_3;replace h:=zW g_3 h
 refine sk ?_
 refine sq ?_
 obtain ⟨r_3,h_3,h⟩:=bind_some h
 refine rg [(5,{ av:=.tuple [.own 0 ((r_3.1).length),.sl false 1 (Ms r_3.2.1),.sl false 2 (Mp zD r_3.2.2.1),Ii r_3.2.2.2],ids:=[3],l:=[.sl false 1 (Ms p_1.Names),.sl false 2 (Mp zD p_1.Stacks),zN e_1],post:=[(.row 5 1 (Mb r_3.1))] })] [2,3,4,8,9,10,11] [0,1,2,3] 4 [Pp 0,Pp 1,Pp 2,.own 3 ((r_3.1).length),.sl false 1 (Ms r_3.2.1),.sl false 2 (Mp zD r_3.2.2.1),Ii r_3.2.2.2] [Vb 32 (zK p_1),Vb 45 (zT e_1),Vb 32 [Ii 0,.str ([]:List Int),Ii 0,.nilsl,.nilsl,Ii 0,.nilsl,Ii 0,Ii 0,Ii 0,Ii 0,Ii 0,Ii 0],Rb 5 1 (Mb r_3.1)] zF (ar ([.sl false 1 (Ms p_1.Names),.sl false 2 (Mp zD p_1.Stacks),zN e_1]:List AV) (ac (rfl:([]:List zU)=[]) (ac (zFG F p_1.Names p_1.Stacks e_1 r_3 h_3:zS prog 39 [] [] [.sl false 1 (Ms p_1.Names),.sl false 2 (Mp zD p_1.Stacks),zN e_1] [(.row 5 1 (Mb r_3.1))] (.tuple [.own 0 ((r_3.1).length),.sl false 1 (Ms r_3.2.1),.sl false 2 (Mp zD r_3.2.2.1),Ii r_3.2.2.2])) an))) ?_
 refine sq ?_
 refine sr [] [2,3,4,8,9,10,11,44] [0,1,2,3] 4 [Pp 0,Pp 1,Pp 2,.own 3 ((r_3.1).length),.sl false 1 (Ms r_3.2.1),.sl false 2 (Mp zD r_3.2.2.1),Ii r_3.2.2.2,.bool (r_3.2.2.2 != (0:Int))] [Vb 32 (zK p_1),Vb 45 (zT e_1),Vb 32 [Ii 0,.str ([]:List Int),Ii 0,.nilsl,.nilsl,Ii 0,.nilsl,Ii 0,Ii 0,Ii 0,Ii 0,Ii 0,Ii 0],Rb 5 1 (Mb r_3.1)] zF an ?_
 refine cd 44 (r_3.2.2.2 != (0:Int)) ?_ ?_
 ·intro g_4;replace h:=zV g_4 h
  refine sr [] [4,5] [2] 4 [Pp 2,Ii r_3.2.2.2] [Vb 32 [Ii 0,.str ([]:List Int),Ii 0,.nilsl,.nilsl,Ii 0,.nilsl,Ii 0,Ii 0,Ii 0,Ii 0,Ii 0,Ii 0]] zF an ?_
  refine wk [2] [] [.s 4,.s 5] [.a 0 (Vb 32 [Ii (((⟨(⟨(0:Int),([]:List Int),(0:Int)⟩:zC),[],[],(⟨(0:Int),[],(0:Int),(0:Int),(0:Int),(0:Int)⟩:zB),(0:Int),(0:Int)⟩:zA).Thread).Id),.str (((⟨(⟨(0:Int),([]:List Int),(0:Int)⟩:zC),[],[],(⟨(0:Int),[],(0:Int),(0:Int),(0:Int),(0:Int)⟩:zB),(0:Int),(0:Int)⟩:zA).Thread).Name),Ii (((⟨(⟨(0:Int),([]:List Int),(0:Int)⟩:zC),[],[],(⟨(0:Int),[],(0:Int),(0:Int),(0:Int),(0:Int)⟩:zB),(0:Int),(0:Int)⟩:zA).Thread).Domain),.sl false 1 (Ms ((⟨(⟨(0:Int),([]:List Int),(0:Int)⟩:zC),[],[],(⟨(0:Int),[],(0:Int),(0:Int),(0:Int),(0:Int)⟩:zB),(0:Int),(0:Int)⟩:zA).Names)),.sl false 2 (Mp zD ((⟨(⟨(0:Int),([]:List Int),(0:Int)⟩:zC),[],[],(⟨(0:Int),[],(0:Int),(0:Int),(0:Int),(0:Int)⟩:zB),(0:Int),(0:Int)⟩:zA).Stacks)),Ii (((⟨(⟨(0:Int),([]:List Int),(0:Int)⟩:zC),[],[],(⟨(0:Int),[],(0:Int),(0:Int),(0:Int),(0:Int)⟩:zB),(0:Int),(0:Int)⟩:zA).Ring).Policy),.sl false 1 (Mb (((⟨(⟨(0:Int),([]:List Int),(0:Int)⟩:zC),[],[],(⟨(0:Int),[],(0:Int),(0:Int),(0:Int),(0:Int)⟩:zB),(0:Int),(0:Int)⟩:zA).Ring).Data)),Ii (((⟨(⟨(0:Int),([]:List Int),(0:Int)⟩:zC),[],[],(⟨(0:Int),[],(0:Int),(0:Int),(0:Int),(0:Int)⟩:zB),(0:Int),(0:Int)⟩:zA).Ring).Start),Ii (((⟨(⟨(0:Int),([]:List Int),(0:Int)⟩:zC),[],[],(⟨(0:Int),[],(0:Int),(0:Int),(0:Int),(0:Int)⟩:zB),(0:Int),(0:Int)⟩:zA).Ring).End),Ii (((⟨(⟨(0:Int),([]:List Int),(0:Int)⟩:zC),[],[],(⟨(0:Int),[],(0:Int),(0:Int),(0:Int),(0:Int)⟩:zB),(0:Int),(0:Int)⟩:zA).Ring).First),Ii (((⟨(⟨(0:Int),([]:List Int),(0:Int)⟩:zC),[],[],(⟨(0:Int),[],(0:Int),(0:Int),(0:Int),(0:Int)⟩:zB),(0:Int),(0:Int)⟩:zA).Ring).Next),Ii ((⟨(⟨(0:Int),([]:List Int),(0:Int)⟩:zC),[],[],(⟨(0:Int),[],(0:Int),(0:Int),(0:Int),(0:Int)⟩:zB),(0:Int),(0:Int)⟩:zA).Last),Ii ((⟨(⟨(0:Int),([]:List Int),(0:Int)⟩:zC),[],[],(⟨(0:Int),[],(0:Int),(0:Int),(0:Int),(0:Int)⟩:zB),(0:Int),(0:Int)⟩:zA).Sent)])] [(4,Pp 0),(5,Ii r_3.2.2.2)] [(0,Vb 32 [Ii (((⟨(⟨(0:Int),([]:List Int),(0:Int)⟩:zC),[],[],(⟨(0:Int),[],(0:Int),(0:Int),(0:Int),(0:Int)⟩:zB),(0:Int),(0:Int)⟩:zA).Thread).Id),.str (((⟨(⟨(0:Int),([]:List Int),(0:Int)⟩:zC),[],[],(⟨(0:Int),[],(0:Int),(0:Int),(0:Int),(0:Int)⟩:zB),(0:Int),(0:Int)⟩:zA).Thread).Name),Ii (((⟨(⟨(0:Int),([]:List Int),(0:Int)⟩:zC),[],[],(⟨(0:Int),[],(0:Int),(0:Int),(0:Int),(0:Int)⟩:zB),(0:Int),(0:Int)⟩:zA).Thread).Domain),.sl false 1 (Ms ((⟨(⟨(0:Int),([]:List Int),(0:Int)⟩:zC),[],[],(⟨(0:Int),[],(0:Int),(0:Int),(0:Int),(0:Int)⟩:zB),(0:Int),(0:Int)⟩:zA).Names)),.sl false 2 (Mp zD ((⟨(⟨(0:Int),([]:List Int),(0:Int)⟩:zC),[],[],(⟨(0:Int),[],(0:Int),(0:Int),(0:Int),(0:Int)⟩:zB),(0:Int),(0:Int)⟩:zA).Stacks)),Ii (((⟨(⟨(0:Int),([]:List Int),(0:Int)⟩:zC),[],[],(⟨(0:Int),[],(0:Int),(0:Int),(0:Int),(0:Int)⟩:zB),(0:Int),(0:Int)⟩:zA).Ring).Policy),.sl false 1 (Mb (((⟨(⟨(0:Int),([]:List Int),(0:Int)⟩:zC),[],[],(⟨(0:Int),[],(0:Int),(0:Int),(0:Int),(0:Int)⟩:zB),(0:Int),(0:Int)⟩:zA).Ring).Data)),Ii (((⟨(⟨(0:Int),([]:List Int),(0:Int)⟩:zC),[],[],(⟨(0:Int),[],(0:Int),(0:Int),(0:Int),(0:Int)⟩:zB),(0:Int),(0:Int)⟩:zA).Ring).Start),Ii (((⟨(⟨(0:Int),([]:List Int),(0:Int)⟩:zC),[],[],(⟨(0:Int),[],(0:Int),(0:Int),(0:Int),(0:Int)⟩:zB),(0:Int),(0:Int)⟩:zA).Ring).End),Ii (((⟨(⟨(0:Int),([]:List Int),(0:Int)⟩:zC),[],[],(⟨(0:Int),[],(0:Int),(0:Int),(0:Int),(0:Int)⟩:zB),(0:Int),(0:Int)⟩:zA).Ring).First),Ii (((⟨(⟨(0:Int),([]:List Int),(0:Int)⟩:zC),[],[],(⟨(0:Int),[],(0:Int),(0:Int),(0:Int),(0:Int)⟩:zB),(0:Int),(0:Int)⟩:zA).Ring).Next),Ii ((⟨(⟨(0:Int),([]:List Int),(0:Int)⟩:zC),[],[],(⟨(0:Int),[],(0:Int),(0:Int),(0:Int),(0:Int)⟩:zB),(0:Int),(0:Int)⟩:zA).Last),Ii ((⟨(⟨(0:Int),([]:List Int),(0:Int)⟩:zC),[],[],(⟨(0:Int),[],(0:Int),(0:Int),(0:Int),(0:Int)⟩:zB),(0:Int),(0:Int)⟩:zA).Sent)])] (ar 32 (ac (rfl:vI [Ii (((⟨(⟨(0:Int),([]:List Int),(0:Int)⟩:zC),[],[],(⟨(0:Int),[],(0:Int),(0:Int),(0:Int),(0:Int)⟩:zB),(0:Int),(0:Int)⟩:zA).Thread).Id),.str (((⟨(⟨(0:Int),([]:List Int),(0:Int)⟩:zC),[],[],(⟨(0:Int),[],(0:Int),(0:Int),(0:Int),(0:Int)⟩:zB),(0:Int),(0:Int)⟩:zA).Thread).Name),Ii (((⟨(⟨(0:Int),([]:List Int),(0:Int)⟩:zC),[],[],(⟨(0:Int),[],(0:Int),(0:Int),(0:Int),(0:Int)⟩:zB),(0:Int),(0:Int)⟩:zA).Thread).Domain),.sl false 1 (Ms ((⟨(⟨(0:Int),([]:List Int),(0:Int)⟩:zC),[],[],(⟨(0:Int),[],(0:Int),(0:Int),(0:Int),(0:Int)⟩:zB),(0:Int),(0:Int)⟩:zA).Names)),.sl false 2 (Mp zD ((⟨(⟨(0:Int),([]:List Int),(0:Int)⟩:zC),[],[],(⟨(0:Int),[],(0:Int),(0:Int),(0:Int),(0:Int)⟩:zB),(0:Int),(0:Int)⟩:zA).Stacks)),Ii (((⟨(⟨(0:Int),([]:List Int),(0:Int)⟩:zC),[],[],(⟨(0:Int),[],(0:Int),(0:Int),(0:Int),(0:Int)⟩:zB),(0:Int),(0:Int)⟩:zA).Ring).Policy),.sl false 1 (Mb (((⟨(⟨(0:Int),([]:List Int),(0:Int)⟩:zC),[],[],(⟨(0:Int),[],(0:Int),(0:Int),(0:Int),(0:Int)⟩:zB),(0:Int),(0:Int)⟩:zA).Ring).Data)),Ii (((⟨(⟨(0:Int),([]:List Int),(0:Int)⟩:zC),[],[],(⟨(0:Int),[],(0:Int),(0:Int),(0:Int),(0:Int)⟩:zB),(0:Int),(0:Int)⟩:zA).Ring).Start),Ii (((⟨(⟨(0:Int),([]:List Int),(0:Int)⟩:zC),[],[],(⟨(0:Int),[],(0:Int),(0:Int),(0:Int),(0:Int)⟩:zB),(0:Int),(0:Int)⟩:zA).Ring).End),Ii (((⟨(⟨(0:Int),([]:List Int),(0:Int)⟩:zC),[],[],(⟨(0:Int),[],(0:Int),(0:Int),(0:Int),(0:Int)⟩:zB),(0:Int),(0:Int)⟩:zA).Ring).First),Ii (((⟨(⟨(0:Int),([]:List Int),(0:Int)⟩:zC),[],[],(⟨(0:Int),[],(0:Int),(0:Int),(0:Int),(0:Int)⟩:zB),(0:Int),(0:Int)⟩:zA).Ring).Next),Ii ((⟨(⟨(0:Int),([]:List Int),(0:Int)⟩:zC),[],[],(⟨(0:Int),[],(0:Int),(0:Int),(0:Int),(0:Int)⟩:zB),(0:Int),(0:Int)⟩:zA).Last),Ii ((⟨(⟨(0:Int),([]:List Int),(0:Int)⟩:zC),[],[],(⟨(0:Int),[],(0:Int),(0:Int),(0:Int),(0:Int)⟩:zB),(0:Int),(0:Int)⟩:zA).Sent)]=true) (ac (rfl:(Ii 0:AV)=Ii (((⟨(⟨(0:Int),([]:List Int),(0:Int)⟩:zC),[],[],(⟨(0:Int),[],(0:Int),(0:Int),(0:Int),(0:Int)⟩:zB),(0:Int),(0:Int)⟩:zA).Thread).Id)) (ac (rfl:(.str ([]:List Int):AV)=.str (((⟨(⟨(0:Int),([]:List Int),(0:Int)⟩:zC),[],[],(⟨(0:Int),[],(0:Int),(0:Int),(0:Int),(0:Int)⟩:zB),(0:Int),(0:Int)⟩:zA).Thread).Name)) (ac (rfl:(Ii 0:AV)=Ii (((⟨(⟨(0:Int),([]:List Int),(0:Int)⟩:zC),[],[],(⟨(0:Int),[],(0:Int),(0:Int),(0:Int),(0:Int)⟩:zB),(0:Int),(0:Int)⟩:zA).Thread).Domain)) (ac (rfl:((Ms ((⟨(⟨(0:Int),([]:List Int),(0:Int)⟩:zC),[],[],(⟨(0:Int),[],(0:Int),(0:Int),(0:Int),(0:Int)⟩:zB),(0:Int),(0:Int)⟩:zA).Names)):List AV)=[]) (ac (rfl:((Mp zD ((⟨(⟨(0:Int),([]:List Int),(0:Int)⟩:zC),[],[],(⟨(0:Int),[],(0:Int),(0:Int),(0:Int),(0:Int)⟩:zB),(0:Int),(0:Int)⟩:zA).Stacks)):List AV)=[]) (ac (rfl:(Ii 0:AV)=Ii (((⟨(⟨(0:Int),([]:List Int),(0:Int)⟩:zC),[],[],(⟨(0:Int),[],(0:Int),(0:Int),(0:Int),(0:Int)⟩:zB),(0:Int),(0:Int)⟩:zA).Ring).Policy)) (ac (rfl:((Mb (((⟨(⟨(0:Int),([]:List Int),(0:Int)⟩:zC),[],[],(⟨(0:Int),[],(0:Int),(0:Int),(0:Int),(0:Int)⟩:zB),(0:Int),(0:Int)⟩:zA).Ring).Data)):List AV)=[]) (ac (rfl:(Ii 0:AV)=Ii (((⟨(⟨(0:Int),([]:List Int),(0:Int)⟩:zC),[],[],(⟨(0:Int),[],(0:Int),(0:Int),(0:Int),(0:Int)⟩:zB),(0:Int),(0:Int)⟩:zA).Ring).Start)) (ac (rfl:(Ii 0:AV)=Ii (((⟨(⟨(0:Int),([]:List Int),(0:Int)⟩:zC),[],[],(⟨(0:Int),[],(0:Int),(0:Int),(0:Int),(0:Int)⟩:zB),(0:Int),(0:Int)⟩:zA).Ring).End)) (ac (rfl:(Ii 0:AV)=Ii (((⟨(⟨(0:Int),([]:List Int),(0:Int)⟩:zC),[],[],(⟨(0:Int),[],(0:Int),(0:Int),(0:Int),(0:Int)⟩:zB),(0:Int),(0:Int)⟩:zA).Ring).First)) (ac (rfl:(Ii 0:AV)=Ii (((⟨(⟨(0:Int),([]:List Int),(0:Int)⟩:zC),[],[],(⟨(0:Int),[],(0:Int),(0:Int),(0:Int),(0:Int)⟩:zB),(0:Int),(0:Int)⟩:zA).Ring).Next)) (ac (rfl:(Ii 0:AV)=Ii ((⟨(⟨(0:Int),([]:List Int),(0:Int)⟩:zC),[],[],(⟨(0:Int),[],(0:Int),(0:Int),(0:Int),(0:Int)⟩:zB),(0:Int),(0:Int)⟩:zA).Last)) (ac (rfl:(Ii 0:AV)=Ii ((⟨(⟨(0:Int),([]:List Int),(0:Int)⟩:zC),[],[],(⟨(0:Int),[],(0:Int),(0:Int),(0:Int),(0:Int)⟩:zB),(0:Int),(0:Int)⟩:zA).Sent)) an))))))))))))))) ?_
  refine rt ?_
  cases h
  exact ⟨.inr rfl,Nat.le_of_ble_eq_true rfl,by kernel_rfl⟩
 intro g_4;replace h:=zW g_4 h
 refine sk ?_
 refine sq ?_
 obtain ⟨r_4,h_4,h⟩:=bind_some h
 refine rg [(3,{ av:=.tuple [z6 r_4.1,Ii r_4.2.1,Ii r_4.2.2],frz:=[3],l:=[z6 p_1.Ring,.sl false 1 (Mb r_3.1)] }),(8,{ id:=4 })] [2,3,4,9,10,11,12] [0,1,2,4] 5 [Pp 0,Pp 1,Pp 2,.sl false 1 (Ms r_3.2.1),.sl false 2 (Mp zD r_3.2.2.1),Ii r_4.2.2,Pp 4] [Vb 32 (zK p_1),Vb 45 (zT e_1),Vb 32 [Ii 0,.str ([]:List Int),Ii 0,.nilsl,.nilsl,Ii 0,.nilsl,Ii 0,Ii 0,Ii 0,Ii 0,Ii 0,Ii 0],Vb 30 (zP r_4.1)] zF (ac (by first | (simp;done) | (simp;omega):(r_3.1).length=((List.map (AV.int .u8) r_3.1)).length) (ar ([z6 p_1.Ring,.sl false 1 (Mb r_3.1)]:List AV) (ac (rfl:([]:List zU)=[]) (ac (zJX F p_1.Ring r_3.1 r_4 h_4:zS prog 40 [] [] [z6 p_1.Ring,.sl false 1 (Mb r_3.1)] [] (.tuple [z6 r_4.1,Ii r_4.2.1,Ii r_4.2.2])) an)))) ?_
 refine sq ?_
 refine sr [] [2,3,4,9,10,11,12,56] [0,1,2,4] 5 [Pp 0,Pp 1,Pp 2,.sl false 1 (Ms r_3.2.1),.sl false 2 (Mp zD r_3.2.2.1),Ii r_4.2.2,Pp 4,.bool (r_4.2.2 != (0:Int))] [Vb 32 (zK p_1),Vb 45 (zT e_1),Vb 32 [Ii 0,.str ([]:List Int),Ii 0,.nilsl,.nilsl,Ii 0,.nilsl,Ii 0,Ii 0,Ii 0,Ii 0,Ii 0,Ii 0],Vb 30 (zP r_4.1)] zF an ?_
 refine cd 56 (r_4.2.2 != (0:Int)) ?_ ?_
 ·intro g_5;replace h:=zV g_5 h
  refine sr [] [4,5] [2] 5 [Pp 2,Ii r_4.2.2] [Vb 32 [Ii 0,.str ([]:List Int),Ii 0,.nilsl,.nilsl,Ii 0,.nilsl,Ii 0,Ii 0,Ii 0,Ii 0,Ii 0,Ii 0]] zF an ?_
  refine wk [2] [] [.s 4,.s 5] [.a 0 (Vb 32 [Ii (((⟨(⟨(0:Int),([]:List Int),(0:Int)⟩:zC),[],[],(⟨(0:Int),[],(0:Int),(0:Int),(0:Int),(0:Int)⟩:zB),(0:Int),(0:Int)⟩:zA).Thread).Id),.str (((⟨(⟨(0:Int),([]:List Int),(0:Int)⟩:zC),[],[],(⟨(0:Int),[],(0:Int),(0:Int),(0:Int),(0:Int)⟩:zB),(0:Int),(0:Int)⟩:zA).Thread).Name),Ii (((⟨(⟨(0:Int),([]:List Int),(0:Int)⟩:zC),[],[],(⟨(0:Int),[],(0:Int),(0:Int),(0:Int),(0:Int)⟩:zB),(0:Int),(0:Int)⟩:zA).Thread).Domain),.sl false 1 (Ms ((⟨(⟨(0:Int),([]:List Int),(0:Int)⟩:zC),[],[],(⟨(0:Int),[],(0:Int),(0:Int),(0:Int),(0:Int)⟩:zB),(0:Int),(0:Int)⟩:zA).Names)),.sl false 2 (Mp zD ((⟨(⟨(0:Int),([]:List Int),(0:Int)⟩:zC),[],[],(⟨(0:Int),[],(0:Int),(0:Int),(0:Int),(0:Int)⟩:zB),(0:Int),(0:Int)⟩:zA).Stacks)),Ii (((⟨(⟨(0:Int),([]:List Int),(0:Int)⟩:zC),[],[],(⟨(0:Int),[],(0:Int),(0:Int),(0:Int),(0:Int)⟩:zB),(0:Int),(0:Int)⟩:zA).Ring).Policy),.sl false 1 (Mb (((⟨(⟨(0:Int),([]:List Int),(0:Int)⟩:zC),[],[],(⟨(0:Int),[],(0:Int),(0:Int),(0:Int),(0:Int)⟩:zB),(0:Int),(0:Int)⟩:zA).Ring).Data)),Ii (((⟨(⟨(0:Int),([]:List Int),(0:Int)⟩:zC),[],[],(⟨(0:Int),[],(0:Int),(0:Int),(0:Int),(0:Int)⟩:zB),(0:Int),(0:Int)⟩:zA).Ring).Start),Ii (((⟨(⟨(0:Int),([]:List Int),(0:Int)⟩:zC),[],[],(⟨(0:Int),[],(0:Int),(0:Int),(0:Int),(0:Int)⟩:zB),(0:Int),(0:Int)⟩:zA).Ring).End),Ii (((⟨(⟨(0:Int),([]:List Int),(0:Int)⟩:zC),[],[],(⟨(0:Int),[],(0:Int),(0:Int),(0:Int),(0:Int)⟩:zB),(0:Int),(0:Int)⟩:zA).Ring).First),Ii (((⟨(⟨(0:Int),([]:List Int),(0:Int)⟩:zC),[],[],(⟨(0:Int),[],(0:Int),(0:Int),(0:Int),(0:Int)⟩:zB),(0:Int),(0:Int)⟩:zA).Ring).Next),Ii ((⟨(⟨(0:Int),([]:List Int),(0:Int)⟩:zC),[],[],(⟨(0:Int),[],(0:Int),(0:Int),(0:Int),(0:Int)⟩:zB),(0:Int),(0:Int)⟩:zA).Last),Ii ((⟨(⟨(0:Int),([]:List Int),(0:Int)⟩:zC),[],[],(⟨(0:Int),[],(0:Int),(0:Int),(0:Int),(0:Int)⟩:zB),(0:Int),(0:Int)⟩:zA).Sent)])] [(4,Pp 0),(5,Ii r_4.2.2)] [(0,Vb 32 [Ii (((⟨(⟨(0:Int),([]:List Int),(0:Int)⟩:zC),[],[],(⟨(0:Int),[],(0:Int),(0:Int),(0:Int),(0:Int)⟩:zB),(0:Int),(0:Int)⟩:zA).Thread).Id),.str (((⟨(⟨(0:Int),([]:List Int),(0:Int)⟩:zC),[],[],(⟨(0:Int),[],(0:Int),(0:Int),(0:Int),(0:Int)⟩:zB),(0:Int),(0:Int)⟩:zA).Thread).Name),Ii (((⟨(⟨(0:Int),([]:List Int),(0:Int)⟩:zC),[],[],(⟨(0:Int),[],(0:Int),(0:Int),(0:Int),(0:Int)⟩:zB),(0:Int),(0:Int)⟩:zA).Thread).Domain),.sl false 1 (Ms ((⟨(⟨(0:Int),([]:List Int),(0:Int)⟩:zC),[],[],(⟨(0:Int),[],(0:Int),(0:Int),(0:Int),(0:Int)⟩:zB),(0:Int),(0:Int)⟩:zA).Names)),.sl false 2 (Mp zD ((⟨(⟨(0:Int),([]:List Int),(0:Int)⟩:zC),[],[],(⟨(0:Int),[],(0:Int),(0:Int),(0:Int),(0:Int)⟩:zB),(0:Int),(0:Int)⟩:zA).Stacks)),Ii (((⟨(⟨(0:Int),([]:List Int),(0:Int)⟩:zC),[],[],(⟨(0:Int),[],(0:Int),(0:Int),(0:Int),(0:Int)⟩:zB),(0:Int),(0:Int)⟩:zA).Ring).Policy),.sl false 1 (Mb (((⟨(⟨(0:Int),([]:List Int),(0:Int)⟩:zC),[],[],(⟨(0:Int),[],(0:Int),(0:Int),(0:Int),(0:Int)⟩:zB),(0:Int),(0:Int)⟩:zA).Ring).Data)),Ii (((⟨(⟨(0:Int),([]:List Int),(0:Int)⟩:zC),[],[],(⟨(0:Int),[],(0:Int),(0:Int),(0:Int),(0:Int)⟩:zB),(0:Int),(0:Int)⟩:zA).Ring).Start),Ii (((⟨(⟨(0:Int),([]:List Int),(0:Int)⟩:zC),[],[],(⟨(0:Int),[],(0:Int),(0:Int),(0:Int),(0:Int)⟩:zB),(0:Int),(0:Int)⟩:zA).Ring).End),Ii (((⟨(⟨(0:Int),([]:List Int),(0:Int)⟩:zC),[],[],(⟨(0:Int),[],(0:Int),(0:Int),(0:Int),(0:Int)⟩:zB),(0:Int),(0:Int)⟩:zA).Ring).First),Ii (((⟨(⟨(0:Int),([]:List Int),(0:Int)⟩:zC),[],[],(⟨(0:Int),[],(0:Int),(0:Int),(0:Int),(0:Int)⟩:zB),(0:Int),(0:Int)⟩:zA).Ring).Next),Ii ((⟨(⟨(0:Int),([]:List Int),(0:Int)⟩:zC),[],[],(⟨(0:Int),[],(0:Int),(0:Int),(0:Int),(0:Int)⟩:zB),(0:Int),(0:Int)⟩:zA).Last),Ii ((⟨(⟨(0:Int),([]:List Int),(0:Int)⟩:zC),[],[],(⟨(0:Int),[],(0:Int),(0:Int),(0:Int),(0:Int)⟩:zB),(0:Int),(0:Int)⟩:zA).Sent)])] (ar 32 (ac (rfl:vI [Ii (((⟨(⟨(0:Int),([]:List Int),(0:Int)⟩:zC),[],[],(⟨(0:Int),[],(0:Int),(0:Int),(0:Int),(0:Int)⟩:zB),(0:Int),(0:Int)⟩:zA).Thread).Id),.str (((⟨(⟨(0:Int),([]:List Int),(0:Int)⟩:zC),[],[],(⟨(0:Int),[],(0:Int),(0:Int),(0:Int),(0:Int)⟩:zB),(0:Int),(0:Int)⟩:zA).Thread).Name),Ii (((⟨(⟨(0:Int),([]:List Int),(0:Int)⟩:zC),[],[],(⟨(0:Int),[],(0:Int),(0:Int),(0:Int),(0:Int)⟩:zB),(0:Int),(0:Int)⟩:zA).Thread).Domain),.sl false 1 (Ms ((⟨(⟨(0:Int),([]:List Int),(0:Int)⟩:zC),[],[],(⟨(0:Int),[],(0:Int),(0:Int),(0:Int),(0:Int)⟩:zB),(0:Int),(0:Int)⟩:zA).Names)),.sl false 2 (Mp zD ((⟨(⟨(0:Int),([]:List Int),(0:Int)⟩:zC),[],[],(⟨(0:Int),[],(0:Int),(0:Int),(0:Int),(0:Int)⟩:zB),(0:Int),(0:Int)⟩:zA).Stacks)),Ii (((⟨(⟨(0:Int),([]:List Int),(0:Int)⟩:zC),[],[],(⟨(0:Int),[],(0:Int),(0:Int),(0:Int),(0:Int)⟩:zB),(0:Int),(0:Int)⟩:zA).Ring).Policy),.sl false 1 (Mb (((⟨(⟨(0:Int),([]:List Int),(0:Int)⟩:zC),[],[],(⟨(0:Int),[],(0:Int),(0:Int),(0:Int),(0:Int)⟩:zB),(0:Int),(0:Int)⟩:zA).Ring).Data)),Ii (((⟨(⟨(0:Int),([]:List Int),(0:Int)⟩:zC),[],[],(⟨(0:Int),[],(0:Int),(0:Int),(0:Int),(0:Int)⟩:zB),(0:Int),(0:Int)⟩:zA).Ring).Start),Ii (((⟨(⟨(0:Int),([]:List Int),(0:Int)⟩:zC),[],[],(⟨(0:Int),[],(0:Int),(0:Int),(0:Int),(0:Int)⟩:zB),(0:Int),(0:Int)⟩:zA).Ring).End),Ii (((⟨(⟨(0:Int),([]:List Int),(0:Int)⟩:zC),[],[],(⟨(0:Int),[],(0:Int),(0:Int),(0:Int),(0:Int)⟩:zB),(0:Int),(0:Int)⟩:zA).Ring).First),Ii (((⟨(⟨(0:Int),([]:List Int),(0:Int)⟩:zC),[],[],(⟨(0:Int),[],(0:Int),(0:Int),(0:Int),(0:Int)⟩:zB),(0:Int),(0:Int)⟩:zA).Ring).Next),Ii ((⟨(⟨(0:Int),([]:List Int),(0:Int)⟩:zC),[],[],(⟨(0:Int),[],(0:Int),(0:Int),(0:Int),(0:Int)⟩:zB),(0:Int),(0:Int)⟩:zA).Last),Ii ((⟨(⟨(0:Int),([]:List Int),(0:Int)⟩:zC),[],[],(⟨(0:Int),[],(0:Int),(0:Int),(0:Int),(0:Int)⟩:zB),(0:Int),(0:Int)⟩:zA).Sent)]=true) (ac (rfl:(Ii 0:AV)=Ii (((⟨(⟨(0:Int),([]:List Int),(0:Int)⟩:zC),[],[],(⟨(0:Int),[],(0:Int),(0:Int),(0:Int),(0:Int)⟩:zB),(0:Int),(0:Int)⟩:zA).Thread).Id)) (ac (rfl:(.str ([]:List Int):AV)=.str (((⟨(⟨(0:Int),([]:List Int),(0:Int)⟩:zC),[],[],(⟨(0:Int),[],(0:Int),(0:Int),(0:Int),(0:Int)⟩:zB),(0:Int),(0:Int)⟩:zA).Thread).Name)) (ac (rfl:(Ii 0:AV)=Ii (((⟨(⟨(0:Int),([]:List Int),(0:Int)⟩:zC),[],[],(⟨(0:Int),[],(0:Int),(0:Int),(0:Int),(0:Int)⟩:zB),(0:Int),(0:Int)⟩:zA).Thread).Domain)) (ac (rfl:((Ms ((⟨(⟨(0:Int),([]:List Int),(0:Int)⟩:zC),[],[],(⟨(0:Int),[],(0:Int),(0:Int),(0:Int),(0:Int)⟩:zB),(0:Int),(0:Int)⟩:zA).Names)):List AV)=[]) (ac (rfl:((Mp zD ((⟨(⟨(0:Int),([]:List Int),(0:Int)⟩:zC),[],[],(⟨(0:Int),[],(0:Int),(0:Int),(0:Int),(0:Int)⟩:zB),(0:Int),(0:Int)⟩:zA).Stacks)):List AV)=[]) (ac (rfl:(Ii 0:AV)=Ii (((⟨(⟨(0:Int),([]:List Int),(0:Int)⟩:zC),[],[],(⟨(0:Int),[],(0:Int),(0:Int),(0:Int),(0:Int)⟩:zB),(0:Int),(0:Int)⟩:zA).Ring).Policy)) (ac (rfl:((Mb (((⟨(⟨(0:Int),([]:List Int),(0:Int)⟩:zC),[],[],(⟨(0:Int),[],(0:Int),(0:Int),(0:Int),(0:Int)⟩:zB),(0:Int),(0:Int)⟩:zA).Ring).Data)):List AV)=[]) (ac (rfl:(Ii 0:AV)=Ii (((⟨(⟨(0:Int),([]:List Int),(0:Int)⟩:zC),[],[],(⟨(0:Int),[],(0:Int),(0:Int),(0:Int),(0:Int)⟩:zB),(0:Int),(0:Int)⟩:zA).Ring).Start)) (ac (rfl:(Ii 0:AV)=Ii (((⟨(⟨(0:Int),([]:List Int),(0:Int)⟩:zC),[],[],(⟨(0:Int),[],(0:Int),(0:Int),(0:Int),(0:Int)⟩:zB),(0:Int),(0:Int)⟩:zA).Ring).End)) (ac (rfl:(Ii 0:AV)=Ii (((⟨(⟨(0:Int),([]:List Int),(0:Int)⟩:zC),[],[],(⟨(0:Int),[],(0:Int),(0:Int),(0:Int),(0:Int)⟩:zB),(0:Int),(0:Int)⟩:zA).Ring).First)) (ac (rfl:(Ii 0:AV)=Ii (((⟨(⟨(0:Int),([]:List Int),(0:Int)⟩:zC),[],[],(⟨(0:Int),[],(0:Int),(0:Int),(0:Int),(0:Int)⟩:zB),(0:Int),(0:Int)⟩:zA).Ring).Next)) (ac (rfl:(Ii 0:AV)=Ii ((⟨(⟨(0:Int),([]:List Int),(0:Int)⟩:zC),[],[],(⟨(0:Int),[],(0:Int),(0:Int),(0:Int),(0:Int)⟩:zB),(0:Int),(0:Int)⟩:zA).Last)) (ac (rfl:(Ii 0:AV)=Ii ((⟨(⟨(0:Int),([]:List Int),(0:Int)⟩:zC),[],[],(⟨(0:Int),[],(0:Int),(0:Int),(0:Int),(0:Int)⟩:zB),(0:Int),(0:Int)⟩:zA).Sent)) an))))))))))))))) ?_
  refine rt ?_
  cases h
  exact ⟨.inr rfl,Nat.le_of_ble_eq_true rfl,by kernel_rfl⟩
 intro g_5;replace h:=zW g_5 h
 refine sk ?_
 refine sr [] [2,4] [0,2] 5 [Pp 0,Pp 2] [Vb 32 [Ii p_1.Thread.Id,.str p_1.Thread.Name,Ii p_1.Thread.Domain,.sl false 1 (Ms r_3.2.1),.sl false 2 (Mp zD r_3.2.2.1),Ii r_4.1.Policy,.sl false 1 (Mb r_4.1.Data),Ii r_4.1.Start,Ii r_4.1.End,Ii r_4.1.First,Ii r_4.1.Next,Ii e_1.At,Ii p_1.Sent],Vb 32 [Ii 0,.str ([]:List Int),Ii 0,.nilsl,.nilsl,Ii 0,.nilsl,Ii 0,Ii 0,Ii 0,Ii 0,Ii 0,Ii 0]] zF an ?_
 refine sr [] [4,5] [2] 5 [Pp 2,Ii 0] [Vb 32 [Ii p_1.Thread.Id,.str p_1.Thread.Name,Ii p_1.Thread.Domain,.sl false 1 (Ms r_3.2.1),.sl false 2 (Mp zD r_3.2.2.1),Ii r_4.1.Policy,.sl false 1 (Mb r_4.1.Data),Ii r_4.1.Start,Ii r_4.1.End,Ii r_4.1.First,Ii r_4.1.Next,Ii e_1.At,Ii p_1.Sent]] zF an ?_
 refine wk [2] [] [.s 4,.s 5] [.a 0 (Vb 32 [Ii (((⟨p_1.Thread,r_3.2.1,r_3.2.2.1,r_4.1,e_1.At,p_1.Sent⟩:zA).Thread).Id),.str (((⟨p_1.Thread,r_3.2.1,r_3.2.2.1,r_4.1,e_1.At,p_1.Sent⟩:zA).Thread).Name),Ii (((⟨p_1.Thread,r_3.2.1,r_3.2.2.1,r_4.1,e_1.At,p_1.Sent⟩:zA).Thread).Domain),.sl false 1 (Ms ((⟨p_1.Thread,r_3.2.1,r_3.2.2.1,r_4.1,e_1.At,p_1.Sent⟩:zA).Names)),.sl false 2 (Mp zD ((⟨p_1.Thread,r_3.2.1,r_3.2.2.1,r_4.1,e_1.At,p_1.Sent⟩:zA).Stacks)),Ii (((⟨p_1.Thread,r_3.2.1,r_3.2.2.1,r_4.1,e_1.At,p_1.Sent⟩:zA).Ring).Policy),.sl false 1 (Mb (((⟨p_1.Thread,r_3.2.1,r_3.2.2.1,r_4.1,e_1.At,p_1.Sent⟩:zA).Ring).Data)),Ii (((⟨p_1.Thread,r_3.2.1,r_3.2.2.1,r_4.1,e_1.At,p_1.Sent⟩:zA).Ring).Start),Ii (((⟨p_1.Thread,r_3.2.1,r_3.2.2.1,r_4.1,e_1.At,p_1.Sent⟩:zA).Ring).End),Ii (((⟨p_1.Thread,r_3.2.1,r_3.2.2.1,r_4.1,e_1.At,p_1.Sent⟩:zA).Ring).First),Ii (((⟨p_1.Thread,r_3.2.1,r_3.2.2.1,r_4.1,e_1.At,p_1.Sent⟩:zA).Ring).Next),Ii ((⟨p_1.Thread,r_3.2.1,r_3.2.2.1,r_4.1,e_1.At,p_1.Sent⟩:zA).Last),Ii ((⟨p_1.Thread,r_3.2.1,r_3.2.2.1,r_4.1,e_1.At,p_1.Sent⟩:zA).Sent)])] [(4,Pp 0),(5,Ii 0)] [(0,Vb 32 [Ii (((⟨p_1.Thread,r_3.2.1,r_3.2.2.1,r_4.1,e_1.At,p_1.Sent⟩:zA).Thread).Id),.str (((⟨p_1.Thread,r_3.2.1,r_3.2.2.1,r_4.1,e_1.At,p_1.Sent⟩:zA).Thread).Name),Ii (((⟨p_1.Thread,r_3.2.1,r_3.2.2.1,r_4.1,e_1.At,p_1.Sent⟩:zA).Thread).Domain),.sl false 1 (Ms ((⟨p_1.Thread,r_3.2.1,r_3.2.2.1,r_4.1,e_1.At,p_1.Sent⟩:zA).Names)),.sl false 2 (Mp zD ((⟨p_1.Thread,r_3.2.1,r_3.2.2.1,r_4.1,e_1.At,p_1.Sent⟩:zA).Stacks)),Ii (((⟨p_1.Thread,r_3.2.1,r_3.2.2.1,r_4.1,e_1.At,p_1.Sent⟩:zA).Ring).Policy),.sl false 1 (Mb (((⟨p_1.Thread,r_3.2.1,r_3.2.2.1,r_4.1,e_1.At,p_1.Sent⟩:zA).Ring).Data)),Ii (((⟨p_1.Thread,r_3.2.1,r_3.2.2.1,r_4.1,e_1.At,p_1.Sent⟩:zA).Ring).Start),Ii (((⟨p_1.Thread,r_3.2.1,r_3.2.2.1,r_4.1,e_1.At,p_1.Sent⟩:zA).Ring).End),Ii (((⟨p_1.Thread,r_3.2.1,r_3.2.2.1,r_4.1,e_1.At,p_1.Sent⟩:zA).Ring).First),Ii (((⟨p_1.Thread,r_3.2.1,r_3.2.2.1,r_4.1,e_1.At,p_1.Sent⟩:zA).Ring).Next),Ii ((⟨p_1.Thread,r_3.2.1,r_3.2.2.1,r_4.1,e_1.At,p_1.Sent⟩:zA).Last),Ii ((⟨p_1.Thread,r_3.2.1,r_3.2.2.1,r_4.1,e_1.At,p_1.Sent⟩:zA).Sent)])] (ar 32 (ac (rfl:vI [Ii (((⟨p_1.Thread,r_3.2.1,r_3.2.2.1,r_4.1,e_1.At,p_1.Sent⟩:zA).Thread).Id),.str (((⟨p_1.Thread,r_3.2.1,r_3.2.2.1,r_4.1,e_1.At,p_1.Sent⟩:zA).Thread).Name),Ii (((⟨p_1.Thread,r_3.2.1,r_3.2.2.1,r_4.1,e_1.At,p_1.Sent⟩:zA).Thread).Domain),.sl false 1 (Ms ((⟨p_1.Thread,r_3.2.1,r_3.2.2.1,r_4.1,e_1.At,p_1.Sent⟩:zA).Names)),.sl false 2 (Mp zD ((⟨p_1.Thread,r_3.2.1,r_3.2.2.1,r_4.1,e_1.At,p_1.Sent⟩:zA).Stacks)),Ii (((⟨p_1.Thread,r_3.2.1,r_3.2.2.1,r_4.1,e_1.At,p_1.Sent⟩:zA).Ring).Policy),.sl false 1 (Mb (((⟨p_1.Thread,r_3.2.1,r_3.2.2.1,r_4.1,e_1.At,p_1.Sent⟩:zA).Ring).Data)),Ii (((⟨p_1.Thread,r_3.2.1,r_3.2.2.1,r_4.1,e_1.At,p_1.Sent⟩:zA).Ring).Start),Ii (((⟨p_1.Thread,r_3.2.1,r_3.2.2.1,r_4.1,e_1.At,p_1.Sent⟩:zA).Ring).End),Ii (((⟨p_1.Thread,r_3.2.1,r_3.2.2.1,r_4.1,e_1.At,p_1.Sent⟩:zA).Ring).First),Ii (((⟨p_1.Thread,r_3.2.1,r_3.2.2.1,r_4.1,e_1.At,p_1.Sent⟩:zA).Ring).Next),Ii ((⟨p_1.Thread,r_3.2.1,r_3.2.2.1,r_4.1,e_1.At,p_1.Sent⟩:zA).Last),Ii ((⟨p_1.Thread,r_3.2.1,r_3.2.2.1,r_4.1,e_1.At,p_1.Sent⟩:zA).Sent)]=true) (ac (rfl:(Ii p_1.Thread.Id:AV)=Ii (((⟨p_1.Thread,r_3.2.1,r_3.2.2.1,r_4.1,e_1.At,p_1.Sent⟩:zA).Thread).Id)) (ac (rfl:(.str p_1.Thread.Name:AV)=.str (((⟨p_1.Thread,r_3.2.1,r_3.2.2.1,r_4.1,e_1.At,p_1.Sent⟩:zA).Thread).Name)) (ac (rfl:(Ii p_1.Thread.Domain:AV)=Ii (((⟨p_1.Thread,r_3.2.1,r_3.2.2.1,r_4.1,e_1.At,p_1.Sent⟩:zA).Thread).Domain)) (ar 1 (ac (rfl:((Ms r_3.2.1):List AV)=(Ms ((⟨p_1.Thread,r_3.2.1,r_3.2.2.1,r_4.1,e_1.At,p_1.Sent⟩:zA).Names))) (ac (rfl:(!false||false)=true) (ar 2 (ac (rfl:((Mp zD r_3.2.2.1):List AV)=(Mp zD ((⟨p_1.Thread,r_3.2.1,r_3.2.2.1,r_4.1,e_1.At,p_1.Sent⟩:zA).Stacks))) (ac (rfl:(!false||false)=true) (ac (rfl:(Ii r_4.1.Policy:AV)=Ii (((⟨p_1.Thread,r_3.2.1,r_3.2.2.1,r_4.1,e_1.At,p_1.Sent⟩:zA).Ring).Policy)) (ar 1 (ac (rfl:((Mb r_4.1.Data):List AV)=(Mb (((⟨p_1.Thread,r_3.2.1,r_3.2.2.1,r_4.1,e_1.At,p_1.Sent⟩:zA).Ring).Data))) (ac (rfl:(!false||false)=true) (ac (rfl:(Ii r_4.1.Start:AV)=Ii (((⟨p_1.Thread,r_3.2.1,r_3.2.2.1,r_4.1,e_1.At,p_1.Sent⟩:zA).Ring).Start)) (ac (rfl:(Ii r_4.1.End:AV)=Ii (((⟨p_1.Thread,r_3.2.1,r_3.2.2.1,r_4.1,e_1.At,p_1.Sent⟩:zA).Ring).End)) (ac (rfl:(Ii r_4.1.First:AV)=Ii (((⟨p_1.Thread,r_3.2.1,r_3.2.2.1,r_4.1,e_1.At,p_1.Sent⟩:zA).Ring).First)) (ac (rfl:(Ii r_4.1.Next:AV)=Ii (((⟨p_1.Thread,r_3.2.1,r_3.2.2.1,r_4.1,e_1.At,p_1.Sent⟩:zA).Ring).Next)) (ac (rfl:(Ii e_1.At:AV)=Ii ((⟨p_1.Thread,r_3.2.1,r_3.2.2.1,r_4.1,e_1.At,p_1.Sent⟩:zA).Last)) (ac (rfl:(Ii p_1.Sent:AV)=Ii ((⟨p_1.Thread,r_3.2.1,r_3.2.2.1,r_4.1,e_1.At,p_1.Sent⟩:zA).Sent)) an))))))))))))))))))))) ?_
 refine rt ?_
 cases h
 exact ⟨.inr rfl,Nat.le_of_ble_eq_true rfl,by kernel_rfl⟩
theorem jP (F:Nat) (p_1:zA) (r:(List (yJ))×zA) (h:uL F p_1=some r):zS prog 17 [] [] [zM p_1] [.row 59 4 (Mp zO r.1)] (.tuple [.own 0 ((r.1).length),zM r.2]):=by
 refine yD (fn:=Go.Proofs.Try.f17) (code:=y5 Go.Proofs.Try.f17) (by kernel_rfl) (by kernel_rfl) (Nat.le_of_ble_eq_true (by kernel_rfl)) ?_
 unfold uL at h
 refine sr [(0,{ id:=0 }),(1,{ id:=1,m:=1 }),(2,{ id:=2 })] [1,3] [0,2] 3 [Pp 0,Pp 2] [Vb 32 (zK p_1),Vb 32 [Ii 0,.str ([]:List Int),Ii 0,.nilsl,.nilsl,Ii 0,.nilsl,Ii 0,Ii 0,Ii 0,Ii 0,Ii 0,Ii 0]] zF an ?_
 refine sq ?_
 obtain ⟨r_1,h_1,h⟩:=bind_some h
 refine rg [(1,{ av:=.tuple [.own 0 ((r_1.1).length),Ii r_1.2],ids:=[3],l:=[zM p_1],post:=[(.row 45 6 (Mp zN r_1.1))] })] [1,3,4,5] [0,2,3] 4 [Pp 0,Pp 2,.own 3 ((r_1.1).length),Ii r_1.2] [Vb 32 (zK p_1),Vb 32 [Ii 0,.str ([]:List Int),Ii 0,.nilsl,.nilsl,Ii 0,.nilsl,Ii 0,Ii 0,Ii 0,Ii 0,Ii 0,Ii 0],Rb 45 6 (Mp zN r_1.1)] zF (ar ([zM p_1]:List AV) (ac (rfl:([]:List zU)=[]) (ac (zBm F p_1 r_1 h_1:zS prog 34 [] [] [zM p_1] [(.row 45 6 (Mp zN r_1.1))] (.tuple [.own 0 ((r_1.1).length),Ii r_1.2])) an))) ?_
 refine sq ?_
 refine sr [] [1,3,4,16] [0,2,3] 4 [Pp 0,Pp 2,.own 3 ((r_1.1).length),.bool (r_1.2 != (0:Int))] [Vb 32 (zK p_1),Vb 32 [Ii 0,.str ([]:List Int),Ii 0,.nilsl,.nilsl,Ii 0,.nilsl,Ii 0,Ii 0,Ii 0,Ii 0,Ii 0,Ii 0],Rb 45 6 (Mp zN r_1.1)] zF an ?_
 refine cd 16 (r_1.2 != (0:Int)) ?_ ?_
 ·intro g_1;replace h:=zV g_1 h
  refine sr [(1,{ id:=4,m:=1 })] [2,3] [2,4] 5 [.own 4 0,Pp 2] [Vb 32 (zK p_1),Rb 59 4 []] zF an ?_
  refine wk [4,2] [] [.a 2 (.own 0 ((([]:List yJ)).length)),.s 3] [.s 0,.s 1] [(2,.own 0 ((([]:List yJ)).length)),(3,Pp 1)] [(0,Rb 59 4 []),(1,Vb 32 (zK p_1))] (ac (congrArg (AV.own _) (by first | (simp;done) | (simp;omega)):(.own 4 0:AV)=.own 4 ((([]:List yJ)).length)) an) ?_
  refine rt ?_
  cases h
  exact ⟨.inr rfl,Nat.le_of_ble_eq_true rfl,by kernel_rfl⟩
 intro g_1;replace h:=zW g_1 h
 refine sk ?_
 refine sr [(0,{ id:=4,m:=1 })] [1,3,4,6] [0,2,3,4] 5 [Pp 0,Pp 2,.own 3 ((r_1.1).length),.own 4 0] [Vb 32 (zK p_1),Vb 32 [Ii 0,.str ([]:List Int),Ii 0,.nilsl,.nilsl,Ii 0,.nilsl,Ii 0,Ii 0,Ii 0,Ii 0,Ii 0,Ii 0],Rb 45 6 (Mp zN r_1.1),Rb 59 4 []] zF an ?_
 refine sr [] [1,3,4,6,7,8] [0,2,3,4] 5 [Pp 0,Pp 2,.own 3 ((r_1.1).length),.own 4 0,Ii p_1.Ring.First,Ii (zG (p_1.Ring.First - p_1.Sent))] [Vb 32 (zK p_1),Vb 32 [Ii 0,.str ([]:List Int),Ii 0,.nilsl,.nilsl,Ii 0,.nilsl,Ii 0,Ii 0,Ii 0,Ii 0,Ii 0,Ii 0],Rb 45 6 (Mp zN r_1.1),Rb 59 4 []] zF an ?_
 refine sq ?_
 obtain ⟨o_1,h_2,h⟩:=bind_some h
 refine yV (mk [(1,Pp 0),(3,Pp 1),(6,.own 2 ((o_1).length))] [(0,Vb 32 (zK p_1)),(1,Vb 32 [Ii 0,.str ([]:List Int),Ii 0,.nilsl,.nilsl,Ii 0,.nilsl,Ii 0,Ii 0,Ii 0,Ii 0,Ii 0,Ii 0]),(2,Rb 59 4 (Mp zO o_1))] 3) ?_ ?_
 ·replace h:=h_2
  refine yN (id:=0) (by kernel_rfl) ?_
  refine wk [0,2,4] [3] [.s 1,.s 3,.a 4 (.sl false 6 (Mp zN r_1.1)),.s 6,.s 7,.s 8] [.s 0,.s 1,.s 2] [(1,Pp 0),(3,Pp 1),(4,.sl false 6 (Mp zN r_1.1)),(6,.own 2 0),(7,Ii p_1.Ring.First),(8,Ii (zG (p_1.Ring.First - p_1.Sent)))] [(0,Vb 32 (zK p_1)),(1,Vb 32 [Ii 0,.str ([]:List Int),Ii 0,.nilsl,.nilsl,Ii 0,.nilsl,Ii 0,Ii 0,Ii 0,Ii 0,Ii 0,Ii 0]),(2,Rb 59 4 [])] (ac (by first | (simp;done) | (simp;omega):(r_1.1).length=((List.map zN r_1.1)).length) (ar 6 (ar ((Mp zN r_1.1):List AV) (ac (rfl:(!false||false)=true) an)))) ?_
  refine wk [0,1,2] [] [.s 1,.s 3,.s 4,.s 6,.s 7,.s 8] [.s 0,.s 1,.s 2] [(1,Pp 0),(3,Pp 1),(4,.sl false 6 (Mp zN r_1.1)),(6,.own 2 0),(7,Ii p_1.Ring.First),(8,Ii (zG (p_1.Ring.First - p_1.Sent)))] [(0,Vb 32 (zK p_1)),(1,Vb 32 [Ii 0,.str ([]:List Int),Ii 0,.nilsl,.nilsl,Ii 0,.nilsl,Ii 0,Ii 0,Ii 0,Ii 0,Ii 0,Ii 0]),(2,Rb 59 4 [])] an ?_
  refine wH (fun n st=>∃ (l_1:List zE),∃ (wI:Int),∃ (xG:Int),∃ (zL:List yJ),st=mk [(1,Pp 0),(3,Pp 1),(4,.sl false 6 (Mp zN l_1)),(6,.own 2 ((zL).length)),(7,Ii wI),(8,Ii xG)] [(0,Vb 32 (zK p_1)),(1,Vb 32 [Ii 0,.str ([]:List Int),Ii 0,.nilsl,.nilsl,Ii 0,.nilsl,Ii 0,Ii 0,Ii 0,Ii 0,Ii 0,Ii 0]),(2,Rb 59 4 (Mp zO zL))] 3∧uS F p_1 n l_1 wI xG zL=some o_1) F (by kernel_rfl) ⟨_,_,_,_,rfl,h⟩ ?_ ?_
  ·rintro _ ⟨_,_,_,_,_,h⟩;exact w5 (h:(none:Option (List yJ))=some o_1)
  rintro n_1 _ ⟨l_1,wI,xG,zL,rfl,h⟩
  replace h:vD F p_1 (uS F p_1 n_1) l_1 wI xG zL=some o_1:=h
  unfold vD at h
  refine sq ?_
  refine sr [(1,{ n:=(l_1).length })] [1,3,4,6,7,8,29] [0,1,2] 3 [Pp 0,Pp 1,.sl false 6 (Mp zN l_1),.own 2 ((zL).length),Ii wI,Ii xG,.bool (decide ((lN (l_1))>(0:Int)))] [Vb 32 (zK p_1),Vb 32 [Ii 0,.str ([]:List Int),Ii 0,.nilsl,.nilsl,Ii 0,.nilsl,Ii 0,Ii 0,Ii 0,Ii 0,Ii 0,Ii 0],Rb 59 4 (Mp zO zL)] zF (ac (yO _:((Mp zN l_1)).length=(l_1).length) an) ?_
  refine cd 29 (decide ((lN (l_1))>(0:Int))) ?_ ?_
  rotate_left
  ·intro g_2;replace h:=zW g_2 h
   refine wS (id:=0) (by kernel_rfl) ?_
   cases h
   exact ⟨rfl,(sw [0,1,2] [] [.s 1,.s 3,.s 6] [.s 0,.s 1,.s 2] an)⟩
  intro g_2;replace h:=zV g_2 h
  refine sk ?_
  refine yN (id:=1) (by kernel_rfl) ?_
  refine sr [(1,{ n:=(l_1).length })] [1,3,4,6,7,8,9] [0,1,2] 3 [Pp 0,Pp 1,.sl false 6 (Mp zN l_1),.own 2 ((zL).length),Ii wI,Ii xG,Ii (vZ (lN (l_1)) (1000:Int))] [Vb 32 (zK p_1),Vb 32 [Ii 0,.str ([]:List Int),Ii 0,.nilsl,.nilsl,Ii 0,.nilsl,Ii 0,Ii 0,Ii 0,Ii 0,Ii 0,Ii 0],Rb 59 4 (Mp zO zL)] zF (ac (yO _:((Mp zN l_1)).length=(l_1).length) an) ?_
  refine sq ?_
  obtain ⟨_,h_3,h⟩:=bind_some h;replace h_3:=yU h_3
  obtain ⟨_,h_4,h⟩:=bind_some h;replace h_4:=yU h_4
  refine rg [(9,{ l:=(Mp zN (sub l_1 (0:Int) (vZ (lN (l_1)) (1000:Int)))) }),(11,{ id:=3,lo:=[(43,[0,0,0,6])] }),(12,{ id:=4,l:=(Mp zO (zL++([(⟨p_1.Thread.Id,wI,xG,sub l_1 (0:Int) (vZ (lN (l_1)) (1000:Int))⟩:yJ)]:List yJ))),n:=((zL++([(⟨p_1.Thread.Id,wI,xG,sub l_1 (0:Int) (vZ (lN (l_1)) (1000:Int))⟩:yJ)]:List yJ))).length })] [1,3,4,6,7,9] [0,1,4] 5 [Pp 0,Pp 1,.sl false 6 (Mp zN l_1),.own 4 (((zL++([(⟨p_1.Thread.Id,wI,xG,sub l_1 (0:Int) (vZ (lN (l_1)) (1000:Int))⟩:yJ)]:List yJ))).length),Ii wI,Ii (vZ (lN (l_1)) (1000:Int))] [Vb 32 (zK p_1),Vb 32 [Ii 0,.str ([]:List Int),Ii 0,.nilsl,.nilsl,Ii 0,.nilsl,Ii 0,Ii 0,Ii 0,Ii 0,Ii 0,Ii 0],Rb 59 4 (Mp zO (zL++([(⟨p_1.Thread.Id,wI,xG,sub l_1 (0:Int) (vZ (lN (l_1)) (1000:Int))⟩:yJ)]:List yJ)))] zF (ac (by decide:(0:Int)≤(0:Int)) (ac h_3.1 (ac (p7 h_3.2:(vZ (lN (l_1)) (1000:Int))≤(lN ((Mp zN l_1)))) (ar (vZ (lN (l_1)) (1000:Int)) (ac (zF8 _ _ _:(Mp zN (sub l_1 (0:Int) (vZ (lN (l_1)) (1000:Int))))=(((Mp zN l_1)).take (vZ (lN (l_1)) (1000:Int)).toNat).drop ((0:Int)).toNat) (ac (by first | (simp;done) | (simp;omega):(zL).length=((List.map zO zL)).length) (ac (by first | (simp;done) | (simp;omega):1=((List.map zO ([(⟨p_1.Thread.Id,wI,xG,sub l_1 (0:Int) (vZ (((l_1).length:Nat):Int) (1000:Int))⟩:yJ)]:List yJ))).length) (ac (zA2 _ _:(Mp zO (zL++([(⟨p_1.Thread.Id,wI,xG,sub l_1 (0:Int) (vZ (lN (l_1)) (1000:Int))⟩:yJ)]:List yJ)))=(Mp zO zL)++(Mp zO ([(⟨p_1.Thread.Id,wI,xG,sub l_1 (0:Int) (vZ (lN (l_1)) (1000:Int))⟩:yJ)]:List yJ))) (ac (by simp:((zL++([(⟨p_1.Thread.Id,wI,xG,sub l_1 (0:Int) (vZ (((l_1).length:Nat):Int) (1000:Int))⟩:yJ)]:List yJ))).length=((List.map zO (zL++([(⟨p_1.Thread.Id,wI,xG,sub l_1 (0:Int) (vZ (((l_1).length:Nat):Int) (1000:Int))⟩:yJ)]:List yJ)))).length) (ac (by first | (simp;done) | simpa using h_4:(((List.map zO zL):List AV).length+((List.map zO ([(⟨p_1.Thread.Id,wI,xG,sub l_1 (0:Int) (vZ (((l_1).length:Nat):Int) (1000:Int))⟩:yJ)]:List yJ)):List AV).length) * 48≤140737488355328) an)))))))))) ?_
  obtain ⟨_,h_5,h⟩:=bind_some h;replace h_5:=yU h_5
  refine rg [(2,{ l:=(Mp zN (sub l_1 (vZ (lN (l_1)) (1000:Int)) (lN (l_1)))) })] [1,3,4,6,7,8] [0,1,4] 5 [Pp 0,Pp 1,.sl false 6 (Mp zN (sub l_1 (vZ (lN (l_1)) (1000:Int)) (lN (l_1)))),.own 4 (((zL++([(⟨p_1.Thread.Id,wI,xG,sub l_1 (0:Int) (vZ (lN (l_1)) (1000:Int))⟩:yJ)]:List yJ))).length),Ii (zG (wI+(vZ (lN (l_1)) (1000:Int)))),Ii 0] [Vb 32 (zK p_1),Vb 32 [Ii 0,.str ([]:List Int),Ii 0,.nilsl,.nilsl,Ii 0,.nilsl,Ii 0,Ii 0,Ii 0,Ii 0,Ii 0,Ii 0],Rb 59 4 (Mp zO (zL++([(⟨p_1.Thread.Id,wI,xG,sub l_1 (0:Int) (vZ (lN (l_1)) (1000:Int))⟩:yJ)]:List yJ)))] zF (ac h_5.1 (ac (p7 h_5.2:(vZ (lN (l_1)) (1000:Int))≤(lN ((Mp zN l_1)))) (ac (Int.le_refl _:(lN ((Mp zN l_1)))≤(lN ((Mp zN l_1)))) (ac (zDe _ _:(Mp zN (sub l_1 (vZ (lN (l_1)) (1000:Int)) (lN (l_1))))=(((Mp zN l_1)).take ((lN ((Mp zN l_1)))).toNat).drop (vZ (lN (l_1)) (1000:Int)).toNat) an)))) ?_
  exact ⟨_,(sw [0,1,4] [] [.s 1,.s 3,.s 4,.s 6,.s 7,.s 8] [.s 0,.s 1,.s 2] an),_,_,_,_,rfl,h⟩
 refine sq ?_
 obtain ⟨r_2,h_6,h⟩:=bind_some h
 refine rg [(2,{ av:=.tuple [.own 0 ((r_2.1).length),z6 r_2.2],ids:=[3],l:=[z6 p_1.Ring],post:=[(.row 28 1 (List.map (fun l=>AV.sl false 1 (l.map (AV.int .u8))) r_2.1))] })] [1,3,6] [0,1,2] 4 [Pp 0,Pp 1,.own 2 ((o_1).length)] [Vb 32 [Ii p_1.Thread.Id,.str p_1.Thread.Name,Ii p_1.Thread.Domain,.sl false 1 (Ms p_1.Names),.sl false 2 (Mp zD p_1.Stacks),Ii r_2.2.Policy,.sl false 1 (Mb r_2.2.Data),Ii r_2.2.Start,Ii r_2.2.End,Ii r_2.2.First,Ii r_2.2.Next,Ii p_1.Last,Ii p_1.Sent],Vb 32 [Ii 0,.str ([]:List Int),Ii 0,.nilsl,.nilsl,Ii 0,.nilsl,Ii 0,Ii 0,Ii 0,Ii 0,Ii 0,Ii 0],Rb 59 4 (Mp zO o_1)] zF (ar ([z6 p_1.Ring]:List AV) (ac (rfl:([]:List zU)=[]) (ac (zEn F p_1.Ring r_2 h_6:zS prog 35 [] [] [z6 p_1.Ring] [(.row 28 1 (List.map (fun l=>AV.sl false 1 (l.map (AV.int .u8))) r_2.1))] (.tuple [.own 0 ((r_2.1).length),z6 r_2.2])) an))) ?_
 refine sr [] [1,3,6] [0,1,2] 4 [Pp 0,Pp 1,.own 2 ((o_1).length)] [Vb 32 [Ii p_1.Thread.Id,.str p_1.Thread.Name,Ii p_1.Thread.Domain,.sl false 1 (Ms p_1.Names),.sl false 2 (Mp zD p_1.Stacks),Ii r_2.2.Policy,.sl false 1 (Mb r_2.2.Data),Ii r_2.2.Start,Ii r_2.2.End,Ii r_2.2.First,Ii r_2.2.Next,Ii p_1.Last,Ii r_2.2.Next],Vb 32 [Ii 0,.str ([]:List Int),Ii 0,.nilsl,.nilsl,Ii 0,.nilsl,Ii 0,Ii 0,Ii 0,Ii 0,Ii 0,Ii 0],Rb 59 4 (Mp zO o_1)] zF an ?_
 refine sr [] [2,3] [1,2] 4 [.own 2 ((o_1).length),Pp 1] [Vb 32 [Ii p_1.Thread.Id,.str p_1.Thread.Name,Ii p_1.Thread.Domain,.sl false 1 (Ms p_1.Names),.sl false 2 (Mp zD p_1.Stacks),Ii r_2.2.Policy,.sl false 1 (Mb r_2.2.Data),Ii r_2.2.Start,Ii r_2.2.End,Ii r_2.2.First,Ii r_2.2.Next,Ii p_1.Last,Ii r_2.2.Next],Rb 59 4 (Mp zO o_1)] zF an ?_
 refine wk [2,1] [] [.s 2,.s 3] [.s 0,.a 1 (Vb 32 [Ii (((⟨p_1.Thread,p_1.Names,p_1.Stacks,r_2.2,p_1.Last,r_2.2.Next⟩:zA).Thread).Id),.str (((⟨p_1.Thread,p_1.Names,p_1.Stacks,r_2.2,p_1.Last,r_2.2.Next⟩:zA).Thread).Name),Ii (((⟨p_1.Thread,p_1.Names,p_1.Stacks,r_2.2,p_1.Last,r_2.2.Next⟩:zA).Thread).Domain),.sl false 1 (Ms ((⟨p_1.Thread,p_1.Names,p_1.Stacks,r_2.2,p_1.Last,r_2.2.Next⟩:zA).Names)),.sl false 2 (Mp zD ((⟨p_1.Thread,p_1.Names,p_1.Stacks,r_2.2,p_1.Last,r_2.2.Next⟩:zA).Stacks)),Ii (((⟨p_1.Thread,p_1.Names,p_1.Stacks,r_2.2,p_1.Last,r_2.2.Next⟩:zA).Ring).Policy),.sl false 1 (Mb (((⟨p_1.Thread,p_1.Names,p_1.Stacks,r_2.2,p_1.Last,r_2.2.Next⟩:zA).Ring).Data)),Ii (((⟨p_1.Thread,p_1.Names,p_1.Stacks,r_2.2,p_1.Last,r_2.2.Next⟩:zA).Ring).Start),Ii (((⟨p_1.Thread,p_1.Names,p_1.Stacks,r_2.2,p_1.Last,r_2.2.Next⟩:zA).Ring).End),Ii (((⟨p_1.Thread,p_1.Names,p_1.Stacks,r_2.2,p_1.Last,r_2.2.Next⟩:zA).Ring).First),Ii (((⟨p_1.Thread,p_1.Names,p_1.Stacks,r_2.2,p_1.Last,r_2.2.Next⟩:zA).Ring).Next),Ii ((⟨p_1.Thread,p_1.Names,p_1.Stacks,r_2.2,p_1.Last,r_2.2.Next⟩:zA).Last),Ii ((⟨p_1.Thread,p_1.Names,p_1.Stacks,r_2.2,p_1.Last,r_2.2.Next⟩:zA).Sent)])] [(2,.own 0 ((o_1).length)),(3,Pp 1)] [(0,Rb 59 4 (Mp zO o_1)),(1,Vb 32 [Ii (((⟨p_1.Thread,p_1.Names,p_1.Stacks,r_2.2,p_1.Last,r_2.2.Next⟩:zA).Thread).Id),.str (((⟨p_1.Thread,p_1.Names,p_1.Stacks,r_2.2,p_1.Last,r_2.2.Next⟩:zA).Thread).Name),Ii (((⟨p_1.Thread,p_1.Names,p_1.Stacks,r_2.2,p_1.Last,r_2.2.Next⟩:zA).Thread).Domain),.sl false 1 (Ms ((⟨p_1.Thread,p_1.Names,p_1.Stacks,r_2.2,p_1.Last,r_2.2.Next⟩:zA).Names)),.sl false 2 (Mp zD ((⟨p_1.Thread,p_1.Names,p_1.Stacks,r_2.2,p_1.Last,r_2.2.Next⟩:zA).Stacks)),Ii (((⟨p_1.Thread,p_1.Names,p_1.Stacks,r_2.2,p_1.Last,r_2.2.Next⟩:zA).Ring).Policy),.sl false 1 (Mb (((⟨p_1.Thread,p_1.Names,p_1.Stacks,r_2.2,p_1.Last,r_2.2.Next⟩:zA).Ring).Data)),Ii (((⟨p_1.Thread,p_1.Names,p_1.Stacks,r_2.2,p_1.Last,r_2.2.Next⟩:zA).Ring).Start),Ii (((⟨p_1.Thread,p_1.Names,p_1.Stacks,r_2.2,p_1.Last,r_2.2.Next⟩:zA).Ring).End),Ii (((⟨p_1.Thread,p_1.Names,p_1.Stacks,r_2.2,p_1.Last,r_2.2.Next⟩:zA).Ring).First),Ii (((⟨p_1.Thread,p_1.Names,p_1.Stacks,r_2.2,p_1.Last,r_2.2.Next⟩:zA).Ring).Next),Ii ((⟨p_1.Thread,p_1.Names,p_1.Stacks,r_2.2,p_1.Last,r_2.2.Next⟩:zA).Last),Ii ((⟨p_1.Thread,p_1.Names,p_1.Stacks,r_2.2,p_1.Last,r_2.2.Next⟩:zA).Sent)])] (ar 32 (ac (rfl:vI [Ii (((⟨p_1.Thread,p_1.Names,p_1.Stacks,r_2.2,p_1.Last,r_2.2.Next⟩:zA).Thread).Id),.str (((⟨p_1.Thread,p_1.Names,p_1.Stacks,r_2.2,p_1.Last,r_2.2.Next⟩:zA).Thread).Name),Ii (((⟨p_1.Thread,p_1.Names,p_1.Stacks,r_2.2,p_1.Last,r_2.2.Next⟩:zA).Thread).Domain),.sl false 1 (Ms ((⟨p_1.Thread,p_1.Names,p_1.Stacks,r_2.2,p_1.Last,r_2.2.Next⟩:zA).Names)),.sl false 2 (Mp zD ((⟨p_1.Thread,p_1.Names,p_1.Stacks,r_2.2,p_1.Last,r_2.2.Next⟩:zA).Stacks)),Ii (((⟨p_1.Thread,p_1.Names,p_1.Stacks,r_2.2,p_1.Last,r_2.2.Next⟩:zA).Ring).Policy),.sl false 1 (Mb (((⟨p_1.Thread,p_1.Names,p_1.Stacks,r_2.2,p_1.Last,r_2.2.Next⟩:zA).Ring).Data)),Ii (((⟨p_1.Thread,p_1.Names,p_1.Stacks,r_2.2,p_1.Last,r_2.2.Next⟩:zA).Ring).Start),Ii (((⟨p_1.Thread,p_1.Names,p_1.Stacks,r_2.2,p_1.Last,r_2.2.Next⟩:zA).Ring).End),Ii (((⟨p_1.Thread,p_1.Names,p_1.Stacks,r_2.2,p_1.Last,r_2.2.Next⟩:zA).Ring).First),Ii (((⟨p_1.Thread,p_1.Names,p_1.Stacks,r_2.2,p_1.Last,r_2.2.Next⟩:zA).Ring).Next),Ii ((⟨p_1.Thread,p_1.Names,p_1.Stacks,r_2.2,p_1.Last,r_2.2.Next⟩:zA).Last),Ii ((⟨p_1.Thread,p_1.Names,p_1.Stacks,r_2.2,p_1.Last,r_2.2.Next⟩:zA).Sent)]=true) (ac (rfl:(Ii p_1.Thread.Id:AV)=Ii (((⟨p_1.Thread,p_1.Names,p_1.Stacks,r_2.2,p_1.Last,r_2.2.Next⟩:zA).Thread).Id)) (ac (rfl:(.str p_1.Thread.Name:AV)=.str (((⟨p_1.Thread,p_1.Names,p_1.Stacks,r_2.2,p_1.Last,r_2.2.Next⟩:zA).Thread).Name)) (ac (rfl:(Ii p_1.Thread.Domain:AV)=Ii (((⟨p_1.Thread,p_1.Names,p_1.Stacks,r_2.2,p_1.Last,r_2.2.Next⟩:zA).Thread).Domain)) (ar 1 (ac (rfl:((Ms p_1.Names):List AV)=(Ms ((⟨p_1.Thread,p_1.Names,p_1.Stacks,r_2.2,p_1.Last,r_2.2.Next⟩:zA).Names))) (ac (rfl:(!false||false)=true) (ar 2 (ac (rfl:((Mp zD p_1.Stacks):List AV)=(Mp zD ((⟨p_1.Thread,p_1.Names,p_1.Stacks,r_2.2,p_1.Last,r_2.2.Next⟩:zA).Stacks))) (ac (rfl:(!false||false)=true) (ac (rfl:(Ii r_2.2.Policy:AV)=Ii (((⟨p_1.Thread,p_1.Names,p_1.Stacks,r_2.2,p_1.Last,r_2.2.Next⟩:zA).Ring).Policy)) (ar 1 (ac (rfl:((Mb r_2.2.Data):List AV)=(Mb (((⟨p_1.Thread,p_1.Names,p_1.Stacks,r_2.2,p_1.Last,r_2.2.Next⟩:zA).Ring).Data))) (ac (rfl:(!false||false)=true) (ac (rfl:(Ii r_2.2.Start:AV)=Ii (((⟨p_1.Thread,p_1.Names,p_1.Stacks,r_2.2,p_1.Last,r_2.2.Next⟩:zA).Ring).Start)) (ac (rfl:(Ii r_2.2.End:AV)=Ii (((⟨p_1.Thread,p_1.Names,p_1.Stacks,r_2.2,p_1.Last,r_2.2.Next⟩:zA).Ring).End)) (ac (rfl:(Ii r_2.2.First:AV)=Ii (((⟨p_1.Thread,p_1.Names,p_1.Stacks,r_2.2,p_1.Last,r_2.2.Next⟩:zA).Ring).First)) (ac (rfl:(Ii r_2.2.Next:AV)=Ii (((⟨p_1.Thread,p_1.Names,p_1.Stacks,r_2.2,p_1.Last,r_2.2.Next⟩:zA).Ring).Next)) (ac (rfl:(Ii p_1.Last:AV)=Ii ((⟨p_1.Thread,p_1.Names,p_1.Stacks,r_2.2,p_1.Last,r_2.2.Next⟩:zA).Last)) (ac (rfl:(Ii r_2.2.Next:AV)=Ii ((⟨p_1.Thread,p_1.Names,p_1.Stacks,r_2.2,p_1.Last,r_2.2.Next⟩:zA).Sent)) an))))))))))))))))))))) ?_
 refine rt ?_
 cases h
 exact ⟨.inr rfl,Nat.le_of_ble_eq_true rfl,by kernel_rfl⟩
theorem w3 (F:Nat) (p_1:zA) (r:Int) (h:kF F p_1=some r):zS prog 15 [] [] [zM p_1] [] (Ii r):=by
 refine yD (fn:=Go.Proofs.Try.f15) (code:=y5 Go.Proofs.Try.f15) (by kernel_rfl) (by kernel_rfl) (Nat.le_of_ble_eq_true (by kernel_rfl)) ?_
 unfold kF at h
 refine sr [(0,{ id:=0 })] [1] [0] 1 [Pp 0] [Vb 32 (zK p_1)] zF an ?_
 refine sq ?_
 refine sq ?_
 obtain ⟨r_1,h_1,h⟩:=bind_some h
 refine rg [(1,{ av:=Ii r_1,l:=[zM p_1] })] [1,5] [0] 1 [Pp 0,.bool (r_1 != (0:Int))] [Vb 32 (zK p_1)] zF (ar ([zM p_1]:List AV) (ac (rfl:([]:List zU)=[]) (ac (zAA F p_1 r_1 h_1:zS prog 14 [] [] [zM p_1] [] (Ii r_1)) an))) ?_
 refine cd 5 (r_1 != (0:Int)) ?_ ?_
 ·intro g_1;replace h:=zV g_1 h
  refine sr [] [2] [] 1 [Ii 0] [] zF an ?_
  refine rt ?_
  cases h
  exact ⟨.inr rfl,Nat.le_of_ble_eq_true rfl,by kernel_rfl⟩
 intro g_1;replace h:=zW g_1 h
 refine sk ?_
 refine sr [] [2] [] 1 [Ii (zG (p_1.Ring.First - p_1.Sent))] [] zF an ?_
 refine rt ?_
 cases h
 exact ⟨.inr rfl,Nat.le_of_ble_eq_true rfl,by kernel_rfl⟩
end Go.Ab
