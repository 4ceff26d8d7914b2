/- Printed: the typed Lean functions of the Go functions, or the proofs that the Go functions meet them. No conditions but those that the theorems name. -/
import Derived.Test.YtlnlcciflpncmaaP11x2
namespace Go.Ab
open Go
set_option linter.unusedVariables false
theorem zEt (F:Nat) (r:Bool) (h:zBS F=some r):zM prog 12 [] [] [] [] (.bool r):=by
 refine zS (fn:=Go.Proofs.Try.f12) (code:=z6 Go.Proofs.Try.f12) (by kernel_rfl) (by kernel_rfl) (Nat.le_of_ble_eq_true (by kernel_rfl)) ?_
 unfold zBS at h
 refine sr [] [] [] 0 [] [] zD an ?_
 refine sr [(1,{ id:=0,lo:=[(12,[0,0,0,0,0,1])] }),(3,{ id:=1 })] [1] [0,1] 2 [Pp 1] [Rb 33 6 (Mp zB ([(⟨(5:Int),(3:Int),([97]:List Int),(0:Int),(0:Int),[]⟩:zA)]:List zA)),Vb 24 [Ii 7,Ii 1,Ii 1,.own 0 1]] zD an ?_
 refine sq ?_
 refine wk [1] [0] [.s 1] [.a 0 (Vb 24 [Ii 7,Ii 1,Ii 1,.sl false 6 (Mp zB ([(⟨(5:Int),(3:Int),([97]:List Int),(0:Int),(0:Int),[]⟩:zA)]:List zA))])] [(1,Pp 0)] [(0,Vb 24 [Ii 7,Ii 1,Ii 1,.sl false 6 (Mp zB ([(⟨(5:Int),(3:Int),([97]:List Int),(0:Int),(0:Int),[]⟩:zA)]:List zA))])] (ar 24 (ac (rfl:xA [Ii 7,Ii 1,Ii 1,.sl false 6 (Mp zB ([(⟨(5:Int),(3:Int),([97]:List Int),(0:Int),(0:Int),[]⟩:zA)]:List zA))]=true) (ac (by first | (simp;done) | (simp;omega):1=((List.map zB ([(⟨(5:Int),(3:Int),([97]:List Int),(0:Int),(0:Int),[]⟩:zA)]:List zA))).length) (ac (rfl:(Ii 7:AV)=Ii 7) (ac (rfl:(Ii 1:AV)=Ii 1) (ac (rfl:(Ii 1:AV)=Ii 1) (ar 6 (ar ((Mp zB ([(⟨(5:Int),(3:Int),([97]:List Int),(0:Int),(0:Int),[]⟩:zA)]:List zA)):List AV) (ac (rfl:(!false||false)=true) an))))))))) ?_
 obtain ⟨r_1,h_1,h⟩:=bind_some h
 refine rg [(1,{ av:=.tuple [.own 0 ((r_1.1).length),Ii r_1.2],ids:=[1],l:=[.agg [Ii 7,Ii 1,Ii 1,.sl false 6 (Mp zB ([(⟨(5:Int),(3:Int),([97]:List Int),(0:Int),(0:Int),[]⟩:zA)]:List zA))]],post:=[(.row 5 1 (Mb r_1.1))] })] [1,2,3] [0,1] 2 [Pp 0,.own 1 ((r_1.1).length),Ii r_1.2] [Vb 24 [Ii 7,Ii 1,Ii 1,.sl false 6 (Mp zB ([(⟨(5:Int),(3:Int),([97]:List Int),(0:Int),(0:Int),[]⟩:zA)]:List zA))],Rb 5 1 (Mb r_1.1)] zD (ar ([.agg [Ii 7,Ii 1,Ii 1,.sl false 6 (Mp zB ([(⟨(5:Int),(3:Int),([97]:List Int),(0:Int),(0:Int),[]⟩:zA)]:List zA))]]:List AV) (ac (rfl:([]:List zP)=[]) (ac (y7 (args':=[zI (⟨(7:Int),(1:Int),(1:Int),([(⟨(5:Int),(3:Int),([97]:List Int),(0:Int),(0:Int),[]⟩:zA)]:List zA)⟩:zF)]) (zCy F (⟨(7:Int),(1:Int),(1:Int),([(⟨(5:Int),(3:Int),([97]:List Int),(0:Int),(0:Int),[]⟩:zA)]:List zA)⟩:zF) r_1 h_1) rfl ⟨rfl,rfl,rfl,rfl,rfl,rfl,trivial⟩:zM prog 17 [] [] [.agg [Ii 7,Ii 1,Ii 1,.sl false 6 (Mp zB ([(⟨(5:Int),(3:Int),([97]:List Int),(0:Int),(0:Int),[]⟩:zA)]:List zA))]] [(.row 5 1 (Mb r_1.1))] (.tuple [.own 0 ((r_1.1).length),Ii r_1.2])) an))) ?_
 refine sq ?_
 refine sq ?_
 refine zX (mk [(1,Pp 0),(2,.own 1 ((r_1.1).length)),(26,.bool (!(r_1.1==([14,2,2,2,2,97,0,2,6,10,0]:List Int))||(r_1.2 != (0:Int))))] [(0,Vb 24 [Ii 7,Ii 1,Ii 1,.sl false 6 (Mp zB ([(⟨(5:Int),(3:Int),([97]:List Int),(0:Int),(0:Int),[]⟩:zA)]:List zA))]),(1,Rb 5 1 (Mb r_1.1))] 2) ?_ ?_
 ·rcases bft (!(r_1.1==([14,2,2,2,2,97,0,2,6,10,0]:List Int))) with gg_1 | gg_1
  ·refine rg [(1,{ s:=r_1.1 }),(4,Hg),(5,Hg),(6,Ht)] [1,2,26] [0,1] 2 [Pp 0,.own 1 ((r_1.1).length),.bool true] [Vb 24 [Ii 7,Ii 1,Ii 1,.sl false 6 (Mp zB ([(⟨(5:Int),(3:Int),([97]:List Int),(0:Int),(0:Int),[]⟩:zA)]:List zA))],Rb 5 1 (Mb r_1.1)] zD (ac (by first | (simp;done) | (simp;omega):(r_1.1).length=((List.map (AV.int .u8) r_1.1)).length) (ac (rfl:(Mb r_1.1)=List.map (AV.int .u8) r_1.1) (ac gg_1 (ac gg_1 (ac gg_1 an))))) ?_
   exact ⟨rfl,(sw [0,1] [] [.s 1,.s 2,.a 26 (.bool (!(r_1.1==([14,2,2,2,2,97,0,2,6,10,0]:List Int))||(r_1.2 != (0:Int))))] [.s 0,.s 1] (ac (congrArg AV.bool (ort gg_1):(.bool true:AV)=.bool (!(r_1.1==([14,2,2,2,2,97,0,2,6,10,0]:List Int))||(r_1.2 != (0:Int)))) an))⟩
  ·refine rg [(1,{ s:=r_1.1 }),(6,Hf)] [1,2,26] [0,1] 2 [Pp 0,.own 1 ((r_1.1).length),.bool (r_1.2 != (0:Int))] [Vb 24 [Ii 7,Ii 1,Ii 1,.sl false 6 (Mp zB ([(⟨(5:Int),(3:Int),([97]:List Int),(0:Int),(0:Int),[]⟩:zA)]:List zA))],Rb 5 1 (Mb r_1.1)] zD (ac (by first | (simp;done) | (simp;omega):(r_1.1).length=((List.map (AV.int .u8) r_1.1)).length) (ac (rfl:(Mb r_1.1)=List.map (AV.int .u8) r_1.1) (ac gg_1 (ac gg_1 (ac gg_1 an))))) ?_
   exact ⟨rfl,(sw [0,1] [] [.s 1,.s 2,.a 26 (.bool (!(r_1.1==([14,2,2,2,2,97,0,2,6,10,0]:List Int))||(r_1.2 != (0:Int))))] [.s 0,.s 1] (ac (congrArg AV.bool (orf gg_1 rfl):(.bool (r_1.2 != (0:Int)):AV)=.bool (!(r_1.1==([14,2,2,2,2,97,0,2,6,10,0]:List Int))||(r_1.2 != (0:Int)))) an))⟩
 refine cd 26 (!(r_1.1==([14,2,2,2,2,97,0,2,6,10,0]:List Int))||(r_1.2 != (0:Int))) ?_ ?_
 ·intro g_1;replace h:=zN g_1 h
  refine sr [] [0] [] 2 [.bool false] [] zD an ?_
  refine rt ?_
  cases h
  exact ⟨.inr rfl,Nat.le_of_ble_eq_true rfl,by kernel_rfl⟩
 intro g_1;replace h:=zO g_1 h
 refine sk ?_
 refine sq ?_
 obtain ⟨_,h_2,h⟩:=bind_some h;replace h_2:=z0 h_2
 obtain ⟨r_2,h_3,h⟩:=bind_some h
 refine rg [(1,{ id:=2 }),(2,{ id:=3,l:=(Mb (r_1.1++([(9:Int)]:List Int))),n:=((r_1.1++([(9:Int)]:List Int))).length }),(3,{ av:=.tuple [zI r_2.1,Ii r_2.2.1,Ii r_2.2.2],frz:=[3],l:=[.sl false 1 (Mb (r_1.1++([(9:Int)]:List Int)))] }),(8,{ id:=4 })] [1,4,5,6] [0,4] 5 [Pp 0,Pp 4,Ii r_2.2.1,Ii r_2.2.2] [Vb 24 [Ii 7,Ii 1,Ii 1,.sl false 6 (Mp zB ([(⟨(5:Int),(3:Int),([97]:List Int),(0:Int),(0:Int),[]⟩:zA)]:List zA))],Vb 24 (zH r_2.1)] zD (ac (by first | (simp;done) | (simp;omega):(r_1.1).length=((List.map (AV.int .u8) r_1.1)).length) (ac (by first | (simp;done) | (simp;omega):1=((List.map (AV.int .u8) ([(9:Int)]:List Int))).length) (ac (w9 _ _:(Mb (r_1.1++([(9:Int)]:List Int)))=(Mb r_1.1)++(Mb ([(9:Int)]:List Int))) (ac (by simp:((r_1.1++([(9:Int)]:List Int))).length=((List.map (AV.int .u8) (r_1.1++([(9:Int)]:List Int)))).length) (ac (by first | (simp;done) | simpa using h_2:(((List.map (AV.int .u8) r_1.1):List AV).length+((List.map (AV.int .u8) ([(9:Int)]:List Int)):List AV).length) * 1≤140737488355328) (ac (by first | (simp;done) | (simp;omega):((r_1.1++([(9:Int)]:List Int))).length=((List.map (AV.int .u8) (r_1.1++([(9:Int)]:List Int)))).length) (ar ([.sl false 1 (Mb (r_1.1++([(9:Int)]:List Int)))]:List AV) (ac (rfl:([]:List zP)=[]) (ac (zCF F (r_1.1++([(9:Int)]:List Int)) r_2 h_3:zM prog 19 [] [] [.sl false 1 (Mb (r_1.1++([(9:Int)]:List Int)))] [] (.tuple [zI r_2.1,Ii r_2.2.1,Ii r_2.2.2])) an))))))))) ?_
 refine sq ?_
 obtain ⟨r_3,h_4,h⟩:=bind_some h
 refine rg [(4,{ av:=.tuple [zI r_3.1,.bool r_3.2],l:=[.agg [Ii 7,Ii 1,Ii 1,.sl false 6 (Mp zB ([(⟨(5:Int),(3:Int),([97]:List Int),(0:Int),(0:Int),[]⟩:zA)]:List zA))],.agg [Ii 7,Ii 2,Ii 0,.sl false 6 (Mp zB ([(⟨(5:Int),(3:Int),([97]:List Int),(0:Int),(0:Int),[]⟩:zA)]:List zA))]] }),(8,{ id:=5 })] [1,4,5,6,7,8] [0,4,5] 6 [Pp 0,Pp 4,Ii r_2.2.1,Ii r_2.2.2,Pp 5,.bool r_3.2] [Vb 24 [Ii 7,Ii 1,Ii 1,.sl false 6 (Mp zB ([(⟨(5:Int),(3:Int),([97]:List Int),(0:Int),(0:Int),[]⟩:zA)]:List zA))],Vb 24 (zH r_2.1),Vb 24 (zH r_3.1)] zD (ar ([.agg [Ii 7,Ii 1,Ii 1,.sl false 6 (Mp zB ([(⟨(5:Int),(3:Int),([97]:List Int),(0:Int),(0:Int),[]⟩:zA)]:List zA))],.agg [Ii 7,Ii 2,Ii 0,.sl false 6 (Mp zB ([(⟨(5:Int),(3:Int),([97]:List Int),(0:Int),(0:Int),[]⟩:zA)]:List zA))]]:List AV) (ac (rfl:([]:List zP)=[]) (ac (y7 (args':=[zI (⟨(7:Int),(1:Int),(1:Int),([(⟨(5:Int),(3:Int),([97]:List Int),(0:Int),(0:Int),[]⟩:zA)]:List zA)⟩:zF),zI (⟨(7:Int),(2:Int),(0:Int),([(⟨(5:Int),(3:Int),([97]:List Int),(0:Int),(0:Int),[]⟩:zA)]:List zA)⟩:zF)]) (zHc F (⟨(7:Int),(1:Int),(1:Int),([(⟨(5:Int),(3:Int),([97]:List Int),(0:Int),(0:Int),[]⟩:zA)]:List zA)⟩:zF) (⟨(7:Int),(2:Int),(0:Int),([(⟨(5:Int),(3:Int),([97]:List Int),(0:Int),(0:Int),[]⟩:zA)]:List zA)⟩:zF) r_3 h_4) rfl ⟨rfl,rfl,rfl,rfl,rfl,rfl,rfl,rfl,rfl,rfl,rfl,rfl,trivial⟩:zM prog 21 [] [] [.agg [Ii 7,Ii 1,Ii 1,.sl false 6 (Mp zB ([(⟨(5:Int),(3:Int),([97]:List Int),(0:Int),(0:Int),[]⟩:zA)]:List zA))],.agg [Ii 7,Ii 2,Ii 0,.sl false 6 (Mp zB ([(⟨(5:Int),(3:Int),([97]:List Int),(0:Int),(0:Int),[]⟩:zA)]:List zA))]] [] (.tuple [zI r_3.1,.bool r_3.2])) an))) ?_
 refine sq ?_
 obtain ⟨r_4,h_5,h⟩:=bind_some h
 refine rg [(1,{ av:=.tuple [zI r_4.1,zI r_4.2.1,.bool r_4.2.2],l:=[zI r_3.1,Ii 1] }),(6,{ id:=6 }),(7,{ id:=7 })] [1,4,5,6,7,8,9,10,11] [0,4,5,6,7] 8 [Pp 0,Pp 4,Ii r_2.2.1,Ii r_2.2.2,Pp 5,.bool r_3.2,Pp 6,Pp 7,.bool r_4.2.2] [Vb 24 [Ii 7,Ii 1,Ii 1,.sl false 6 (Mp zB ([(⟨(5:Int),(3:Int),([97]:List Int),(0:Int),(0:Int),[]⟩:zA)]:List zA))],Vb 24 (zH r_2.1),Vb 24 (zH r_3.1),Vb 24 (zH r_4.1),Vb 24 (zH r_4.2.1)] zD (ar ([zI r_3.1,Ii 1]:List AV) (ac (rfl:([]:List zP)=[]) (ac (zGU F r_3.1 (1:Int) r_4 h_5:zM prog 23 [] [] [zI r_3.1,Ii 1] [] (.tuple [zI r_4.1,zI r_4.2.1,.bool r_4.2.2])) an))) ?_
 refine sq ?_
 obtain ⟨p_1,h_10,h⟩:=bind_some h
 refine zX (mk [(0,.bool p_1)] [] 0) ?_ ?_
 ·replace h:=h_10
  obtain ⟨r_5,h_6,h⟩:=bind_some h
  rcases Bool.eq_false_or_eq_true r_5 with gg_2 | gg_2
  ·replace h:=zN gg_2 h
   rcases bft (r_2.2.1==(11:Int)) with gg_3 | gg_3
   ·replace h:=zN gg_3 h
    rcases bft (r_2.2.2==(0:Int)) with gg_4 | gg_4
    ·replace h:=zN gg_4 h
     rcases Bool.eq_false_or_eq_true r_3.2 with gg_5 | gg_5
     ·replace h:=zN gg_5 h
      rcases bft ((lN (r_3.1.Events))==(2:Int)) with gg_6 | gg_6
      ·replace h:=zN gg_6 h
       rcases Bool.eq_false_or_eq_true r_4.2.2 with gg_7 | gg_7
       ·replace h:=zN gg_7 h
        obtain ⟨r_6,h_7,h⟩:=bind_some h
        rcases Bool.eq_false_or_eq_true r_6 with gg_8 | gg_8
        ·replace h:=zN gg_8 h
         rcases bft (r_4.2.1.Serial==(2:Int)) with gg_9 | gg_9
         ·replace h:=zN gg_9 h
          obtain ⟨r_7,h_8,h⟩:=bind_some h
          rcases Bool.eq_false_or_eq_true r_7 with gg_10 | gg_10
          ·replace h:=zN gg_10 h
           obtain ⟨r_8,h_9,h⟩:=bind_some h
           refine rg [(2,{ av:=.bool r_5,l:=[zI r_2.1,.agg [Ii 7,Ii 1,Ii 1,.sl false 6 (Mp zB ([(⟨(5:Int),(3:Int),([97]:List Int),(0:Int),(0:Int),[]⟩:zA)]:List zA))]] }),(6,Ht),(10,Ht),(13,Ht),(17,{ n:=(r_3.1.Events).length }),(19,Ht),(22,Ht),(26,{ av:=.bool r_6,l:=[zI r_4.1,.agg [Ii 7,Ii 1,Ii 1,.sl false 6 (Mp zB ([(⟨(5:Int),(3:Int),([97]:List Int),(0:Int),(0:Int),[]⟩:zA)]:List zA))]] }),(27,Ht),(32,Ht),(36,{ av:=.bool r_7,l:=[.agg [Ii 7,Ii 1,Ii 1,.sl false 6 (Mp zB ([(⟨(5:Int),(3:Int),([97]:List Int),(0:Int),(0:Int),[]⟩:zA)]:List zA))],zI r_2.1] }),(37,Ht),(40,{ av:=Ii r_8,l:=[.agg [Ii 7,Ii 1,Ii 1,.sl false 6 (Mp zB ([(⟨(5:Int),(3:Int),([97]:List Int),(0:Int),(0:Int),[]⟩:zA)]:List zA))]] }),(42,Ht)] [0] [] 8 [.bool (r_8==(0:Int))] [] zD (ar ([zI r_2.1,.agg [Ii 7,Ii 1,Ii 1,.sl false 6 (Mp zB ([(⟨(5:Int),(3:Int),([97]:List Int),(0:Int),(0:Int),[]⟩:zA)]:List zA))]]:List AV) (ac (rfl:([]:List zP)=[]) (ac (y7 (args':=[zI r_2.1,zI (⟨(7:Int),(1:Int),(1:Int),([(⟨(5:Int),(3:Int),([97]:List Int),(0:Int),(0:Int),[]⟩:zA)]:List zA)⟩:zF)]) (xW F r_2.1 (⟨(7:Int),(1:Int),(1:Int),([(⟨(5:Int),(3:Int),([97]:List Int),(0:Int),(0:Int),[]⟩:zA)]:List zA)⟩:zF) r_5 h_6) rfl ⟨rfl,rfl,rfl,rfl,rfl,rfl,rfl,rfl,rfl,rfl,rfl,rfl,trivial⟩:zM prog 16 [] [] [zI r_2.1,.agg [Ii 7,Ii 1,Ii 1,.sl false 6 (Mp zB ([(⟨(5:Int),(3:Int),([97]:List Int),(0:Int),(0:Int),[]⟩:zA)]:List zA))]] [] (.bool r_5)) (ac gg_2 (ac gg_2 (ac gg_2 (ac gg_3 (ac gg_3 (ac gg_3 (ac gg_4 (ac gg_4 (ac gg_5 (ac gg_5 (ac gg_5 (ac (zY _:((Mp zB r_3.1.Events)).length=(r_3.1.Events).length) (ac gg_5 (ac gg_5 (ac gg_6 (ac gg_6 (ac gg_7 (ac gg_7 (ac gg_7 (ar ([zI r_4.1,.agg [Ii 7,Ii 1,Ii 1,.sl false 6 (Mp zB ([(⟨(5:Int),(3:Int),([97]:List Int),(0:Int),(0:Int),[]⟩:zA)]:List zA))]]:List AV) (ac (rfl:([]:List zP)=[]) (ac (y7 (args':=[zI r_4.1,zI (⟨(7:Int),(1:Int),(1:Int),([(⟨(5:Int),(3:Int),([97]:List Int),(0:Int),(0:Int),[]⟩:zA)]:List zA)⟩:zF)]) (xW F r_4.1 (⟨(7:Int),(1:Int),(1:Int),([(⟨(5:Int),(3:Int),([97]:List Int),(0:Int),(0:Int),[]⟩:zA)]:List zA)⟩:zF) r_6 h_7) rfl ⟨rfl,rfl,rfl,rfl,rfl,rfl,rfl,rfl,rfl,rfl,rfl,rfl,trivial⟩:zM prog 16 [] [] [zI r_4.1,.agg [Ii 7,Ii 1,Ii 1,.sl false 6 (Mp zB ([(⟨(5:Int),(3:Int),([97]:List Int),(0:Int),(0:Int),[]⟩:zA)]:List zA))]] [] (.bool r_6)) (ac gg_7 (ac gg_8 (ac gg_8 (ac gg_8 (ac gg_8 (ac gg_9 (ac gg_9 (ac gg_9 (ar ([.agg [Ii 7,Ii 1,Ii 1,.sl false 6 (Mp zB ([(⟨(5:Int),(3:Int),([97]:List Int),(0:Int),(0:Int),[]⟩:zA)]:List zA))],zI r_2.1]:List AV) (ac (rfl:([]:List zP)=[]) (ac (y7 (args':=[zI (⟨(7:Int),(1:Int),(1:Int),([(⟨(5:Int),(3:Int),([97]:List Int),(0:Int),(0:Int),[]⟩:zA)]:List zA)⟩:zF),zI r_2.1]) (zDg F (⟨(7:Int),(1:Int),(1:Int),([(⟨(5:Int),(3:Int),([97]:List Int),(0:Int),(0:Int),[]⟩:zA)]:List zA)⟩:zF) r_2.1 r_7 h_8) rfl ⟨rfl,rfl,rfl,rfl,rfl,rfl,rfl,rfl,rfl,rfl,rfl,rfl,trivial⟩:zM prog 15 [] [] [.agg [Ii 7,Ii 1,Ii 1,.sl false 6 (Mp zB ([(⟨(5:Int),(3:Int),([97]:List Int),(0:Int),(0:Int),[]⟩:zA)]:List zA))],zI r_2.1] [] (.bool r_7)) (ac gg_9 (ac gg_10 (ac gg_10 (ar ([.agg [Ii 7,Ii 1,Ii 1,.sl false 6 (Mp zB ([(⟨(5:Int),(3:Int),([97]:List Int),(0:Int),(0:Int),[]⟩:zA)]:List zA))]]:List AV) (ac (rfl:([]:List zP)=[]) (ac (y7 (args':=[zI (⟨(7:Int),(1:Int),(1:Int),([(⟨(5:Int),(3:Int),([97]:List Int),(0:Int),(0:Int),[]⟩:zA)]:List zA)⟩:zF)]) (xE F (⟨(7:Int),(1:Int),(1:Int),([(⟨(5:Int),(3:Int),([97]:List Int),(0:Int),(0:Int),[]⟩:zA)]:List zA)⟩:zF) r_8 h_9) rfl ⟨rfl,rfl,rfl,rfl,rfl,rfl,trivial⟩:zM prog 13 [] [] [.agg [Ii 7,Ii 1,Ii 1,.sl false 6 (Mp zB ([(⟨(5:Int),(3:Int),([97]:List Int),(0:Int),(0:Int),[]⟩:zA)]:List zA))]] [] (Ii r_8)) (ac gg_10 (ac gg_10 an)))))))))))))))))))))))))))))))))))))))))))) ?_
           cases h
           exact ⟨rfl,(sw [] [] [.s 0] [] an)⟩
          ·replace h:=zO gg_10 h
           refine rg [(2,{ av:=.bool r_5,l:=[zI r_2.1,.agg [Ii 7,Ii 1,Ii 1,.sl false 6 (Mp zB ([(⟨(5:Int),(3:Int),([97]:List Int),(0:Int),(0:Int),[]⟩:zA)]:List zA))]] }),(6,Ht),(10,Ht),(13,Ht),(17,{ n:=(r_3.1.Events).length }),(19,Ht),(22,Ht),(26,{ av:=.bool r_6,l:=[zI r_4.1,.agg [Ii 7,Ii 1,Ii 1,.sl false 6 (Mp zB ([(⟨(5:Int),(3:Int),([97]:List Int),(0:Int),(0:Int),[]⟩:zA)]:List zA))]] }),(27,Ht),(32,Ht),(36,{ av:=.bool r_7,l:=[.agg [Ii 7,Ii 1,Ii 1,.sl false 6 (Mp zB ([(⟨(5:Int),(3:Int),([97]:List Int),(0:Int),(0:Int),[]⟩:zA)]:List zA))],zI r_2.1] }),(37,Ht),(39,Hg),(40,Hg),(41,Hg),(42,Hf)] [0] [] 8 [.bool false] [] zD (ar ([zI r_2.1,.agg [Ii 7,Ii 1,Ii 1,.sl false 6 (Mp zB ([(⟨(5:Int),(3:Int),([97]:List Int),(0:Int),(0:Int),[]⟩:zA)]:List zA))]]:List AV) (ac (rfl:([]:List zP)=[]) (ac (y7 (args':=[zI r_2.1,zI (⟨(7:Int),(1:Int),(1:Int),([(⟨(5:Int),(3:Int),([97]:List Int),(0:Int),(0:Int),[]⟩:zA)]:List zA)⟩:zF)]) (xW F r_2.1 (⟨(7:Int),(1:Int),(1:Int),([(⟨(5:Int),(3:Int),([97]:List Int),(0:Int),(0:Int),[]⟩:zA)]:List zA)⟩:zF) r_5 h_6) rfl ⟨rfl,rfl,rfl,rfl,rfl,rfl,rfl,rfl,rfl,rfl,rfl,rfl,trivial⟩:zM prog 16 [] [] [zI r_2.1,.agg [Ii 7,Ii 1,Ii 1,.sl false 6 (Mp zB ([(⟨(5:Int),(3:Int),([97]:List Int),(0:Int),(0:Int),[]⟩:zA)]:List zA))]] [] (.bool r_5)) (ac gg_2 (ac gg_2 (ac gg_2 (ac gg_3 (ac gg_3 (ac gg_3 (ac gg_4 (ac gg_4 (ac gg_5 (ac gg_5 (ac gg_5 (ac (zY _:((Mp zB r_3.1.Events)).length=(r_3.1.Events).length) (ac gg_5 (ac gg_5 (ac gg_6 (ac gg_6 (ac gg_7 (ac gg_7 (ac gg_7 (ar ([zI r_4.1,.agg [Ii 7,Ii 1,Ii 1,.sl false 6 (Mp zB ([(⟨(5:Int),(3:Int),([97]:List Int),(0:Int),(0:Int),[]⟩:zA)]:List zA))]]:List AV) (ac (rfl:([]:List zP)=[]) (ac (y7 (args':=[zI r_4.1,zI (⟨(7:Int),(1:Int),(1:Int),([(⟨(5:Int),(3:Int),([97]:List Int),(0:Int),(0:Int),[]⟩:zA)]:List zA)⟩:zF)]) (xW F r_4.1 (⟨(7:Int),(1:Int),(1:Int),([(⟨(5:Int),(3:Int),([97]:List Int),(0:Int),(0:Int),[]⟩:zA)]:List zA)⟩:zF) r_6 h_7) rfl ⟨rfl,rfl,rfl,rfl,rfl,rfl,rfl,rfl,rfl,rfl,rfl,rfl,trivial⟩:zM prog 16 [] [] [zI r_4.1,.agg [Ii 7,Ii 1,Ii 1,.sl false 6 (Mp zB ([(⟨(5:Int),(3:Int),([97]:List Int),(0:Int),(0:Int),[]⟩:zA)]:List zA))]] [] (.bool r_6)) (ac gg_7 (ac gg_8 (ac gg_8 (ac gg_8 (ac gg_8 (ac gg_9 (ac gg_9 (ac gg_9 (ar ([.agg [Ii 7,Ii 1,Ii 1,.sl false 6 (Mp zB ([(⟨(5:Int),(3:Int),([97]:List Int),(0:Int),(0:Int),[]⟩:zA)]:List zA))],zI r_2.1]:List AV) (ac (rfl:([]:List zP)=[]) (ac (y7 (args':=[zI (⟨(7:Int),(1:Int),(1:Int),([(⟨(5:Int),(3:Int),([97]:List Int),(0:Int),(0:Int),[]⟩:zA)]:List zA)⟩:zF),zI r_2.1]) (zDg F (⟨(7:Int),(1:Int),(1:Int),([(⟨(5:Int),(3:Int),([97]:List Int),(0:Int),(0:Int),[]⟩:zA)]:List zA)⟩:zF) r_2.1 r_7 h_8) rfl ⟨rfl,rfl,rfl,rfl,rfl,rfl,rfl,rfl,rfl,rfl,rfl,rfl,trivial⟩:zM prog 15 [] [] [.agg [Ii 7,Ii 1,Ii 1,.sl false 6 (Mp zB ([(⟨(5:Int),(3:Int),([97]:List Int),(0:Int),(0:Int),[]⟩:zA)]:List zA))],zI r_2.1] [] (.bool r_7)) (ac gg_9 (ac gg_10 (ac gg_10 (ac gg_10 (ac gg_10 an))))))))))))))))))))))))))))))))))))))))) ?_
           cases h
           exact ⟨rfl,(sw [] [] [.s 0] [] an)⟩
         ·replace h:=zO gg_9 h
          refine rg [(2,{ av:=.bool r_5,l:=[zI r_2.1,.agg [Ii 7,Ii 1,Ii 1,.sl false 6 (Mp zB ([(⟨(5:Int),(3:Int),([97]:List Int),(0:Int),(0:Int),[]⟩:zA)]:List zA))]] }),(6,Ht),(10,Ht),(13,Ht),(17,{ n:=(r_3.1.Events).length }),(19,Ht),(22,Ht),(26,{ av:=.bool r_6,l:=[zI r_4.1,.agg [Ii 7,Ii 1,Ii 1,.sl false 6 (Mp zB ([(⟨(5:Int),(3:Int),([97]:List Int),(0:Int),(0:Int),[]⟩:zA)]:List zA))]] }),(27,Ht),(32,Ht),(34,Hg),(35,Hg),(36,Hg),(37,Hf),(39,Hg),(40,Hg),(41,Hg),(42,Hf)] [0] [] 8 [.bool false] [] zD (ar ([zI r_2.1,.agg [Ii 7,Ii 1,Ii 1,.sl false 6 (Mp zB ([(⟨(5:Int),(3:Int),([97]:List Int),(0:Int),(0:Int),[]⟩:zA)]:List zA))]]:List AV) (ac (rfl:([]:List zP)=[]) (ac (y7 (args':=[zI r_2.1,zI (⟨(7:Int),(1:Int),(1:Int),([(⟨(5:Int),(3:Int),([97]:List Int),(0:Int),(0:Int),[]⟩:zA)]:List zA)⟩:zF)]) (xW F r_2.1 (⟨(7:Int),(1:Int),(1:Int),([(⟨(5:Int),(3:Int),([97]:List Int),(0:Int),(0:Int),[]⟩:zA)]:List zA)⟩:zF) r_5 h_6) rfl ⟨rfl,rfl,rfl,rfl,rfl,rfl,rfl,rfl,rfl,rfl,rfl,rfl,trivial⟩:zM prog 16 [] [] [zI r_2.1,.agg [Ii 7,Ii 1,Ii 1,.sl false 6 (Mp zB ([(⟨(5:Int),(3:Int),([97]:List Int),(0:Int),(0:Int),[]⟩:zA)]:List zA))]] [] (.bool r_5)) (ac gg_2 (ac gg_2 (ac gg_2 (ac gg_3 (ac gg_3 (ac gg_3 (ac gg_4 (ac gg_4 (ac gg_5 (ac gg_5 (ac gg_5 (ac (zY _:((Mp zB r_3.1.Events)).length=(r_3.1.Events).length) (ac gg_5 (ac gg_5 (ac gg_6 (ac gg_6 (ac gg_7 (ac gg_7 (ac gg_7 (ar ([zI r_4.1,.agg [Ii 7,Ii 1,Ii 1,.sl false 6 (Mp zB ([(⟨(5:Int),(3:Int),([97]:List Int),(0:Int),(0:Int),[]⟩:zA)]:List zA))]]:List AV) (ac (rfl:([]:List zP)=[]) (ac (y7 (args':=[zI r_4.1,zI (⟨(7:Int),(1:Int),(1:Int),([(⟨(5:Int),(3:Int),([97]:List Int),(0:Int),(0:Int),[]⟩:zA)]:List zA)⟩:zF)]) (xW F r_4.1 (⟨(7:Int),(1:Int),(1:Int),([(⟨(5:Int),(3:Int),([97]:List Int),(0:Int),(0:Int),[]⟩:zA)]:List zA)⟩:zF) r_6 h_7) rfl ⟨rfl,rfl,rfl,rfl,rfl,rfl,rfl,rfl,rfl,rfl,rfl,rfl,trivial⟩:zM prog 16 [] [] [zI r_4.1,.agg [Ii 7,Ii 1,Ii 1,.sl false 6 (Mp zB ([(⟨(5:Int),(3:Int),([97]:List Int),(0:Int),(0:Int),[]⟩:zA)]:List zA))]] [] (.bool r_6)) (ac gg_7 (ac gg_8 (ac gg_8 (ac gg_8 (ac gg_8 (ac gg_9 (ac gg_9 (ac gg_9 (ac gg_9 (ac (rfl:false=!true) (ac (rfl:false=!true) (ac (rfl:false=!true) (ar false an)))))))))))))))))))))))))))))))))))))) ?_
          cases h
          exact ⟨rfl,(sw [] [] [.s 0] [] an)⟩
        ·replace h:=zO gg_8 h
         refine rg [(2,{ av:=.bool r_5,l:=[zI r_2.1,.agg [Ii 7,Ii 1,Ii 1,.sl false 6 (Mp zB ([(⟨(5:Int),(3:Int),([97]:List Int),(0:Int),(0:Int),[]⟩:zA)]:List zA))]] }),(6,Ht),(10,Ht),(13,Ht),(17,{ n:=(r_3.1.Events).length }),(19,Ht),(22,Ht),(26,{ av:=.bool r_6,l:=[zI r_4.1,.agg [Ii 7,Ii 1,Ii 1,.sl false 6 (Mp zB ([(⟨(5:Int),(3:Int),([97]:List Int),(0:Int),(0:Int),[]⟩:zA)]:List zA))]] }),(27,Ht),(29,Hg),(30,Hg),(31,Hg),(32,Hf),(34,Hg),(35,Hg),(36,Hg),(37,Hf),(39,Hg),(40,Hg),(41,Hg),(42,Hf)] [0] [] 8 [.bool false] [] zD (ar ([zI r_2.1,.agg [Ii 7,Ii 1,Ii 1,.sl false 6 (Mp zB ([(⟨(5:Int),(3:Int),([97]:List Int),(0:Int),(0:Int),[]⟩:zA)]:List zA))]]:List AV) (ac (rfl:([]:List zP)=[]) (ac (y7 (args':=[zI r_2.1,zI (⟨(7:Int),(1:Int),(1:Int),([(⟨(5:Int),(3:Int),([97]:List Int),(0:Int),(0:Int),[]⟩:zA)]:List zA)⟩:zF)]) (xW F r_2.1 (⟨(7:Int),(1:Int),(1:Int),([(⟨(5:Int),(3:Int),([97]:List Int),(0:Int),(0:Int),[]⟩:zA)]:List zA)⟩:zF) r_5 h_6) rfl ⟨rfl,rfl,rfl,rfl,rfl,rfl,rfl,rfl,rfl,rfl,rfl,rfl,trivial⟩:zM prog 16 [] [] [zI r_2.1,.agg [Ii 7,Ii 1,Ii 1,.sl false 6 (Mp zB ([(⟨(5:Int),(3:Int),([97]:List Int),(0:Int),(0:Int),[]⟩:zA)]:List zA))]] [] (.bool r_5)) (ac gg_2 (ac gg_2 (ac gg_2 (ac gg_3 (ac gg_3 (ac gg_3 (ac gg_4 (ac gg_4 (ac gg_5 (ac gg_5 (ac gg_5 (ac (zY _:((Mp zB r_3.1.Events)).length=(r_3.1.Events).length) (ac gg_5 (ac gg_5 (ac gg_6 (ac gg_6 (ac gg_7 (ac gg_7 (ac gg_7 (ar ([zI r_4.1,.agg [Ii 7,Ii 1,Ii 1,.sl false 6 (Mp zB ([(⟨(5:Int),(3:Int),([97]:List Int),(0:Int),(0:Int),[]⟩:zA)]:List zA))]]:List AV) (ac (rfl:([]:List zP)=[]) (ac (y7 (args':=[zI r_4.1,zI (⟨(7:Int),(1:Int),(1:Int),([(⟨(5:Int),(3:Int),([97]:List Int),(0:Int),(0:Int),[]⟩:zA)]:List zA)⟩:zF)]) (xW F r_4.1 (⟨(7:Int),(1:Int),(1:Int),([(⟨(5:Int),(3:Int),([97]:List Int),(0:Int),(0:Int),[]⟩:zA)]:List zA)⟩:zF) r_6 h_7) rfl ⟨rfl,rfl,rfl,rfl,rfl,rfl,rfl,rfl,rfl,rfl,rfl,rfl,trivial⟩:zM prog 16 [] [] [zI r_4.1,.agg [Ii 7,Ii 1,Ii 1,.sl false 6 (Mp zB ([(⟨(5:Int),(3:Int),([97]:List Int),(0:Int),(0:Int),[]⟩:zA)]:List zA))]] [] (.bool r_6)) (ac gg_7 (ac gg_8 (ac gg_8 (ac gg_8 (ac gg_8 (ac (rfl:false=!true) (ac (rfl:false=!true) (ac (rfl:false=!true) (ar false (ac (rfl:false=!true) (ac (rfl:false=!true) (ac (rfl:false=!true) (ar false an)))))))))))))))))))))))))))))))))))))) ?_
         cases h
         exact ⟨rfl,(sw [] [] [.s 0] [] an)⟩
       ·replace h:=zO gg_7 h
        refine rg [(2,{ av:=.bool r_5,l:=[zI r_2.1,.agg [Ii 7,Ii 1,Ii 1,.sl false 6 (Mp zB ([(⟨(5:Int),(3:Int),([97]:List Int),(0:Int),(0:Int),[]⟩:zA)]:List zA))]] }),(6,Ht),(10,Ht),(13,Ht),(17,{ n:=(r_3.1.Events).length }),(19,Ht),(22,Ht),(24,Hg),(25,Hg),(26,Hg),(27,Hf),(29,Hg),(30,Hg),(31,Hg),(32,Hf),(34,Hg),(35,Hg),(36,Hg),(37,Hf),(39,Hg),(40,Hg),(41,Hg),(42,Hf)] [0] [] 8 [.bool false] [] zD (ar ([zI r_2.1,.agg [Ii 7,Ii 1,Ii 1,.sl false 6 (Mp zB ([(⟨(5:Int),(3:Int),([97]:List Int),(0:Int),(0:Int),[]⟩:zA)]:List zA))]]:List AV) (ac (rfl:([]:List zP)=[]) (ac (y7 (args':=[zI r_2.1,zI (⟨(7:Int),(1:Int),(1:Int),([(⟨(5:Int),(3:Int),([97]:List Int),(0:Int),(0:Int),[]⟩:zA)]:List zA)⟩:zF)]) (xW F r_2.1 (⟨(7:Int),(1:Int),(1:Int),([(⟨(5:Int),(3:Int),([97]:List Int),(0:Int),(0:Int),[]⟩:zA)]:List zA)⟩:zF) r_5 h_6) rfl ⟨rfl,rfl,rfl,rfl,rfl,rfl,rfl,rfl,rfl,rfl,rfl,rfl,trivial⟩:zM prog 16 [] [] [zI r_2.1,.agg [Ii 7,Ii 1,Ii 1,.sl false 6 (Mp zB ([(⟨(5:Int),(3:Int),([97]:List Int),(0:Int),(0:Int),[]⟩:zA)]:List zA))]] [] (.bool r_5)) (ac gg_2 (ac gg_2 (ac gg_2 (ac gg_3 (ac gg_3 (ac gg_3 (ac gg_4 (ac gg_4 (ac gg_5 (ac gg_5 (ac gg_5 (ac (zY _:((Mp zB r_3.1.Events)).length=(r_3.1.Events).length) (ac gg_5 (ac gg_5 (ac gg_6 (ac gg_6 (ac gg_7 (ac gg_7 (ac gg_7 (ac gg_7 (ac (rfl:false=!true) (ac (rfl:false=!true) (ac (rfl:false=!true) (ar false (ac (rfl:false=!true) (ac (rfl:false=!true) (ac (rfl:false=!true) (ar false (ac (rfl:false=!true) (ac (rfl:false=!true) (ac (rfl:false=!true) (ar false an))))))))))))))))))))))))))))))))))) ?_
        cases h
        exact ⟨rfl,(sw [] [] [.s 0] [] an)⟩
      ·replace h:=zO gg_6 h
       refine rg [(2,{ av:=.bool r_5,l:=[zI r_2.1,.agg [Ii 7,Ii 1,Ii 1,.sl false 6 (Mp zB ([(⟨(5:Int),(3:Int),([97]:List Int),(0:Int),(0:Int),[]⟩:zA)]:List zA))]] }),(6,Ht),(10,Ht),(13,Ht),(17,{ n:=(r_3.1.Events).length }),(19,Ht),(21,Hg),(22,Hf),(24,Hg),(25,Hg),(26,Hg),(27,Hf),(29,Hg),(30,Hg),(31,Hg),(32,Hf),(34,Hg),(35,Hg),(36,Hg),(37,Hf),(39,Hg),(40,Hg),(41,Hg),(42,Hf)] [0] [] 8 [.bool false] [] zD (ar ([zI r_2.1,.agg [Ii 7,Ii 1,Ii 1,.sl false 6 (Mp zB ([(⟨(5:Int),(3:Int),([97]:List Int),(0:Int),(0:Int),[]⟩:zA)]:List zA))]]:List AV) (ac (rfl:([]:List zP)=[]) (ac (y7 (args':=[zI r_2.1,zI (⟨(7:Int),(1:Int),(1:Int),([(⟨(5:Int),(3:Int),([97]:List Int),(0:Int),(0:Int),[]⟩:zA)]:List zA)⟩:zF)]) (xW F r_2.1 (⟨(7:Int),(1:Int),(1:Int),([(⟨(5:Int),(3:Int),([97]:List Int),(0:Int),(0:Int),[]⟩:zA)]:List zA)⟩:zF) r_5 h_6) rfl ⟨rfl,rfl,rfl,rfl,rfl,rfl,rfl,rfl,rfl,rfl,rfl,rfl,trivial⟩:zM prog 16 [] [] [zI r_2.1,.agg [Ii 7,Ii 1,Ii 1,.sl false 6 (Mp zB ([(⟨(5:Int),(3:Int),([97]:List Int),(0:Int),(0:Int),[]⟩:zA)]:List zA))]] [] (.bool r_5)) (ac gg_2 (ac gg_2 (ac gg_2 (ac gg_3 (ac gg_3 (ac gg_3 (ac gg_4 (ac gg_4 (ac gg_5 (ac gg_5 (ac gg_5 (ac (zY _:((Mp zB r_3.1.Events)).length=(r_3.1.Events).length) (ac gg_5 (ac gg_5 (ac gg_6 (ac gg_6 (ac (rfl:false=!true) (ac (rfl:false=!true) (ac (rfl:false=!true) (ar false (ac (rfl:false=!true) (ac (rfl:false=!true) (ac (rfl:false=!true) (ar false (ac (rfl:false=!true) (ac (rfl:false=!true) (ac (rfl:false=!true) (ar false (ac (rfl:false=!true) (ac (rfl:false=!true) (ac (rfl:false=!true) (ar false an))))))))))))))))))))))))))))))))))) ?_
       cases h
       exact ⟨rfl,(sw [] [] [.s 0] [] an)⟩
     ·replace h:=zO gg_5 h
      refine rg [(2,{ av:=.bool r_5,l:=[zI r_2.1,.agg [Ii 7,Ii 1,Ii 1,.sl false 6 (Mp zB ([(⟨(5:Int),(3:Int),([97]:List Int),(0:Int),(0:Int),[]⟩:zA)]:List zA))]] }),(6,Ht),(10,Ht),(13,Ht),(15,Hg),(16,Hg),(17,Hg),(18,Hg),(19,Hf),(21,Hg),(22,Hf),(24,Hg),(25,Hg),(26,Hg),(27,Hf),(29,Hg),(30,Hg),(31,Hg),(32,Hf),(34,Hg),(35,Hg),(36,Hg),(37,Hf),(39,Hg),(40,Hg),(41,Hg),(42,Hf)] [0] [] 8 [.bool false] [] zD (ar ([zI r_2.1,.agg [Ii 7,Ii 1,Ii 1,.sl false 6 (Mp zB ([(⟨(5:Int),(3:Int),([97]:List Int),(0:Int),(0:Int),[]⟩:zA)]:List zA))]]:List AV) (ac (rfl:([]:List zP)=[]) (ac (y7 (args':=[zI r_2.1,zI (⟨(7:Int),(1:Int),(1:Int),([(⟨(5:Int),(3:Int),([97]:List Int),(0:Int),(0:Int),[]⟩:zA)]:List zA)⟩:zF)]) (xW F r_2.1 (⟨(7:Int),(1:Int),(1:Int),([(⟨(5:Int),(3:Int),([97]:List Int),(0:Int),(0:Int),[]⟩:zA)]:List zA)⟩:zF) r_5 h_6) rfl ⟨rfl,rfl,rfl,rfl,rfl,rfl,rfl,rfl,rfl,rfl,rfl,rfl,trivial⟩:zM prog 16 [] [] [zI r_2.1,.agg [Ii 7,Ii 1,Ii 1,.sl false 6 (Mp zB ([(⟨(5:Int),(3:Int),([97]:List Int),(0:Int),(0:Int),[]⟩:zA)]:List zA))]] [] (.bool r_5)) (ac gg_2 (ac gg_2 (ac gg_2 (ac gg_3 (ac gg_3 (ac gg_3 (ac gg_4 (ac gg_4 (ac gg_5 (ac gg_5 (ac gg_5 (ac gg_5 (ac gg_5 (ac (rfl:false=!true) (ar false (ac (rfl:false=!true) (ac (rfl:false=!true) (ac (rfl:false=!true) (ar false (ac (rfl:false=!true) (ac (rfl:false=!true) (ac (rfl:false=!true) (ar false (ac (rfl:false=!true) (ac (rfl:false=!true) (ac (rfl:false=!true) (ar false (ac (rfl:false=!true) (ac (rfl:false=!true) (ac (rfl:false=!true) (ar false an)))))))))))))))))))))))))))))))))) ?_
      cases h
      exact ⟨rfl,(sw [] [] [.s 0] [] an)⟩
    ·replace h:=zO gg_4 h
     refine rg [(2,{ av:=.bool r_5,l:=[zI r_2.1,.agg [Ii 7,Ii 1,Ii 1,.sl false 6 (Mp zB ([(⟨(5:Int),(3:Int),([97]:List Int),(0:Int),(0:Int),[]⟩:zA)]:List zA))]] }),(6,Ht),(10,Ht),(12,Hg),(13,Hf),(15,Hg),(16,Hg),(17,Hg),(18,Hg),(19,Hf),(21,Hg),(22,Hf),(24,Hg),(25,Hg),(26,Hg),(27,Hf),(29,Hg),(30,Hg),(31,Hg),(32,Hf),(34,Hg),(35,Hg),(36,Hg),(37,Hf),(39,Hg),(40,Hg),(41,Hg),(42,Hf)] [0] [] 8 [.bool false] [] zD (ar ([zI r_2.1,.agg [Ii 7,Ii 1,Ii 1,.sl false 6 (Mp zB ([(⟨(5:Int),(3:Int),([97]:List Int),(0:Int),(0:Int),[]⟩:zA)]:List zA))]]:List AV) (ac (rfl:([]:List zP)=[]) (ac (y7 (args':=[zI r_2.1,zI (⟨(7:Int),(1:Int),(1:Int),([(⟨(5:Int),(3:Int),([97]:List Int),(0:Int),(0:Int),[]⟩:zA)]:List zA)⟩:zF)]) (xW F r_2.1 (⟨(7:Int),(1:Int),(1:Int),([(⟨(5:Int),(3:Int),([97]:List Int),(0:Int),(0:Int),[]⟩:zA)]:List zA)⟩:zF) r_5 h_6) rfl ⟨rfl,rfl,rfl,rfl,rfl,rfl,rfl,rfl,rfl,rfl,rfl,rfl,trivial⟩:zM prog 16 [] [] [zI r_2.1,.agg [Ii 7,Ii 1,Ii 1,.sl false 6 (Mp zB ([(⟨(5:Int),(3:Int),([97]:List Int),(0:Int),(0:Int),[]⟩:zA)]:List zA))]] [] (.bool r_5)) (ac gg_2 (ac gg_2 (ac gg_2 (ac gg_3 (ac gg_3 (ac gg_3 (ac gg_4 (ac gg_4 (ac (rfl:false=!true) (ac (rfl:false=!true) (ac (rfl:false=!true) (ac (rfl:false=!true) (ar false (ac (rfl:false=!true) (ar false (ac (rfl:false=!true) (ac (rfl:false=!true) (ac (rfl:false=!true) (ar false (ac (rfl:false=!true) (ac (rfl:false=!true) (ac (rfl:false=!true) (ar false (ac (rfl:false=!true) (ac (rfl:false=!true) (ac (rfl:false=!true) (ar false (ac (rfl:false=!true) (ac (rfl:false=!true) (ac (rfl:false=!true) (ar false an)))))))))))))))))))))))))))))))))) ?_
     cases h
     exact ⟨rfl,(sw [] [] [.s 0] [] an)⟩
   ·replace h:=zO gg_3 h
    refine rg [(2,{ av:=.bool r_5,l:=[zI r_2.1,.agg [Ii 7,Ii 1,Ii 1,.sl false 6 (Mp zB ([(⟨(5:Int),(3:Int),([97]:List Int),(0:Int),(0:Int),[]⟩:zA)]:List zA))]] }),(6,Ht),(8,Hg),(9,Hg),(10,Hf),(12,Hg),(13,Hf),(15,Hg),(16,Hg),(17,Hg),(18,Hg),(19,Hf),(21,Hg),(22,Hf),(24,Hg),(25,Hg),(26,Hg),(27,Hf),(29,Hg),(30,Hg),(31,Hg),(32,Hf),(34,Hg),(35,Hg),(36,Hg),(37,Hf),(39,Hg),(40,Hg),(41,Hg),(42,Hf)] [0] [] 8 [.bool false] [] zD (ar ([zI r_2.1,.agg [Ii 7,Ii 1,Ii 1,.sl false 6 (Mp zB ([(⟨(5:Int),(3:Int),([97]:List Int),(0:Int),(0:Int),[]⟩:zA)]:List zA))]]:List AV) (ac (rfl:([]:List zP)=[]) (ac (y7 (args':=[zI r_2.1,zI (⟨(7:Int),(1:Int),(1:Int),([(⟨(5:Int),(3:Int),([97]:List Int),(0:Int),(0:Int),[]⟩:zA)]:List zA)⟩:zF)]) (xW F r_2.1 (⟨(7:Int),(1:Int),(1:Int),([(⟨(5:Int),(3:Int),([97]:List Int),(0:Int),(0:Int),[]⟩:zA)]:List zA)⟩:zF) r_5 h_6) rfl ⟨rfl,rfl,rfl,rfl,rfl,rfl,rfl,rfl,rfl,rfl,rfl,rfl,trivial⟩:zM prog 16 [] [] [zI r_2.1,.agg [Ii 7,Ii 1,Ii 1,.sl false 6 (Mp zB ([(⟨(5:Int),(3:Int),([97]:List Int),(0:Int),(0:Int),[]⟩:zA)]:List zA))]] [] (.bool r_5)) (ac gg_2 (ac gg_2 (ac gg_2 (ac gg_3 (ac gg_3 (ac gg_3 (ac (rfl:false=!true) (ar false (ac (rfl:false=!true) (ac (rfl:false=!true) (ac (rfl:false=!true) (ac (rfl:false=!true) (ar false (ac (rfl:false=!true) (ar false (ac (rfl:false=!true) (ac (rfl:false=!true) (ac (rfl:false=!true) (ar false (ac (rfl:false=!true) (ac (rfl:false=!true) (ac (rfl:false=!true) (ar false (ac (rfl:false=!true) (ac (rfl:false=!true) (ac (rfl:false=!true) (ar false (ac (rfl:false=!true) (ac (rfl:false=!true) (ac (rfl:false=!true) (ar false an)))))))))))))))))))))))))))))))))) ?_
    cases h
    exact ⟨rfl,(sw [] [] [.s 0] [] an)⟩
  ·replace h:=zO gg_2 h
   refine rg [(2,{ av:=.bool r_5,l:=[zI r_2.1,.agg [Ii 7,Ii 1,Ii 1,.sl false 6 (Mp zB ([(⟨(5:Int),(3:Int),([97]:List Int),(0:Int),(0:Int),[]⟩:zA)]:List zA))]] }),(4,Hg),(5,Hg),(6,Hf),(8,Hg),(9,Hg),(10,Hf),(12,Hg),(13,Hf),(15,Hg),(16,Hg),(17,Hg),(18,Hg),(19,Hf),(21,Hg),(22,Hf),(24,Hg),(25,Hg),(26,Hg),(27,Hf),(29,Hg),(30,Hg),(31,Hg),(32,Hf),(34,Hg),(35,Hg),(36,Hg),(37,Hf),(39,Hg),(40,Hg),(41,Hg),(42,Hf)] [0] [] 8 [.bool false] [] zD (ar ([zI r_2.1,.agg [Ii 7,Ii 1,Ii 1,.sl false 6 (Mp zB ([(⟨(5:Int),(3:Int),([97]:List Int),(0:Int),(0:Int),[]⟩:zA)]:List zA))]]:List AV) (ac (rfl:([]:List zP)=[]) (ac (y7 (args':=[zI r_2.1,zI (⟨(7:Int),(1:Int),(1:Int),([(⟨(5:Int),(3:Int),([97]:List Int),(0:Int),(0:Int),[]⟩:zA)]:List zA)⟩:zF)]) (xW F r_2.1 (⟨(7:Int),(1:Int),(1:Int),([(⟨(5:Int),(3:Int),([97]:List Int),(0:Int),(0:Int),[]⟩:zA)]:List zA)⟩:zF) r_5 h_6) rfl ⟨rfl,rfl,rfl,rfl,rfl,rfl,rfl,rfl,rfl,rfl,rfl,rfl,trivial⟩:zM prog 16 [] [] [zI r_2.1,.agg [Ii 7,Ii 1,Ii 1,.sl false 6 (Mp zB ([(⟨(5:Int),(3:Int),([97]:List Int),(0:Int),(0:Int),[]⟩:zA)]:List zA))]] [] (.bool r_5)) (ac gg_2 (ac gg_2 (ac gg_2 (ac (rfl:false=!true) (ac (rfl:false=!true) (ar false (ac (rfl:false=!true) (ar false (ac (rfl:false=!true) (ac (rfl:false=!true) (ac (rfl:false=!true) (ac (rfl:false=!true) (ar false (ac (rfl:false=!true) (ar false (ac (rfl:false=!true) (ac (rfl:false=!true) (ac (rfl:false=!true) (ar false (ac (rfl:false=!true) (ac (rfl:false=!true) (ac (rfl:false=!true) (ar false (ac (rfl:false=!true) (ac (rfl:false=!true) (ac (rfl:false=!true) (ar false (ac (rfl:false=!true) (ac (rfl:false=!true) (ac (rfl:false=!true) (ar false an)))))))))))))))))))))))))))))))))) ?_
   cases h
   exact ⟨rfl,(sw [] [] [.s 0] [] an)⟩
 refine rt ?_
 cases h
 exact ⟨.inr rfl,Nat.le_of_ble_eq_true rfl,by kernel_rfl⟩
theorem u2 (n_1:Int) (r:Bool) (h:pO n_1=some r):zM prog 27 [] [] [Ii n_1] [] (.bool r):=by
 refine zS (fn:=Go.Proofs.Try.f27) (code:=z6 Go.Proofs.Try.f27) (by kernel_rfl) (by kernel_rfl) (Nat.le_of_ble_eq_true (by kernel_rfl)) ?_
 unfold pO at h
 refine sr [] [0] [] 0 [Ii n_1] [] zD an ?_
 refine sq ?_
 refine zX (mk [(2,.bool (decide (n_1≥(0:Int))&&decide (n_1≤(1000000000000000:Int))))] [] 0) ?_ ?_
 ·rcases bft (decide (n_1≥(0:Int))) with gg_1 | gg_1
  ·refine rg [(5,Ht)] [2] [] 0 [.bool (decide (n_1≤(1000000000000000:Int)))] [] zD (ac gg_1 (ac gg_1 (ac gg_1 an))) ?_
   exact ⟨rfl,(sw [] [] [.a 2 (.bool (decide (n_1≥(0:Int))&&decide (n_1≤(1000000000000000:Int))))] [] (ac (congrArg AV.bool (vR gg_1 rfl):(.bool (decide (n_1≤(1000000000000000:Int))):AV)=.bool (decide (n_1≥(0:Int))&&decide (n_1≤(1000000000000000:Int)))) an))⟩
  ·refine rg [(3,Hg),(4,Hg),(5,Hf)] [2] [] 0 [.bool false] [] zD (ac gg_1 (ac gg_1 (ac gg_1 an))) ?_
   exact ⟨rfl,(sw [] [] [.a 2 (.bool (decide (n_1≥(0:Int))&&decide (n_1≤(1000000000000000:Int))))] [] (ac (congrArg AV.bool (qL gg_1):(.bool false:AV)=.bool (decide (n_1≥(0:Int))&&decide (n_1≤(1000000000000000:Int)))) an))⟩
 refine rt ?_
 cases h
 exact ⟨.inr rfl,Nat.le_of_ble_eq_true rfl,by kernel_rfl⟩
theorem zKo (k_1:Int) (r:Bool×Bool×Bool×Bool) (h:zDL k_1=some r):zM prog 71 [] [] [Ii k_1] [] (.tuple [.bool r.1,.bool r.2.1,.bool r.2.2.1,.bool r.2.2.2]):=by
 refine zS (fn:=Go.Proofs.Try.f71) (code:=z6 Go.Proofs.Try.f71) (by kernel_rfl) (by kernel_rfl) (Nat.le_of_ble_eq_true (by kernel_rfl)) ?_
 unfold zDL at h
 refine sr [] [0] [] 0 [Ii k_1] [] zD an ?_
 refine sq ?_
 refine zX (mk [(0,Ii k_1),(6,.bool ((k_1==(1:Int))||((k_1==(3:Int))||(k_1==(4:Int)))))] [] 0) ?_ ?_
 ·rcases bft (k_1==(1:Int)) with gg_1 | gg_1
  ·refine rg [(3,Hg),(4,Hg),(5,Ht),(7,Hg),(8,Hg),(9,Ht)] [0,6] [] 0 [Ii k_1,.bool true] [] zD (ac gg_1 (ac gg_1 (ac gg_1 (ax (ax (ar true an)))))) ?_
   exact ⟨rfl,(sw [] [] [.s 0,.a 6 (.bool ((k_1==(1:Int))||((k_1==(3:Int))||(k_1==(4:Int)))))] [] (ac (congrArg AV.bool (ort gg_1):(.bool true:AV)=.bool ((k_1==(1:Int))||((k_1==(3:Int))||(k_1==(4:Int))))) an))⟩
  ·rcases bft (k_1==(3:Int)) with gg_2 | gg_2
   ·refine rg [(5,Hf),(7,Hg),(8,Hg),(9,Ht)] [0,6] [] 0 [Ii k_1,.bool true] [] zD (ac gg_1 (ac gg_1 (ac gg_1 (ac gg_2 (ac gg_2 (ac gg_2 an)))))) ?_
    exact ⟨rfl,(sw [] [] [.s 0,.a 6 (.bool ((k_1==(1:Int))||((k_1==(3:Int))||(k_1==(4:Int)))))] [] (ac (congrArg AV.bool (orf gg_1 (ort gg_2)):(.bool true:AV)=.bool ((k_1==(1:Int))||((k_1==(3:Int))||(k_1==(4:Int))))) an))⟩
   ·refine rg [(5,Hf),(9,Hf)] [0,6] [] 0 [Ii k_1,.bool (k_1==(4:Int))] [] zD (ac gg_1 (ac gg_1 (ac gg_1 (ac gg_2 (ac gg_2 (ac gg_2 an)))))) ?_
    exact ⟨rfl,(sw [] [] [.s 0,.a 6 (.bool ((k_1==(1:Int))||((k_1==(3:Int))||(k_1==(4:Int)))))] [] (ac (congrArg AV.bool (orf gg_1 (orf gg_2 rfl)):(.bool (k_1==(4:Int)):AV)=.bool ((k_1==(1:Int))||((k_1==(3:Int))||(k_1==(4:Int))))) an))⟩
 refine sr [] [0,6,7] [] 0 [Ii k_1,.bool ((k_1==(1:Int))||((k_1==(3:Int))||(k_1==(4:Int)))),.bool (decide (k_1≥(4:Int)))] [] zD an ?_
 refine sq ?_
 refine zX (mk [(0,Ii k_1),(6,.bool ((k_1==(1:Int))||((k_1==(3:Int))||(k_1==(4:Int))))),(7,.bool (decide (k_1≥(4:Int)))),(8,.bool ((k_1==(9:Int))||(k_1==(11:Int))))] [] 0) ?_ ?_
 ·rcases bft (k_1==(9:Int)) with gg_3 | gg_3
  ·refine rg [(3,Hg),(4,Hg),(5,Ht)] [0,6,7,8] [] 0 [Ii k_1,.bool ((k_1==(1:Int))||((k_1==(3:Int))||(k_1==(4:Int)))),.bool (decide (k_1≥(4:Int))),.bool true] [] zD (ac gg_3 (ac gg_3 (ac gg_3 an))) ?_
   exact ⟨rfl,(sw [] [] [.s 0,.s 6,.s 7,.a 8 (.bool ((k_1==(9:Int))||(k_1==(11:Int))))] [] (ac (congrArg AV.bool (ort gg_3):(.bool true:AV)=.bool ((k_1==(9:Int))||(k_1==(11:Int)))) an))⟩
  ·refine rg [(5,Hf)] [0,6,7,8] [] 0 [Ii k_1,.bool ((k_1==(1:Int))||((k_1==(3:Int))||(k_1==(4:Int)))),.bool (decide (k_1≥(4:Int))),.bool (k_1==(11:Int))] [] zD (ac gg_3 (ac gg_3 (ac gg_3 an))) ?_
   exact ⟨rfl,(sw [] [] [.s 0,.s 6,.s 7,.a 8 (.bool ((k_1==(9:Int))||(k_1==(11:Int))))] [] (ac (congrArg AV.bool (orf gg_3 rfl):(.bool (k_1==(11:Int)):AV)=.bool ((k_1==(9:Int))||(k_1==(11:Int)))) an))⟩
 refine sq ?_
 refine zX (mk [(6,.bool ((k_1==(1:Int))||((k_1==(3:Int))||(k_1==(4:Int))))),(7,.bool (decide (k_1≥(4:Int)))),(8,.bool ((k_1==(9:Int))||(k_1==(11:Int)))),(9,.bool ((k_1==(5:Int))||(k_1==(11:Int))))] [] 0) ?_ ?_
 ·rcases bft (k_1==(5:Int)) with gg_4 | gg_4
  ·refine rg [(3,Hg),(4,Hg),(5,Ht)] [6,7,8,9] [] 0 [.bool ((k_1==(1:Int))||((k_1==(3:Int))||(k_1==(4:Int)))),.bool (decide (k_1≥(4:Int))),.bool ((k_1==(9:Int))||(k_1==(11:Int))),.bool true] [] zD (ac gg_4 (ac gg_4 (ac gg_4 an))) ?_
   exact ⟨rfl,(sw [] [] [.s 6,.s 7,.s 8,.a 9 (.bool ((k_1==(5:Int))||(k_1==(11:Int))))] [] (ac (congrArg AV.bool (ort gg_4):(.bool true:AV)=.bool ((k_1==(5:Int))||(k_1==(11:Int)))) an))⟩
  ·refine rg [(5,Hf)] [6,7,8,9] [] 0 [.bool ((k_1==(1:Int))||((k_1==(3:Int))||(k_1==(4:Int)))),.bool (decide (k_1≥(4:Int))),.bool ((k_1==(9:Int))||(k_1==(11:Int))),.bool (k_1==(11:Int))] [] zD (ac gg_4 (ac gg_4 (ac gg_4 an))) ?_
   exact ⟨rfl,(sw [] [] [.s 6,.s 7,.s 8,.a 9 (.bool ((k_1==(5:Int))||(k_1==(11:Int))))] [] (ac (congrArg AV.bool (orf gg_4 rfl):(.bool (k_1==(11:Int)):AV)=.bool ((k_1==(5:Int))||(k_1==(11:Int)))) an))⟩
 refine sr [] [2,3,4,5] [] 0 [.bool ((k_1==(1:Int))||((k_1==(3:Int))||(k_1==(4:Int)))),.bool (decide (k_1≥(4:Int))),.bool ((k_1==(9:Int))||(k_1==(11:Int))),.bool ((k_1==(5:Int))||(k_1==(11:Int)))] [] zD an ?_
 refine rt ?_
 cases h
 exact ⟨.inr rfl,Nat.le_of_ble_eq_true rfl,by kernel_rfl⟩
theorem zIp (F:Nat) (c_1:Int) (r:Bool) (h:zAX F c_1=some r):zM prog 92 [] [] [Iu c_1] [] (.bool r):=by
 refine zS (fn:=Go.Proofs.Try.f92) (code:=z6 Go.Proofs.Try.f92) (by kernel_rfl) (by kernel_rfl) (Nat.le_of_ble_eq_true (by kernel_rfl)) ?_
 unfold zAX at h
 refine sr [] [0] [] 0 [Iu c_1] [] zD an ?_
 refine sq ?_
 refine sq ?_
 refine zX (mk [(0,Iu c_1),(26,.bool (bif decide (c_1≥(97:Int)) then (decide (c_1≤(122:Int))||(bif decide (c_1≥(65:Int)) then (decide (c_1≤(90:Int))||(decide (c_1≥(48:Int))&&decide (c_1≤(57:Int)))) else (decide (c_1≥(48:Int))&&decide (c_1≤(57:Int))))) else (bif decide (c_1≥(65:Int)) then (decide (c_1≤(90:Int))||(decide (c_1≥(48:Int))&&decide (c_1≤(57:Int)))) else (decide (c_1≥(48:Int))&&decide (c_1≤(57:Int))))))] [] 0) ?_ ?_
 ·rcases bft (decide (c_1≥(97:Int))) with gg_1 | gg_1
  ·rcases bft (decide (c_1≤(122:Int))) with gg_2 | gg_2
   ·refine rg [(5,Ht),(7,Hg),(8,Hg),(9,Hg),(12,Hg),(13,Ht),(15,Hg),(16,Hg),(17,Hg),(20,Hg),(21,Ht)] [0,26] [] 0 [Iu c_1,.bool true] [] zD (ac gg_1 (ac gg_1 (ac gg_1 (ac gg_2 (ac gg_2 (ac gg_2 (ac gg_2 (ac gg_2 (ax (ax (ax (ax (ar true an))))))))))))) ?_
    exact ⟨rfl,(sw [] [] [.s 0,.a 26 (.bool (bif decide (c_1≥(97:Int)) then (decide (c_1≤(122:Int))||(bif decide (c_1≥(65:Int)) then (decide (c_1≤(90:Int))||(decide (c_1≥(48:Int))&&decide (c_1≤(57:Int)))) else (decide (c_1≥(48:Int))&&decide (c_1≤(57:Int))))) else (bif decide (c_1≥(65:Int)) then (decide (c_1≤(90:Int))||(decide (c_1≥(48:Int))&&decide (c_1≤(57:Int)))) else (decide (c_1≥(48:Int))&&decide (c_1≤(57:Int))))))] [] (ac (congrArg AV.bool (ctr gg_1 (ort gg_2)):(.bool true:AV)=.bool (bif decide (c_1≥(97:Int)) then (decide (c_1≤(122:Int))||(bif decide (c_1≥(65:Int)) then (decide (c_1≤(90:Int))||(decide (c_1≥(48:Int))&&decide (c_1≤(57:Int)))) else (decide (c_1≥(48:Int))&&decide (c_1≤(57:Int))))) else (bif decide (c_1≥(65:Int)) then (decide (c_1≤(90:Int))||(decide (c_1≥(48:Int))&&decide (c_1≤(57:Int)))) else (decide (c_1≥(48:Int))&&decide (c_1≤(57:Int)))))) an))⟩
   ·rcases bft (decide (c_1≥(65:Int))) with gg_3 | gg_3
    ·rcases bft (decide (c_1≤(90:Int))) with gg_4 | gg_4
     ·refine rg [(5,Ht),(12,Ht),(13,Hf),(15,Hg),(16,Hg),(17,Hg),(20,Hg),(21,Ht)] [0,26] [] 0 [Iu c_1,.bool true] [] zD (ac gg_1 (ac gg_1 (ac gg_1 (ac gg_2 (ac gg_2 (ac gg_2 (ac gg_3 (ac gg_3 (ac gg_2 (ac gg_3 (ac gg_2 (ac gg_4 (ac gg_4 (ac gg_4 (ac gg_4 (ac gg_4 an)))))))))))))))) ?_
      exact ⟨rfl,(sw [] [] [.s 0,.a 26 (.bool (bif decide (c_1≥(97:Int)) then (decide (c_1≤(122:Int))||(bif decide (c_1≥(65:Int)) then (decide (c_1≤(90:Int))||(decide (c_1≥(48:Int))&&decide (c_1≤(57:Int)))) else (decide (c_1≥(48:Int))&&decide (c_1≤(57:Int))))) else (bif decide (c_1≥(65:Int)) then (decide (c_1≤(90:Int))||(decide (c_1≥(48:Int))&&decide (c_1≤(57:Int)))) else (decide (c_1≥(48:Int))&&decide (c_1≤(57:Int))))))] [] (ac (congrArg AV.bool (ctr gg_1 (orf gg_2 (ctr gg_3 (ort gg_4)))):(.bool true:AV)=.bool (bif decide (c_1≥(97:Int)) then (decide (c_1≤(122:Int))||(bif decide (c_1≥(65:Int)) then (decide (c_1≤(90:Int))||(decide (c_1≥(48:Int))&&decide (c_1≤(57:Int)))) else (decide (c_1≥(48:Int))&&decide (c_1≤(57:Int))))) else (bif decide (c_1≥(65:Int)) then (decide (c_1≤(90:Int))||(decide (c_1≥(48:Int))&&decide (c_1≤(57:Int)))) else (decide (c_1≥(48:Int))&&decide (c_1≤(57:Int)))))) an))⟩
     ·rcases bft (decide (c_1≥(48:Int))) with gg_5 | gg_5
      ·refine rg [(5,Ht),(12,Ht),(13,Hf),(20,Ht),(21,Hf)] [0,26] [] 0 [Iu c_1,.bool (decide (c_1≤(57:Int)))] [] zD (ac gg_1 (ac gg_1 (ac gg_1 (ac gg_2 (ac gg_2 (ac gg_2 (ac gg_3 (ac gg_3 (ac gg_2 (ac gg_3 (ac gg_2 (ac gg_4 (ac gg_4 (ac gg_4 (ac gg_5 (ac gg_5 (ac gg_4 (ac gg_5 (ac gg_4 an))))))))))))))))))) ?_
       exact ⟨rfl,(sw [] [] [.s 0,.a 26 (.bool (bif decide (c_1≥(97:Int)) then (decide (c_1≤(122:Int))||(bif decide (c_1≥(65:Int)) then (decide (c_1≤(90:Int))||(decide (c_1≥(48:Int))&&decide (c_1≤(57:Int)))) else (decide (c_1≥(48:Int))&&decide (c_1≤(57:Int))))) else (bif decide (c_1≥(65:Int)) then (decide (c_1≤(90:Int))||(decide (c_1≥(48:Int))&&decide (c_1≤(57:Int)))) else (decide (c_1≥(48:Int))&&decide (c_1≤(57:Int))))))] [] (ac (congrArg AV.bool (ctr gg_1 (orf gg_2 (ctr gg_3 (orf gg_4 (vR gg_5 rfl))))):(.bool (decide (c_1≤(57:Int))):AV)=.bool (bif decide (c_1≥(97:Int)) then (decide (c_1≤(122:Int))||(bif decide (c_1≥(65:Int)) then (decide (c_1≤(90:Int))||(decide (c_1≥(48:Int))&&decide (c_1≤(57:Int)))) else (decide (c_1≥(48:Int))&&decide (c_1≤(57:Int))))) else (bif decide (c_1≥(65:Int)) then (decide (c_1≤(90:Int))||(decide (c_1≥(48:Int))&&decide (c_1≤(57:Int)))) else (decide (c_1≥(48:Int))&&decide (c_1≤(57:Int)))))) an))⟩
      ·refine rg [(5,Ht),(12,Ht),(13,Hf),(18,Hg),(19,Hg),(20,Hf),(21,Hf)] [0,26] [] 0 [Iu c_1,.bool false] [] zD (ac gg_1 (ac gg_1 (ac gg_1 (ac gg_2 (ac gg_2 (ac gg_2 (ac gg_3 (ac gg_3 (ac gg_2 (ac gg_3 (ac gg_2 (ac gg_4 (ac gg_4 (ac gg_4 (ac gg_5 (ac gg_5 (ac gg_4 (ac gg_5 (ac gg_4 an))))))))))))))))))) ?_
       exact ⟨rfl,(sw [] [] [.s 0,.a 26 (.bool (bif decide (c_1≥(97:Int)) then (decide (c_1≤(122:Int))||(bif decide (c_1≥(65:Int)) then (decide (c_1≤(90:Int))||(decide (c_1≥(48:Int))&&decide (c_1≤(57:Int)))) else (decide (c_1≥(48:Int))&&decide (c_1≤(57:Int))))) else (bif decide (c_1≥(65:Int)) then (decide (c_1≤(90:Int))||(decide (c_1≥(48:Int))&&decide (c_1≤(57:Int)))) else (decide (c_1≥(48:Int))&&decide (c_1≤(57:Int))))))] [] (ac (congrArg AV.bool (ctr gg_1 (orf gg_2 (ctr gg_3 (orf gg_4 (qL gg_5))))):(.bool false:AV)=.bool (bif decide (c_1≥(97:Int)) then (decide (c_1≤(122:Int))||(bif decide (c_1≥(65:Int)) then (decide (c_1≤(90:Int))||(decide (c_1≥(48:Int))&&decide (c_1≤(57:Int)))) else (decide (c_1≥(48:Int))&&decide (c_1≤(57:Int))))) else (bif decide (c_1≥(65:Int)) then (decide (c_1≤(90:Int))||(decide (c_1≥(48:Int))&&decide (c_1≤(57:Int)))) else (decide (c_1≥(48:Int))&&decide (c_1≤(57:Int)))))) an))⟩
    ·rcases bft (decide (c_1≥(48:Int))) with gg_6 | gg_6
     ·refine rg [(5,Ht),(10,Hg),(11,Hg),(12,Hf),(13,Hf),(20,Ht),(21,Hf)] [0,26] [] 0 [Iu c_1,.bool (decide (c_1≤(57:Int)))] [] zD (ac gg_1 (ac gg_1 (ac gg_1 (ac gg_2 (ac gg_2 (ac gg_2 (ac gg_3 (ac gg_3 (ac gg_2 (ac gg_3 (ac gg_2 (ar false (ar false (ar false (ac gg_6 (ac gg_6 (ar false (ac gg_6 (ar false an))))))))))))))))))) ?_
      exact ⟨rfl,(sw [] [] [.s 0,.a 26 (.bool (bif decide (c_1≥(97:Int)) then (decide (c_1≤(122:Int))||(bif decide (c_1≥(65:Int)) then (decide (c_1≤(90:Int))||(decide (c_1≥(48:Int))&&decide (c_1≤(57:Int)))) else (decide (c_1≥(48:Int))&&decide (c_1≤(57:Int))))) else (bif decide (c_1≥(65:Int)) then (decide (c_1≤(90:Int))||(decide (c_1≥(48:Int))&&decide (c_1≤(57:Int)))) else (decide (c_1≥(48:Int))&&decide (c_1≤(57:Int))))))] [] (ac (congrArg AV.bool (ctr gg_1 (orf gg_2 (cfr gg_3 (vR gg_6 rfl)))):(.bool (decide (c_1≤(57:Int))):AV)=.bool (bif decide (c_1≥(97:Int)) then (decide (c_1≤(122:Int))||(bif decide (c_1≥(65:Int)) then (decide (c_1≤(90:Int))||(decide (c_1≥(48:Int))&&decide (c_1≤(57:Int)))) else (decide (c_1≥(48:Int))&&decide (c_1≤(57:Int))))) else (bif decide (c_1≥(65:Int)) then (decide (c_1≤(90:Int))||(decide (c_1≥(48:Int))&&decide (c_1≤(57:Int)))) else (decide (c_1≥(48:Int))&&decide (c_1≤(57:Int)))))) an))⟩
     ·refine rg [(5,Ht),(10,Hg),(11,Hg),(12,Hf),(13,Hf),(18,Hg),(19,Hg),(20,Hf),(21,Hf)] [0,26] [] 0 [Iu c_1,.bool false] [] zD (ac gg_1 (ac gg_1 (ac gg_1 (ac gg_2 (ac gg_2 (ac gg_2 (ac gg_3 (ac gg_3 (ac gg_2 (ac gg_3 (ac gg_2 (ar false (ar false (ar false (ac gg_6 (ac gg_6 (ar false (ac gg_6 (ar false an))))))))))))))))))) ?_
      exact ⟨rfl,(sw [] [] [.s 0,.a 26 (.bool (bif decide (c_1≥(97:Int)) then (decide (c_1≤(122:Int))||(bif decide (c_1≥(65:Int)) then (decide (c_1≤(90:Int))||(decide (c_1≥(48:Int))&&decide (c_1≤(57:Int)))) else (decide (c_1≥(48:Int))&&decide (c_1≤(57:Int))))) else (bif decide (c_1≥(65:Int)) then (decide (c_1≤(90:Int))||(decide (c_1≥(48:Int))&&decide (c_1≤(57:Int)))) else (decide (c_1≥(48:Int))&&decide (c_1≤(57:Int))))))] [] (ac (congrArg AV.bool (ctr gg_1 (orf gg_2 (cfr gg_3 (qL gg_6)))):(.bool false:AV)=.bool (bif decide (c_1≥(97:Int)) then (decide (c_1≤(122:Int))||(bif decide (c_1≥(65:Int)) then (decide (c_1≤(90:Int))||(decide (c_1≥(48:Int))&&decide (c_1≤(57:Int)))) else (decide (c_1≥(48:Int))&&decide (c_1≤(57:Int))))) else (bif decide (c_1≥(65:Int)) then (decide (c_1≤(90:Int))||(decide (c_1≥(48:Int))&&decide (c_1≤(57:Int)))) else (decide (c_1≥(48:Int))&&decide (c_1≤(57:Int)))))) an))⟩
  ·rcases bft (decide (c_1≥(65:Int))) with gg_7 | gg_7
   ·rcases bft (decide (c_1≤(90:Int))) with gg_8 | gg_8
    ·refine rg [(3,Hg),(4,Hg),(5,Hf),(12,Ht),(13,Hf),(15,Hg),(16,Hg),(17,Hg),(20,Hg),(21,Ht)] [0,26] [] 0 [Iu c_1,.bool true] [] zD (ac gg_1 (ac gg_1 (ac gg_1 (ar false (ar false (ar false (ac gg_7 (ac gg_7 (ar false (ac gg_7 (ar false (ac gg_8 (ac gg_8 (ac gg_8 (ac gg_8 (ac gg_8 an)))))))))))))))) ?_
     exact ⟨rfl,(sw [] [] [.s 0,.a 26 (.bool (bif decide (c_1≥(97:Int)) then (decide (c_1≤(122:Int))||(bif decide (c_1≥(65:Int)) then (decide (c_1≤(90:Int))||(decide (c_1≥(48:Int))&&decide (c_1≤(57:Int)))) else (decide (c_1≥(48:Int))&&decide (c_1≤(57:Int))))) else (bif decide (c_1≥(65:Int)) then (decide (c_1≤(90:Int))||(decide (c_1≥(48:Int))&&decide (c_1≤(57:Int)))) else (decide (c_1≥(48:Int))&&decide (c_1≤(57:Int))))))] [] (ac (congrArg AV.bool (cfr gg_1 (ctr gg_7 (ort gg_8))):(.bool true:AV)=.bool (bif decide (c_1≥(97:Int)) then (decide (c_1≤(122:Int))||(bif decide (c_1≥(65:Int)) then (decide (c_1≤(90:Int))||(decide (c_1≥(48:Int))&&decide (c_1≤(57:Int)))) else (decide (c_1≥(48:Int))&&decide (c_1≤(57:Int))))) else (bif decide (c_1≥(65:Int)) then (decide (c_1≤(90:Int))||(decide (c_1≥(48:Int))&&decide (c_1≤(57:Int)))) else (decide (c_1≥(48:Int))&&decide (c_1≤(57:Int)))))) an))⟩
    ·rcases bft (decide (c_1≥(48:Int))) with gg_9 | gg_9
     ·refine rg [(3,Hg),(4,Hg),(5,Hf),(12,Ht),(13,Hf),(20,Ht),(21,Hf)] [0,26] [] 0 [Iu c_1,.bool (decide (c_1≤(57:Int)))] [] zD (ac gg_1 (ac gg_1 (ac gg_1 (ar false (ar false (ar false (ac gg_7 (ac gg_7 (ar false (ac gg_7 (ar false (ac gg_8 (ac gg_8 (ac gg_8 (ac gg_9 (ac gg_9 (ac gg_8 (ac gg_9 (ac gg_8 an))))))))))))))))))) ?_
      exact ⟨rfl,(sw [] [] [.s 0,.a 26 (.bool (bif decide (c_1≥(97:Int)) then (decide (c_1≤(122:Int))||(bif decide (c_1≥(65:Int)) then (decide (c_1≤(90:Int))||(decide (c_1≥(48:Int))&&decide (c_1≤(57:Int)))) else (decide (c_1≥(48:Int))&&decide (c_1≤(57:Int))))) else (bif decide (c_1≥(65:Int)) then (decide (c_1≤(90:Int))||(decide (c_1≥(48:Int))&&decide (c_1≤(57:Int)))) else (decide (c_1≥(48:Int))&&decide (c_1≤(57:Int))))))] [] (ac (congrArg AV.bool (cfr gg_1 (ctr gg_7 (orf gg_8 (vR gg_9 rfl)))):(.bool (decide (c_1≤(57:Int))):AV)=.bool (bif decide (c_1≥(97:Int)) then (decide (c_1≤(122:Int))||(bif decide (c_1≥(65:Int)) then (decide (c_1≤(90:Int))||(decide (c_1≥(48:Int))&&decide (c_1≤(57:Int)))) else (decide (c_1≥(48:Int))&&decide (c_1≤(57:Int))))) else (bif decide (c_1≥(65:Int)) then (decide (c_1≤(90:Int))||(decide (c_1≥(48:Int))&&decide (c_1≤(57:Int)))) else (decide (c_1≥(48:Int))&&decide (c_1≤(57:Int)))))) an))⟩
     ·refine rg [(3,Hg),(4,Hg),(5,Hf),(12,Ht),(13,Hf),(18,Hg),(19,Hg),(20,Hf),(21,Hf)] [0,26] [] 0 [Iu c_1,.bool false] [] zD (ac gg_1 (ac gg_1 (ac gg_1 (ar false (ar false (ar false (ac gg_7 (ac gg_7 (ar false (ac gg_7 (ar false (ac gg_8 (ac gg_8 (ac gg_8 (ac gg_9 (ac gg_9 (ac gg_8 (ac gg_9 (ac gg_8 an))))))))))))))))))) ?_
      exact ⟨rfl,(sw [] [] [.s 0,.a 26 (.bool (bif decide (c_1≥(97:Int)) then (decide (c_1≤(122:Int))||(bif decide (c_1≥(65:Int)) then (decide (c_1≤(90:Int))||(decide (c_1≥(48:Int))&&decide (c_1≤(57:Int)))) else (decide (c_1≥(48:Int))&&decide (c_1≤(57:Int))))) else (bif decide (c_1≥(65:Int)) then (decide (c_1≤(90:Int))||(decide (c_1≥(48:Int))&&decide (c_1≤(57:Int)))) else (decide (c_1≥(48:Int))&&decide (c_1≤(57:Int))))))] [] (ac (congrArg AV.bool (cfr gg_1 (ctr gg_7 (orf gg_8 (qL gg_9)))):(.bool false:AV)=.bool (bif decide (c_1≥(97:Int)) then (decide (c_1≤(122:Int))||(bif decide (c_1≥(65:Int)) then (decide (c_1≤(90:Int))||(decide (c_1≥(48:Int))&&decide (c_1≤(57:Int)))) else (decide (c_1≥(48:Int))&&decide (c_1≤(57:Int))))) else (bif decide (c_1≥(65:Int)) then (decide (c_1≤(90:Int))||(decide (c_1≥(48:Int))&&decide (c_1≤(57:Int)))) else (decide (c_1≥(48:Int))&&decide (c_1≤(57:Int)))))) an))⟩
   ·rcases bft (decide (c_1≥(48:Int))) with gg_10 | gg_10
    ·refine rg [(3,Hg),(4,Hg),(5,Hf),(10,Hg),(11,Hg),(12,Hf),(13,Hf),(20,Ht),(21,Hf)] [0,26] [] 0 [Iu c_1,.bool (decide (c_1≤(57:Int)))] [] zD (ac gg_1 (ac gg_1 (ac gg_1 (ar false (ar false (ar false (ac gg_7 (ac gg_7 (ar false (ac gg_7 (ar false (ar false (ar false (ar false (ac gg_10 (ac gg_10 (ar false (ac gg_10 (ar false an))))))))))))))))))) ?_
     exact ⟨rfl,(sw [] [] [.s 0,.a 26 (.bool (bif decide (c_1≥(97:Int)) then (decide (c_1≤(122:Int))||(bif decide (c_1≥(65:Int)) then (decide (c_1≤(90:Int))||(decide (c_1≥(48:Int))&&decide (c_1≤(57:Int)))) else (decide (c_1≥(48:Int))&&decide (c_1≤(57:Int))))) else (bif decide (c_1≥(65:Int)) then (decide (c_1≤(90:Int))||(decide (c_1≥(48:Int))&&decide (c_1≤(57:Int)))) else (decide (c_1≥(48:Int))&&decide (c_1≤(57:Int))))))] [] (ac (congrArg AV.bool (cfr gg_1 (cfr gg_7 (vR gg_10 rfl))):(.bool (decide (c_1≤(57:Int))):AV)=.bool (bif decide (c_1≥(97:Int)) then (decide (c_1≤(122:Int))||(bif decide (c_1≥(65:Int)) then (decide (c_1≤(90:Int))||(decide (c_1≥(48:Int))&&decide (c_1≤(57:Int)))) else (decide (c_1≥(48:Int))&&decide (c_1≤(57:Int))))) else (bif decide (c_1≥(65:Int)) then (decide (c_1≤(90:Int))||(decide (c_1≥(48:Int))&&decide (c_1≤(57:Int)))) else (decide (c_1≥(48:Int))&&decide (c_1≤(57:Int)))))) an))⟩
    ·refine rg [(3,Hg),(4,Hg),(5,Hf),(10,Hg),(11,Hg),(12,Hf),(13,Hf),(18,Hg),(19,Hg),(20,Hf),(21,Hf)] [0,26] [] 0 [Iu c_1,.bool false] [] zD (ac gg_1 (ac gg_1 (ac gg_1 (ar false (ar false (ar false (ac gg_7 (ac gg_7 (ar false (ac gg_7 (ar false (ar false (ar false (ar false (ac gg_10 (ac gg_10 (ar false (ac gg_10 (ar false an))))))))))))))))))) ?_
     exact ⟨rfl,(sw [] [] [.s 0,.a 26 (.bool (bif decide (c_1≥(97:Int)) then (decide (c_1≤(122:Int))||(bif decide (c_1≥(65:Int)) then (decide (c_1≤(90:Int))||(decide (c_1≥(48:Int))&&decide (c_1≤(57:Int)))) else (decide (c_1≥(48:Int))&&decide (c_1≤(57:Int))))) else (bif decide (c_1≥(65:Int)) then (decide (c_1≤(90:Int))||(decide (c_1≥(48:Int))&&decide (c_1≤(57:Int)))) else (decide (c_1≥(48:Int))&&decide (c_1≤(57:Int))))))] [] (ac (congrArg AV.bool (cfr gg_1 (cfr gg_7 (qL gg_10))):(.bool false:AV)=.bool (bif decide (c_1≥(97:Int)) then (decide (c_1≤(122:Int))||(bif decide (c_1≥(65:Int)) then (decide (c_1≤(90:Int))||(decide (c_1≥(48:Int))&&decide (c_1≤(57:Int)))) else (decide (c_1≥(48:Int))&&decide (c_1≤(57:Int))))) else (bif decide (c_1≥(65:Int)) then (decide (c_1≤(90:Int))||(decide (c_1≥(48:Int))&&decide (c_1≤(57:Int)))) else (decide (c_1≥(48:Int))&&decide (c_1≤(57:Int)))))) an))⟩
 refine cd 26 (bif decide (c_1≥(97:Int)) then (decide (c_1≤(122:Int))||(bif decide (c_1≥(65:Int)) then (decide (c_1≤(90:Int))||(decide (c_1≥(48:Int))&&decide (c_1≤(57:Int)))) else (decide (c_1≥(48:Int))&&decide (c_1≤(57:Int))))) else (bif decide (c_1≥(65:Int)) then (decide (c_1≤(90:Int))||(decide (c_1≥(48:Int))&&decide (c_1≤(57:Int)))) else (decide (c_1≥(48:Int))&&decide (c_1≤(57:Int))))) ?_ ?_
 ·intro g_1;replace h:=zN g_1 h
  refine sr [] [2] [] 0 [.bool true] [] zD an ?_
  refine rt ?_
  cases h
  exact ⟨.inr rfl,Nat.le_of_ble_eq_true rfl,by kernel_rfl⟩
 intro g_1;replace h:=zO g_1 h
 refine sk ?_
 refine sr [] [0,3] [] 0 [Iu c_1,.str ([95,46,58,47,60,62,36,42,126,45]:List Int)] [] zD an ?_
 refine sq ?_
 refine sr [] [0,3,4] [] 0 [Iu c_1,.str ([95,46,58,47,60,62,36,42,126,45]:List Int),Ii 0] [] zD an ?_
 obtain ⟨o_1,h_1,h⟩:=bind_some h
 refine yZ (K1:=(fun e st'=>match o_1 with | (.inl q0)=>e=.normal∧Sub 0 st' (mk [] [] 0) | (.inr q1)=>e=.ret∧vS prog Go.Proofs.Try.f92 0 [] (.bool q1) st')) ?_ ?_
 ·replace h:=h_1
  refine zT (id:=0) (by kernel_rfl) ?_
  refine wk [] [] [.s 0,.s 3,.s 4] [] [(0,Iu c_1),(3,.str ([95,46,58,47,60,62,36,42,126,45]:List Int)),(4,Ii 0)] [] an ?_
  refine yF (fun n st=>∃ (i_1:Int),st=mk [(0,Iu c_1),(3,.str ([95,46,58,47,60,62,36,42,126,45]:List Int)),(4,Ii i_1)] [] 0∧tY F c_1 n i_1=some o_1) F (by kernel_rfl) ⟨_,rfl,h⟩ ?_ ?_
  ·rintro _ ⟨_,_,h⟩;exact yM (h:(none:Option (Unit⊕Bool))=some o_1)
  rintro n_1 _ ⟨i_1,rfl,h⟩
  replace h:v6 F c_1 (tY F c_1 n_1) i_1=some o_1:=h
  unfold v6 at h
  refine sq ?_
  refine sr [] [0,3,4,30] [] 0 [Iu c_1,.str ([95,46,58,47,60,62,36,42,126,45]:List Int),Ii i_1,.bool (decide (i_1<(lN (([95,46,58,47,60,62,36,42,126,45]:List Int)))))] [] zD an ?_
  refine cd 30 (decide (i_1<(lN (([95,46,58,47,60,62,36,42,126,45]:List Int))))) ?_ ?_
  rotate_left
  ·intro g_2;replace h:=zO g_2 h
   refine yL (id:=0) (by kernel_rfl) ?_
   cases h
   exact ⟨rfl,(sw [] [] [] [] an)⟩
  intro g_2;replace h:=zN g_2 h
  refine sk ?_
  refine sq ?_
  refine zT (id:=1) (by kernel_rfl) ?_
  refine sq ?_
  obtain ⟨c_2,h_2,h⟩:=bind_some h
  refine rg [(2,{ z:=c_2 })] [0,3,4,37] [] 0 [Iu c_1,.str ([95,46,58,47,60,62,36,42,126,45]:List Int),Ii i_1,.bool (c_2==c_1)] [] zD (ac h_2 an) ?_
  refine cd 37 (c_2==c_1) ?_ ?_
  rotate_left
  ·intro g_3;replace h:=zO g_3 h
   refine sk ?_
   refine rg [] [0,3,4] [] 0 [Iu c_1,.str ([95,46,58,47,60,62,36,42,126,45]:List Int),Ii (zK (i_1+(1:Int)))] [] zD an ?_
   exact ⟨_,(sw [] [] [.s 0,.s 3,.s 4] [] an),_,rfl,h⟩
  intro g_3;replace h:=zN g_3 h
  refine sr [] [2] [] 0 [.bool true] [] zD an ?_
  refine rt ?_
  cases h
  exact ⟨rfl,Nat.le_of_ble_eq_true rfl,by kernel_rfl⟩
 intro e st1 hk
 rcases o_1 with q_1 | q_2
 rotate_left
 ·obtain ⟨rfl,hf⟩:=hk
  cases h
  exact ⟨st1,Sub.refl _ _,.inr rfl,hf⟩
 obtain ⟨rfl,hs⟩:=hk
 refine ⟨_,hs,?_⟩
 refine sr [] [2] [] 0 [.bool false] [] zD an ?_
 refine rt ?_
 cases h
 exact ⟨.inr rfl,Nat.le_of_ble_eq_true rfl,by kernel_rfl⟩
theorem zBx (F:Nat) (s_1:List Int) (r:Int) (h:nM F s_1=some r):zM prog 72 [] [] [.str s_1] [] (Ii r):=by
 refine zS (fn:=Go.Proofs.Try.f72) (code:=z6 Go.Proofs.Try.f72) (by kernel_rfl) (by kernel_rfl) (Nat.le_of_ble_eq_true (by kernel_rfl)) ?_
 unfold nM at h
 refine sr [] [0] [] 0 [.str s_1] [] zD an ?_
 refine sq ?_
 refine sq ?_
 refine zX (mk [(0,.str s_1),(11,.bool (decide ((lN (s_1))<(1:Int))||decide ((lN (s_1))>(40:Int))))] [] 0) ?_ ?_
 ·rcases bft (decide ((lN (s_1))<(1:Int))) with gg_1 | gg_1
  ·refine rg [(4,Hg),(5,Hg),(6,Hg),(7,Ht)] [0,11] [] 0 [.str s_1,.bool true] [] zD (ac gg_1 (ac gg_1 (ac gg_1 (ac gg_1 an)))) ?_
   exact ⟨rfl,(sw [] [] [.s 0,.a 11 (.bool (decide ((lN (s_1))<(1:Int))||decide ((lN (s_1))>(40:Int))))] [] (ac (congrArg AV.bool (ort gg_1):(.bool true:AV)=.bool (decide ((lN (s_1))<(1:Int))||decide ((lN (s_1))>(40:Int)))) an))⟩
  ·refine rg [(7,Hf)] [0,11] [] 0 [.str s_1,.bool (decide ((lN (s_1))>(40:Int)))] [] zD (ac gg_1 (ac gg_1 (ac gg_1 (ac gg_1 an)))) ?_
   exact ⟨rfl,(sw [] [] [.s 0,.a 11 (.bool (decide ((lN (s_1))<(1:Int))||decide ((lN (s_1))>(40:Int))))] [] (ac (congrArg AV.bool (orf gg_1 rfl):(.bool (decide ((lN (s_1))>(40:Int))):AV)=.bool (decide ((lN (s_1))<(1:Int))||decide ((lN (s_1))>(40:Int)))) an))⟩
 refine cd 11 (decide ((lN (s_1))<(1:Int))||decide ((lN (s_1))>(40:Int))) ?_ ?_
 ·intro g_1;replace h:=zN g_1 h
  refine sr [] [2] [] 0 [Ii 3] [] zD an ?_
  refine rt ?_
  cases h
  exact ⟨.inr rfl,Nat.le_of_ble_eq_true rfl,by kernel_rfl⟩
 intro g_1;replace h:=zO g_1 h
 refine sk ?_
 refine sq ?_
 refine sr [] [0,3] [] 0 [.str s_1,Ii 0] [] zD an ?_
 obtain ⟨o_1,h_1,h⟩:=bind_some h
 refine yZ (K1:=(fun e st'=>match o_1 with | (.inl q0)=>e=.normal∧Sub 0 st' (mk [] [] 0) | (.inr q1)=>e=.ret∧vS prog Go.Proofs.Try.f72 0 [] (Ii q1) st')) ?_ ?_
 ·replace h:=h_1
  refine zT (id:=0) (by kernel_rfl) ?_
  refine wk [] [] [.s 0,.s 3] [] [(0,.str s_1),(3,Ii 0)] [] an ?_
  refine yF (fun n st=>∃ (i_1:Int),st=mk [(0,.str s_1),(3,Ii i_1)] [] 0∧zAs F s_1 n i_1=some o_1) F (by kernel_rfl) ⟨_,rfl,h⟩ ?_ ?_
  ·rintro _ ⟨_,_,h⟩;exact yM (h:(none:Option (Unit⊕Int))=some o_1)
  rintro n_1 _ ⟨i_1,rfl,h⟩
  replace h:jT F s_1 (zAs F s_1 n_1) i_1=some o_1:=h
  unfold jT at h
  refine sq ?_
  refine sr [] [0,3,15] [] 0 [.str s_1,Ii i_1,.bool (decide (i_1<(lN (s_1))))] [] zD an ?_
  refine cd 15 (decide (i_1<(lN (s_1)))) ?_ ?_
  rotate_left
  ·intro g_2;replace h:=zO g_2 h
   refine yL (id:=0) (by kernel_rfl) ?_
   cases h
   exact ⟨rfl,(sw [] [] [] [] an)⟩
  intro g_2;replace h:=zN g_2 h
  refine sk ?_
  refine sq ?_
  refine zT (id:=1) (by kernel_rfl) ?_
  refine sq ?_
  obtain ⟨c_1,h_2,h⟩:=bind_some h
  obtain ⟨r_1,h_3,h⟩:=bind_some h
  refine rg [(2,{ z:=c_1 }),(3,{ av:=.bool r_1,l:=[Iu c_1] })] [0,3,22] [] 0 [.str s_1,Ii i_1,.bool (!r_1)] [] zD (ac h_2 (ar ([Iu c_1]:List AV) (ac (rfl:([]:List zP)=[]) (ac (zIp F c_1 r_1 h_3:zM prog 92 [] [] [Iu c_1] [] (.bool r_1)) an)))) ?_
  refine cd 22 (!r_1) ?_ ?_
  rotate_left
  ·intro g_3;replace h:=zO g_3 h
   refine sk ?_
   refine rg [] [0,3] [] 0 [.str s_1,Ii (zK (i_1+(1:Int)))] [] zD an ?_
   exact ⟨_,(sw [] [] [.s 0,.s 3] [] an),_,rfl,h⟩
  intro g_3;replace h:=zN g_3 h
  refine sr [] [2] [] 0 [Ii 3] [] zD an ?_
  refine rt ?_
  cases h
  exact ⟨rfl,Nat.le_of_ble_eq_true rfl,by kernel_rfl⟩
 intro e st1 hk
 rcases o_1 with q_1 | q_2
 rotate_left
 ·obtain ⟨rfl,hf⟩:=hk
  cases h
  exact ⟨st1,Sub.refl _ _,.inr rfl,hf⟩
 obtain ⟨rfl,hs⟩:=hk
 refine ⟨_,hs,?_⟩
 refine sr [] [2] [] 0 [Ii 0] [] zD an ?_
 refine rt ?_
 cases h
 exact ⟨.inr rfl,Nat.le_of_ble_eq_true rfl,by kernel_rfl⟩
theorem zDX (F:Nat) (l_1:List (List Int)) (r:Int) (h:zAd F l_1=some r):zM prog 73 [] [] [.sl false 1 (Ms l_1)] [] (Ii r):=by
 refine zS (fn:=Go.Proofs.Try.f73) (code:=z6 Go.Proofs.Try.f73) (by kernel_rfl) (by kernel_rfl) (Nat.le_of_ble_eq_true (by kernel_rfl)) ?_
 unfold zAd at h
 refine sr [] [0] [] 0 [.sl false 1 (Ms l_1)] [] zD an ?_
 refine sq ?_
 refine sr [(1,{ n:=(l_1).length })] [0,6] [] 0 [.sl false 1 (Ms l_1),.bool (decide ((lN (l_1))>(32:Int)))] [] zD (ac (zY _:((Ms l_1)).length=(l_1).length) an) ?_
 refine cd 6 (decide ((lN (l_1))>(32:Int))) ?_ ?_
 ·intro g_1;replace h:=zN g_1 h
  refine sr [] [2] [] 0 [Ii 7] [] zD an ?_
  refine rt ?_
  cases h
  exact ⟨.inr rfl,Nat.le_of_ble_eq_true rfl,by kernel_rfl⟩
 intro g_1;replace h:=zO g_1 h
 refine sk ?_
 refine sq ?_
 refine sr [] [0,3] [] 0 [.sl false 1 (Ms l_1),Ii 0] [] zD an ?_
 obtain ⟨o_1,h_1,h⟩:=bind_some h
 refine yZ (K1:=(fun e st'=>match o_1 with | (.inl q0)=>e=.normal∧Sub 0 st' (mk [] [] 0) | (.inr q1)=>e=.ret∧vS prog Go.Proofs.Try.f73 0 [] (Ii q1) st')) ?_ ?_
 ·replace h:=h_1
  refine zT (id:=0) (by kernel_rfl) ?_
  refine wk [] [] [.s 0,.s 3] [] [(0,.sl false 1 (Ms l_1)),(3,Ii 0)] [] an ?_
  refine yF (fun n st=>∃ (i_1:Int),st=mk [(0,.sl false 1 (Ms l_1)),(3,Ii i_1)] [] 0∧pS F l_1 n i_1=some o_1) F (by kernel_rfl) ⟨_,rfl,h⟩ ?_ ?_
  ·rintro _ ⟨_,_,h⟩;exact yM (h:(none:Option (Unit⊕Int))=some o_1)
  rintro n_1 _ ⟨i_1,rfl,h⟩
  replace h:qO F l_1 (pS F l_1 n_1) i_1=some o_1:=h
  unfold qO at h
  refine sq ?_
  refine sr [(2,{ n:=(l_1).length })] [0,3,10] [] 0 [.sl false 1 (Ms l_1),Ii i_1,.bool (decide (i_1<(lN (l_1))))] [] zD (ac (zY _:((Ms l_1)).length=(l_1).length) an) ?_
  refine cd 10 (decide (i_1<(lN (l_1)))) ?_ ?_
  rotate_left
  ·intro g_2;replace h:=zO g_2 h
   refine yL (id:=0) (by kernel_rfl) ?_
   cases h
   exact ⟨rfl,(sw [] [] [] [] an)⟩
  intro g_2;replace h:=zN g_2 h
  refine sk ?_
  refine sq ?_
  refine zT (id:=1) (by kernel_rfl) ?_
  refine sq ?_
  obtain ⟨x_1,h_2,h⟩:=bind_some h
  obtain ⟨r_1,h_3,h⟩:=bind_some h
  refine rg [(2,{ av:=.str x_1 }),(4,{ av:=Ii r_1,l:=[.str x_1] })] [0,3,18] [] 0 [.sl false 1 (Ms l_1),Ii i_1,.bool (r_1 != (0:Int))] [] zD (ac (yO h_2:xD (Ms l_1) i_1=some (.str x_1)) (ar ([.str x_1]:List AV) (ac (rfl:([]:List zP)=[]) (ac (zBx F x_1 r_1 h_3:zM prog 72 [] [] [.str x_1] [] (Ii r_1)) an)))) ?_
  refine cd 18 (r_1 != (0:Int)) ?_ ?_
  rotate_left
  ·intro g_3;replace h:=zO g_3 h
   refine sk ?_
   refine rg [] [0,3] [] 0 [.sl false 1 (Ms l_1),Ii (zK (i_1+(1:Int)))] [] zD an ?_
   exact ⟨_,(sw [] [] [.s 0,.s 3] [] an),_,rfl,h⟩
  intro g_3;replace h:=zN g_3 h
  refine sr [] [2] [] 0 [Ii 3] [] zD an ?_
  refine rt ?_
  cases h
  exact ⟨rfl,Nat.le_of_ble_eq_true rfl,by kernel_rfl⟩
 intro e st1 hk
 rcases o_1 with q_1 | q_2
 rotate_left
 ·obtain ⟨rfl,hf⟩:=hk
  cases h
  exact ⟨st1,Sub.refl _ _,.inr rfl,hf⟩
 obtain ⟨rfl,hs⟩:=hk
 refine ⟨_,hs,?_⟩
 refine sr [] [2] [] 0 [Ii 0] [] zD an ?_
 refine rt ?_
 cases h
 exact ⟨.inr rfl,Nat.le_of_ble_eq_true rfl,by kernel_rfl⟩
theorem jA (n_1:Int) (low_1:Int) (high_1:Int) (r:Int) (h:tO n_1 low_1 high_1=some r):zM prog 93 [] [] [Ii n_1,Ii low_1,Ii high_1] [] (Ii r):=by
 refine zS (fn:=Go.Proofs.Try.f93) (code:=z6 Go.Proofs.Try.f93) (by kernel_rfl) (by kernel_rfl) (Nat.le_of_ble_eq_true (by kernel_rfl)) ?_
 unfold tO at h
 refine sr [] [0,1,2] [] 0 [Ii n_1,Ii low_1,Ii high_1] [] zD an ?_
 refine sq ?_
 refine sq ?_
 refine zX (mk [(14,.bool (decide (n_1<low_1)||decide (n_1>high_1)))] [] 0) ?_ ?_
 ·rcases bft (decide (n_1<low_1)) with gg_1 | gg_1
  ·refine rg [(4,Hg),(5,Hg),(6,Hg),(7,Ht)] [14] [] 0 [.bool true] [] zD (ac gg_1 (ac gg_1 (ac gg_1 (ac gg_1 an)))) ?_
   exact ⟨rfl,(sw [] [] [.a 14 (.bool (decide (n_1<low_1)||decide (n_1>high_1)))] [] (ac (congrArg AV.bool (ort gg_1):(.bool true:AV)=.bool (decide (n_1<low_1)||decide (n_1>high_1))) an))⟩
  ·refine rg [(7,Hf)] [14] [] 0 [.bool (decide (n_1>high_1))] [] zD (ac gg_1 (ac gg_1 (ac gg_1 (ac gg_1 an)))) ?_
   exact ⟨rfl,(sw [] [] [.a 14 (.bool (decide (n_1<low_1)||decide (n_1>high_1)))] [] (ac (congrArg AV.bool (orf gg_1 rfl):(.bool (decide (n_1>high_1)):AV)=.bool (decide (n_1<low_1)||decide (n_1>high_1))) an))⟩
 refine cd 14 (decide (n_1<low_1)||decide (n_1>high_1)) ?_ ?_
 ·intro g_1;replace h:=zN g_1 h
  refine sr [] [6] [] 0 [Ii 2] [] zD an ?_
  refine rt ?_
  cases h
  exact ⟨.inr rfl,Nat.le_of_ble_eq_true rfl,by kernel_rfl⟩
 intro g_1;replace h:=zO g_1 h
 refine sk ?_
 refine sr [] [6] [] 0 [Ii 0] [] zD an ?_
 refine rt ?_
 cases h
 exact ⟨.inr rfl,Nat.le_of_ble_eq_true rfl,by kernel_rfl⟩
theorem zHp (e_1:zA) (r:Int) (h:zAr e_1=some r):zM prog 74 [] [] [zB e_1] [] (Ii r):=by
 refine zS (fn:=Go.Proofs.Try.f74) (code:=z6 Go.Proofs.Try.f74) (by kernel_rfl) (by kernel_rfl) (Nat.le_of_ble_eq_true (by kernel_rfl)) ?_
 unfold zAr at h
 refine sr [(0,{ id:=0 })] [1] [0] 1 [Pp 0] [Vb 33 (zJ e_1)] zD an ?_
 refine sq ?_
 refine sr [] [1,6] [0] 1 [Pp 0,Ii e_1.Kind] [Vb 33 (zJ e_1)] zD an ?_
 obtain ⟨o_1,h_1,h⟩:=bind_some h
 refine yZ (K1:=(fun e st'=>match o_1 with | (.inl q0)=>e=.normal∧Sub 0 st' (mk [(1,Pp 0)] [(0,Vb 33 (zJ e_1))] 1) | (.inr q1)=>e=.ret∧vS prog Go.Proofs.Try.f74 0 [] (Ii q1) st')) ?_ ?_
 ·replace h:=h_1
  refine zT (id:=0) (by kernel_rfl) ?_
  refine sq ?_
  refine sr [] [1,6,7] [0] 1 [Pp 0,Ii e_1.Kind,.bool (e_1.Kind==(1:Int))] [Vb 33 (zJ e_1)] zD an ?_
  obtain ⟨o_2,h_2,h⟩:=bind_some h
  refine zX (mk [(1,Pp 0),(6,Ii e_1.Kind),(7,.bool o_2)] [(0,Vb 33 (zJ e_1))] 1) ?_ ?_
  ·replace h:=h_2
   refine cd 7 (e_1.Kind==(1:Int)) ?_ ?_
   ·intro g_1;replace h:=zN g_1 h
    refine sk ?_
    cases h
    exact ⟨rfl,(sw [0] [] [.s 1,.s 6,.s 7] [.s 0] an)⟩
   intro g_1;replace h:=zO g_1 h
   refine sr [] [1,6,7] [0] 1 [Pp 0,Ii e_1.Kind,.bool (e_1.Kind==(2:Int))] [Vb 33 (zJ e_1)] zD an ?_
   refine cd 7 (e_1.Kind==(2:Int)) ?_ ?_
   ·intro g_2;replace h:=zN g_2 h
    refine sk ?_
    cases h
    exact ⟨rfl,(sw [0] [] [.s 1,.s 6,.s 7] [.s 0] an)⟩
   intro g_2;replace h:=zO g_2 h
   refine rg [] [1,6,7] [0] 1 [Pp 0,Ii e_1.Kind,.bool (e_1.Kind==(3:Int))] [Vb 33 (zJ e_1)] zD an ?_
   cases h
   exact ⟨rfl,(sw [0] [] [.s 1,.s 6,.s 7] [.s 0] an)⟩
  refine cd 7 o_2 ?_ ?_
  ·intro g_3;replace h:=zN g_3 h
   refine sr [] [2] [] 1 [Ii 0] [] zD an ?_
   refine rt ?_
   cases h
   exact ⟨rfl,Nat.le_of_ble_eq_true rfl,by kernel_rfl⟩
  intro g_3;replace h:=zO g_3 h
  refine sr [] [1,6,11] [0] 1 [Pp 0,Ii e_1.Kind,.bool (e_1.Kind==(4:Int))] [Vb 33 (zJ e_1)] zD an ?_
  refine cd 11 (e_1.Kind==(4:Int)) ?_ ?_
  ·intro g_4;replace h:=zN g_4 h
   refine sq ?_
   obtain ⟨r_1,h_3,h⟩:=bind_some h
   refine rg [(2,{ av:=Ii r_1,l:=[Ii e_1.N,Ii (-1000000000000000),Ii 1000000000000000] })] [2] [] 1 [Ii r_1] [] zD (ar ([Ii e_1.N,Ii (-1000000000000000),Ii 1000000000000000]:List AV) (ac (rfl:([]:List zP)=[]) (ac (jA e_1.N (-1000000000000000:Int) (1000000000000000:Int) r_1 h_3:zM prog 93 [] [] [Ii e_1.N,Ii (-1000000000000000),Ii 1000000000000000] [] (Ii r_1)) an))) ?_
   refine rt ?_
   cases h
   exact ⟨rfl,Nat.le_of_ble_eq_true rfl,by kernel_rfl⟩
  intro g_4;replace h:=zO g_4 h
  refine sr [] [1,6,16] [0] 1 [Pp 0,Ii e_1.Kind,.bool (e_1.Kind==(5:Int))] [Vb 33 (zJ e_1)] zD an ?_
  refine cd 16 (e_1.Kind==(5:Int)) ?_ ?_
  ·intro g_5;replace h:=zN g_5 h
   refine sq ?_
   obtain ⟨r_2,h_4,h⟩:=bind_some h
   refine rg [(2,{ av:=Ii r_2,l:=[Ii e_1.N,Ii 1,Ii 1000000000000] })] [2] [] 1 [Ii r_2] [] zD (ar ([Ii e_1.N,Ii 1,Ii 1000000000000]:List AV) (ac (rfl:([]:List zP)=[]) (ac (jA e_1.N (1:Int) (1000000000000:Int) r_2 h_4:zM prog 93 [] [] [Ii e_1.N,Ii 1,Ii 1000000000000] [] (Ii r_2)) an))) ?_
   refine rt ?_
   cases h
   exact ⟨rfl,Nat.le_of_ble_eq_true rfl,by kernel_rfl⟩
  intro g_5;replace h:=zO g_5 h
  refine sr [] [1,6,21] [0] 1 [Pp 0,Ii e_1.Kind,.bool (e_1.Kind==(8:Int))] [Vb 33 (zJ e_1)] zD an ?_
  refine cd 21 (e_1.Kind==(8:Int)) ?_ ?_
  ·intro g_6;replace h:=zN g_6 h
   refine sq ?_
   obtain ⟨r_3,h_5,h⟩:=bind_some h
   refine rg [(2,{ av:=Ii r_3,l:=[Ii e_1.N,Ii 0,Ii 63] })] [2] [] 1 [Ii r_3] [] zD (ar ([Ii e_1.N,Ii 0,Ii 63]:List AV) (ac (rfl:([]:List zP)=[]) (ac (jA e_1.N (0:Int) (63:Int) r_3 h_5:zM prog 93 [] [] [Ii e_1.N,Ii 0,Ii 63] [] (Ii r_3)) an))) ?_
   refine rt ?_
   cases h
   exact ⟨rfl,Nat.le_of_ble_eq_true rfl,by kernel_rfl⟩
  intro g_6;replace h:=zO g_6 h
  refine sr [] [1,26] [0] 1 [Pp 0,.bool (e_1.Kind==(9:Int))] [Vb 33 (zJ e_1)] zD an ?_
  refine cd 26 (e_1.Kind==(9:Int)) ?_ ?_
  rotate_left
  ·intro g_7;replace h:=zO g_7 h
   refine sk ?_
   cases h
   exact ⟨rfl,(sw [0] [] [.s 1] [.s 0] an)⟩
  intro g_7;replace h:=zN g_7 h
  refine sq ?_
  obtain ⟨r_4,h_6,h⟩:=bind_some h
  refine rg [(2,{ av:=Ii r_4,l:=[Ii e_1.N,Ii 0,Ii 3] })] [1,3] [0] 1 [Pp 0,Ii r_4] [Vb 33 (zJ e_1)] zD (ar ([Ii e_1.N,Ii 0,Ii 3]:List AV) (ac (rfl:([]:List zP)=[]) (ac (jA e_1.N (0:Int) (3:Int) r_4 h_6:zM prog 93 [] [] [Ii e_1.N,Ii 0,Ii 3] [] (Ii r_4)) an))) ?_
  refine sq ?_
  refine sq ?_
  refine zX (mk [(1,Pp 0),(3,Ii r_4),(37,.bool ((r_4==(0:Int))&&(e_1.N==(2:Int))))] [(0,Vb 33 (zJ e_1))] 1) ?_ ?_
  ·rcases bft (r_4==(0:Int)) with gg_3 | gg_3
   ·refine rg [(6,Ht)] [1,3,37] [0] 1 [Pp 0,Ii r_4,.bool (e_1.N==(2:Int))] [Vb 33 (zJ e_1)] zD (ac gg_3 (ac gg_3 (ac gg_3 (ac gg_3 an)))) ?_
    exact ⟨rfl,(sw [0] [] [.s 1,.s 3,.a 37 (.bool ((r_4==(0:Int))&&(e_1.N==(2:Int))))] [.s 0] (ac (congrArg AV.bool (vR gg_3 rfl):(.bool (e_1.N==(2:Int)):AV)=.bool ((r_4==(0:Int))&&(e_1.N==(2:Int)))) an))⟩
   ·refine rg [(3,Hg),(4,Hg),(5,Hg),(6,Hf)] [1,3,37] [0] 1 [Pp 0,Ii r_4,.bool false] [Vb 33 (zJ e_1)] zD (ac gg_3 (ac gg_3 (ac gg_3 (ac gg_3 an)))) ?_
    exact ⟨rfl,(sw [0] [] [.s 1,.s 3,.a 37 (.bool ((r_4==(0:Int))&&(e_1.N==(2:Int))))] [.s 0] (ac (congrArg AV.bool (qL gg_3):(.bool false:AV)=.bool ((r_4==(0:Int))&&(e_1.N==(2:Int)))) an))⟩
  refine cd 37 ((r_4==(0:Int))&&(e_1.N==(2:Int))) ?_ ?_
  ·intro g_8;replace h:=zN g_8 h
   refine sq ?_
   obtain ⟨r_5,h_7,h⟩:=bind_some h
   refine rg [(2,{ av:=Ii r_5,l:=[Ii e_1.M,Ii 0,Ii 1000000000000000] })] [2] [] 1 [Ii r_5] [] zD (ar ([Ii e_1.M,Ii 0,Ii 1000000000000000]:List AV) (ac (rfl:([]:List zP)=[]) (ac (jA e_1.M (0:Int) (1000000000000000:Int) r_5 h_7:zM prog 93 [] [] [Ii e_1.M,Ii 0,Ii 1000000000000000] [] (Ii r_5)) an))) ?_
   refine rt ?_
   cases h
   exact ⟨rfl,Nat.le_of_ble_eq_true rfl,by kernel_rfl⟩
  intro g_8;replace h:=zO g_8 h
  refine sk ?_
  refine sq ?_
  refine sq ?_
  refine zX (mk [(3,Ii r_4),(47,.bool ((r_4==(0:Int))&&(e_1.M != (0:Int))))] [] 0) ?_ ?_
  ·rcases bft (r_4==(0:Int)) with gg_4 | gg_4
   ·refine rg [(6,Ht)] [3,47] [] 1 [Ii r_4,.bool (e_1.M != (0:Int))] [] zD (ac gg_4 (ac gg_4 (ac gg_4 (ac gg_4 an)))) ?_
    exact ⟨rfl,(sw [] [] [.s 3,.a 47 (.bool ((r_4==(0:Int))&&(e_1.M != (0:Int))))] [] (ac (congrArg AV.bool (vR gg_4 rfl):(.bool (e_1.M != (0:Int)):AV)=.bool ((r_4==(0:Int))&&(e_1.M != (0:Int)))) an))⟩
   ·refine rg [(3,Hg),(4,Hg),(5,Hg),(6,Hf)] [3,47] [] 1 [Ii r_4,.bool false] [] zD (ac gg_4 (ac gg_4 (ac gg_4 (ac gg_4 an)))) ?_
    exact ⟨rfl,(sw [] [] [.s 3,.a 47 (.bool ((r_4==(0:Int))&&(e_1.M != (0:Int))))] [] (ac (congrArg AV.bool (qL gg_4):(.bool false:AV)=.bool ((r_4==(0:Int))&&(e_1.M != (0:Int)))) an))⟩
  refine cd 47 ((r_4==(0:Int))&&(e_1.M != (0:Int))) ?_ ?_
  ·intro g_9;replace h:=zN g_9 h
   refine sr [] [2] [] 0 [Ii 1] [] zD an ?_
   refine rt ?_
   cases h
   exact ⟨rfl,Nat.le_of_ble_eq_true rfl,by kernel_rfl⟩
  intro g_9;replace h:=zO g_9 h
  refine sk ?_
  refine sr [] [2] [] 0 [Ii r_4] [] zD an ?_
  refine rt ?_
  cases h
  exact ⟨rfl,Nat.le_of_ble_eq_true rfl,by kernel_rfl⟩
 intro e st1 hk
 rcases o_1 with q_1 | q_2
 rotate_left
 ·obtain ⟨rfl,hf⟩:=hk
  cases h
  exact ⟨st1,Sub.refl _ _,.inr rfl,hf⟩
 obtain ⟨rfl,hs⟩:=hk
 refine ⟨_,hs,?_⟩
 refine sq ?_
 obtain ⟨r_6,h_8,h⟩:=bind_some h
 refine rg [(2,{ av:=Ii r_6,l:=[Ii e_1.N,Ii 0,Ii 1000000000000000] })] [1,4] [0] 1 [Pp 0,Ii r_6] [Vb 33 (zJ e_1)] zD (ar ([Ii e_1.N,Ii 0,Ii 1000000000000000]:List AV) (ac (rfl:([]:List zP)=[]) (ac (jA e_1.N (0:Int) (1000000000000000:Int) r_6 h_8:zM prog 93 [] [] [Ii e_1.N,Ii 0,Ii 1000000000000000] [] (Ii r_6)) an))) ?_
 refine sq ?_
 refine sq ?_
 refine zX (mk [(1,Pp 0),(4,Ii r_6),(58,.bool ((r_6==(0:Int))&&(e_1.Kind==(11:Int))))] [(0,Vb 33 (zJ e_1))] 1) ?_ ?_
 ·rcases bft (r_6==(0:Int)) with gg_5 | gg_5
  ·refine rg [(6,Ht)] [1,4,58] [0] 1 [Pp 0,Ii r_6,.bool (e_1.Kind==(11:Int))] [Vb 33 (zJ e_1)] zD (ac gg_5 (ac gg_5 (ac gg_5 (ac gg_5 an)))) ?_
   exact ⟨rfl,(sw [0] [] [.s 1,.s 4,.a 58 (.bool ((r_6==(0:Int))&&(e_1.Kind==(11:Int))))] [.s 0] (ac (congrArg AV.bool (vR gg_5 rfl):(.bool (e_1.Kind==(11:Int)):AV)=.bool ((r_6==(0:Int))&&(e_1.Kind==(11:Int)))) an))⟩
  ·refine rg [(3,Hg),(4,Hg),(5,Hg),(6,Hf)] [1,4,58] [0] 1 [Pp 0,Ii r_6,.bool false] [Vb 33 (zJ e_1)] zD (ac gg_5 (ac gg_5 (ac gg_5 (ac gg_5 an)))) ?_
   exact ⟨rfl,(sw [0] [] [.s 1,.s 4,.a 58 (.bool ((r_6==(0:Int))&&(e_1.Kind==(11:Int))))] [.s 0] (ac (congrArg AV.bool (qL gg_5):(.bool false:AV)=.bool ((r_6==(0:Int))&&(e_1.Kind==(11:Int)))) an))⟩
 refine cd 58 ((r_6==(0:Int))&&(e_1.Kind==(11:Int))) ?_ ?_
 ·intro g_10;replace h:=zN g_10 h
  refine sq ?_
  obtain ⟨r_7,h_9,h⟩:=bind_some h
  refine rg [(2,{ av:=Ii r_7,l:=[Ii e_1.M,Ii 1,Ii 1000000000000] })] [2] [] 1 [Ii r_7] [] zD (ar ([Ii e_1.M,Ii 1,Ii 1000000000000]:List AV) (ac (rfl:([]:List zP)=[]) (ac (jA e_1.M (1:Int) (1000000000000:Int) r_7 h_9:zM prog 93 [] [] [Ii e_1.M,Ii 1,Ii 1000000000000] [] (Ii r_7)) an))) ?_
  refine rt ?_
  cases h
  exact ⟨.inr rfl,Nat.le_of_ble_eq_true rfl,by kernel_rfl⟩
 intro g_10;replace h:=zO g_10 h
 refine sk ?_
 refine sr [] [2] [] 1 [Ii r_6] [] zD an ?_
 refine rt ?_
 cases h
 exact ⟨.inr rfl,Nat.le_of_ble_eq_true rfl,by kernel_rfl⟩
theorem zCD (F:Nat) (e_1:zA) (r:Int) (h:pH F e_1=some r):zM prog 47 [] [] [zB e_1] [] (Ii r):=by
 refine zS (fn:=Go.Proofs.Try.f47) (code:=z6 Go.Proofs.Try.f47) (by kernel_rfl) (by kernel_rfl) (Nat.le_of_ble_eq_true (by kernel_rfl)) ?_
 unfold pH at h
 refine sr [(0,{ id:=0 })] [1] [0] 1 [Pp 0] [Vb 33 (zJ e_1)] zD an ?_
 refine sq ?_
 refine sq ?_
 refine zX (mk [(1,Pp 0),(15,.bool (decide (e_1.At<(0:Int))||decide (e_1.At>(1000000000000:Int))))] [(0,Vb 33 (zJ e_1))] 1) ?_ ?_
 ·rcases bft (decide (e_1.At<(0:Int))) with gg_1 | gg_1
  ·refine rg [(4,Hg),(5,Hg),(6,Hg),(7,Ht)] [1,15] [0] 1 [Pp 0,.bool true] [Vb 33 (zJ e_1)] zD (ac gg_1 (ac gg_1 (ac gg_1 (ac gg_1 an)))) ?_
   exact ⟨rfl,(sw [0] [] [.s 1,.a 15 (.bool (decide (e_1.At<(0:Int))||decide (e_1.At>(1000000000000:Int))))] [.s 0] (ac (congrArg AV.bool (ort gg_1):(.bool true:AV)=.bool (decide (e_1.At<(0:Int))||decide (e_1.At>(1000000000000:Int)))) an))⟩
  ·refine rg [(7,Hf)] [1,15] [0] 1 [Pp 0,.bool (decide (e_1.At>(1000000000000:Int)))] [Vb 33 (zJ e_1)] zD (ac gg_1 (ac gg_1 (ac gg_1 (ac gg_1 an)))) ?_
   exact ⟨rfl,(sw [0] [] [.s 1,.a 15 (.bool (decide (e_1.At<(0:Int))||decide (e_1.At>(1000000000000:Int))))] [.s 0] (ac (congrArg AV.bool (orf gg_1 rfl):(.bool (decide (e_1.At>(1000000000000:Int))):AV)=.bool (decide (e_1.At<(0:Int))||decide (e_1.At>(1000000000000:Int)))) an))⟩
 refine cd 15 (decide (e_1.At<(0:Int))||decide (e_1.At>(1000000000000:Int))) ?_ ?_
 ·intro g_1;replace h:=zN g_1 h
  refine sr [] [2] [] 1 [Ii 2] [] zD an ?_
  refine rt ?_
  cases h
  exact ⟨.inr rfl,Nat.le_of_ble_eq_true rfl,by kernel_rfl⟩
 intro g_1;replace h:=zO g_1 h
 refine sk ?_
 refine sq ?_
 refine sq ?_
 refine zX (mk [(1,Pp 0),(23,.bool (decide (e_1.Kind<(1:Int))||decide (e_1.Kind>(12:Int))))] [(0,Vb 33 (zJ e_1))] 1) ?_ ?_
 ·rcases bft (decide (e_1.Kind<(1:Int))) with gg_2 | gg_2
  ·refine rg [(4,Hg),(5,Hg),(6,Hg),(7,Ht)] [1,23] [0] 1 [Pp 0,.bool true] [Vb 33 (zJ e_1)] zD (ac gg_2 (ac gg_2 (ac gg_2 (ac gg_2 an)))) ?_
   exact ⟨rfl,(sw [0] [] [.s 1,.a 23 (.bool (decide (e_1.Kind<(1:Int))||decide (e_1.Kind>(12:Int))))] [.s 0] (ac (congrArg AV.bool (ort gg_2):(.bool true:AV)=.bool (decide (e_1.Kind<(1:Int))||decide (e_1.Kind>(12:Int)))) an))⟩
  ·refine rg [(7,Hf)] [1,23] [0] 1 [Pp 0,.bool (decide (e_1.Kind>(12:Int)))] [Vb 33 (zJ e_1)] zD (ac gg_2 (ac gg_2 (ac gg_2 (ac gg_2 an)))) ?_
   exact ⟨rfl,(sw [0] [] [.s 1,.a 23 (.bool (decide (e_1.Kind<(1:Int))||decide (e_1.Kind>(12:Int))))] [.s 0] (ac (congrArg AV.bool (orf gg_2 rfl):(.bool (decide (e_1.Kind>(12:Int))):AV)=.bool (decide (e_1.Kind<(1:Int))||decide (e_1.Kind>(12:Int)))) an))⟩
 refine cd 23 (decide (e_1.Kind<(1:Int))||decide (e_1.Kind>(12:Int))) ?_ ?_
 ·intro g_2;replace h:=zN g_2 h
  refine sr [] [2] [] 1 [Ii 1] [] zD an ?_
  refine rt ?_
  cases h
  exact ⟨.inr rfl,Nat.le_of_ble_eq_true rfl,by kernel_rfl⟩
 intro g_2;replace h:=zO g_2 h
 refine sk ?_
 refine sq ?_
 obtain ⟨r_1,h_1,h⟩:=bind_some h
 refine rg [(2,{ av:=.tuple [.bool r_1.1,.bool r_1.2.1,.bool r_1.2.2.1,.bool r_1.2.2.2],l:=[Ii e_1.Kind] })] [1,3,4,5,6] [0] 1 [Pp 0,.bool r_1.1,.bool r_1.2.1,.bool r_1.2.2.1,.bool r_1.2.2.2] [Vb 33 (zJ e_1)] zD (ar ([Ii e_1.Kind]:List AV) (ac (rfl:([]:List zP)=[]) (ac (zKo e_1.Kind r_1 h_1:zM prog 71 [] [] [Ii e_1.Kind] [] (.tuple [.bool r_1.1,.bool r_1.2.1,.bool r_1.2.2.1,.bool r_1.2.2.2])) an))) ?_
 refine sq ?_
 refine sq ?_
 obtain ⟨p_1,h_2,h⟩:=bind_some h
 refine zX (mk [(1,Pp 0),(3,.bool r_1.1),(6,.bool r_1.2.2.2),(66,.bool p_1)] [(0,Vb 33 (zJ e_1))] 1) ?_ ?_
 ·replace h:=h_2
  rcases bft (!r_1.1) with gg_3 | gg_3
  ·replace h:=zN gg_3 h
   rcases bft (!(e_1.Name==([]:List Int))) with gg_4 | gg_4
   ·replace h:=zN gg_4 h
    refine rg [(6,Ht),(8,Hg),(9,Hg),(10,Hg),(14,Hg),(15,Ht),(17,Hg),(18,Hg),(19,Hg),(23,Hg),(24,Ht),(26,Hg),(27,Hg),(28,Hg),(33,Hg),(34,Ht)] [1,3,6,66] [0] 1 [Pp 0,.bool r_1.1,.bool r_1.2.2.2,.bool true] [Vb 33 (zJ e_1)] zD (ac gg_3 (ac gg_3 (ac gg_3 (ac gg_3 (ac gg_4 (ac gg_4 (ac gg_4 (ac gg_4 (ac gg_4 (ax (ax (ax (ax (ar true (ax (ax (ax (ax (ar true an))))))))))))))))))) ?_
    cases h
    exact ⟨rfl,(sw [0] [] [.s 1,.s 3,.s 6,.s 66] [.s 0] an)⟩
   ·replace h:=zO gg_4 h
    rcases bft (!r_1.2.1) with gg_5 | gg_5
    ·replace h:=zN gg_5 h
     rcases bft (e_1.N != (0:Int)) with gg_6 | gg_6
     ·replace h:=zN gg_6 h
      refine rg [(6,Ht),(14,Ht),(15,Hf),(17,Hg),(18,Hg),(19,Hg),(23,Hg),(24,Ht),(26,Hg),(27,Hg),(28,Hg),(33,Hg),(34,Ht)] [1,3,6,66] [0] 1 [Pp 0,.bool r_1.1,.bool r_1.2.2.2,.bool true] [Vb 33 (zJ e_1)] zD (ac gg_3 (ac gg_3 (ac gg_3 (ac gg_3 (ac gg_4 (ac gg_4 (ac gg_4 (ac gg_5 (ac gg_5 (ac gg_5 (ac gg_4 (ac gg_5 (ac gg_4 (ac gg_6 (ac gg_6 (ac gg_6 (ac gg_6 (ac gg_6 (ax (ax (ax (ax (ar true an))))))))))))))))))))))) ?_
      cases h
      exact ⟨rfl,(sw [0] [] [.s 1,.s 3,.s 6,.s 66] [.s 0] an)⟩
     ·replace h:=zO gg_6 h
      rcases bft (!r_1.2.2.1) with gg_7 | gg_7
      ·replace h:=zN gg_7 h
       rcases bft (e_1.M != (0:Int)) with gg_8 | gg_8
       ·replace h:=zN gg_8 h
        refine rg [(6,Ht),(14,Ht),(15,Hf),(23,Ht),(24,Hf),(26,Hg),(27,Hg),(28,Hg),(33,Hg),(34,Ht)] [1,3,6,66] [0] 1 [Pp 0,.bool r_1.1,.bool r_1.2.2.2,.bool true] [Vb 33 (zJ e_1)] zD (ac gg_3 (ac gg_3 (ac gg_3 (ac gg_3 (ac gg_4 (ac gg_4 (ac gg_4 (ac gg_5 (ac gg_5 (ac gg_5 (ac gg_4 (ac gg_5 (ac gg_4 (ac gg_6 (ac gg_6 (ac gg_6 (ac gg_7 (ac gg_7 (ac gg_7 (ac gg_6 (ac gg_7 (ac gg_6 (ac gg_8 (ac gg_8 (ac gg_8 (ac gg_8 (ac gg_8 an))))))))))))))))))))))))))) ?_
        cases h
        exact ⟨rfl,(sw [0] [] [.s 1,.s 3,.s 6,.s 66] [.s 0] an)⟩
       ·replace h:=zO gg_8 h
        rcases bft (!r_1.2.2.2) with gg_9 | gg_9
        ·replace h:=zN gg_9 h
         refine rg [(6,Ht),(14,Ht),(15,Hf),(23,Ht),(24,Hf),(31,{ n:=(e_1.Stack).length }),(33,Ht),(34,Hf)] [1,3,6,66] [0] 1 [Pp 0,.bool r_1.1,.bool r_1.2.2.2,.bool (decide ((lN (e_1.Stack))>(0:Int)))] [Vb 33 (zJ e_1)] zD (ac gg_3 (ac gg_3 (ac gg_3 (ac gg_3 (ac gg_4 (ac gg_4 (ac gg_4 (ac gg_5 (ac gg_5 (ac gg_5 (ac gg_4 (ac gg_5 (ac gg_4 (ac gg_6 (ac gg_6 (ac gg_6 (ac gg_7 (ac gg_7 (ac gg_7 (ac gg_6 (ac gg_7 (ac gg_6 (ac gg_8 (ac gg_8 (ac gg_8 (ac gg_9 (ac gg_9 (ac gg_9 (ac (zY _:((Ms e_1.Stack)).length=(e_1.Stack).length) (ac gg_9 (ac gg_8 (ac gg_9 (ac gg_8 an))))))))))))))))))))))))))))))))) ?_
         cases h
         exact ⟨rfl,(sw [0] [] [.s 1,.s 3,.s 6,.s 66] [.s 0] an)⟩
        ·replace h:=zO gg_9 h
         refine rg [(6,Ht),(14,Ht),(15,Hf),(23,Ht),(24,Hf),(29,Hg),(30,Hg),(31,Hg),(32,Hg),(33,Hf),(34,Hf)] [1,3,6,66] [0] 1 [Pp 0,.bool r_1.1,.bool r_1.2.2.2,.bool false] [Vb 33 (zJ e_1)] zD (ac gg_3 (ac gg_3 (ac gg_3 (ac gg_3 (ac gg_4 (ac gg_4 (ac gg_4 (ac gg_5 (ac gg_5 (ac gg_5 (ac gg_4 (ac gg_5 (ac gg_4 (ac gg_6 (ac gg_6 (ac gg_6 (ac gg_7 (ac gg_7 (ac gg_7 (ac gg_6 (ac gg_7 (ac gg_6 (ac gg_8 (ac gg_8 (ac gg_8 (ac gg_9 (ac gg_9 (ac gg_9 (ac gg_9 (ac gg_8 (ac gg_9 (ac gg_8 an)))))))))))))))))))))))))))))))) ?_
         cases h
         exact ⟨rfl,(sw [0] [] [.s 1,.s 3,.s 6,.s 66] [.s 0] an)⟩
      ·replace h:=zO gg_7 h
       rcases bft (!r_1.2.2.2) with gg_10 | gg_10
       ·replace h:=zN gg_10 h
        refine rg [(6,Ht),(14,Ht),(15,Hf),(20,Hg),(21,Hg),(22,Hg),(23,Hf),(24,Hf),(31,{ n:=(e_1.Stack).length }),(33,Ht),(34,Hf)] [1,3,6,66] [0] 1 [Pp 0,.bool r_1.1,.bool r_1.2.2.2,.bool (decide ((lN (e_1.Stack))>(0:Int)))] [Vb 33 (zJ e_1)] zD (ac gg_3 (ac gg_3 (ac gg_3 (ac gg_3 (ac gg_4 (ac gg_4 (ac gg_4 (ac gg_5 (ac gg_5 (ac gg_5 (ac gg_4 (ac gg_5 (ac gg_4 (ac gg_6 (ac gg_6 (ac gg_6 (ac gg_7 (ac gg_7 (ac gg_7 (ac gg_6 (ac gg_7 (ac gg_6 (ar false (ar false (ar false (ac gg_10 (ac gg_10 (ac gg_10 (ac (zY _:((Ms e_1.Stack)).length=(e_1.Stack).length) (ac gg_10 (ar false (ac gg_10 (ar false an))))))))))))))))))))))))))))))))) ?_
        cases h
        exact ⟨rfl,(sw [0] [] [.s 1,.s 3,.s 6,.s 66] [.s 0] an)⟩
       ·replace h:=zO gg_10 h
        refine rg [(6,Ht),(14,Ht),(15,Hf),(20,Hg),(21,Hg),(22,Hg),(23,Hf),(24,Hf),(29,Hg),(30,Hg),(31,Hg),(32,Hg),(33,Hf),(34,Hf)] [1,3,6,66] [0] 1 [Pp 0,.bool r_1.1,.bool r_1.2.2.2,.bool false] [Vb 33 (zJ e_1)] zD (ac gg_3 (ac gg_3 (ac gg_3 (ac gg_3 (ac gg_4 (ac gg_4 (ac gg_4 (ac gg_5 (ac gg_5 (ac gg_5 (ac gg_4 (ac gg_5 (ac gg_4 (ac gg_6 (ac gg_6 (ac gg_6 (ac gg_7 (ac gg_7 (ac gg_7 (ac gg_6 (ac gg_7 (ac gg_6 (ar false (ar false (ar false (ac gg_10 (ac gg_10 (ac gg_10 (ac gg_10 (ar false (ac gg_10 (ar false an)))))))))))))))))))))))))))))))) ?_
        cases h
        exact ⟨rfl,(sw [0] [] [.s 1,.s 3,.s 6,.s 66] [.s 0] an)⟩
    ·replace h:=zO gg_5 h
     rcases bft (!r_1.2.2.1) with gg_11 | gg_11
     ·replace h:=zN gg_11 h
      rcases bft (e_1.M != (0:Int)) with gg_12 | gg_12
      ·replace h:=zN gg_12 h
       refine rg [(6,Ht),(11,Hg),(12,Hg),(13,Hg),(14,Hf),(15,Hf),(23,Ht),(24,Hf),(26,Hg),(27,Hg),(28,Hg),(33,Hg),(34,Ht)] [1,3,6,66] [0] 1 [Pp 0,.bool r_1.1,.bool r_1.2.2.2,.bool true] [Vb 33 (zJ e_1)] zD (ac gg_3 (ac gg_3 (ac gg_3 (ac gg_3 (ac gg_4 (ac gg_4 (ac gg_4 (ac gg_5 (ac gg_5 (ac gg_5 (ac gg_4 (ac gg_5 (ac gg_4 (ar false (ar false (ar false (ac gg_11 (ac gg_11 (ac gg_11 (ar false (ac gg_11 (ar false (ac gg_12 (ac gg_12 (ac gg_12 (ac gg_12 (ac gg_12 an))))))))))))))))))))))))))) ?_
       cases h
       exact ⟨rfl,(sw [0] [] [.s 1,.s 3,.s 6,.s 66] [.s 0] an)⟩
      ·replace h:=zO gg_12 h
       rcases bft (!r_1.2.2.2) with gg_13 | gg_13
       ·replace h:=zN gg_13 h
        refine rg [(6,Ht),(11,Hg),(12,Hg),(13,Hg),(14,Hf),(15,Hf),(23,Ht),(24,Hf),(31,{ n:=(e_1.Stack).length }),(33,Ht),(34,Hf)] [1,3,6,66] [0] 1 [Pp 0,.bool r_1.1,.bool r_1.2.2.2,.bool (decide ((lN (e_1.Stack))>(0:Int)))] [Vb 33 (zJ e_1)] zD (ac gg_3 (ac gg_3 (ac gg_3 (ac gg_3 (ac gg_4 (ac gg_4 (ac gg_4 (ac gg_5 (ac gg_5 (ac gg_5 (ac gg_4 (ac gg_5 (ac gg_4 (ar false (ar false (ar false (ac gg_11 (ac gg_11 (ac gg_11 (ar false (ac gg_11 (ar false (ac gg_12 (ac gg_12 (ac gg_12 (ac gg_13 (ac gg_13 (ac gg_13 (ac (zY _:((Ms e_1.Stack)).length=(e_1.Stack).length) (ac gg_13 (ac gg_12 (ac gg_13 (ac gg_12 an))))))))))))))))))))))))))))))))) ?_
        cases h
        exact ⟨rfl,(sw [0] [] [.s 1,.s 3,.s 6,.s 66] [.s 0] an)⟩
       ·replace h:=zO gg_13 h
        refine rg [(6,Ht),(11,Hg),(12,Hg),(13,Hg),(14,Hf),(15,Hf),(23,Ht),(24,Hf),(29,Hg),(30,Hg),(31,Hg),(32,Hg),(33,Hf),(34,Hf)] [1,3,6,66] [0] 1 [Pp 0,.bool r_1.1,.bool r_1.2.2.2,.bool false] [Vb 33 (zJ e_1)] zD (ac gg_3 (ac gg_3 (ac gg_3 (ac gg_3 (ac gg_4 (ac gg_4 (ac gg_4 (ac gg_5 (ac gg_5 (ac gg_5 (ac gg_4 (ac gg_5 (ac gg_4 (ar false (ar false (ar false (ac gg_11 (ac gg_11 (ac gg_11 (ar false (ac gg_11 (ar false (ac gg_12 (ac gg_12 (ac gg_12 (ac gg_13 (ac gg_13 (ac gg_13 (ac gg_13 (ac gg_12 (ac gg_13 (ac gg_12 an)))))))))))))))))))))))))))))))) ?_
        cases h
        exact ⟨rfl,(sw [0] [] [.s 1,.s 3,.s 6,.s 66] [.s 0] an)⟩
     ·replace h:=zO gg_11 h
      rcases bft (!r_1.2.2.2) with gg_14 | gg_14
      ·replace h:=zN gg_14 h
       refine rg [(6,Ht),(11,Hg),(12,Hg),(13,Hg),(14,Hf),(15,Hf),(20,Hg),(21,Hg),(22,Hg),(23,Hf),(24,Hf),(31,{ n:=(e_1.Stack).length }),(33,Ht),(34,Hf)] [1,3,6,66] [0] 1 [Pp 0,.bool r_1.1,.bool r_1.2.2.2,.bool (decide ((lN (e_1.Stack))>(0:Int)))] [Vb 33 (zJ e_1)] zD (ac gg_3 (ac gg_3 (ac gg_3 (ac gg_3 (ac gg_4 (ac gg_4 (ac gg_4 (ac gg_5 (ac gg_5 (ac gg_5 (ac gg_4 (ac gg_5 (ac gg_4 (ar false (ar false (ar false (ac gg_11 (ac gg_11 (ac gg_11 (ar false (ac gg_11 (ar false (ar false (ar false (ar false (ac gg_14 (ac gg_14 (ac gg_14 (ac (zY _:((Ms e_1.Stack)).length=(e_1.Stack).length) (ac gg_14 (ar false (ac gg_14 (ar false an))))))))))))))))))))))))))))))))) ?_
       cases h
       exact ⟨rfl,(sw [0] [] [.s 1,.s 3,.s 6,.s 66] [.s 0] an)⟩
      ·replace h:=zO gg_14 h
       refine rg [(6,Ht),(11,Hg),(12,Hg),(13,Hg),(14,Hf),(15,Hf),(20,Hg),(21,Hg),(22,Hg),(23,Hf),(24,Hf),(29,Hg),(30,Hg),(31,Hg),(32,Hg),(33,Hf),(34,Hf)] [1,3,6,66] [0] 1 [Pp 0,.bool r_1.1,.bool r_1.2.2.2,.bool false] [Vb 33 (zJ e_1)] zD (ac gg_3 (ac gg_3 (ac gg_3 (ac gg_3 (ac gg_4 (ac gg_4 (ac gg_4 (ac gg_5 (ac gg_5 (ac gg_5 (ac gg_4 (ac gg_5 (ac gg_4 (ar false (ar false (ar false (ac gg_11 (ac gg_11 (ac gg_11 (ar false (ac gg_11 (ar false (ar false (ar false (ar false (ac gg_14 (ac gg_14 (ac gg_14 (ac gg_14 (ar false (ac gg_14 (ar false an)))))))))))))))))))))))))))))))) ?_
       cases h
       exact ⟨rfl,(sw [0] [] [.s 1,.s 3,.s 6,.s 66] [.s 0] an)⟩
  ·replace h:=zO gg_3 h
   rcases bft (!r_1.2.1) with gg_15 | gg_15
   ·replace h:=zN gg_15 h
    rcases bft (e_1.N != (0:Int)) with gg_16 | gg_16
    ·replace h:=zN gg_16 h
     refine rg [(3,Hg),(4,Hg),(5,Hg),(6,Hf),(14,Ht),(15,Hf),(17,Hg),(18,Hg),(19,Hg),(23,Hg),(24,Ht),(26,Hg),(27,Hg),(28,Hg),(33,Hg),(34,Ht)] [1,3,6,66] [0] 1 [Pp 0,.bool r_1.1,.bool r_1.2.2.2,.bool true] [Vb 33 (zJ e_1)] zD (ac gg_3 (ac gg_3 (ac gg_3 (ac gg_3 (ar false (ar false (ar false (ac gg_15 (ac gg_15 (ac gg_15 (ar false (ac gg_15 (ar false (ac gg_16 (ac gg_16 (ac gg_16 (ac gg_16 (ac gg_16 (ax (ax (ax (ax (ar true an))))))))))))))))))))))) ?_
     cases h
     exact ⟨rfl,(sw [0] [] [.s 1,.s 3,.s 6,.s 66] [.s 0] an)⟩
    ·replace h:=zO gg_16 h
     rcases bft (!r_1.2.2.1) with gg_17 | gg_17
     ·replace h:=zN gg_17 h
      rcases bft (e_1.M != (0:Int)) with gg_18 | gg_18
      ·replace h:=zN gg_18 h
       refine rg [(3,Hg),(4,Hg),(5,Hg),(6,Hf),(14,Ht),(15,Hf),(23,Ht),(24,Hf),(26,Hg),(27,Hg),(28,Hg),(33,Hg),(34,Ht)] [1,3,6,66] [0] 1 [Pp 0,.bool r_1.1,.bool r_1.2.2.2,.bool true] [Vb 33 (zJ e_1)] zD (ac gg_3 (ac gg_3 (ac gg_3 (ac gg_3 (ar false (ar false (ar false (ac gg_15 (ac gg_15 (ac gg_15 (ar false (ac gg_15 (ar false (ac gg_16 (ac gg_16 (ac gg_16 (ac gg_17 (ac gg_17 (ac gg_17 (ac gg_16 (ac gg_17 (ac gg_16 (ac gg_18 (ac gg_18 (ac gg_18 (ac gg_18 (ac gg_18 an))))))))))))))))))))))))))) ?_
       cases h
       exact ⟨rfl,(sw [0] [] [.s 1,.s 3,.s 6,.s 66] [.s 0] an)⟩
      ·replace h:=zO gg_18 h
       rcases bft (!r_1.2.2.2) with gg_19 | gg_19
       ·replace h:=zN gg_19 h
        refine rg [(3,Hg),(4,Hg),(5,Hg),(6,Hf),(14,Ht),(15,Hf),(23,Ht),(24,Hf),(31,{ n:=(e_1.Stack).length }),(33,Ht),(34,Hf)] [1,3,6,66] [0] 1 [Pp 0,.bool r_1.1,.bool r_1.2.2.2,.bool (decide ((lN (e_1.Stack))>(0:Int)))] [Vb 33 (zJ e_1)] zD (ac gg_3 (ac gg_3 (ac gg_3 (ac gg_3 (ar false (ar false (ar false (ac gg_15 (ac gg_15 (ac gg_15 (ar false (ac gg_15 (ar false (ac gg_16 (ac gg_16 (ac gg_16 (ac gg_17 (ac gg_17 (ac gg_17 (ac gg_16 (ac gg_17 (ac gg_16 (ac gg_18 (ac gg_18 (ac gg_18 (ac gg_19 (ac gg_19 (ac gg_19 (ac (zY _:((Ms e_1.Stack)).length=(e_1.Stack).length) (ac gg_19 (ac gg_18 (ac gg_19 (ac gg_18 an))))))))))))))))))))))))))))))))) ?_
        cases h
        exact ⟨rfl,(sw [0] [] [.s 1,.s 3,.s 6,.s 66] [.s 0] an)⟩
       ·replace h:=zO gg_19 h
        refine rg [(3,Hg),(4,Hg),(5,Hg),(6,Hf),(14,Ht),(15,Hf),(23,Ht),(24,Hf),(29,Hg),(30,Hg),(31,Hg),(32,Hg),(33,Hf),(34,Hf)] [1,3,6,66] [0] 1 [Pp 0,.bool r_1.1,.bool r_1.2.2.2,.bool false] [Vb 33 (zJ e_1)] zD (ac gg_3 (ac gg_3 (ac gg_3 (ac gg_3 (ar false (ar false (ar false (ac gg_15 (ac gg_15 (ac gg_15 (ar false (ac gg_15 (ar false (ac gg_16 (ac gg_16 (ac gg_16 (ac gg_17 (ac gg_17 (ac gg_17 (ac gg_16 (ac gg_17 (ac gg_16 (ac gg_18 (ac gg_18 (ac gg_18 (ac gg_19 (ac gg_19 (ac gg_19 (ac gg_19 (ac gg_18 (ac gg_19 (ac gg_18 an)))))))))))))))))))))))))))))))) ?_
        cases h
        exact ⟨rfl,(sw [0] [] [.s 1,.s 3,.s 6,.s 66] [.s 0] an)⟩
     ·replace h:=zO gg_17 h
      rcases bft (!r_1.2.2.2) with gg_20 | gg_20
      ·replace h:=zN gg_20 h
       refine rg [(3,Hg),(4,Hg),(5,Hg),(6,Hf),(14,Ht),(15,Hf),(20,Hg),(21,Hg),(22,Hg),(23,Hf),(24,Hf),(31,{ n:=(e_1.Stack).length }),(33,Ht),(34,Hf)] [1,3,6,66] [0] 1 [Pp 0,.bool r_1.1,.bool r_1.2.2.2,.bool (decide ((lN (e_1.Stack))>(0:Int)))] [Vb 33 (zJ e_1)] zD (ac gg_3 (ac gg_3 (ac gg_3 (ac gg_3 (ar false (ar false (ar false (ac gg_15 (ac gg_15 (ac gg_15 (ar false (ac gg_15 (ar false (ac gg_16 (ac gg_16 (ac gg_16 (ac gg_17 (ac gg_17 (ac gg_17 (ac gg_16 (ac gg_17 (ac gg_16 (ar false (ar false (ar false (ac gg_20 (ac gg_20 (ac gg_20 (ac (zY _:((Ms e_1.Stack)).length=(e_1.Stack).length) (ac gg_20 (ar false (ac gg_20 (ar false an))))))))))))))))))))))))))))))))) ?_
       cases h
       exact ⟨rfl,(sw [0] [] [.s 1,.s 3,.s 6,.s 66] [.s 0] an)⟩
      ·replace h:=zO gg_20 h
       refine rg [(3,Hg),(4,Hg),(5,Hg),(6,Hf),(14,Ht),(15,Hf),(20,Hg),(21,Hg),(22,Hg),(23,Hf),(24,Hf),(29,Hg),(30,Hg),(31,Hg),(32,Hg),(33,Hf),(34,Hf)] [1,3,6,66] [0] 1 [Pp 0,.bool r_1.1,.bool r_1.2.2.2,.bool false] [Vb 33 (zJ e_1)] zD (ac gg_3 (ac gg_3 (ac gg_3 (ac gg_3 (ar false (ar false (ar false (ac gg_15 (ac gg_15 (ac gg_15 (ar false (ac gg_15 (ar false (ac gg_16 (ac gg_16 (ac gg_16 (ac gg_17 (ac gg_17 (ac gg_17 (ac gg_16 (ac gg_17 (ac gg_16 (ar false (ar false (ar false (ac gg_20 (ac gg_20 (ac gg_20 (ac gg_20 (ar false (ac gg_20 (ar false an)))))))))))))))))))))))))))))))) ?_
       cases h
       exact ⟨rfl,(sw [0] [] [.s 1,.s 3,.s 6,.s 66] [.s 0] an)⟩
   ·replace h:=zO gg_15 h
    rcases bft (!r_1.2.2.1) with gg_21 | gg_21
    ·replace h:=zN gg_21 h
     rcases bft (e_1.M != (0:Int)) with gg_22 | gg_22
     ·replace h:=zN gg_22 h
      refine rg [(3,Hg),(4,Hg),(5,Hg),(6,Hf),(11,Hg),(12,Hg),(13,Hg),(14,Hf),(15,Hf),(23,Ht),(24,Hf),(26,Hg),(27,Hg),(28,Hg),(33,Hg),(34,Ht)] [1,3,6,66] [0] 1 [Pp 0,.bool r_1.1,.bool r_1.2.2.2,.bool true] [Vb 33 (zJ e_1)] zD (ac gg_3 (ac gg_3 (ac gg_3 (ac gg_3 (ar false (ar false (ar false (ac gg_15 (ac gg_15 (ac gg_15 (ar false (ac gg_15 (ar false (ar false (ar false (ar false (ac gg_21 (ac gg_21 (ac gg_21 (ar false (ac gg_21 (ar false (ac gg_22 (ac gg_22 (ac gg_22 (ac gg_22 (ac gg_22 an))))))))))))))))))))))))))) ?_
      cases h
      exact ⟨rfl,(sw [0] [] [.s 1,.s 3,.s 6,.s 66] [.s 0] an)⟩
     ·replace h:=zO gg_22 h
      rcases bft (!r_1.2.2.2) with gg_23 | gg_23
      ·replace h:=zN gg_23 h
       refine rg [(3,Hg),(4,Hg),(5,Hg),(6,Hf),(11,Hg),(12,Hg),(13,Hg),(14,Hf),(15,Hf),(23,Ht),(24,Hf),(31,{ n:=(e_1.Stack).length }),(33,Ht),(34,Hf)] [1,3,6,66] [0] 1 [Pp 0,.bool r_1.1,.bool r_1.2.2.2,.bool (decide ((lN (e_1.Stack))>(0:Int)))] [Vb 33 (zJ e_1)] zD (ac gg_3 (ac gg_3 (ac gg_3 (ac gg_3 (ar false (ar false (ar false (ac gg_15 (ac gg_15 (ac gg_15 (ar false (ac gg_15 (ar false (ar false (ar false (ar false (ac gg_21 (ac gg_21 (ac gg_21 (ar false (ac gg_21 (ar false (ac gg_22 (ac gg_22 (ac gg_22 (ac gg_23 (ac gg_23 (ac gg_23 (ac (zY _:((Ms e_1.Stack)).length=(e_1.Stack).length) (ac gg_23 (ac gg_22 (ac gg_23 (ac gg_22 an))))))))))))))))))))))))))))))))) ?_
       cases h
       exact ⟨rfl,(sw [0] [] [.s 1,.s 3,.s 6,.s 66] [.s 0] an)⟩
      ·replace h:=zO gg_23 h
       refine rg [(3,Hg),(4,Hg),(5,Hg),(6,Hf),(11,Hg),(12,Hg),(13,Hg),(14,Hf),(15,Hf),(23,Ht),(24,Hf),(29,Hg),(30,Hg),(31,Hg),(32,Hg),(33,Hf),(34,Hf)] [1,3,6,66] [0] 1 [Pp 0,.bool r_1.1,.bool r_1.2.2.2,.bool false] [Vb 33 (zJ e_1)] zD (ac gg_3 (ac gg_3 (ac gg_3 (ac gg_3 (ar false (ar false (ar false (ac gg_15 (ac gg_15 (ac gg_15 (ar false (ac gg_15 (ar false (ar false (ar false (ar false (ac gg_21 (ac gg_21 (ac gg_21 (ar false (ac gg_21 (ar false (ac gg_22 (ac gg_22 (ac gg_22 (ac gg_23 (ac gg_23 (ac gg_23 (ac gg_23 (ac gg_22 (ac gg_23 (ac gg_22 an)))))))))))))))))))))))))))))))) ?_
       cases h
       exact ⟨rfl,(sw [0] [] [.s 1,.s 3,.s 6,.s 66] [.s 0] an)⟩
    ·replace h:=zO gg_21 h
     rcases bft (!r_1.2.2.2) with gg_24 | gg_24
     ·replace h:=zN gg_24 h
      refine rg [(3,Hg),(4,Hg),(5,Hg),(6,Hf),(11,Hg),(12,Hg),(13,Hg),(14,Hf),(15,Hf),(20,Hg),(21,Hg),(22,Hg),(23,Hf),(24,Hf),(31,{ n:=(e_1.Stack).length }),(33,Ht),(34,Hf)] [1,3,6,66] [0] 1 [Pp 0,.bool r_1.1,.bool r_1.2.2.2,.bool (decide ((lN (e_1.Stack))>(0:Int)))] [Vb 33 (zJ e_1)] zD (ac gg_3 (ac gg_3 (ac gg_3 (ac gg_3 (ar false (ar false (ar false (ac gg_15 (ac gg_15 (ac gg_15 (ar false (ac gg_15 (ar false (ar false (ar false (ar false (ac gg_21 (ac gg_21 (ac gg_21 (ar false (ac gg_21 (ar false (ar false (ar false (ar false (ac gg_24 (ac gg_24 (ac gg_24 (ac (zY _:((Ms e_1.Stack)).length=(e_1.Stack).length) (ac gg_24 (ar false (ac gg_24 (ar false an))))))))))))))))))))))))))))))))) ?_
      cases h
      exact ⟨rfl,(sw [0] [] [.s 1,.s 3,.s 6,.s 66] [.s 0] an)⟩
     ·replace h:=zO gg_24 h
      refine rg [(3,Hg),(4,Hg),(5,Hg),(6,Hf),(11,Hg),(12,Hg),(13,Hg),(14,Hf),(15,Hf),(20,Hg),(21,Hg),(22,Hg),(23,Hf),(24,Hf),(29,Hg),(30,Hg),(31,Hg),(32,Hg),(33,Hf),(34,Hf)] [1,3,6,66] [0] 1 [Pp 0,.bool r_1.1,.bool r_1.2.2.2,.bool false] [Vb 33 (zJ e_1)] zD (ac gg_3 (ac gg_3 (ac gg_3 (ac gg_3 (ar false (ar false (ar false (ac gg_15 (ac gg_15 (ac gg_15 (ar false (ac gg_15 (ar false (ar false (ar false (ar false (ac gg_21 (ac gg_21 (ac gg_21 (ar false (ac gg_21 (ar false (ar false (ar false (ar false (ac gg_24 (ac gg_24 (ac gg_24 (ac gg_24 (ar false (ac gg_24 (ar false an)))))))))))))))))))))))))))))))) ?_
      cases h
      exact ⟨rfl,(sw [0] [] [.s 1,.s 3,.s 6,.s 66] [.s 0] an)⟩
 refine cd 66 p_1 ?_ ?_
 ·intro g_3;replace h:=zN g_3 h
  refine sr [] [2] [] 1 [Ii 1] [] zD an ?_
  refine rt ?_
  cases h
  exact ⟨.inr rfl,Nat.le_of_ble_eq_true rfl,by kernel_rfl⟩
 intro g_3;replace h:=zO g_3 h
 refine sk ?_
 refine sr [] [1,3,6,7] [0] 1 [Pp 0,.bool r_1.1,.bool r_1.2.2.2,Ii 0] [Vb 33 (zJ e_1)] zD an ?_
 refine sq ?_
 refine sr [] [1,6,7,67] [0] 1 [Pp 0,.bool r_1.2.2.2,Ii 0,.bool r_1.1] [Vb 33 (zJ e_1)] zD an ?_
 obtain ⟨o_1,h_3,h⟩:=bind_some h
 refine zX (mk [(1,Pp 0),(6,.bool r_1.2.2.2),(7,Ii o_1)] [(0,Vb 33 (zJ e_1))] 1) ?_ ?_
 ·replace h:=h_3
  refine cd 67 r_1.1 ?_ ?_
  rotate_left
  ·intro g_4;replace h:=zO g_4 h
   refine sk ?_
   cases h
   exact ⟨rfl,(sw [0] [] [.s 1,.s 6,.s 7] [.s 0] an)⟩
  intro g_4;replace h:=zN g_4 h
  obtain ⟨r_2,h_4,h⟩:=bind_some h
  refine rg [(2,{ av:=Ii r_2,l:=[.str e_1.Name] })] [1,6,7] [0] 1 [Pp 0,.bool r_1.2.2.2,Ii r_2] [Vb 33 (zJ e_1)] zD (ar ([.str e_1.Name]:List AV) (ac (rfl:([]:List zP)=[]) (ac (zBx F e_1.Name r_2 h_4:zM prog 72 [] [] [.str e_1.Name] [] (Ii r_2)) an))) ?_
  cases h
  exact ⟨rfl,(sw [0] [] [.s 1,.s 6,.s 7] [.s 0] an)⟩
 refine sq ?_
 refine sr [] [1,7,71] [0] 1 [Pp 0,Ii o_1,.bool r_1.2.2.2] [Vb 33 (zJ e_1)] zD an ?_
 obtain ⟨o_2,h_5,h⟩:=bind_some h
 refine zX (mk [(1,Pp 0),(7,Ii o_2)] [(0,Vb 33 (zJ e_1))] 1) ?_ ?_
 ·replace h:=h_5
  refine cd 71 r_1.2.2.2 ?_ ?_
  rotate_left
  ·intro g_5;replace h:=zO g_5 h
   refine sk ?_
   cases h
   exact ⟨rfl,(sw [0] [] [.s 1,.s 7] [.s 0] an)⟩
  intro g_5;replace h:=zN g_5 h
  obtain ⟨r_3,h_6,h⟩:=bind_some h
  refine rg [(2,{ av:=Ii r_3,l:=[.sl false 1 (Ms e_1.Stack)] })] [1,7] [0] 1 [Pp 0,Ii r_3] [Vb 33 (zJ e_1)] zD (ar ([.sl false 1 (Ms e_1.Stack)]:List AV) (ac (rfl:([]:List zP)=[]) (ac (zDX F e_1.Stack r_3 h_6:zM prog 73 [] [] [.sl false 1 (Ms e_1.Stack)] [] (Ii r_3)) an))) ?_
  cases h
  exact ⟨rfl,(sw [0] [] [.s 1,.s 7] [.s 0] an)⟩
 refine sq ?_
 refine sr [] [1,7,76] [0] 1 [Pp 0,Ii o_2,.bool (o_2 != (0:Int))] [Vb 33 (zJ e_1)] zD an ?_
 refine cd 76 (o_2 != (0:Int)) ?_ ?_
 ·intro g_6;replace h:=zN g_6 h
  refine sr [] [2] [] 1 [Ii o_2] [] zD an ?_
  refine rt ?_
  cases h
  exact ⟨.inr rfl,Nat.le_of_ble_eq_true rfl,by kernel_rfl⟩
 intro g_6;replace h:=zO g_6 h
 refine sk ?_
 refine sq ?_
 obtain ⟨r_4,h_7,h⟩:=bind_some h
 refine rg [(1,{ av:=Ii r_4,l:=[zB e_1] })] [2] [] 1 [Ii r_4] [] zD (ar ([zB e_1]:List AV) (ac (rfl:([]:List zP)=[]) (ac (zHp e_1 r_4 h_7:zM prog 74 [] [] [zB e_1] [] (Ii r_4)) an))) ?_
 refine rt ?_
 cases h
 exact ⟨.inr rfl,Nat.le_of_ble_eq_true rfl,by kernel_rfl⟩
theorem zGp (F:Nat) (l_1:List (zA)) (r:Int) (h:nN F l_1=some r):zM prog 25 [] [] [.sl false 6 (Mp zB l_1)] [] (Ii r):=by
 refine zS (fn:=Go.Proofs.Try.f25) (code:=z6 Go.Proofs.Try.f25) (by kernel_rfl) (by kernel_rfl) (Nat.le_of_ble_eq_true (by kernel_rfl)) ?_
 unfold nN at h
 refine sr [] [0] [] 0 [.sl false 6 (Mp zB l_1)] [] zD an ?_
 refine sq ?_
 refine sr [] [0,3] [] 0 [.sl false 6 (Mp zB l_1),Ii 0] [] zD an ?_
 obtain ⟨o_1,h_1,h⟩:=bind_some h
 refine yZ (K1:=(fun e st'=>match o_1 with | (.inl q0)=>e=.normal∧Sub 0 st' (mk [] [] 0) | (.inr q1)=>e=.ret∧vS prog Go.Proofs.Try.f25 0 [] (Ii q1) st')) ?_ ?_
 ·replace h:=h_1
  refine zT (id:=0) (by kernel_rfl) ?_
  refine wk [] [] [.s 0,.s 3] [] [(0,.sl false 6 (Mp zB l_1)),(3,Ii 0)] [] an ?_
  refine yF (fun n st=>∃ (i_1:Int),st=mk [(0,.sl false 6 (Mp zB l_1)),(3,Ii i_1)] [] 0∧qU F l_1 n i_1=some o_1) F (by kernel_rfl) ⟨_,rfl,h⟩ ?_ ?_
  ·rintro _ ⟨_,_,h⟩;exact yM (h:(none:Option (Unit⊕Int))=some o_1)
  rintro n_1 _ ⟨i_1,rfl,h⟩
  replace h:tP F l_1 (qU F l_1 n_1) i_1=some o_1:=h
  unfold tP at h
  refine sq ?_
  refine sr [(2,{ n:=(l_1).length })] [0,3,8] [] 0 [.sl false 6 (Mp zB l_1),Ii i_1,.bool (decide (i_1<(lN (l_1))))] [] zD (ac (zY _:((Mp zB l_1)).length=(l_1).length) an) ?_
  refine cd 8 (decide (i_1<(lN (l_1)))) ?_ ?_
  rotate_left
  ·intro g_1;replace h:=zO g_1 h
   refine yL (id:=0) (by kernel_rfl) ?_
   cases h
   exact ⟨rfl,(sw [] [] [] [] an)⟩
  intro g_1;replace h:=zN g_1 h
  refine sk ?_
  refine sq ?_
  refine zT (id:=1) (by kernel_rfl) ?_
  refine sq ?_
  obtain ⟨x_1,h_2,h⟩:=bind_some h
  obtain ⟨r_1,h_3,h⟩:=bind_some h
  refine rg [(2,{ av:=zB x_1 }),(4,{ av:=Ii r_1,l:=[zB x_1] })] [0,3,4] [] 0 [.sl false 6 (Mp zB l_1),Ii i_1,Ii r_1] [] zD (ac (yO h_2:xD (Mp zB l_1) i_1=some (zB x_1)) (ar ([zB x_1]:List AV) (ac (rfl:([]:List zP)=[]) (ac (zCD F x_1 r_1 h_3:zM prog 47 [] [] [zB x_1] [] (Ii r_1)) an)))) ?_
  refine sq ?_
  refine sr [] [0,3,4,17] [] 0 [.sl false 6 (Mp zB l_1),Ii i_1,Ii r_1,.bool (r_1 != (0:Int))] [] zD an ?_
  refine cd 17 (r_1 != (0:Int)) ?_ ?_
  ·intro g_2;replace h:=zN g_2 h
   refine sr [] [2] [] 0 [Ii r_1] [] zD an ?_
   refine rt ?_
   cases h
   exact ⟨rfl,Nat.le_of_ble_eq_true rfl,by kernel_rfl⟩
  intro g_2;replace h:=zO g_2 h
  refine sk ?_
  refine sq ?_
  obtain ⟨p_1,h_6,h⟩:=bind_some h
  refine zX (mk [(0,.sl false 6 (Mp zB l_1)),(3,Ii i_1),(34,.bool p_1)] [] 0) ?_ ?_
  ·replace h:=h_6
   rcases bft (decide (i_1>(0:Int))) with gg_4 | gg_4
   ·replace h:=zN gg_4 h
    obtain ⟨x_2,h_4,h⟩:=bind_some h
    obtain ⟨x_3,h_5,h⟩:=bind_some h
    refine rg [(5,{ av:=zB x_2 }),(11,{ av:=zB x_3 }),(15,Ht)] [0,3,22,23,24,25,26,27,28,29,30,31,32,33,34] [] 0 [.sl false 6 (Mp zB l_1),Ii i_1,.sl false 6 (Mp zB l_1),Ii i_1,.ref (zB x_2),.ref (Ii x_2.At),Ii x_2.At,.sl false 6 (Mp zB l_1),Ii i_1,Ii (zK (i_1 - (1:Int))),.ref (zB x_3),.ref (Ii x_3.At),Ii x_3.At,.bool (decide (x_2.At<x_3.At)),.bool (decide (x_2.At<x_3.At))] [] zD (ac gg_4 (ac gg_4 (ac gg_4 (ac (yO h_4:xD (Mp zB l_1) i_1=some (zB x_2)) (ac gg_4 (ac gg_4 (ac gg_4 (ac gg_4 (ac gg_4 (ac gg_4 (ac (yO h_5:xD (Mp zB l_1) (zK (i_1 - (1:Int)))=some (zB x_3)) (ac gg_4 (ac gg_4 (ac gg_4 (ac gg_4 an))))))))))))))) ?_
    cases h
    exact ⟨rfl,(sw [] [] [.s 0,.s 3,.s 34] [] an)⟩
   ·replace h:=zO gg_4 h
    refine rg [(3,Hg),(4,Hg),(5,Hg),(6,Hg),(7,Hg),(8,Hg),(9,Hg),(10,Hg),(11,Hg),(12,Hg),(13,Hg),(14,Hg),(15,Hf)] [0,3,22,23,24,25,26,27,28,29,30,31,32,33,34] [] 0 [.sl false 6 (Mp zB l_1),Ii i_1,.tuple [],.tuple [],.tuple [],.tuple [],.tuple [],.tuple [],.tuple [],.tuple [],.tuple [],.tuple [],.tuple [],.tuple [],.bool false] [] zD (ac gg_4 (ac gg_4 (ac gg_4 (ac gg_4 (ac gg_4 (ac gg_4 (ac gg_4 (ac gg_4 (ac gg_4 (ac gg_4 (ac gg_4 (ac gg_4 (ac gg_4 an))))))))))))) ?_
    cases h
    exact ⟨rfl,(sw [] [] [.s 0,.s 3,.s 34] [] an)⟩
  refine cd 34 p_1 ?_ ?_
  rotate_left
  ·intro g_3;replace h:=zO g_3 h
   refine sk ?_
   refine rg [] [0,3] [] 0 [.sl false 6 (Mp zB l_1),Ii (zK (i_1+(1:Int)))] [] zD an ?_
   exact ⟨_,(sw [] [] [.s 0,.s 3] [] an),_,rfl,h⟩
  intro g_3;replace h:=zN g_3 h
  refine sr [] [2] [] 0 [Ii 11] [] zD an ?_
  refine rt ?_
  cases h
  exact ⟨rfl,Nat.le_of_ble_eq_true rfl,by kernel_rfl⟩
 intro e st1 hk
 rcases o_1 with q_1 | q_2
 rotate_left
 ·obtain ⟨rfl,hf⟩:=hk
  cases h
  exact ⟨st1,Sub.refl _ _,.inr rfl,hf⟩
 obtain ⟨rfl,hs⟩:=hk
 refine ⟨_,hs,?_⟩
 refine sr [] [2] [] 0 [Ii 0] [] zD an ?_
 refine rt ?_
 cases h
 exact ⟨.inr rfl,Nat.le_of_ble_eq_true rfl,by kernel_rfl⟩
theorem zEy (F:Nat) (p_1:zF) (r:Int) (h:zAN F p_1=some r):zM prog 14 [] [] [zI p_1] [] (Ii r):=by
 refine zS (fn:=Go.Proofs.Try.f14) (code:=z6 Go.Proofs.Try.f14) (by kernel_rfl) (by kernel_rfl) (Nat.le_of_ble_eq_true (by kernel_rfl)) ?_
 unfold zAN at h
 refine sr [(0,{ id:=0 })] [1] [0] 1 [Pp 0] [Vb 24 (zH p_1)] zD an ?_
 refine sq ?_
 refine zT (id:=0) (by kernel_rfl) ?_
 refine sq ?_
 obtain ⟨p_2,h_4,h⟩:=bind_some h
 refine zX (mk [(1,Pp 0),(3,.bool p_2)] [(0,Vb 24 (zH p_1))] 1) ?_ ?_
 ·replace h:=h_4
  obtain ⟨r_1,h_1,h⟩:=bind_some h
  rcases bft (!r_1) with gg_1 | gg_1
  ·replace h:=zN gg_1 h
   refine rg [(2,{ av:=.bool r_1,l:=[Ii p_1.Thread] }),(5,Hg),(6,Hg),(7,Hg),(8,Hg),(9,Ht),(11,Hg),(12,Hg),(13,Hg),(14,Hg),(15,Ht),(17,Hg),(18,Hg),(19,Hg),(20,Hg),(21,Hg),(22,Ht)] [1,3] [0] 1 [Pp 0,.bool true] [Vb 24 (zH p_1)] zD (ar ([Ii p_1.Thread]:List AV) (ac (rfl:([]:List zP)=[]) (ac (u2 p_1.Thread r_1 h_1:zM prog 27 [] [] [Ii p_1.Thread] [] (.bool r_1)) (ac gg_1 (ac gg_1 (ac gg_1 (ac gg_1 (ac gg_1 (ax (ax (ax (ax (ar true (ax (ax (ax (ax (ax (ar true an))))))))))))))))))) ?_
   cases h
   exact ⟨rfl,(sw [0] [] [.s 1,.s 3] [.s 0] an)⟩
  ·replace h:=zO gg_1 h
   obtain ⟨r_2,h_2,h⟩:=bind_some h
   rcases bft (!r_2) with gg_2 | gg_2
   ·replace h:=zN gg_2 h
    refine rg [(2,{ av:=.bool r_1,l:=[Ii p_1.Thread] }),(7,{ av:=.bool r_2,l:=[Ii p_1.Serial] }),(9,Hf),(11,Hg),(12,Hg),(13,Hg),(14,Hg),(15,Ht),(17,Hg),(18,Hg),(19,Hg),(20,Hg),(21,Hg),(22,Ht)] [1,3] [0] 1 [Pp 0,.bool true] [Vb 24 (zH p_1)] zD (ar ([Ii p_1.Thread]:List AV) (ac (rfl:([]:List zP)=[]) (ac (u2 p_1.Thread r_1 h_1:zM prog 27 [] [] [Ii p_1.Thread] [] (.bool r_1)) (ac gg_1 (ac gg_1 (ac gg_1 (ar ([Ii p_1.Serial]:List AV) (ac (rfl:([]:List zP)=[]) (ac (u2 p_1.Serial r_2 h_2:zM prog 27 [] [] [Ii p_1.Serial] [] (.bool r_2)) (ac gg_1 (ac gg_1 (ac gg_2 (ac gg_2 (ac gg_2 (ac gg_2 (ac gg_2 (ax (ax (ax (ax (ax (ar true an)))))))))))))))))))))) ?_
    cases h
    exact ⟨rfl,(sw [0] [] [.s 1,.s 3] [.s 0] an)⟩
   ·replace h:=zO gg_2 h
    obtain ⟨r_3,h_3,h⟩:=bind_some h
    rcases bft (!r_3) with gg_3 | gg_3
    ·replace h:=zN gg_3 h
     refine rg [(2,{ av:=.bool r_1,l:=[Ii p_1.Thread] }),(7,{ av:=.bool r_2,l:=[Ii p_1.Serial] }),(9,Hf),(13,{ av:=.bool r_3,l:=[Ii p_1.Lost] }),(15,Hf),(17,Hg),(18,Hg),(19,Hg),(20,Hg),(21,Hg),(22,Ht)] [1,3] [0] 1 [Pp 0,.bool true] [Vb 24 (zH p_1)] zD (ar ([Ii p_1.Thread]:List AV) (ac (rfl:([]:List zP)=[]) (ac (u2 p_1.Thread r_1 h_1:zM prog 27 [] [] [Ii p_1.Thread] [] (.bool r_1)) (ac gg_1 (ac gg_1 (ac gg_1 (ar ([Ii p_1.Serial]:List AV) (ac (rfl:([]:List zP)=[]) (ac (u2 p_1.Serial r_2 h_2:zM prog 27 [] [] [Ii p_1.Serial] [] (.bool r_2)) (ac gg_1 (ac gg_1 (ac gg_2 (ac gg_2 (ac gg_2 (ar ([Ii p_1.Lost]:List AV) (ac (rfl:([]:List zP)=[]) (ac (u2 p_1.Lost r_3 h_3:zM prog 27 [] [] [Ii p_1.Lost] [] (.bool r_3)) (ac gg_2 (ac gg_2 (ac gg_3 (ac gg_3 (ac gg_3 (ac gg_3 (ac gg_3 (ac gg_3 an))))))))))))))))))))))))) ?_
     cases h
     exact ⟨rfl,(sw [0] [] [.s 1,.s 3] [.s 0] an)⟩
    ·replace h:=zO gg_3 h
     refine rg [(2,{ av:=.bool r_1,l:=[Ii p_1.Thread] }),(7,{ av:=.bool r_2,l:=[Ii p_1.Serial] }),(9,Hf),(13,{ av:=.bool r_3,l:=[Ii p_1.Lost] }),(15,Hf),(22,Hf)] [1,3] [0] 1 [Pp 0,.bool (decide (p_1.Lost>p_1.Serial))] [Vb 24 (zH p_1)] zD (ar ([Ii p_1.Thread]:List AV) (ac (rfl:([]:List zP)=[]) (ac (u2 p_1.Thread r_1 h_1:zM prog 27 [] [] [Ii p_1.Thread] [] (.bool r_1)) (ac gg_1 (ac gg_1 (ac gg_1 (ar ([Ii p_1.Serial]:List AV) (ac (rfl:([]:List zP)=[]) (ac (u2 p_1.Serial r_2 h_2:zM prog 27 [] [] [Ii p_1.Serial] [] (.bool r_2)) (ac gg_1 (ac gg_1 (ac gg_2 (ac gg_2 (ac gg_2 (ar ([Ii p_1.Lost]:List AV) (ac (rfl:([]:List zP)=[]) (ac (u2 p_1.Lost r_3 h_3:zM prog 27 [] [] [Ii p_1.Lost] [] (.bool r_3)) (ac gg_2 (ac gg_2 (ac gg_3 (ac gg_3 (ac gg_3 (ac gg_3 (ac gg_3 (ac gg_3 an))))))))))))))))))))))))) ?_
     cases h
     exact ⟨rfl,(sw [0] [] [.s 1,.s 3] [.s 0] an)⟩
 refine cd 3 p_2 ?_ ?_
 ·intro g_1;replace h:=zN g_1 h
  refine sr [] [2] [] 1 [Ii 2] [] zD an ?_
  refine rt ?_
  cases h
  exact ⟨.inr rfl,Nat.le_of_ble_eq_true rfl,by kernel_rfl⟩
 intro g_1;replace h:=zO g_1 h
 refine sr [(4,{ n:=(p_1.Events).length })] [1,27] [0] 1 [Pp 0,.bool (decide (p_1.Serial>(zK ((1000000000000000:Int) - (lN (p_1.Events))))))] [Vb 24 (zH p_1)] zD (ac (zY _:((Mp zB p_1.Events)).length=(p_1.Events).length) an) ?_
 refine cd 27 (decide (p_1.Serial>(zK ((1000000000000000:Int) - (lN (p_1.Events)))))) ?_ ?_
 ·intro g_2;replace h:=zN g_2 h
  refine sr [] [2] [] 1 [Ii 2] [] zD an ?_
  refine rt ?_
  cases h
  exact ⟨.inr rfl,Nat.le_of_ble_eq_true rfl,by kernel_rfl⟩
 intro g_2;replace h:=zO g_2 h
 refine sr [(2,{ n:=(p_1.Events).length })] [1,35] [0] 1 [Pp 0,.bool ((lN (p_1.Events))==(0:Int))] [Vb 24 (zH p_1)] zD (ac (zY _:((Mp zB p_1.Events)).length=(p_1.Events).length) an) ?_
 refine cd 35 ((lN (p_1.Events))==(0:Int)) ?_ ?_
 ·intro g_3;replace h:=zN g_3 h
  refine sr [] [2] [] 1 [Ii 8] [] zD an ?_
  refine rt ?_
  cases h
  exact ⟨.inr rfl,Nat.le_of_ble_eq_true rfl,by kernel_rfl⟩
 intro g_3;replace h:=zO g_3 h
 refine sr [(2,{ n:=(p_1.Events).length })] [1,40] [0] 1 [Pp 0,.bool (decide ((lN (p_1.Events))>(1000:Int)))] [Vb 24 (zH p_1)] zD (ac (zY _:((Mp zB p_1.Events)).length=(p_1.Events).length) an) ?_
 refine cd 40 (decide ((lN (p_1.Events))>(1000:Int))) ?_ ?_
 ·intro g_4;replace h:=zN g_4 h
  refine sr [] [2] [] 1 [Ii 7] [] zD an ?_
  refine rt ?_
  cases h
  exact ⟨.inr rfl,Nat.le_of_ble_eq_true rfl,by kernel_rfl⟩
 intro g_4;replace h:=zO g_4 h
 refine sk ?_
 refine sq ?_
 obtain ⟨r_4,h_5,h⟩:=bind_some h
 refine rg [(2,{ av:=Ii r_4,l:=[.sl false 6 (Mp zB p_1.Events)] })] [2] [] 1 [Ii r_4] [] zD (ar ([.sl false 6 (Mp zB p_1.Events)]:List AV) (ac (rfl:([]:List zP)=[]) (ac (zGp F p_1.Events r_4 h_5:zM prog 25 [] [] [.sl false 6 (Mp zB p_1.Events)] [] (Ii r_4)) an))) ?_
 refine rt ?_
 cases h
 exact ⟨.inr rfl,Nat.le_of_ble_eq_true rfl,by kernel_rfl⟩
theorem zFb (F:Nat) (l_1:List (List Int)) (s_1:List Int) (r:Int) (h:zBe F l_1 s_1=some r):zM prog 84 [] [] [.sl false 1 (Ms l_1),.str s_1] [] (Ii r):=by
 refine zS (fn:=Go.Proofs.Try.f84) (code:=z6 Go.Proofs.Try.f84) (by kernel_rfl) (by kernel_rfl) (Nat.le_of_ble_eq_true (by kernel_rfl)) ?_
 unfold zBe at h
 refine sr [] [0,1] [] 0 [.sl false 1 (Ms l_1),.str s_1] [] zD an ?_
 refine sq ?_
 refine sr [] [0,1,5] [] 0 [.sl false 1 (Ms l_1),.str s_1,Ii 0] [] zD an ?_
 obtain ⟨o_1,h_1,h⟩:=bind_some h
 refine yZ (K1:=(fun e st'=>match o_1 with | (.inl q0)=>e=.normal∧Sub 0 st' (mk [] [] 0) | (.inr q1)=>e=.ret∧vS prog Go.Proofs.Try.f84 0 [] (Ii q1) st')) ?_ ?_
 ·replace h:=h_1
  refine zT (id:=0) (by kernel_rfl) ?_
  refine wk [] [] [.s 0,.s 1,.s 5] [] [(0,.sl false 1 (Ms l_1)),(1,.str s_1),(5,Ii 0)] [] an ?_
  refine yF (fun n st=>∃ (i_1:Int),st=mk [(0,.sl false 1 (Ms l_1)),(1,.str s_1),(5,Ii i_1)] [] 0∧zAD F l_1 s_1 n i_1=some o_1) F (by kernel_rfl) ⟨_,rfl,h⟩ ?_ ?_
  ·rintro _ ⟨_,_,h⟩;exact yM (h:(none:Option (Unit⊕Int))=some o_1)
  rintro n_1 _ ⟨i_1,rfl,h⟩
  replace h:u5 F l_1 s_1 (zAD F l_1 s_1 n_1) i_1=some o_1:=h
  unfold u5 at h
  refine sq ?_
  refine sr [(2,{ n:=(l_1).length })] [0,1,5,9] [] 0 [.sl false 1 (Ms l_1),.str s_1,Ii i_1,.bool (decide (i_1<(lN (l_1))))] [] zD (ac (zY _:((Ms l_1)).length=(l_1).length) an) ?_
  refine cd 9 (decide (i_1<(lN (l_1)))) ?_ ?_
  rotate_left
  ·intro g_1;replace h:=zO g_1 h
   refine yL (id:=0) (by kernel_rfl) ?_
   cases h
   exact ⟨rfl,(sw [] [] [] [] an)⟩
  intro g_1;replace h:=zN g_1 h
  refine sk ?_
  refine sq ?_
  refine zT (id:=1) (by kernel_rfl) ?_
  refine sq ?_
  obtain ⟨x_1,h_2,h⟩:=bind_some h
  refine rg [(2,{ av:=.str x_1 })] [0,1,5,17] [] 0 [.sl false 1 (Ms l_1),.str s_1,Ii i_1,.bool (x_1==s_1)] [] zD (ac (yO h_2:xD (Ms l_1) i_1=some (.str x_1)) an) ?_
  refine cd 17 (x_1==s_1) ?_ ?_
  rotate_left
  ·intro g_2;replace h:=zO g_2 h
   refine sk ?_
   refine rg [] [0,1,5] [] 0 [.sl false 1 (Ms l_1),.str s_1,Ii (zK (i_1+(1:Int)))] [] zD an ?_
   exact ⟨_,(sw [] [] [.s 0,.s 1,.s 5] [] an),_,rfl,h⟩
  intro g_2;replace h:=zN g_2 h
  refine sr [] [4] [] 0 [Ii i_1] [] zD an ?_
  refine rt ?_
  cases h
  exact ⟨rfl,Nat.le_of_ble_eq_true rfl,by kernel_rfl⟩
 intro e st1 hk
 rcases o_1 with q_1 | q_2
 rotate_left
 ·obtain ⟨rfl,hf⟩:=hk
  cases h
  exact ⟨st1,Sub.refl _ _,.inr rfl,hf⟩
 obtain ⟨rfl,hs⟩:=hk
 refine ⟨_,hs,?_⟩
 refine sr [] [4] [] 0 [Ii (-1)] [] zD an ?_
 refine rt ?_
 cases h
 exact ⟨.inr rfl,Nat.le_of_ble_eq_true rfl,by kernel_rfl⟩
theorem zCi (F:Nat) (l_1:List (zE)) (p_1:zE) (r:Int) (h:kC F l_1 p_1=some r):zM prog 85 [] [] [.sl false 2 (Mp zC l_1),.agg [Ii p_1.c0,Ii p_1.c1]] [] (Ii r):=by
 refine zS (fn:=Go.Proofs.Try.f85) (code:=z6 Go.Proofs.Try.f85) (by kernel_rfl) (by kernel_rfl) (Nat.le_of_ble_eq_true (by kernel_rfl)) ?_
 unfold kC at h
 refine sr [(0,{ id:=0 })] [0,3] [0] 1 [.sl false 2 (Mp zC l_1),Pp 0] [Vb 57 [Ii p_1.c0,Ii p_1.c1]] zD an ?_
 refine sq ?_
 refine sr [] [0,3,5] [0] 1 [.sl false 2 (Mp zC l_1),Pp 0,Ii 0] [Vb 57 [Ii p_1.c0,Ii p_1.c1]] zD an ?_
 obtain ⟨o_1,h_1,h⟩:=bind_some h
 refine yZ (K1:=(fun e st'=>match o_1 with | (.inl q0)=>e=.normal∧Sub 0 st' (mk [] [] 0) | (.inr q1)=>e=.ret∧vS prog Go.Proofs.Try.f85 0 [] (Ii q1) st')) ?_ ?_
 ·replace h:=h_1
  refine zT (id:=0) (by kernel_rfl) ?_
  refine wk [0] [] [.s 0,.s 3,.s 5] [.s 0] [(0,.sl false 2 (Mp zC l_1)),(3,Pp 0),(5,Ii 0)] [(0,Vb 57 [Ii p_1.c0,Ii p_1.c1])] an ?_
  refine yF (fun n st=>∃ (i_1:Int),st=mk [(0,.sl false 2 (Mp zC l_1)),(3,Pp 0),(5,Ii i_1)] [(0,Vb 57 [Ii p_1.c0,Ii p_1.c1])] 1∧jW F l_1 p_1 n i_1=some o_1) F (by kernel_rfl) ⟨_,rfl,h⟩ ?_ ?_
  ·rintro _ ⟨_,_,h⟩;exact yM (h:(none:Option (Unit⊕Int))=some o_1)
  rintro n_1 _ ⟨i_1,rfl,h⟩
  replace h:w4 F l_1 p_1 (jW F l_1 p_1 n_1) i_1=some o_1:=h
  unfold w4 at h
  refine sq ?_
  refine sr [(2,{ n:=(l_1).length })] [0,3,5,9] [0] 1 [.sl false 2 (Mp zC l_1),Pp 0,Ii i_1,.bool (decide (i_1<(lN (l_1))))] [Vb 57 [Ii p_1.c0,Ii p_1.c1]] zD (ac (zY _:((Mp zC l_1)).length=(l_1).length) an) ?_
  refine cd 9 (decide (i_1<(lN (l_1)))) ?_ ?_
  rotate_left
  ·intro g_1;replace h:=zO g_1 h
   refine yL (id:=0) (by kernel_rfl) ?_
   cases h
   exact ⟨rfl,(sw [] [] [] [] an)⟩
  intro g_1;replace h:=zN g_1 h
  refine sk ?_
  refine sq ?_
  refine zT (id:=1) (by kernel_rfl) ?_
  refine sq ?_
  obtain ⟨x_1,h_2,h⟩:=bind_some h
  refine rg [(2,{ av:=.agg [Ii x_1.c0,Ii x_1.c1] }),(5,{ b:=(decide (x_1=p_1)),mks:=[.int .i64,.int .i64] })] [0,3,5,17] [0] 1 [.sl false 2 (Mp zC l_1),Pp 0,Ii i_1,.bool (decide (x_1=p_1))] [Vb 57 [Ii p_1.c0,Ii p_1.c1]] zD (ac (yO h_2:xD (Mp zC l_1) i_1=some (.agg [Ii x_1.c0,Ii x_1.c1])) (ac (zKJ:zDv prog 57 [.int .i64,.int .i64]) (ac (zMc (f:=zC) zAT x_1 p_1:((decide (x_1=p_1))=true↔AV.agg [Ii x_1.c0,Ii x_1.c1]=AV.agg [Ii p_1.c0,Ii p_1.c1])) an))) ?_
  refine cd 17 (decide (x_1=p_1)) ?_ ?_
  rotate_left
  ·intro g_2;replace h:=zO g_2 h
   refine sk ?_
   refine rg [] [0,3,5] [0] 1 [.sl false 2 (Mp zC l_1),Pp 0,Ii (zK (i_1+(1:Int)))] [Vb 57 [Ii p_1.c0,Ii p_1.c1]] zD an ?_
   exact ⟨_,(sw [0] [] [.s 0,.s 3,.s 5] [.s 0] an),_,rfl,h⟩
  intro g_2;replace h:=zN g_2 h
  refine sr [] [4] [] 1 [Ii i_1] [] zD an ?_
  refine rt ?_
  cases h
  exact ⟨rfl,Nat.le_of_ble_eq_true rfl,by kernel_rfl⟩
 intro e st1 hk
 rcases o_1 with q_1 | q_2
 rotate_left
 ·obtain ⟨rfl,hf⟩:=hk
  cases h
  exact ⟨st1,Sub.refl _ _,.inr rfl,hf⟩
 obtain ⟨rfl,hs⟩:=hk
 refine ⟨_,hs,?_⟩
 refine sr [] [4] [] 0 [Ii (-1)] [] zD an ?_
 refine rt ?_
 cases h
 exact ⟨.inr rfl,Nat.le_of_ble_eq_true rfl,by kernel_rfl⟩
theorem zJu (F:Nat) (stacks_1:List (zE)) (i_1:Int) (r:Int) (h:zCJ F stacks_1 i_1=some r):zM prog 86 [] [] [.sl false 2 (Mp zC stacks_1),Ii i_1] [] (Ii r):=by
 refine zS (fn:=Go.Proofs.Try.f86) (code:=z6 Go.Proofs.Try.f86) (by kernel_rfl) (by kernel_rfl) (Nat.le_of_ble_eq_true (by kernel_rfl)) ?_
 unfold zCJ at h
 refine sr [] [0,1] [] 0 [.sl false 2 (Mp zC stacks_1),Ii i_1] [] zD an ?_
 refine sr [] [0,1,5] [] 0 [.sl false 2 (Mp zC stacks_1),Ii i_1,Ii 0] [] zD an ?_
 refine sq ?_
 obtain ⟨o_1,h_1,h⟩:=bind_some h
 refine zX (mk [(5,Ii o_1)] [] 0) ?_ ?_
 ·replace h:=h_1
  refine zT (id:=0) (by kernel_rfl) ?_
  refine wk [] [] [.s 0,.s 1,.s 5] [] [(0,.sl false 2 (Mp zC stacks_1)),(1,Ii i_1),(5,Ii 0)] [] an ?_
  refine yF (fun n st=>∃ (i_2:Int),∃ (n_1:Int),st=mk [(0,.sl false 2 (Mp zC stacks_1)),(1,Ii i_2),(5,Ii n_1)] [] 0∧pB F stacks_1 n i_2 n_1=some o_1) F (by kernel_rfl) ⟨_,_,rfl,h⟩ ?_ ?_
  ·rintro _ ⟨_,_,_,h⟩;exact yM (h:(none:Option Int)=some o_1)
  rintro n_2 _ ⟨i_2,n_1,rfl,h⟩
  replace h:uI F stacks_1 (pB F stacks_1 n_2) i_2 n_1=some o_1:=h
  unfold uI at h
  refine sq ?_
  refine sr [] [0,1,5,7] [] 0 [.sl false 2 (Mp zC stacks_1),Ii i_2,Ii n_1,.bool (decide (i_2≥(0:Int)))] [] zD an ?_
  refine cd 7 (decide (i_2≥(0:Int))) ?_ ?_
  rotate_left
  ·intro g_1;replace h:=zO g_1 h
   refine yL (id:=0) (by kernel_rfl) ?_
   cases h
   exact ⟨rfl,(sw [] [] [.s 5] [] an)⟩
  intro g_1;replace h:=zN g_1 h
  refine sk ?_
  refine zT (id:=1) (by kernel_rfl) ?_
  refine sr [] [0,1,5] [] 0 [.sl false 2 (Mp zC stacks_1),Ii i_2,Ii (zK (n_1+(1:Int)))] [] zD an ?_
  obtain ⟨x_1,h_2,h⟩:=bind_some h
  refine rg [(2,{ av:=.agg [Ii x_1.c0,Ii x_1.c1] })] [0,1,5] [] 0 [.sl false 2 (Mp zC stacks_1),Ii x_1.c0,Ii (zK (n_1+(1:Int)))] [] zD (ac (yO h_2:xD (Mp zC stacks_1) i_2=some (.agg [Ii x_1.c0,Ii x_1.c1])) (ac (by decide:(0:Int)≤(0:Int)) (ac (by decide:(0:Int)<((2:Nat):Int)) an))) ?_
  exact ⟨_,(sw [] [] [.s 0,.s 1,.s 5] [] an),_,_,rfl,h⟩
 refine sr [] [4] [] 0 [Ii o_1] [] zD an ?_
 refine rt ?_
 cases h
 exact ⟨.inr rfl,Nat.le_of_ble_eq_true rfl,by kernel_rfl⟩
theorem zAS (F:Nat) (names_1:List (List Int)) (stacks_1:List (zE)) (r:Int) (h:tH F names_1 stacks_1=some r):zM prog 55 [] [] [.sl false 1 (Ms names_1),.sl false 2 (Mp zC stacks_1)] [] (Ii r):=by
 refine zS (fn:=Go.Proofs.Try.f55) (code:=z6 Go.Proofs.Try.f55) (by kernel_rfl) (by kernel_rfl) (Nat.le_of_ble_eq_true (by kernel_rfl)) ?_
 unfold tH at h
 refine sr [] [0,1] [] 0 [.sl false 1 (Ms names_1),.sl false 2 (Mp zC stacks_1)] [] zD an ?_
 refine sq ?_
 refine sq ?_
 refine zX (mk [(0,.sl false 1 (Ms names_1)),(1,.sl false 2 (Mp zC stacks_1)),(15,.bool (decide ((lN (names_1))>(1000:Int))||decide ((lN (stacks_1))>(1000:Int))))] [] 0) ?_ ?_
 ·rcases bft (decide ((lN (names_1))>(1000:Int))) with gg_1 | gg_1
  ·refine rg [(1,{ n:=(names_1).length }),(4,Hg),(5,Hg),(6,Hg),(7,Ht)] [0,1,15] [] 0 [.sl false 1 (Ms names_1),.sl false 2 (Mp zC stacks_1),.bool true] [] zD (ac (zY _:((Ms names_1)).length=(names_1).length) (ac gg_1 (ac gg_1 (ac gg_1 (ac gg_1 an))))) ?_
   exact ⟨rfl,(sw [] [] [.s 0,.s 1,.a 15 (.bool (decide ((lN (names_1))>(1000:Int))||decide ((lN (stacks_1))>(1000:Int))))] [] (ac (congrArg AV.bool (ort gg_1):(.bool true:AV)=.bool (decide ((lN (names_1))>(1000:Int))||decide ((lN (stacks_1))>(1000:Int)))) an))⟩
  ·refine rg [(1,{ n:=(names_1).length }),(5,{ n:=(stacks_1).length }),(7,Hf)] [0,1,15] [] 0 [.sl false 1 (Ms names_1),.sl false 2 (Mp zC stacks_1),.bool (decide ((lN (stacks_1))>(1000:Int)))] [] zD (ac (zY _:((Ms names_1)).length=(names_1).length) (ac gg_1 (ac gg_1 (ac (zY _:((Mp zC stacks_1)).length=(stacks_1).length) (ac gg_1 (ac gg_1 an)))))) ?_
   exact ⟨rfl,(sw [] [] [.s 0,.s 1,.a 15 (.bool (decide ((lN (names_1))>(1000:Int))||decide ((lN (stacks_1))>(1000:Int))))] [] (ac (congrArg AV.bool (orf gg_1 rfl):(.bool (decide ((lN (stacks_1))>(1000:Int))):AV)=.bool (decide ((lN (names_1))>(1000:Int))||decide ((lN (stacks_1))>(1000:Int)))) an))⟩
 refine cd 15 (decide ((lN (names_1))>(1000:Int))||decide ((lN (stacks_1))>(1000:Int))) ?_ ?_
 ·intro g_1;replace h:=zN g_1 h
  refine sr [] [4] [] 0 [Ii 7] [] zD an ?_
  refine rt ?_
  cases h
  exact ⟨.inr rfl,Nat.le_of_ble_eq_true rfl,by kernel_rfl⟩
 intro g_1;replace h:=zO g_1 h
 refine sk ?_
 refine sq ?_
 refine sr [] [0,1,5] [] 0 [.sl false 1 (Ms names_1),.sl false 2 (Mp zC stacks_1),Ii 0] [] zD an ?_
 obtain ⟨o_1,h_1,h⟩:=bind_some h
 refine yZ (K1:=(fun e st'=>match o_1 with | (.inl q0)=>e=.normal∧Sub 0 st' (mk [(0,.sl false 1 (Ms names_1)),(1,.sl false 2 (Mp zC stacks_1))] [] 0) | (.inr q1)=>e=.ret∧vS prog Go.Proofs.Try.f55 0 [] (Ii q1) st')) ?_ ?_
 ·replace h:=h_1
  refine zT (id:=0) (by kernel_rfl) ?_
  refine wk [] [] [.s 0,.s 1,.s 5] [] [(0,.sl false 1 (Ms names_1)),(1,.sl false 2 (Mp zC stacks_1)),(5,Ii 0)] [] an ?_
  refine yF (fun n st=>∃ (i_1:Int),st=mk [(0,.sl false 1 (Ms names_1)),(1,.sl false 2 (Mp zC stacks_1)),(5,Ii i_1)] [] 0∧pC F names_1 n i_1=some o_1) F (by kernel_rfl) ⟨_,rfl,h⟩ ?_ ?_
  ·rintro _ ⟨_,_,h⟩;exact yM (h:(none:Option (Unit⊕Int))=some o_1)
  rintro n_1 _ ⟨i_1,rfl,h⟩
  replace h:uJ F names_1 (pC F names_1 n_1) i_1=some o_1:=h
  unfold uJ at h
  refine sq ?_
  refine sr [(2,{ n:=(names_1).length })] [0,1,5,19] [] 0 [.sl false 1 (Ms names_1),.sl false 2 (Mp zC stacks_1),Ii i_1,.bool (decide (i_1<(lN (names_1))))] [] zD (ac (zY _:((Ms names_1)).length=(names_1).length) an) ?_
  refine cd 19 (decide (i_1<(lN (names_1)))) ?_ ?_
  rotate_left
  ·intro g_2;replace h:=zO g_2 h
   refine yL (id:=0) (by kernel_rfl) ?_
   cases h
   exact ⟨rfl,(sw [] [] [.s 0,.s 1] [] an)⟩
  intro g_2;replace h:=zN g_2 h
  refine sk ?_
  refine sq ?_
  refine zT (id:=1) (by kernel_rfl) ?_
  refine sq ?_
  refine sq ?_
  obtain ⟨x_1,h_2,h⟩:=bind_some h
  obtain ⟨r_1,h_3,h⟩:=bind_some h
  refine rg [(2,{ av:=.str x_1 }),(4,{ av:=Ii r_1,l:=[.str x_1] })] [0,1,5,27] [] 0 [.sl false 1 (Ms names_1),.sl false 2 (Mp zC stacks_1),Ii i_1,.bool (r_1 != (0:Int))] [] zD (ac (yO h_2:xD (Ms names_1) i_1=some (.str x_1)) (ar ([.str x_1]:List AV) (ac (rfl:([]:List zP)=[]) (ac (zBx F x_1 r_1 h_3:zM prog 72 [] [] [.str x_1] [] (Ii r_1)) an)))) ?_
  refine cd 27 (r_1 != (0:Int)) ?_ ?_
  ·intro g_3;replace h:=zN g_3 h
   refine sr [] [4] [] 0 [Ii 3] [] zD an ?_
   refine rt ?_
   cases h
   exact ⟨rfl,Nat.le_of_ble_eq_true rfl,by kernel_rfl⟩
  intro g_3;replace h:=zO g_3 h
  refine sk ?_
  refine sq ?_
  obtain ⟨_,h_4,h⟩:=bind_some h;replace h_4:=z0 h_4
  obtain ⟨x_2,h_5,h⟩:=bind_some h
  obtain ⟨r_2,h_6,h⟩:=bind_some h
  refine rg [(2,{ l:=(Ms (sub names_1 (0:Int) i_1)) }),(5,{ av:=.str x_2 }),(7,{ av:=Ii r_2,l:=[.sl false 1 (Ms (sub names_1 (0:Int) i_1)),.str x_2] })] [0,1,5,36] [] 0 [.sl false 1 (Ms names_1),.sl false 2 (Mp zC stacks_1),Ii i_1,.bool (decide (r_2≥(0:Int)))] [] zD (ac (by decide:(0:Int)≤(0:Int)) (ac h_4.1 (ac (v5 h_4.2:i_1≤(lN ((Ms names_1)))) (ac (zBP _ _ _:(Ms (sub names_1 (0:Int) i_1))=(((Ms names_1)).take (i_1).toNat).drop ((0:Int)).toNat) (ac (yO h_5:xD (Ms names_1) i_1=some (.str x_2)) (ar ([.sl false 1 (Ms (sub names_1 (0:Int) i_1)),.str x_2]:List AV) (ac (rfl:([]:List zP)=[]) (ac (zFb F (sub names_1 (0:Int) i_1) x_2 r_2 h_6:zM prog 84 [] [] [.sl false 1 (Ms (sub names_1 (0:Int) i_1)),.str x_2] [] (Ii r_2)) an)))))))) ?_
  refine cd 36 (decide (r_2≥(0:Int))) ?_ ?_
  rotate_left
  ·intro g_4;replace h:=zO g_4 h
   refine sk ?_
   refine rg [] [0,1,5] [] 0 [.sl false 1 (Ms names_1),.sl false 2 (Mp zC stacks_1),Ii (zK (i_1+(1:Int)))] [] zD an ?_
   exact ⟨_,(sw [] [] [.s 0,.s 1,.s 5] [] an),_,rfl,h⟩
  intro g_4;replace h:=zN g_4 h
  refine sr [] [4] [] 0 [Ii 4] [] zD an ?_
  refine rt ?_
  cases h
  exact ⟨rfl,Nat.le_of_ble_eq_true rfl,by kernel_rfl⟩
 intro e st1 hk
 rcases o_1 with q_1 | q_2
 rotate_left
 ·obtain ⟨rfl,hf⟩:=hk
  cases h
  exact ⟨st1,Sub.refl _ _,.inr rfl,hf⟩
 obtain ⟨rfl,hs⟩:=hk
 refine ⟨_,hs,?_⟩
 refine sq ?_
 refine sr [] [0,1,6] [] 0 [.sl false 1 (Ms names_1),.sl false 2 (Mp zC stacks_1),Ii 0] [] zD an ?_
 obtain ⟨o_2,h_7,h⟩:=bind_some h
 refine yZ (K1:=(fun e st'=>match o_2 with | (.inl q0)=>e=.normal∧Sub 0 st' (mk [] [] 0) | (.inr q1)=>e=.ret∧vS prog Go.Proofs.Try.f55 0 [] (Ii q1) st')) ?_ ?_
 ·replace h:=h_7
  refine zT (id:=2) (by kernel_rfl) ?_
  refine wk [] [] [.s 0,.s 1,.s 6] [] [(0,.sl false 1 (Ms names_1)),(1,.sl false 2 (Mp zC stacks_1)),(6,Ii 0)] [] an ?_
  refine yF (fun n st=>∃ (i_2:Int),st=mk [(0,.sl false 1 (Ms names_1)),(1,.sl false 2 (Mp zC stacks_1)),(6,Ii i_2)] [] 0∧kS F names_1 stacks_1 n i_2=some o_2) F (by kernel_rfl) ⟨_,rfl,h⟩ ?_ ?_
  ·rintro _ ⟨_,_,h⟩;exact yM (h:(none:Option (Unit⊕Int))=some o_2)
  rintro n_2 _ ⟨i_2,rfl,h⟩
  replace h:jE F names_1 stacks_1 (kS F names_1 stacks_1 n_2) i_2=some o_2:=h
  unfold jE at h
  refine sq ?_
  refine sr [(2,{ n:=(stacks_1).length })] [0,1,6,40] [] 0 [.sl false 1 (Ms names_1),.sl false 2 (Mp zC stacks_1),Ii i_2,.bool (decide (i_2<(lN (stacks_1))))] [] zD (ac (zY _:((Mp zC stacks_1)).length=(stacks_1).length) an) ?_
  refine cd 40 (decide (i_2<(lN (stacks_1)))) ?_ ?_
  rotate_left
  ·intro g_5;replace h:=zO g_5 h
   refine yL (id:=2) (by kernel_rfl) ?_
   cases h
   exact ⟨rfl,(sw [] [] [] [] an)⟩
  intro g_5;replace h:=zN g_5 h
  refine sk ?_
  refine sq ?_
  refine zT (id:=3) (by kernel_rfl) ?_
  refine sq ?_
  obtain ⟨x_3,h_8,h⟩:=bind_some h
  refine rg [(2,{ av:=.agg [Ii x_3.c0,Ii x_3.c1] }),(4,{ id:=0 })] [0,1,6,7] [0] 1 [.sl false 1 (Ms names_1),.sl false 2 (Mp zC stacks_1),Ii i_2,Pp 0] [Vb 57 [Ii x_3.c0,Ii x_3.c1]] zD (ac (yO h_8:xD (Mp zC stacks_1) i_2=some (.agg [Ii x_3.c0,Ii x_3.c1])) an) ?_
  refine sq ?_
  refine sq ?_
  refine zX (mk [(0,.sl false 1 (Ms names_1)),(1,.sl false 2 (Mp zC stacks_1)),(6,Ii i_2),(7,Pp 0),(67,.bool (decide (x_3.c0<(-1:Int))||(decide (x_3.c0≥i_2)||(decide (x_3.c1<(0:Int))||decide (x_3.c1≥(lN (names_1)))))))] [(0,Vb 57 [Ii x_3.c0,Ii x_3.c1])] 1) ?_ ?_
  ·rcases bft (decide (x_3.c0<(-1:Int))) with gg_11 | gg_11
   ·refine rg [(4,Hg),(5,Hg),(6,Hg),(7,Hg),(8,Ht),(10,Hg),(11,Hg),(12,Hg),(13,Ht),(15,Hg),(16,Hg),(17,Hg),(18,Hg),(19,Hg),(20,Ht)] [0,1,6,7,51,52,53,54,57,58,59,62,63,64,65,66,67] [0] 1 [.sl false 1 (Ms names_1),.sl false 2 (Mp zC stacks_1),Ii i_2,Pp 0,.tuple [],.tuple [],.tuple [],.tuple [],.tuple [],.tuple [],.tuple [],.tuple [],.tuple [],.tuple [],.tuple [],.tuple [],.bool true] [Vb 57 [Ii x_3.c0,Ii x_3.c1]] zD (ac (by decide:(0:Int)≤(0:Int)) (ac (by decide:(0:Int)<((2:Nat):Int)) (ac gg_11 (ac gg_11 (ac gg_11 (ac gg_11 (ac gg_11 (ax (ax (ax (ar true (ax (ax (ax (ax (ax (ar true an))))))))))))))))) ?_
    exact ⟨rfl,(sw [0] [] [.s 0,.s 1,.s 6,.s 7,.a 67 (.bool (decide (x_3.c0<(-1:Int))||(decide (x_3.c0≥i_2)||(decide (x_3.c1<(0:Int))||decide (x_3.c1≥(lN (names_1)))))))] [.s 0] (ac (congrArg AV.bool (ort gg_11):(.bool true:AV)=.bool (decide (x_3.c0<(-1:Int))||(decide (x_3.c0≥i_2)||(decide (x_3.c1<(0:Int))||decide (x_3.c1≥(lN (names_1))))))) an))⟩
   ·rcases bft (decide (x_3.c0≥i_2)) with gg_12 | gg_12
    ·refine rg [(8,Hf),(10,Hg),(11,Hg),(12,Hg),(13,Ht),(15,Hg),(16,Hg),(17,Hg),(18,Hg),(19,Hg),(20,Ht)] [0,1,6,7,51,52,53,54,57,58,59,62,63,64,65,66,67] [0] 1 [.sl false 1 (Ms names_1),.sl false 2 (Mp zC stacks_1),Ii i_2,Pp 0,Pp 0,Ii x_3.c0,Ii i_2,.bool (decide (x_3.c0≥i_2)),.tuple [],.tuple [],.tuple [],.tuple [],.tuple [],.tuple [],.tuple [],.tuple [],.bool true] [Vb 57 [Ii x_3.c0,Ii x_3.c1]] zD (ac (by decide:(0:Int)≤(0:Int)) (ac (by decide:(0:Int)<((2:Nat):Int)) (ac gg_11 (ac (by decide:(0:Int)≤(0:Int)) (ac (by decide:(0:Int)<((2:Nat):Int)) (ac gg_11 (ac gg_11 (ac gg_11 (ac gg_11 (ac gg_12 (ac gg_12 (ac gg_12 (ac gg_12 (ax (ax (ax (ax (ax (ar true an))))))))))))))))))) ?_
     exact ⟨rfl,(sw [0] [] [.s 0,.s 1,.s 6,.s 7,.a 67 (.bool (decide (x_3.c0<(-1:Int))||(decide (x_3.c0≥i_2)||(decide (x_3.c1<(0:Int))||decide (x_3.c1≥(lN (names_1)))))))] [.s 0] (ac (congrArg AV.bool (orf gg_11 (ort gg_12)):(.bool true:AV)=.bool (decide (x_3.c0<(-1:Int))||(decide (x_3.c0≥i_2)||(decide (x_3.c1<(0:Int))||decide (x_3.c1≥(lN (names_1))))))) an))⟩
    ·rcases bft (decide (x_3.c1<(0:Int))) with gg_13 | gg_13
     ·refine rg [(8,Hf),(13,Hf),(15,Hg),(16,Hg),(17,Hg),(18,Hg),(19,Hg),(20,Ht)] [0,1,6,7,51,52,53,54,57,58,59,62,63,64,65,66,67] [0] 1 [.sl false 1 (Ms names_1),.sl false 2 (Mp zC stacks_1),Ii i_2,Pp 0,Pp 0,Ii x_3.c0,Ii i_2,.bool (decide (x_3.c0≥i_2)),.ptr 0 0 0 1,Ii x_3.c1,.bool (decide (x_3.c1<(0:Int))),.tuple [],.tuple [],.tuple [],.tuple [],.tuple [],.bool true] [Vb 57 [Ii x_3.c0,Ii x_3.c1]] zD (ac (by decide:(0:Int)≤(0:Int)) (ac (by decide:(0:Int)<((2:Nat):Int)) (ac gg_11 (ac (by decide:(0:Int)≤(0:Int)) (ac (by decide:(0:Int)<((2:Nat):Int)) (ac gg_11 (ac gg_11 (ac gg_11 (ac gg_11 (ac gg_12 (ac (by decide:(0:Int)≤(1:Int)) (ac (by decide:(1:Int)<((2:Nat):Int)) (ac gg_12 (ac gg_12 (ac gg_12 (ac gg_13 (ac gg_13 (ac gg_13 (ac gg_13 (ac gg_13 (ac gg_13 an))))))))))))))))))))) ?_
      exact ⟨rfl,(sw [0] [] [.s 0,.s 1,.s 6,.s 7,.a 67 (.bool (decide (x_3.c0<(-1:Int))||(decide (x_3.c0≥i_2)||(decide (x_3.c1<(0:Int))||decide (x_3.c1≥(lN (names_1)))))))] [.s 0] (ac (congrArg AV.bool (orf gg_11 (orf gg_12 (ort gg_13))):(.bool true:AV)=.bool (decide (x_3.c0<(-1:Int))||(decide (x_3.c0≥i_2)||(decide (x_3.c1<(0:Int))||decide (x_3.c1≥(lN (names_1))))))) an))⟩
     ·refine rg [(8,Hf),(13,Hf),(18,{ n:=(names_1).length }),(20,Hf)] [0,1,6,7,51,52,53,54,57,58,59,62,63,64,65,66,67] [0] 1 [.sl false 1 (Ms names_1),.sl false 2 (Mp zC stacks_1),Ii i_2,Pp 0,Pp 0,Ii x_3.c0,Ii i_2,.bool (decide (x_3.c0≥i_2)),.ptr 0 0 0 1,Ii x_3.c1,.bool (decide (x_3.c1<(0:Int))),.ptr 0 0 0 1,Ii x_3.c1,.sl false 1 (Ms names_1),Ii (lN (names_1)),.bool (decide (x_3.c1≥(lN (names_1)))),.bool (decide (x_3.c1≥(lN (names_1))))] [Vb 57 [Ii x_3.c0,Ii x_3.c1]] zD (ac (by decide:(0:Int)≤(0:Int)) (ac (by decide:(0:Int)<((2:Nat):Int)) (ac gg_11 (ac (by decide:(0:Int)≤(0:Int)) (ac (by decide:(0:Int)<((2:Nat):Int)) (ac gg_11 (ac gg_11 (ac gg_11 (ac gg_11 (ac gg_12 (ac (by decide:(0:Int)≤(1:Int)) (ac (by decide:(1:Int)<((2:Nat):Int)) (ac gg_12 (ac gg_12 (ac gg_12 (ac gg_13 (ac (by decide:(0:Int)≤(1:Int)) (ac (by decide:(1:Int)<((2:Nat):Int)) (ac gg_13 (ac gg_13 (ac gg_13 (ac (zY _:((Ms names_1)).length=(names_1).length) (ac gg_13 (ac gg_13 an)))))))))))))))))))))))) ?_
      exact ⟨rfl,(sw [0] [] [.s 0,.s 1,.s 6,.s 7,.a 67 (.bool (decide (x_3.c0<(-1:Int))||(decide (x_3.c0≥i_2)||(decide (x_3.c1<(0:Int))||decide (x_3.c1≥(lN (names_1)))))))] [.s 0] (ac (congrArg AV.bool (orf gg_11 (orf gg_12 (orf gg_13 rfl))):(.bool (decide (x_3.c1≥(lN (names_1)))):AV)=.bool (decide (x_3.c0<(-1:Int))||(decide (x_3.c0≥i_2)||(decide (x_3.c1<(0:Int))||decide (x_3.c1≥(lN (names_1))))))) an))⟩
  refine cd 67 (decide (x_3.c0<(-1:Int))||(decide (x_3.c0≥i_2)||(decide (x_3.c1<(0:Int))||decide (x_3.c1≥(lN (names_1)))))) ?_ ?_
  ·intro g_6;replace h:=zN g_6 h
   refine sr [] [4] [] 1 [Ii 2] [] zD an ?_
   refine rt ?_
   cases h
   exact ⟨rfl,Nat.le_of_ble_eq_true rfl,by kernel_rfl⟩
  intro g_6;replace h:=zO g_6 h
  refine sk ?_
  refine sq ?_
  refine sq ?_
  obtain ⟨_,h_9,h⟩:=bind_some h;replace h_9:=z0 h_9
  obtain ⟨r_3,h_10,h⟩:=bind_some h
  refine rg [(2,{ l:=(Mp zC (sub stacks_1 (0:Int) i_2)) }),(4,{ av:=Ii r_3,l:=[.sl false 2 (Mp zC (sub stacks_1 (0:Int) i_2)),.agg [Ii x_3.c0,Ii x_3.c1]] })] [0,1,6,73] [] 1 [.sl false 1 (Ms names_1),.sl false 2 (Mp zC stacks_1),Ii i_2,.bool (decide (r_3≥(0:Int)))] [] zD (ac (by decide:(0:Int)≤(0:Int)) (ac h_9.1 (ac (v5 h_9.2:i_2≤(lN ((Mp zC stacks_1)))) (ac (zBP _ _ _:(Mp zC (sub stacks_1 (0:Int) i_2))=(((Mp zC stacks_1)).take (i_2).toNat).drop ((0:Int)).toNat) (ar ([.sl false 2 (Mp zC (sub stacks_1 (0:Int) i_2)),.agg [Ii x_3.c0,Ii x_3.c1]]:List AV) (ac (rfl:([]:List zP)=[]) (ac (zCi F (sub stacks_1 (0:Int) i_2) x_3 r_3 h_10:zM prog 85 [] [] [.sl false 2 (Mp zC (sub stacks_1 (0:Int) i_2)),.agg [Ii x_3.c0,Ii x_3.c1]] [] (Ii r_3)) an))))))) ?_
  refine cd 73 (decide (r_3≥(0:Int))) ?_ ?_
  ·intro g_7;replace h:=zN g_7 h
   refine sr [] [4] [] 1 [Ii 4] [] zD an ?_
   refine rt ?_
   cases h
   exact ⟨rfl,Nat.le_of_ble_eq_true rfl,by kernel_rfl⟩
  intro g_7;replace h:=zO g_7 h
  refine sk ?_
  refine sq ?_
  obtain ⟨r_4,h_11,h⟩:=bind_some h
  refine rg [(2,{ av:=Ii r_4,l:=[.sl false 2 (Mp zC stacks_1),Ii i_2] })] [0,1,6,77] [] 1 [.sl false 1 (Ms names_1),.sl false 2 (Mp zC stacks_1),Ii i_2,.bool (decide (r_4>(32:Int)))] [] zD (ar ([.sl false 2 (Mp zC stacks_1),Ii i_2]:List AV) (ac (rfl:([]:List zP)=[]) (ac (zJu F stacks_1 i_2 r_4 h_11:zM prog 86 [] [] [.sl false 2 (Mp zC stacks_1),Ii i_2] [] (Ii r_4)) an))) ?_
  refine cd 77 (decide (r_4>(32:Int))) ?_ ?_
  rotate_left
  ·intro g_8;replace h:=zO g_8 h
   refine sk ?_
   refine rg [] [0,1,6] [] 1 [.sl false 1 (Ms names_1),.sl false 2 (Mp zC stacks_1),Ii (zK (i_2+(1:Int)))] [] zD an ?_
   exact ⟨_,(sw [] [] [.s 0,.s 1,.s 6] [] an),_,rfl,h⟩
  intro g_8;replace h:=zN g_8 h
  refine sr [] [4] [] 1 [Ii 7] [] zD an ?_
  refine rt ?_
  cases h
  exact ⟨rfl,Nat.le_of_ble_eq_true rfl,by kernel_rfl⟩
 intro e st1 hk
 rcases o_2 with q_3 | q_4
 rotate_left
 ·obtain ⟨rfl,hf⟩:=hk
  cases h
  exact ⟨st1,Sub.refl _ _,.inr rfl,hf⟩
 obtain ⟨rfl,hs⟩:=hk
 refine ⟨_,hs,?_⟩
 refine sr [] [4] [] 0 [Ii 0] [] zD an ?_
 refine rt ?_
 cases h
 exact ⟨.inr rfl,Nat.le_of_ble_eq_true rfl,by kernel_rfl⟩
theorem zEZ (k_1:Int) (r:Bool×Bool×Bool×Bool) (h:zBt k_1=some r):zM prog 56 [] [] [Ii k_1] [] (.tuple [.bool r.1,.bool r.2.1,.bool r.2.2.1,.bool r.2.2.2]):=by
 refine zS (fn:=Go.Proofs.Try.f56) (code:=z6 Go.Proofs.Try.f56) (by kernel_rfl) (by kernel_rfl) (Nat.le_of_ble_eq_true (by kernel_rfl)) ?_
 unfold zBt at h
 refine sr [] [0] [] 0 [Ii k_1] [] zD an ?_
 refine sq ?_
 refine sr [] [6] [] 0 [Ii k_1] [] zD an ?_
 refine zT (id:=0) (by kernel_rfl) ?_
 refine sq ?_
 refine sr [] [6,7] [] 0 [Ii k_1,.bool (k_1==(1:Int))] [] zD an ?_
 obtain ⟨o_1,h_1,h⟩:=bind_some h
 refine zX (mk [(6,Ii k_1),(7,.bool o_1)] [] 0) ?_ ?_
 ·replace h:=h_1
  refine cd 7 (k_1==(1:Int)) ?_ ?_
  ·intro g_1;replace h:=zN g_1 h
   refine sk ?_
   cases h
   exact ⟨rfl,(sw [] [] [.s 6,.s 7] [] an)⟩
  intro g_1;replace h:=zO g_1 h
  refine rg [] [6,7] [] 0 [Ii k_1,.bool (k_1==(3:Int))] [] zD an ?_
  cases h
  exact ⟨rfl,(sw [] [] [.s 6,.s 7] [] an)⟩
 refine cd 7 o_1 ?_ ?_
 ·intro g_2;replace h:=zN g_2 h
  refine sr [] [2,3,4,5] [] 0 [.bool true,.bool false,.bool false,.bool false] [] zD an ?_
  refine rt ?_
  cases h
  exact ⟨.inr rfl,Nat.le_of_ble_eq_true rfl,by kernel_rfl⟩
 intro g_2;replace h:=zO g_2 h
 refine sr [] [6,10] [] 0 [Ii k_1,.bool (k_1==(4:Int))] [] zD an ?_
 refine cd 10 (k_1==(4:Int)) ?_ ?_
 ·intro g_3;replace h:=zN g_3 h
  refine sr [] [2,3,4,5] [] 0 [.bool true,.bool true,.bool false,.bool false] [] zD an ?_
  refine rt ?_
  cases h
  exact ⟨.inr rfl,Nat.le_of_ble_eq_true rfl,by kernel_rfl⟩
 intro g_3;replace h:=zO g_3 h
 refine sr [] [6,12] [] 0 [Ii k_1,.bool (k_1==(5:Int))] [] zD an ?_
 refine cd 12 (k_1==(5:Int)) ?_ ?_
 ·intro g_4;replace h:=zN g_4 h
  refine sr [] [2,3,4,5] [] 0 [.bool false,.bool true,.bool false,.bool true] [] zD an ?_
  refine rt ?_
  cases h
  exact ⟨.inr rfl,Nat.le_of_ble_eq_true rfl,by kernel_rfl⟩
 intro g_4;replace h:=zO g_4 h
 refine sq ?_
 refine sr [] [6,14] [] 0 [Ii k_1,.bool (k_1==(6:Int))] [] zD an ?_
 obtain ⟨o_2,h_2,h⟩:=bind_some h
 refine zX (mk [(6,Ii k_1),(14,.bool o_2)] [] 0) ?_ ?_
 ·replace h:=h_2
  refine cd 14 (k_1==(6:Int)) ?_ ?_
  ·intro g_5;replace h:=zN g_5 h
   refine sk ?_
   cases h
   exact ⟨rfl,(sw [] [] [.s 6,.s 14] [] an)⟩
  intro g_5;replace h:=zO g_5 h
  refine sr [] [6,14] [] 0 [Ii k_1,.bool (k_1==(7:Int))] [] zD an ?_
  refine cd 14 (k_1==(7:Int)) ?_ ?_
  ·intro g_6;replace h:=zN g_6 h
   refine sk ?_
   cases h
   exact ⟨rfl,(sw [] [] [.s 6,.s 14] [] an)⟩
  intro g_6;replace h:=zO g_6 h
  refine sr [] [6,14] [] 0 [Ii k_1,.bool (k_1==(8:Int))] [] zD an ?_
  refine cd 14 (k_1==(8:Int)) ?_ ?_
  ·intro g_7;replace h:=zN g_7 h
   refine sk ?_
   cases h
   exact ⟨rfl,(sw [] [] [.s 6,.s 14] [] an)⟩
  intro g_7;replace h:=zO g_7 h
  refine sr [] [6,14] [] 0 [Ii k_1,.bool (k_1==(10:Int))] [] zD an ?_
  refine cd 14 (k_1==(10:Int)) ?_ ?_
  ·intro g_8;replace h:=zN g_8 h
   refine sk ?_
   cases h
   exact ⟨rfl,(sw [] [] [.s 6,.s 14] [] an)⟩
  intro g_8;replace h:=zO g_8 h
  refine rg [] [6,14] [] 0 [Ii k_1,.bool (k_1==(12:Int))] [] zD an ?_
  cases h
  exact ⟨rfl,(sw [] [] [.s 6,.s 14] [] an)⟩
 refine cd 14 o_2 ?_ ?_
 ·intro g_9;replace h:=zN g_9 h
  refine sr [] [2,3,4,5] [] 0 [.bool false,.bool true,.bool false,.bool false] [] zD an ?_
  refine rt ?_
  cases h
  exact ⟨.inr rfl,Nat.le_of_ble_eq_true rfl,by kernel_rfl⟩
 intro g_9;replace h:=zO g_9 h
 refine sr [] [6,20] [] 0 [Ii k_1,.bool (k_1==(9:Int))] [] zD an ?_
 refine cd 20 (k_1==(9:Int)) ?_ ?_
 ·intro g_10;replace h:=zN g_10 h
  refine sr [] [2,3,4,5] [] 0 [.bool false,.bool true,.bool true,.bool false] [] zD an ?_
  refine rt ?_
  cases h
  exact ⟨.inr rfl,Nat.le_of_ble_eq_true rfl,by kernel_rfl⟩
 intro g_10;replace h:=zO g_10 h
 refine sr [] [22] [] 0 [.bool (k_1==(11:Int))] [] zD an ?_
 refine cd 22 (k_1==(11:Int)) ?_ ?_
 ·intro g_11;replace h:=zN g_11 h
  refine sr [] [2,3,4,5] [] 0 [.bool false,.bool true,.bool true,.bool true] [] zD an ?_
  refine rt ?_
  cases h
  exact ⟨.inr rfl,Nat.le_of_ble_eq_true rfl,by kernel_rfl⟩
 intro g_11;replace h:=zO g_11 h
 refine sk ?_
 refine sr [] [2,3,4,5] [] 0 [.bool false,.bool false,.bool false,.bool false] [] zD an ?_
 refine rt ?_
 cases h
 exact ⟨.inr rfl,Nat.le_of_ble_eq_true rfl,by kernel_rfl⟩
theorem zF4 (F:Nat) (names_1:List (List Int)) (s_1:List Int) (r:Int×(List (List Int))×Int) (h:zCg F names_1 s_1=some r):zM prog 57 [] [] [.sl false 1 (Ms names_1),.str s_1] [] (.tuple [Ii r.1,.sl false 1 (Ms r.2.1),Ii r.2.2]):=by
 refine zS (fn:=Go.Proofs.Try.f57) (code:=z6 Go.Proofs.Try.f57) (by kernel_rfl) (by kernel_rfl) (Nat.le_of_ble_eq_true (by kernel_rfl)) ?_
 unfold zCg at h
 refine sr [] [0,1] [] 0 [.sl false 1 (Ms names_1),.str s_1] [] zD an ?_
 refine sq ?_
 refine sq ?_
 obtain ⟨r_1,h_1,h⟩:=bind_some h
 refine rg [(1,{ av:=Ii r_1,l:=[.str s_1] })] [0,1,10] [] 0 [.sl false 1 (Ms names_1),.str s_1,.bool (r_1 != (0:Int))] [] zD (ar ([.str s_1]:List AV) (ac (rfl:([]:List zP)=[]) (ac (zBx F s_1 r_1 h_1:zM prog 72 [] [] [.str s_1] [] (Ii r_1)) an))) ?_
 refine cd 10 (r_1 != (0:Int)) ?_ ?_
 ·intro g_1;replace h:=zN g_1 h
  refine sr [] [4,5,6] [] 0 [Ii 0,.sl false 1 (Ms names_1),Ii 3] [] zD an ?_
  refine rt ?_
  cases h
  exact ⟨.inr rfl,Nat.le_of_ble_eq_true rfl,by kernel_rfl⟩
 intro g_1;replace h:=zO g_1 h
 refine sk ?_
 refine sq ?_
 obtain ⟨r_2,h_2,h⟩:=bind_some h
 refine rg [(2,{ av:=Ii r_2,l:=[.sl false 1 (Ms names_1),.str s_1] })] [0,1,7] [] 0 [.sl false 1 (Ms names_1),.str s_1,Ii r_2] [] zD (ar ([.sl false 1 (Ms names_1),.str s_1]:List AV) (ac (rfl:([]:List zP)=[]) (ac (zFb F names_1 s_1 r_2 h_2:zM prog 84 [] [] [.sl false 1 (Ms names_1),.str s_1] [] (Ii r_2)) an))) ?_
 refine sq ?_
 refine sr [] [0,1,7,16] [] 0 [.sl false 1 (Ms names_1),.str s_1,Ii r_2,.bool (decide (r_2≥(0:Int)))] [] zD an ?_
 refine cd 16 (decide (r_2≥(0:Int))) ?_ ?_
 ·intro g_2;replace h:=zN g_2 h
  refine sr [] [4,5,6] [] 0 [Ii r_2,.sl false 1 (Ms names_1),Ii 0] [] zD an ?_
  refine rt ?_
  cases h
  exact ⟨.inr rfl,Nat.le_of_ble_eq_true rfl,by kernel_rfl⟩
 intro g_2;replace h:=zO g_2 h
 refine sk ?_
 refine sq ?_
 refine sr [(1,{ n:=(names_1).length })] [0,1,21] [] 0 [.sl false 1 (Ms names_1),.str s_1,.bool (decide ((lN (names_1))≥(1000:Int)))] [] zD (ac (zY _:((Ms names_1)).length=(names_1).length) an) ?_
 refine cd 21 (decide ((lN (names_1))≥(1000:Int))) ?_ ?_
 ·intro g_3;replace h:=zN g_3 h
  refine sr [] [4,5,6] [] 0 [Ii 0,.sl false 1 (Ms names_1),Ii 6] [] zD an ?_
  refine rt ?_
  cases h
  exact ⟨.inr rfl,Nat.le_of_ble_eq_true rfl,by kernel_rfl⟩
 intro g_3;replace h:=zO g_3 h
 refine sk ?_
 refine sq ?_
 obtain ⟨_,h_3,h⟩:=bind_some h;replace h_3:=z0 h_3
 obtain ⟨_,h_4,h⟩:=bind_some h;replace h_4:=z0 h_4
 refine rg [(1,{ n:=(names_1).length }),(2,{ id:=0 }),(4,{ id:=1,l:=(Ms ([]++names_1)),n:=(([]++names_1)).length }),(6,{ id:=2 }),(7,{ id:=3,l:=(Ms (([]++names_1)++([s_1]:List (List Int)))),n:=((([]++names_1)++([s_1]:List (List Int)))).length })] [4,5,6] [3] 4 [Ii (lN (names_1)),.own 3 (((([]++names_1)++([s_1]:List (List Int)))).length),Ii 0] [Rb 9 1 (Ms (([]++names_1)++([s_1]:List (List Int))))] zD (ac (zY _:((Ms names_1)).length=(names_1).length) (ac (by first | (simp;done) | (simp;omega):0=(([]:List AV)).length) (ac (trivial:True) (ac (by simp:(List.map AV.str ([]++names_1))=[]++(List.map AV.str names_1)) (ac (by simp:(([]++names_1)).length=((List.map AV.str ([]++names_1))).length) (ac (by first | (simp;done) | simpa using h_3:(([]:List AV).length+((List.map AV.str names_1):List AV).length) * 16≤140737488355328) (ac (by first | (simp;done) | (simp;omega):(([]++names_1)).length=((List.map AV.str ([]++names_1))).length) (ac (by first | (simp;done) | (simp;omega):1=((List.map AV.str ([s_1]:List (List Int)))).length) (ac (w9 _ _:(Ms (([]++names_1)++([s_1]:List (List Int))))=(Ms ([]++names_1))++(Ms ([s_1]:List (List Int)))) (ac (by simp:((([]++names_1)++([s_1]:List (List Int)))).length=((List.map AV.str (([]++names_1)++([s_1]:List (List Int))))).length) (ac (by first | (simp;done) | simpa using h_4:(((List.map AV.str ([]++names_1)):List AV).length+((List.map AV.str ([s_1]:List (List Int))):List AV).length) * 16≤140737488355328) an))))))))))) ?_
 refine wk [] [3] [.s 4,.a 5 (.sl false 1 (Ms (([]++names_1)++([s_1]:List (List Int))))),.s 6] [] [(4,Ii (lN (names_1))),(5,.sl false 1 (Ms (([]++names_1)++([s_1]:List (List Int))))),(6,Ii 0)] [] (ac (by first | (simp;done) | (simp;omega):((([]++names_1)++([s_1]:List (List Int)))).length=((List.map AV.str (([]++names_1)++([s_1]:List (List Int))))).length) (ar 1 (ar ((Ms (([]++names_1)++([s_1]:List (List Int)))):List AV) (ac (rfl:(!false||false)=true) an)))) ?_
 refine rt ?_
 cases h
 exact ⟨.inr rfl,Nat.le_of_ble_eq_true rfl,by kernel_rfl⟩
theorem zGN (F:Nat) (names_1:List (List Int)) (stacks_1:List (zE)) (l_1:List (List Int)) (r:Int×(List (List Int))×(List (zE))×Int) (h:kY F names_1 stacks_1 l_1=some r):zM prog 58 [] [] [.sl false 1 (Ms names_1),.sl false 2 (Mp zC stacks_1),.sl false 1 (Ms l_1)] [] (.tuple [Ii r.1,.sl false 1 (Ms r.2.1),.sl false 2 (Mp zC r.2.2.1),Ii r.2.2.2]):=by
 refine zS (fn:=Go.Proofs.Try.f58) (code:=z6 Go.Proofs.Try.f58) (by kernel_rfl) (by kernel_rfl) (Nat.le_of_ble_eq_true (by kernel_rfl)) ?_
 unfold kY at h
 refine sr [] [0,1,2] [] 0 [.sl false 1 (Ms names_1),.sl false 2 (Mp zC stacks_1),.sl false 1 (Ms l_1)] [] zD an ?_
 refine sq ?_
 obtain ⟨r_1,h_1,h⟩:=bind_some h
 refine rg [(1,{ av:=Ii r_1,l:=[.sl false 1 (Ms l_1)] })] [0,1,2,10] [] 0 [.sl false 1 (Ms names_1),.sl false 2 (Mp zC stacks_1),.sl false 1 (Ms l_1),Ii r_1] [] zD (ar ([.sl false 1 (Ms l_1)]:List AV) (ac (rfl:([]:List zP)=[]) (ac (zDX F l_1 r_1 h_1:zM prog 73 [] [] [.sl false 1 (Ms l_1)] [] (Ii r_1)) an))) ?_
 refine sq ?_
 refine sr [] [0,1,2,10,22] [] 0 [.sl false 1 (Ms names_1),.sl false 2 (Mp zC stacks_1),.sl false 1 (Ms l_1),Ii r_1,.bool (r_1 != (0:Int))] [] zD an ?_
 refine cd 22 (r_1 != (0:Int)) ?_ ?_
 ·intro g_1;replace h:=zN g_1 h
  refine sr [] [6,7,8,9] [] 0 [Ii 0,.sl false 1 (Ms names_1),.sl false 2 (Mp zC stacks_1),Ii r_1] [] zD an ?_
  refine rt ?_
  cases h
  exact ⟨.inr rfl,Nat.le_of_ble_eq_true rfl,by kernel_rfl⟩
 intro g_1;replace h:=zO g_1 h
 refine sk ?_
 refine sr [] [0,1,2,11] [] 0 [.sl false 1 (Ms names_1),.sl false 2 (Mp zC stacks_1),.sl false 1 (Ms l_1),Ii (-1)] [] zD an ?_
 refine sr [] [0,1,2,11,12] [] 0 [.sl false 1 (Ms names_1),.sl false 2 (Mp zC stacks_1),.sl false 1 (Ms l_1),Ii (-1),.sl false 1 (Ms names_1)] [] zD an ?_
 refine sq ?_
 obtain ⟨_,h_2,h⟩:=bind_some h;replace h_2:=z0 h_2
 refine rg [(0,{ id:=0 }),(2,{ id:=1,l:=(Mp zC ([]++stacks_1)),n:=(([]++stacks_1)).length })] [0,1,2,11,12,13] [1] 2 [.sl false 1 (Ms names_1),.sl false 2 (Mp zC stacks_1),.sl false 1 (Ms l_1),Ii (-1),.sl false 1 (Ms names_1),.own 1 ((([]++stacks_1)).length)] [Rb 57 2 (Mp zC ([]++stacks_1))] zD (ac (by first | (simp;done) | (simp;omega):0=(([]:List AV)).length) (ac (trivial:True) (ac (by simp:(List.map zC ([]++stacks_1))=[]++(List.map zC stacks_1)) (ac (by simp:(([]++stacks_1)).length=((List.map zC ([]++stacks_1))).length) (ac (by first | (simp;done) | simpa using h_2:(([]:List AV).length+((List.map zC stacks_1):List AV).length) * 16≤140737488355328) an))))) ?_
 refine sq ?_
 refine sr [] [0,1,2,11,12,13,14] [1] 2 [.sl false 1 (Ms names_1),.sl false 2 (Mp zC stacks_1),.sl false 1 (Ms l_1),Ii (-1),.sl false 1 (Ms names_1),.own 1 ((([]++stacks_1)).length),Ii 0] [Rb 57 2 (Mp zC ([]++stacks_1))] zD an ?_
 obtain ⟨o_1,h_3,h⟩:=bind_some h
 refine yZ (K1:=(fun e st'=>match o_1 with | (.inl q0)=>e=.normal∧Sub 0 st' (mk [(11,Ii q0.1),(12,.sl false 1 (Ms q0.2.1)),(13,.own 0 ((q0.2.2).length))] [(0,Rb 57 2 (Mp zC q0.2.2))] 1) | (.inr q1)=>e=.ret∧vS prog Go.Proofs.Try.f58 0 [] (.tuple [Ii q1.1,.sl false 1 (Ms q1.2.1),.sl false 2 (Mp zC q1.2.2.1),Ii q1.2.2.2]) st')) ?_ ?_
 ·replace h:=h_3
  refine zT (id:=0) (by kernel_rfl) ?_
  refine wk [1] [] [.s 0,.s 1,.s 2,.s 11,.s 12,.s 13,.s 14] [.s 0] [(0,.sl false 1 (Ms names_1)),(1,.sl false 2 (Mp zC stacks_1)),(2,.sl false 1 (Ms l_1)),(11,Ii (-1)),(12,.sl false 1 (Ms names_1)),(13,.own 0 ((([]++stacks_1)).length)),(14,Ii 0)] [(0,Rb 57 2 (Mp zC ([]++stacks_1)))] an ?_
  refine yF (fun n st=>∃ (at__1:Int),∃ (n_1:List (List Int)),∃ (k_1:Int),∃ (row_1:List zE),st=mk [(0,.sl false 1 (Ms names_1)),(1,.sl false 2 (Mp zC stacks_1)),(2,.sl false 1 (Ms l_1)),(11,Ii at__1),(12,.sl false 1 (Ms n_1)),(13,.own 0 ((row_1).length)),(14,Ii k_1)] [(0,Rb 57 2 (Mp zC row_1))] 1∧qY F names_1 stacks_1 l_1 n at__1 n_1 k_1 row_1=some o_1) F (by kernel_rfl) ⟨_,_,_,_,rfl,h⟩ ?_ ?_
  ·rintro _ ⟨_,_,_,_,_,h⟩;exact yM (h:(none:Option ((Int×(List (List Int))×(List zE))⊕(Int×(List (List Int))×(List (zE))×Int)))=some o_1)
  rintro n_2 _ ⟨at__1,n_1,k_1,row_1,rfl,h⟩
  replace h:tL F names_1 stacks_1 l_1 (qY F names_1 stacks_1 l_1 n_2) at__1 n_1 k_1 row_1=some o_1:=h
  unfold tL at h
  refine sq ?_
  refine sr [(2,{ n:=(l_1).length })] [0,1,2,11,12,13,14,33] [0] 1 [.sl false 1 (Ms names_1),.sl false 2 (Mp zC stacks_1),.sl false 1 (Ms l_1),Ii at__1,.sl false 1 (Ms n_1),.own 0 ((row_1).length),Ii k_1,.bool (decide (k_1<(lN (l_1))))] [Rb 57 2 (Mp zC row_1)] zD (ac (zY _:((Ms l_1)).length=(l_1).length) an) ?_
  refine cd 33 (decide (k_1<(lN (l_1)))) ?_ ?_
  rotate_left
  ·intro g_2;replace h:=zO g_2 h
   refine yL (id:=0) (by kernel_rfl) ?_
   cases h
   exact ⟨rfl,(sw [0] [] [.s 11,.s 12,.s 13] [.s 0] an)⟩
  intro g_2;replace h:=zN g_2 h
  refine sk ?_
  refine sq ?_
  obtain ⟨o_2,h_4,h⟩:=bind_some h
  refine yZ (K1:=(fun e st'=>match o_2 with | (.inl q0)=>e=.normal∧Sub 0 st' (mk [(0,.sl false 1 (Ms names_1)),(1,.sl false 2 (Mp zC stacks_1)),(2,.sl false 1 (Ms l_1)),(11,Ii q0.1),(12,.sl false 1 (Ms q0.2.1)),(13,.own 0 ((q0.2.2).length)),(14,Ii k_1)] [(0,Rb 57 2 (Mp zC q0.2.2))] 1) | (.inr q1)=>e=.ret∧vS prog Go.Proofs.Try.f58 0 [] (.tuple [Ii q1.1,.sl false 1 (Ms q1.2.1),.sl false 2 (Mp zC q1.2.2.1),Ii q1.2.2.2]) st')) ?_ ?_
  ·replace h:=h_4
   refine zT (id:=1) (by kernel_rfl) ?_
   refine sq ?_
   obtain ⟨x_1,h_5,h⟩:=bind_some h
   obtain ⟨r_2,h_6,h⟩:=bind_some h
   refine rg [(3,{ av:=.str x_1 }),(5,{ av:=.tuple [Ii r_2.1,.sl false 1 (Ms r_2.2.1),Ii r_2.2.2],l:=[.sl false 1 (Ms n_1),.str x_1] })] [0,1,2,11,13,14,15,16,17] [0] 1 [.sl false 1 (Ms names_1),.sl false 2 (Mp zC stacks_1),.sl false 1 (Ms l_1),Ii at__1,.own 0 ((row_1).length),Ii k_1,Ii r_2.1,.sl false 1 (Ms r_2.2.1),Ii r_2.2.2] [Rb 57 2 (Mp zC row_1)] zD (ac (yO h_5:xD (Ms l_1) k_1=some (.str x_1)) (ar ([.sl false 1 (Ms n_1),.str x_1]:List AV) (ac (rfl:([]:List zP)=[]) (ac (zF4 F n_1 x_1 r_2 h_6:zM prog 57 [] [] [.sl false 1 (Ms n_1),.str x_1] [] (.tuple [Ii r_2.1,.sl false 1 (Ms r_2.2.1),Ii r_2.2.2])) an)))) ?_
   refine sq ?_
   refine sr [] [0,1,2,11,13,14,15,16,17,47] [0] 1 [.sl false 1 (Ms names_1),.sl false 2 (Mp zC stacks_1),.sl false 1 (Ms l_1),Ii at__1,.own 0 ((row_1).length),Ii k_1,Ii r_2.1,.sl false 1 (Ms r_2.2.1),Ii r_2.2.2,.bool (r_2.2.2 != (0:Int))] [Rb 57 2 (Mp zC row_1)] zD an ?_
   refine cd 47 (r_2.2.2 != (0:Int)) ?_ ?_
   ·intro g_3;replace h:=zN g_3 h
    refine sr [] [6,7,8,9] [] 1 [Ii 0,.sl false 1 (Ms names_1),.sl false 2 (Mp zC stacks_1),Ii r_2.2.2] [] zD an ?_
    refine rt ?_
    cases h
    exact ⟨rfl,Nat.le_of_ble_eq_true rfl,by kernel_rfl⟩
   intro g_3;replace h:=zO g_3 h
   refine sk ?_
   refine sr [] [0,1,2,11,12,13,14,15] [0] 1 [.sl false 1 (Ms names_1),.sl false 2 (Mp zC stacks_1),.sl false 1 (Ms l_1),Ii at__1,.sl false 1 (Ms r_2.2.1),.own 0 ((row_1).length),Ii k_1,Ii r_2.1] [Rb 57 2 (Mp zC row_1)] zD an ?_
   refine sr [(3,{ id:=1 })] [0,1,2,12,13,14,18] [0,1] 2 [.sl false 1 (Ms names_1),.sl false 2 (Mp zC stacks_1),.sl false 1 (Ms l_1),.sl false 1 (Ms r_2.2.1),.own 0 ((row_1).length),Ii k_1,Pp 1] [Rb 57 2 (Mp zC row_1),Vb 57 [Ii at__1,Ii r_2.1]] zD an ?_
   refine sq ?_
   obtain ⟨r_3,h_7,h⟩:=bind_some h
   refine rg [(2,{ av:=Ii r_3,l:=[.sl false 2 (Mp zC row_1),.agg [Ii at__1,Ii r_2.1]],lend:=[0] })] [0,1,2,11,12,13,14,18] [0,1] 2 [.sl false 1 (Ms names_1),.sl false 2 (Mp zC stacks_1),.sl false 1 (Ms l_1),Ii r_3,.sl false 1 (Ms r_2.2.1),.own 0 ((row_1).length),Ii k_1,Pp 1] [Rb 57 2 (Mp zC row_1),Vb 57 [Ii at__1,Ii r_2.1]] zD (ac (by first | (simp;done) | (simp;omega):(row_1).length=((List.map zC row_1)).length) (ar ([.sl false 2 (Mp zC row_1),.agg [Ii at__1,Ii r_2.1]]:List AV) (ac (rfl:([]:List zP)=[]) (ac (y7 (args':=[.sl false 2 (Mp zC row_1),.agg [Ii ((⟨at__1,r_2.1⟩:zE).c0),Ii ((⟨at__1,r_2.1⟩:zE).c1)]]) (zCi F row_1 (⟨at__1,r_2.1⟩:zE) r_3 h_7) rfl ⟨rfl,rfl,rfl,rfl,rfl,trivial⟩:zM prog 85 [] [] [.sl false 2 (Mp zC row_1),.agg [Ii at__1,Ii r_2.1]] [] (Ii r_3)) an)))) ?_
   refine sq ?_
   refine sr [] [0,1,2,11,12,13,14,18,59] [0,1] 2 [.sl false 1 (Ms names_1),.sl false 2 (Mp zC stacks_1),.sl false 1 (Ms l_1),Ii r_3,.sl false 1 (Ms r_2.2.1),.own 0 ((row_1).length),Ii k_1,Pp 1,.bool (decide (r_3≥(0:Int)))] [Rb 57 2 (Mp zC row_1),Vb 57 [Ii at__1,Ii r_2.1]] zD an ?_
   refine cd 59 (decide (r_3≥(0:Int))) ?_ ?_
   ·intro g_4;replace h:=zN g_4 h
    refine yL (id:=1) (by kernel_rfl) ?_
    cases h
    exact ⟨rfl,(sw [0] [] [.s 0,.s 1,.s 2,.s 11,.s 12,.s 13,.s 14] [.s 0] an)⟩
   intro g_4;replace h:=zO g_4 h
   refine sk ?_
   refine sq ?_
   refine sr [] [0,1,2,12,13,14,18,62] [0,1] 2 [.sl false 1 (Ms names_1),.sl false 2 (Mp zC stacks_1),.sl false 1 (Ms l_1),.sl false 1 (Ms r_2.2.1),.own 0 ((row_1).length),Ii k_1,Pp 1,.bool (decide ((lN (row_1))≥(1000:Int)))] [Rb 57 2 (Mp zC row_1),Vb 57 [Ii at__1,Ii r_2.1]] zD an ?_
   refine cd 62 (decide ((lN (row_1))≥(1000:Int))) ?_ ?_
   ·intro g_5;replace h:=zN g_5 h
    refine sr [] [6,7,8,9] [] 2 [Ii 0,.sl false 1 (Ms names_1),.sl false 2 (Mp zC stacks_1),Ii 6] [] zD an ?_
    refine rt ?_
    cases h
    exact ⟨rfl,Nat.le_of_ble_eq_true rfl,by kernel_rfl⟩
   intro g_5;replace h:=zO g_5 h
   refine sk ?_
   refine sr [] [0,1,2,11,12,13,14,18] [0,1] 2 [.sl false 1 (Ms names_1),.sl false 2 (Mp zC stacks_1),.sl false 1 (Ms l_1),Ii (lN (row_1)),.sl false 1 (Ms r_2.2.1),.own 0 ((row_1).length),Ii k_1,Pp 1] [Rb 57 2 (Mp zC row_1),Vb 57 [Ii at__1,Ii r_2.1]] zD an ?_
   obtain ⟨_,h_8,h⟩:=bind_some h;replace h_8:=z0 h_8
   refine rg [(2,{ id:=2 }),(3,{ id:=3,l:=(Mp zC (row_1++([(⟨at__1,r_2.1⟩:zE)]:List zE))),n:=((row_1++([(⟨at__1,r_2.1⟩:zE)]:List zE))).length })] [0,1,2,11,12,13,14] [3] 4 [.sl false 1 (Ms names_1),.sl false 2 (Mp zC stacks_1),.sl false 1 (Ms l_1),Ii (lN (row_1)),.sl false 1 (Ms r_2.2.1),.own 3 (((row_1++([(⟨at__1,r_2.1⟩:zE)]:List zE))).length),Ii k_1] [Rb 57 2 (Mp zC (row_1++([(⟨at__1,r_2.1⟩:zE)]:List zE)))] zD (ac (by first | (simp;done) | (simp;omega):(row_1).length=((List.map zC row_1)).length) (ac (by first | (simp;done) | (simp;omega):1=((List.map zC ([(⟨at__1,r_2.1⟩:zE)]:List zE))).length) (ac (w9 _ _:(Mp zC (row_1++([(⟨at__1,r_2.1⟩:zE)]:List zE)))=(Mp zC row_1)++(Mp zC ([(⟨at__1,r_2.1⟩:zE)]:List zE))) (ac (by simp:((row_1++([(⟨at__1,r_2.1⟩:zE)]:List zE))).length=((List.map zC (row_1++([(⟨at__1,r_2.1⟩:zE)]:List zE)))).length) (ac (by first | (simp;done) | simpa using h_8:(((List.map zC row_1):List AV).length+((List.map zC ([(⟨at__1,r_2.1⟩:zE)]:List zE)):List AV).length) * 16≤140737488355328) an))))) ?_
   cases h
   exact ⟨rfl,(sw [3] [] [.s 0,.s 1,.s 2,.s 11,.s 12,.s 13,.s 14] [.s 0] an)⟩
  intro e st1 hk
  rcases o_2 with q_1 | q_2
  rotate_left
  ·obtain ⟨rfl,hf⟩:=hk
   cases h
   exact ⟨_,Sub.refl _ _,rfl,hf⟩
  obtain ⟨rfl,hs⟩:=hk
  refine ⟨_,hs,?_⟩
  refine rg [] [0,1,2,11,12,13,14] [0] 1 [.sl false 1 (Ms names_1),.sl false 2 (Mp zC stacks_1),.sl false 1 (Ms l_1),Ii q_1.1,.sl false 1 (Ms q_1.2.1),.own 0 ((q_1.2.2).length),Ii (zK (k_1+(1:Int)))] [Rb 57 2 (Mp zC q_1.2.2)] zD an ?_
  exact ⟨_,(sw [0] [] [.s 0,.s 1,.s 2,.s 11,.s 12,.s 13,.s 14] [.s 0] an),_,_,_,_,rfl,h⟩
 intro e st1 hk
 rcases o_1 with q_3 | q_4
 rotate_left
 ·obtain ⟨rfl,hf⟩:=hk
  cases h
  exact ⟨st1,Sub.refl _ _,.inr rfl,hf⟩
 obtain ⟨rfl,hs⟩:=hk
 refine ⟨_,hs,?_⟩
 refine sr [] [6,7,8,9] [0] 1 [Ii q_3.1,.sl false 1 (Ms q_3.2.1),.own 0 ((q_3.2.2).length),Ii 0] [Rb 57 2 (Mp zC q_3.2.2)] zD an ?_
 refine wk [] [0] [.s 6,.s 7,.a 8 (.sl false 2 (Mp zC q_3.2.2)),.s 9] [] [(6,Ii q_3.1),(7,.sl false 1 (Ms q_3.2.1)),(8,.sl false 2 (Mp zC q_3.2.2)),(9,Ii 0)] [] (ac (by first | (simp;done) | (simp;omega):(q_3.2.2).length=((List.map zC q_3.2.2)).length) (ar 2 (ar ((Mp zC q_3.2.2):List AV) (ac (rfl:(!false||false)=true) an)))) ?_
 refine rt ?_
 cases h
 exact ⟨.inr rfl,Nat.le_of_ble_eq_true rfl,by kernel_rfl⟩
theorem zIq (n_1:Int) (r:Int) (h:zAR n_1=some r):zM prog 60 [] [] [Ii n_1] [] (.int .u64 r):=by
 refine zS (fn:=Go.Proofs.Try.f60) (code:=z6 Go.Proofs.Try.f60) (by kernel_rfl) (by kernel_rfl) (Nat.le_of_ble_eq_true (by kernel_rfl)) ?_
 unfold zAR at h
 refine sr [] [0] [] 0 [Ii n_1] [] zD an ?_
 refine sq ?_
 refine sr [] [0,4] [] 0 [Ii n_1,.bool (decide (n_1<(0:Int)))] [] zD an ?_
 refine cd 4 (decide (n_1<(0:Int))) ?_ ?_
 ·intro g_1;replace h:=zN g_1 h
  refine sr [] [2] [] 0 [.int .u64 (zW ((zW ((2:Int) * (zW (zK (0 - (zK (n_1+(1:Int))))))))+(1:Int)))] [] zD an ?_
  refine rt ?_
  cases h
  exact ⟨.inr rfl,Nat.le_of_ble_eq_true rfl,by kernel_rfl⟩
 intro g_1;replace h:=zO g_1 h
 refine sk ?_
 refine sr [] [2] [] 0 [.int .u64 (zW ((2:Int) * (zW n_1)))] [] zD an ?_
 refine rt ?_
 cases h
 exact ⟨.inr rfl,Nat.le_of_ble_eq_true rfl,by kernel_rfl⟩
theorem v9 (F:Nat) (b_1:List (Int)) (n_1:Int) (r:(List (Int))) (h:vN F b_1 n_1=some r):zM prog 35 [] [] [.sl false 1 (Mb b_1),Ii n_1] [.row 5 1 (Mb r)] (.own 0 ((r).length)):=by
 refine zS (fn:=Go.Proofs.Try.f35) (code:=z6 Go.Proofs.Try.f35) (by kernel_rfl) (by kernel_rfl) (Nat.le_of_ble_eq_true (by kernel_rfl)) ?_
 unfold vN at h
 refine sr [(0,{ id:=0,m:=1 })] [0,1] [] 1 [.sl false 1 (Mb b_1),Ii n_1] [] zD an ?_
 refine sq ?_
 obtain ⟨_,h_1,h⟩:=bind_some h;replace h_1:=z0 h_1
 refine rg [(0,{ id:=1 }),(2,{ id:=2,l:=(Mb ([]++b_1)),n:=(([]++b_1)).length })] [1,5] [2] 3 [Ii n_1,.own 2 ((([]++b_1)).length)] [Rb 5 1 (Mb ([]++b_1))] zD (ac (by first | (simp;done) | (simp;omega):0=(([]:List AV)).length) (ac (trivial:True) (ac (by simp:(List.map (AV.int .u8) ([]++b_1))=[]++(List.map (AV.int .u8) b_1)) (ac (by simp:(([]++b_1)).length=((List.map (AV.int .u8) ([]++b_1))).length) (ac (by first | (simp;done) | simpa using h_1:(([]:List AV).length+((List.map (AV.int .u8) b_1):List AV).length) * 1≤140737488355328) an))))) ?_
 refine sq ?_
 obtain ⟨r_1,h_2,h⟩:=bind_some h
 refine rg [(1,{ av:=.int .u64 r_1,l:=[Ii n_1] })] [5,6] [2] 3 [.own 2 ((([]++b_1)).length),.int .u64 r_1] [Rb 5 1 (Mb ([]++b_1))] zD (ar ([Ii n_1]:List AV) (ac (rfl:([]:List zP)=[]) (ac (zIq n_1 r_1 h_2:zM prog 60 [] [] [Ii n_1] [] (.int .u64 r_1)) an))) ?_
 refine sq ?_
 obtain ⟨o_1,h_3,h⟩:=bind_some h
 refine zX (mk [(5,.own 0 ((o_1.2).length)),(6,.int .u64 o_1.1)] [(0,Rb 5 1 (Mb o_1.2))] 1) ?_ ?_
 ·replace h:=h_3
  refine zT (id:=0) (by kernel_rfl) ?_
  refine wk [2] [] [.s 5,.s 6] [.s 0] [(5,.own 0 ((([]++b_1)).length)),(6,.int .u64 r_1)] [(0,Rb 5 1 (Mb ([]++b_1)))] an ?_
  refine yF (fun n st=>∃ (u_1:Int),∃ (row_1:List Int),st=mk [(5,.own 0 ((row_1).length)),(6,.int .u64 u_1)] [(0,Rb 5 1 (Mb row_1))] 1∧q9 F n u_1 row_1=some o_1) F (by kernel_rfl) ⟨_,_,rfl,h⟩ ?_ ?_
  ·rintro _ ⟨_,_,_,h⟩;exact yM (h:(none:Option (Int×(List Int)))=some o_1)
  rintro n_2 _ ⟨u_1,row_1,rfl,h⟩
  replace h:vZ F (q9 F n_2) u_1 row_1=some o_1:=h
  unfold vZ at h
  refine sq ?_
  refine sr [] [5,6,13] [0] 1 [.own 0 ((row_1).length),.int .u64 u_1,.bool (decide (u_1≥(128:Int)))] [Rb 5 1 (Mb row_1)] zD an ?_
  refine cd 13 (decide (u_1≥(128:Int))) ?_ ?_
  rotate_left
  ·intro g_1;replace h:=zO g_1 h
   refine yL (id:=0) (by kernel_rfl) ?_
   cases h
   exact ⟨rfl,(sw [0] [] [.s 5,.s 6] [.s 0] an)⟩
  intro g_1;replace h:=zN g_1 h
  refine sk ?_
  refine zT (id:=1) (by kernel_rfl) ?_
  refine sq ?_
  obtain ⟨_,h_4,h⟩:=bind_some h;replace h_4:=z0 h_4
  refine rg [(5,{ id:=1 }),(6,{ id:=2,l:=(Mb (row_1++([y4 ((y4 (vC u_1 (128:Int)))+(128:Int))]:List Int))),n:=((row_1++([y4 ((y4 (vC u_1 (128:Int)))+(128:Int))]:List Int))).length })] [5,6] [2] 3 [.own 2 (((row_1++([y4 ((y4 (vC u_1 (128:Int)))+(128:Int))]:List Int))).length),.int .u64 u_1] [Rb 5 1 (Mb (row_1++([y4 ((y4 (vC u_1 (128:Int)))+(128:Int))]:List Int)))] zD (ac (by decide:(128:Int)≠(0:Int)) (ac (by first | (simp;done) | (simp;omega):(row_1).length=((List.map (AV.int .u8) row_1)).length) (ac (by first | (simp;done) | (simp;omega):1=((List.map (AV.int .u8) ([y4 ((y4 (vC u_1 (128:Int)))+(128:Int))]:List Int))).length) (ac (w9 _ _:(Mb (row_1++([y4 ((y4 (vC u_1 (128:Int)))+(128:Int))]:List Int)))=(Mb row_1)++(Mb ([y4 ((y4 (vC u_1 (128:Int)))+(128:Int))]:List Int))) (ac (by simp:((row_1++([y4 ((y4 (vC u_1 (128:Int)))+(128:Int))]:List Int))).length=((List.map (AV.int .u8) (row_1++([y4 ((y4 (vC u_1 (128:Int)))+(128:Int))]:List Int)))).length) (ac (by first | (simp;done) | simpa using h_4:(((List.map (AV.int .u8) row_1):List AV).length+((List.map (AV.int .u8) ([y4 ((y4 (vC u_1 (128:Int)))+(128:Int))]:List Int)):List AV).length) * 1≤140737488355328) an)))))) ?_
  refine rg [] [5,6] [2] 3 [.own 2 (((row_1++([y4 ((y4 (vC u_1 (128:Int)))+(128:Int))]:List Int))).length),.int .u64 (zCu .u64 u_1 (128:Int))] [Rb 5 1 (Mb (row_1++([y4 ((y4 (vC u_1 (128:Int)))+(128:Int))]:List Int)))] zD (ac (by decide:(128:Int)≠(0:Int)) an) ?_
  exact ⟨_,(sw [2] [] [.s 5,.s 6] [.s 0] an),_,_,rfl,h⟩
 refine sq ?_
 obtain ⟨_,h_5,h⟩:=bind_some h;replace h_5:=z0 h_5
 refine rg [(3,{ id:=1 }),(4,{ id:=2,l:=(Mb (o_1.2++([y4 o_1.1]:List Int))),n:=((o_1.2++([y4 o_1.1]:List Int))).length })] [5] [2] 3 [.own 2 (((o_1.2++([y4 o_1.1]:List Int))).length)] [Rb 5 1 (Mb (o_1.2++([y4 o_1.1]:List Int)))] zD (ac (by first | (simp;done) | (simp;omega):(o_1.2).length=((List.map (AV.int .u8) o_1.2)).length) (ac (by first | (simp;done) | (simp;omega):1=((List.map (AV.int .u8) ([y4 o_1.1]:List Int))).length) (ac (w9 _ _:(Mb (o_1.2++([y4 o_1.1]:List Int)))=(Mb o_1.2)++(Mb ([y4 o_1.1]:List Int))) (ac (by simp:((o_1.2++([y4 o_1.1]:List Int))).length=((List.map (AV.int .u8) (o_1.2++([y4 o_1.1]:List Int)))).length) (ac (by first | (simp;done) | simpa using h_5:(((List.map (AV.int .u8) o_1.2):List AV).length+((List.map (AV.int .u8) ([y4 o_1.1]:List Int)):List AV).length) * 1≤140737488355328) an))))) ?_
 refine sr [] [4] [2] 3 [.own 2 (((o_1.2++([y4 o_1.1]:List Int))).length)] [Rb 5 1 (Mb (o_1.2++([y4 o_1.1]:List Int)))] zD an ?_
 refine wk [2] [] [.s 4] [.s 0] [(4,.own 0 (((o_1.2++([y4 o_1.1]:List Int))).length))] [(0,Rb 5 1 (Mb (o_1.2++([y4 o_1.1]:List Int))))] an ?_
 refine rt ?_
 cases h
 exact ⟨.inr rfl,Nat.le_of_ble_eq_true rfl,by kernel_rfl⟩
theorem zIi (F:Nat) (l_1:List (Int)) (r:(List (Int))) (h:zAi F l_1=some r):zM prog 59 [] [] [.sl false 1 (Mi l_1)] [] (.sl false 1 (Mb r)):=by
 refine zS (fn:=Go.Proofs.Try.f59) (code:=z6 Go.Proofs.Try.f59) (by kernel_rfl) (by kernel_rfl) (Nat.le_of_ble_eq_true (by kernel_rfl)) ?_
 unfold zAi at h
 refine sr [] [0] [] 0 [.sl false 1 (Mi l_1)] [] zD an ?_
 refine sr [] [0,3] [] 0 [.sl false 1 (Mi l_1),.nilsl] [] zD an ?_
 refine sq ?_
 refine sr [] [0,3,4] [] 0 [.sl false 1 (Mi l_1),.nilsl,Ii 0] [] zD an ?_
 obtain ⟨o_1,h_1,h⟩:=bind_some h
 refine zX (mk [(3,.sl false 1 (Mb o_1))] [] 0) ?_ ?_
 ·replace h:=h_1
  refine zT (id:=0) (by kernel_rfl) ?_
  refine wk [] [] [.s 0,.a 3 (.sl false 1 []),.s 4] [] [(0,.sl false 1 (Mi l_1)),(3,.sl false 1 []),(4,Ii 0)] [] (ar ([]:List AV) an) ?_
  refine yF (fun n st=>∃ (out_1:List Int),∃ (i_1:Int),st=mk [(0,.sl false 1 (Mi l_1)),(3,.sl false 1 (Mb out_1)),(4,Ii i_1)] [] 0∧pQ F l_1 n out_1 i_1=some o_1) F (by kernel_rfl) ⟨_,_,rfl,h⟩ ?_ ?_
  ·rintro _ ⟨_,_,_,h⟩;exact yM (h:(none:Option (List Int))=some o_1)
  rintro n_1 _ ⟨out_1,i_1,rfl,h⟩
  replace h:v8 F l_1 (pQ F l_1 n_1) out_1 i_1=some o_1:=h
  unfold v8 at h
  refine sq ?_
  refine sr [(2,{ n:=(l_1).length })] [0,3,4,8] [] 0 [.sl false 1 (Mi l_1),.sl false 1 (Mb out_1),Ii i_1,.bool (decide (i_1<(lN (l_1))))] [] zD (ac (zY _:((Mi l_1)).length=(l_1).length) an) ?_
  refine cd 8 (decide (i_1<(lN (l_1)))) ?_ ?_
  rotate_left
  ·intro g_1;replace h:=zO g_1 h
   refine yL (id:=0) (by kernel_rfl) ?_
   cases h
   exact ⟨rfl,(sw [] [] [.s 3] [] an)⟩
  intro g_1;replace h:=zN g_1 h
  refine sk ?_
  refine sq ?_
  refine zT (id:=1) (by kernel_rfl) ?_
  obtain ⟨x_1,h_2,h⟩:=bind_some h
  obtain ⟨r_1,h_3,h⟩:=bind_some h
  refine rg [(3,{ av:=Ii x_1 }),(5,{ av:=.own 0 ((r_1).length),ids:=[0],l:=[.sl false 1 (Mb out_1),Ii x_1],post:=[(.row 5 1 (Mb r_1))] })] [0,3,4] [0] 1 [.sl false 1 (Mi l_1),.own 0 ((r_1).length),Ii i_1] [Rb 5 1 (Mb r_1)] zD (ac (yO h_2:xD (Mi l_1) i_1=some (Ii x_1)) (ar ([.sl false 1 (Mb out_1),Ii x_1]:List AV) (ac (rfl:([]:List zP)=[]) (ac (v9 F out_1 x_1 r_1 h_3:zM prog 35 [] [] [.sl false 1 (Mb out_1),Ii x_1] [(.row 5 1 (Mb r_1))] (.own 0 ((r_1).length))) an)))) ?_
  refine rg [] [0,3,4] [0] 1 [.sl false 1 (Mi l_1),.own 0 ((r_1).length),Ii (zK (i_1+(1:Int)))] [Rb 5 1 (Mb r_1)] zD an ?_
  exact ⟨_,(Sub.trans (zEE [] [0] [.s 0,.a 3 (.sl false 1 (Mb r_1)),.s 4] [] (sl2:=[(0,.sl false 1 (Mi l_1)),(3,.sl false 1 (Mb r_1)),(4,Ii (zK (i_1+(1:Int))))]) (bx2:=[]) (by kernel_rfl) (ac (by first | (simp;done) | (simp;omega):(r_1).length=((List.map (AV.int .u8) r_1)).length) (ar 1 (ar ((Mb r_1):List AV) (ac (rfl:(!false||false)=true) an))))) (sw [] [] [.s 0,.s 3,.s 4] [] an)),_,_,rfl,h⟩
 refine sr [] [2] [] 0 [.sl false 1 (Mb o_1)] [] zD an ?_
 refine rt ?_
 cases h
 exact ⟨.inr rfl,Nat.le_of_ble_eq_true rfl,by kernel_rfl⟩
theorem zIw (F:Nat) (names_1:List (List Int)) (stacks_1:List (zE)) (e_1:zA) (r:(List (Int))×(List (List Int))×(List (zE))×Int) (h:zA3 F names_1 stacks_1 e_1=some r):zM prog 34 [] [] [.sl false 1 (Ms names_1),.sl false 2 (Mp zC stacks_1),zB e_1] [] (.tuple [.sl false 1 (Mb r.1),.sl false 1 (Ms r.2.1),.sl false 2 (Mp zC r.2.2.1),Ii r.2.2.2]):=by
 refine zS (fn:=Go.Proofs.Try.f34) (code:=z6 Go.Proofs.Try.f34) (by kernel_rfl) (by kernel_rfl) (Nat.le_of_ble_eq_true (by kernel_rfl)) ?_
 unfold zA3 at h
 refine sr [(0,{ id:=0 })] [0,1,5] [0] 1 [.sl false 1 (Ms names_1),.sl false 2 (Mp zC stacks_1),Pp 0] [Vb 33 (zJ e_1)] zD an ?_
 refine sq ?_
 refine sq ?_
 obtain ⟨r_1,h_1,h⟩:=bind_some h
 refine rg [(2,{ av:=Ii r_1,l:=[.sl false 1 (Ms names_1),.sl false 2 (Mp zC stacks_1)] })] [0,1,5,26] [0] 1 [.sl false 1 (Ms names_1),.sl false 2 (Mp zC stacks_1),Pp 0,.bool (r_1 != (0:Int))] [Vb 33 (zJ e_1)] zD (ar ([.sl false 1 (Ms names_1),.sl false 2 (Mp zC stacks_1)]:List AV) (ac (rfl:([]:List zP)=[]) (ac (zAS F names_1 stacks_1 r_1 h_1:zM prog 55 [] [] [.sl false 1 (Ms names_1),.sl false 2 (Mp zC stacks_1)] [] (Ii r_1)) an))) ?_
 refine cd 26 (r_1 != (0:Int)) ?_ ?_
 ·intro g_1;replace h:=zN g_1 h
  refine sr [] [6,7,8,9] [] 1 [.nilsl,.nilsl,.nilsl,Ii 1] [] zD an ?_
  refine wk [] [] [.a 6 (.sl false 1 []),.a 7 (.sl false 1 []),.a 8 (.sl false 2 []),.s 9] [] [(6,.sl false 1 []),(7,.sl false 1 []),(8,.sl false 2 []),(9,Ii 1)] [] (ar ([]:List AV) (ar ([]:List AV) (ar ([]:List AV) an))) ?_
  refine rt ?_
  cases h
  exact ⟨.inr rfl,Nat.le_of_ble_eq_true rfl,by kernel_rfl⟩
 intro g_1;replace h:=zO g_1 h
 refine sk ?_
 refine sq ?_
 obtain ⟨r_2,h_2,h⟩:=bind_some h
 refine rg [(1,{ av:=Ii r_2,l:=[zB e_1] })] [0,1,5,10] [0] 1 [.sl false 1 (Ms names_1),.sl false 2 (Mp zC stacks_1),Pp 0,Ii r_2] [Vb 33 (zJ e_1)] zD (ar ([zB e_1]:List AV) (ac (rfl:([]:List zP)=[]) (ac (zCD F e_1 r_2 h_2:zM prog 47 [] [] [zB e_1] [] (Ii r_2)) an))) ?_
 refine sq ?_
 refine sr [] [0,1,5,10,30] [0] 1 [.sl false 1 (Ms names_1),.sl false 2 (Mp zC stacks_1),Pp 0,Ii r_2,.bool (r_2 != (0:Int))] [Vb 33 (zJ e_1)] zD an ?_
 refine cd 30 (r_2 != (0:Int)) ?_ ?_
 ·intro g_2;replace h:=zN g_2 h
  refine sr [] [6,7,8,9] [] 1 [.nilsl,.nilsl,.nilsl,Ii r_2] [] zD an ?_
  refine wk [] [] [.a 6 (.sl false 1 []),.a 7 (.sl false 1 []),.a 8 (.sl false 2 []),.s 9] [] [(6,.sl false 1 []),(7,.sl false 1 []),(8,.sl false 2 []),(9,Ii r_2)] [] (ar ([]:List AV) (ar ([]:List AV) (ar ([]:List AV) an))) ?_
  refine rt ?_
  cases h
  exact ⟨.inr rfl,Nat.le_of_ble_eq_true rfl,by kernel_rfl⟩
 intro g_2;replace h:=zO g_2 h
 refine sk ?_
 refine sq ?_
 obtain ⟨r_3,h_3,h⟩:=bind_some h
 refine rg [(2,{ av:=.tuple [.bool r_3.1,.bool r_3.2.1,.bool r_3.2.2.1,.bool r_3.2.2.2],l:=[Ii e_1.Kind] })] [0,1,5,11,12,13,14] [0] 1 [.sl false 1 (Ms names_1),.sl false 2 (Mp zC stacks_1),Pp 0,.bool r_3.1,.bool r_3.2.1,.bool r_3.2.2.1,.bool r_3.2.2.2] [Vb 33 (zJ e_1)] zD (ar ([Ii e_1.Kind]:List AV) (ac (rfl:([]:List zP)=[]) (ac (zEZ e_1.Kind r_3 h_3:zM prog 56 [] [] [Ii e_1.Kind] [] (.tuple [.bool r_3.1,.bool r_3.2.1,.bool r_3.2.2.1,.bool r_3.2.2.2])) an))) ?_
 refine sr [(4,{ id:=1 })] [0,1,5,11,12,13,14,15] [0,1] 2 [.sl false 1 (Ms names_1),.sl false 2 (Mp zC stacks_1),Pp 0,.bool r_3.1,.bool r_3.2.1,.bool r_3.2.2.1,.bool r_3.2.2.2,.own 1 2] [Vb 33 (zJ e_1),Rb 3 1 (Mi ([e_1.Kind,e_1.At]:List Int))] zD an ?_
 refine sq ?_
 refine sr [] [0,1,5,12,13,14,15,45] [0,1] 2 [.sl false 1 (Ms names_1),.sl false 2 (Mp zC stacks_1),Pp 0,.bool r_3.2.1,.bool r_3.2.2.1,.bool r_3.2.2.2,.own 1 2,.bool r_3.1] [Vb 33 (zJ e_1),Rb 3 1 (Mi ([e_1.Kind,e_1.At]:List Int))] zD an ?_
 obtain ⟨o_1,h_4,h⟩:=bind_some h
 refine yZ (K1:=(fun e st'=>match o_1 with | (.inl q0)=>e=.normal∧Sub 0 st' (mk [(0,.sl false 1 (Ms q0.1)),(1,.sl false 2 (Mp zC stacks_1)),(5,Pp 0),(12,.bool r_3.2.1),(13,.bool r_3.2.2.1),(14,.bool r_3.2.2.2),(15,.own 1 ((q0.2).length))] [(0,Vb 33 (zJ e_1)),(1,Rb 3 1 (Mi q0.2))] 2) | (.inr q1)=>e=.ret∧vS prog Go.Proofs.Try.f34 0 [] (.tuple [.sl false 1 (Mb q1.1),.sl false 1 (Ms q1.2.1),.sl false 2 (Mp zC q1.2.2.1),Ii q1.2.2.2]) st')) ?_ ?_
 ·replace h:=h_4
  refine cd 45 r_3.1 ?_ ?_
  rotate_left
  ·intro g_3;replace h:=zO g_3 h
   refine sk ?_
   cases h
   exact ⟨rfl,(sw [0,1] [] [.s 0,.s 1,.s 5,.s 12,.s 13,.s 14,.a 15 (.own 1 ((([e_1.Kind,e_1.At]:List Int)).length))] [.s 0,.s 1] (ac (congrArg (AV.own _) (by first | (simp;done) | (simp;omega)):(.own 1 2:AV)=.own 1 ((([e_1.Kind,e_1.At]:List Int)).length)) an))⟩
  intro g_3;replace h:=zN g_3 h
  refine sq ?_
  obtain ⟨r_4,h_5,h⟩:=bind_some h
  refine rg [(3,{ av:=.tuple [Ii r_4.1,.sl false 1 (Ms r_4.2.1),Ii r_4.2.2],l:=[.sl false 1 (Ms names_1),.str e_1.Name] })] [1,5,12,13,14,15,16,17,18] [0,1] 2 [.sl false 2 (Mp zC stacks_1),Pp 0,.bool r_3.2.1,.bool r_3.2.2.1,.bool r_3.2.2.2,.own 1 2,Ii r_4.1,.sl false 1 (Ms r_4.2.1),Ii r_4.2.2] [Vb 33 (zJ e_1),Rb 3 1 (Mi ([e_1.Kind,e_1.At]:List Int))] zD (ar ([.sl false 1 (Ms names_1),.str e_1.Name]:List AV) (ac (rfl:([]:List zP)=[]) (ac (zF4 F names_1 e_1.Name r_4 h_5:zM prog 57 [] [] [.sl false 1 (Ms names_1),.str e_1.Name] [] (.tuple [Ii r_4.1,.sl false 1 (Ms r_4.2.1),Ii r_4.2.2])) an))) ?_
  refine sq ?_
  refine sr [] [1,5,12,13,14,15,16,17,18,55] [0,1] 2 [.sl false 2 (Mp zC stacks_1),Pp 0,.bool r_3.2.1,.bool r_3.2.2.1,.bool r_3.2.2.2,.own 1 2,Ii r_4.1,.sl false 1 (Ms r_4.2.1),Ii r_4.2.2,.bool (r_4.2.2 != (0:Int))] [Vb 33 (zJ e_1),Rb 3 1 (Mi ([e_1.Kind,e_1.At]:List Int))] zD an ?_
  refine cd 55 (r_4.2.2 != (0:Int)) ?_ ?_
  ·intro g_4;replace h:=zN g_4 h
   refine sr [] [6,7,8,9] [] 2 [.nilsl,.nilsl,.nilsl,Ii r_4.2.2] [] zD an ?_
   refine wk [] [] [.a 6 (.sl false 1 []),.a 7 (.sl false 1 []),.a 8 (.sl false 2 []),.s 9] [] [(6,.sl false 1 []),(7,.sl false 1 []),(8,.sl false 2 []),(9,Ii r_4.2.2)] [] (ar ([]:List AV) (ar ([]:List AV) (ar ([]:List AV) an))) ?_
   refine rt ?_
   cases h
   exact ⟨rfl,Nat.le_of_ble_eq_true rfl,by kernel_rfl⟩
  intro g_4;replace h:=zO g_4 h
  refine sk ?_
  refine sr [] [0,1,5,12,13,14,15,16] [0,1] 2 [.sl false 1 (Ms r_4.2.1),.sl false 2 (Mp zC stacks_1),Pp 0,.bool r_3.2.1,.bool r_3.2.2.1,.bool r_3.2.2.2,.own 1 2,Ii r_4.1] [Vb 33 (zJ e_1),Rb 3 1 (Mi ([e_1.Kind,e_1.At]:List Int))] zD an ?_
  obtain ⟨_,h_6,h⟩:=bind_some h;replace h_6:=z0 h_6
  refine rg [(2,{ id:=2 }),(3,{ id:=3,l:=(Mi (([e_1.Kind,e_1.At]:List Int)++([r_4.1]:List Int))),n:=((([e_1.Kind,e_1.At]:List Int)++([r_4.1]:List Int))).length })] [0,1,5,12,13,14,15] [0,3] 4 [.sl false 1 (Ms r_4.2.1),.sl false 2 (Mp zC stacks_1),Pp 0,.bool r_3.2.1,.bool r_3.2.2.1,.bool r_3.2.2.2,.own 3 (((([e_1.Kind,e_1.At]:List Int)++([r_4.1]:List Int))).length)] [Vb 33 (zJ e_1),Rb 3 1 (Mi (([e_1.Kind,e_1.At]:List Int)++([r_4.1]:List Int)))] zD (ac (by first | (simp;done) | (simp;omega):2=((List.map (AV.int .i64) ([e_1.Kind,e_1.At]:List Int))).length) (ac (by first | (simp;done) | (simp;omega):1=((List.map (AV.int .i64) ([r_4.1]:List Int))).length) (ac (w9 _ _:(Mi (([e_1.Kind,e_1.At]:List Int)++([r_4.1]:List Int)))=(Mi ([e_1.Kind,e_1.At]:List Int))++(Mi ([r_4.1]:List Int))) (ac (by simp:((([e_1.Kind,e_1.At]:List Int)++([r_4.1]:List Int))).length=((List.map (AV.int .i64) (([e_1.Kind,e_1.At]:List Int)++([r_4.1]:List Int)))).length) (ac (by first | (simp;done) | simpa using h_6:(((List.map (AV.int .i64) ([e_1.Kind,e_1.At]:List Int)):List AV).length+((List.map (AV.int .i64) ([r_4.1]:List Int)):List AV).length) * 8≤140737488355328) an))))) ?_
  cases h
  exact ⟨rfl,(sw [0,3] [] [.s 0,.s 1,.s 5,.s 12,.s 13,.s 14,.s 15] [.s 0,.s 1] an)⟩
 intro e st1 hk
 rcases o_1 with q_1 | q_2
 rotate_left
 ·obtain ⟨rfl,hf⟩:=hk
  cases h
  exact ⟨st1,Sub.refl _ _,.inr rfl,hf⟩
 obtain ⟨rfl,hs⟩:=hk
 refine ⟨_,hs,?_⟩
 refine sq ?_
 refine sr [] [0,1,5,13,14,15,62] [0,1] 2 [.sl false 1 (Ms q_1.1),.sl false 2 (Mp zC stacks_1),Pp 0,.bool r_3.2.2.1,.bool r_3.2.2.2,.own 1 ((q_1.2).length),.bool r_3.2.1] [Vb 33 (zJ e_1),Rb 3 1 (Mi q_1.2)] zD an ?_
 obtain ⟨o_2,h_7,h⟩:=bind_some h
 refine zX (mk [(0,.sl false 1 (Ms q_1.1)),(1,.sl false 2 (Mp zC stacks_1)),(5,Pp 0),(13,.bool r_3.2.2.1),(14,.bool r_3.2.2.2),(15,.own 1 ((o_2).length))] [(0,Vb 33 (zJ e_1)),(1,Rb 3 1 (Mi o_2))] 2) ?_ ?_
 ·replace h:=h_7
  refine cd 62 r_3.2.1 ?_ ?_
  rotate_left
  ·intro g_5;replace h:=zO g_5 h
   refine sk ?_
   cases h
   exact ⟨rfl,(sw [0,1] [] [.s 0,.s 1,.s 5,.s 13,.s 14,.s 15] [.s 0,.s 1] an)⟩
  intro g_5;replace h:=zN g_5 h
  obtain ⟨_,h_8,h⟩:=bind_some h;replace h_8:=z0 h_8
  refine rg [(3,{ id:=2 }),(4,{ id:=3,l:=(Mi (q_1.2++([e_1.N]:List Int))),n:=((q_1.2++([e_1.N]:List Int))).length })] [0,1,5,13,14,15] [0,3] 4 [.sl false 1 (Ms q_1.1),.sl false 2 (Mp zC stacks_1),Pp 0,.bool r_3.2.2.1,.bool r_3.2.2.2,.own 3 (((q_1.2++([e_1.N]:List Int))).length)] [Vb 33 (zJ e_1),Rb 3 1 (Mi (q_1.2++([e_1.N]:List Int)))] zD (ac (by first | (simp;done) | (simp;omega):(q_1.2).length=((List.map (AV.int .i64) q_1.2)).length) (ac (by first | (simp;done) | (simp;omega):1=((List.map (AV.int .i64) ([e_1.N]:List Int))).length) (ac (w9 _ _:(Mi (q_1.2++([e_1.N]:List Int)))=(Mi q_1.2)++(Mi ([e_1.N]:List Int))) (ac (by simp:((q_1.2++([e_1.N]:List Int))).length=((List.map (AV.int .i64) (q_1.2++([e_1.N]:List Int)))).length) (ac (by first | (simp;done) | simpa using h_8:(((List.map (AV.int .i64) q_1.2):List AV).length+((List.map (AV.int .i64) ([e_1.N]:List Int)):List AV).length) * 8≤140737488355328) an))))) ?_
  cases h
  exact ⟨rfl,(sw [0,3] [] [.s 0,.s 1,.s 5,.s 13,.s 14,.s 15] [.s 0,.s 1] an)⟩
 refine sq ?_
 refine sr [] [0,1,5,14,15,68] [0,1] 2 [.sl false 1 (Ms q_1.1),.sl false 2 (Mp zC stacks_1),Pp 0,.bool r_3.2.2.2,.own 1 ((o_2).length),.bool r_3.2.2.1] [Vb 33 (zJ e_1),Rb 3 1 (Mi o_2)] zD an ?_
 obtain ⟨o_3,h_9,h⟩:=bind_some h
 refine zX (mk [(0,.sl false 1 (Ms q_1.1)),(1,.sl false 2 (Mp zC stacks_1)),(5,Pp 0),(14,.bool r_3.2.2.2),(15,.own 1 ((o_3).length))] [(0,Vb 33 (zJ e_1)),(1,Rb 3 1 (Mi o_3))] 2) ?_ ?_
 ·replace h:=h_9
  refine cd 68 r_3.2.2.1 ?_ ?_
  rotate_left
  ·intro g_6;replace h:=zO g_6 h
   refine sk ?_
   cases h
   exact ⟨rfl,(sw [0,1] [] [.s 0,.s 1,.s 5,.s 14,.s 15] [.s 0,.s 1] an)⟩
  intro g_6;replace h:=zN g_6 h
  obtain ⟨_,h_10,h⟩:=bind_some h;replace h_10:=z0 h_10
  refine rg [(3,{ id:=2 }),(4,{ id:=3,l:=(Mi (o_2++([e_1.M]:List Int))),n:=((o_2++([e_1.M]:List Int))).length })] [0,1,5,14,15] [0,3] 4 [.sl false 1 (Ms q_1.1),.sl false 2 (Mp zC stacks_1),Pp 0,.bool r_3.2.2.2,.own 3 (((o_2++([e_1.M]:List Int))).length)] [Vb 33 (zJ e_1),Rb 3 1 (Mi (o_2++([e_1.M]:List Int)))] zD (ac (by first | (simp;done) | (simp;omega):(o_2).length=((List.map (AV.int .i64) o_2)).length) (ac (by first | (simp;done) | (simp;omega):1=((List.map (AV.int .i64) ([e_1.M]:List Int))).length) (ac (w9 _ _:(Mi (o_2++([e_1.M]:List Int)))=(Mi o_2)++(Mi ([e_1.M]:List Int))) (ac (by simp:((o_2++([e_1.M]:List Int))).length=((List.map (AV.int .i64) (o_2++([e_1.M]:List Int)))).length) (ac (by first | (simp;done) | simpa using h_10:(((List.map (AV.int .i64) o_2):List AV).length+((List.map (AV.int .i64) ([e_1.M]:List Int)):List AV).length) * 8≤140737488355328) an))))) ?_
  cases h
  exact ⟨rfl,(sw [0,3] [] [.s 0,.s 1,.s 5,.s 14,.s 15] [.s 0,.s 1] an)⟩
 refine sq ?_
 refine sr [] [0,1,5,15,74] [0,1] 2 [.sl false 1 (Ms q_1.1),.sl false 2 (Mp zC stacks_1),Pp 0,.own 1 ((o_3).length),.bool r_3.2.2.2] [Vb 33 (zJ e_1),Rb 3 1 (Mi o_3)] zD an ?_
 obtain ⟨o_4,h_11,h⟩:=bind_some h
 refine yZ (K1:=(fun e st'=>match o_4 with | (.inl q0)=>e=.normal∧Sub 0 st' (mk [(0,.sl false 1 (Ms q0.1)),(1,.sl false 2 (Mp zC q0.2.1)),(15,.own 0 ((q0.2.2).length))] [(0,Rb 3 1 (Mi q0.2.2))] 1) | (.inr q1)=>e=.ret∧vS prog Go.Proofs.Try.f34 0 [] (.tuple [.sl false 1 (Mb q1.1),.sl false 1 (Ms q1.2.1),.sl false 2 (Mp zC q1.2.2.1),Ii q1.2.2.2]) st')) ?_ ?_
 ·replace h:=h_11
  refine cd 74 r_3.2.2.2 ?_ ?_
  rotate_left
  ·intro g_7;replace h:=zO g_7 h
   refine sk ?_
   cases h
   exact ⟨rfl,(sw [1] [] [.s 0,.s 1,.s 15] [.s 0] an)⟩
  intro g_7;replace h:=zN g_7 h
  refine sq ?_
  obtain ⟨r_5,h_12,h⟩:=bind_some h
  refine rg [(4,{ av:=.tuple [Ii r_5.1,.sl false 1 (Ms r_5.2.1),.sl false 2 (Mp zC r_5.2.2.1),Ii r_5.2.2.2],l:=[.sl false 1 (Ms q_1.1),.sl false 2 (Mp zC stacks_1),.sl false 1 (Ms e_1.Stack)] })] [15,19,20,21,22] [1] 2 [.own 1 ((o_3).length),Ii r_5.1,.sl false 1 (Ms r_5.2.1),.sl false 2 (Mp zC r_5.2.2.1),Ii r_5.2.2.2] [Rb 3 1 (Mi o_3)] zD (ar ([.sl false 1 (Ms q_1.1),.sl false 2 (Mp zC stacks_1),.sl false 1 (Ms e_1.Stack)]:List AV) (ac (rfl:([]:List zP)=[]) (ac (zGN F q_1.1 stacks_1 e_1.Stack r_5 h_12:zM prog 58 [] [] [.sl false 1 (Ms q_1.1),.sl false 2 (Mp zC stacks_1),.sl false 1 (Ms e_1.Stack)] [] (.tuple [Ii r_5.1,.sl false 1 (Ms r_5.2.1),.sl false 2 (Mp zC r_5.2.2.1),Ii r_5.2.2.2])) an))) ?_
  refine sq ?_
  refine sr [] [15,19,20,21,22,86] [1] 2 [.own 1 ((o_3).length),Ii r_5.1,.sl false 1 (Ms r_5.2.1),.sl false 2 (Mp zC r_5.2.2.1),Ii r_5.2.2.2,.bool (r_5.2.2.2 != (0:Int))] [Rb 3 1 (Mi o_3)] zD an ?_
  refine cd 86 (r_5.2.2.2 != (0:Int)) ?_ ?_
  ·intro g_8;replace h:=zN g_8 h
   refine sr [] [6,7,8,9] [] 2 [.nilsl,.nilsl,.nilsl,Ii r_5.2.2.2] [] zD an ?_
   refine wk [] [] [.a 6 (.sl false 1 []),.a 7 (.sl false 1 []),.a 8 (.sl false 2 []),.s 9] [] [(6,.sl false 1 []),(7,.sl false 1 []),(8,.sl false 2 []),(9,Ii r_5.2.2.2)] [] (ar ([]:List AV) (ar ([]:List AV) (ar ([]:List AV) an))) ?_
   refine rt ?_
   cases h
   exact ⟨rfl,Nat.le_of_ble_eq_true rfl,by kernel_rfl⟩
  intro g_8;replace h:=zO g_8 h
  refine sk ?_
  refine sr [] [0,15,19,21] [1] 2 [.sl false 1 (Ms r_5.2.1),.own 1 ((o_3).length),Ii r_5.1,.sl false 2 (Mp zC r_5.2.2.1)] [Rb 3 1 (Mi o_3)] zD an ?_
  refine sr [] [0,1,15,19] [1] 2 [.sl false 1 (Ms r_5.2.1),.sl false 2 (Mp zC r_5.2.2.1),.own 1 ((o_3).length),Ii r_5.1] [Rb 3 1 (Mi o_3)] zD an ?_
  obtain ⟨_,h_13,h⟩:=bind_some h;replace h_13:=z0 h_13
  refine rg [(2,{ id:=2 }),(3,{ id:=3,l:=(Mi (o_3++([r_5.1]:List Int))),n:=((o_3++([r_5.1]:List Int))).length })] [0,1,15] [3] 4 [.sl false 1 (Ms r_5.2.1),.sl false 2 (Mp zC r_5.2.2.1),.own 3 (((o_3++([r_5.1]:List Int))).length)] [Rb 3 1 (Mi (o_3++([r_5.1]:List Int)))] zD (ac (by first | (simp;done) | (simp;omega):(o_3).length=((List.map (AV.int .i64) o_3)).length) (ac (by first | (simp;done) | (simp;omega):1=((List.map (AV.int .i64) ([r_5.1]:List Int))).length) (ac (w9 _ _:(Mi (o_3++([r_5.1]:List Int)))=(Mi o_3)++(Mi ([r_5.1]:List Int))) (ac (by simp:((o_3++([r_5.1]:List Int))).length=((List.map (AV.int .i64) (o_3++([r_5.1]:List Int)))).length) (ac (by first | (simp;done) | simpa using h_13:(((List.map (AV.int .i64) o_3):List AV).length+((List.map (AV.int .i64) ([r_5.1]:List Int)):List AV).length) * 8≤140737488355328) an))))) ?_
  cases h
  exact ⟨rfl,(sw [3] [] [.s 0,.s 1,.s 15] [.s 0] an)⟩
 intro e st1 hk
 rcases o_4 with q_3 | q_4
 rotate_left
 ·obtain ⟨rfl,hf⟩:=hk
  cases h
  exact ⟨st1,Sub.refl _ _,.inr rfl,hf⟩
 obtain ⟨rfl,hs⟩:=hk
 refine ⟨_,hs,?_⟩
 refine sq ?_
 obtain ⟨r_6,h_14,h⟩:=bind_some h
 refine rg [(1,{ av:=.sl false 1 (Mb r_6),frz:=[0],l:=[.sl false 1 (Mi q_3.2.2)] })] [6,7,8,9] [] 1 [.sl false 1 (Mb r_6),.sl false 1 (Ms q_3.1),.sl false 2 (Mp zC q_3.2.1),Ii 0] [] zD (ac (by first | (simp;done) | (simp;omega):(q_3.2.2).length=((List.map (AV.int .i64) q_3.2.2)).length) (ar ([.sl false 1 (Mi q_3.2.2)]:List AV) (ac (rfl:([]:List zP)=[]) (ac (zIi F q_3.2.2 r_6 h_14:zM prog 59 [] [] [.sl false 1 (Mi q_3.2.2)] [] (.sl false 1 (Mb r_6))) an)))) ?_
 refine rt ?_
 cases h
 exact ⟨.inr rfl,Nat.le_of_ble_eq_true rfl,by kernel_rfl⟩
theorem zHd (F:Nat) (b_1:List (Int)) (s_1:List Int) (r:(List (Int))) (h:zAC F b_1 s_1=some r):zM prog 36 [] [] [.sl false 1 (Mb b_1),.str s_1] [.row 5 1 (Mb r)] (.own 0 ((r).length)):=by
 refine zS (fn:=Go.Proofs.Try.f36) (code:=z6 Go.Proofs.Try.f36) (by kernel_rfl) (by kernel_rfl) (Nat.le_of_ble_eq_true (by kernel_rfl)) ?_
 unfold zAC at h
 refine sr [(0,{ id:=0,m:=1 })] [0,1] [] 1 [.sl false 1 (Mb b_1),.str s_1] [] zD an ?_
 refine sq ?_
 obtain ⟨r_1,h_1,h⟩:=bind_some h
 refine rg [(3,{ av:=.own 0 ((r_1).length),ids:=[1],l:=[.sl false 1 (Mb b_1),Ii (lN (s_1))],post:=[(.row 5 1 (Mb r_1))] })] [1,5] [1] 2 [.str s_1,.own 1 ((r_1).length)] [Rb 5 1 (Mb r_1)] zD (ar ([.sl false 1 (Mb b_1),Ii (lN (s_1))]:List AV) (ac (rfl:([]:List zP)=[]) (ac (v9 F b_1 (lN (s_1)) r_1 h_1:zM prog 35 [] [] [.sl false 1 (Mb b_1),Ii (lN (s_1))] [(.row 5 1 (Mb r_1))] (.own 0 ((r_1).length))) an))) ?_
 refine sq ?_
 refine sr [] [1,5,6] [1] 2 [.str s_1,.own 1 ((r_1).length),Ii 0] [Rb 5 1 (Mb r_1)] zD an ?_
 obtain ⟨o_1,h_2,h⟩:=bind_some h
 refine zX (mk [(5,.own 0 ((o_1).length))] [(0,Rb 5 1 (Mb o_1))] 1) ?_ ?_
 ·replace h:=h_2
  refine zT (id:=0) (by kernel_rfl) ?_
  refine wk [1] [] [.s 1,.s 5,.s 6] [.s 0] [(1,.str s_1),(5,.own 0 ((r_1).length)),(6,Ii 0)] [(0,Rb 5 1 (Mb r_1))] an ?_
  refine yF (fun n st=>∃ (i_1:Int),∃ (row_1:List Int),st=mk [(1,.str s_1),(5,.own 0 ((row_1).length)),(6,Ii i_1)] [(0,Rb 5 1 (Mb row_1))] 1∧qB F s_1 n i_1 row_1=some o_1) F (by kernel_rfl) ⟨_,_,rfl,h⟩ ?_ ?_
  ·rintro _ ⟨_,_,_,h⟩;exact yM (h:(none:Option (List Int))=some o_1)
  rintro n_1 _ ⟨i_1,row_1,rfl,h⟩
  replace h:t7 F s_1 (qB F s_1 n_1) i_1 row_1=some o_1:=h
  unfold t7 at h
  refine sq ?_
  refine sr [] [1,5,6,14] [0] 1 [.str s_1,.own 0 ((row_1).length),Ii i_1,.bool (decide (i_1<(lN (s_1))))] [Rb 5 1 (Mb row_1)] zD an ?_
  refine cd 14 (decide (i_1<(lN (s_1)))) ?_ ?_
  rotate_left
  ·intro g_1;replace h:=zO g_1 h
   refine yL (id:=0) (by kernel_rfl) ?_
   cases h
   exact ⟨rfl,(sw [0] [] [.s 5] [.s 0] an)⟩
  intro g_1;replace h:=zN g_1 h
  refine sk ?_
  refine sq ?_
  refine zT (id:=1) (by kernel_rfl) ?_
  obtain ⟨c_1,h_3,h⟩:=bind_some h
  obtain ⟨_,h_4,h⟩:=bind_some h;replace h_4:=z0 h_4
  refine rg [(3,{ z:=c_1 }),(4,{ id:=1 }),(5,{ id:=2,l:=(Mb (row_1++([c_1]:List Int))),n:=((row_1++([c_1]:List Int))).length })] [1,5,6] [2] 3 [.str s_1,.own 2 (((row_1++([c_1]:List Int))).length),Ii i_1] [Rb 5 1 (Mb (row_1++([c_1]:List Int)))] zD (ac h_3 (ac (by first | (simp;done) | (simp;omega):(row_1).length=((List.map (AV.int .u8) row_1)).length) (ac (by first | (simp;done) | (simp;omega):1=((List.map (AV.int .u8) ([c_1]:List Int))).length) (ac (w9 _ _:(Mb (row_1++([c_1]:List Int)))=(Mb row_1)++(Mb ([c_1]:List Int))) (ac (by simp:((row_1++([c_1]:List Int))).length=((List.map (AV.int .u8) (row_1++([c_1]:List Int)))).length) (ac (by first | (simp;done) | simpa using h_4:(((List.map (AV.int .u8) row_1):List AV).length+((List.map (AV.int .u8) ([c_1]:List Int)):List AV).length) * 1≤140737488355328) an)))))) ?_
  refine rg [] [1,5,6] [2] 3 [.str s_1,.own 2 (((row_1++([c_1]:List Int))).length),Ii (zK (i_1+(1:Int)))] [Rb 5 1 (Mb (row_1++([c_1]:List Int)))] zD an ?_
  exact ⟨_,(sw [2] [] [.s 1,.s 5,.s 6] [.s 0] an),_,_,rfl,h⟩
 refine sr [] [4] [0] 1 [.own 0 ((o_1).length)] [Rb 5 1 (Mb o_1)] zD an ?_
 refine wk [0] [] [.s 4] [.s 0] [(4,.own 0 ((o_1).length))] [(0,Rb 5 1 (Mb o_1))] an ?_
 refine rt ?_
 cases h
 exact ⟨.inr rfl,Nat.le_of_ble_eq_true rfl,by kernel_rfl⟩
theorem zIt (F:Nat) (p_1:zF) (r:(List (Int))×Int) (h:zAU F p_1=some r):zM prog 18 [] [] [zI p_1] [.row 5 1 (Mb r.1)] (.tuple [.own 0 ((r.1).length),Ii r.2]):=by
 refine zS (fn:=Go.Proofs.Try.f18) (code:=z6 Go.Proofs.Try.f18) (by kernel_rfl) (by kernel_rfl) (Nat.le_of_ble_eq_true (by kernel_rfl)) ?_
 unfold zAU at h
 refine sr [(0,{ id:=0 }),(1,{ id:=1,m:=1 })] [1] [0] 2 [Pp 0] [Vb 24 (zH p_1)] zD an ?_
 refine sq ?_
 obtain ⟨r_1,h_1,h⟩:=bind_some h
 refine rg [(1,{ av:=Ii r_1,l:=[zI p_1] })] [1,4] [0] 2 [Pp 0,Ii r_1] [Vb 24 (zH p_1)] zD (ar ([zI p_1]:List AV) (ac (rfl:([]:List zP)=[]) (ac (zEy F p_1 r_1 h_1:zM prog 14 [] [] [zI p_1] [] (Ii r_1)) an))) ?_
 refine sq ?_
 refine sr [] [1,4,19] [0] 2 [Pp 0,Ii r_1,.bool (r_1 != (0:Int))] [Vb 24 (zH p_1)] zD an ?_
 refine cd 19 (r_1 != (0:Int)) ?_ ?_
 ·intro g_1;replace h:=zN g_1 h
  refine sr [(1,{ id:=2,m:=1 })] [2,3] [2] 3 [.own 2 0,Ii r_1] [Rb 5 1 []] zD an ?_
  refine wk [2] [] [.a 2 (.own 0 ((([]:List Int)).length)),.s 3] [.s 0] [(2,.own 0 ((([]:List Int)).length)),(3,Ii r_1)] [(0,Rb 5 1 [])] (ac (congrArg (AV.own _) (by first | (simp;done) | (simp;omega)):(.own 2 0:AV)=.own 2 ((([]:List Int)).length)) an) ?_
  refine rt ?_
  cases h
  exact ⟨.inr rfl,Nat.le_of_ble_eq_true rfl,by kernel_rfl⟩
 intro g_1;replace h:=zO g_1 h
 refine sk ?_
 refine sr [] [1,5] [0] 2 [Pp 0,.nilsl] [Vb 24 (zH p_1)] zD an ?_
 refine sr [] [1,5,6] [0] 2 [Pp 0,.nilsl,.nilsl] [Vb 24 (zH p_1)] zD an ?_
 refine sr [(0,{ id:=2,m:=1 })] [1,5,6,7] [0,2] 3 [Pp 0,.nilsl,.nilsl,.own 2 0] [Vb 24 (zH p_1),Rb 5 1 []] zD an ?_
 refine sq ?_
 refine sr [] [1,5,6,7,8] [0,2] 3 [Pp 0,.nilsl,.nilsl,.own 2 0,Ii 0] [Vb 24 (zH p_1),Rb 5 1 []] zD an ?_
 obtain ⟨o_1,h_2,h⟩:=bind_some h
 refine yZ (K1:=(fun e st'=>match o_1 with | (.inl q0)=>e=.normal∧Sub 0 st' (mk [(1,Pp 0),(5,.sl false 1 (Ms q0.1)),(6,.sl false 2 (Mp zC q0.2.1)),(7,.own 1 ((q0.2.2).length))] [(0,Vb 24 (zH p_1)),(1,Rb 5 1 (Mb q0.2.2))] 2) | (.inr q1)=>e=.ret∧vS prog Go.Proofs.Try.f18 0 [.row 5 1 (Mb q1.1)] (.tuple [.own 0 ((q1.1).length),Ii q1.2]) st')) ?_ ?_
 ·replace h:=h_2
  refine zT (id:=0) (by kernel_rfl) ?_
  refine wk [0,2] [] [.s 1,.a 5 (.sl false 1 []),.a 6 (.sl false 2 []),.s 7,.s 8] [.s 0,.s 1] [(1,Pp 0),(5,.sl false 1 []),(6,.sl false 2 []),(7,.own 1 0),(8,Ii 0)] [(0,Vb 24 (zH p_1)),(1,Rb 5 1 [])] (ar ([]:List AV) (ar ([]:List AV) an)) ?_
  refine yF (fun n st=>∃ (names_1:List (List Int)),∃ (stacks_1:List zE),∃ (i_1:Int),∃ (row_1:List Int),st=mk [(1,Pp 0),(5,.sl false 1 (Ms names_1)),(6,.sl false 2 (Mp zC stacks_1)),(7,.own 1 ((row_1).length)),(8,Ii i_1)] [(0,Vb 24 (zH p_1)),(1,Rb 5 1 (Mb row_1))] 2∧j9 F p_1 n names_1 stacks_1 i_1 row_1=some o_1) F (by kernel_rfl) ⟨_,_,_,_,rfl,h⟩ ?_ ?_
  ·rintro _ ⟨_,_,_,_,_,h⟩;exact yM (h:(none:Option (((List (List Int))×(List zE)×(List Int))⊕((List (Int))×Int)))=some o_1)
  rintro n_1 _ ⟨names_1,stacks_1,i_1,row_1,rfl,h⟩
  replace h:qM F p_1 (j9 F p_1 n_1) names_1 stacks_1 i_1 row_1=some o_1:=h
  unfold qM at h
  refine sq ?_
  refine sr [(3,{ n:=(p_1.Events).length })] [1,5,6,7,8,25] [0,1] 2 [Pp 0,.sl false 1 (Ms names_1),.sl false 2 (Mp zC stacks_1),.own 1 ((row_1).length),Ii i_1,.bool (decide (i_1<(lN (p_1.Events))))] [Vb 24 (zH p_1),Rb 5 1 (Mb row_1)] zD (ac (zY _:((Mp zB p_1.Events)).length=(p_1.Events).length) an) ?_
  refine cd 25 (decide (i_1<(lN (p_1.Events)))) ?_ ?_
  rotate_left
  ·intro g_2;replace h:=zO g_2 h
   refine yL (id:=0) (by kernel_rfl) ?_
   cases h
   exact ⟨rfl,(sw [0,1] [] [.s 1,.s 5,.s 6,.s 7] [.s 0,.s 1] an)⟩
  intro g_2;replace h:=zN g_2 h
  refine sk ?_
  refine sq ?_
  refine zT (id:=1) (by kernel_rfl) ?_
  refine sq ?_
  obtain ⟨x_1,h_3,h⟩:=bind_some h
  obtain ⟨r_2,h_4,h⟩:=bind_some h
  refine rg [(5,{ av:=zB x_1 }),(7,{ av:=.tuple [.sl false 1 (Mb r_2.1),.sl false 1 (Ms r_2.2.1),.sl false 2 (Mp zC r_2.2.2.1),Ii r_2.2.2.2],l:=[.sl false 1 (Ms names_1),.sl false 2 (Mp zC stacks_1),zB x_1] })] [1,7,8,9,10,11,12] [0,1] 2 [Pp 0,.own 1 ((row_1).length),Ii i_1,.sl false 1 (Mb r_2.1),.sl false 1 (Ms r_2.2.1),.sl false 2 (Mp zC r_2.2.2.1),Ii r_2.2.2.2] [Vb 24 (zH p_1),Rb 5 1 (Mb row_1)] zD (ac (yO h_3:xD (Mp zB p_1.Events) i_1=some (zB x_1)) (ar ([.sl false 1 (Ms names_1),.sl false 2 (Mp zC stacks_1),zB x_1]:List AV) (ac (rfl:([]:List zP)=[]) (ac (zIw F names_1 stacks_1 x_1 r_2 h_4:zM prog 34 [] [] [.sl false 1 (Ms names_1),.sl false 2 (Mp zC stacks_1),zB x_1] [] (.tuple [.sl false 1 (Mb r_2.1),.sl false 1 (Ms r_2.2.1),.sl false 2 (Mp zC r_2.2.2.1),Ii r_2.2.2.2])) an)))) ?_
  refine sq ?_
  refine sr [] [1,7,8,9,10,11,12,42] [0,1] 2 [Pp 0,.own 1 ((row_1).length),Ii i_1,.sl false 1 (Mb r_2.1),.sl false 1 (Ms r_2.2.1),.sl false 2 (Mp zC r_2.2.2.1),Ii r_2.2.2.2,.bool (r_2.2.2.2 != (0:Int))] [Vb 24 (zH p_1),Rb 5 1 (Mb row_1)] zD an ?_
  refine cd 42 (r_2.2.2.2 != (0:Int)) ?_ ?_
  ·intro g_3;replace h:=zN g_3 h
   refine sr [(1,{ id:=2,m:=1 })] [2,3] [2] 3 [.own 2 0,Ii r_2.2.2.2] [Rb 5 1 []] zD an ?_
   refine wk [2] [] [.a 2 (.own 0 ((([]:List Int)).length)),.s 3] [.s 0] [(2,.own 0 ((([]:List Int)).length)),(3,Ii r_2.2.2.2)] [(0,Rb 5 1 [])] (ac (congrArg (AV.own _) (by first | (simp;done) | (simp;omega)):(.own 2 0:AV)=.own 2 ((([]:List Int)).length)) an) ?_
   refine rt ?_
   cases h
   exact ⟨rfl,Nat.le_of_ble_eq_true rfl,by kernel_rfl⟩
  intro g_3;replace h:=zO g_3 h
  refine sk ?_
  refine sr [] [1,5,7,8,9,11] [0,1] 2 [Pp 0,.sl false 1 (Ms r_2.2.1),.own 1 ((row_1).length),Ii i_1,.sl false 1 (Mb r_2.1),.sl false 2 (Mp zC r_2.2.2.1)] [Vb 24 (zH p_1),Rb 5 1 (Mb row_1)] zD an ?_
  refine sr [] [1,5,6,7,8,9] [0,1] 2 [Pp 0,.sl false 1 (Ms r_2.2.1),.sl false 2 (Mp zC r_2.2.2.1),.own 1 ((row_1).length),Ii i_1,.sl false 1 (Mb r_2.1)] [Vb 24 (zH p_1),Rb 5 1 (Mb row_1)] zD an ?_
  obtain ⟨_,h_5,h⟩:=bind_some h;replace h_5:=z0 h_5
  refine rg [(2,{ id:=2,l:=(Mb (row_1++r_2.1)),n:=((row_1++r_2.1)).length })] [1,5,6,7,8] [0,2] 3 [Pp 0,.sl false 1 (Ms r_2.2.1),.sl false 2 (Mp zC r_2.2.2.1),.own 2 (((row_1++r_2.1)).length),Ii i_1] [Vb 24 (zH p_1),Rb 5 1 (Mb (row_1++r_2.1))] zD (ac (by first | (simp;done) | (simp;omega):(row_1).length=((List.map (AV.int .u8) row_1)).length) (ac (trivial:True) (ac (w9 _ _:(Mb (row_1++r_2.1))=(Mb row_1)++(Mb r_2.1)) (ac (by simp:((row_1++r_2.1)).length=((List.map (AV.int .u8) (row_1++r_2.1))).length) (ac (by first | (simp;done) | simpa using h_5:(((List.map (AV.int .u8) row_1):List AV).length+((List.map (AV.int .u8) r_2.1):List AV).length) * 1≤140737488355328) an))))) ?_
  refine rg [] [1,5,6,7,8] [0,2] 3 [Pp 0,.sl false 1 (Ms r_2.2.1),.sl false 2 (Mp zC r_2.2.2.1),.own 2 (((row_1++r_2.1)).length),Ii (zK (i_1+(1:Int)))] [Vb 24 (zH p_1),Rb 5 1 (Mb (row_1++r_2.1))] zD an ?_
  exact ⟨_,(sw [0,2] [] [.s 1,.s 5,.s 6,.s 7,.s 8] [.s 0,.s 1] an),_,_,_,_,rfl,h⟩
 intro e st1 hk
 rcases o_1 with q_1 | q_2
 rotate_left
 ·obtain ⟨rfl,hf⟩:=hk
  cases h
  exact ⟨st1,Sub.refl _ _,.inr rfl,hf⟩
 obtain ⟨rfl,hs⟩:=hk
 refine ⟨_,hs,?_⟩
 refine sq ?_
 obtain ⟨r_3,h_6,h⟩:=bind_some h
 refine rg [(2,{ av:=.own 0 ((r_3).length),ids:=[2],l:=[.nilsl,Ii p_1.Thread],post:=[(.row 5 1 (Mb r_3))] })] [1,5,6,7,13] [0,1,2] 3 [Pp 0,.sl false 1 (Ms q_1.1),.sl false 2 (Mp zC q_1.2.1),.own 1 ((q_1.2.2).length),.own 2 ((r_3).length)] [Vb 24 (zH p_1),Rb 5 1 (Mb q_1.2.2),Rb 5 1 (Mb r_3)] zD (ar ([.nilsl,Ii p_1.Thread]:List AV) (ac (rfl:([]:List zP)=[]) (ac (y7 (args':=[.sl false 1 [],Ii p_1.Thread]) (v9 F [] p_1.Thread r_3 h_6) rfl ⟨rfl,rfl,trivial⟩:zM prog 35 [] [] [.nilsl,Ii p_1.Thread] [(.row 5 1 (Mb r_3))] (.own 0 ((r_3).length))) an))) ?_
 refine sq ?_
 obtain ⟨r_4,h_7,h⟩:=bind_some h
 refine rg [(3,{ av:=.own 0 ((r_4).length),frz:=[2],ids:=[3],l:=[.sl false 1 (Mb r_3),Ii p_1.Serial],post:=[(.row 5 1 (Mb r_4))] })] [1,5,6,7,13] [0,1,3] 4 [Pp 0,.sl false 1 (Ms q_1.1),.sl false 2 (Mp zC q_1.2.1),.own 1 ((q_1.2.2).length),.own 3 ((r_4).length)] [Vb 24 (zH p_1),Rb 5 1 (Mb q_1.2.2),Rb 5 1 (Mb r_4)] zD (ac (by first | (simp;done) | (simp;omega):(r_3).length=((List.map (AV.int .u8) r_3)).length) (ar ([.sl false 1 (Mb r_3),Ii p_1.Serial]:List AV) (ac (rfl:([]:List zP)=[]) (ac (v9 F r_3 p_1.Serial r_4 h_7:zM prog 35 [] [] [.sl false 1 (Mb r_3),Ii p_1.Serial] [(.row 5 1 (Mb r_4))] (.own 0 ((r_4).length))) an)))) ?_
 refine sq ?_
 obtain ⟨r_5,h_8,h⟩:=bind_some h
 refine rg [(3,{ av:=.own 0 ((r_5).length),frz:=[3],ids:=[4],l:=[.sl false 1 (Mb r_4),Ii p_1.Lost],post:=[(.row 5 1 (Mb r_5))] })] [1,5,6,7,13] [0,1,4] 5 [Pp 0,.sl false 1 (Ms q_1.1),.sl false 2 (Mp zC q_1.2.1),.own 1 ((q_1.2.2).length),.own 4 ((r_5).length)] [Vb 24 (zH p_1),Rb 5 1 (Mb q_1.2.2),Rb 5 1 (Mb r_5)] zD (ac (by first | (simp;done) | (simp;omega):(r_4).length=((List.map (AV.int .u8) r_4)).length) (ar ([.sl false 1 (Mb r_4),Ii p_1.Lost]:List AV) (ac (rfl:([]:List zP)=[]) (ac (v9 F r_4 p_1.Lost r_5 h_8:zM prog 35 [] [] [.sl false 1 (Mb r_4),Ii p_1.Lost] [(.row 5 1 (Mb r_5))] (.own 0 ((r_5).length))) an)))) ?_
 refine sq ?_
 obtain ⟨r_6,h_9,h⟩:=bind_some h
 refine rg [(2,{ n:=(q_1.1).length }),(3,{ av:=.own 0 ((r_6).length),frz:=[4],ids:=[5],l:=[.sl false 1 (Mb r_5),Ii (lN (q_1.1))],post:=[(.row 5 1 (Mb r_6))] })] [1,5,6,7,13] [0,1,5] 6 [Pp 0,.sl false 1 (Ms q_1.1),.sl false 2 (Mp zC q_1.2.1),.own 1 ((q_1.2.2).length),.own 5 ((r_6).length)] [Vb 24 (zH p_1),Rb 5 1 (Mb q_1.2.2),Rb 5 1 (Mb r_6)] zD (ac (zY _:((Ms q_1.1)).length=(q_1.1).length) (ac (by first | (simp;done) | (simp;omega):(r_5).length=((List.map (AV.int .u8) r_5)).length) (ar ([.sl false 1 (Mb r_5),Ii (lN (q_1.1))]:List AV) (ac (rfl:([]:List zP)=[]) (ac (v9 F r_5 (lN (q_1.1)) r_6 h_9:zM prog 35 [] [] [.sl false 1 (Mb r_5),Ii (lN (q_1.1))] [(.row 5 1 (Mb r_6))] (.own 0 ((r_6).length))) an))))) ?_
 refine sq ?_
 refine sr [] [1,5,6,7,13,14] [0,1,5] 6 [Pp 0,.sl false 1 (Ms q_1.1),.sl false 2 (Mp zC q_1.2.1),.own 1 ((q_1.2.2).length),.own 5 ((r_6).length),Ii 0] [Vb 24 (zH p_1),Rb 5 1 (Mb q_1.2.2),Rb 5 1 (Mb r_6)] zD an ?_
 obtain ⟨o_2,h_10,h⟩:=bind_some h
 refine zX (mk [(1,Pp 0),(6,.sl false 2 (Mp zC q_1.2.1)),(7,.own 1 ((q_1.2.2).length)),(13,.own 2 ((o_2).length))] [(0,Vb 24 (zH p_1)),(1,Rb 5 1 (Mb q_1.2.2)),(2,Rb 5 1 (Mb o_2))] 3) ?_ ?_
 ·replace h:=h_10
  refine zT (id:=2) (by kernel_rfl) ?_
  refine wk [0,1,5] [] [.s 1,.s 5,.s 6,.s 7,.s 13,.s 14] [.s 0,.s 1,.s 2] [(1,Pp 0),(5,.sl false 1 (Ms q_1.1)),(6,.sl false 2 (Mp zC q_1.2.1)),(7,.own 1 ((q_1.2.2).length)),(13,.own 2 ((r_6).length)),(14,Ii 0)] [(0,Vb 24 (zH p_1)),(1,Rb 5 1 (Mb q_1.2.2)),(2,Rb 5 1 (Mb r_6))] an ?_
  refine yF (fun n st=>∃ (i_2:Int),∃ (row_2:List Int),st=mk [(1,Pp 0),(5,.sl false 1 (Ms q_1.1)),(6,.sl false 2 (Mp zC q_1.2.1)),(7,.own 1 ((q_1.2.2).length)),(13,.own 2 ((row_2).length)),(14,Ii i_2)] [(0,Vb 24 (zH p_1)),(1,Rb 5 1 (Mb q_1.2.2)),(2,Rb 5 1 (Mb row_2))] 3∧kA F q_1 n i_2 row_2=some o_2) F (by kernel_rfl) ⟨_,_,rfl,h⟩ ?_ ?_
  ·rintro _ ⟨_,_,_,h⟩;exact yM (h:(none:Option (List Int))=some o_2)
  rintro n_2 _ ⟨i_2,row_2,rfl,h⟩
  replace h:qN F q_1 (kA F q_1 n_2) i_2 row_2=some o_2:=h
  unfold qN at h
  refine sq ?_
  refine sr [(2,{ n:=(q_1.1).length })] [1,5,6,7,13,14,67] [0,1,2] 3 [Pp 0,.sl false 1 (Ms q_1.1),.sl false 2 (Mp zC q_1.2.1),.own 1 ((q_1.2.2).length),.own 2 ((row_2).length),Ii i_2,.bool (decide (i_2<(lN (q_1.1))))] [Vb 24 (zH p_1),Rb 5 1 (Mb q_1.2.2),Rb 5 1 (Mb row_2)] zD (ac (zY _:((Ms q_1.1)).length=(q_1.1).length) an) ?_
  refine cd 67 (decide (i_2<(lN (q_1.1)))) ?_ ?_
  rotate_left
  ·intro g_4;replace h:=zO g_4 h
   refine yL (id:=2) (by kernel_rfl) ?_
   cases h
   exact ⟨rfl,(sw [0,1,2] [] [.s 1,.s 6,.s 7,.s 13] [.s 0,.s 1,.s 2] an)⟩
  intro g_4;replace h:=zN g_4 h
  refine sk ?_
  refine sq ?_
  refine zT (id:=3) (by kernel_rfl) ?_
  obtain ⟨x_2,h_11,h⟩:=bind_some h
  obtain ⟨r_7,h_12,h⟩:=bind_some h
  refine rg [(3,{ av:=.str x_2 }),(5,{ av:=.own 0 ((r_7).length),frz:=[2],ids:=[3],l:=[.sl false 1 (Mb row_2),.str x_2],post:=[(.row 5 1 (Mb r_7))] })] [1,5,6,7,13,14] [0,1,3] 4 [Pp 0,.sl false 1 (Ms q_1.1),.sl false 2 (Mp zC q_1.2.1),.own 1 ((q_1.2.2).length),.own 3 ((r_7).length),Ii i_2] [Vb 24 (zH p_1),Rb 5 1 (Mb q_1.2.2),Rb 5 1 (Mb r_7)] zD (ac (yO h_11:xD (Ms q_1.1) i_2=some (.str x_2)) (ac (by first | (simp;done) | (simp;omega):(row_2).length=((List.map (AV.int .u8) row_2)).length) (ar ([.sl false 1 (Mb row_2),.str x_2]:List AV) (ac (rfl:([]:List zP)=[]) (ac (zHd F row_2 x_2 r_7 h_12:zM prog 36 [] [] [.sl false 1 (Mb row_2),.str x_2] [(.row 5 1 (Mb r_7))] (.own 0 ((r_7).length))) an))))) ?_
  refine rg [] [1,5,6,7,13,14] [0,1,3] 4 [Pp 0,.sl false 1 (Ms q_1.1),.sl false 2 (Mp zC q_1.2.1),.own 1 ((q_1.2.2).length),.own 3 ((r_7).length),Ii (zK (i_2+(1:Int)))] [Vb 24 (zH p_1),Rb 5 1 (Mb q_1.2.2),Rb 5 1 (Mb r_7)] zD an ?_
  exact ⟨_,(sw [0,1,3] [] [.s 1,.s 5,.s 6,.s 7,.s 13,.s 14] [.s 0,.s 1,.s 2] an),_,_,rfl,h⟩
 refine sq ?_
 obtain ⟨r_8,h_13,h⟩:=bind_some h
 refine rg [(2,{ n:=(q_1.2.1).length }),(3,{ av:=.own 0 ((r_8).length),frz:=[2],ids:=[3],l:=[.sl false 1 (Mb o_2),Ii (lN (q_1.2.1))],post:=[(.row 5 1 (Mb r_8))] })] [1,6,7,13] [0,1,3] 4 [Pp 0,.sl false 2 (Mp zC q_1.2.1),.own 1 ((q_1.2.2).length),.own 3 ((r_8).length)] [Vb 24 (zH p_1),Rb 5 1 (Mb q_1.2.2),Rb 5 1 (Mb r_8)] zD (ac (zY _:((Mp zC q_1.2.1)).length=(q_1.2.1).length) (ac (by first | (simp;done) | (simp;omega):(o_2).length=((List.map (AV.int .u8) o_2)).length) (ar ([.sl false 1 (Mb o_2),Ii (lN (q_1.2.1))]:List AV) (ac (rfl:([]:List zP)=[]) (ac (v9 F o_2 (lN (q_1.2.1)) r_8 h_13:zM prog 35 [] [] [.sl false 1 (Mb o_2),Ii (lN (q_1.2.1))] [(.row 5 1 (Mb r_8))] (.own 0 ((r_8).length))) an))))) ?_
 refine sq ?_
 refine sr [] [1,6,7,13,15] [0,1,3] 4 [Pp 0,.sl false 2 (Mp zC q_1.2.1),.own 1 ((q_1.2.2).length),.own 3 ((r_8).length),Ii 0] [Vb 24 (zH p_1),Rb 5 1 (Mb q_1.2.2),Rb 5 1 (Mb r_8)] zD an ?_
 obtain ⟨o_3,h_14,h⟩:=bind_some h
 refine zX (mk [(1,Pp 0),(7,.own 1 ((q_1.2.2).length)),(13,.own 2 ((o_3).length))] [(0,Vb 24 (zH p_1)),(1,Rb 5 1 (Mb q_1.2.2)),(2,Rb 5 1 (Mb o_3))] 3) ?_ ?_
 ·replace h:=h_14
  refine zT (id:=4) (by kernel_rfl) ?_
  refine wk [0,1,3] [] [.s 1,.s 6,.s 7,.s 13,.s 15] [.s 0,.s 1,.s 2] [(1,Pp 0),(6,.sl false 2 (Mp zC q_1.2.1)),(7,.own 1 ((q_1.2.2).length)),(13,.own 2 ((r_8).length)),(15,Ii 0)] [(0,Vb 24 (zH p_1)),(1,Rb 5 1 (Mb q_1.2.2)),(2,Rb 5 1 (Mb r_8))] an ?_
  refine yF (fun n st=>∃ (i_3:Int),∃ (row_3:List Int),st=mk [(1,Pp 0),(6,.sl false 2 (Mp zC q_1.2.1)),(7,.own 1 ((q_1.2.2).length)),(13,.own 2 ((row_3).length)),(15,Ii i_3)] [(0,Vb 24 (zH p_1)),(1,Rb 5 1 (Mb q_1.2.2)),(2,Rb 5 1 (Mb row_3))] 3∧kB F q_1 n i_3 row_3=some o_3) F (by kernel_rfl) ⟨_,_,rfl,h⟩ ?_ ?_
  ·rintro _ ⟨_,_,_,h⟩;exact yM (h:(none:Option (List Int))=some o_3)
  rintro n_3 _ ⟨i_3,row_3,rfl,h⟩
  replace h:qP F q_1 (kB F q_1 n_3) i_3 row_3=some o_3:=h
  unfold qP at h
  refine sq ?_
  refine sr [(2,{ n:=(q_1.2.1).length })] [1,6,7,13,15,83] [0,1,2] 3 [Pp 0,.sl false 2 (Mp zC q_1.2.1),.own 1 ((q_1.2.2).length),.own 2 ((row_3).length),Ii i_3,.bool (decide (i_3<(lN (q_1.2.1))))] [Vb 24 (zH p_1),Rb 5 1 (Mb q_1.2.2),Rb 5 1 (Mb row_3)] zD (ac (zY _:((Mp zC q_1.2.1)).length=(q_1.2.1).length) an) ?_
  refine cd 83 (decide (i_3<(lN (q_1.2.1)))) ?_ ?_
  rotate_left
  ·intro g_5;replace h:=zO g_5 h
   refine yL (id:=4) (by kernel_rfl) ?_
   cases h
   exact ⟨rfl,(sw [0,1,2] [] [.s 1,.s 7,.s 13] [.s 0,.s 1,.s 2] an)⟩
  intro g_5;replace h:=zN g_5 h
  refine sk ?_
  refine sq ?_
  refine zT (id:=5) (by kernel_rfl) ?_
  obtain ⟨x_3,h_15,h⟩:=bind_some h
  obtain ⟨r_9,h_16,h⟩:=bind_some h
  obtain ⟨x_4,h_17,h⟩:=bind_some h
  obtain ⟨r_10,h_18,h⟩:=bind_some h
  refine rg [(3,{ av:=.agg [Ii x_3.c0,Ii x_3.c1] }),(6,{ av:=.own 0 ((r_9).length),frz:=[2],ids:=[3],l:=[.sl false 1 (Mb row_3),Ii x_3.c0],post:=[(.row 5 1 (Mb r_9))] }),(9,{ av:=.agg [Ii x_4.c0,Ii x_4.c1] }),(12,{ av:=.own 0 ((r_10).length),frz:=[3],ids:=[4],l:=[.sl false 1 (Mb r_9),Ii x_4.c1],post:=[(.row 5 1 (Mb r_10))] })] [1,6,7,13,15] [0,1,4] 5 [Pp 0,.sl false 2 (Mp zC q_1.2.1),.own 1 ((q_1.2.2).length),.own 4 ((r_10).length),Ii i_3] [Vb 24 (zH p_1),Rb 5 1 (Mb q_1.2.2),Rb 5 1 (Mb r_10)] zD (ac (yO h_15:xD (Mp zC q_1.2.1) i_3=some (.agg [Ii x_3.c0,Ii x_3.c1])) (ac (by decide:(0:Int)≤(0:Int)) (ac (by decide:(0:Int)<((2:Nat):Int)) (ac (by first | (simp;done) | (simp;omega):(row_3).length=((List.map (AV.int .u8) row_3)).length) (ar ([.sl false 1 (Mb row_3),Ii x_3.c0]:List AV) (ac (rfl:([]:List zP)=[]) (ac (v9 F row_3 x_3.c0 r_9 h_16:zM prog 35 [] [] [.sl false 1 (Mb row_3),Ii x_3.c0] [(.row 5 1 (Mb r_9))] (.own 0 ((r_9).length))) (ac (yO h_17:xD (Mp zC q_1.2.1) i_3=some (.agg [Ii x_4.c0,Ii x_4.c1])) (ac (by decide:(0:Int)≤(1:Int)) (ac (by decide:(1:Int)<((2:Nat):Int)) (ac (by first | (simp;done) | (simp;omega):(r_9).length=((List.map (AV.int .u8) r_9)).length) (ar ([.sl false 1 (Mb r_9),Ii x_4.c1]:List AV) (ac (rfl:([]:List zP)=[]) (ac (v9 F r_9 x_4.c1 r_10 h_18:zM prog 35 [] [] [.sl false 1 (Mb r_9),Ii x_4.c1] [(.row 5 1 (Mb r_10))] (.own 0 ((r_10).length))) an)))))))))))))) ?_
  refine rg [] [1,6,7,13,15] [0,1,4] 5 [Pp 0,.sl false 2 (Mp zC q_1.2.1),.own 1 ((q_1.2.2).length),.own 4 ((r_10).length),Ii (zK (i_3+(1:Int)))] [Vb 24 (zH p_1),Rb 5 1 (Mb q_1.2.2),Rb 5 1 (Mb r_10)] zD an ?_
  exact ⟨_,(sw [0,1,4] [] [.s 1,.s 6,.s 7,.s 13,.s 15] [.s 0,.s 1,.s 2] an),_,_,rfl,h⟩
 refine sq ?_
 obtain ⟨r_11,h_19,h⟩:=bind_some h
 obtain ⟨_,h_20,h⟩:=bind_some h;replace h_20:=z0 h_20
 refine rg [(3,{ n:=(p_1.Events).length }),(4,{ av:=.own 0 ((r_11).length),frz:=[2],ids:=[3],l:=[.sl false 1 (Mb o_3),Ii (lN (p_1.Events))],post:=[(.row 5 1 (Mb r_11))] }),(6,{ id:=4,l:=(Mb (r_11++q_1.2.2)),n:=((r_11++q_1.2.2)).length })] [2,3] [4] 5 [.own 4 (((r_11++q_1.2.2)).length),Ii 0] [Rb 5 1 (Mb (r_11++q_1.2.2))] zD (ac (zY _:((Mp zB p_1.Events)).length=(p_1.Events).length) (ac (by first | (simp;done) | (simp;omega):(o_3).length=((List.map (AV.int .u8) o_3)).length) (ar ([.sl false 1 (Mb o_3),Ii (lN (p_1.Events))]:List AV) (ac (rfl:([]:List zP)=[]) (ac (v9 F o_3 (lN (p_1.Events)) r_11 h_19:zM prog 35 [] [] [.sl false 1 (Mb o_3),Ii (lN (p_1.Events))] [(.row 5 1 (Mb r_11))] (.own 0 ((r_11).length))) (ac (by first | (simp;done) | (simp;omega):(r_11).length=((List.map (AV.int .u8) r_11)).length) (ac (by first | (simp;done) | (simp;omega):(q_1.2.2).length=((List.map (AV.int .u8) q_1.2.2)).length) (ac (w9 _ _:(Mb (r_11++q_1.2.2))=(Mb r_11)++(Mb q_1.2.2)) (ac (by simp:((r_11++q_1.2.2)).length=((List.map (AV.int .u8) (r_11++q_1.2.2))).length) (ac (by first | (simp;done) | simpa using h_20:(((List.map (AV.int .u8) r_11):List AV).length+((List.map (AV.int .u8) q_1.2.2):List AV).length) * 1≤140737488355328) an)))))))))) ?_
 refine wk [4] [] [.s 2,.s 3] [.s 0] [(2,.own 0 (((r_11++q_1.2.2)).length)),(3,Ii 0)] [(0,Rb 5 1 (Mb (r_11++q_1.2.2)))] an ?_
 refine rt ?_
 cases h
 exact ⟨.inr rfl,Nat.le_of_ble_eq_true rfl,by kernel_rfl⟩
theorem zHy (u_1:Int) (r:Int) (h:zAB u_1=some r):zM prog 96 [] [] [.int .u64 u_1] [] (Ii r):=by
 refine zS (fn:=Go.Proofs.Try.f96) (code:=z6 Go.Proofs.Try.f96) (by kernel_rfl) (by kernel_rfl) (Nat.le_of_ble_eq_true (by kernel_rfl)) ?_
 unfold zAB at h
 refine sr [] [0] [] 0 [.int .u64 u_1] [] zD an ?_
 refine sq ?_
 refine sr [] [0,5] [] 0 [.int .u64 u_1,.bool ((vC u_1 (2:Int))==(1:Int))] [] zD (ac (by decide:(2:Int)≠(0:Int)) an) ?_
 refine cd 5 ((vC u_1 (2:Int))==(1:Int)) ?_ ?_
 ·intro g_1;replace h:=zN g_1 h
  refine sr [] [2] [] 0 [Ii (zK ((zK (0 - (zK (zCu .u64 u_1 (2:Int))))) - (1:Int)))] [] zD (ac (by decide:(2:Int)≠(0:Int)) an) ?_
  refine rt ?_
  cases h
  exact ⟨.inr rfl,Nat.le_of_ble_eq_true rfl,by kernel_rfl⟩
 intro g_1;replace h:=zO g_1 h
 refine sk ?_
 refine sr [] [2] [] 0 [Ii (zK (zCu .u64 u_1 (2:Int)))] [] zD (ac (by decide:(2:Int)≠(0:Int)) an) ?_
 refine rt ?_
 cases h
 exact ⟨.inr rfl,Nat.le_of_ble_eq_true rfl,by kernel_rfl⟩
theorem zDR (F:Nat) (b_1:List (Int)) (r:Int×Int×Int) (h:zBo F b_1=some r):zM prog 89 [] [] [.sl false 1 (Mb b_1)] [] (.tuple [Ii r.1,Ii r.2.1,Ii r.2.2]):=by
 refine zS (fn:=Go.Proofs.Try.f89) (code:=z6 Go.Proofs.Try.f89) (by kernel_rfl) (by kernel_rfl) (Nat.le_of_ble_eq_true (by kernel_rfl)) ?_
 unfold zBo at h
 refine sr [] [0] [] 0 [.sl false 1 (Mb b_1)] [] zD an ?_
 refine sr [] [0,5] [] 0 [.sl false 1 (Mb b_1),.int .u64 (0:Int)] [] zD an ?_
 refine sr [] [0,5,6] [] 0 [.sl false 1 (Mb b_1),.int .u64 (0:Int),.int .u64 (1:Int)] [] zD an ?_
 refine sq ?_
 refine sr [] [0,5,6,7] [] 0 [.sl false 1 (Mb b_1),.int .u64 (0:Int),.int .u64 (1:Int),Ii 0] [] zD an ?_
 obtain ⟨o_1,h_1,h⟩:=bind_some h
 refine yZ (K1:=(fun e st'=>match o_1 with | (.inl q0)=>e=.normal∧Sub 0 st' (mk [] [] 0) | (.inr q1)=>e=.ret∧vS prog Go.Proofs.Try.f89 0 [] (.tuple [Ii q1.1,Ii q1.2.1,Ii q1.2.2]) st')) ?_ ?_
 ·replace h:=h_1
  refine zT (id:=0) (by kernel_rfl) ?_
  refine wk [] [] [.s 0,.s 5,.s 6,.s 7] [] [(0,.sl false 1 (Mb b_1)),(5,.int .u64 (0:Int)),(6,.int .u64 (1:Int)),(7,Ii 0)] [] an ?_
  refine yF (fun n st=>∃ (u_1:Int),∃ (unit_1:Int),∃ (i_1:Int),st=mk [(0,.sl false 1 (Mb b_1)),(5,.int .u64 u_1),(6,.int .u64 unit_1),(7,Ii i_1)] [] 0∧pK F b_1 n u_1 unit_1 i_1=some o_1) F (by kernel_rfl) ⟨_,_,_,rfl,h⟩ ?_ ?_
  ·rintro _ ⟨_,_,_,_,h⟩;exact yM (h:(none:Option (Unit⊕(Int×Int×Int)))=some o_1)
  rintro n_1 _ ⟨u_1,unit_1,i_1,rfl,h⟩
  replace h:kF F b_1 (pK F b_1 n_1) u_1 unit_1 i_1=some o_1:=h
  unfold kF at h
  refine sq ?_
  refine sr [] [0,5,6,7,10] [] 0 [.sl false 1 (Mb b_1),.int .u64 u_1,.int .u64 unit_1,Ii i_1,.bool (decide (i_1<(10:Int)))] [] zD an ?_
  refine cd 10 (decide (i_1<(10:Int))) ?_ ?_
  rotate_left
  ·intro g_1;replace h:=zO g_1 h
   refine yL (id:=0) (by kernel_rfl) ?_
   cases h
   exact ⟨rfl,(sw [] [] [] [] an)⟩
  intro g_1;replace h:=zN g_1 h
  refine sk ?_
  refine sq ?_
  refine zT (id:=1) (by kernel_rfl) ?_
  refine sq ?_
  refine sr [(2,{ n:=(b_1).length })] [0,5,6,7,16] [] 0 [.sl false 1 (Mb b_1),.int .u64 u_1,.int .u64 unit_1,Ii i_1,.bool (decide (i_1≥(lN (b_1))))] [] zD (ac (zY _:((Mb b_1)).length=(b_1).length) an) ?_
  refine cd 16 (decide (i_1≥(lN (b_1)))) ?_ ?_
  ·intro g_2;replace h:=zN g_2 h
   refine sr [] [2,3,4] [] 0 [Ii 0,Ii 0,Ii 8] [] zD an ?_
   refine rt ?_
   cases h
   exact ⟨rfl,Nat.le_of_ble_eq_true rfl,by kernel_rfl⟩
  intro g_2;replace h:=zO g_2 h
  refine sk ?_
  refine sq ?_
  obtain ⟨x_1,h_2,h⟩:=bind_some h
  refine rg [(2,{ av:=Iu x_1 })] [0,5,6,7,8] [] 0 [.sl false 1 (Mb b_1),.int .u64 u_1,.int .u64 unit_1,Ii i_1,.int .u64 (zW x_1)] [] zD (ac (yO h_2:xD (Mb b_1) i_1=some (Iu x_1)) an) ?_
  refine sq ?_
  refine sq ?_
  refine zX (mk [(0,.sl false 1 (Mb b_1)),(5,.int .u64 u_1),(6,.int .u64 unit_1),(7,Ii i_1),(8,.int .u64 (zW x_1)),(27,.bool ((i_1==(9:Int))&&decide ((zW x_1)>(1:Int))))] [] 0) ?_ ?_
  ·rcases bft (i_1==(9:Int)) with gg_10 | gg_10
   ·refine rg [(5,Ht)] [0,5,6,7,8,25,26,27] [] 0 [.sl false 1 (Mb b_1),.int .u64 u_1,.int .u64 unit_1,Ii i_1,.int .u64 (zW x_1),.int .u64 (zW x_1),.bool (decide ((zW x_1)>(1:Int))),.bool (decide ((zW x_1)>(1:Int)))] [] zD (ac gg_10 (ac gg_10 (ac gg_10 an))) ?_
    exact ⟨rfl,(sw [] [] [.s 0,.s 5,.s 6,.s 7,.s 8,.a 27 (.bool ((i_1==(9:Int))&&decide ((zW x_1)>(1:Int))))] [] (ac (congrArg AV.bool (vR gg_10 rfl):(.bool (decide ((zW x_1)>(1:Int))):AV)=.bool ((i_1==(9:Int))&&decide ((zW x_1)>(1:Int)))) an))⟩
   ·refine rg [(3,Hg),(4,Hg),(5,Hf)] [0,5,6,7,8,25,26,27] [] 0 [.sl false 1 (Mb b_1),.int .u64 u_1,.int .u64 unit_1,Ii i_1,.int .u64 (zW x_1),.tuple [],.tuple [],.bool false] [] zD (ac gg_10 (ac gg_10 (ac gg_10 an))) ?_
    exact ⟨rfl,(sw [] [] [.s 0,.s 5,.s 6,.s 7,.s 8,.a 27 (.bool ((i_1==(9:Int))&&decide ((zW x_1)>(1:Int))))] [] (ac (congrArg AV.bool (qL gg_10):(.bool false:AV)=.bool ((i_1==(9:Int))&&decide ((zW x_1)>(1:Int)))) an))⟩
  refine cd 27 ((i_1==(9:Int))&&decide ((zW x_1)>(1:Int))) ?_ ?_
  ·intro g_3;replace h:=zN g_3 h
   refine sr [] [2,3,4] [] 0 [Ii 0,Ii 0,Ii 10] [] zD an ?_
   refine rt ?_
   cases h
   exact ⟨rfl,Nat.le_of_ble_eq_true rfl,by kernel_rfl⟩
  intro g_3;replace h:=zO g_3 h
  refine sk ?_
  refine sr [] [0,5,6,7,8] [] 0 [.sl false 1 (Mb b_1),.int .u64 (zW (u_1+(zW ((vC (zW x_1) (128:Int)) * unit_1)))),.int .u64 unit_1,Ii i_1,.int .u64 (zW x_1)] [] zD (ac (by decide:(128:Int)≠(0:Int)) an) ?_
  refine sr [] [0,5,6,7,8] [] 0 [.sl false 1 (Mb b_1),.int .u64 (zW (u_1+(zW ((vC (zW x_1) (128:Int)) * unit_1)))),.int .u64 (zW (unit_1 * (128:Int))),Ii i_1,.int .u64 (zW x_1)] [] zD an ?_
  refine sq ?_
  refine sq ?_
  refine zX (mk [(0,.sl false 1 (Mb b_1)),(5,.int .u64 (zW (u_1+(zW ((vC (zW x_1) (128:Int)) * unit_1))))),(6,.int .u64 (zW (unit_1 * (128:Int)))),(7,Ii i_1),(8,.int .u64 (zW x_1)),(45,.bool (decide ((zW x_1)<(128:Int))&&(((zW x_1)==(0:Int))&&decide (i_1>(0:Int)))))] [] 0) ?_ ?_
  ·rcases bft (decide ((zW x_1)<(128:Int))) with gg_11 | gg_11
   ·rcases bft ((zW x_1)==(0:Int)) with gg_12 | gg_12
    ·refine rg [(5,Ht),(9,Ht)] [0,5,6,7,8,39,40,43,44,45] [] 0 [.sl false 1 (Mb b_1),.int .u64 (zW (u_1+(zW ((vC (zW x_1) (128:Int)) * unit_1)))),.int .u64 (zW (unit_1 * (128:Int))),Ii i_1,.int .u64 (zW x_1),.int .u64 (zW x_1),.bool ((zW x_1)==(0:Int)),Ii i_1,.bool (decide (i_1>(0:Int))),.bool (decide (i_1>(0:Int)))] [] zD (ac gg_11 (ac gg_11 (ac gg_11 (ac gg_12 (ac gg_12 (ac gg_12 an)))))) ?_
     exact ⟨rfl,(sw [] [] [.s 0,.s 5,.s 6,.s 7,.s 8,.a 45 (.bool (decide ((zW x_1)<(128:Int))&&(((zW x_1)==(0:Int))&&decide (i_1>(0:Int)))))] [] (ac (congrArg AV.bool (vR gg_11 (vR gg_12 rfl)):(.bool (decide (i_1>(0:Int))):AV)=.bool (decide ((zW x_1)<(128:Int))&&(((zW x_1)==(0:Int))&&decide (i_1>(0:Int))))) an))⟩
    ·refine rg [(5,Ht),(7,Hg),(8,Hg),(9,Hf)] [0,5,6,7,8,39,40,43,44,45] [] 0 [.sl false 1 (Mb b_1),.int .u64 (zW (u_1+(zW ((vC (zW x_1) (128:Int)) * unit_1)))),.int .u64 (zW (unit_1 * (128:Int))),Ii i_1,.int .u64 (zW x_1),.int .u64 (zW x_1),.bool ((zW x_1)==(0:Int)),.tuple [],.tuple [],.bool false] [] zD (ac gg_11 (ac gg_11 (ac gg_11 (ac gg_12 (ac gg_12 (ac gg_12 an)))))) ?_
     exact ⟨rfl,(sw [] [] [.s 0,.s 5,.s 6,.s 7,.s 8,.a 45 (.bool (decide ((zW x_1)<(128:Int))&&(((zW x_1)==(0:Int))&&decide (i_1>(0:Int)))))] [] (ac (congrArg AV.bool (vR gg_11 (qL gg_12)):(.bool false:AV)=.bool (decide ((zW x_1)<(128:Int))&&(((zW x_1)==(0:Int))&&decide (i_1>(0:Int))))) an))⟩
   ·refine rg [(3,Hg),(4,Hg),(5,Hf),(7,Hg),(8,Hg),(9,Hf)] [0,5,6,7,8,39,40,43,44,45] [] 0 [.sl false 1 (Mb b_1),.int .u64 (zW (u_1+(zW ((vC (zW x_1) (128:Int)) * unit_1)))),.int .u64 (zW (unit_1 * (128:Int))),Ii i_1,.int .u64 (zW x_1),.tuple [],.tuple [],.tuple [],.tuple [],.bool false] [] zD (ac gg_11 (ac gg_11 (ac gg_11 (ac (rfl:false=!true) (ac (rfl:false=!true) (ar false an)))))) ?_
    exact ⟨rfl,(sw [] [] [.s 0,.s 5,.s 6,.s 7,.s 8,.a 45 (.bool (decide ((zW x_1)<(128:Int))&&(((zW x_1)==(0:Int))&&decide (i_1>(0:Int)))))] [] (ac (congrArg AV.bool (qL gg_11):(.bool false:AV)=.bool (decide ((zW x_1)<(128:Int))&&(((zW x_1)==(0:Int))&&decide (i_1>(0:Int))))) an))⟩
  refine cd 45 (decide ((zW x_1)<(128:Int))&&(((zW x_1)==(0:Int))&&decide (i_1>(0:Int)))) ?_ ?_
  ·intro g_4;replace h:=zN g_4 h
   refine sr [] [2,3,4] [] 0 [Ii 0,Ii 0,Ii 10] [] zD an ?_
   refine rt ?_
   cases h
   exact ⟨rfl,Nat.le_of_ble_eq_true rfl,by kernel_rfl⟩
  intro g_4;replace h:=zO g_4 h
  refine sk ?_
  refine sr [] [0,5,6,7,47] [] 0 [.sl false 1 (Mb b_1),.int .u64 (zW (u_1+(zW ((vC (zW x_1) (128:Int)) * unit_1)))),.int .u64 (zW (unit_1 * (128:Int))),Ii i_1,.bool (decide ((zW x_1)<(128:Int)))] [] zD an ?_
  refine cd 47 (decide ((zW x_1)<(128:Int))) ?_ ?_
  rotate_left
  ·intro g_5;replace h:=zO g_5 h
   refine sk ?_
   refine rg [] [0,5,6,7] [] 0 [.sl false 1 (Mb b_1),.int .u64 (zW (u_1+(zW ((vC (zW x_1) (128:Int)) * unit_1)))),.int .u64 (zW (unit_1 * (128:Int))),Ii (zK (i_1+(1:Int)))] [] zD an ?_
   exact ⟨_,(sw [] [] [.s 0,.s 5,.s 6,.s 7] [] an),_,_,_,rfl,h⟩
  intro g_5;replace h:=zN g_5 h
  refine sq ?_
  obtain ⟨r_1,h_3,h⟩:=bind_some h
  refine rg [(1,{ av:=Ii r_1,l:=[.int .u64 (zW (u_1+(zW ((vC (zW x_1) (128:Int)) * unit_1))))] })] [2,3,4] [] 0 [Ii r_1,Ii (zK (i_1+(1:Int))),Ii 0] [] zD (ar ([.int .u64 (zW (u_1+(zW ((vC (zW x_1) (128:Int)) * unit_1))))]:List AV) (ac (rfl:([]:List zP)=[]) (ac (zHy (zW (u_1+(zW ((vC (zW x_1) (128:Int)) * unit_1)))) r_1 h_3:zM prog 96 [] [] [.int .u64 (zW (u_1+(zW ((vC (zW x_1) (128:Int)) * unit_1))))] [] (Ii r_1)) an))) ?_
  refine rt ?_
  cases h
  exact ⟨rfl,Nat.le_of_ble_eq_true rfl,by kernel_rfl⟩
 intro e st1 hk
 rcases o_1 with q_1 | q_2
 rotate_left
 ·obtain ⟨rfl,hf⟩:=hk
  cases h
  exact ⟨st1,Sub.refl _ _,.inr rfl,hf⟩
 obtain ⟨rfl,hs⟩:=hk
 refine ⟨_,hs,?_⟩
 refine sr [] [2,3,4] [] 0 [Ii 0,Ii 0,Ii 10] [] zD an ?_
 refine rt ?_
 cases h
 exact ⟨.inr rfl,Nat.le_of_ble_eq_true rfl,by kernel_rfl⟩
theorem vT (F:Nat) (c_1:zL) (r:Int×zL) (h:xG F c_1=some r):zM prog 66 [(.var 71 (zG c_1))] [] [Pp 0] [(.var 71 (zG r.2))] (Ii r.1):=by
 refine zS (fn:=Go.Proofs.Try.f66) (code:=z6 Go.Proofs.Try.f66) (by kernel_rfl) (by kernel_rfl) (Nat.le_of_ble_eq_true (by kernel_rfl)) ?_
 unfold xG at h
 refine sr [] [0] [0] 1 [Pp 0] [Vb 71 (zG c_1)] zD an ?_
 refine sq ?_
 refine sr [] [0,10] [0] 1 [Pp 0,.bool (c_1.E != (0:Int))] [Vb 71 (zG c_1)] zD an ?_
 refine cd 10 (c_1.E != (0:Int)) ?_ ?_
 ·intro g_1;replace h:=zN g_1 h
  refine sr [] [2] [0] 1 [Ii 0] [Vb 71 (zG c_1)] zD an ?_
  refine wk [0] [] [.s 2] [.s 0] [(2,Ii 0)] [(0,Vb 71 (zG c_1))] an ?_
  refine rt ?_
  cases h
  exact ⟨.inr rfl,Nat.le_of_ble_eq_true rfl,by kernel_rfl⟩
 intro g_1;replace h:=zO g_1 h
 refine sk ?_
 refine sq ?_
 obtain ⟨_,h_1,h⟩:=bind_some h;replace h_1:=z0 h_1
 obtain ⟨r_1,h_2,h⟩:=bind_some h
 refine rg [(8,{ l:=(Mb (sub c_1.B c_1.At (lN (c_1.B)))) }),(9,{ av:=.tuple [Ii r_1.1,Ii r_1.2.1,Ii r_1.2.2],l:=[.sl false 1 (Mb (sub c_1.B c_1.At (lN (c_1.B))))] })] [0,3,4,5] [0] 1 [Pp 0,Ii r_1.1,Ii r_1.2.1,Ii r_1.2.2] [Vb 71 (zG c_1)] zD (ac h_1.1 (ac (v5 h_1.2:c_1.At≤(lN ((Mb c_1.B)))) (ac (Int.le_refl _:(lN ((Mb c_1.B)))≤(lN ((Mb c_1.B)))) (ac (zAk _ _:(Mb (sub c_1.B c_1.At (lN (c_1.B))))=(((Mb c_1.B)).take ((lN ((Mb c_1.B)))).toNat).drop (c_1.At).toNat) (ar ([.sl false 1 (Mb (sub c_1.B c_1.At (lN (c_1.B))))]:List AV) (ac (rfl:([]:List zP)=[]) (ac (zDR F (sub c_1.B c_1.At (lN (c_1.B))) r_1 h_2:zM prog 89 [] [] [.sl false 1 (Mb (sub c_1.B c_1.At (lN (c_1.B))))] [] (.tuple [Ii r_1.1,Ii r_1.2.1,Ii r_1.2.2])) an))))))) ?_
 refine sr [] [0,3,5] [0] 1 [Pp 0,Ii r_1.1,Ii r_1.2.2] [Vb 71 [.sl false 1 (Mb c_1.B),Ii (zK (c_1.At+r_1.2.1)),Ii c_1.E]] zD an ?_
 refine sr [] [3] [0] 1 [Ii r_1.1] [Vb 71 [.sl false 1 (Mb c_1.B),Ii (zK (c_1.At+r_1.2.1)),Ii r_1.2.2]] zD an ?_
 refine sr [] [2] [0] 1 [Ii r_1.1] [Vb 71 [.sl false 1 (Mb c_1.B),Ii (zK (c_1.At+r_1.2.1)),Ii r_1.2.2]] zD an ?_
 refine wk [0] [] [.s 2] [.a 0 (Vb 71 (zG (⟨c_1.B,zK (c_1.At+r_1.2.1),r_1.2.2⟩:zL)))] [(2,Ii r_1.1)] [(0,Vb 71 (zG (⟨c_1.B,zK (c_1.At+r_1.2.1),r_1.2.2⟩:zL)))] (ar 71 (ac (rfl:xA [.sl false 1 (Mb ((⟨c_1.B,zK (c_1.At+r_1.2.1),r_1.2.2⟩:zL).B)),Ii ((⟨c_1.B,zK (c_1.At+r_1.2.1),r_1.2.2⟩:zL).At),Ii ((⟨c_1.B,zK (c_1.At+r_1.2.1),r_1.2.2⟩:zL).E)]=true) (ar 1 (ac (rfl:((Mb c_1.B):List AV)=(Mb ((⟨c_1.B,zK (c_1.At+r_1.2.1),r_1.2.2⟩:zL).B))) (ac (rfl:(!false||false)=true) (ac (rfl:(Ii (zK (c_1.At+r_1.2.1)):AV)=Ii ((⟨c_1.B,zK (c_1.At+r_1.2.1),r_1.2.2⟩:zL).At)) (ac (rfl:(Ii r_1.2.2:AV)=Ii ((⟨c_1.B,zK (c_1.At+r_1.2.1),r_1.2.2⟩:zL).E)) an))))))) ?_
 refine rt ?_
 cases h
 exact ⟨.inr rfl,Nat.le_of_ble_eq_true rfl,by kernel_rfl⟩
theorem nH (F:Nat) (c_1:zL) (most_1:Int) (r:Int×zL) (h:wP F c_1 most_1=some r):zM prog 67 [(.var 71 (zG c_1))] [] [Pp 0,Ii most_1] [(.var 71 (zG r.2))] (Ii r.1):=by
 refine zS (fn:=Go.Proofs.Try.f67) (code:=z6 Go.Proofs.Try.f67) (by kernel_rfl) (by kernel_rfl) (Nat.le_of_ble_eq_true (by kernel_rfl)) ?_
 unfold wP at h
 refine sr [] [0,1] [0] 1 [Pp 0,Ii most_1] [Vb 71 (zG c_1)] zD an ?_
 refine sq ?_
 obtain ⟨r_1,h_1,h⟩:=bind_some h
 refine rg [(1,{ av:=Ii r_1.1,ids:=[0],l:=[Pp 0],post:=[(.var 71 (zG r_1.2))],pre:=[(.var 71 (zG c_1))] })] [0,1,5] [0] 1 [Pp 0,Ii most_1,Ii r_1.1] [Vb 71 (zG r_1.2)] zD (ar ([Pp 0]:List AV) (ac (rfl:([Vb 71 (zG c_1)]:List zP)=[Vb 71 (zG c_1)]) (ac (vT F c_1 r_1 h_1:zM prog 66 [(.var 71 (zG c_1))] [] [Pp 0] [(.var 71 (zG r_1.2))] (Ii r_1.1)) an))) ?_
 refine sq ?_
 refine zT (id:=0) (by kernel_rfl) ?_
 refine sr [] [0,1,5,8] [0] 1 [Pp 0,Ii most_1,Ii r_1.1,.bool (r_1.2.E != (0:Int))] [Vb 71 (zG r_1.2)] zD an ?_
 refine cd 8 (r_1.2.E != (0:Int)) ?_ ?_
 ·intro g_1;replace h:=zN g_1 h
  refine sr [] [4] [0] 1 [Ii 0] [Vb 71 (zG r_1.2)] zD an ?_
  refine wk [0] [] [.s 4] [.s 0] [(4,Ii 0)] [(0,Vb 71 (zG r_1.2))] an ?_
  refine rt ?_
  cases h
  exact ⟨.inr rfl,Nat.le_of_ble_eq_true rfl,by kernel_rfl⟩
 intro g_1;replace h:=zO g_1 h
 refine sr [] [0,1,5,14] [0] 1 [Pp 0,Ii most_1,Ii r_1.1,.bool (decide (r_1.1<(0:Int)))] [Vb 71 (zG r_1.2)] zD an ?_
 refine cd 14 (decide (r_1.1<(0:Int))) ?_ ?_
 ·intro g_2;replace h:=zN g_2 h
  refine sr [] [] [0] 1 [] [Vb 71 [.sl false 1 (Mb r_1.2.B),Ii r_1.2.At,Ii 10]] zD an ?_
  refine sr [] [4] [0] 1 [Ii 0] [Vb 71 [.sl false 1 (Mb r_1.2.B),Ii r_1.2.At,Ii 10]] zD an ?_
  refine wk [0] [] [.s 4] [.a 0 (Vb 71 (zG (⟨r_1.2.B,r_1.2.At,(10:Int)⟩:zL)))] [(4,Ii 0)] [(0,Vb 71 (zG (⟨r_1.2.B,r_1.2.At,(10:Int)⟩:zL)))] (ar 71 (ac (rfl:xA [.sl false 1 (Mb ((⟨r_1.2.B,r_1.2.At,(10:Int)⟩:zL).B)),Ii ((⟨r_1.2.B,r_1.2.At,(10:Int)⟩:zL).At),Ii ((⟨r_1.2.B,r_1.2.At,(10:Int)⟩:zL).E)]=true) (ar 1 (ac (rfl:((Mb r_1.2.B):List AV)=(Mb ((⟨r_1.2.B,r_1.2.At,(10:Int)⟩:zL).B))) (ac (rfl:(!false||false)=true) (ac (rfl:(Ii r_1.2.At:AV)=Ii ((⟨r_1.2.B,r_1.2.At,(10:Int)⟩:zL).At)) (ac (rfl:(Ii 10:AV)=Ii ((⟨r_1.2.B,r_1.2.At,(10:Int)⟩:zL).E)) an))))))) ?_
  refine rt ?_
  cases h
  exact ⟨.inr rfl,Nat.le_of_ble_eq_true rfl,by kernel_rfl⟩
 intro g_2;replace h:=zO g_2 h
 refine sr [] [0,5,20] [0] 1 [Pp 0,Ii r_1.1,.bool (decide (r_1.1>most_1))] [Vb 71 (zG r_1.2)] zD an ?_
 refine cd 20 (decide (r_1.1>most_1)) ?_ ?_
 rotate_left
 ·intro g_3;replace h:=zO g_3 h
  refine sk ?_
  refine sr [] [4] [0] 1 [Ii r_1.1] [Vb 71 (zG r_1.2)] zD an ?_
  refine wk [0] [] [.s 4] [.s 0] [(4,Ii r_1.1)] [(0,Vb 71 (zG r_1.2))] an ?_
  refine rt ?_
  cases h
  exact ⟨.inr rfl,Nat.le_of_ble_eq_true rfl,by kernel_rfl⟩
 intro g_3;replace h:=zN g_3 h
 refine sr [] [] [0] 1 [] [Vb 71 [.sl false 1 (Mb r_1.2.B),Ii r_1.2.At,Ii 7]] zD an ?_
 refine sr [] [4] [0] 1 [Ii 0] [Vb 71 [.sl false 1 (Mb r_1.2.B),Ii r_1.2.At,Ii 7]] zD an ?_
 refine wk [0] [] [.s 4] [.a 0 (Vb 71 (zG (⟨r_1.2.B,r_1.2.At,(7:Int)⟩:zL)))] [(4,Ii 0)] [(0,Vb 71 (zG (⟨r_1.2.B,r_1.2.At,(7:Int)⟩:zL)))] (ar 71 (ac (rfl:xA [.sl false 1 (Mb ((⟨r_1.2.B,r_1.2.At,(7:Int)⟩:zL).B)),Ii ((⟨r_1.2.B,r_1.2.At,(7:Int)⟩:zL).At),Ii ((⟨r_1.2.B,r_1.2.At,(7:Int)⟩:zL).E)]=true) (ar 1 (ac (rfl:((Mb r_1.2.B):List AV)=(Mb ((⟨r_1.2.B,r_1.2.At,(7:Int)⟩:zL).B))) (ac (rfl:(!false||false)=true) (ac (rfl:(Ii r_1.2.At:AV)=Ii ((⟨r_1.2.B,r_1.2.At,(7:Int)⟩:zL).At)) (ac (rfl:(Ii 7:AV)=Ii ((⟨r_1.2.B,r_1.2.At,(7:Int)⟩:zL).E)) an))))))) ?_
 refine rt ?_
 cases h
 exact ⟨.inr rfl,Nat.le_of_ble_eq_true rfl,by kernel_rfl⟩
theorem zKg (F:Nat) (b_1:List (Int)) (most_1:Int) (r:(List Int)×Int×Int) (h:zCI F b_1 most_1=some r):zM prog 90 [] [] [.sl false 1 (Mb b_1),Ii most_1] [] (.tuple [.str r.1,Ii r.2.1,Ii r.2.2]):=by
 refine zS (fn:=Go.Proofs.Try.f90) (code:=z6 Go.Proofs.Try.f90) (by kernel_rfl) (by kernel_rfl) (Nat.le_of_ble_eq_true (by kernel_rfl)) ?_
 unfold zCI at h
 refine sr [] [0,1] [] 0 [.sl false 1 (Mb b_1),Ii most_1] [] zD an ?_
 refine sq ?_
 obtain ⟨r_1,h_1,h⟩:=bind_some h
 refine rg [(1,{ av:=.tuple [Ii r_1.1,Ii r_1.2.1,Ii r_1.2.2],l:=[.sl false 1 (Mb b_1)] })] [0,1,7,8,9] [] 0 [.sl false 1 (Mb b_1),Ii most_1,Ii r_1.1,Ii r_1.2.1,Ii r_1.2.2] [] zD (ar ([.sl false 1 (Mb b_1)]:List AV) (ac (rfl:([]:List zP)=[]) (ac (zDR F b_1 r_1 h_1:zM prog 89 [] [] [.sl false 1 (Mb b_1)] [] (.tuple [Ii r_1.1,Ii r_1.2.1,Ii r_1.2.2])) an))) ?_
 refine sq ?_
 refine zT (id:=0) (by kernel_rfl) ?_
 refine sr [] [0,1,7,8,9,16] [] 0 [.sl false 1 (Mb b_1),Ii most_1,Ii r_1.1,Ii r_1.2.1,Ii r_1.2.2,.bool (r_1.2.2 != (0:Int))] [] zD an ?_
 refine cd 16 (r_1.2.2 != (0:Int)) ?_ ?_
 ·intro g_1;replace h:=zN g_1 h
  refine sr [] [4,5,6] [] 0 [.str ([]:List Int),Ii 0,Ii r_1.2.2] [] zD an ?_
  refine rt ?_
  cases h
  exact ⟨.inr rfl,Nat.le_of_ble_eq_true rfl,by kernel_rfl⟩
 intro g_1;replace h:=zO g_1 h
 refine sr [] [0,1,7,8,20] [] 0 [.sl false 1 (Mb b_1),Ii most_1,Ii r_1.1,Ii r_1.2.1,.bool (decide (r_1.1<(0:Int)))] [] zD an ?_
 refine cd 20 (decide (r_1.1<(0:Int))) ?_ ?_
 ·intro g_2;replace h:=zN g_2 h
  refine sr [] [4,5,6] [] 0 [.str ([]:List Int),Ii 0,Ii 10] [] zD an ?_
  refine rt ?_
  cases h
  exact ⟨.inr rfl,Nat.le_of_ble_eq_true rfl,by kernel_rfl⟩
 intro g_2;replace h:=zO g_2 h
 refine sr [] [0,7,8,23] [] 0 [.sl false 1 (Mb b_1),Ii r_1.1,Ii r_1.2.1,.bool (decide (r_1.1>most_1))] [] zD an ?_
 refine cd 23 (decide (r_1.1>most_1)) ?_ ?_
 ·intro g_3;replace h:=zN g_3 h
  refine sr [] [4,5,6] [] 0 [.str ([]:List Int),Ii 0,Ii 7] [] zD an ?_
  refine rt ?_
  cases h
  exact ⟨.inr rfl,Nat.le_of_ble_eq_true rfl,by kernel_rfl⟩
 intro g_3;replace h:=zO g_3 h
 refine sr [(2,{ n:=(b_1).length })] [0,7,8,27] [] 0 [.sl false 1 (Mb b_1),Ii r_1.1,Ii r_1.2.1,.bool (decide (r_1.1>(zK ((lN (b_1)) - r_1.2.1))))] [] zD (ac (zY _:((Mb b_1)).length=(b_1).length) an) ?_
 refine cd 27 (decide (r_1.1>(zK ((lN (b_1)) - r_1.2.1)))) ?_ ?_
 ·intro g_4;replace h:=zN g_4 h
  refine sr [] [4,5,6] [] 0 [.str ([]:List Int),Ii 0,Ii 8] [] zD an ?_
  refine rt ?_
  cases h
  exact ⟨.inr rfl,Nat.le_of_ble_eq_true rfl,by kernel_rfl⟩
 intro g_4;replace h:=zO g_4 h
 refine sk ?_
 refine sq ?_
 obtain ⟨_,h_2,h⟩:=bind_some h;replace h_2:=z0 h_2
 refine rg [(5,{ l:=(Mb (sub b_1 r_1.2.1 (zK (r_1.2.1+r_1.1)))) }),(6,{ s:=sub b_1 r_1.2.1 (zK (r_1.2.1+r_1.1)) })] [4,5,6] [] 0 [.str (sub b_1 r_1.2.1 (zK (r_1.2.1+r_1.1))),Ii (zK (r_1.2.1+r_1.1)),Ii 0] [] zD (ac h_2.1 (ac h_2.2.1 (ac (v5 h_2.2.2:(zK (r_1.2.1+r_1.1))≤(lN ((Mb b_1)))) (ac (zBP _ _ _:(Mb (sub b_1 r_1.2.1 (zK (r_1.2.1+r_1.1))))=(((Mb b_1)).take (zK (r_1.2.1+r_1.1)).toNat).drop (r_1.2.1).toNat) (ac (rfl:(Mb (sub b_1 r_1.2.1 (zK (r_1.2.1+r_1.1))))=List.map (AV.int .u8) (sub b_1 r_1.2.1 (zK (r_1.2.1+r_1.1)))) an))))) ?_
 refine rt ?_
 cases h
 exact ⟨.inr rfl,Nat.le_of_ble_eq_true rfl,by kernel_rfl⟩
theorem zEh (F:Nat) (c_1:zL) (r:(List Int)×zL) (h:kH F c_1=some r):zM prog 68 [(.var 71 (zG c_1))] [] [Pp 0] [(.var 71 (zG r.2))] (.str r.1):=by
 refine zS (fn:=Go.Proofs.Try.f68) (code:=z6 Go.Proofs.Try.f68) (by kernel_rfl) (by kernel_rfl) (Nat.le_of_ble_eq_true (by kernel_rfl)) ?_
 unfold kH at h
 refine sr [] [0] [0] 1 [Pp 0] [Vb 71 (zG c_1)] zD an ?_
 refine sq ?_
 refine sr [] [0,10] [0] 1 [Pp 0,.bool (c_1.E != (0:Int))] [Vb 71 (zG c_1)] zD an ?_
 refine cd 10 (c_1.E != (0:Int)) ?_ ?_
 ·intro g_1;replace h:=zN g_1 h
  refine sr [] [2] [0] 1 [.str ([]:List Int)] [Vb 71 (zG c_1)] zD an ?_
  refine wk [0] [] [.s 2] [.s 0] [(2,.str ([]:List Int))] [(0,Vb 71 (zG c_1))] an ?_
  refine rt ?_
  cases h
  exact ⟨.inr rfl,Nat.le_of_ble_eq_true rfl,by kernel_rfl⟩
 intro g_1;replace h:=zO g_1 h
 refine sk ?_
 refine sq ?_
 obtain ⟨_,h_1,h⟩:=bind_some h;replace h_1:=z0 h_1
 obtain ⟨r_1,h_2,h⟩:=bind_some h
 refine rg [(8,{ l:=(Mb (sub c_1.B c_1.At (lN (c_1.B)))) }),(9,{ av:=.tuple [.str r_1.1,Ii r_1.2.1,Ii r_1.2.2],l:=[.sl false 1 (Mb (sub c_1.B c_1.At (lN (c_1.B)))),Ii 40] })] [0,3,4,5] [0] 1 [Pp 0,.str r_1.1,Ii r_1.2.1,Ii r_1.2.2] [Vb 71 (zG c_1)] zD (ac h_1.1 (ac (v5 h_1.2:c_1.At≤(lN ((Mb c_1.B)))) (ac (Int.le_refl _:(lN ((Mb c_1.B)))≤(lN ((Mb c_1.B)))) (ac (zAk _ _:(Mb (sub c_1.B c_1.At (lN (c_1.B))))=(((Mb c_1.B)).take ((lN ((Mb c_1.B)))).toNat).drop (c_1.At).toNat) (ar ([.sl false 1 (Mb (sub c_1.B c_1.At (lN (c_1.B)))),Ii 40]:List AV) (ac (rfl:([]:List zP)=[]) (ac (zKg F (sub c_1.B c_1.At (lN (c_1.B))) (40:Int) r_1 h_2:zM prog 90 [] [] [.sl false 1 (Mb (sub c_1.B c_1.At (lN (c_1.B)))),Ii 40] [] (.tuple [.str r_1.1,Ii r_1.2.1,Ii r_1.2.2])) an))))))) ?_
 refine sr [] [0,3,5] [0] 1 [Pp 0,.str r_1.1,Ii r_1.2.2] [Vb 71 [.sl false 1 (Mb c_1.B),Ii (zK (c_1.At+r_1.2.1)),Ii c_1.E]] zD an ?_
 refine sr [] [3] [0] 1 [.str r_1.1] [Vb 71 [.sl false 1 (Mb c_1.B),Ii (zK (c_1.At+r_1.2.1)),Ii r_1.2.2]] zD an ?_
 refine sr [] [2] [0] 1 [.str r_1.1] [Vb 71 [.sl false 1 (Mb c_1.B),Ii (zK (c_1.At+r_1.2.1)),Ii r_1.2.2]] zD an ?_
 refine wk [0] [] [.s 2] [.a 0 (Vb 71 (zG (⟨c_1.B,zK (c_1.At+r_1.2.1),r_1.2.2⟩:zL)))] [(2,.str r_1.1)] [(0,Vb 71 (zG (⟨c_1.B,zK (c_1.At+r_1.2.1),r_1.2.2⟩:zL)))] (ar 71 (ac (rfl:xA [.sl false 1 (Mb ((⟨c_1.B,zK (c_1.At+r_1.2.1),r_1.2.2⟩:zL).B)),Ii ((⟨c_1.B,zK (c_1.At+r_1.2.1),r_1.2.2⟩:zL).At),Ii ((⟨c_1.B,zK (c_1.At+r_1.2.1),r_1.2.2⟩:zL).E)]=true) (ar 1 (ac (rfl:((Mb c_1.B):List AV)=(Mb ((⟨c_1.B,zK (c_1.At+r_1.2.1),r_1.2.2⟩:zL).B))) (ac (rfl:(!false||false)=true) (ac (rfl:(Ii (zK (c_1.At+r_1.2.1)):AV)=Ii ((⟨c_1.B,zK (c_1.At+r_1.2.1),r_1.2.2⟩:zL).At)) (ac (rfl:(Ii r_1.2.2:AV)=Ii ((⟨c_1.B,zK (c_1.At+r_1.2.1),r_1.2.2⟩:zL).E)) an))))))) ?_
 refine rt ?_
 cases h
 exact ⟨.inr rfl,Nat.le_of_ble_eq_true rfl,by kernel_rfl⟩
end Go.Ab
