/- Printed: the typed Lean functions of the Go functions, or the proofs that the Go functions meet them. No conditions but those that the theorems name. -/
import Derived.Test.YtdpgdpjoemdkjaaP10x5
namespace Go.Ab
open Go
set_option linter.unusedVariables false
theorem zBp (F:Nat) (t_1:zC) (size_1:Int) (policy_1:Int) (r:Bool) (h:wD F t_1 size_1 policy_1=some r):zN prog 3 [] [] [zW t_1,Ii size_1,Ii policy_1] [] (.bool r):=by
 refine zV (fn:=Go.Proofs.Try.f3) (code:=yG Go.Proofs.Try.f3) (by kernel_rfl) (by kernel_rfl) (Nat.le_of_ble_eq_true (by kernel_rfl)) ?_
 unfold wD at h
 refine sr [(0,{ id:=0 })] [1,2,3] [0] 1 [Ii size_1,Ii policy_1,Pp 0] [Vb 23 (z8 t_1)] zE an ?_
 refine sq ?_
 refine sq ?_
 obtain ⟨p_1,h_2,h⟩:=bind_some h
 refine yB (mk [(1,Ii size_1),(2,Ii policy_1),(3,Pp 0),(18,.bool p_1)] [(0,Vb 23 (z8 t_1))] 1) ?_ ?_
 ·replace h:=h_2
  obtain ⟨r_1,h_1,h⟩:=bind_some h
  rcases bft (!r_1) with gg_1 | gg_1
  ·replace h:=zS gg_1 h
   refine rg [(0,{ av:=.bool r_1,l:=[] }),(3,Hg),(4,Hg),(5,Hg),(6,Hg),(7,Ht)] [1,2,3,18] [0] 1 [Ii size_1,Ii policy_1,Pp 0,.bool true] [Vb 23 (z8 t_1)] zE (ar ([]:List AV) (ac (rfl:([]:List zP)=[]) (ac (zA4 F r_1 h_1:zN prog 8 [] [] [] [] (.bool r_1)) (ac gg_1 (ac gg_1 (ac gg_1 (ac gg_1 (ac gg_1 an)))))))) ?_
   cases h
   exact ⟨rfl,(sw [0] [] [.s 1,.s 2,.s 3,.s 18] [.s 0] an)⟩
  ·replace h:=zR gg_1 h
   refine rg [(0,{ av:=.bool r_1,l:=[] }),(7,Hf)] [1,2,3,18] [0] 1 [Ii size_1,Ii policy_1,Pp 0,.bool (decide ((lN (t_1.Name))>(200:Int)))] [Vb 23 (z8 t_1)] zE (ar ([]:List AV) (ac (rfl:([]:List zP)=[]) (ac (zA4 F r_1 h_1:zN prog 8 [] [] [] [] (.bool r_1)) (ac gg_1 (ac gg_1 (ac gg_1 (ac gg_1 (ac gg_1 an)))))))) ?_
   cases h
   exact ⟨rfl,(sw [0] [] [.s 1,.s 2,.s 3,.s 18] [.s 0] an)⟩
 refine cd 18 p_1 ?_ ?_
 ·intro g_1;replace h:=zS g_1 h
  refine sq ?_
  obtain ⟨r_2,h_3,h⟩:=bind_some h
  refine rg [(0,{ av:=.bool r_2,l:=[] })] [6] [] 1 [.bool r_2] [] zE (ar ([]:List AV) (ac (rfl:([]:List zP)=[]) (ac (zA4 F r_2 h_3:zN prog 8 [] [] [] [] (.bool r_2)) an))) ?_
  refine rt ?_
  cases h
  exact ⟨.inr rfl,Nat.le_of_ble_eq_true rfl,by kernel_rfl⟩
 intro g_1;replace h:=zR g_1 h
 refine sk ?_
 refine sq ?_
 obtain ⟨r_3,h_4,h⟩:=bind_some h
 refine rg [(3,{ av:=.tuple [zL r_3.1,Ii r_3.2],l:=[zW t_1,Ii size_1,Ii policy_1] }),(7,{ id:=1 })] [1,2,3,7,8] [0,1] 2 [Ii size_1,Ii policy_1,Pp 0,Pp 1,Ii r_3.2] [Vb 23 (z8 t_1),Vb 32 (zH r_3.1)] zE (ar ([zW t_1,Ii size_1,Ii policy_1]:List AV) (ac (rfl:([]:List zP)=[]) (ac (pV F t_1 size_1 policy_1 r_3 h_4:zN prog 9 [] [] [zW t_1,Ii size_1,Ii policy_1] [] (.tuple [zL r_3.1,Ii r_3.2])) an))) ?_
 refine sq ?_
 obtain ⟨r_4,h_5,h⟩:=bind_some h
 refine rg [(3,{ av:=.tuple [zL r_4.1,Ii r_4.2],l:=[zW t_1,Ii size_1,Ii policy_1] }),(7,{ id:=2 })] [3,7,8,9,10] [0,1,2] 3 [Pp 0,Pp 1,Ii r_3.2,Pp 2,Ii r_4.2] [Vb 23 (z8 t_1),Vb 32 (zH r_3.1),Vb 32 (zH r_4.1)] zE (ar ([zW t_1,Ii size_1,Ii policy_1]:List AV) (ac (rfl:([]:List zP)=[]) (ac (zIZ F t_1 size_1 policy_1 r_4 h_5:zN prog 10 [] [] [zW t_1,Ii size_1,Ii policy_1] [] (.tuple [zL r_4.1,Ii r_4.2])) an))) ?_
 refine sq ?_
 refine sq ?_
 obtain ⟨p_2,h_9,h⟩:=bind_some h
 refine yB (mk [(7,Pp 0),(8,Ii r_3.2),(49,.bool p_2)] [(0,Vb 32 (zH r_3.1))] 1) ?_ ?_
 ·replace h:=h_9
  obtain ⟨r_5,h_6,h⟩:=bind_some h
  obtain ⟨r_6,h_7,h⟩:=bind_some h
  rcases bft (r_5 != r_6) with gg_2 | gg_2
  ·replace h:=zS gg_2 h
   refine rg [(1,{ av:=Ii r_5,l:=[zW t_1] }),(3,{ av:=Ii r_6,l:=[zW t_1] }),(6,Hg),(7,Hg),(8,Hg),(9,Ht),(11,Hg),(12,Hg),(13,Hg),(14,Hg),(15,Ht)] [7,8,49] [1] 3 [Pp 1,Ii r_3.2,.bool true] [Vb 32 (zH r_3.1)] zE (ar ([zW t_1]:List AV) (ac (rfl:([]:List zP)=[]) (ac (uA F t_1 r_5 h_6:zN prog 11 [] [] [zW t_1] [] (Ii r_5)) (ar ([zW t_1]:List AV) (ac (rfl:([]:List zP)=[]) (ac (k9 F t_1 r_6 h_7:zN prog 12 [] [] [zW t_1] [] (Ii r_6)) (ac gg_2 (ac gg_2 (ac gg_2 (ac gg_2 (ax (ax (ax (ax (ar true an))))))))))))))) ?_
   cases h
   exact ⟨rfl,(sw [1] [] [.s 7,.s 8,.s 49] [.s 0] an)⟩
  ·replace h:=zR gg_2 h
   rcases bft (r_3.2 != r_4.2) with gg_3 | gg_3
   ·replace h:=zS gg_3 h
    refine rg [(1,{ av:=Ii r_5,l:=[zW t_1] }),(3,{ av:=Ii r_6,l:=[zW t_1] }),(9,Hf),(11,Hg),(12,Hg),(13,Hg),(14,Hg),(15,Ht)] [7,8,49] [1] 3 [Pp 1,Ii r_3.2,.bool true] [Vb 32 (zH r_3.1)] zE (ar ([zW t_1]:List AV) (ac (rfl:([]:List zP)=[]) (ac (uA F t_1 r_5 h_6:zN prog 11 [] [] [zW t_1] [] (Ii r_5)) (ar ([zW t_1]:List AV) (ac (rfl:([]:List zP)=[]) (ac (k9 F t_1 r_6 h_7:zN prog 12 [] [] [zW t_1] [] (Ii r_6)) (ac gg_2 (ac gg_2 (ac gg_2 (ac gg_2 (ac gg_3 (ac gg_3 (ac gg_3 (ac gg_3 (ac gg_3 an))))))))))))))) ?_
    cases h
    exact ⟨rfl,(sw [1] [] [.s 7,.s 8,.s 49] [.s 0] an)⟩
   ·replace h:=zR gg_3 h
    obtain ⟨r_7,h_8,h⟩:=bind_some h
    refine rg [(1,{ av:=Ii r_5,l:=[zW t_1] }),(3,{ av:=Ii r_6,l:=[zW t_1] }),(9,Hf),(13,{ av:=.bool r_7,l:=[zL r_3.1,zL r_4.1] }),(15,Hf)] [7,8,49] [1] 3 [Pp 1,Ii r_3.2,.bool (!r_7)] [Vb 32 (zH r_3.1)] zE (ar ([zW t_1]:List AV) (ac (rfl:([]:List zP)=[]) (ac (uA F t_1 r_5 h_6:zN prog 11 [] [] [zW t_1] [] (Ii r_5)) (ar ([zW t_1]:List AV) (ac (rfl:([]:List zP)=[]) (ac (k9 F t_1 r_6 h_7:zN prog 12 [] [] [zW t_1] [] (Ii r_6)) (ac gg_2 (ac gg_2 (ac gg_2 (ac gg_2 (ac gg_3 (ac gg_3 (ac gg_3 (ar ([zL r_3.1,zL r_4.1]:List AV) (ac (rfl:([]:List zP)=[]) (ac (zH5 F r_3.1 r_4.1 r_7 h_8:zN prog 13 [] [] [zL r_3.1,zL r_4.1] [] (.bool r_7)) (ac gg_3 (ac gg_3 an)))))))))))))))))) ?_
    cases h
    exact ⟨rfl,(sw [1] [] [.s 7,.s 8,.s 49] [.s 0] an)⟩
 refine cd 49 p_2 ?_ ?_
 ·intro g_2;replace h:=zS g_2 h
  refine sr [] [6] [] 1 [.bool false] [] zE an ?_
  refine rt ?_
  cases h
  exact ⟨.inr rfl,Nat.le_of_ble_eq_true rfl,by kernel_rfl⟩
 intro g_2;replace h:=zR g_2 h
 refine sk ?_
 refine sq ?_
 obtain ⟨p_3,h_12,h⟩:=bind_some h
 refine yB (mk [(6,.bool p_3)] [] 0) ?_ ?_
 ·replace h:=h_12
  rcases bft (r_3.2 != (0:Int)) with gg_4 | gg_4
  ·replace h:=zS gg_4 h
   refine rg [(3,Hg),(4,Hg),(5,Hg),(6,Hg),(10,Hg),(11,Ht)] [6] [] 1 [.bool true] [] zE (ac gg_4 (ac gg_4 (ac gg_4 (ac gg_4 (ac gg_4 (ac gg_4 an)))))) ?_
   cases h
   exact ⟨rfl,(sw [] [] [.s 6] [] an)⟩
  ·replace h:=zR gg_4 h
   obtain ⟨r_8,h_10,h⟩:=bind_some h
   rcases bft (r_8==(0:Int)) with gg_5 | gg_5
   ·replace h:=zS gg_5 h
    obtain ⟨r_9,h_11,h⟩:=bind_some h
    refine rg [(4,{ av:=Ii r_8,l:=[zL r_3.1] }),(8,{ av:=Ii r_9,l:=[zL r_3.1] }),(10,Ht),(11,Hf)] [6] [] 1 [.bool (r_9==(0:Int))] [] zE (ac gg_4 (ac gg_4 (ar ([zL r_3.1]:List AV) (ac (rfl:([]:List zP)=[]) (ac (qJ F r_3.1 r_8 h_10:zN prog 14 [] [] [zL r_3.1] [] (Ii r_8)) (ac gg_4 (ac gg_4 (ac gg_5 (ac gg_5 (ar ([zL r_3.1]:List AV) (ac (rfl:([]:List zP)=[]) (ac (xO F r_3.1 r_9 h_11:zN prog 15 [] [] [zL r_3.1] [] (Ii r_9)) (ac gg_5 (ac gg_4 (ac gg_5 (ac gg_4 an)))))))))))))))) ?_
    cases h
    exact ⟨rfl,(sw [] [] [.s 6] [] an)⟩
   ·replace h:=zR gg_5 h
    refine rg [(4,{ av:=Ii r_8,l:=[zL r_3.1] }),(7,Hg),(8,Hg),(9,Hg),(10,Hf),(11,Hf)] [6] [] 1 [.bool false] [] zE (ac gg_4 (ac gg_4 (ar ([zL r_3.1]:List AV) (ac (rfl:([]:List zP)=[]) (ac (qJ F r_3.1 r_8 h_10:zN prog 14 [] [] [zL r_3.1] [] (Ii r_8)) (ac gg_4 (ac gg_4 (ac gg_5 (ac gg_5 (ac gg_5 (ac gg_4 (ac gg_5 (ac gg_4 an))))))))))))) ?_
    cases h
    exact ⟨rfl,(sw [] [] [.s 6] [] an)⟩
 refine rt ?_
 cases h
 exact ⟨.inr rfl,Nat.le_of_ble_eq_true rfl,by kernel_rfl⟩
end Go.Ab
