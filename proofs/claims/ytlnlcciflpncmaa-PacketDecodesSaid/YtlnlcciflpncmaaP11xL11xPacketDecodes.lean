/- Printed: the typed Lean functions of the Go functions, or the proofs that the Go functions meet them. No conditions but those that the theorems name. -/
import Derived.Test.YtlnlcciflpncmaaP11x4
namespace Go.Ab
open Go
set_option linter.unusedVariables false
theorem zDN (F:Nat) (b_1:List (Int)) (r:Bool) (h:uK F b_1=some r):zM prog 6 [] [] [.sl false 1 (Mb b_1)] [] (.bool r):=by
 refine zS (fn:=Go.Proofs.Try.f6) (code:=z6 Go.Proofs.Try.f6) (by kernel_rfl) (by kernel_rfl) (Nat.le_of_ble_eq_true (by kernel_rfl)) ?_
 unfold uK at h
 refine sr [] [0] [] 0 [.sl false 1 (Mb b_1)] [] zD an ?_
 refine sq ?_
 refine sr [(1,{ n:=(b_1).length })] [0,11] [] 0 [.sl false 1 (Mb b_1),.bool (decide ((lN (b_1))>(600:Int)))] [] zD (ac (zY _:((Mb b_1)).length=(b_1).length) an) ?_
 refine cd 11 (decide ((lN (b_1))>(600:Int))) ?_ ?_
 ·intro g_1;replace h:=zN g_1 h
  refine sq ?_
  obtain ⟨r_1,h_1,h⟩:=bind_some h
  refine rg [(0,{ av:=.bool r_1,l:=[] })] [2] [] 0 [.bool r_1] [] zD (ar ([]:List AV) (ac (rfl:([]:List zP)=[]) (ac (zEt F r_1 h_1:zM prog 12 [] [] [] [] (.bool r_1)) an))) ?_
  refine rt ?_
  cases h
  exact ⟨.inr rfl,Nat.le_of_ble_eq_true rfl,by kernel_rfl⟩
 intro g_1;replace h:=zO g_1 h
 refine sk ?_
 refine sq ?_
 obtain ⟨r_2,h_2,h⟩:=bind_some h
 refine rg [(1,{ av:=.tuple [zI r_2.1,Ii r_2.2.1,Ii r_2.2.2],l:=[.sl false 1 (Mb b_1)] }),(6,{ id:=0 })] [0,3,4,5] [0] 1 [.sl false 1 (Mb b_1),Pp 0,Ii r_2.2.1,Ii r_2.2.2] [Vb 24 (zH r_2.1)] zD (ar ([.sl false 1 (Mb b_1)]:List AV) (ac (rfl:([]:List zP)=[]) (ac (zCF F b_1 r_2 h_2:zM prog 19 [] [] [.sl false 1 (Mb b_1)] [] (.tuple [zI r_2.1,Ii r_2.2.1,Ii r_2.2.2])) an))) ?_
 refine sq ?_
 obtain ⟨r_3,h_3,h⟩:=bind_some h
 refine rg [(1,{ av:=.tuple [zI r_3.1,Ii r_3.2.1,Ii r_3.2.2],l:=[.sl false 1 (Mb b_1)] }),(6,{ id:=1 })] [3,4,5,6,7,8] [0,1] 2 [Pp 0,Ii r_2.2.1,Ii r_2.2.2,Pp 1,Ii r_3.2.1,Ii r_3.2.2] [Vb 24 (zH r_2.1),Vb 24 (zH r_3.1)] zD (ar ([.sl false 1 (Mb b_1)]:List AV) (ac (rfl:([]:List zP)=[]) (ac (zH9 F b_1 r_3 h_3:zM prog 20 [] [] [.sl false 1 (Mb b_1)] [] (.tuple [zI r_3.1,Ii r_3.2.1,Ii r_3.2.2])) an))) ?_
 refine sq ?_
 obtain ⟨p_1,h_6,h⟩:=bind_some h
 refine zX (mk [(2,.bool p_1)] [] 0) ?_ ?_
 ·replace h:=h_6
  obtain ⟨r_4,h_4,h⟩:=bind_some h
  rcases Bool.eq_false_or_eq_true r_4 with gg_1 | gg_1
  ·replace h:=zN gg_1 h
   rcases bft (r_2.2.1==r_3.2.1) with gg_2 | gg_2
   ·replace h:=zN gg_2 h
    rcases bft (r_2.2.2==r_3.2.2) with gg_3 | gg_3
    ·replace h:=zN gg_3 h
     obtain ⟨r_5,h_5,h⟩:=bind_some h
     refine rg [(2,{ av:=.bool r_4,l:=[zI r_2.1,zI r_3.1] }),(7,Ht),(12,Ht),(14,{ av:=.bool r_5,l:=[] }),(15,Ht)] [2] [] 2 [.bool r_5] [] zD (ar ([zI r_2.1,zI r_3.1]:List AV) (ac (rfl:([]:List zP)=[]) (ac (xW F r_2.1 r_3.1 r_4 h_4:zM prog 16 [] [] [zI r_2.1,zI r_3.1] [] (.bool r_4)) (ac gg_1 (ac gg_1 (ac gg_1 (ac gg_1 (ac gg_2 (ac gg_2 (ac gg_2 (ac gg_2 (ac gg_3 (ar ([]:List AV) (ac (rfl:([]:List zP)=[]) (ac (zEt F r_5 h_5:zM prog 12 [] [] [] [] (.bool r_5)) (ac gg_3 an)))))))))))))))) ?_
     cases h
     exact ⟨rfl,(sw [] [] [.s 2] [] an)⟩
    ·replace h:=zO gg_3 h
     refine rg [(2,{ av:=.bool r_4,l:=[zI r_2.1,zI r_3.1] }),(7,Ht),(12,Ht),(14,Hg),(15,Hf)] [2] [] 2 [.bool false] [] zD (ar ([zI r_2.1,zI r_3.1]:List AV) (ac (rfl:([]:List zP)=[]) (ac (xW F r_2.1 r_3.1 r_4 h_4:zM prog 16 [] [] [zI r_2.1,zI r_3.1] [] (.bool r_4)) (ac gg_1 (ac gg_1 (ac gg_1 (ac gg_1 (ac gg_2 (ac gg_2 (ac gg_2 (ac gg_2 (ac gg_3 (ac gg_3 an))))))))))))) ?_
     cases h
     exact ⟨rfl,(sw [] [] [.s 2] [] an)⟩
   ·replace h:=zO gg_2 h
    refine rg [(2,{ av:=.bool r_4,l:=[zI r_2.1,zI r_3.1] }),(7,Ht),(9,Hg),(10,Hg),(11,Hg),(12,Hf),(14,Hg),(15,Hf)] [2] [] 2 [.bool false] [] zD (ar ([zI r_2.1,zI r_3.1]:List AV) (ac (rfl:([]:List zP)=[]) (ac (xW F r_2.1 r_3.1 r_4 h_4:zM prog 16 [] [] [zI r_2.1,zI r_3.1] [] (.bool r_4)) (ac gg_1 (ac gg_1 (ac gg_1 (ac gg_1 (ac gg_2 (ac gg_2 (ac gg_2 (ac gg_2 (ac (rfl:false=!true) (ar false an))))))))))))) ?_
    cases h
    exact ⟨rfl,(sw [] [] [.s 2] [] an)⟩
  ·replace h:=zO gg_1 h
   refine rg [(2,{ av:=.bool r_4,l:=[zI r_2.1,zI r_3.1] }),(4,Hg),(5,Hg),(6,Hg),(7,Hf),(9,Hg),(10,Hg),(11,Hg),(12,Hf),(14,Hg),(15,Hf)] [2] [] 2 [.bool false] [] zD (ar ([zI r_2.1,zI r_3.1]:List AV) (ac (rfl:([]:List zP)=[]) (ac (xW F r_2.1 r_3.1 r_4 h_4:zM prog 16 [] [] [zI r_2.1,zI r_3.1] [] (.bool r_4)) (ac gg_1 (ac gg_1 (ac gg_1 (ac gg_1 (ac (rfl:false=!true) (ac (rfl:false=!true) (ac (rfl:false=!true) (ar false (ac (rfl:false=!true) (ar false an))))))))))))) ?_
   cases h
   exact ⟨rfl,(sw [] [] [.s 2] [] an)⟩
 refine rt ?_
 cases h
 exact ⟨.inr rfl,Nat.le_of_ble_eq_true rfl,by kernel_rfl⟩
end Go.Ab
