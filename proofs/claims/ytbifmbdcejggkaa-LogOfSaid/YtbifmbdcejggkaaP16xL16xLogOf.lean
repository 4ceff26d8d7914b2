/- Printed: the typed Lean functions of the Go functions, or the proofs that the Go functions meet them. No conditions but those that the theorems name. -/
import Derived.Test.YtbifmbdcejggkaaP16x3
namespace Go.Ab
open Go
set_option linter.unusedVariables false
theorem zJG (F:Nat) (h_1:zL) (l_1:List (zB)) (r:Bool) (h:k0 F h_1 l_1=some r):zW prog 3 [] [] [yN h_1,.sl false 4 (Mp zA l_1)] [] (.bool r):=by
 refine yA (fn:=Go.Proofs.Try.f3) (code:=xC Go.Proofs.Try.f3) (by kernel_rfl) (by kernel_rfl) (Nat.le_of_ble_eq_true (by kernel_rfl)) ?_
 unfold k0 at h
 refine sr [(0,{ id:=0 })] [1,2] [0] 1 [.sl false 4 (Mp zA l_1),Pp 0] [Vb 26 (zM h_1)] zG an ?_
 refine sq ?_
 refine sq ?_
 obtain ⟨r_1,h_2,h⟩:=bind_some h
 refine rg [(2,{ av:=.bool r_1,l:=[yN h_1,.sl false 4 (Mp zA l_1)] })] [1,2,12] [0] 1 [.sl false 4 (Mp zA l_1),Pp 0,.bool (!r_1)] [Vb 26 (zM h_1)] zG (ar ([yN h_1,.sl false 4 (Mp zA l_1)]:List AV) (ac (rfl:([]:List zT)=[]) (ac (zKi F h_1 l_1 r_1 h_2:zW prog 8 [] [] [yN h_1,.sl false 4 (Mp zA l_1)] [] (.bool r_1)) an))) ?_
 refine cd 12 (!r_1) ?_ ?_
 ·intro g_1;replace h:=zP g_1 h
  refine sq ?_
  obtain ⟨r_2,h_3,h⟩:=bind_some h
  refine rg [(0,{ av:=.bool r_2,l:=[] })] [4] [] 1 [.bool r_2] [] zG (ar ([]:List AV) (ac (rfl:([]:List zT)=[]) (ac (zE1 F r_2 h_3:zW prog 9 [] [] [] [] (.bool r_2)) an))) ?_
  refine rt ?_
  cases h
  exact ⟨.inr rfl,Nat.le_of_ble_eq_true rfl,by kernel_rfl⟩
 intro g_1;replace h:=zO g_1 h
 refine sk ?_
 refine sq ?_
 obtain ⟨r_3,h_4,h⟩:=bind_some h
 refine rg [(2,{ av:=.tuple [yE r_3.1,Ii r_3.2],l:=[yN h_1,.sl false 4 (Mp zA l_1)] }),(6,{ id:=1 })] [1,2,5,6] [0,1] 2 [.sl false 4 (Mp zA l_1),Pp 0,Pp 1,Ii r_3.2] [Vb 26 (zM h_1),Vb 31 (wD r_3.1)] zG (ar ([yN h_1,.sl false 4 (Mp zA l_1)]:List AV) (ac (rfl:([]:List zT)=[]) (ac (zBR F h_1 l_1 r_3 h_4:zW prog 10 [] [] [yN h_1,.sl false 4 (Mp zA l_1)] [] (.tuple [yE r_3.1,Ii r_3.2])) an))) ?_
 refine sq ?_
 obtain ⟨r_4,h_5,h⟩:=bind_some h
 refine rg [(2,{ av:=.tuple [yE r_4.1,Ii r_4.2],l:=[yN h_1,.sl false 4 (Mp zA l_1)] }),(6,{ id:=2 })] [5,6,7,8] [1,2] 3 [Pp 1,Ii r_3.2,Pp 2,Ii r_4.2] [Vb 31 (wD r_3.1),Vb 31 (wD r_4.1)] zG (ar ([yN h_1,.sl false 4 (Mp zA l_1)]:List AV) (ac (rfl:([]:List zT)=[]) (ac (zM1 F h_1 l_1 r_4 h_5:zW prog 11 [] [] [yN h_1,.sl false 4 (Mp zA l_1)] [] (.tuple [yE r_4.1,Ii r_4.2])) an))) ?_
 refine sq ?_
 obtain ⟨p_1,h_9,h⟩:=bind_some h
 refine y9 (mk [(4,.bool p_1)] [] 0) ?_ ?_
 ·replace h:=h_9
  rcases bft (r_3.2==r_4.2) with zH | zH
  ·replace h:=zP zH h
   obtain ⟨r_5,h_6,h⟩:=bind_some h
   rcases Bool.eq_false_or_eq_true r_5 with zI | zI
   ·replace h:=zP zI h
    obtain ⟨r_6,h_7,h⟩:=bind_some h
    rcases Bool.eq_false_or_eq_true r_6 with zN | zN
    ·replace h:=zP zN h
     obtain ⟨r_7,h_8,h⟩:=bind_some h
     refine rg [(6,{ av:=.bool r_5,l:=[yE r_3.1,yE r_4.1] }),(7,Ht),(11,{ av:=.bool r_6,l:=[yE r_3.1,yE r_4.1] }),(12,Ht),(14,{ av:=.bool r_7,l:=[] }),(15,Ht)] [4] [] 3 [.bool r_7] [] zG (ac zH (ac zH (ac zH (ar ([yE r_3.1,yE r_4.1]:List AV) (ac (rfl:([]:List zT)=[]) (ac (zDe F r_3.1 r_4.1 r_5 h_6:zW prog 12 [] [] [yE r_3.1,yE r_4.1] [] (.bool r_5)) (ac zH (ac zI (ac zI (ac zI (ar ([yE r_3.1,yE r_4.1]:List AV) (ac (rfl:([]:List zT)=[]) (ac (zDd F r_3.1 r_4.1 r_6 h_7:zW prog 13 [] [] [yE r_3.1,yE r_4.1] [] (.bool r_6)) (ac zI (ac zN (ar ([]:List AV) (ac (rfl:([]:List zT)=[]) (ac (zE1 F r_7 h_8:zW prog 9 [] [] [] [] (.bool r_7)) (ac zN an))))))))))))))))))) ?_
     cases h
     exact ⟨rfl,(sw [] [] [.s 4] [] an)⟩
    ·replace h:=zO zN h
     refine rg [(6,{ av:=.bool r_5,l:=[yE r_3.1,yE r_4.1] }),(7,Ht),(11,{ av:=.bool r_6,l:=[yE r_3.1,yE r_4.1] }),(12,Ht),(14,Hg),(15,Hf)] [4] [] 3 [.bool false] [] zG (ac zH (ac zH (ac zH (ar ([yE r_3.1,yE r_4.1]:List AV) (ac (rfl:([]:List zT)=[]) (ac (zDe F r_3.1 r_4.1 r_5 h_6:zW prog 12 [] [] [yE r_3.1,yE r_4.1] [] (.bool r_5)) (ac zH (ac zI (ac zI (ac zI (ar ([yE r_3.1,yE r_4.1]:List AV) (ac (rfl:([]:List zT)=[]) (ac (zDd F r_3.1 r_4.1 r_6 h_7:zW prog 13 [] [] [yE r_3.1,yE r_4.1] [] (.bool r_6)) (ac zI (ac zN (ac zN an)))))))))))))))) ?_
     cases h
     exact ⟨rfl,(sw [] [] [.s 4] [] an)⟩
   ·replace h:=zO zI h
    refine rg [(6,{ av:=.bool r_5,l:=[yE r_3.1,yE r_4.1] }),(7,Ht),(9,Hg),(10,Hg),(11,Hg),(12,Hf),(14,Hg),(15,Hf)] [4] [] 3 [.bool false] [] zG (ac zH (ac zH (ac zH (ar ([yE r_3.1,yE r_4.1]:List AV) (ac (rfl:([]:List zT)=[]) (ac (zDe F r_3.1 r_4.1 r_5 h_6:zW prog 12 [] [] [yE r_3.1,yE r_4.1] [] (.bool r_5)) (ac zH (ac zI (ac zI (ac zI (ac zI (ac (rfl:false=!true) (ar false an))))))))))))) ?_
    cases h
    exact ⟨rfl,(sw [] [] [.s 4] [] an)⟩
  ·replace h:=zO zH h
   refine rg [(4,Hg),(5,Hg),(6,Hg),(7,Hf),(9,Hg),(10,Hg),(11,Hg),(12,Hf),(14,Hg),(15,Hf)] [4] [] 3 [.bool false] [] zG (ac zH (ac zH (ac zH (ac zH (ac (rfl:false=!true) (ac (rfl:false=!true) (ac (rfl:false=!true) (ar false (ac (rfl:false=!true) (ar false an)))))))))) ?_
   cases h
   exact ⟨rfl,(sw [] [] [.s 4] [] an)⟩
 refine rt ?_
 cases h
 exact ⟨.inr rfl,Nat.le_of_ble_eq_true rfl,by kernel_rfl⟩
end Go.Ab
