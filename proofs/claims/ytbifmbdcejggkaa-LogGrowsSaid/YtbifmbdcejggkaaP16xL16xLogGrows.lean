/- Printed: the typed Lean functions of the Go functions, or the proofs that the Go functions meet them. No conditions but those that the theorems name. -/
import Derived.Test.YtbifmbdcejggkaaP16x3
namespace Go.Ab
open Go
set_option linter.unusedVariables false
theorem zFq (F:Nat) (h_1:zS) (l_1:List (zB)) (y5:List (yC)) (n_1:Int) (r:Bool) (h:qN F h_1 l_1 y5 n_1=some r):zW prog 7 [] [] [y6 h_1,.sl false 4 (Mp zA l_1),.sl false 5 (Mp zF y5),Ii n_1] [] (.bool r):=by
 refine yK (fn:=Go.Proofs.Try.f7) (code:=xY Go.Proofs.Try.f7) (by kernel_rfl) (by kernel_rfl) (Nat.le_of_ble_eq_true (by kernel_rfl)) ?_
 unfold qN at h
 refine sr [(0,{ id:=0 })] [1,2,3,4] [0] 1 [.sl false 4 (Mp zA l_1),.sl false 5 (Mp zF y5),Ii n_1,Pp 0] [Vb 26 (zX h_1)] zH an ?_
 refine sq ?_
 refine sq ?_
 obtain ⟨p_1,h_3,h⟩:=bind_some h
 refine wO (mk [(1,.sl false 4 (Mp zA l_1)),(2,.sl false 5 (Mp zF y5)),(3,Ii n_1),(4,Pp 0),(34,.bool p_1)] [(0,Vb 26 (zX h_1))] 1) ?_ ?_
 ·replace h:=h_3
  obtain ⟨r_1,h_2,h⟩:=bind_some h
  rcases bft (!r_1) with zL | zL
  ·replace h:=zT zL h
   refine rg [(2,{ av:=.bool r_1,l:=[y6 h_1,.sl false 4 (Mp zA l_1)] }),(5,Hg),(6,Hg),(7,Hg),(8,Ht),(10,Hg),(11,Hg),(12,Ht),(14,Hg),(15,Hg),(16,Hg),(17,Hg),(18,Ht)] [1,2,3,4,34] [0] 1 [.sl false 4 (Mp zA l_1),.sl false 5 (Mp zF y5),Ii n_1,Pp 0,.bool true] [Vb 26 (zX h_1)] zH (ar ([y6 h_1,.sl false 4 (Mp zA l_1)]:List AV) (ac (rfl:([]:List zO)=[]) (ac (zAk F h_1 l_1 r_1 h_2:zW prog 8 [] [] [y6 h_1,.sl false 4 (Mp zA l_1)] [] (.bool r_1)) (ac zL (ac zL (ac zL (ac zL (ax (ax (ar true (ax (ax (ax (ax (ar true an))))))))))))))) ?_
   cases h
   exact ⟨rfl,(sw [0] [] [.s 1,.s 2,.s 3,.s 4,.s 34] [.s 0] an)⟩
  ·replace h:=zU zL h
   rcases bft (decide ((lN (y5))>(20:Int))) with zJ | zJ
   ·replace h:=zT zJ h
    refine rg [(2,{ av:=.bool r_1,l:=[y6 h_1,.sl false 4 (Mp zA l_1)] }),(6,{ n:=(y5).length }),(8,Hf),(10,Hg),(11,Hg),(12,Ht),(14,Hg),(15,Hg),(16,Hg),(17,Hg),(18,Ht)] [1,2,3,4,34] [0] 1 [.sl false 4 (Mp zA l_1),.sl false 5 (Mp zF y5),Ii n_1,Pp 0,.bool true] [Vb 26 (zX h_1)] zH (ar ([y6 h_1,.sl false 4 (Mp zA l_1)]:List AV) (ac (rfl:([]:List zO)=[]) (ac (zAk F h_1 l_1 r_1 h_2:zW prog 8 [] [] [y6 h_1,.sl false 4 (Mp zA l_1)] [] (.bool r_1)) (ac zL (ac zL (ac (yH _:((Mp zF y5)).length=(y5).length) (ac zL (ac zL (ac zJ (ac zJ (ac zJ (ax (ax (ax (ax (ar true an)))))))))))))))) ?_
    cases h
    exact ⟨rfl,(sw [0] [] [.s 1,.s 2,.s 3,.s 4,.s 34] [.s 0] an)⟩
   ·replace h:=zU zJ h
    rcases bft (decide (n_1<(0:Int))) with zV | zV
    ·replace h:=zT zV h
     refine rg [(2,{ av:=.bool r_1,l:=[y6 h_1,.sl false 4 (Mp zA l_1)] }),(6,{ n:=(y5).length }),(8,Hf),(12,Hf),(14,Hg),(15,Hg),(16,Hg),(17,Hg),(18,Ht)] [1,2,3,4,34] [0] 1 [.sl false 4 (Mp zA l_1),.sl false 5 (Mp zF y5),Ii n_1,Pp 0,.bool true] [Vb 26 (zX h_1)] zH (ar ([y6 h_1,.sl false 4 (Mp zA l_1)]:List AV) (ac (rfl:([]:List zO)=[]) (ac (zAk F h_1 l_1 r_1 h_2:zW prog 8 [] [] [y6 h_1,.sl false 4 (Mp zA l_1)] [] (.bool r_1)) (ac zL (ac zL (ac (yH _:((Mp zF y5)).length=(y5).length) (ac zL (ac zL (ac zJ (ac zJ (ac zJ (ac zV (ac zV (ac zV (ac zV (ac zV an)))))))))))))))) ?_
     cases h
     exact ⟨rfl,(sw [0] [] [.s 1,.s 2,.s 3,.s 4,.s 34] [.s 0] an)⟩
    ·replace h:=zU zV h
     refine rg [(2,{ av:=.bool r_1,l:=[y6 h_1,.sl false 4 (Mp zA l_1)] }),(6,{ n:=(y5).length }),(8,Hf),(12,Hf),(16,{ n:=(l_1).length }),(18,Hf)] [1,2,3,4,34] [0] 1 [.sl false 4 (Mp zA l_1),.sl false 5 (Mp zF y5),Ii n_1,Pp 0,.bool (decide (n_1>(lN (l_1))))] [Vb 26 (zX h_1)] zH (ar ([y6 h_1,.sl false 4 (Mp zA l_1)]:List AV) (ac (rfl:([]:List zO)=[]) (ac (zAk F h_1 l_1 r_1 h_2:zW prog 8 [] [] [y6 h_1,.sl false 4 (Mp zA l_1)] [] (.bool r_1)) (ac zL (ac zL (ac (yH _:((Mp zF y5)).length=(y5).length) (ac zL (ac zL (ac zJ (ac zJ (ac zJ (ac zV (ac zV (ac zV (ac (yH _:((Mp zA l_1)).length=(l_1).length) (ac zV (ac zV an))))))))))))))))) ?_
     cases h
     exact ⟨rfl,(sw [0] [] [.s 1,.s 2,.s 3,.s 4,.s 34] [.s 0] an)⟩
 refine cd 34 p_1 ?_ ?_
 ·intro g_1;replace h:=zT g_1 h
  refine sq ?_
  obtain ⟨r_2,h_4,h⟩:=bind_some h
  refine rg [(0,{ av:=.bool r_2,l:=[] })] [8] [] 1 [.bool r_2] [] zH (ar ([]:List AV) (ac (rfl:([]:List zO)=[]) (ac (zBH F r_2 h_4:zW prog 9 [] [] [] [] (.bool r_2)) an))) ?_
  refine rt ?_
  cases h
  exact ⟨.inr rfl,Nat.le_of_ble_eq_true rfl,by kernel_rfl⟩
 intro g_1;replace h:=zU g_1 h
 refine sk ?_
 refine sq ?_
 obtain ⟨_,h_5,h⟩:=bind_some h;replace h_5:=wS h_5
 obtain ⟨r_3,h_6,h⟩:=bind_some h
 refine rg [(3,{ l:=(Mp zA (sub l_1 (0:Int) n_1)) }),(4,{ av:=.tuple [yB r_3.1,Ii r_3.2],l:=[y6 h_1,.sl false 4 (Mp zA (sub l_1 (0:Int) n_1))] }),(8,{ id:=1 })] [1,2,3,4,9,10] [0,1] 2 [.sl false 4 (Mp zA l_1),.sl false 5 (Mp zF y5),Ii n_1,Pp 0,Pp 1,Ii r_3.2] [Vb 26 (zX h_1),Vb 31 (y9 r_3.1)] zH (ac (by decide:(0:Int)≤(0:Int)) (ac h_5.1 (ac (zBU h_5.2:n_1≤(lN ((Mp zA l_1)))) (ac (zIr _ _ _:(Mp zA (sub l_1 (0:Int) n_1))=(((Mp zA l_1)).take (n_1).toNat).drop ((0:Int)).toNat) (ar ([y6 h_1,.sl false 4 (Mp zA (sub l_1 (0:Int) n_1))]:List AV) (ac (rfl:([]:List zO)=[]) (ac (kX F h_1 (sub l_1 (0:Int) n_1) r_3 h_6:zW prog 10 [] [] [y6 h_1,.sl false 4 (Mp zA (sub l_1 (0:Int) n_1))] [] (.tuple [yB r_3.1,Ii r_3.2])) an))))))) ?_
 refine sq ?_
 refine sr [] [1,2,3,4,9,45] [0,1] 2 [.sl false 4 (Mp zA l_1),.sl false 5 (Mp zF y5),Ii n_1,Pp 0,Pp 1,.bool (r_3.2 != (0:Int))] [Vb 26 (zX h_1),Vb 31 (y9 r_3.1)] zH an ?_
 refine cd 45 (r_3.2 != (0:Int)) ?_ ?_
 ·intro g_2;replace h:=zT g_2 h
  refine sq ?_
  obtain ⟨r_4,h_7,h⟩:=bind_some h
  refine rg [(0,{ av:=.bool r_4,l:=[] })] [8] [] 2 [.bool r_4] [] zH (ar ([]:List AV) (ac (rfl:([]:List zO)=[]) (ac (zBH F r_4 h_7:zW prog 9 [] [] [] [] (.bool r_4)) an))) ?_
  refine rt ?_
  cases h
  exact ⟨.inr rfl,Nat.le_of_ble_eq_true rfl,by kernel_rfl⟩
 intro g_2;replace h:=zU g_2 h
 refine sk ?_
 refine sq ?_
 obtain ⟨_,h_8,h⟩:=bind_some h;replace h_8:=wS h_8
 obtain ⟨r_5,h_9,h⟩:=bind_some h
 refine rg [(4,{ l:=(Mp zA (sub l_1 n_1 (lN (l_1)))) }),(5,{ av:=.tuple [yB r_5.1,Ii r_5.2],l:=[yB r_3.1,.sl false 5 (Mp zF y5),.sl false 4 (Mp zA (sub l_1 n_1 (lN (l_1))))] }),(9,{ id:=2 })] [1,2,4,11,12] [0,2] 3 [.sl false 4 (Mp zA l_1),.sl false 5 (Mp zF y5),Pp 0,Pp 2,Ii r_5.2] [Vb 26 (zX h_1),Vb 31 (y9 r_5.1)] zH (ac h_8.1 (ac (zBU h_8.2:n_1≤(lN ((Mp zA l_1)))) (ac (Int.le_refl _:(lN ((Mp zA l_1)))≤(lN ((Mp zA l_1)))) (ac (zJg _ _:(Mp zA (sub l_1 n_1 (lN (l_1))))=(((Mp zA l_1)).take ((lN ((Mp zA l_1)))).toNat).drop (n_1).toNat) (ar ([yB r_3.1,.sl false 5 (Mp zF y5),.sl false 4 (Mp zA (sub l_1 n_1 (lN (l_1))))]:List AV) (ac (rfl:([]:List zO)=[]) (ac (zIh F r_3.1 y5 (sub l_1 n_1 (lN (l_1))) r_5 h_9:zW prog 25 [] [] [yB r_3.1,.sl false 5 (Mp zF y5),.sl false 4 (Mp zA (sub l_1 n_1 (lN (l_1))))] [] (.tuple [yB r_5.1,Ii r_5.2])) an))))))) ?_
 refine sr [(1,{ id:=3 })] [1,2,4,11,12,13] [0,2,3] 4 [.sl false 4 (Mp zA l_1),.sl false 5 (Mp zF y5),Pp 0,Pp 2,Ii r_5.2,Pp 3] [Vb 26 (zX h_1),Vb 31 (y9 r_5.1),Vb 26 (zX h_1)] zH an ?_
 refine sq ?_
 obtain ⟨_,qU,h⟩:=bind_some h;replace qU:=wS qU
 obtain ⟨_,t7,h⟩:=bind_some h;replace t7:=wS t7
 refine rg [(0,{ id:=4 }),(3,{ id:=5,l:=(Mp zF ([]++h_1.Snaps)),n:=(([]++h_1.Snaps)).length }),(5,{ id:=6,l:=(Mp zF (([]++h_1.Snaps)++y5)),n:=((([]++h_1.Snaps)++y5)).length })] [1,11,12,13] [2,3,6] 7 [.sl false 4 (Mp zA l_1),Pp 2,Ii r_5.2,Pp 3] [Vb 31 (y9 r_5.1),Vb 26 [.sl false 3 (Mp zG h_1.Threads),.sl false 2 (Mp zD h_1.Domains),.own 6 (((([]++h_1.Snaps)++y5)).length)],Rb 86 5 (Mp zF (([]++h_1.Snaps)++y5))] zH (ac (by first | (simp;done) | (simp;omega):0=(([]:List AV)).length) (ac (trivial:True) (ac (by simp:(List.map zF ([]++h_1.Snaps))=[]++(List.map zF h_1.Snaps)) (ac (by simp:(([]++h_1.Snaps)).length=((List.map zF ([]++h_1.Snaps))).length) (ac (by first | (simp;done) | simpa using qU:(([]:List AV).length+((List.map zF h_1.Snaps):List AV).length) * 40≤140737488355328) (ac (by first | (simp;done) | (simp;omega):(([]++h_1.Snaps)).length=((List.map zF ([]++h_1.Snaps))).length) (ac (trivial:True) (ac (zBE _ _:(Mp zF (([]++h_1.Snaps)++y5))=(Mp zF ([]++h_1.Snaps))++(Mp zF y5)) (ac (by simp:((([]++h_1.Snaps)++y5)).length=((List.map zF (([]++h_1.Snaps)++y5))).length) (ac (by first | (simp;done) | simpa using t7:(((List.map zF ([]++h_1.Snaps)):List AV).length+((List.map zF y5):List AV).length) * 40≤140737488355328) an)))))))))) ?_
 refine sq ?_
 refine wk [2,3] [6] [.s 1,.s 11,.s 12,.s 13] [.s 0,.a 1 (Vb 26 [.sl false 3 (Mp zG h_1.Threads),.sl false 2 (Mp zD h_1.Domains),.sl false 5 (Mp zF (([]++h_1.Snaps)++y5))])] [(1,.sl false 4 (Mp zA l_1)),(11,Pp 0),(12,Ii r_5.2),(13,Pp 1)] [(0,Vb 31 (y9 r_5.1)),(1,Vb 26 [.sl false 3 (Mp zG h_1.Threads),.sl false 2 (Mp zD h_1.Domains),.sl false 5 (Mp zF (([]++h_1.Snaps)++y5))])] (ar 26 (ac (rfl:uJ [.sl false 3 (Mp zG h_1.Threads),.sl false 2 (Mp zD h_1.Domains),.sl false 5 (Mp zF (([]++h_1.Snaps)++y5))]=true) (ac (by first | (simp;done) | (simp;omega):((([]++h_1.Snaps)++y5)).length=((List.map zF (([]++h_1.Snaps)++y5))).length) (ar 3 (ar ((Mp zG h_1.Threads):List AV) (ac (rfl:(!false||false)=true) (ar 2 (ar ((Mp zD h_1.Domains):List AV) (ac (rfl:(!false||false)=true) (ar 5 (ar ((Mp zF (([]++h_1.Snaps)++y5)):List AV) (ac (rfl:(!false||false)=true) an)))))))))))) ?_
 obtain ⟨r_6,zEY,h⟩:=bind_some h
 refine rg [(2,{ av:=.tuple [yB r_6.1,Ii r_6.2],l:=[.agg [.sl false 3 (Mp zG h_1.Threads),.sl false 2 (Mp zD h_1.Domains),.sl false 5 (Mp zF (([]++h_1.Snaps)++y5))],.sl false 4 (Mp zA l_1)] }),(6,{ id:=2 })] [11,12,14,15] [0,2] 3 [Pp 0,Ii r_5.2,Pp 2,Ii r_6.2] [Vb 31 (y9 r_5.1),Vb 31 (y9 r_6.1)] zH (ar ([.agg [.sl false 3 (Mp zG h_1.Threads),.sl false 2 (Mp zD h_1.Domains),.sl false 5 (Mp zF (([]++h_1.Snaps)++y5))],.sl false 4 (Mp zA l_1)]:List AV) (ac (rfl:([]:List zO)=[]) (ac (nW (args':=[y6 (⟨h_1.Threads,h_1.Domains,(([]++h_1.Snaps)++y5)⟩:zS),.sl false 4 (Mp zA l_1)]) (kX F (⟨h_1.Threads,h_1.Domains,(([]++h_1.Snaps)++y5)⟩:zS) l_1 r_6 zEY) rfl ⟨rfl,rfl,rfl,rfl,rfl,rfl,rfl,rfl,rfl,rfl,rfl,rfl,trivial⟩:zW prog 10 [] [] [.agg [.sl false 3 (Mp zG h_1.Threads),.sl false 2 (Mp zD h_1.Domains),.sl false 5 (Mp zF (([]++h_1.Snaps)++y5))],.sl false 4 (Mp zA l_1)] [] (.tuple [yB r_6.1,Ii r_6.2])) an))) ?_
 refine sq ?_
 obtain ⟨p_2,h_15,h⟩:=bind_some h
 refine wO (mk [(8,.bool p_2)] [] 0) ?_ ?_
 ·replace h:=h_15
  rcases bft (r_5.2==r_6.2) with zZ | zZ
  ·replace h:=zT zZ h
   obtain ⟨r_7,h_13,h⟩:=bind_some h
   rcases Bool.eq_false_or_eq_true r_7 with yV | yV
   ·replace h:=zT yV h
    obtain ⟨r_8,h_14,h⟩:=bind_some h
    refine rg [(6,{ av:=.bool r_7,l:=[yB r_5.1,yB r_6.1] }),(7,Ht),(9,{ av:=.bool r_8,l:=[] }),(10,Ht)] [8] [] 3 [.bool r_8] [] zH (ac zZ (ac zZ (ac zZ (ar ([yB r_5.1,yB r_6.1]:List AV) (ac (rfl:([]:List zO)=[]) (ac (zCk F r_5.1 r_6.1 r_7 h_13:zW prog 13 [] [] [yB r_5.1,yB r_6.1] [] (.bool r_7)) (ac zZ (ac yV (ar ([]:List AV) (ac (rfl:([]:List zO)=[]) (ac (zBH F r_8 h_14:zW prog 9 [] [] [] [] (.bool r_8)) (ac yV an)))))))))))) ?_
    cases h
    exact ⟨rfl,(sw [] [] [.s 8] [] an)⟩
   ·replace h:=zU yV h
    refine rg [(6,{ av:=.bool r_7,l:=[yB r_5.1,yB r_6.1] }),(7,Ht),(9,Hg),(10,Hf)] [8] [] 3 [.bool false] [] zH (ac zZ (ac zZ (ac zZ (ar ([yB r_5.1,yB r_6.1]:List AV) (ac (rfl:([]:List zO)=[]) (ac (zCk F r_5.1 r_6.1 r_7 h_13:zW prog 13 [] [] [yB r_5.1,yB r_6.1] [] (.bool r_7)) (ac zZ (ac yV (ac yV an))))))))) ?_
    cases h
    exact ⟨rfl,(sw [] [] [.s 8] [] an)⟩
  ·replace h:=zU zZ h
   refine rg [(4,Hg),(5,Hg),(6,Hg),(7,Hf),(9,Hg),(10,Hf)] [8] [] 3 [.bool false] [] zH (ac zZ (ac zZ (ac zZ (ac zZ (ac (rfl:false=!true) (ar false an)))))) ?_
   cases h
   exact ⟨rfl,(sw [] [] [.s 8] [] an)⟩
 refine rt ?_
 cases h
 exact ⟨.inr rfl,Nat.le_of_ble_eq_true rfl,by kernel_rfl⟩

end Go.Ab
