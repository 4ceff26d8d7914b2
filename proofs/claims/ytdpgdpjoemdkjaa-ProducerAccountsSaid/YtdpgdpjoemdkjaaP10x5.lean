/- Printed: the typed Lean functions of the Go functions, or the proofs that the Go functions meet them. No conditions but those that the theorems name. -/
import Derived.Test.YtdpgdpjoemdkjaaP10x4
namespace Go.Ab
open Go
set_option linter.unusedVariables false
theorem zBh (F:Nat) (l_1:List (zW)) (written_1:List (zE)) (next_1:Int) (r:Int×Bool) (h:qC F l_1 written_1 next_1=some r):zQ prog 23 [] [] [.sl false 4 (Mp zJ l_1),.sl false 6 (Mp zF written_1),Ii next_1] [] (.tuple [Ii r.1,.bool r.2]):=by
 refine zV (fn:=Go.Proofs.Try.f23) (code:=yI Go.Proofs.Try.f23) (by kernel_rfl) (by kernel_rfl) (Nat.le_of_ble_eq_true (by kernel_rfl)) ?_
 unfold qC at h
 refine sr [] [0,1,2] [] 0 [.sl false 4 (Mp zJ l_1),.sl false 6 (Mp zF written_1),Ii next_1] [] zG an ?_
 refine sq ?_
 refine sr [] [0,1,2,8] [] 0 [.sl false 4 (Mp zJ l_1),.sl false 6 (Mp zF written_1),Ii next_1,Ii 0] [] zG an ?_
 obtain ⟨o_1,h_1,h⟩:=bind_some h
 refine wZ (K1:=(fun e st'=>match o_1 with | (.inl q0)=>e=.normal∧Sub 0 st' (mk [(2,Ii q0)] [] 0) | (.inr q1)=>e=.ret∧jB prog Go.Proofs.Try.f23 0 [] (.tuple [Ii q1.1,.bool q1.2]) st')) ?_ ?_
 ·replace h:=h_1
  refine z6 (id:=0) (by kernel_rfl) ?_
  refine wk [] [] [.s 0,.s 1,.s 2,.s 8] [] [(0,.sl false 4 (Mp zJ l_1)),(1,.sl false 6 (Mp zF written_1)),(2,Ii next_1),(8,Ii 0)] [] an ?_
  refine xQ (fun n st=>∃ (next_2:Int),∃ (i_1:Int),st=mk [(0,.sl false 4 (Mp zJ l_1)),(1,.sl false 6 (Mp zF written_1)),(2,Ii next_2),(8,Ii i_1)] [] 0∧uL F l_1 written_1 n next_2 i_1=some o_1) F (by kernel_rfl) ⟨_,_,rfl,h⟩ ?_ ?_
  ·rintro _ ⟨_,_,_,h⟩;exact wH (h:(none:Option (Int⊕(Int×Bool)))=some o_1)
  rintro n_1 _ ⟨next_2,i_1,rfl,h⟩
  replace h:xE F l_1 written_1 (uL F l_1 written_1 n_1) next_2 i_1=some o_1:=h
  unfold xE at h
  refine sq ?_
  refine sr [(2,{ n:=(l_1).length })] [0,1,2,8,14] [] 0 [.sl false 4 (Mp zJ l_1),.sl false 6 (Mp zF written_1),Ii next_2,Ii i_1,.bool (decide (i_1<(lN (l_1))))] [] zG (ac (z9 _:((Mp zJ l_1)).length=(l_1).length) an) ?_
  refine cd 14 (decide (i_1<(lN (l_1)))) ?_ ?_
  rotate_left
  ·intro g_1;replace h:=zS g_1 h
   refine xR (id:=0) (by kernel_rfl) ?_
   cases h
   exact ⟨rfl,(sw [] [] [.s 2] [] an)⟩
  intro g_1;replace h:=zR g_1 h
  refine sk ?_
  refine sq ?_
  refine z6 (id:=1) (by kernel_rfl) ?_
  refine sq ?_
  obtain ⟨x_1,h_2,h⟩:=bind_some h
  refine rg [(2,{ av:=zJ x_1 }),(4,{ id:=0 })] [0,1,2,8,9] [0] 1 [.sl false 4 (Mp zJ l_1),.sl false 6 (Mp zF written_1),Ii next_2,Ii i_1,Pp 0] [Vb 59 (uJ x_1)] zG (ac (vQ h_2:uK (Mp zJ l_1) i_1=some (zJ x_1)) an) ?_
  refine sr [(4,{ n:=(x_1.Events).length })] [0,1,2,8,9,10] [0] 1 [.sl false 4 (Mp zJ l_1),.sl false 6 (Mp zF written_1),Ii next_2,Ii i_1,Pp 0,Ii (zH (x_1.Serial+(lN (x_1.Events))))] [Vb 59 (uJ x_1)] zG (ac (z9 _:((Mp zF x_1.Events)).length=(x_1.Events).length) an) ?_
  refine sq ?_
  refine sq ?_
  obtain ⟨p_1,h_5,h⟩:=bind_some h
  refine yE (mk [(0,.sl false 4 (Mp zJ l_1)),(1,.sl false 6 (Mp zF written_1)),(8,Ii i_1),(10,Ii (zH (x_1.Serial+(lN (x_1.Events))))),(61,.bool p_1)] [] 0) ?_ ?_
  ·replace h:=h_5
   rcases bft (decide (x_1.Lost<(0:Int))) with gg_13 | gg_13
   ·replace h:=zR gg_13 h
    refine rg [(4,Hg),(5,Hg),(6,Hg),(7,Hg),(8,Hg),(9,Hg),(10,Hg),(11,Ht),(13,Hg),(14,Hg),(15,Hg),(16,Hg),(17,Ht),(19,Hg),(20,Hg),(21,Hg),(22,Hg),(23,Ht),(25,Hg),(26,Hg),(27,Hg),(28,Hg),(29,Hg),(30,Hg),(31,Hg),(32,Hg),(33,Hg),(34,Ht)] [0,1,8,10,31,32,33,34,35,36,37,40,41,42,43,46,47,48,49,52,53,54,55,56,57,58,59,60,61] [] 1 [.sl false 4 (Mp zJ l_1),.sl false 6 (Mp zF written_1),Ii i_1,Ii (zH (x_1.Serial+(lN (x_1.Events)))),.tuple [],.tuple [],.tuple [],.tuple [],.tuple [],.tuple [],.tuple [],.tuple [],.tuple [],.tuple [],.tuple [],.tuple [],.tuple [],.tuple [],.tuple [],.tuple [],.tuple [],.tuple [],.tuple [],.tuple [],.tuple [],.tuple [],.tuple [],.tuple [],.bool true] [] zG (ac gg_13 (ac gg_13 (ac gg_13 (ac gg_13 (ac gg_13 (ac gg_13 (ac gg_13 (ac gg_13 (ax (ax (ax (ax (ar true (ax (ax (ax (ax (ar true (ax (ax (ax (ax (ax (ax (ax (ax (ax (ar true an)))))))))))))))))))))))))))) ?_
    cases h
    exact ⟨rfl,(sw [] [] [.s 0,.s 1,.s 8,.s 10,.s 61] [] an)⟩
   ·replace h:=zS gg_13 h
    rcases bft (x_1.Serial != (zH (next_2+x_1.Lost))) with gg_14 | gg_14
    ·replace h:=zR gg_14 h
     refine rg [(11,Hf),(13,Hg),(14,Hg),(15,Hg),(16,Hg),(17,Ht),(19,Hg),(20,Hg),(21,Hg),(22,Hg),(23,Ht),(25,Hg),(26,Hg),(27,Hg),(28,Hg),(29,Hg),(30,Hg),(31,Hg),(32,Hg),(33,Hg),(34,Ht)] [0,1,8,10,31,32,33,34,35,36,37,40,41,42,43,46,47,48,49,52,53,54,55,56,57,58,59,60,61] [0] 1 [.sl false 4 (Mp zJ l_1),.sl false 6 (Mp zF written_1),Ii i_1,Ii (zH (x_1.Serial+(lN (x_1.Events)))),.ptr 0 0 0 1,Ii x_1.Serial,Ii next_2,.ptr 0 0 0 2,Ii x_1.Lost,Ii (zH (next_2+x_1.Lost)),.bool (x_1.Serial != (zH (next_2+x_1.Lost))),.tuple [],.tuple [],.tuple [],.tuple [],.tuple [],.tuple [],.tuple [],.tuple [],.tuple [],.tuple [],.tuple [],.tuple [],.tuple [],.tuple [],.tuple [],.tuple [],.tuple [],.bool true] [Vb 59 (uJ x_1)] zG (ac gg_13 (ac gg_13 (ac gg_13 (ac gg_13 (ac gg_13 (ac gg_13 (ac gg_13 (ac gg_13 (ac gg_14 (ac gg_14 (ac gg_14 (ac gg_14 (ac gg_14 (ax (ax (ax (ax (ar true (ax (ax (ax (ax (ax (ax (ax (ax (ax (ar true an)))))))))))))))))))))))))))) ?_
     cases h
     exact ⟨rfl,(sw [] [] [.s 0,.s 1,.s 8,.s 10,.s 61] [] an)⟩
    ·replace h:=zS gg_14 h
     rcases bft (decide ((zH (x_1.Serial+(lN (x_1.Events))))>(lN (written_1)))) with gg_15 | gg_15
     ·replace h:=zR gg_15 h
      refine rg [(11,Hf),(15,{ n:=(written_1).length }),(17,Hf),(19,Hg),(20,Hg),(21,Hg),(22,Hg),(23,Ht),(25,Hg),(26,Hg),(27,Hg),(28,Hg),(29,Hg),(30,Hg),(31,Hg),(32,Hg),(33,Hg),(34,Ht)] [0,1,8,10,31,32,33,34,35,36,37,40,41,42,43,46,47,48,49,52,53,54,55,56,57,58,59,60,61] [0] 1 [.sl false 4 (Mp zJ l_1),.sl false 6 (Mp zF written_1),Ii i_1,Ii (zH (x_1.Serial+(lN (x_1.Events)))),.ptr 0 0 0 1,Ii x_1.Serial,Ii next_2,.ptr 0 0 0 2,Ii x_1.Lost,Ii (zH (next_2+x_1.Lost)),.bool (x_1.Serial != (zH (next_2+x_1.Lost))),Ii (zH (x_1.Serial+(lN (x_1.Events)))),.sl false 6 (Mp zF written_1),Ii (lN (written_1)),.bool (decide ((zH (x_1.Serial+(lN (x_1.Events))))>(lN (written_1)))),.tuple [],.tuple [],.tuple [],.tuple [],.tuple [],.tuple [],.tuple [],.tuple [],.tuple [],.tuple [],.tuple [],.tuple [],.tuple [],.bool true] [Vb 59 (uJ x_1)] zG (ac gg_13 (ac gg_13 (ac gg_13 (ac gg_13 (ac gg_13 (ac gg_13 (ac gg_13 (ac gg_13 (ac gg_14 (ac gg_14 (ac gg_14 (ac (z9 _:((Mp zF written_1)).length=(written_1).length) (ac gg_14 (ac gg_14 (ac gg_15 (ac gg_15 (ac gg_15 (ac gg_15 (ac gg_15 (ax (ax (ax (ax (ax (ax (ax (ax (ax (ar true an))))))))))))))))))))))))))))) ?_
      cases h
      exact ⟨rfl,(sw [] [] [.s 0,.s 1,.s 8,.s 10,.s 61] [] an)⟩
     ·replace h:=zS gg_15 h
      rcases bft ((lN (x_1.Events))==(0:Int)) with gg_16 | gg_16
      ·replace h:=zR gg_16 h
       refine rg [(11,Hf),(15,{ n:=(written_1).length }),(17,Hf),(21,{ n:=(x_1.Events).length }),(23,Hf),(25,Hg),(26,Hg),(27,Hg),(28,Hg),(29,Hg),(30,Hg),(31,Hg),(32,Hg),(33,Hg),(34,Ht)] [0,1,8,10,31,32,33,34,35,36,37,40,41,42,43,46,47,48,49,52,53,54,55,56,57,58,59,60,61] [0] 1 [.sl false 4 (Mp zJ l_1),.sl false 6 (Mp zF written_1),Ii i_1,Ii (zH (x_1.Serial+(lN (x_1.Events)))),.ptr 0 0 0 1,Ii x_1.Serial,Ii next_2,.ptr 0 0 0 2,Ii x_1.Lost,Ii (zH (next_2+x_1.Lost)),.bool (x_1.Serial != (zH (next_2+x_1.Lost))),Ii (zH (x_1.Serial+(lN (x_1.Events)))),.sl false 6 (Mp zF written_1),Ii (lN (written_1)),.bool (decide ((zH (x_1.Serial+(lN (x_1.Events))))>(lN (written_1)))),.ptr 0 0 0 3,.sl false 6 (Mp zF x_1.Events),Ii (lN (x_1.Events)),.bool ((lN (x_1.Events))==(0:Int)),.tuple [],.tuple [],.tuple [],.tuple [],.tuple [],.tuple [],.tuple [],.tuple [],.tuple [],.bool true] [Vb 59 (uJ x_1)] zG (ac gg_13 (ac gg_13 (ac gg_13 (ac gg_13 (ac gg_13 (ac gg_13 (ac gg_13 (ac gg_13 (ac gg_14 (ac gg_14 (ac gg_14 (ac (z9 _:((Mp zF written_1)).length=(written_1).length) (ac gg_14 (ac gg_14 (ac gg_15 (ac gg_15 (ac gg_15 (ac (z9 _:((Mp zF x_1.Events)).length=(x_1.Events).length) (ac gg_15 (ac gg_15 (ac gg_16 (ac gg_16 (ac gg_16 (ac gg_16 (ac gg_16 (ac gg_16 (ac gg_16 (ac gg_16 (ac gg_16 (ac gg_16 an)))))))))))))))))))))))))))))) ?_
       cases h
       exact ⟨rfl,(sw [] [] [.s 0,.s 1,.s 8,.s 10,.s 61] [] an)⟩
      ·replace h:=zS gg_16 h
       obtain ⟨_,h_3,h⟩:=bind_some h;replace h_3:=yD h_3
       obtain ⟨r_1,h_4,h⟩:=bind_some h
       refine rg [(11,Hf),(15,{ n:=(written_1).length }),(17,Hf),(21,{ n:=(x_1.Events).length }),(23,Hf),(31,{ l:=(Mp zF (sub written_1 x_1.Serial (zH (x_1.Serial+(lN (x_1.Events)))))) }),(32,{ av:=.bool r_1,l:=[.sl false 6 (Mp zF x_1.Events),.sl false 6 (Mp zF (sub written_1 x_1.Serial (zH (x_1.Serial+(lN (x_1.Events))))))] }),(34,Hf)] [0,1,8,10,31,32,33,34,35,36,37,40,41,42,43,46,47,48,49,52,53,54,55,56,57,58,59,60,61] [0] 1 [.sl false 4 (Mp zJ l_1),.sl false 6 (Mp zF written_1),Ii i_1,Ii (zH (x_1.Serial+(lN (x_1.Events)))),.ptr 0 0 0 1,Ii x_1.Serial,Ii next_2,.ptr 0 0 0 2,Ii x_1.Lost,Ii (zH (next_2+x_1.Lost)),.bool (x_1.Serial != (zH (next_2+x_1.Lost))),Ii (zH (x_1.Serial+(lN (x_1.Events)))),.sl false 6 (Mp zF written_1),Ii (lN (written_1)),.bool (decide ((zH (x_1.Serial+(lN (x_1.Events))))>(lN (written_1)))),.ptr 0 0 0 3,.sl false 6 (Mp zF x_1.Events),Ii (lN (x_1.Events)),.bool ((lN (x_1.Events))==(0:Int)),.ptr 0 0 0 3,.sl false 6 (Mp zF x_1.Events),.sl false 6 (Mp zF written_1),.ptr 0 0 0 1,Ii x_1.Serial,Ii (zH (x_1.Serial+(lN (x_1.Events)))),.sl false 6 (Mp zF (sub written_1 x_1.Serial (zH (x_1.Serial+(lN (x_1.Events)))))),.bool r_1,.bool (!r_1),.bool (!r_1)] [Vb 59 (uJ x_1)] zG (ac gg_13 (ac gg_13 (ac gg_13 (ac gg_13 (ac gg_13 (ac gg_13 (ac gg_13 (ac gg_13 (ac gg_14 (ac gg_14 (ac gg_14 (ac (z9 _:((Mp zF written_1)).length=(written_1).length) (ac gg_14 (ac gg_14 (ac gg_15 (ac gg_15 (ac gg_15 (ac (z9 _:((Mp zF x_1.Events)).length=(x_1.Events).length) (ac gg_15 (ac gg_15 (ac gg_16 (ac gg_16 (ac gg_16 (ac gg_16 (ac gg_16 (ac gg_16 (ac gg_16 (ac h_3.1 (ac h_3.2.1 (ac (kK h_3.2.2:(zH (x_1.Serial+(lN (x_1.Events))))≤(lN ((Mp zF written_1)))) (ac (zEw _ _ _:(Mp zF (sub written_1 x_1.Serial (zH (x_1.Serial+(lN (x_1.Events))))))=(((Mp zF written_1)).take (zH (x_1.Serial+(lN (x_1.Events)))).toNat).drop (x_1.Serial).toNat) (ac gg_16 (ar ([.sl false 6 (Mp zF x_1.Events),.sl false 6 (Mp zF (sub written_1 x_1.Serial (zH (x_1.Serial+(lN (x_1.Events))))))]:List AV) (ac (rfl:([]:List zP)=[]) (ac (zE8 F x_1.Events (sub written_1 x_1.Serial (zH (x_1.Serial+(lN (x_1.Events))))) r_1 h_4:zQ prog 37 [] [] [.sl false 6 (Mp zF x_1.Events),.sl false 6 (Mp zF (sub written_1 x_1.Serial (zH (x_1.Serial+(lN (x_1.Events))))))] [] (.bool r_1)) (ac gg_16 (ac gg_16 an))))))))))))))))))))))))))))))))))))) ?_
       cases h
       exact ⟨rfl,(sw [] [] [.s 0,.s 1,.s 8,.s 10,.s 61] [] an)⟩
  refine cd 61 p_1 ?_ ?_
  rotate_left
  ·intro g_2;replace h:=zS g_2 h
   refine sk ?_
   refine rg [] [0,1,2,8] [] 0 [.sl false 4 (Mp zJ l_1),.sl false 6 (Mp zF written_1),Ii (zH (x_1.Serial+(lN (x_1.Events)))),Ii i_1] [] zG an ?_
   refine rg [] [0,1,2,8] [] 0 [.sl false 4 (Mp zJ l_1),.sl false 6 (Mp zF written_1),Ii (zH (x_1.Serial+(lN (x_1.Events)))),Ii (zH (i_1+(1:Int)))] [] zG an ?_
   exact ⟨_,(sw [] [] [.s 0,.s 1,.s 2,.s 8] [] an),_,_,rfl,h⟩
  intro g_2;replace h:=zR g_2 h
  refine sr [] [6,7] [] 0 [Ii 0,.bool false] [] zG an ?_
  refine rt ?_
  cases h
  exact ⟨rfl,Nat.le_of_ble_eq_true rfl,by kernel_rfl⟩
 intro e st1 hk
 rcases o_1 with q_1 | q_2
 rotate_left
 ·obtain ⟨rfl,hf⟩:=hk
  cases h
  exact ⟨st1,Sub.refl _ _,.inr rfl,hf⟩
 obtain ⟨rfl,hs⟩:=hk
 refine ⟨_,hs,?_⟩
 refine sr [] [6,7] [] 0 [Ii q_1,.bool true] [] zG an ?_
 refine rt ?_
 cases h
 exact ⟨.inr rfl,Nat.le_of_ble_eq_true rfl,by kernel_rfl⟩
end Go.Ab
