/- Printed: the typed Lean functions of the Go functions, or the proofs that the Go functions meet them. No conditions but those that the theorems name. -/
import Derived.Test.YtbifmbdcejggkaaP16x3
namespace Go.Ab
open Go
set_option linter.unusedVariables false
theorem zHw (F:Nat) (l_1:zM) (vO:zM) (yM:z6) (r:Bool) (h:jU F l_1 vO yM=some r):zV prog 4 [] [] [z4 l_1,z4 vO,yA yM] [] (.bool r):=by
 refine yG (fn:=Go.Proofs.Try.f4) (code:=xC Go.Proofs.Try.f4) (by kernel_rfl) (by kernel_rfl) (Nat.le_of_ble_eq_true (by kernel_rfl)) ?_
 unfold jU at h
 refine sr [(0,{ id:=0 }),(1,{ id:=1 }),(2,{ id:=2 })] [3,4,5] [0,1,2] 3 [Pp 0,Pp 1,Pp 2] [Vb 31 (yB l_1),Vb 31 (yB vO),Vb 37 (xZ yM)] zF an ?_
 refine sq ?_
 refine sq ?_
 obtain ⟨p_1,h_3,h⟩:=bind_some h
 refine y4 (mk [(3,Pp 0),(4,Pp 1),(5,Pp 2),(30,.bool p_1)] [(0,Vb 31 (yB l_1)),(1,Vb 31 (yB vO)),(2,Vb 37 (xZ yM))] 3) ?_ ?_
 ·replace h:=h_3
  obtain ⟨r_1,h_1,h⟩:=bind_some h
  rcases bft (!r_1) with zH | zH
  ·replace h:=zR zH h
   refine rg [(4,{ av:=.bool r_1,l:=[yU l_1.Head,.sl false 4 (Mp zA l_1.Parts)] }),(7,Hg),(8,Hg),(9,Hg),(10,Hg),(11,Hg),(12,Hg),(13,Ht)] [3,4,5,30] [0,1,2] 3 [Pp 0,Pp 1,Pp 2,.bool true] [Vb 31 (yB l_1),Vb 31 (yB vO),Vb 37 (xZ yM)] zF (ar ([yU l_1.Head,.sl false 4 (Mp zA l_1.Parts)]:List AV) (ac (rfl:([]:List zW)=[]) (ac (zDm F l_1.Head l_1.Parts r_1 h_1:zV prog 8 [] [] [yU l_1.Head,.sl false 4 (Mp zA l_1.Parts)] [] (.bool r_1)) (ac zH (ac zH (ac zH (ac zH (ac zH (ac zH (ac zH an)))))))))) ?_
   cases h
   exact ⟨rfl,(sw [0,1,2] [] [.s 3,.s 4,.s 5,.s 30] [.s 0,.s 1,.s 2] an)⟩
  ·replace h:=zQ zH h
   obtain ⟨r_2,h_2,h⟩:=bind_some h
   refine rg [(4,{ av:=.bool r_1,l:=[yU l_1.Head,.sl false 4 (Mp zA l_1.Parts)] }),(11,{ av:=.bool r_2,l:=[yU vO.Head,.sl false 4 (Mp zA vO.Parts)] }),(13,Hf)] [3,4,5,30] [0,1,2] 3 [Pp 0,Pp 1,Pp 2,.bool (!r_2)] [Vb 31 (yB l_1),Vb 31 (yB vO),Vb 37 (xZ yM)] zF (ar ([yU l_1.Head,.sl false 4 (Mp zA l_1.Parts)]:List AV) (ac (rfl:([]:List zW)=[]) (ac (zDm F l_1.Head l_1.Parts r_1 h_1:zV prog 8 [] [] [yU l_1.Head,.sl false 4 (Mp zA l_1.Parts)] [] (.bool r_1)) (ac zH (ac zH (ac zH (ac zH (ac zH (ar ([yU vO.Head,.sl false 4 (Mp zA vO.Parts)]:List AV) (ac (rfl:([]:List zW)=[]) (ac (zDm F vO.Head vO.Parts r_2 h_2:zV prog 8 [] [] [yU vO.Head,.sl false 4 (Mp zA vO.Parts)] [] (.bool r_2)) (ac zH (ac zH an))))))))))))) ?_
   cases h
   exact ⟨rfl,(sw [0,1,2] [] [.s 3,.s 4,.s 5,.s 30] [.s 0,.s 1,.s 2] an)⟩
 refine cd 30 p_1 ?_ ?_
 ·intro g_1;replace h:=zR g_1 h
  refine sq ?_
  obtain ⟨r_3,h_4,h⟩:=bind_some h
  refine rg [(0,{ av:=.bool r_3,l:=[] })] [6] [] 3 [.bool r_3] [] zF (ar ([]:List AV) (ac (rfl:([]:List zW)=[]) (ac (zFB F r_3 h_4:zV prog 9 [] [] [] [] (.bool r_3)) an))) ?_
  refine rt ?_
  cases h
  exact ⟨.inr rfl,Nat.le_of_ble_eq_true rfl,by kernel_rfl⟩
 intro g_1;replace h:=zQ g_1 h
 refine sk ?_
 refine sq ?_
 refine sq ?_
 obtain ⟨p_2,h_9,h⟩:=bind_some h
 refine y4 (mk [(3,Pp 0),(5,Pp 1),(45,.bool p_2)] [(0,Vb 31 (yB l_1)),(1,Vb 37 (xZ yM))] 2) ?_ ?_
 ·replace h:=h_9
  obtain ⟨r_4,h_5,h⟩:=bind_some h
  obtain ⟨r_5,h_6,h⟩:=bind_some h
  rcases bft (r_4 != r_5) with zJ | zJ
  ·replace h:=zR zJ h
   refine rg [(1,{ av:=Ii r_4,l:=[z4 l_1] }),(3,{ av:=Ii r_5,l:=[z4 l_1] }),(6,Hg),(7,Hg),(8,Hg),(9,Hg),(10,Hg),(11,Hg),(12,Hg),(13,Ht)] [3,5,45] [0,2] 3 [Pp 0,Pp 2,.bool true] [Vb 31 (yB l_1),Vb 37 (xZ yM)] zF (ar ([z4 l_1]:List AV) (ac (rfl:([]:List zW)=[]) (ac (pU F l_1 r_4 h_5:zV prog 14 [] [] [z4 l_1] [] (Ii r_4)) (ar ([z4 l_1]:List AV) (ac (rfl:([]:List zW)=[]) (ac (zAq F l_1 r_5 h_6:zV prog 15 [] [] [z4 l_1] [] (Ii r_5)) (ac zJ (ac zJ (ac zJ (ac zJ (ac zJ (ac zJ (ac zJ (ac zJ an)))))))))))))) ?_
   cases h
   exact ⟨rfl,(sw [0,2] [] [.s 3,.s 5,.s 45] [.s 0,.s 1] an)⟩
  ·replace h:=zQ zJ h
   obtain ⟨r_6,h_7,h⟩:=bind_some h
   obtain ⟨r_7,h_8,h⟩:=bind_some h
   refine rg [(1,{ av:=Ii r_4,l:=[z4 l_1] }),(3,{ av:=Ii r_5,l:=[z4 l_1] }),(8,{ av:=.bool r_6,l:=[z4 l_1,z4 vO] }),(11,{ av:=.bool r_7,l:=[z4 l_1,z4 vO] }),(13,Hf)] [3,5,45] [0,2] 3 [Pp 0,Pp 2,.bool (!(r_6==r_7))] [Vb 31 (yB l_1),Vb 37 (xZ yM)] zF (ar ([z4 l_1]:List AV) (ac (rfl:([]:List zW)=[]) (ac (pU F l_1 r_4 h_5:zV prog 14 [] [] [z4 l_1] [] (Ii r_4)) (ar ([z4 l_1]:List AV) (ac (rfl:([]:List zW)=[]) (ac (zAq F l_1 r_5 h_6:zV prog 15 [] [] [z4 l_1] [] (Ii r_5)) (ac zJ (ac zJ (ac zJ (ar ([z4 l_1,z4 vO]:List AV) (ac (rfl:([]:List zW)=[]) (ac (zGl F l_1 vO r_6 h_7:zV prog 13 [] [] [z4 l_1,z4 vO] [] (.bool r_6)) (ac zJ (ac zJ (ac zJ (ar ([z4 l_1,z4 vO]:List AV) (ac (rfl:([]:List zW)=[]) (ac (zGm F l_1 vO r_7 h_8:zV prog 12 [] [] [z4 l_1,z4 vO] [] (.bool r_7)) (ac zJ (ac zJ an)))))))))))))))))))) ?_
   cases h
   exact ⟨rfl,(sw [0,2] [] [.s 3,.s 5,.s 45] [.s 0,.s 1] an)⟩
 refine cd 45 p_2 ?_ ?_
 ·intro g_2;replace h:=zR g_2 h
  refine sr [] [6] [] 2 [.bool false] [] zF an ?_
  refine rt ?_
  cases h
  exact ⟨.inr rfl,Nat.le_of_ble_eq_true rfl,by kernel_rfl⟩
 intro g_2;replace h:=zQ g_2 h
 refine sk ?_
 refine sq ?_
 obtain ⟨r_8,tT,h⟩:=bind_some h
 refine rg [(2,{ av:=.tuple [zD r_8.1,.bool r_8.2],l:=[z4 l_1,yA yM] }),(6,{ id:=2 })] [3,5,7,8] [0,1,2] 3 [Pp 0,Pp 1,Pp 2,.bool r_8.2] [Vb 31 (yB l_1),Vb 37 (xZ yM),Vb 42 (zT r_8.1)] zF (ar ([z4 l_1,yA yM]:List AV) (ac (rfl:([]:List zW)=[]) (ac (zHA F l_1 yM r_8 tT:zV prog 16 [] [] [z4 l_1,yA yM] [] (.tuple [zD r_8.1,.bool r_8.2])) an))) ?_
 refine sq ?_
 obtain ⟨r_9,tU,h⟩:=bind_some h
 refine rg [(2,{ av:=.tuple [zD r_9.1,.bool r_9.2],l:=[z4 l_1,yA yM] }),(6,{ id:=3 })] [3,7,8,9,10] [0,2,3] 4 [Pp 0,Pp 2,.bool r_8.2,Pp 3,.bool r_9.2] [Vb 31 (yB l_1),Vb 42 (zT r_8.1),Vb 42 (zT r_9.1)] zF (ar ([z4 l_1,yA yM]:List AV) (ac (rfl:([]:List zW)=[]) (ac (zL8 F l_1 yM r_9 tU:zV prog 17 [] [] [z4 l_1,yA yM] [] (.tuple [zD r_9.1,.bool r_9.2])) an))) ?_
 refine sq ?_
 refine sq ?_
 refine y4 (mk [(3,Pp 0),(104,.bool (!(r_8.2==r_9.2)||((r_8.1.At != r_9.1.At)||((r_8.1.Kind != r_9.1.Kind)||(!(r_8.1.Name==r_9.1.Name)||((r_8.1.N != r_9.1.N)||((r_8.1.M != r_9.1.M)||((lN (r_8.1.Stack)) != (lN (r_9.1.Stack))))))))))] [(0,Vb 31 (yB l_1))] 1) ?_ ?_
 ·rcases bft (!(r_8.2==r_9.2)) with zO | zO
  ·refine rg [(4,Hg),(5,Hg),(6,Hg),(7,Hg),(8,Hg),(9,Ht),(11,Hg),(12,Hg),(13,Hg),(14,Hg),(15,Hg),(16,Ht),(18,Hg),(19,Hg),(20,Hg),(21,Hg),(22,Hg),(23,Ht),(25,Hg),(26,Hg),(27,Hg),(28,Hg),(29,Hg),(30,Ht),(32,Hg),(33,Hg),(34,Hg),(35,Hg),(36,Hg),(37,Ht),(39,Hg),(40,Hg),(41,Hg),(42,Hg),(43,Hg),(44,Hg),(45,Hg),(46,Ht)] [3,104] [0] 4 [Pp 0,.bool true] [Vb 31 (yB l_1)] zF (ac zO (ac zO (ac zO (ac zO (ac zO (ac zO (ax (ax (ax (ax (ax (ar true (ax (ax (ax (ax (ax (ar true (ax (ax (ax (ax (ax (ar true (ax (ax (ax (ax (ax (ar true (ax (ax (ax (ax (ax (ax (ax (ar true an)))))))))))))))))))))))))))))))))))))) ?_
   exact ⟨rfl,(sw [0] [] [.s 3,.a 104 (.bool (!(r_8.2==r_9.2)||((r_8.1.At != r_9.1.At)||((r_8.1.Kind != r_9.1.Kind)||(!(r_8.1.Name==r_9.1.Name)||((r_8.1.N != r_9.1.N)||((r_8.1.M != r_9.1.M)||((lN (r_8.1.Stack)) != (lN (r_9.1.Stack))))))))))] [.s 0] (ac (congrArg AV.bool (ort zO):(.bool true:AV)=.bool (!(r_8.2==r_9.2)||((r_8.1.At != r_9.1.At)||((r_8.1.Kind != r_9.1.Kind)||(!(r_8.1.Name==r_9.1.Name)||((r_8.1.N != r_9.1.N)||((r_8.1.M != r_9.1.M)||((lN (r_8.1.Stack)) != (lN (r_9.1.Stack)))))))))) an))⟩
  ·rcases bft (r_8.1.At != r_9.1.At) with zS | zS
   ·refine rg [(9,Hf),(11,Hg),(12,Hg),(13,Hg),(14,Hg),(15,Hg),(16,Ht),(18,Hg),(19,Hg),(20,Hg),(21,Hg),(22,Hg),(23,Ht),(25,Hg),(26,Hg),(27,Hg),(28,Hg),(29,Hg),(30,Ht),(32,Hg),(33,Hg),(34,Hg),(35,Hg),(36,Hg),(37,Ht),(39,Hg),(40,Hg),(41,Hg),(42,Hg),(43,Hg),(44,Hg),(45,Hg),(46,Ht)] [3,104] [0] 4 [Pp 0,.bool true] [Vb 31 (yB l_1)] zF (ac zO (ac zO (ac zO (ac zO (ac zO (ac zO (ac zS (ac zS (ac zS (ac zS (ac zS (ac zS (ax (ax (ax (ax (ax (ar true (ax (ax (ax (ax (ax (ar true (ax (ax (ax (ax (ax (ar true (ax (ax (ax (ax (ax (ax (ax (ar true an)))))))))))))))))))))))))))))))))))))) ?_
    exact ⟨rfl,(sw [0] [] [.s 3,.a 104 (.bool (!(r_8.2==r_9.2)||((r_8.1.At != r_9.1.At)||((r_8.1.Kind != r_9.1.Kind)||(!(r_8.1.Name==r_9.1.Name)||((r_8.1.N != r_9.1.N)||((r_8.1.M != r_9.1.M)||((lN (r_8.1.Stack)) != (lN (r_9.1.Stack))))))))))] [.s 0] (ac (congrArg AV.bool (orf zO (ort zS)):(.bool true:AV)=.bool (!(r_8.2==r_9.2)||((r_8.1.At != r_9.1.At)||((r_8.1.Kind != r_9.1.Kind)||(!(r_8.1.Name==r_9.1.Name)||((r_8.1.N != r_9.1.N)||((r_8.1.M != r_9.1.M)||((lN (r_8.1.Stack)) != (lN (r_9.1.Stack)))))))))) an))⟩
   ·rcases bft (r_8.1.Kind != r_9.1.Kind) with yE | yE
    ·refine rg [(9,Hf),(16,Hf),(18,Hg),(19,Hg),(20,Hg),(21,Hg),(22,Hg),(23,Ht),(25,Hg),(26,Hg),(27,Hg),(28,Hg),(29,Hg),(30,Ht),(32,Hg),(33,Hg),(34,Hg),(35,Hg),(36,Hg),(37,Ht),(39,Hg),(40,Hg),(41,Hg),(42,Hg),(43,Hg),(44,Hg),(45,Hg),(46,Ht)] [3,104] [0] 4 [Pp 0,.bool true] [Vb 31 (yB l_1)] zF (ac zO (ac zO (ac zO (ac zO (ac zO (ac zO (ac zS (ac zS (ac zS (ac zS (ac zS (ac zS (ac yE (ac yE (ac yE (ac yE (ac yE (ac yE (ax (ax (ax (ax (ax (ar true (ax (ax (ax (ax (ax (ar true (ax (ax (ax (ax (ax (ax (ax (ar true an)))))))))))))))))))))))))))))))))))))) ?_
     exact ⟨rfl,(sw [0] [] [.s 3,.a 104 (.bool (!(r_8.2==r_9.2)||((r_8.1.At != r_9.1.At)||((r_8.1.Kind != r_9.1.Kind)||(!(r_8.1.Name==r_9.1.Name)||((r_8.1.N != r_9.1.N)||((r_8.1.M != r_9.1.M)||((lN (r_8.1.Stack)) != (lN (r_9.1.Stack))))))))))] [.s 0] (ac (congrArg AV.bool (orf zO (orf zS (ort yE))):(.bool true:AV)=.bool (!(r_8.2==r_9.2)||((r_8.1.At != r_9.1.At)||((r_8.1.Kind != r_9.1.Kind)||(!(r_8.1.Name==r_9.1.Name)||((r_8.1.N != r_9.1.N)||((r_8.1.M != r_9.1.M)||((lN (r_8.1.Stack)) != (lN (r_9.1.Stack)))))))))) an))⟩
    ·rcases bft (!(r_8.1.Name==r_9.1.Name)) with yZ | yZ
     ·refine rg [(9,Hf),(16,Hf),(23,Hf),(25,Hg),(26,Hg),(27,Hg),(28,Hg),(29,Hg),(30,Ht),(32,Hg),(33,Hg),(34,Hg),(35,Hg),(36,Hg),(37,Ht),(39,Hg),(40,Hg),(41,Hg),(42,Hg),(43,Hg),(44,Hg),(45,Hg),(46,Ht)] [3,104] [0] 4 [Pp 0,.bool true] [Vb 31 (yB l_1)] zF (ac zO (ac zO (ac zO (ac zO (ac zO (ac zO (ac zS (ac zS (ac zS (ac zS (ac zS (ac zS (ac yE (ac yE (ac yE (ac yE (ac yE (ac yE (ac yZ (ac yZ (ac yZ (ac yZ (ac yZ (ac yZ (ax (ax (ax (ax (ax (ar true (ax (ax (ax (ax (ax (ax (ax (ar true an)))))))))))))))))))))))))))))))))))))) ?_
      exact ⟨rfl,(sw [0] [] [.s 3,.a 104 (.bool (!(r_8.2==r_9.2)||((r_8.1.At != r_9.1.At)||((r_8.1.Kind != r_9.1.Kind)||(!(r_8.1.Name==r_9.1.Name)||((r_8.1.N != r_9.1.N)||((r_8.1.M != r_9.1.M)||((lN (r_8.1.Stack)) != (lN (r_9.1.Stack))))))))))] [.s 0] (ac (congrArg AV.bool (orf zO (orf zS (orf yE (ort yZ)))):(.bool true:AV)=.bool (!(r_8.2==r_9.2)||((r_8.1.At != r_9.1.At)||((r_8.1.Kind != r_9.1.Kind)||(!(r_8.1.Name==r_9.1.Name)||((r_8.1.N != r_9.1.N)||((r_8.1.M != r_9.1.M)||((lN (r_8.1.Stack)) != (lN (r_9.1.Stack)))))))))) an))⟩
     ·rcases bft (r_8.1.N != r_9.1.N) with yQ | yQ
      ·refine rg [(9,Hf),(16,Hf),(23,Hf),(30,Hf),(32,Hg),(33,Hg),(34,Hg),(35,Hg),(36,Hg),(37,Ht),(39,Hg),(40,Hg),(41,Hg),(42,Hg),(43,Hg),(44,Hg),(45,Hg),(46,Ht)] [3,104] [0] 4 [Pp 0,.bool true] [Vb 31 (yB l_1)] zF (ac zO (ac zO (ac zO (ac zO (ac zO (ac zO (ac zS (ac zS (ac zS (ac zS (ac zS (ac zS (ac yE (ac yE (ac yE (ac yE (ac yE (ac yE (ac yZ (ac yZ (ac yZ (ac yZ (ac yZ (ac yZ (ac yQ (ac yQ (ac yQ (ac yQ (ac yQ (ac yQ (ax (ax (ax (ax (ax (ax (ax (ar true an)))))))))))))))))))))))))))))))))))))) ?_
       exact ⟨rfl,(sw [0] [] [.s 3,.a 104 (.bool (!(r_8.2==r_9.2)||((r_8.1.At != r_9.1.At)||((r_8.1.Kind != r_9.1.Kind)||(!(r_8.1.Name==r_9.1.Name)||((r_8.1.N != r_9.1.N)||((r_8.1.M != r_9.1.M)||((lN (r_8.1.Stack)) != (lN (r_9.1.Stack))))))))))] [.s 0] (ac (congrArg AV.bool (orf zO (orf zS (orf yE (orf yZ (ort yQ))))):(.bool true:AV)=.bool (!(r_8.2==r_9.2)||((r_8.1.At != r_9.1.At)||((r_8.1.Kind != r_9.1.Kind)||(!(r_8.1.Name==r_9.1.Name)||((r_8.1.N != r_9.1.N)||((r_8.1.M != r_9.1.M)||((lN (r_8.1.Stack)) != (lN (r_9.1.Stack)))))))))) an))⟩
      ·rcases bft (r_8.1.M != r_9.1.M) with yS | yS
       ·refine rg [(9,Hf),(16,Hf),(23,Hf),(30,Hf),(37,Hf),(39,Hg),(40,Hg),(41,Hg),(42,Hg),(43,Hg),(44,Hg),(45,Hg),(46,Ht)] [3,104] [0] 4 [Pp 0,.bool true] [Vb 31 (yB l_1)] zF (ac zO (ac zO (ac zO (ac zO (ac zO (ac zO (ac zS (ac zS (ac zS (ac zS (ac zS (ac zS (ac yE (ac yE (ac yE (ac yE (ac yE (ac yE (ac yZ (ac yZ (ac yZ (ac yZ (ac yZ (ac yZ (ac yQ (ac yQ (ac yQ (ac yQ (ac yQ (ac yQ (ac yS (ac yS (ac yS (ac yS (ac yS (ac yS (ac yS (ac yS an)))))))))))))))))))))))))))))))))))))) ?_
        exact ⟨rfl,(sw [0] [] [.s 3,.a 104 (.bool (!(r_8.2==r_9.2)||((r_8.1.At != r_9.1.At)||((r_8.1.Kind != r_9.1.Kind)||(!(r_8.1.Name==r_9.1.Name)||((r_8.1.N != r_9.1.N)||((r_8.1.M != r_9.1.M)||((lN (r_8.1.Stack)) != (lN (r_9.1.Stack))))))))))] [.s 0] (ac (congrArg AV.bool (orf zO (orf zS (orf yE (orf yZ (orf yQ (ort yS)))))):(.bool true:AV)=.bool (!(r_8.2==r_9.2)||((r_8.1.At != r_9.1.At)||((r_8.1.Kind != r_9.1.Kind)||(!(r_8.1.Name==r_9.1.Name)||((r_8.1.N != r_9.1.N)||((r_8.1.M != r_9.1.M)||((lN (r_8.1.Stack)) != (lN (r_9.1.Stack)))))))))) an))⟩
       ·refine rg [(9,Hf),(16,Hf),(23,Hf),(30,Hf),(37,Hf),(41,{ n:=(r_8.1.Stack).length }),(44,{ n:=(r_9.1.Stack).length }),(46,Hf)] [3,104] [0] 4 [Pp 0,.bool ((lN (r_8.1.Stack)) != (lN (r_9.1.Stack)))] [Vb 31 (yB l_1)] zF (ac zO (ac zO (ac zO (ac zO (ac zO (ac zO (ac zS (ac zS (ac zS (ac zS (ac zS (ac zS (ac yE (ac yE (ac yE (ac yE (ac yE (ac yE (ac yZ (ac yZ (ac yZ (ac yZ (ac yZ (ac yZ (ac yQ (ac yQ (ac yQ (ac yQ (ac yQ (ac yQ (ac yS (ac yS (ac yS (ac (yF _:((Ms r_8.1.Stack)).length=(r_8.1.Stack).length) (ac yS (ac yS (ac yS (ac (yF _:((Ms r_9.1.Stack)).length=(r_9.1.Stack).length) (ac yS (ac yS an)))))))))))))))))))))))))))))))))))))))) ?_
        exact ⟨rfl,(sw [0] [] [.s 3,.a 104 (.bool (!(r_8.2==r_9.2)||((r_8.1.At != r_9.1.At)||((r_8.1.Kind != r_9.1.Kind)||(!(r_8.1.Name==r_9.1.Name)||((r_8.1.N != r_9.1.N)||((r_8.1.M != r_9.1.M)||((lN (r_8.1.Stack)) != (lN (r_9.1.Stack))))))))))] [.s 0] (ac (congrArg AV.bool (orf zO (orf zS (orf yE (orf yZ (orf yQ (orf yS rfl)))))):(.bool ((lN (r_8.1.Stack)) != (lN (r_9.1.Stack))):AV)=.bool (!(r_8.2==r_9.2)||((r_8.1.At != r_9.1.At)||((r_8.1.Kind != r_9.1.Kind)||(!(r_8.1.Name==r_9.1.Name)||((r_8.1.N != r_9.1.N)||((r_8.1.M != r_9.1.M)||((lN (r_8.1.Stack)) != (lN (r_9.1.Stack)))))))))) an))⟩
 refine cd 104 (!(r_8.2==r_9.2)||((r_8.1.At != r_9.1.At)||((r_8.1.Kind != r_9.1.Kind)||(!(r_8.1.Name==r_9.1.Name)||((r_8.1.N != r_9.1.N)||((r_8.1.M != r_9.1.M)||((lN (r_8.1.Stack)) != (lN (r_9.1.Stack))))))))) ?_ ?_
 ·intro g_3;replace h:=zR g_3 h
  refine sr [] [6] [] 1 [.bool false] [] zF an ?_
  refine rt ?_
  cases h
  exact ⟨.inr rfl,Nat.le_of_ble_eq_true rfl,by kernel_rfl⟩
 intro g_3;replace h:=zQ g_3 h
 refine sk ?_
 refine sq ?_
 obtain ⟨wS,zCd,h⟩:=bind_some h
 obtain ⟨vJ,zEV,h⟩:=bind_some h
 refine rg [(1,{ av:=.own 0 ((wS).length),ids:=[1],l:=[z4 l_1],post:=[(.row 50 3 (Mp z9 wS))] }),(3,{ av:=.own 0 ((vJ).length),ids:=[2],l:=[z4 l_1],post:=[(.row 50 3 (Mp z9 vJ))] })] [3,11,12] [0,1,2] 3 [Pp 0,.own 1 ((wS).length),.own 2 ((vJ).length)] [Vb 31 (yB l_1),Rb 50 3 (Mp z9 wS),Rb 50 3 (Mp z9 vJ)] zF (ar ([z4 l_1]:List AV) (ac (rfl:([]:List zW)=[]) (ac (zGp F l_1 wS zCd:zV prog 18 [] [] [z4 l_1] [(.row 50 3 (Mp z9 wS))] (.own 0 ((wS).length))) (ar ([z4 l_1]:List AV) (ac (rfl:([]:List zW)=[]) (ac (zLz F l_1 vJ zEV:zV prog 19 [] [] [z4 l_1] [(.row 50 3 (Mp z9 vJ))] (.own 0 ((vJ).length))) an)))))) ?_
 refine sq ?_
 obtain ⟨wH,zEW,h⟩:=bind_some h
 obtain ⟨wU,zDY,h⟩:=bind_some h
 refine rg [(1,{ av:=.own 0 ((wH).length),ids:=[3],l:=[z4 l_1],post:=[(.row 37 2 (Mp yA wH))] }),(3,{ av:=.own 0 ((wU).length),ids:=[4],l:=[z4 l_1],post:=[(.row 37 2 (Mp yA wU))] })] [11,12,13,14] [1,2,3,4] 5 [.own 1 ((wS).length),.own 2 ((vJ).length),.own 3 ((wH).length),.own 4 ((wU).length)] [Rb 50 3 (Mp z9 wS),Rb 50 3 (Mp z9 vJ),Rb 37 2 (Mp yA wH),Rb 37 2 (Mp yA wU)] zF (ar ([z4 l_1]:List AV) (ac (rfl:([]:List zW)=[]) (ac (zMD F l_1 wH zEW:zV prog 20 [] [] [z4 l_1] [(.row 37 2 (Mp yA wH))] (.own 0 ((wH).length))) (ar ([z4 l_1]:List AV) (ac (rfl:([]:List zW)=[]) (ac (zMU F l_1 wU zDY:zV prog 21 [] [] [z4 l_1] [(.row 37 2 (Mp yA wU))] (.own 0 ((wU).length))) an)))))) ?_
 refine sq ?_
 refine sq ?_
 refine y4 (mk [(11,.own 0 ((wS).length)),(12,.own 1 ((vJ).length)),(13,.own 2 ((wH).length)),(14,.own 3 ((wU).length)),(124,.bool (((lN (wS)) != (lN (vJ)))||((lN (wH)) != (lN (wU)))))] [(0,Rb 50 3 (Mp z9 wS)),(1,Rb 50 3 (Mp z9 vJ)),(2,Rb 37 2 (Mp yA wH)),(3,Rb 37 2 (Mp yA wU))] 4) ?_ ?_
 ·rcases bft ((lN (wS)) != (lN (vJ))) with xW | xW
  ·refine rg [(6,Hg),(7,Hg),(8,Hg),(9,Hg),(10,Hg),(11,Ht)] [11,12,13,14,124] [1,2,3,4] 5 [.own 1 ((wS).length),.own 2 ((vJ).length),.own 3 ((wH).length),.own 4 ((wU).length),.bool true] [Rb 50 3 (Mp z9 wS),Rb 50 3 (Mp z9 vJ),Rb 37 2 (Mp yA wH),Rb 37 2 (Mp yA wU)] zF (ac xW (ac xW (ac xW (ac xW (ac xW (ac xW an)))))) ?_
   exact ⟨rfl,(sw [1,2,3,4] [] [.s 11,.s 12,.s 13,.s 14,.a 124 (.bool (((lN (wS)) != (lN (vJ)))||((lN (wH)) != (lN (wU)))))] [.s 0,.s 1,.s 2,.s 3] (ac (congrArg AV.bool (ort xW):(.bool true:AV)=.bool (((lN (wS)) != (lN (vJ)))||((lN (wH)) != (lN (wU))))) an))⟩
  ·refine rg [(11,Hf)] [11,12,13,14,124] [1,2,3,4] 5 [.own 1 ((wS).length),.own 2 ((vJ).length),.own 3 ((wH).length),.own 4 ((wU).length),.bool ((lN (wH)) != (lN (wU)))] [Rb 50 3 (Mp z9 wS),Rb 50 3 (Mp z9 vJ),Rb 37 2 (Mp yA wH),Rb 37 2 (Mp yA wU)] zF (ac xW (ac xW (ac xW (ac xW (ac xW (ac xW an)))))) ?_
   exact ⟨rfl,(sw [1,2,3,4] [] [.s 11,.s 12,.s 13,.s 14,.a 124 (.bool (((lN (wS)) != (lN (vJ)))||((lN (wH)) != (lN (wU)))))] [.s 0,.s 1,.s 2,.s 3] (ac (congrArg AV.bool (orf xW rfl):(.bool ((lN (wH)) != (lN (wU))):AV)=.bool (((lN (wS)) != (lN (vJ)))||((lN (wH)) != (lN (wU))))) an))⟩
 refine cd 124 (((lN (wS)) != (lN (vJ)))||((lN (wH)) != (lN (wU)))) ?_ ?_
 ·intro g_4;replace h:=zR g_4 h
  refine sr [] [6] [] 4 [.bool false] [] zF an ?_
  refine rt ?_
  cases h
  exact ⟨.inr rfl,Nat.le_of_ble_eq_true rfl,by kernel_rfl⟩
 intro g_4;replace h:=zQ g_4 h
 refine sk ?_
 refine sq ?_
 refine sr [] [11,12,13,14,126,127] [0,1,2,3] 4 [.own 0 ((wS).length),.own 1 ((vJ).length),.own 2 ((wH).length),.own 3 ((wU).length),Ii (lN (wS)),Ii 0] [Rb 50 3 (Mp z9 wS),Rb 50 3 (Mp z9 vJ),Rb 37 2 (Mp yA wH),Rb 37 2 (Mp yA wU)] zF an ?_
 obtain ⟨o_1,h_16,h⟩:=bind_some h
 refine wI (K1:=(fun e st'=>match o_1 with | (.inl q0)=>e=.normal∧Sub 0 st' (mk [(13,.own 0 ((wH).length)),(14,.own 1 ((wU).length))] [(0,Rb 37 2 (Mp yA wH)),(1,Rb 37 2 (Mp yA wU))] 2) | (.inr q1)=>e=.ret∧uE prog Go.Proofs.Try.f4 0 [] (.bool q1) st')) ?_ ?_
 ·replace h:=h_16
  refine yD (id:=0) (by kernel_rfl) ?_
  refine wk [0,1,2,3] [] [.s 11,.s 12,.s 13,.s 14,.s 126,.s 127] [.s 0,.s 1,.s 2,.s 3] [(11,.own 0 ((wS).length)),(12,.own 1 ((vJ).length)),(13,.own 2 ((wH).length)),(14,.own 3 ((wU).length)),(126,Ii (lN (wS))),(127,Ii 0)] [(0,Rb 50 3 (Mp z9 wS)),(1,Rb 50 3 (Mp z9 vJ)),(2,Rb 37 2 (Mp yA wH)),(3,Rb 37 2 (Mp yA wU))] an ?_
  refine xI (fun n st=>∃ (v_1:Int),st=mk [(11,.own 0 ((wS).length)),(12,.own 1 ((vJ).length)),(13,.own 2 ((wH).length)),(14,.own 3 ((wU).length)),(126,Ii (lN (wS))),(127,Ii v_1)] [(0,Rb 50 3 (Mp z9 wS)),(1,Rb 50 3 (Mp z9 vJ)),(2,Rb 37 2 (Mp yA wH)),(3,Rb 37 2 (Mp yA wU))] 4∧jB F wS vJ n v_1=some o_1) F (by kernel_rfl) ⟨_,rfl,h⟩ ?_ ?_
  ·rintro _ ⟨_,_,h⟩;exact xN (h:(none:Option (Unit⊕Bool))=some o_1)
  rintro n_1 _ ⟨v_1,rfl,h⟩
  replace h:uI F wS vJ (jB F wS vJ n_1) v_1=some o_1:=h
  unfold uI at h
  refine sr [] [11,12,13,14,126,127,128] [0,1,2,3] 4 [.own 0 ((wS).length),.own 1 ((vJ).length),.own 2 ((wH).length),.own 3 ((wU).length),Ii (lN (wS)),Ii v_1,.bool (decide (v_1<(lN (wS))))] [Rb 50 3 (Mp z9 wS),Rb 50 3 (Mp z9 vJ),Rb 37 2 (Mp yA wH),Rb 37 2 (Mp yA wU)] zF an ?_
  refine sq ?_
  refine cd 128 (decide (v_1<(lN (wS)))) ?_ ?_
  rotate_left
  ·intro g_5;replace h:=zQ g_5 h
   refine xM (id:=0) (by kernel_rfl) ?_
   cases h
   exact ⟨rfl,(sw [2,3] [] [.s 13,.s 14] [.s 0,.s 1] an)⟩
  intro g_5;replace h:=zR g_5 h
  refine sk ?_
  refine sq ?_
  refine yD (id:=1) (by kernel_rfl) ?_
  refine sr [] [11,12,13,14,15,126,127] [0,1,2,3] 4 [.own 0 ((wS).length),.own 1 ((vJ).length),.own 2 ((wH).length),.own 3 ((wU).length),Ii v_1,Ii (lN (wS)),Ii v_1] [Rb 50 3 (Mp z9 wS),Rb 50 3 (Mp z9 vJ),Rb 37 2 (Mp yA wH),Rb 37 2 (Mp yA wU)] zF an ?_
  refine sq ?_
  obtain ⟨x_1,h_17,h⟩:=bind_some h
  obtain ⟨x_2,h_18,h⟩:=bind_some h
  refine rg [(3,{ av:=z9 x_1 }),(7,{ av:=z9 x_2 }),(8,{ b:=(decide (x_1=x_2)),mks:=[.int .i64,.int .i64,.int .i64] })] [11,12,13,14,126,127,138] [0,1,2,3] 4 [.own 0 ((wS).length),.own 1 ((vJ).length),.own 2 ((wH).length),.own 3 ((wU).length),Ii (lN (wS)),Ii v_1,.bool (!(decide (x_1=x_2)))] [Rb 50 3 (Mp z9 wS),Rb 50 3 (Mp z9 vJ),Rb 37 2 (Mp yA wH),Rb 37 2 (Mp yA wU)] zF (ac (pT h_17:(0:Int)≤v_1) (ac (by first | (simp;done) | simpa using pK h_17:v_1<(((wS).length:Nat):Int)) (ac (zAl h_17:(Mp z9 wS)[(v_1).toNat]?=some (z9 x_1)) (ac (pT h_18:(0:Int)≤v_1) (ac (by first | (simp;done) | simpa using pK h_18:v_1<(((vJ).length:Nat):Int)) (ac (zAl h_18:(Mp z9 vJ)[(v_1).toNat]?=some (z9 x_2)) (ac (zCV:jG prog 50 [.int .i64,.int .i64,.int .i64]) (ac (kC (f:=z9) j9 x_1 x_2:((decide (x_1=x_2))=true↔AV.agg [Ii x_1.Thread,Ii x_1.Serial,Ii x_1.Count]=AV.agg [Ii x_2.Thread,Ii x_2.Serial,Ii x_2.Count])) an)))))))) ?_
  refine cd 138 (!(decide (x_1=x_2))) ?_ ?_
  rotate_left
  ·intro g_6;replace h:=zQ g_6 h
   refine sk ?_
   refine rg [] [11,12,13,14,126,127] [0,1,2,3] 4 [.own 0 ((wS).length),.own 1 ((vJ).length),.own 2 ((wH).length),.own 3 ((wU).length),Ii (lN (wS)),Ii (zP (v_1+(1:Int)))] [Rb 50 3 (Mp z9 wS),Rb 50 3 (Mp z9 vJ),Rb 37 2 (Mp yA wH),Rb 37 2 (Mp yA wU)] zF an ?_
   exact ⟨_,(sw [0,1,2,3] [] [.s 11,.s 12,.s 13,.s 14,.s 126,.s 127] [.s 0,.s 1,.s 2,.s 3] an),_,rfl,h⟩
  intro g_6;replace h:=zR g_6 h
  refine sr [] [6] [] 4 [.bool false] [] zF an ?_
  refine rt ?_
  cases h
  exact ⟨rfl,Nat.le_of_ble_eq_true rfl,by kernel_rfl⟩
 intro e st1 hk
 rcases o_1 with q_1 | q_2
 rotate_left
 ·obtain ⟨rfl,hf⟩:=hk
  cases h
  exact ⟨st1,Sub.refl _ _,.inr rfl,hf⟩
 obtain ⟨rfl,hs⟩:=hk
 refine ⟨_,hs,?_⟩
 refine sq ?_
 refine sr [] [13,14,141,142] [0,1] 2 [.own 0 ((wH).length),.own 1 ((wU).length),Ii (lN (wH)),Ii 0] [Rb 37 2 (Mp yA wH),Rb 37 2 (Mp yA wU)] zF an ?_
 obtain ⟨o_2,h_19,h⟩:=bind_some h
 refine wI (K1:=(fun e st'=>match o_2 with | (.inl q0)=>e=.normal∧Sub 0 st' (mk [] [] 0) | (.inr q1)=>e=.ret∧uE prog Go.Proofs.Try.f4 0 [] (.bool q1) st')) ?_ ?_
 ·replace h:=h_19
  refine yD (id:=2) (by kernel_rfl) ?_
  refine wk [0,1] [] [.s 13,.s 14,.s 141,.s 142] [.s 0,.s 1] [(13,.own 0 ((wH).length)),(14,.own 1 ((wU).length)),(141,Ii (lN (wH))),(142,Ii 0)] [(0,Rb 37 2 (Mp yA wH)),(1,Rb 37 2 (Mp yA wU))] an ?_
  refine xI (fun n st=>∃ (v_2:Int),st=mk [(13,.own 0 ((wH).length)),(14,.own 1 ((wU).length)),(141,Ii (lN (wH))),(142,Ii v_2)] [(0,Rb 37 2 (Mp yA wH)),(1,Rb 37 2 (Mp yA wU))] 2∧q9 F wH wU n v_2=some o_2) F (by kernel_rfl) ⟨_,rfl,h⟩ ?_ ?_
  ·rintro _ ⟨_,_,h⟩;exact xN (h:(none:Option (Unit⊕Bool))=some o_2)
  rintro n_2 _ ⟨v_2,rfl,h⟩
  replace h:uH F wH wU (q9 F wH wU n_2) v_2=some o_2:=h
  unfold uH at h
  refine sr [] [13,14,141,142,143] [0,1] 2 [.own 0 ((wH).length),.own 1 ((wU).length),Ii (lN (wH)),Ii v_2,.bool (decide (v_2<(lN (wH))))] [Rb 37 2 (Mp yA wH),Rb 37 2 (Mp yA wU)] zF an ?_
  refine sq ?_
  refine cd 143 (decide (v_2<(lN (wH)))) ?_ ?_
  rotate_left
  ·intro g_7;replace h:=zQ g_7 h
   refine xM (id:=2) (by kernel_rfl) ?_
   cases h
   exact ⟨rfl,(sw [] [] [] [] an)⟩
  intro g_7;replace h:=zR g_7 h
  refine sk ?_
  refine sq ?_
  refine yD (id:=3) (by kernel_rfl) ?_
  refine sr [] [13,14,16,141,142] [0,1] 2 [.own 0 ((wH).length),.own 1 ((wU).length),Ii v_2,Ii (lN (wH)),Ii v_2] [Rb 37 2 (Mp yA wH),Rb 37 2 (Mp yA wU)] zF an ?_
  refine sq ?_
  obtain ⟨x_3,zFR,h⟩:=bind_some h
  obtain ⟨x_4,zDZ,h⟩:=bind_some h
  refine rg [(3,{ av:=yA x_3 }),(7,{ av:=yA x_4 }),(8,{ b:=(decide (x_3=x_4)),mks:=[.int .i64,.int .i64] })] [13,14,141,142,153] [0,1] 2 [.own 0 ((wH).length),.own 1 ((wU).length),Ii (lN (wH)),Ii v_2,.bool (!(decide (x_3=x_4)))] [Rb 37 2 (Mp yA wH),Rb 37 2 (Mp yA wU)] zF (ac (pT zFR:(0:Int)≤v_2) (ac (by first | (simp;done) | simpa using pK zFR:v_2<(((wH).length:Nat):Int)) (ac (zAl zFR:(Mp yA wH)[(v_2).toNat]?=some (yA x_3)) (ac (pT zDZ:(0:Int)≤v_2) (ac (by first | (simp;done) | simpa using pK zDZ:v_2<(((wU).length:Nat):Int)) (ac (zAl zDZ:(Mp yA wU)[(v_2).toNat]?=some (yA x_4)) (ac (zPs:jG prog 37 [.int .i64,.int .i64]) (ac (kC (f:=yA) zKl x_3 x_4:((decide (x_3=x_4))=true↔AV.agg [Ii x_3.Thread,Ii x_3.Serial]=AV.agg [Ii x_4.Thread,Ii x_4.Serial])) an)))))))) ?_
  refine cd 153 (!(decide (x_3=x_4))) ?_ ?_
  rotate_left
  ·intro g_8;replace h:=zQ g_8 h
   refine sk ?_
   refine rg [] [13,14,141,142] [0,1] 2 [.own 0 ((wH).length),.own 1 ((wU).length),Ii (lN (wH)),Ii (zP (v_2+(1:Int)))] [Rb 37 2 (Mp yA wH),Rb 37 2 (Mp yA wU)] zF an ?_
   exact ⟨_,(sw [0,1] [] [.s 13,.s 14,.s 141,.s 142] [.s 0,.s 1] an),_,rfl,h⟩
  intro g_8;replace h:=zR g_8 h
  refine sr [] [6] [] 2 [.bool false] [] zF an ?_
  refine rt ?_
  cases h
  exact ⟨rfl,Nat.le_of_ble_eq_true rfl,by kernel_rfl⟩
 intro e st1 hk
 rcases o_2 with q_3 | q_4
 rotate_left
 ·obtain ⟨rfl,hf⟩:=hk
  cases h
  exact ⟨st1,Sub.refl _ _,.inr rfl,hf⟩
 obtain ⟨rfl,hs⟩:=hk
 refine ⟨_,hs,?_⟩
 refine sq ?_
 obtain ⟨r_14,h_22,h⟩:=bind_some h
 refine rg [(0,{ av:=.bool r_14,l:=[] })] [6] [] 0 [.bool r_14] [] zF (ar ([]:List AV) (ac (rfl:([]:List zW)=[]) (ac (zFB F r_14 h_22:zV prog 9 [] [] [] [] (.bool r_14)) an))) ?_
 refine rt ?_
 cases h
 exact ⟨.inr rfl,Nat.le_of_ble_eq_true rfl,by kernel_rfl⟩
end Go.Ab
