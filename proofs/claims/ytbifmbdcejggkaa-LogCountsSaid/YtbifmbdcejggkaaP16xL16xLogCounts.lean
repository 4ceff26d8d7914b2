/- Printed: the typed Lean functions of the Go functions, or the proofs that the Go functions meet them. No conditions but those that the theorems name. -/
import Derived.Test.YtbifmbdcejggkaaP16x3
namespace Go.Ab
open Go
set_option linter.unusedVariables false
theorem zFg (F:Nat) (h_1:zR) (l_1:List (zB)) (zU:Int) (r:Bool) (h:qF F h_1 l_1 zU=some r):zV prog 5 [] [] [xO h_1,.sl false 4 (Mp zA l_1),Ii zU] [] (.bool r):=by
 refine yM (fn:=Go.Proofs.Try.f5) (code:=x4 Go.Proofs.Try.f5) (by kernel_rfl) (by kernel_rfl) (Nat.le_of_ble_eq_true (by kernel_rfl)) ?_
 unfold qF at h
 refine sr [(0,{ id:=0 })] [1,2,3] [0] 1 [.sl false 4 (Mp zA l_1),Ii zU,Pp 0] [Vb 26 (z0 h_1)] zG an ?_
 refine sq ?_
 refine sq ?_
 obtain ⟨p_1,h_4,h⟩:=bind_some h
 refine wI (mk [(1,.sl false 4 (Mp zA l_1)),(2,Ii zU),(3,Pp 0),(31,.bool p_1)] [(0,Vb 26 (z0 h_1))] 1) ?_ ?_
 ·replace h:=h_4
  obtain ⟨r_1,h_2,h⟩:=bind_some h
  rcases bft (!r_1) with zK | zK
  ·replace h:=zS zK h
   refine rg [(2,{ av:=.bool r_1,l:=[xO h_1,.sl false 4 (Mp zA l_1)] }),(5,Hg),(6,Hg),(7,Hg),(8,Ht)] [1,2,3,31] [0] 1 [.sl false 4 (Mp zA l_1),Ii zU,Pp 0,.bool true] [Vb 26 (z0 h_1)] zG (ar ([xO h_1,.sl false 4 (Mp zA l_1)]:List AV) (ac (rfl:([]:List zN)=[]) (ac (zDO F h_1 l_1 r_1 h_2:zV prog 8 [] [] [xO h_1,.sl false 4 (Mp zA l_1)] [] (.bool r_1)) (ac zK (ac zK (ac zK (ac zK an))))))) ?_
   cases h
   exact ⟨rfl,(sw [0] [] [.s 1,.s 2,.s 3,.s 31] [.s 0] an)⟩
  ·replace h:=zT zK h
   obtain ⟨r_2,h_3,h⟩:=bind_some h
   refine rg [(2,{ av:=.bool r_1,l:=[xO h_1,.sl false 4 (Mp zA l_1)] }),(6,{ av:=Ii r_2,l:=[.sl false 4 (Mp zA l_1)] }),(8,Hf)] [1,2,3,31] [0] 1 [.sl false 4 (Mp zA l_1),Ii zU,Pp 0,.bool (decide (r_2>(300:Int)))] [Vb 26 (z0 h_1)] zG (ar ([xO h_1,.sl false 4 (Mp zA l_1)]:List AV) (ac (rfl:([]:List zN)=[]) (ac (zDO F h_1 l_1 r_1 h_2:zV prog 8 [] [] [xO h_1,.sl false 4 (Mp zA l_1)] [] (.bool r_1)) (ac zK (ac zK (ar ([.sl false 4 (Mp zA l_1)]:List AV) (ac (rfl:([]:List zN)=[]) (ac (zHo F l_1 r_2 h_3:zV prog 22 [] [] [.sl false 4 (Mp zA l_1)] [] (Ii r_2)) (ac zK (ac zK an)))))))))) ?_
   cases h
   exact ⟨rfl,(sw [0] [] [.s 1,.s 2,.s 3,.s 31] [.s 0] an)⟩
 refine cd 31 p_1 ?_ ?_
 ·intro g_1;replace h:=zS g_1 h
  refine sq ?_
  obtain ⟨r_3,h_5,h⟩:=bind_some h
  refine rg [(0,{ av:=.bool r_3,l:=[] })] [6] [] 1 [.bool r_3] [] zG (ar ([]:List AV) (ac (rfl:([]:List zN)=[]) (ac (zAz F r_3 h_5:zV prog 9 [] [] [] [] (.bool r_3)) an))) ?_
  refine rt ?_
  cases h
  exact ⟨.inr rfl,Nat.le_of_ble_eq_true rfl,by kernel_rfl⟩
 intro g_1;replace h:=zT g_1 h
 refine sk ?_
 refine sq ?_
 obtain ⟨r_4,h_6,h⟩:=bind_some h
 refine rg [(2,{ av:=.tuple [yH r_4.1,Ii r_4.2],l:=[xO h_1,.sl false 4 (Mp zA l_1)] }),(6,{ id:=1 })] [1,2,7,8] [1] 2 [.sl false 4 (Mp zA l_1),Ii zU,Pp 1,Ii r_4.2] [Vb 31 (yB r_4.1)] zG (ar ([xO h_1,.sl false 4 (Mp zA l_1)]:List AV) (ac (rfl:([]:List zN)=[]) (ac (zBm F h_1 l_1 r_4 h_6:zV prog 10 [] [] [xO h_1,.sl false 4 (Mp zA l_1)] [] (.tuple [yH r_4.1,Ii r_4.2])) an))) ?_
 refine sq ?_
 refine sr [] [1,2,7,40] [1] 2 [.sl false 4 (Mp zA l_1),Ii zU,Pp 1,.bool (r_4.2 != (0:Int))] [Vb 31 (yB r_4.1)] zG an ?_
 refine cd 40 (r_4.2 != (0:Int)) ?_ ?_
 ·intro g_2;replace h:=zS g_2 h
  refine sq ?_
  obtain ⟨r_5,h_7,h⟩:=bind_some h
  refine rg [(0,{ av:=.bool r_5,l:=[] })] [6] [] 2 [.bool r_5] [] zG (ar ([]:List AV) (ac (rfl:([]:List zN)=[]) (ac (zAz F r_5 h_7:zV prog 9 [] [] [] [] (.bool r_5)) an))) ?_
  refine rt ?_
  cases h
  exact ⟨.inr rfl,Nat.le_of_ble_eq_true rfl,by kernel_rfl⟩
 intro g_2;replace h:=zT g_2 h
 refine sk ?_
 refine sq ?_
 obtain ⟨r_6,h_8,h⟩:=bind_some h
 refine rg [(2,{ av:=.tuple [Ii r_6.1,Ii r_6.2],l:=[.sl false 4 (Mp zA l_1),Ii zU] })] [2,7,9] [1] 2 [Ii zU,Pp 1,Ii r_6.1] [Vb 31 (yB r_4.1)] zG (ar ([.sl false 4 (Mp zA l_1),Ii zU]:List AV) (ac (rfl:([]:List zN)=[]) (ac (zKO F l_1 zU r_6 h_8:zV prog 23 [] [] [.sl false 4 (Mp zA l_1),Ii zU] [] (.tuple [Ii r_6.1,Ii r_6.2])) an))) ?_
 refine sq ?_
 refine sq ?_
 refine wI (mk [(2,Ii zU),(7,Pp 0),(9,Ii r_6.1),(53,.bool (decide (r_6.1<(0:Int))||decide (r_6.1>(5000:Int))))] [(0,Vb 31 (yB r_4.1))] 1) ?_ ?_
 ·rcases bft (decide (r_6.1<(0:Int))) with zI | zI
  ·refine rg [(3,Hg),(4,Hg),(5,Ht)] [2,7,9,53] [1] 2 [Ii zU,Pp 1,Ii r_6.1,.bool true] [Vb 31 (yB r_4.1)] zG (ac zI (ac zI (ac zI an))) ?_
   exact ⟨rfl,(sw [1] [] [.s 2,.s 7,.s 9,.a 53 (.bool (decide (r_6.1<(0:Int))||decide (r_6.1>(5000:Int))))] [.s 0] (ac (congrArg AV.bool (ort zI):(.bool true:AV)=.bool (decide (r_6.1<(0:Int))||decide (r_6.1>(5000:Int)))) an))⟩
  ·refine rg [(5,Hf)] [2,7,9,53] [1] 2 [Ii zU,Pp 1,Ii r_6.1,.bool (decide (r_6.1>(5000:Int)))] [Vb 31 (yB r_4.1)] zG (ac zI (ac zI (ac zI an))) ?_
   exact ⟨rfl,(sw [1] [] [.s 2,.s 7,.s 9,.a 53 (.bool (decide (r_6.1<(0:Int))||decide (r_6.1>(5000:Int))))] [.s 0] (ac (congrArg AV.bool (orf zI rfl):(.bool (decide (r_6.1>(5000:Int))):AV)=.bool (decide (r_6.1<(0:Int))||decide (r_6.1>(5000:Int)))) an))⟩
 refine cd 53 (decide (r_6.1<(0:Int))||decide (r_6.1>(5000:Int))) ?_ ?_
 ·intro g_3;replace h:=zS g_3 h
  refine sq ?_
  obtain ⟨r_7,h_9,h⟩:=bind_some h
  refine rg [(0,{ av:=.bool r_7,l:=[] })] [6] [] 1 [.bool r_7] [] zG (ar ([]:List AV) (ac (rfl:([]:List zN)=[]) (ac (zAz F r_7 h_9:zV prog 9 [] [] [] [] (.bool r_7)) an))) ?_
  refine rt ?_
  cases h
  exact ⟨.inr rfl,Nat.le_of_ble_eq_true rfl,by kernel_rfl⟩
 intro g_3;replace h:=zT g_3 h
 refine sk ?_
 refine sq ?_
 obtain ⟨_,qJ,h⟩:=bind_some h;replace qJ:=vF qJ
 refine rg [(1,{ id:=1,l:=(Mi (List.replicate ((r_6.1).toNat) (0:Int))),m:=(r_6.1).toNat,n:=(r_6.1).toNat })] [2,7,9,11] [0,1] 2 [Ii zU,Pp 0,Ii r_6.1,.own 1 ((r_6.1).toNat)] [Vb 31 (yB r_4.1),Rb 3 1 (Mi (List.replicate ((r_6.1).toNat) (0:Int)))] zG (ac ((Int.toNat_of_nonneg qJ.1).symm:r_6.1=(((r_6.1).toNat:Nat):Int)) (ac ((Int.toNat_of_nonneg qJ.1).symm:r_6.1=(((r_6.1).toNat:Nat):Int)) (ac (Nat.le_refl _:((r_6.1).toNat)≤((r_6.1).toNat)) (ac qJ.2 (ac (zN6:(Mi (List.replicate ((r_6.1).toNat) (0:Int)))=List.replicate ((r_6.1).toNat) (Ii 0)) an))))) ?_
 refine sq ?_
 refine sq ?_
 obtain ⟨r_8,qR,h⟩:=bind_some h
 refine rg [(1,{ av:=.own 0 ((r_8).length),ids:=[2],l:=[yH r_4.1],post:=[(.row 37 2 (Mp yS r_8))] })] [2,7,9,11,58,59,60] [0,1,2] 3 [Ii zU,Pp 0,Ii r_6.1,.own 1 ((r_6.1).toNat),.own 2 ((r_8).length),Ii (lN (r_8)),Ii 0] [Vb 31 (yB r_4.1),Rb 3 1 (Mi (List.replicate ((r_6.1).toNat) (0:Int))),Rb 37 2 (Mp yS r_8)] zG (ar ([yH r_4.1]:List AV) (ac (rfl:([]:List zN)=[]) (ac (zJ6 F r_4.1 r_8 qR:zV prog 20 [] [] [yH r_4.1] [(.row 37 2 (Mp yS r_8))] (.own 0 ((r_8).length))) an))) ?_
 obtain ⟨o_1,zFl,h⟩:=bind_some h
 refine vV (K1:=(fun e st'=>match o_1 with | (.inl q0)=>e=.normal∧Sub 0 st' (mk [(2,Ii zU),(7,Pp 0),(9,Ii r_6.1),(11,.own 1 ((q0).length))] [(0,Vb 31 (yB r_4.1)),(1,Rb 3 1 (Mi q0))] 2) | (.inr q1)=>e=.ret∧q9 prog Go.Proofs.Try.f5 0 [] (.bool q1) st')) ?_ ?_
 ·replace h:=zFl
  refine yN (id:=0) (by kernel_rfl) ?_
  refine wk [0,1,2] [] [.s 2,.s 7,.s 9,.a 11 (.own 1 (((List.replicate ((r_6.1).toNat) (0:Int))).length)),.s 58,.s 59,.s 60] [.s 0,.s 1,.s 2] [(2,Ii zU),(7,Pp 0),(9,Ii r_6.1),(11,.own 1 (((List.replicate ((r_6.1).toNat) (0:Int))).length)),(58,.own 2 ((r_8).length)),(59,Ii (lN (r_8))),(60,Ii 0)] [(0,Vb 31 (yB r_4.1)),(1,Rb 3 1 (Mi (List.replicate ((r_6.1).toNat) (0:Int)))),(2,Rb 37 2 (Mp yS r_8))] (ac (congrArg (AV.own _) List.length_replicate.symm:(.own 1 ((r_6.1).toNat):AV)=.own 1 (((List.replicate ((r_6.1).toNat) (0:Int))).length)) an) ?_
  refine wE (fun n st=>∃ (v_1:Int),∃ (zC:List Int),st=mk [(2,Ii zU),(7,Pp 0),(9,Ii r_6.1),(11,.own 1 ((zC).length)),(58,.own 2 ((r_8).length)),(59,Ii (lN (r_8))),(60,Ii v_1)] [(0,Vb 31 (yB r_4.1)),(1,Rb 3 1 (Mi zC)),(2,Rb 37 2 (Mp yS r_8))] 3∧tW F zU r_4 r_6 r_8 n v_1 zC=some o_1) F (by kernel_rfl) ⟨_,_,rfl,h⟩ ?_ ?_
  ·rintro _ ⟨_,_,_,h⟩;exact wO (h:(none:Option ((List Int)⊕Bool))=some o_1)
  rintro n_1 _ ⟨v_1,zC,rfl,h⟩
  replace h:u7 F zU r_4 r_6 r_8 (tW F zU r_4 r_6 r_8 n_1) v_1 zC=some o_1:=h
  unfold u7 at h
  refine sr [] [2,7,9,11,58,59,60,61] [0,1,2] 3 [Ii zU,Pp 0,Ii r_6.1,.own 1 ((zC).length),.own 2 ((r_8).length),Ii (lN (r_8)),Ii v_1,.bool (decide (v_1<(lN (r_8))))] [Vb 31 (yB r_4.1),Rb 3 1 (Mi zC),Rb 37 2 (Mp yS r_8)] zG an ?_
  refine sq ?_
  refine cd 61 (decide (v_1<(lN (r_8)))) ?_ ?_
  rotate_left
  ·intro g_4;replace h:=zT g_4 h
   refine wJ (id:=0) (by kernel_rfl) ?_
   cases h
   exact ⟨rfl,(sw [0,1] [] [.s 2,.s 7,.s 9,.s 11] [.s 0,.s 1] an)⟩
  intro g_4;replace h:=zS g_4 h
  refine sk ?_
  refine sq ?_
  refine yN (id:=1) (by kernel_rfl) ?_
  refine sq ?_
  obtain ⟨x_1,h_13,h⟩:=bind_some h
  refine rg [(1,{ av:=yS x_1 }),(2,{ id:=3 })] [2,7,9,11,13,58,59,60] [0,1,2,3] 4 [Ii zU,Pp 0,Ii r_6.1,.own 1 ((zC).length),Pp 3,.own 2 ((r_8).length),Ii (lN (r_8)),Ii v_1] [Vb 31 (yB r_4.1),Rb 3 1 (Mi zC),Rb 37 2 (Mp yS r_8),Vb 37 (wY x_1)] zG (ac (qB h_13:(0:Int)≤v_1) (ac (by first | (simp;done) | simpa using qC h_13:v_1<(((r_8).length:Nat):Int)) (ac (jI h_13:(Mp yS r_8)[(v_1).toNat]?=some (yS x_1)) an))) ?_
  refine sq ?_
  refine sr [] [2,7,9,11,13,58,59,60,67] [0,1,2,3] 4 [Ii zU,Pp 0,Ii r_6.1,.own 1 ((zC).length),Pp 3,.own 2 ((r_8).length),Ii (lN (r_8)),Ii v_1,.bool (x_1.Thread != zU)] [Vb 31 (yB r_4.1),Rb 3 1 (Mi zC),Rb 37 2 (Mp yS r_8),Vb 37 (wY x_1)] zG an ?_
  refine cd 67 (x_1.Thread != zU) ?_ ?_
  ·intro g_5;replace h:=zS g_5 h
   refine wJ (id:=1) (by kernel_rfl) ?_
   refine rg [] [2,7,9,11,58,59,60] [0,1,2] 4 [Ii zU,Pp 0,Ii r_6.1,.own 1 ((zC).length),.own 2 ((r_8).length),Ii (lN (r_8)),Ii (zJ (v_1+(1:Int)))] [Vb 31 (yB r_4.1),Rb 3 1 (Mi zC),Rb 37 2 (Mp yS r_8)] zG an ?_
   exact ⟨_,(sw [0,1,2] [] [.s 2,.s 7,.s 9,.s 11,.s 58,.s 59,.s 60] [.s 0,.s 1,.s 2] an),_,_,rfl,h⟩
  intro g_5;replace h:=zT g_5 h
  refine sk ?_
  refine sq ?_
  refine sq ?_
  obtain ⟨r_9,h_14,h⟩:=bind_some h
  refine rg [(2,{ av:=.tuple [zE r_9.1,.bool r_9.2],l:=[yH r_4.1,yS x_1] }),(6,{ id:=4 })] [2,7,9,11,13,15,58,59,60] [0,1,2,3] 5 [Ii zU,Pp 0,Ii r_6.1,.own 1 ((zC).length),Pp 3,.bool r_9.2,.own 2 ((r_8).length),Ii (lN (r_8)),Ii v_1] [Vb 31 (yB r_4.1),Rb 3 1 (Mi zC),Rb 37 2 (Mp yS r_8),Vb 37 (wY x_1)] zG (ar ([yH r_4.1,yS x_1]:List AV) (ac (rfl:([]:List zN)=[]) (ac (zC4 F r_4.1 x_1 r_9 h_14:zV prog 16 [] [] [yH r_4.1,yS x_1] [] (.tuple [zE r_9.1,.bool r_9.2])) an))) ?_
  refine sq ?_
  refine wI (mk [(2,Ii zU),(7,Pp 0),(9,Ii r_6.1),(11,.own 1 ((zC).length)),(13,Pp 2),(58,.own 3 ((r_8).length)),(59,Ii (lN (r_8))),(60,Ii v_1),(86,.bool (!r_9.2||(decide (x_1.Serial<(0:Int))||decide (x_1.Serial≥r_6.1))))] [(0,Vb 31 (yB r_4.1)),(1,Rb 3 1 (Mi zC)),(2,Vb 37 (wY x_1)),(3,Rb 37 2 (Mp yS r_8))] 4) ?_ ?_
  ·rcases bft (!r_9.2) with wF | wF
   ·refine rg [(3,Hg),(4,Hg),(5,Hg),(6,Ht),(8,Hg),(9,Hg),(10,Hg),(11,Hg),(12,Ht)] [2,7,9,11,13,58,59,60,77,78,79,82,83,84,85,86] [0,1,2,3] 5 [Ii zU,Pp 0,Ii r_6.1,.own 1 ((zC).length),Pp 3,.own 2 ((r_8).length),Ii (lN (r_8)),Ii v_1,.tuple [],.tuple [],.tuple [],.tuple [],.tuple [],.tuple [],.tuple [],.bool true] [Vb 31 (yB r_4.1),Rb 3 1 (Mi zC),Rb 37 2 (Mp yS r_8),Vb 37 (wY x_1)] zG (ac wF (ac wF (ac wF (ac wF (ax (ax (ax (ax (ar true an))))))))) ?_
    exact ⟨rfl,(sw [0,1,3,2] [] [.s 2,.s 7,.s 9,.s 11,.s 13,.s 58,.s 59,.s 60,.a 86 (.bool (!r_9.2||(decide (x_1.Serial<(0:Int))||decide (x_1.Serial≥r_6.1))))] [.s 0,.s 1,.s 2,.s 3] (ac (congrArg AV.bool (ort wF):(.bool true:AV)=.bool (!r_9.2||(decide (x_1.Serial<(0:Int))||decide (x_1.Serial≥r_6.1)))) an))⟩
   ·rcases bft (decide (x_1.Serial<(0:Int))) with y9 | y9
    ·refine rg [(6,Hf),(8,Hg),(9,Hg),(10,Hg),(11,Hg),(12,Ht)] [2,7,9,11,13,58,59,60,77,78,79,82,83,84,85,86] [0,1,2,3] 5 [Ii zU,Pp 0,Ii r_6.1,.own 1 ((zC).length),Pp 3,.own 2 ((r_8).length),Ii (lN (r_8)),Ii v_1,.ptr 3 0 0 1,Ii x_1.Serial,.bool (decide (x_1.Serial<(0:Int))),.tuple [],.tuple [],.tuple [],.tuple [],.bool true] [Vb 31 (yB r_4.1),Rb 3 1 (Mi zC),Rb 37 2 (Mp yS r_8),Vb 37 (wY x_1)] zG (ac wF (ac wF (ac wF (ac wF (ac y9 (ac y9 (ac y9 (ac y9 (ac y9 an))))))))) ?_
     exact ⟨rfl,(sw [0,1,3,2] [] [.s 2,.s 7,.s 9,.s 11,.s 13,.s 58,.s 59,.s 60,.a 86 (.bool (!r_9.2||(decide (x_1.Serial<(0:Int))||decide (x_1.Serial≥r_6.1))))] [.s 0,.s 1,.s 2,.s 3] (ac (congrArg AV.bool (orf wF (ort y9)):(.bool true:AV)=.bool (!r_9.2||(decide (x_1.Serial<(0:Int))||decide (x_1.Serial≥r_6.1)))) an))⟩
    ·refine rg [(6,Hf),(12,Hf)] [2,7,9,11,13,58,59,60,77,78,79,82,83,84,85,86] [0,1,2,3] 5 [Ii zU,Pp 0,Ii r_6.1,.own 1 ((zC).length),Pp 3,.own 2 ((r_8).length),Ii (lN (r_8)),Ii v_1,.ptr 3 0 0 1,Ii x_1.Serial,.bool (decide (x_1.Serial<(0:Int))),.ptr 3 0 0 1,Ii x_1.Serial,Ii r_6.1,.bool (decide (x_1.Serial≥r_6.1)),.bool (decide (x_1.Serial≥r_6.1))] [Vb 31 (yB r_4.1),Rb 3 1 (Mi zC),Rb 37 2 (Mp yS r_8),Vb 37 (wY x_1)] zG (ac wF (ac wF (ac wF (ac wF (ac y9 (ac y9 (ac y9 (ac y9 (ac y9 an))))))))) ?_
     exact ⟨rfl,(sw [0,1,3,2] [] [.s 2,.s 7,.s 9,.s 11,.s 13,.s 58,.s 59,.s 60,.a 86 (.bool (!r_9.2||(decide (x_1.Serial<(0:Int))||decide (x_1.Serial≥r_6.1))))] [.s 0,.s 1,.s 2,.s 3] (ac (congrArg AV.bool (orf wF (orf y9 rfl)):(.bool (decide (x_1.Serial≥r_6.1)):AV)=.bool (!r_9.2||(decide (x_1.Serial<(0:Int))||decide (x_1.Serial≥r_6.1)))) an))⟩
  refine cd 86 (!r_9.2||(decide (x_1.Serial<(0:Int))||decide (x_1.Serial≥r_6.1))) ?_ ?_
  ·intro g_6;replace h:=zS g_6 h
   refine sr [] [6] [] 4 [.bool false] [] zG an ?_
   refine rt ?_
   cases h
   exact ⟨rfl,Nat.le_of_ble_eq_true rfl,by kernel_rfl⟩
  intro g_6;replace h:=zT g_6 h
  refine sk ?_
  obtain ⟨x_2,h_15,h⟩:=bind_some h
  obtain ⟨x_3,h_16,h⟩:=bind_some h
  refine rg [(4,{ av:=Ii x_2 }),(7,{ av:=Ii x_3,l:=(Mi ((zC).set ((x_1.Serial).toNat) (zJ (x_2+(1:Int))))) })] [2,7,9,11,58,59,60] [0,1,3] 4 [Ii zU,Pp 0,Ii r_6.1,.own 1 ((zC).length),.own 3 ((r_8).length),Ii (lN (r_8)),Ii v_1] [Vb 31 (yB r_4.1),Rb 3 1 (Mi ((zC).set ((x_1.Serial).toNat) (zJ (x_2+(1:Int))))),Rb 37 2 (Mp yS r_8)] zG (ac (qB h_15:(0:Int)≤x_1.Serial) (ac (by first | (simp;done) | simpa using qC h_15:x_1.Serial<(((zC).length:Nat):Int)) (ac (jI h_15:(Mi zC)[(x_1.Serial).toNat]?=some (Ii x_2)) (ac (qB h_16:(0:Int)≤x_1.Serial) (ac (by first | (simp;done) | simpa using qC h_16:x_1.Serial<(((zC).length:Nat):Int)) (ac (jI h_16:(Mi zC)[(x_1.Serial).toNat]?=some (Ii x_3)) (ac (zLA _ _ _:(Mi ((zC).set ((x_1.Serial).toNat) (zJ (x_2+(1:Int)))))=List.set (Mi zC) ((x_1.Serial).toNat) (zBJ (Ii x_3) 0 [Ii (zJ (x_2+(1:Int)))])) an))))))) ?_
  refine rg [] [2,7,9,11,58,59,60] [0,1,3] 4 [Ii zU,Pp 0,Ii r_6.1,.own 1 ((zC).length),.own 3 ((r_8).length),Ii (lN (r_8)),Ii (zJ (v_1+(1:Int)))] [Vb 31 (yB r_4.1),Rb 3 1 (Mi ((zC).set ((x_1.Serial).toNat) (zJ (x_2+(1:Int))))),Rb 37 2 (Mp yS r_8)] zG an ?_
  exact ⟨_,(sw [0,1,3] [] [.s 2,.s 7,.s 9,.a 11 (.own 1 (((zC).set ((x_1.Serial).toNat) (zJ (x_2+(1:Int)))).length)),.s 58,.s 59,.s 60] [.s 0,.s 1,.s 2] (ac (congrArg (AV.own _) (by first | (simp;done) | (simp;omega)):(.own 1 ((zC).length):AV)=.own 1 (((zC).set ((x_1.Serial).toNat) (zJ (x_2+(1:Int)))).length)) an)),_,_,rfl,h⟩
 intro e st1 hk
 rcases o_1 with q_1 | q_2
 rotate_left
 ·obtain ⟨rfl,hf⟩:=hk
  cases h
  exact ⟨st1,Sub.refl _ _,.inr rfl,hf⟩
 obtain ⟨rfl,hs⟩:=hk
 refine ⟨_,hs,?_⟩
 refine sq ?_
 refine sq ?_
 obtain ⟨xE,h_17,h⟩:=bind_some h
 refine rg [(1,{ av:=.own 0 ((xE).length),ids:=[2],l:=[yH r_4.1],post:=[(.row 50 3 (Mp z8 xE))] })] [2,7,9,11,96,97,98] [0,1,2] 3 [Ii zU,Pp 0,Ii r_6.1,.own 1 ((q_1).length),.own 2 ((xE).length),Ii (lN (xE)),Ii 0] [Vb 31 (yB r_4.1),Rb 3 1 (Mi q_1),Rb 50 3 (Mp z8 xE)] zG (ar ([yH r_4.1]:List AV) (ac (rfl:([]:List zN)=[]) (ac (zEx F r_4.1 xE h_17:zV prog 18 [] [] [yH r_4.1] [(.row 50 3 (Mp z8 xE))] (.own 0 ((xE).length))) an))) ?_
 obtain ⟨o_2,h_18,h⟩:=bind_some h
 refine vV (K1:=(fun e st'=>match o_2 with | (.inl q0)=>e=.normal∧Sub 0 st' (mk [(11,.own 0 ((q0).length))] [(0,Rb 3 1 (Mi q0))] 1) | (.inr q1)=>e=.ret∧q9 prog Go.Proofs.Try.f5 0 [] (.bool q1) st')) ?_ ?_
 ·replace h:=h_18
  refine yN (id:=2) (by kernel_rfl) ?_
  refine wk [0,1,2] [] [.s 2,.s 7,.s 9,.s 11,.s 96,.s 97,.s 98] [.s 0,.s 1,.s 2] [(2,Ii zU),(7,Pp 0),(9,Ii r_6.1),(11,.own 1 ((q_1).length)),(96,.own 2 ((xE).length)),(97,Ii (lN (xE))),(98,Ii 0)] [(0,Vb 31 (yB r_4.1)),(1,Rb 3 1 (Mi q_1)),(2,Rb 50 3 (Mp z8 xE))] an ?_
  refine wE (fun n st=>∃ (v_2:Int),∃ (yP:List Int),st=mk [(2,Ii zU),(7,Pp 0),(9,Ii r_6.1),(11,.own 1 ((yP).length)),(96,.own 2 ((xE).length)),(97,Ii (lN (xE))),(98,Ii v_2)] [(0,Vb 31 (yB r_4.1)),(1,Rb 3 1 (Mi yP)),(2,Rb 50 3 (Mp z8 xE))] 3∧tV F zU r_4 r_6 xE n v_2 yP=some o_2) F (by kernel_rfl) ⟨_,_,rfl,h⟩ ?_ ?_
  ·rintro _ ⟨_,_,_,h⟩;exact wO (h:(none:Option ((List Int)⊕Bool))=some o_2)
  rintro n_2 _ ⟨v_2,yP,rfl,h⟩
  replace h:u9 F zU r_4 r_6 xE (tV F zU r_4 r_6 xE n_2) v_2 yP=some o_2:=h
  unfold u9 at h
  refine sr [] [2,7,9,11,96,97,98,99] [0,1,2] 3 [Ii zU,Pp 0,Ii r_6.1,.own 1 ((yP).length),.own 2 ((xE).length),Ii (lN (xE)),Ii v_2,.bool (decide (v_2<(lN (xE))))] [Vb 31 (yB r_4.1),Rb 3 1 (Mi yP),Rb 50 3 (Mp z8 xE)] zG an ?_
  refine sq ?_
  refine cd 99 (decide (v_2<(lN (xE)))) ?_ ?_
  rotate_left
  ·intro g_7;replace h:=zT g_7 h
   refine wJ (id:=2) (by kernel_rfl) ?_
   cases h
   exact ⟨rfl,(sw [1] [] [.s 11] [.s 0] an)⟩
  intro g_7;replace h:=zS g_7 h
  refine sk ?_
  refine sq ?_
  refine yN (id:=3) (by kernel_rfl) ?_
  refine sq ?_
  obtain ⟨x_4,h_19,h⟩:=bind_some h
  refine rg [(1,{ av:=z8 x_4 }),(2,{ id:=3 })] [2,7,9,11,17,96,97,98] [0,1,2,3] 4 [Ii zU,Pp 0,Ii r_6.1,.own 1 ((yP).length),Pp 3,.own 2 ((xE).length),Ii (lN (xE)),Ii v_2] [Vb 31 (yB r_4.1),Rb 3 1 (Mi yP),Rb 50 3 (Mp z8 xE),Vb 50 (vG x_4)] zG (ac (qB h_19:(0:Int)≤v_2) (ac (by first | (simp;done) | simpa using qC h_19:v_2<(((xE).length:Nat):Int)) (ac (jI h_19:(Mp z8 xE)[(v_2).toNat]?=some (z8 x_4)) an))) ?_
  refine sr [] [2,7,9,11,17,18,96,97,98] [0,1,2,3] 4 [Ii zU,Pp 0,Ii r_6.1,.own 1 ((yP).length),Pp 3,Ii 0,.own 2 ((xE).length),Ii (lN (xE)),Ii v_2] [Vb 31 (yB r_4.1),Rb 3 1 (Mi yP),Rb 50 3 (Mp z8 xE),Vb 50 (vG x_4)] zG an ?_
  obtain ⟨o_3,h_20,h⟩:=bind_some h
  refine vV (K1:=(fun e st'=>match o_3 with | (.inl q0)=>e=.normal∧Sub 0 st' (mk [(2,Ii zU),(7,Pp 0),(9,Ii r_6.1),(11,.own 1 ((q0).length)),(96,.own 2 ((xE).length)),(97,Ii (lN (xE))),(98,Ii v_2)] [(0,Vb 31 (yB r_4.1)),(1,Rb 3 1 (Mi q0)),(2,Rb 50 3 (Mp z8 xE))] 3) | (.inr q1)=>e=.ret∧q9 prog Go.Proofs.Try.f5 0 [] (.bool q1) st')) ?_ ?_
  ·replace h:=h_20
   refine yN (id:=4) (by kernel_rfl) ?_
   refine wk [0,1,3,2] [] [.s 2,.s 7,.s 9,.s 11,.s 17,.s 18,.s 96,.s 97,.s 98] [.s 0,.s 1,.s 2,.s 3] [(2,Ii zU),(7,Pp 0),(9,Ii r_6.1),(11,.own 1 ((yP).length)),(17,Pp 2),(18,Ii 0),(96,.own 3 ((xE).length)),(97,Ii (lN (xE))),(98,Ii v_2)] [(0,Vb 31 (yB r_4.1)),(1,Rb 3 1 (Mi yP)),(2,Vb 50 (vG x_4)),(3,Rb 50 3 (Mp z8 xE))] an ?_
   refine wE (fun n st=>∃ (k_1:Int),∃ (wX:List Int),st=mk [(2,Ii zU),(7,Pp 0),(9,Ii r_6.1),(11,.own 1 ((wX).length)),(17,Pp 2),(18,Ii k_1),(96,.own 3 ((xE).length)),(97,Ii (lN (xE))),(98,Ii v_2)] [(0,Vb 31 (yB r_4.1)),(1,Rb 3 1 (Mi wX)),(2,Vb 50 (vG x_4)),(3,Rb 50 3 (Mp z8 xE))] 4∧uJ F zU r_4 r_6 x_4 n k_1 wX=some o_3) F (by kernel_rfl) ⟨_,_,rfl,h⟩ ?_ ?_
   ·rintro _ ⟨_,_,_,h⟩;exact wO (h:(none:Option ((List Int)⊕Bool))=some o_3)
   rintro n_3 _ ⟨k_1,wX,rfl,h⟩
   replace h:vW F zU r_4 r_6 x_4 (uJ F zU r_4 r_6 x_4 n_3) k_1 wX=some o_3:=h
   unfold vW at h
   refine sq ?_
   refine sq ?_
   refine wI (mk [(2,Ii zU),(7,Pp 0),(9,Ii r_6.1),(11,.own 1 ((wX).length)),(17,Pp 2),(18,Ii k_1),(96,.own 3 ((xE).length)),(97,Ii (lN (xE))),(98,Ii v_2),(111,.bool (decide (k_1<x_4.Count)&&(x_4.Thread==zU)))] [(0,Vb 31 (yB r_4.1)),(1,Rb 3 1 (Mi wX)),(2,Vb 50 (vG x_4)),(3,Rb 50 3 (Mp z8 xE))] 4) ?_ ?_
   ·rcases bft (decide (k_1<x_4.Count)) with nM | nM
    ·refine rg [(9,Ht)] [2,7,9,11,17,18,96,97,98,107,108,109,110,111] [0,1,2,3] 4 [Ii zU,Pp 0,Ii r_6.1,.own 1 ((wX).length),Pp 2,Ii k_1,.own 3 ((xE).length),Ii (lN (xE)),Ii v_2,Pp 2,Ii x_4.Thread,Ii zU,.bool (x_4.Thread==zU),.bool (x_4.Thread==zU)] [Vb 31 (yB r_4.1),Rb 3 1 (Mi wX),Vb 50 (vG x_4),Rb 50 3 (Mp z8 xE)] zG (ac nM (ac nM (ac nM (ac nM (ac nM an))))) ?_
     exact ⟨rfl,(sw [0,1,2,3] [] [.s 2,.s 7,.s 9,.s 11,.s 17,.s 18,.s 96,.s 97,.s 98,.a 111 (.bool (decide (k_1<x_4.Count)&&(x_4.Thread==zU)))] [.s 0,.s 1,.s 2,.s 3] (ac (congrArg AV.bool (tT nM rfl):(.bool (x_4.Thread==zU):AV)=.bool (decide (k_1<x_4.Count)&&(x_4.Thread==zU))) an))⟩
    ·refine rg [(5,Hg),(6,Hg),(7,Hg),(8,Hg),(9,Hf)] [2,7,9,11,17,18,96,97,98,107,108,109,110,111] [0,1,2,3] 4 [Ii zU,Pp 0,Ii r_6.1,.own 1 ((wX).length),Pp 2,Ii k_1,.own 3 ((xE).length),Ii (lN (xE)),Ii v_2,.tuple [],.tuple [],.tuple [],.tuple [],.bool false] [Vb 31 (yB r_4.1),Rb 3 1 (Mi wX),Vb 50 (vG x_4),Rb 50 3 (Mp z8 xE)] zG (ac nM (ac nM (ac nM (ac nM (ac nM an))))) ?_
     exact ⟨rfl,(sw [0,1,2,3] [] [.s 2,.s 7,.s 9,.s 11,.s 17,.s 18,.s 96,.s 97,.s 98,.a 111 (.bool (decide (k_1<x_4.Count)&&(x_4.Thread==zU)))] [.s 0,.s 1,.s 2,.s 3] (ac (congrArg AV.bool (zAO nM):(.bool false:AV)=.bool (decide (k_1<x_4.Count)&&(x_4.Thread==zU))) an))⟩
   refine cd 111 (decide (k_1<x_4.Count)&&(x_4.Thread==zU)) ?_ ?_
   rotate_left
   ·intro g_8;replace h:=zT g_8 h
    refine wJ (id:=4) (by kernel_rfl) ?_
    cases h
    exact ⟨rfl,(sw [0,1,3] [] [.s 2,.s 7,.s 9,.s 11,.s 96,.s 97,.s 98] [.s 0,.s 1,.s 2] an)⟩
   intro g_8;replace h:=zS g_8 h
   refine sk ?_
   refine sq ?_
   refine yN (id:=5) (by kernel_rfl) ?_
   refine sq ?_
   refine sq ?_
   obtain ⟨pN,h_21,h⟩:=bind_some h
   refine rg [(7,{ av:=.tuple [zE pN.1,.bool pN.2],l:=[yH r_4.1,.agg [Ii zU,Ii (zJ (x_4.Serial+k_1))]] }),(11,{ id:=4 })] [2,7,9,11,17,18,20,96,97,98] [0,1,2,3] 5 [Ii zU,Pp 0,Ii r_6.1,.own 1 ((wX).length),Pp 2,Ii k_1,.bool pN.2,.own 3 ((xE).length),Ii (lN (xE)),Ii v_2] [Vb 31 (yB r_4.1),Rb 3 1 (Mi wX),Vb 50 (vG x_4),Rb 50 3 (Mp z8 xE)] zG (ar ([yH r_4.1,.agg [Ii zU,Ii (zJ (x_4.Serial+k_1))]]:List AV) (ac (rfl:([]:List zN)=[]) (ac (zBk (args':=[yH r_4.1,yS (⟨zU,zJ (x_4.Serial+k_1)⟩:yC)]) (zC4 F r_4.1 (⟨zU,zJ (x_4.Serial+k_1)⟩:yC) pN h_21) rfl ⟨rfl,rfl,rfl,rfl,rfl,rfl,rfl,rfl,rfl,rfl,rfl,rfl,rfl,rfl,trivial⟩:zV prog 16 [] [] [yH r_4.1,.agg [Ii zU,Ii (zJ (x_4.Serial+k_1))]] [] (.tuple [zE pN.1,.bool pN.2])) an))) ?_
   refine sq ?_
   refine wI (mk [(2,Ii zU),(7,Pp 0),(9,Ii r_6.1),(11,.own 1 ((wX).length)),(17,Pp 2),(18,Ii k_1),(96,.own 3 ((xE).length)),(97,Ii (lN (xE))),(98,Ii v_2),(138,.bool (pN.2||(decide (x_4.Serial<(0:Int))||decide ((zJ (x_4.Serial+k_1))≥r_6.1))))] [(0,Vb 31 (yB r_4.1)),(1,Rb 3 1 (Mi wX)),(2,Vb 50 (vG x_4)),(3,Rb 50 3 (Mp z8 xE))] 4) ?_ ?_
   ·rcases Bool.eq_false_or_eq_true pN.2 with j3 | j3
    ·refine rg [(2,Hg),(3,Hg),(4,Hg),(5,Ht),(7,Hg),(8,Hg),(9,Hg),(10,Hg),(11,Hg),(12,Hg),(13,Ht)] [2,7,9,11,17,18,96,97,98,127,128,129,132,133,134,135,136,137,138] [0,1,2,3] 5 [Ii zU,Pp 0,Ii r_6.1,.own 1 ((wX).length),Pp 2,Ii k_1,.own 3 ((xE).length),Ii (lN (xE)),Ii v_2,.tuple [],.tuple [],.tuple [],.tuple [],.tuple [],.tuple [],.tuple [],.tuple [],.tuple [],.bool true] [Vb 31 (yB r_4.1),Rb 3 1 (Mi wX),Vb 50 (vG x_4),Rb 50 3 (Mp z8 xE)] zG (ac j3 (ac j3 (ac j3 (ac j3 (ax (ax (ax (ax (ax (ax (ar true an))))))))))) ?_
     exact ⟨rfl,(sw [0,1,2,3] [] [.s 2,.s 7,.s 9,.s 11,.s 17,.s 18,.s 96,.s 97,.s 98,.a 138 (.bool (pN.2||(decide (x_4.Serial<(0:Int))||decide ((zJ (x_4.Serial+k_1))≥r_6.1))))] [.s 0,.s 1,.s 2,.s 3] (ac (congrArg AV.bool (ort j3):(.bool true:AV)=.bool (pN.2||(decide (x_4.Serial<(0:Int))||decide ((zJ (x_4.Serial+k_1))≥r_6.1)))) an))⟩
    ·rcases bft (decide (x_4.Serial<(0:Int))) with jS | jS
     ·refine rg [(5,Hf),(7,Hg),(8,Hg),(9,Hg),(10,Hg),(11,Hg),(12,Hg),(13,Ht)] [2,7,9,11,17,18,96,97,98,127,128,129,132,133,134,135,136,137,138] [0,1,2,3] 5 [Ii zU,Pp 0,Ii r_6.1,.own 1 ((wX).length),Pp 2,Ii k_1,.own 3 ((xE).length),Ii (lN (xE)),Ii v_2,.ptr 2 0 0 1,Ii x_4.Serial,.bool (decide (x_4.Serial<(0:Int))),.tuple [],.tuple [],.tuple [],.tuple [],.tuple [],.tuple [],.bool true] [Vb 31 (yB r_4.1),Rb 3 1 (Mi wX),Vb 50 (vG x_4),Rb 50 3 (Mp z8 xE)] zG (ac j3 (ac j3 (ac j3 (ac j3 (ac jS (ac jS (ac jS (ac jS (ac jS (ac jS (ac jS an))))))))))) ?_
      exact ⟨rfl,(sw [0,1,2,3] [] [.s 2,.s 7,.s 9,.s 11,.s 17,.s 18,.s 96,.s 97,.s 98,.a 138 (.bool (pN.2||(decide (x_4.Serial<(0:Int))||decide ((zJ (x_4.Serial+k_1))≥r_6.1))))] [.s 0,.s 1,.s 2,.s 3] (ac (congrArg AV.bool (orf j3 (ort jS)):(.bool true:AV)=.bool (pN.2||(decide (x_4.Serial<(0:Int))||decide ((zJ (x_4.Serial+k_1))≥r_6.1)))) an))⟩
     ·refine rg [(5,Hf),(13,Hf)] [2,7,9,11,17,18,96,97,98,127,128,129,132,133,134,135,136,137,138] [0,1,2,3] 5 [Ii zU,Pp 0,Ii r_6.1,.own 1 ((wX).length),Pp 2,Ii k_1,.own 3 ((xE).length),Ii (lN (xE)),Ii v_2,.ptr 2 0 0 1,Ii x_4.Serial,.bool (decide (x_4.Serial<(0:Int))),.ptr 2 0 0 1,Ii x_4.Serial,Ii k_1,Ii (zJ (x_4.Serial+k_1)),Ii r_6.1,.bool (decide ((zJ (x_4.Serial+k_1))≥r_6.1)),.bool (decide ((zJ (x_4.Serial+k_1))≥r_6.1))] [Vb 31 (yB r_4.1),Rb 3 1 (Mi wX),Vb 50 (vG x_4),Rb 50 3 (Mp z8 xE)] zG (ac j3 (ac j3 (ac j3 (ac j3 (ac jS (ac jS (ac jS (ac jS (ac jS (ac jS (ac jS an))))))))))) ?_
      exact ⟨rfl,(sw [0,1,2,3] [] [.s 2,.s 7,.s 9,.s 11,.s 17,.s 18,.s 96,.s 97,.s 98,.a 138 (.bool (pN.2||(decide (x_4.Serial<(0:Int))||decide ((zJ (x_4.Serial+k_1))≥r_6.1))))] [.s 0,.s 1,.s 2,.s 3] (ac (congrArg AV.bool (orf j3 (orf jS rfl)):(.bool (decide ((zJ (x_4.Serial+k_1))≥r_6.1)):AV)=.bool (pN.2||(decide (x_4.Serial<(0:Int))||decide ((zJ (x_4.Serial+k_1))≥r_6.1)))) an))⟩
   refine cd 138 (pN.2||(decide (x_4.Serial<(0:Int))||decide ((zJ (x_4.Serial+k_1))≥r_6.1))) ?_ ?_
   ·intro g_9;replace h:=zS g_9 h
    refine sr [] [6] [] 4 [.bool false] [] zG an ?_
    refine rt ?_
    cases h
    exact ⟨rfl,Nat.le_of_ble_eq_true rfl,by kernel_rfl⟩
   intro g_9;replace h:=zT g_9 h
   refine sk ?_
   obtain ⟨x_5,h_22,h⟩:=bind_some h
   obtain ⟨x_6,h_23,h⟩:=bind_some h
   refine rg [(6,{ av:=Ii x_5 }),(9,{ av:=Ii x_6,l:=(Mi ((wX).set ((zJ (x_4.Serial+k_1)).toNat) (zJ (x_5+(1:Int))))) })] [2,7,9,11,17,18,96,97,98] [0,1,2,3] 4 [Ii zU,Pp 0,Ii r_6.1,.own 1 ((wX).length),Pp 2,Ii k_1,.own 3 ((xE).length),Ii (lN (xE)),Ii v_2] [Vb 31 (yB r_4.1),Rb 3 1 (Mi ((wX).set ((zJ (x_4.Serial+k_1)).toNat) (zJ (x_5+(1:Int))))),Vb 50 (vG x_4),Rb 50 3 (Mp z8 xE)] zG (ac (qB h_22:(0:Int)≤(zJ (x_4.Serial+k_1))) (ac (by first | (simp;done) | simpa using qC h_22:(zJ (x_4.Serial+k_1))<(((wX).length:Nat):Int)) (ac (jI h_22:(Mi wX)[(zJ (x_4.Serial+k_1)).toNat]?=some (Ii x_5)) (ac (qB h_23:(0:Int)≤(zJ (x_4.Serial+k_1))) (ac (by first | (simp;done) | simpa using qC h_23:(zJ (x_4.Serial+k_1))<(((wX).length:Nat):Int)) (ac (jI h_23:(Mi wX)[(zJ (x_4.Serial+k_1)).toNat]?=some (Ii x_6)) (ac (zLA _ _ _:(Mi ((wX).set ((zJ (x_4.Serial+k_1)).toNat) (zJ (x_5+(1:Int)))))=List.set (Mi wX) ((zJ (x_4.Serial+k_1)).toNat) (zBJ (Ii x_6) 0 [Ii (zJ (x_5+(1:Int)))])) an))))))) ?_
   refine rg [] [2,7,9,11,17,18,96,97,98] [0,1,2,3] 4 [Ii zU,Pp 0,Ii r_6.1,.own 1 ((wX).length),Pp 2,Ii (zJ (k_1+(1:Int))),.own 3 ((xE).length),Ii (lN (xE)),Ii v_2] [Vb 31 (yB r_4.1),Rb 3 1 (Mi ((wX).set ((zJ (x_4.Serial+k_1)).toNat) (zJ (x_5+(1:Int))))),Vb 50 (vG x_4),Rb 50 3 (Mp z8 xE)] zG an ?_
   exact ⟨_,(sw [0,1,2,3] [] [.s 2,.s 7,.s 9,.a 11 (.own 1 (((wX).set ((zJ (x_4.Serial+k_1)).toNat) (zJ (x_5+(1:Int)))).length)),.s 17,.s 18,.s 96,.s 97,.s 98] [.s 0,.s 1,.s 2,.s 3] (ac (congrArg (AV.own _) (by first | (simp;done) | (simp;omega)):(.own 1 ((wX).length):AV)=.own 1 (((wX).set ((zJ (x_4.Serial+k_1)).toNat) (zJ (x_5+(1:Int)))).length)) an)),_,_,rfl,h⟩
  intro e st1 hk
  rcases o_3 with q_3 | q_4
  rotate_left
  ·obtain ⟨rfl,hf⟩:=hk
   cases h
   exact ⟨_,Sub.refl _ _,rfl,hf⟩
  obtain ⟨rfl,hs⟩:=hk
  refine ⟨_,hs,?_⟩
  refine rg [] [2,7,9,11,96,97,98] [0,1,2] 3 [Ii zU,Pp 0,Ii r_6.1,.own 1 ((q_3).length),.own 2 ((xE).length),Ii (lN (xE)),Ii (zJ (v_2+(1:Int)))] [Vb 31 (yB r_4.1),Rb 3 1 (Mi q_3),Rb 50 3 (Mp z8 xE)] zG an ?_
  exact ⟨_,(sw [0,1,2] [] [.s 2,.s 7,.s 9,.s 11,.s 96,.s 97,.s 98] [.s 0,.s 1,.s 2] an),_,_,rfl,h⟩
 intro e st1 hk
 rcases o_2 with q_5 | q_6
 rotate_left
 ·obtain ⟨rfl,hf⟩:=hk
  cases h
  exact ⟨st1,Sub.refl _ _,.inr rfl,hf⟩
 obtain ⟨rfl,hs⟩:=hk
 refine ⟨_,hs,?_⟩
 refine sq ?_
 refine sr [] [149,150,151] [0] 1 [.own 0 ((q_5).length),Ii (lN (q_5)),Ii 0] [Rb 3 1 (Mi q_5)] zG an ?_
 obtain ⟨o_4,h_24,h⟩:=bind_some h
 refine vV (K1:=(fun e st'=>match o_4 with | (.inl q0)=>e=.normal∧Sub 0 st' (mk [] [] 0) | (.inr q1)=>e=.ret∧q9 prog Go.Proofs.Try.f5 0 [] (.bool q1) st')) ?_ ?_
 ·replace h:=h_24
  refine yN (id:=6) (by kernel_rfl) ?_
  refine wk [0] [] [.s 149,.s 150,.s 151] [.s 0] [(149,.own 0 ((q_5).length)),(150,Ii (lN (q_5))),(151,Ii 0)] [(0,Rb 3 1 (Mi q_5))] an ?_
  refine wE (fun n st=>∃ (v_3:Int),st=mk [(149,.own 0 ((q_5).length)),(150,Ii (lN (q_5))),(151,Ii v_3)] [(0,Rb 3 1 (Mi q_5))] 1∧tX F q_5 n v_3=some o_4) F (by kernel_rfl) ⟨_,rfl,h⟩ ?_ ?_
  ·rintro _ ⟨_,_,h⟩;exact wO (h:(none:Option (Unit⊕Bool))=some o_4)
  rintro n_4 _ ⟨v_3,rfl,h⟩
  replace h:tA F q_5 (tX F q_5 n_4) v_3=some o_4:=h
  unfold tA at h
  refine sr [] [149,150,151,152] [0] 1 [.own 0 ((q_5).length),Ii (lN (q_5)),Ii v_3,.bool (decide (v_3<(lN (q_5))))] [Rb 3 1 (Mi q_5)] zG an ?_
  refine sq ?_
  refine cd 152 (decide (v_3<(lN (q_5)))) ?_ ?_
  rotate_left
  ·intro g_10;replace h:=zT g_10 h
   refine wJ (id:=6) (by kernel_rfl) ?_
   cases h
   exact ⟨rfl,(sw [] [] [] [] an)⟩
  intro g_10;replace h:=zS g_10 h
  refine sk ?_
  refine sq ?_
  refine yN (id:=7) (by kernel_rfl) ?_
  refine sq ?_
  obtain ⟨x_7,h_25,h⟩:=bind_some h
  refine rg [(1,{ av:=Ii x_7 })] [22,149,150,151] [0] 1 [Ii x_7,.own 0 ((q_5).length),Ii (lN (q_5)),Ii v_3] [Rb 3 1 (Mi q_5)] zG (ac (qB h_25:(0:Int)≤v_3) (ac (by first | (simp;done) | simpa using qC h_25:v_3<(((q_5).length:Nat):Int)) (ac (jI h_25:(Mi q_5)[(v_3).toNat]?=some (Ii x_7)) an))) ?_
  refine sr [] [149,150,151,156] [0] 1 [.own 0 ((q_5).length),Ii (lN (q_5)),Ii v_3,.bool (x_7 != (1:Int))] [Rb 3 1 (Mi q_5)] zG an ?_
  refine cd 156 (x_7 != (1:Int)) ?_ ?_
  rotate_left
  ·intro g_11;replace h:=zT g_11 h
   refine sk ?_
   refine rg [] [149,150,151] [0] 1 [.own 0 ((q_5).length),Ii (lN (q_5)),Ii (zJ (v_3+(1:Int)))] [Rb 3 1 (Mi q_5)] zG an ?_
   exact ⟨_,(sw [0] [] [.s 149,.s 150,.s 151] [.s 0] an),_,rfl,h⟩
  intro g_11;replace h:=zS g_11 h
  refine sr [] [6] [] 1 [.bool false] [] zG an ?_
  refine rt ?_
  cases h
  exact ⟨rfl,Nat.le_of_ble_eq_true rfl,by kernel_rfl⟩
 intro e st1 hk
 rcases o_4 with q_7 | q_8
 rotate_left
 ·obtain ⟨rfl,hf⟩:=hk
  cases h
  exact ⟨st1,Sub.refl _ _,.inr rfl,hf⟩
 obtain ⟨rfl,hs⟩:=hk
 refine ⟨_,hs,?_⟩
 refine sq ?_
 obtain ⟨r_12,h_26,h⟩:=bind_some h
 refine rg [(0,{ av:=.bool r_12,l:=[] })] [6] [] 0 [.bool r_12] [] zG (ar ([]:List AV) (ac (rfl:([]:List zN)=[]) (ac (zAz F r_12 h_26:zV prog 9 [] [] [] [] (.bool r_12)) an))) ?_
 refine rt ?_
 cases h
 exact ⟨.inr rfl,Nat.le_of_ble_eq_true rfl,by kernel_rfl⟩

end Go.Ab
