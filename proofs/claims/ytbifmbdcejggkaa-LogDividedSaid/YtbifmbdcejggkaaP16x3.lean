/- Printed: the typed Lean functions of the Go functions, or the proofs that the Go functions meet them. No conditions but those that the theorems name. -/
import Derived.Test.YtbifmbdcejggkaaP16x2
namespace Go.Ab
open Go
set_option linter.unusedVariables false
theorem vP (s_1:List (zH)) (r:(List (zH))) (h:xJ s_1=some r):zX prog 44 [] [] [.sl false 6 (Mp zD s_1)] [.row 42 6 (Mp zD r)] (.own 0 ((r).length)):=by
 refine yI (fn:=Go.Proofs.Try.f44) (code:=xQ Go.Proofs.Try.f44) (by kernel_rfl) (by kernel_rfl) (Nat.le_of_ble_eq_true (by kernel_rfl)) ?_
 unfold xJ at h
 refine sr [(0,{ id:=0,m:=1 })] [0] [] 1 [.sl false 6 (Mp zD s_1)] [] zG an ?_
 refine sq ?_
 refine sr [] [0,4] [] 1 [.sl false 6 (Mp zD s_1),.nb (Mp zD s_1)] [] zG an ?_
 refine zLA (t:=4) (l:=(Mp zD s_1)) (by kernel_rfl) (by kernel_rfl) ?_ ?_
 ·intro h_2;replace h_2:=List.map_eq_nil_iff.1 h_2
  replace h:=Eq.trans (show (some [])=((need (((([]:List zH)).length+(s_1).length) * 72≤140737488355328)).bind fun _ =>
 some ([]++s_1)) from by simp [h_2,need]) h
  refine sr [(0,{ id:=1,m:=1 })] [2] [1] 2 [.own 1 0] [Rb 42 6 []] zG an ?_
  refine wk [1] [] [.a 2 (.own 0 ((([]:List zH)).length))] [.s 0] [(2,.own 0 ((([]:List zH)).length))] [(0,Rb 42 6 [])] (ac (congrArg (AV.own _) (by first | (simp;done) | (simp;omega)):(.own 1 0:AV)=.own 1 ((([]:List zH)).length)) an) ?_
  refine rt ?_
  cases h
  exact ⟨.inr rfl,Nat.le_of_ble_eq_true rfl,by kernel_rfl⟩
 refine sk ?_
 refine sq ?_
 obtain ⟨_,h_1,h⟩:=bind_some h;replace h_1:=wM h_1
 refine rg [(0,{ id:=1 }),(2,{ id:=2,l:=(Mp zD ([]++s_1)),n:=(([]++s_1)).length })] [2] [2] 3 [.own 2 ((([]++s_1)).length)] [Rb 42 6 (Mp zD ([]++s_1))] zG (ac (by first | (simp;done) | (simp;omega):0=(([]:List AV)).length) (ac (trivial:True) (ac (by simp:(List.map zD ([]++s_1))=[]++(List.map zD s_1)) (ac (by simp:(([]++s_1)).length=((List.map zD ([]++s_1))).length) (ac (by first | (simp;done) | simpa using h_1:(([]:List AV).length+((List.map zD s_1):List AV).length) * 72≤140737488355328) an))))) ?_
 refine wk [2] [] [.s 2] [.s 0] [(2,.own 0 ((([]++s_1)).length))] [(0,Rb 42 6 (Mp zD ([]++s_1)))] an ?_
 refine rt ?_
 cases h
 exact ⟨.inr rfl,Nat.le_of_ble_eq_true rfl,by kernel_rfl⟩

theorem zE8 (F:Nat) (p_1:zB) (n_1:Int) (r:zB×zB×Bool) (h:jE F p_1 n_1=some r):zX prog 24 [] [] [zA p_1,Ii n_1] [] (.tuple [zA r.1,zA r.2.1,.bool r.2.2]):=by
 refine yI (fn:=Go.Proofs.Try.f24) (code:=xQ Go.Proofs.Try.f24) (by kernel_rfl) (by kernel_rfl) (Nat.le_of_ble_eq_true (by kernel_rfl)) ?_
 unfold jE at h
 refine sr [(0,{ id:=0 }),(1,{ id:=1 }),(2,{ id:=2 })] [1,2,4,5] [0,1,2] 3 [Ii n_1,Pp 0,Pp 1,Pp 2] [Vb 59 (zR p_1),Vb 59 [Ii 0,Ii 0,Ii 0,.nilsl],Vb 59 [Ii 0,Ii 0,Ii 0,.nilsl]] zG an ?_
 refine sq ?_
 refine sq ?_
 obtain ⟨p_2,h_2,h⟩:=bind_some h
 refine wI (mk [(1,Ii n_1),(2,Pp 0),(4,Pp 1),(5,Pp 2),(21,.bool p_2)] [(0,Vb 59 (zR p_1)),(1,Vb 59 [Ii 0,Ii 0,Ii 0,.nilsl]),(2,Vb 59 [Ii 0,Ii 0,Ii 0,.nilsl])] 3) ?_ ?_
 ·replace h:=h_2
  obtain ⟨r_1,h_1,h⟩:=bind_some h
  rcases bft (r_1 != (0:Int)) with zJ | zJ
  ·replace h:=zV zJ h
   refine rg [(1,{ av:=Ii r_1,l:=[zA p_1] }),(4,Hg),(5,Hg),(6,Ht),(8,Hg),(9,Hg),(10,Hg),(11,Hg),(12,Hg),(13,Ht)] [1,2,4,5,21] [0,1,2] 3 [Ii n_1,Pp 0,Pp 1,Pp 2,.bool true] [Vb 59 (zR p_1),Vb 59 [Ii 0,Ii 0,Ii 0,.nilsl],Vb 59 [Ii 0,Ii 0,Ii 0,.nilsl]] zG (ar ([zA p_1]:List AV) (ac (rfl:([]:List zM)=[]) (ac (kF F p_1 r_1 h_1:zX prog 43 [] [] [zA p_1] [] (Ii r_1)) (ac zJ (ac zJ (ac zJ (ax (ax (ax (ax (ax (ar true an)))))))))))) ?_
   cases h
   exact ⟨rfl,(sw [0,1,2] [] [.s 1,.s 2,.s 4,.s 5,.s 21] [.s 0,.s 1,.s 2] an)⟩
  ·replace h:=zU zJ h
   rcases bft (decide (n_1<(1:Int))) with zI | zI
   ·replace h:=zV zI h
    refine rg [(1,{ av:=Ii r_1,l:=[zA p_1] }),(6,Hf),(8,Hg),(9,Hg),(10,Hg),(11,Hg),(12,Hg),(13,Ht)] [1,2,4,5,21] [0,1,2] 3 [Ii n_1,Pp 0,Pp 1,Pp 2,.bool true] [Vb 59 (zR p_1),Vb 59 [Ii 0,Ii 0,Ii 0,.nilsl],Vb 59 [Ii 0,Ii 0,Ii 0,.nilsl]] zG (ar ([zA p_1]:List AV) (ac (rfl:([]:List zM)=[]) (ac (kF F p_1 r_1 h_1:zX prog 43 [] [] [zA p_1] [] (Ii r_1)) (ac zJ (ac zJ (ac zJ (ac zI (ac zI (ac zI (ac zI (ac zI (ac zI an)))))))))))) ?_
    cases h
    exact ⟨rfl,(sw [0,1,2] [] [.s 1,.s 2,.s 4,.s 5,.s 21] [.s 0,.s 1,.s 2] an)⟩
   ·replace h:=zU zI h
    refine rg [(1,{ av:=Ii r_1,l:=[zA p_1] }),(6,Hf),(11,{ n:=(p_1.Events).length }),(13,Hf)] [1,2,4,5,21] [0,1,2] 3 [Ii n_1,Pp 0,Pp 1,Pp 2,.bool (decide (n_1≥(lN (p_1.Events))))] [Vb 59 (zR p_1),Vb 59 [Ii 0,Ii 0,Ii 0,.nilsl],Vb 59 [Ii 0,Ii 0,Ii 0,.nilsl]] zG (ar ([zA p_1]:List AV) (ac (rfl:([]:List zM)=[]) (ac (kF F p_1 r_1 h_1:zX prog 43 [] [] [zA p_1] [] (Ii r_1)) (ac zJ (ac zJ (ac zJ (ac zI (ac zI (ac zI (ac zI (ac (yG _:((Mp zD p_1.Events)).length=(p_1.Events).length) (ac zI (ac zI an))))))))))))) ?_
    cases h
    exact ⟨rfl,(sw [0,1,2] [] [.s 1,.s 2,.s 4,.s 5,.s 21] [.s 0,.s 1,.s 2] an)⟩
 refine cd 21 p_2 ?_ ?_
 ·intro g_1;replace h:=zV g_1 h
  refine sr [] [4,5,6] [1,2] 3 [Pp 1,Pp 2,.bool false] [Vb 59 [Ii 0,Ii 0,Ii 0,.nilsl],Vb 59 [Ii 0,Ii 0,Ii 0,.nilsl]] zG an ?_
  refine wk [1,2] [] [.s 4,.s 5,.s 6] [.a 0 (Vb 59 (zR (⟨(0:Int),(0:Int),(0:Int),[]⟩:zB))),.a 1 (Vb 59 (zR (⟨(0:Int),(0:Int),(0:Int),[]⟩:zB)))] [(4,Pp 0),(5,Pp 1),(6,.bool false)] [(0,Vb 59 (zR (⟨(0:Int),(0:Int),(0:Int),[]⟩:zB))),(1,Vb 59 (zR (⟨(0:Int),(0:Int),(0:Int),[]⟩:zB)))] (ar 59 (ac (rfl:vT [Ii ((⟨(0:Int),(0:Int),(0:Int),[]⟩:zB).Thread),Ii ((⟨(0:Int),(0:Int),(0:Int),[]⟩:zB).Serial),Ii ((⟨(0:Int),(0:Int),(0:Int),[]⟩:zB).Lost),.sl false 6 (Mp zD ((⟨(0:Int),(0:Int),(0:Int),[]⟩:zB).Events))]=true) (ac (rfl:(Ii 0:AV)=Ii ((⟨(0:Int),(0:Int),(0:Int),[]⟩:zB).Thread)) (ac (rfl:(Ii 0:AV)=Ii ((⟨(0:Int),(0:Int),(0:Int),[]⟩:zB).Serial)) (ac (rfl:(Ii 0:AV)=Ii ((⟨(0:Int),(0:Int),(0:Int),[]⟩:zB).Lost)) (ac (rfl:((Mp zD ((⟨(0:Int),(0:Int),(0:Int),[]⟩:zB).Events)):List AV)=[]) (ar 59 (ac (rfl:vT [Ii ((⟨(0:Int),(0:Int),(0:Int),[]⟩:zB).Thread),Ii ((⟨(0:Int),(0:Int),(0:Int),[]⟩:zB).Serial),Ii ((⟨(0:Int),(0:Int),(0:Int),[]⟩:zB).Lost),.sl false 6 (Mp zD ((⟨(0:Int),(0:Int),(0:Int),[]⟩:zB).Events))]=true) (ac (rfl:(Ii 0:AV)=Ii ((⟨(0:Int),(0:Int),(0:Int),[]⟩:zB).Thread)) (ac (rfl:(Ii 0:AV)=Ii ((⟨(0:Int),(0:Int),(0:Int),[]⟩:zB).Serial)) (ac (rfl:(Ii 0:AV)=Ii ((⟨(0:Int),(0:Int),(0:Int),[]⟩:zB).Lost)) (ac (rfl:((Mp zD ((⟨(0:Int),(0:Int),(0:Int),[]⟩:zB).Events)):List AV)=[]) an)))))))))))) ?_
  refine rt ?_
  cases h
  exact ⟨.inr rfl,Nat.le_of_ble_eq_true rfl,by kernel_rfl⟩
 intro g_1;replace h:=zU g_1 h
 refine sk ?_
 refine sq ?_
 obtain ⟨_,h_3,h⟩:=bind_some h;replace h_3:=wM h_3
 obtain ⟨r_2,h_4,h⟩:=bind_some h
 refine rg [(9,{ l:=(Mp zD (sub p_1.Events n_1 (lN (p_1.Events)))) }),(10,{ av:=.own 0 ((r_2).length),ids:=[3],l:=[.sl false 6 (Mp zD (sub p_1.Events n_1 (lN (p_1.Events))))],post:=[(.row 42 6 (Mp zD r_2))] }),(12,{ id:=4 })] [1,2,4,5,7] [0,1,2,3,4] 5 [Ii n_1,Pp 0,Pp 1,Pp 2,Pp 4] [Vb 59 (zR p_1),Vb 59 [Ii 0,Ii 0,Ii 0,.nilsl],Vb 59 [Ii 0,Ii 0,Ii 0,.nilsl],Rb 42 6 (Mp zD r_2),Vb 59 [Ii p_1.Thread,Ii (zP (p_1.Serial+n_1)),Ii 0,.own 3 ((r_2).length)]] zG (ac h_3.1 (ac (zBz h_3.2:n_1≤(lN ((Mp zD p_1.Events)))) (ac (Int.le_refl _:(lN ((Mp zD p_1.Events)))≤(lN ((Mp zD p_1.Events)))) (ac (zI0 _ _:(Mp zD (sub p_1.Events n_1 (lN (p_1.Events))))=(((Mp zD p_1.Events)).take ((lN ((Mp zD p_1.Events)))).toNat).drop (n_1).toNat) (ar ([.sl false 6 (Mp zD (sub p_1.Events n_1 (lN (p_1.Events))))]:List AV) (ac (rfl:([]:List zM)=[]) (ac (vP (sub p_1.Events n_1 (lN (p_1.Events))) r_2 h_4:zX prog 44 [] [] [.sl false 6 (Mp zD (sub p_1.Events n_1 (lN (p_1.Events))))] [(.row 42 6 (Mp zD r_2))] (.own 0 ((r_2).length))) an))))))) ?_
 refine sq ?_
 obtain ⟨_,h_5,h⟩:=bind_some h;replace h_5:=wM h_5
 obtain ⟨r_3,h_6,h⟩:=bind_some h
 refine rg [(3,{ l:=(Mp zD (sub p_1.Events (0:Int) n_1)) }),(4,{ av:=.own 0 ((r_3).length),ids:=[5],l:=[.sl false 6 (Mp zD (sub p_1.Events (0:Int) n_1))],post:=[(.row 42 6 (Mp zD r_3))] })] [2,4,5,7] [0,1,2,3,4,5] 6 [Pp 0,Pp 1,Pp 2,Pp 4] [Vb 59 [Ii p_1.Thread,Ii p_1.Serial,Ii p_1.Lost,.own 5 ((r_3).length)],Vb 59 [Ii 0,Ii 0,Ii 0,.nilsl],Vb 59 [Ii 0,Ii 0,Ii 0,.nilsl],Rb 42 6 (Mp zD r_2),Vb 59 [Ii p_1.Thread,Ii (zP (p_1.Serial+n_1)),Ii 0,.own 3 ((r_2).length)],Rb 42 6 (Mp zD r_3)] zG (ac (by decide:(0:Int)≤(0:Int)) (ac h_5.1 (ac (zBz h_5.2:n_1≤(lN ((Mp zD p_1.Events)))) (ac (zHk _ _ _:(Mp zD (sub p_1.Events (0:Int) n_1))=(((Mp zD p_1.Events)).take (n_1).toNat).drop ((0:Int)).toNat) (ar ([.sl false 6 (Mp zD (sub p_1.Events (0:Int) n_1))]:List AV) (ac (rfl:([]:List zM)=[]) (ac (vP (sub p_1.Events (0:Int) n_1) r_3 h_6:zX prog 44 [] [] [.sl false 6 (Mp zD (sub p_1.Events (0:Int) n_1))] [(.row 42 6 (Mp zD r_3))] (.own 0 ((r_3).length))) an))))))) ?_
 refine sr [] [4,5,6] [1,2,3,5] 6 [Pp 1,Pp 2,.bool true] [Vb 59 [Ii p_1.Thread,Ii p_1.Serial,Ii p_1.Lost,.own 5 ((r_3).length)],Vb 59 [Ii p_1.Thread,Ii (zP (p_1.Serial+n_1)),Ii 0,.own 3 ((r_2).length)],Rb 42 6 (Mp zD r_2),Rb 42 6 (Mp zD r_3)] zG an ?_
 refine wk [1,2] [5,3] [.s 4,.s 5,.s 6] [.a 0 (Vb 59 (zR (⟨p_1.Thread,p_1.Serial,p_1.Lost,r_3⟩:zB))),.a 1 (Vb 59 (zR (⟨p_1.Thread,zP (p_1.Serial+n_1),(0:Int),r_2⟩:zB)))] [(4,Pp 0),(5,Pp 1),(6,.bool true)] [(0,Vb 59 (zR (⟨p_1.Thread,p_1.Serial,p_1.Lost,r_3⟩:zB))),(1,Vb 59 (zR (⟨p_1.Thread,zP (p_1.Serial+n_1),(0:Int),r_2⟩:zB)))] (ar 59 (ac (rfl:vT [Ii ((⟨p_1.Thread,p_1.Serial,p_1.Lost,r_3⟩:zB).Thread),Ii ((⟨p_1.Thread,p_1.Serial,p_1.Lost,r_3⟩:zB).Serial),Ii ((⟨p_1.Thread,p_1.Serial,p_1.Lost,r_3⟩:zB).Lost),.sl false 6 (Mp zD ((⟨p_1.Thread,p_1.Serial,p_1.Lost,r_3⟩:zB).Events))]=true) (ac (by first | (simp;done) | (simp;omega):(r_3).length=((List.map zD r_3)).length) (ac (rfl:(Ii p_1.Thread:AV)=Ii ((⟨p_1.Thread,p_1.Serial,p_1.Lost,r_3⟩:zB).Thread)) (ac (rfl:(Ii p_1.Serial:AV)=Ii ((⟨p_1.Thread,p_1.Serial,p_1.Lost,r_3⟩:zB).Serial)) (ac (rfl:(Ii p_1.Lost:AV)=Ii ((⟨p_1.Thread,p_1.Serial,p_1.Lost,r_3⟩:zB).Lost)) (ar 6 (ac (rfl:((Mp zD r_3):List AV)=(Mp zD ((⟨p_1.Thread,p_1.Serial,p_1.Lost,r_3⟩:zB).Events))) (ac (rfl:(!false||false)=true) (ar 59 (ac (rfl:vT [Ii ((⟨p_1.Thread,zP (p_1.Serial+n_1),(0:Int),r_2⟩:zB).Thread),Ii ((⟨p_1.Thread,zP (p_1.Serial+n_1),(0:Int),r_2⟩:zB).Serial),Ii ((⟨p_1.Thread,zP (p_1.Serial+n_1),(0:Int),r_2⟩:zB).Lost),.sl false 6 (Mp zD ((⟨p_1.Thread,zP (p_1.Serial+n_1),(0:Int),r_2⟩:zB).Events))]=true) (ac (by first | (simp;done) | (simp;omega):(r_2).length=((List.map zD r_2)).length) (ac (rfl:(Ii p_1.Thread:AV)=Ii ((⟨p_1.Thread,zP (p_1.Serial+n_1),(0:Int),r_2⟩:zB).Thread)) (ac (rfl:(Ii (zP (p_1.Serial+n_1)):AV)=Ii ((⟨p_1.Thread,zP (p_1.Serial+n_1),(0:Int),r_2⟩:zB).Serial)) (ac (rfl:(Ii 0:AV)=Ii ((⟨p_1.Thread,zP (p_1.Serial+n_1),(0:Int),r_2⟩:zB).Lost)) (ar 6 (ac (rfl:((Mp zD r_2):List AV)=(Mp zD ((⟨p_1.Thread,zP (p_1.Serial+n_1),(0:Int),r_2⟩:zB).Events))) (ac (rfl:(!false||false)=true) an)))))))))))))))))) ?_
 refine rt ?_
 cases h
 exact ⟨.inr rfl,Nat.le_of_ble_eq_true rfl,by kernel_rfl⟩

end Go.Ab
