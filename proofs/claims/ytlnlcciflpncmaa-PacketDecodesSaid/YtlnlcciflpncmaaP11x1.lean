/- Printed: the typed Lean functions of the Go functions, or the proofs that the Go functions meet them. No conditions but those that the theorems name. -/
import Derived.Test.YtlnlcciflpncmaaP11xD
import Derived.Test.YtlnlcciflpncmaaProg
namespace Go.Ab
open Go
set_option linter.unusedVariables false
noncomputable abbrev prog:=Go.Proofs.Try.prog
theorem zD:prog.follows .mixedOrders=true:=by kernel_rfl
theorem zNE:zGM prog 102:=⟨_,Go.Proofs.Try.func102,by kernel_rfl,by kernel_rfl,by kernel_rfl,by kernel_rfl⟩
theorem zKF:kO prog 9 false [.str]:=zLZ (by kernel_rfl)
theorem zFL:kO prog 57 true [.int .i64,.int .i64]:=zLS (by kernel_rfl) (by kernel_rfl) (by kernel_rfl) (by kernel_rfl)
theorem zAT:∀ a b:zE,zC a=zC b→a=b:=by
  intro a b h
  cases a;cases b;simpa [zC,zGd] using h
theorem zKJ:zDv prog 57 [.int .i64,.int .i64]:=zM2 zFL (by kernel_rfl) (by kernel_rfl)
theorem zHw (r:(List (zR))) (h:p9=some r):zM prog 94 [] [] [] [.row 103 9 (Mp yX r)] (.own 0 ((r).length)):=by
 refine zS (fn:=Go.Proofs.Try.f94) (code:=z6 Go.Proofs.Try.f94) (by kernel_rfl) (by kernel_rfl) (Nat.le_of_ble_eq_true (by kernel_rfl)) ?_
 unfold p9 at h
 refine sr [(0,{ id:=0,m:=1 })] [] [] 1 [] [] zD an ?_
 refine sr [(13,{ id:=1 })] [0] [1] 2 [.own 1 13] [Rb 103 9 (Mp yX ([(⟨([]:List Int),false,false,false,false,(0:Int),(0:Int),(0:Int),(0:Int)⟩:zR),(⟨([98,101,103,105,110]:List Int),true,false,false,false,(0:Int),(0:Int),(0:Int),(0:Int)⟩:zR),(⟨([101,110,100]:List Int),false,false,false,false,(0:Int),(0:Int),(0:Int),(0:Int)⟩:zR),(⟨([109,97,114,107]:List Int),true,false,false,false,(0:Int),(0:Int),(0:Int),(0:Int)⟩:zR),(⟨([99,111,117,110,116]:List Int),true,true,false,false,(-1000000000000000:Int),(1000000000000000:Int),(0:Int),(0:Int)⟩:zR),(⟨([115,97,109,112,108,101]:List Int),false,true,false,true,(1:Int),(1000000000000:Int),(0:Int),(0:Int)⟩:zR),(⟨([115,101,110,100]:List Int),false,true,false,false,(0:Int),(1000000000000000:Int),(0:Int),(0:Int)⟩:zR),(⟨([114,101,99,118]:List Int),false,true,false,false,(0:Int),(1000000000000000:Int),(0:Int),(0:Int)⟩:zR),(⟨([114,117,110]:List Int),false,true,false,false,(0:Int),(63:Int),(0:Int),(0:Int)⟩:zR),(⟨([115,116,111,112]:List Int),false,true,true,false,(0:Int),(3:Int),(0:Int),(1000000000000000:Int)⟩:zR),(⟨([119,97,107,101]:List Int),false,true,false,false,(0:Int),(1000000000000000:Int),(0:Int),(0:Int)⟩:zR),(⟨([97,108,108,111,99]:List Int),false,true,true,true,(0:Int),(1000000000000000:Int),(1:Int),(1000000000000:Int)⟩:zR),(⟨([102,114,101,101]:List Int),false,true,false,false,(0:Int),(1000000000000000:Int),(0:Int),(0:Int)⟩:zR)]:List zR))] zD an ?_
 refine wk [1] [] [.a 0 (.own 0 ((([(⟨([]:List Int),false,false,false,false,(0:Int),(0:Int),(0:Int),(0:Int)⟩:zR),(⟨([98,101,103,105,110]:List Int),true,false,false,false,(0:Int),(0:Int),(0:Int),(0:Int)⟩:zR),(⟨([101,110,100]:List Int),false,false,false,false,(0:Int),(0:Int),(0:Int),(0:Int)⟩:zR),(⟨([109,97,114,107]:List Int),true,false,false,false,(0:Int),(0:Int),(0:Int),(0:Int)⟩:zR),(⟨([99,111,117,110,116]:List Int),true,true,false,false,(-1000000000000000:Int),(1000000000000000:Int),(0:Int),(0:Int)⟩:zR),(⟨([115,97,109,112,108,101]:List Int),false,true,false,true,(1:Int),(1000000000000:Int),(0:Int),(0:Int)⟩:zR),(⟨([115,101,110,100]:List Int),false,true,false,false,(0:Int),(1000000000000000:Int),(0:Int),(0:Int)⟩:zR),(⟨([114,101,99,118]:List Int),false,true,false,false,(0:Int),(1000000000000000:Int),(0:Int),(0:Int)⟩:zR),(⟨([114,117,110]:List Int),false,true,false,false,(0:Int),(63:Int),(0:Int),(0:Int)⟩:zR),(⟨([115,116,111,112]:List Int),false,true,true,false,(0:Int),(3:Int),(0:Int),(1000000000000000:Int)⟩:zR),(⟨([119,97,107,101]:List Int),false,true,false,false,(0:Int),(1000000000000000:Int),(0:Int),(0:Int)⟩:zR),(⟨([97,108,108,111,99]:List Int),false,true,true,true,(0:Int),(1000000000000000:Int),(1:Int),(1000000000000:Int)⟩:zR),(⟨([102,114,101,101]:List Int),false,true,false,false,(0:Int),(1000000000000000:Int),(0:Int),(0:Int)⟩:zR)]:List zR)).length))] [.s 0] [(0,.own 0 ((([(⟨([]:List Int),false,false,false,false,(0:Int),(0:Int),(0:Int),(0:Int)⟩:zR),(⟨([98,101,103,105,110]:List Int),true,false,false,false,(0:Int),(0:Int),(0:Int),(0:Int)⟩:zR),(⟨([101,110,100]:List Int),false,false,false,false,(0:Int),(0:Int),(0:Int),(0:Int)⟩:zR),(⟨([109,97,114,107]:List Int),true,false,false,false,(0:Int),(0:Int),(0:Int),(0:Int)⟩:zR),(⟨([99,111,117,110,116]:List Int),true,true,false,false,(-1000000000000000:Int),(1000000000000000:Int),(0:Int),(0:Int)⟩:zR),(⟨([115,97,109,112,108,101]:List Int),false,true,false,true,(1:Int),(1000000000000:Int),(0:Int),(0:Int)⟩:zR),(⟨([115,101,110,100]:List Int),false,true,false,false,(0:Int),(1000000000000000:Int),(0:Int),(0:Int)⟩:zR),(⟨([114,101,99,118]:List Int),false,true,false,false,(0:Int),(1000000000000000:Int),(0:Int),(0:Int)⟩:zR),(⟨([114,117,110]:List Int),false,true,false,false,(0:Int),(63:Int),(0:Int),(0:Int)⟩:zR),(⟨([115,116,111,112]:List Int),false,true,true,false,(0:Int),(3:Int),(0:Int),(1000000000000000:Int)⟩:zR),(⟨([119,97,107,101]:List Int),false,true,false,false,(0:Int),(1000000000000000:Int),(0:Int),(0:Int)⟩:zR),(⟨([97,108,108,111,99]:List Int),false,true,true,true,(0:Int),(1000000000000000:Int),(1:Int),(1000000000000:Int)⟩:zR),(⟨([102,114,101,101]:List Int),false,true,false,false,(0:Int),(1000000000000000:Int),(0:Int),(0:Int)⟩:zR)]:List zR)).length))] [(0,Rb 103 9 (Mp yX ([(⟨([]:List Int),false,false,false,false,(0:Int),(0:Int),(0:Int),(0:Int)⟩:zR),(⟨([98,101,103,105,110]:List Int),true,false,false,false,(0:Int),(0:Int),(0:Int),(0:Int)⟩:zR),(⟨([101,110,100]:List Int),false,false,false,false,(0:Int),(0:Int),(0:Int),(0:Int)⟩:zR),(⟨([109,97,114,107]:List Int),true,false,false,false,(0:Int),(0:Int),(0:Int),(0:Int)⟩:zR),(⟨([99,111,117,110,116]:List Int),true,true,false,false,(-1000000000000000:Int),(1000000000000000:Int),(0:Int),(0:Int)⟩:zR),(⟨([115,97,109,112,108,101]:List Int),false,true,false,true,(1:Int),(1000000000000:Int),(0:Int),(0:Int)⟩:zR),(⟨([115,101,110,100]:List Int),false,true,false,false,(0:Int),(1000000000000000:Int),(0:Int),(0:Int)⟩:zR),(⟨([114,101,99,118]:List Int),false,true,false,false,(0:Int),(1000000000000000:Int),(0:Int),(0:Int)⟩:zR),(⟨([114,117,110]:List Int),false,true,false,false,(0:Int),(63:Int),(0:Int),(0:Int)⟩:zR),(⟨([115,116,111,112]:List Int),false,true,true,false,(0:Int),(3:Int),(0:Int),(1000000000000000:Int)⟩:zR),(⟨([119,97,107,101]:List Int),false,true,false,false,(0:Int),(1000000000000000:Int),(0:Int),(0:Int)⟩:zR),(⟨([97,108,108,111,99]:List Int),false,true,true,true,(0:Int),(1000000000000000:Int),(1:Int),(1000000000000:Int)⟩:zR),(⟨([102,114,101,101]:List Int),false,true,false,false,(0:Int),(1000000000000000:Int),(0:Int),(0:Int)⟩:zR)]:List zR)))] (ac (congrArg (AV.own _) (by first | (simp;done) | (simp;omega)):(.own 1 13:AV)=.own 1 ((([(⟨([]:List Int),false,false,false,false,(0:Int),(0:Int),(0:Int),(0:Int)⟩:zR),(⟨([98,101,103,105,110]:List Int),true,false,false,false,(0:Int),(0:Int),(0:Int),(0:Int)⟩:zR),(⟨([101,110,100]:List Int),false,false,false,false,(0:Int),(0:Int),(0:Int),(0:Int)⟩:zR),(⟨([109,97,114,107]:List Int),true,false,false,false,(0:Int),(0:Int),(0:Int),(0:Int)⟩:zR),(⟨([99,111,117,110,116]:List Int),true,true,false,false,(-1000000000000000:Int),(1000000000000000:Int),(0:Int),(0:Int)⟩:zR),(⟨([115,97,109,112,108,101]:List Int),false,true,false,true,(1:Int),(1000000000000:Int),(0:Int),(0:Int)⟩:zR),(⟨([115,101,110,100]:List Int),false,true,false,false,(0:Int),(1000000000000000:Int),(0:Int),(0:Int)⟩:zR),(⟨([114,101,99,118]:List Int),false,true,false,false,(0:Int),(1000000000000000:Int),(0:Int),(0:Int)⟩:zR),(⟨([114,117,110]:List Int),false,true,false,false,(0:Int),(63:Int),(0:Int),(0:Int)⟩:zR),(⟨([115,116,111,112]:List Int),false,true,true,false,(0:Int),(3:Int),(0:Int),(1000000000000000:Int)⟩:zR),(⟨([119,97,107,101]:List Int),false,true,false,false,(0:Int),(1000000000000000:Int),(0:Int),(0:Int)⟩:zR),(⟨([97,108,108,111,99]:List Int),false,true,true,true,(0:Int),(1000000000000000:Int),(1:Int),(1000000000000:Int)⟩:zR),(⟨([102,114,101,101]:List Int),false,true,false,false,(0:Int),(1000000000000000:Int),(0:Int),(0:Int)⟩:zR)]:List zR)).length)) an) ?_
 refine rt ?_
 cases h
 exact ⟨.inr rfl,Nat.le_of_ble_eq_true rfl,by kernel_rfl⟩
theorem zGb (k_1:Int) (r:zR×Bool) (h:nS k_1=some r):zM prog 75 [] [] [Ii k_1] [] (.tuple [yX r.1,.bool r.2]):=by
 refine zS (fn:=Go.Proofs.Try.f75) (code:=z6 Go.Proofs.Try.f75) (by kernel_rfl) (by kernel_rfl) (Nat.le_of_ble_eq_true (by kernel_rfl)) ?_
 unfold nS at h
 refine sr [(0,{ id:=0 })] [0,2] [0] 1 [Ii k_1,Pp 0] [Vb 103 [.str ([]:List Int),.bool false,.bool false,.bool false,.bool false,Ii 0,Ii 0,Ii 0,Ii 0]] zD an ?_
 refine sq ?_
 obtain ⟨r_1,h_1,h⟩:=bind_some h
 refine rg [(0,{ av:=.own 0 ((r_1).length),ids:=[1],l:=[],post:=[(.row 103 9 (Mp yX r_1))] })] [0,2,4] [0,1] 2 [Ii k_1,Pp 0,.own 1 ((r_1).length)] [Vb 103 [.str ([]:List Int),.bool false,.bool false,.bool false,.bool false,Ii 0,Ii 0,Ii 0,Ii 0],Rb 103 9 (Mp yX r_1)] zD (ar ([]:List AV) (ac (rfl:([]:List zP)=[]) (ac (zHw r_1 h_1:zM prog 94 [] [] [] [(.row 103 9 (Mp yX r_1))] (.own 0 ((r_1).length))) an))) ?_
 refine sq ?_
 refine sq ?_
 refine zX (mk [(0,Ii k_1),(2,Pp 0),(4,.own 1 ((r_1).length)),(13,.bool (decide (k_1<(1:Int))||decide (k_1≥(lN (r_1)))))] [(0,Vb 103 [.str ([]:List Int),.bool false,.bool false,.bool false,.bool false,Ii 0,Ii 0,Ii 0,Ii 0]),(1,Rb 103 9 (Mp yX r_1))] 2) ?_ ?_
 ·rcases bft (decide (k_1<(1:Int))) with gg_1 | gg_1
  ·refine rg [(3,Hg),(4,Hg),(5,Hg),(6,Hg),(7,Ht)] [0,2,4,13] [0,1] 2 [Ii k_1,Pp 0,.own 1 ((r_1).length),.bool true] [Vb 103 [.str ([]:List Int),.bool false,.bool false,.bool false,.bool false,Ii 0,Ii 0,Ii 0,Ii 0],Rb 103 9 (Mp yX r_1)] zD (ac gg_1 (ac gg_1 (ac gg_1 (ac gg_1 (ac gg_1 an))))) ?_
   exact ⟨rfl,(sw [0,1] [] [.s 0,.s 2,.s 4,.a 13 (.bool (decide (k_1<(1:Int))||decide (k_1≥(lN (r_1)))))] [.s 0,.s 1] (ac (congrArg AV.bool (ort gg_1):(.bool true:AV)=.bool (decide (k_1<(1:Int))||decide (k_1≥(lN (r_1))))) an))⟩
  ·refine rg [(7,Hf)] [0,2,4,13] [0,1] 2 [Ii k_1,Pp 0,.own 1 ((r_1).length),.bool (decide (k_1≥(lN (r_1))))] [Vb 103 [.str ([]:List Int),.bool false,.bool false,.bool false,.bool false,Ii 0,Ii 0,Ii 0,Ii 0],Rb 103 9 (Mp yX r_1)] zD (ac gg_1 (ac gg_1 (ac gg_1 (ac gg_1 (ac gg_1 an))))) ?_
   exact ⟨rfl,(sw [0,1] [] [.s 0,.s 2,.s 4,.a 13 (.bool (decide (k_1<(1:Int))||decide (k_1≥(lN (r_1)))))] [.s 0,.s 1] (ac (congrArg AV.bool (orf gg_1 rfl):(.bool (decide (k_1≥(lN (r_1)))):AV)=.bool (decide (k_1<(1:Int))||decide (k_1≥(lN (r_1))))) an))⟩
 refine cd 13 (decide (k_1<(1:Int))||decide (k_1≥(lN (r_1)))) ?_ ?_
 ·intro g_1;replace h:=zN g_1 h
  refine sr [] [2,3] [0] 2 [Pp 0,.bool false] [Vb 103 [.str ([]:List Int),.bool false,.bool false,.bool false,.bool false,Ii 0,Ii 0,Ii 0,Ii 0]] zD an ?_
  refine wk [0] [] [.s 2,.s 3] [.a 0 (Vb 103 (zZ (⟨([]:List Int),false,false,false,false,(0:Int),(0:Int),(0:Int),(0:Int)⟩:zR)))] [(2,Pp 0),(3,.bool false)] [(0,Vb 103 (zZ (⟨([]:List Int),false,false,false,false,(0:Int),(0:Int),(0:Int),(0:Int)⟩:zR)))] (ar 103 (ac (rfl:xA [.str ((⟨([]:List Int),false,false,false,false,(0:Int),(0:Int),(0:Int),(0:Int)⟩:zR).word),.bool ((⟨([]:List Int),false,false,false,false,(0:Int),(0:Int),(0:Int),(0:Int)⟩:zR).name),.bool ((⟨([]:List Int),false,false,false,false,(0:Int),(0:Int),(0:Int),(0:Int)⟩:zR).n),.bool ((⟨([]:List Int),false,false,false,false,(0:Int),(0:Int),(0:Int),(0:Int)⟩:zR).m),.bool ((⟨([]:List Int),false,false,false,false,(0:Int),(0:Int),(0:Int),(0:Int)⟩:zR).stack),Ii ((⟨([]:List Int),false,false,false,false,(0:Int),(0:Int),(0:Int),(0:Int)⟩:zR).least),Ii ((⟨([]:List Int),false,false,false,false,(0:Int),(0:Int),(0:Int),(0:Int)⟩:zR).most),Ii ((⟨([]:List Int),false,false,false,false,(0:Int),(0:Int),(0:Int),(0:Int)⟩:zR).mLeast),Ii ((⟨([]:List Int),false,false,false,false,(0:Int),(0:Int),(0:Int),(0:Int)⟩:zR).mMost)]=true) (ac (rfl:(.str ([]:List Int):AV)=.str ((⟨([]:List Int),false,false,false,false,(0:Int),(0:Int),(0:Int),(0:Int)⟩:zR).word)) (ac (rfl:(.bool false:AV)=.bool ((⟨([]:List Int),false,false,false,false,(0:Int),(0:Int),(0:Int),(0:Int)⟩:zR).name)) (ac (rfl:(.bool false:AV)=.bool ((⟨([]:List Int),false,false,false,false,(0:Int),(0:Int),(0:Int),(0:Int)⟩:zR).n)) (ac (rfl:(.bool false:AV)=.bool ((⟨([]:List Int),false,false,false,false,(0:Int),(0:Int),(0:Int),(0:Int)⟩:zR).m)) (ac (rfl:(.bool false:AV)=.bool ((⟨([]:List Int),false,false,false,false,(0:Int),(0:Int),(0:Int),(0:Int)⟩:zR).stack)) (ac (rfl:(Ii 0:AV)=Ii ((⟨([]:List Int),false,false,false,false,(0:Int),(0:Int),(0:Int),(0:Int)⟩:zR).least)) (ac (rfl:(Ii 0:AV)=Ii ((⟨([]:List Int),false,false,false,false,(0:Int),(0:Int),(0:Int),(0:Int)⟩:zR).most)) (ac (rfl:(Ii 0:AV)=Ii ((⟨([]:List Int),false,false,false,false,(0:Int),(0:Int),(0:Int),(0:Int)⟩:zR).mLeast)) (ac (rfl:(Ii 0:AV)=Ii ((⟨([]:List Int),false,false,false,false,(0:Int),(0:Int),(0:Int),(0:Int)⟩:zR).mMost)) an))))))))))) ?_
  refine rt ?_
  cases h
  exact ⟨.inr rfl,Nat.le_of_ble_eq_true rfl,by kernel_rfl⟩
 intro g_1;replace h:=zO g_1 h
 refine sk ?_
 refine sq ?_
 obtain ⟨x_1,h_2,h⟩:=bind_some h
 refine rg [(3,{ av:=yX x_1 })] [2,3] [0] 2 [Pp 0,.bool true] [Vb 103 (zZ x_1)] zD (ac (wQ h_2:(0:Int)≤k_1) (ac (by first | (simp;done) | simpa using wR h_2:k_1<(((r_1).length:Nat):Int)) (ac (vP h_2:(Mp yX r_1)[(k_1).toNat]?=some (yX x_1)) an))) ?_
 refine wk [0] [] [.s 2,.s 3] [.s 0] [(2,Pp 0),(3,.bool true)] [(0,Vb 103 (zZ x_1))] an ?_
 refine rt ?_
 cases h
 exact ⟨.inr rfl,Nat.le_of_ble_eq_true rfl,by kernel_rfl⟩
theorem zCj (s_1:List Int) (c_1:Int) (r:Int) (h:qV s_1 c_1=some r):zM prog 101 [] [] [.str s_1,Iu c_1] [] (Ii r):=by
 refine zS (fn:=Go.Proofs.Try.f101) (code:=z6 Go.Proofs.Try.f101) (by kernel_rfl) (by kernel_rfl) (Nat.le_of_ble_eq_true (by kernel_rfl)) ?_
 unfold qV at h
 refine sr [] [0,1] [] 0 [.str s_1,Iu c_1] [] zD an ?_
 refine sr [] [4] [] 0 [Ii (uF s_1 c_1)] [] zD (ac (zNE:zGM prog 102) an) ?_
 refine rt ?_
 cases h
 exact ⟨.inr rfl,Nat.le_of_ble_eq_true rfl,by kernel_rfl⟩
theorem wJ (s_1:List Int) (c_1:Int) (r:Int) (h:xZ s_1 c_1=some r):zM prog 100 [] [] [.str s_1,Iu c_1] [] (Ii r):=by
 refine zS (fn:=Go.Proofs.Try.f100) (code:=z6 Go.Proofs.Try.f100) (by kernel_rfl) (by kernel_rfl) (Nat.le_of_ble_eq_true (by kernel_rfl)) ?_
 unfold xZ at h
 refine sr [] [0,1] [] 0 [.str s_1,Iu c_1] [] zD an ?_
 refine sq ?_
 obtain ⟨r_1,h_1,h⟩:=bind_some h
 refine rg [(2,{ av:=Ii r_1,l:=[.str s_1,Iu c_1] })] [4] [] 0 [Ii r_1] [] zD (ar ([.str s_1,Iu c_1]:List AV) (ac (rfl:([]:List zP)=[]) (ac (zCj s_1 c_1 r_1 h_1:zM prog 101 [] [] [.str s_1,Iu c_1] [] (Ii r_1)) an))) ?_
 refine rt ?_
 cases h
 exact ⟨.inr rfl,Nat.le_of_ble_eq_true rfl,by kernel_rfl⟩
theorem zFM (c_1:Int) (r:Bool) (h:pT c_1=some r):zM prog 95 [] [] [Iu c_1] [] (.bool r):=by
 refine zS (fn:=Go.Proofs.Try.f95) (code:=z6 Go.Proofs.Try.f95) (by kernel_rfl) (by kernel_rfl) (Nat.le_of_ble_eq_true (by kernel_rfl)) ?_
 unfold pT at h
 refine sr [] [0] [] 0 [Iu c_1] [] zD an ?_
 refine sq ?_
 obtain ⟨p_1,h_2,h⟩:=bind_some h
 refine zX (mk [(2,.bool p_1)] [] 0) ?_ ?_
 ·replace h:=h_2
  rcases bft (decide (c_1≥(97:Int))) with gg_1 | gg_1
  ·replace h:=zN gg_1 h
   rcases bft (decide (c_1≤(122:Int))) with gg_2 | gg_2
   ·replace h:=zN gg_2 h
    refine rg [(5,Ht),(7,Hg),(8,Hg),(9,Hg),(12,Hg),(13,Ht),(15,Hg),(16,Hg),(17,Hg),(20,Hg),(21,Ht),(23,Hg),(24,Hg),(25,Hg),(26,Ht)] [2] [] 0 [.bool true] [] zD (ac gg_1 (ac gg_1 (ac gg_1 (ac gg_2 (ac gg_2 (ac gg_2 (ac gg_2 (ac gg_2 (ax (ax (ax (ax (ar true (ax (ax (ax (ar true an))))))))))))))))) ?_
    cases h
    exact ⟨rfl,(sw [] [] [.s 2] [] an)⟩
   ·replace h:=zO gg_2 h
    rcases bft (decide (c_1≥(65:Int))) with gg_3 | gg_3
    ·replace h:=zN gg_3 h
     rcases bft (decide (c_1≤(90:Int))) with gg_4 | gg_4
     ·replace h:=zN gg_4 h
      refine rg [(5,Ht),(12,Ht),(13,Hf),(15,Hg),(16,Hg),(17,Hg),(20,Hg),(21,Ht),(23,Hg),(24,Hg),(25,Hg),(26,Ht)] [2] [] 0 [.bool true] [] zD (ac gg_1 (ac gg_1 (ac gg_1 (ac gg_2 (ac gg_2 (ac gg_2 (ac gg_3 (ac gg_3 (ac gg_2 (ac gg_3 (ac gg_2 (ac gg_4 (ac gg_4 (ac gg_4 (ac gg_4 (ac gg_4 (ax (ax (ax (ar true an)))))))))))))))))))) ?_
      cases h
      exact ⟨rfl,(sw [] [] [.s 2] [] an)⟩
     ·replace h:=zO gg_4 h
      rcases bft (decide (c_1≥(48:Int))) with gg_5 | gg_5
      ·replace h:=zN gg_5 h
       rcases bft (decide (c_1≤(57:Int))) with gg_6 | gg_6
       ·replace h:=zN gg_6 h
        refine rg [(5,Ht),(12,Ht),(13,Hf),(20,Ht),(21,Hf),(23,Hg),(24,Hg),(25,Hg),(26,Ht)] [2] [] 0 [.bool true] [] zD (ac gg_1 (ac gg_1 (ac gg_1 (ac gg_2 (ac gg_2 (ac gg_2 (ac gg_3 (ac gg_3 (ac gg_2 (ac gg_3 (ac gg_2 (ac gg_4 (ac gg_4 (ac gg_4 (ac gg_5 (ac gg_5 (ac gg_4 (ac gg_5 (ac gg_4 (ac gg_6 (ac gg_6 (ac gg_6 (ac gg_6 an))))))))))))))))))))))) ?_
        cases h
        exact ⟨rfl,(sw [] [] [.s 2] [] an)⟩
       ·replace h:=zO gg_6 h
        obtain ⟨r_1,h_1,h⟩:=bind_some h
        refine rg [(5,Ht),(12,Ht),(13,Hf),(20,Ht),(21,Hf),(24,{ av:=Ii r_1,l:=[.str ([95,46,58,47,60,62,36,42,126,45]:List Int),Iu c_1] }),(26,Hf)] [2] [] 0 [.bool (decide (r_1≥(0:Int)))] [] zD (ac gg_1 (ac gg_1 (ac gg_1 (ac gg_2 (ac gg_2 (ac gg_2 (ac gg_3 (ac gg_3 (ac gg_2 (ac gg_3 (ac gg_2 (ac gg_4 (ac gg_4 (ac gg_4 (ac gg_5 (ac gg_5 (ac gg_4 (ac gg_5 (ac gg_4 (ac gg_6 (ac gg_6 (ar ([.str ([95,46,58,47,60,62,36,42,126,45]:List Int),Iu c_1]:List AV) (ac (rfl:([]:List zP)=[]) (ac (wJ ([95,46,58,47,60,62,36,42,126,45]:List Int) c_1 r_1 h_1:zM prog 100 [] [] [.str ([95,46,58,47,60,62,36,42,126,45]:List Int),Iu c_1] [] (Ii r_1)) (ac gg_6 (ac gg_6 an)))))))))))))))))))))))))) ?_
        cases h
        exact ⟨rfl,(sw [] [] [.s 2] [] an)⟩
      ·replace h:=zO gg_5 h
       obtain ⟨r_1,h_1,h⟩:=bind_some h
       refine rg [(5,Ht),(12,Ht),(13,Hf),(18,Hg),(19,Hg),(20,Hf),(21,Hf),(24,{ av:=Ii r_1,l:=[.str ([95,46,58,47,60,62,36,42,126,45]:List Int),Iu c_1] }),(26,Hf)] [2] [] 0 [.bool (decide (r_1≥(0:Int)))] [] zD (ac gg_1 (ac gg_1 (ac gg_1 (ac gg_2 (ac gg_2 (ac gg_2 (ac gg_3 (ac gg_3 (ac gg_2 (ac gg_3 (ac gg_2 (ac gg_4 (ac gg_4 (ac gg_4 (ac gg_5 (ac gg_5 (ac gg_4 (ac gg_5 (ac gg_4 (ar false (ar false (ar ([.str ([95,46,58,47,60,62,36,42,126,45]:List Int),Iu c_1]:List AV) (ac (rfl:([]:List zP)=[]) (ac (wJ ([95,46,58,47,60,62,36,42,126,45]:List Int) c_1 r_1 h_1:zM prog 100 [] [] [.str ([95,46,58,47,60,62,36,42,126,45]:List Int),Iu c_1] [] (Ii r_1)) (ar false (ar false an)))))))))))))))))))))))))) ?_
       cases h
       exact ⟨rfl,(sw [] [] [.s 2] [] an)⟩
    ·replace h:=zO gg_3 h
     rcases bft (decide (c_1≥(48:Int))) with gg_7 | gg_7
     ·replace h:=zN gg_7 h
      rcases bft (decide (c_1≤(57:Int))) with gg_8 | gg_8
      ·replace h:=zN gg_8 h
       refine rg [(5,Ht),(10,Hg),(11,Hg),(12,Hf),(13,Hf),(20,Ht),(21,Hf),(23,Hg),(24,Hg),(25,Hg),(26,Ht)] [2] [] 0 [.bool true] [] zD (ac gg_1 (ac gg_1 (ac gg_1 (ac gg_2 (ac gg_2 (ac gg_2 (ac gg_3 (ac gg_3 (ac gg_2 (ac gg_3 (ac gg_2 (ar false (ar false (ar false (ac gg_7 (ac gg_7 (ar false (ac gg_7 (ar false (ac gg_8 (ac gg_8 (ac gg_8 (ac gg_8 an))))))))))))))))))))))) ?_
       cases h
       exact ⟨rfl,(sw [] [] [.s 2] [] an)⟩
      ·replace h:=zO gg_8 h
       obtain ⟨r_1,h_1,h⟩:=bind_some h
       refine rg [(5,Ht),(10,Hg),(11,Hg),(12,Hf),(13,Hf),(20,Ht),(21,Hf),(24,{ av:=Ii r_1,l:=[.str ([95,46,58,47,60,62,36,42,126,45]:List Int),Iu c_1] }),(26,Hf)] [2] [] 0 [.bool (decide (r_1≥(0:Int)))] [] zD (ac gg_1 (ac gg_1 (ac gg_1 (ac gg_2 (ac gg_2 (ac gg_2 (ac gg_3 (ac gg_3 (ac gg_2 (ac gg_3 (ac gg_2 (ar false (ar false (ar false (ac gg_7 (ac gg_7 (ar false (ac gg_7 (ar false (ac gg_8 (ac gg_8 (ar ([.str ([95,46,58,47,60,62,36,42,126,45]:List Int),Iu c_1]:List AV) (ac (rfl:([]:List zP)=[]) (ac (wJ ([95,46,58,47,60,62,36,42,126,45]:List Int) c_1 r_1 h_1:zM prog 100 [] [] [.str ([95,46,58,47,60,62,36,42,126,45]:List Int),Iu c_1] [] (Ii r_1)) (ac gg_8 (ac gg_8 an)))))))))))))))))))))))))) ?_
       cases h
       exact ⟨rfl,(sw [] [] [.s 2] [] an)⟩
     ·replace h:=zO gg_7 h
      obtain ⟨r_1,h_1,h⟩:=bind_some h
      refine rg [(5,Ht),(10,Hg),(11,Hg),(12,Hf),(13,Hf),(18,Hg),(19,Hg),(20,Hf),(21,Hf),(24,{ av:=Ii r_1,l:=[.str ([95,46,58,47,60,62,36,42,126,45]:List Int),Iu c_1] }),(26,Hf)] [2] [] 0 [.bool (decide (r_1≥(0:Int)))] [] zD (ac gg_1 (ac gg_1 (ac gg_1 (ac gg_2 (ac gg_2 (ac gg_2 (ac gg_3 (ac gg_3 (ac gg_2 (ac gg_3 (ac gg_2 (ar false (ar false (ar false (ac gg_7 (ac gg_7 (ar false (ac gg_7 (ar false (ar false (ar false (ar ([.str ([95,46,58,47,60,62,36,42,126,45]:List Int),Iu c_1]:List AV) (ac (rfl:([]:List zP)=[]) (ac (wJ ([95,46,58,47,60,62,36,42,126,45]:List Int) c_1 r_1 h_1:zM prog 100 [] [] [.str ([95,46,58,47,60,62,36,42,126,45]:List Int),Iu c_1] [] (Ii r_1)) (ar false (ar false an)))))))))))))))))))))))))) ?_
      cases h
      exact ⟨rfl,(sw [] [] [.s 2] [] an)⟩
  ·replace h:=zO gg_1 h
   rcases bft (decide (c_1≥(65:Int))) with gg_9 | gg_9
   ·replace h:=zN gg_9 h
    rcases bft (decide (c_1≤(90:Int))) with gg_10 | gg_10
    ·replace h:=zN gg_10 h
     refine rg [(3,Hg),(4,Hg),(5,Hf),(12,Ht),(13,Hf),(15,Hg),(16,Hg),(17,Hg),(20,Hg),(21,Ht),(23,Hg),(24,Hg),(25,Hg),(26,Ht)] [2] [] 0 [.bool true] [] zD (ac gg_1 (ac gg_1 (ac gg_1 (ar false (ar false (ar false (ac gg_9 (ac gg_9 (ar false (ac gg_9 (ar false (ac gg_10 (ac gg_10 (ac gg_10 (ac gg_10 (ac gg_10 (ax (ax (ax (ar true an)))))))))))))))))))) ?_
     cases h
     exact ⟨rfl,(sw [] [] [.s 2] [] an)⟩
    ·replace h:=zO gg_10 h
     rcases bft (decide (c_1≥(48:Int))) with gg_11 | gg_11
     ·replace h:=zN gg_11 h
      rcases bft (decide (c_1≤(57:Int))) with gg_12 | gg_12
      ·replace h:=zN gg_12 h
       refine rg [(3,Hg),(4,Hg),(5,Hf),(12,Ht),(13,Hf),(20,Ht),(21,Hf),(23,Hg),(24,Hg),(25,Hg),(26,Ht)] [2] [] 0 [.bool true] [] zD (ac gg_1 (ac gg_1 (ac gg_1 (ar false (ar false (ar false (ac gg_9 (ac gg_9 (ar false (ac gg_9 (ar false (ac gg_10 (ac gg_10 (ac gg_10 (ac gg_11 (ac gg_11 (ac gg_10 (ac gg_11 (ac gg_10 (ac gg_12 (ac gg_12 (ac gg_12 (ac gg_12 an))))))))))))))))))))))) ?_
       cases h
       exact ⟨rfl,(sw [] [] [.s 2] [] an)⟩
      ·replace h:=zO gg_12 h
       obtain ⟨r_1,h_1,h⟩:=bind_some h
       refine rg [(3,Hg),(4,Hg),(5,Hf),(12,Ht),(13,Hf),(20,Ht),(21,Hf),(24,{ av:=Ii r_1,l:=[.str ([95,46,58,47,60,62,36,42,126,45]:List Int),Iu c_1] }),(26,Hf)] [2] [] 0 [.bool (decide (r_1≥(0:Int)))] [] zD (ac gg_1 (ac gg_1 (ac gg_1 (ar false (ar false (ar false (ac gg_9 (ac gg_9 (ar false (ac gg_9 (ar false (ac gg_10 (ac gg_10 (ac gg_10 (ac gg_11 (ac gg_11 (ac gg_10 (ac gg_11 (ac gg_10 (ac gg_12 (ac gg_12 (ar ([.str ([95,46,58,47,60,62,36,42,126,45]:List Int),Iu c_1]:List AV) (ac (rfl:([]:List zP)=[]) (ac (wJ ([95,46,58,47,60,62,36,42,126,45]:List Int) c_1 r_1 h_1:zM prog 100 [] [] [.str ([95,46,58,47,60,62,36,42,126,45]:List Int),Iu c_1] [] (Ii r_1)) (ac gg_12 (ac gg_12 an)))))))))))))))))))))))))) ?_
       cases h
       exact ⟨rfl,(sw [] [] [.s 2] [] an)⟩
     ·replace h:=zO gg_11 h
      obtain ⟨r_1,h_1,h⟩:=bind_some h
      refine rg [(3,Hg),(4,Hg),(5,Hf),(12,Ht),(13,Hf),(18,Hg),(19,Hg),(20,Hf),(21,Hf),(24,{ av:=Ii r_1,l:=[.str ([95,46,58,47,60,62,36,42,126,45]:List Int),Iu c_1] }),(26,Hf)] [2] [] 0 [.bool (decide (r_1≥(0:Int)))] [] zD (ac gg_1 (ac gg_1 (ac gg_1 (ar false (ar false (ar false (ac gg_9 (ac gg_9 (ar false (ac gg_9 (ar false (ac gg_10 (ac gg_10 (ac gg_10 (ac gg_11 (ac gg_11 (ac gg_10 (ac gg_11 (ac gg_10 (ar false (ar false (ar ([.str ([95,46,58,47,60,62,36,42,126,45]:List Int),Iu c_1]:List AV) (ac (rfl:([]:List zP)=[]) (ac (wJ ([95,46,58,47,60,62,36,42,126,45]:List Int) c_1 r_1 h_1:zM prog 100 [] [] [.str ([95,46,58,47,60,62,36,42,126,45]:List Int),Iu c_1] [] (Ii r_1)) (ar false (ar false an)))))))))))))))))))))))))) ?_
      cases h
      exact ⟨rfl,(sw [] [] [.s 2] [] an)⟩
   ·replace h:=zO gg_9 h
    rcases bft (decide (c_1≥(48:Int))) with gg_13 | gg_13
    ·replace h:=zN gg_13 h
     rcases bft (decide (c_1≤(57:Int))) with gg_14 | gg_14
     ·replace h:=zN gg_14 h
      refine rg [(3,Hg),(4,Hg),(5,Hf),(10,Hg),(11,Hg),(12,Hf),(13,Hf),(20,Ht),(21,Hf),(23,Hg),(24,Hg),(25,Hg),(26,Ht)] [2] [] 0 [.bool true] [] zD (ac gg_1 (ac gg_1 (ac gg_1 (ar false (ar false (ar false (ac gg_9 (ac gg_9 (ar false (ac gg_9 (ar false (ar false (ar false (ar false (ac gg_13 (ac gg_13 (ar false (ac gg_13 (ar false (ac gg_14 (ac gg_14 (ac gg_14 (ac gg_14 an))))))))))))))))))))))) ?_
      cases h
      exact ⟨rfl,(sw [] [] [.s 2] [] an)⟩
     ·replace h:=zO gg_14 h
      obtain ⟨r_1,h_1,h⟩:=bind_some h
      refine rg [(3,Hg),(4,Hg),(5,Hf),(10,Hg),(11,Hg),(12,Hf),(13,Hf),(20,Ht),(21,Hf),(24,{ av:=Ii r_1,l:=[.str ([95,46,58,47,60,62,36,42,126,45]:List Int),Iu c_1] }),(26,Hf)] [2] [] 0 [.bool (decide (r_1≥(0:Int)))] [] zD (ac gg_1 (ac gg_1 (ac gg_1 (ar false (ar false (ar false (ac gg_9 (ac gg_9 (ar false (ac gg_9 (ar false (ar false (ar false (ar false (ac gg_13 (ac gg_13 (ar false (ac gg_13 (ar false (ac gg_14 (ac gg_14 (ar ([.str ([95,46,58,47,60,62,36,42,126,45]:List Int),Iu c_1]:List AV) (ac (rfl:([]:List zP)=[]) (ac (wJ ([95,46,58,47,60,62,36,42,126,45]:List Int) c_1 r_1 h_1:zM prog 100 [] [] [.str ([95,46,58,47,60,62,36,42,126,45]:List Int),Iu c_1] [] (Ii r_1)) (ac gg_14 (ac gg_14 an)))))))))))))))))))))))))) ?_
      cases h
      exact ⟨rfl,(sw [] [] [.s 2] [] an)⟩
    ·replace h:=zO gg_13 h
     obtain ⟨r_1,h_1,h⟩:=bind_some h
     refine rg [(3,Hg),(4,Hg),(5,Hf),(10,Hg),(11,Hg),(12,Hf),(13,Hf),(18,Hg),(19,Hg),(20,Hf),(21,Hf),(24,{ av:=Ii r_1,l:=[.str ([95,46,58,47,60,62,36,42,126,45]:List Int),Iu c_1] }),(26,Hf)] [2] [] 0 [.bool (decide (r_1≥(0:Int)))] [] zD (ac gg_1 (ac gg_1 (ac gg_1 (ar false (ar false (ar false (ac gg_9 (ac gg_9 (ar false (ac gg_9 (ar false (ar false (ar false (ar false (ac gg_13 (ac gg_13 (ar false (ac gg_13 (ar false (ar false (ar false (ar ([.str ([95,46,58,47,60,62,36,42,126,45]:List Int),Iu c_1]:List AV) (ac (rfl:([]:List zP)=[]) (ac (wJ ([95,46,58,47,60,62,36,42,126,45]:List Int) c_1 r_1 h_1:zM prog 100 [] [] [.str ([95,46,58,47,60,62,36,42,126,45]:List Int),Iu c_1] [] (Ii r_1)) (ar false (ar false an)))))))))))))))))))))))))) ?_
     cases h
     exact ⟨rfl,(sw [] [] [.s 2] [] an)⟩
 refine rt ?_
 cases h
 exact ⟨.inr rfl,Nat.le_of_ble_eq_true rfl,by kernel_rfl⟩
theorem n9 (F:Nat) (s_1:List Int) (r:Int) (h:jK F s_1=some r):zM prog 78 [] [] [.str s_1] [] (Ii r):=by
 refine zS (fn:=Go.Proofs.Try.f78) (code:=z6 Go.Proofs.Try.f78) (by kernel_rfl) (by kernel_rfl) (Nat.le_of_ble_eq_true (by kernel_rfl)) ?_
 unfold jK at h
 refine sr [] [0] [] 0 [.str s_1] [] zD an ?_
 refine sq ?_
 refine sq ?_
 refine zX (mk [(0,.str s_1),(10,.bool ((s_1==([]:List Int))||decide ((lN (s_1))>(40:Int))))] [] 0) ?_ ?_
 ·rcases bft (s_1==([]:List Int)) with gg_1 | gg_1
  ·refine rg [(3,Hg),(4,Hg),(5,Hg),(6,Ht)] [0,10] [] 0 [.str s_1,.bool true] [] zD (ac gg_1 (ac gg_1 (ac gg_1 (ac gg_1 an)))) ?_
   exact ⟨rfl,(sw [] [] [.s 0,.a 10 (.bool ((s_1==([]:List Int))||decide ((lN (s_1))>(40:Int))))] [] (ac (congrArg AV.bool (ort gg_1):(.bool true:AV)=.bool ((s_1==([]:List Int))||decide ((lN (s_1))>(40:Int)))) an))⟩
  ·refine rg [(6,Hf)] [0,10] [] 0 [.str s_1,.bool (decide ((lN (s_1))>(40:Int)))] [] zD (ac gg_1 (ac gg_1 (ac gg_1 (ac gg_1 an)))) ?_
   exact ⟨rfl,(sw [] [] [.s 0,.a 10 (.bool ((s_1==([]:List Int))||decide ((lN (s_1))>(40:Int))))] [] (ac (congrArg AV.bool (orf gg_1 rfl):(.bool (decide ((lN (s_1))>(40:Int))):AV)=.bool ((s_1==([]:List Int))||decide ((lN (s_1))>(40:Int)))) an))⟩
 refine cd 10 ((s_1==([]:List Int))||decide ((lN (s_1))>(40:Int))) ?_ ?_
 ·intro g_1;replace h:=zN g_1 h
  refine sr [] [2] [] 0 [Ii 3] [] zD an ?_
  refine rt ?_
  cases h
  exact ⟨.inr rfl,Nat.le_of_ble_eq_true rfl,by kernel_rfl⟩
 intro g_1;replace h:=zO g_1 h
 refine sk ?_
 refine sq ?_
 refine sr [] [0,12,13] [] 0 [.str s_1,Ii (lN (s_1)),Ii 0] [] zD an ?_
 obtain ⟨o_1,h_1,h⟩:=bind_some h
 refine yZ (K1:=(fun e st'=>match o_1 with | (.inl q0)=>e=.normal∧Sub 0 st' (mk [] [] 0) | (.inr q1)=>e=.ret∧vS prog Go.Proofs.Try.f78 0 [] (Ii q1) st')) ?_ ?_
 ·replace h:=h_1
  refine zT (id:=0) (by kernel_rfl) ?_
  refine wk [] [] [.s 0,.s 12,.s 13] [] [(0,.str s_1),(12,Ii (lN (s_1))),(13,Ii 0)] [] an ?_
  refine yF (fun n st=>∃ (v_1:Int),st=mk [(0,.str s_1),(12,Ii (lN (s_1))),(13,Ii v_1)] [] 0∧kZ F s_1 n v_1=some o_1) F (by kernel_rfl) ⟨_,rfl,h⟩ ?_ ?_
  ·rintro _ ⟨_,_,h⟩;exact yM (h:(none:Option (Unit⊕Int))=some o_1)
  rintro n_1 _ ⟨v_1,rfl,h⟩
  replace h:t6 F s_1 (kZ F s_1 n_1) v_1=some o_1:=h
  unfold t6 at h
  refine sr [] [0,12,13,14] [] 0 [.str s_1,Ii (lN (s_1)),Ii v_1,.bool (decide (v_1<(lN (s_1))))] [] zD an ?_
  refine sq ?_
  refine cd 14 (decide (v_1<(lN (s_1)))) ?_ ?_
  rotate_left
  ·intro g_2;replace h:=zO g_2 h
   refine yL (id:=0) (by kernel_rfl) ?_
   cases h
   exact ⟨rfl,(sw [] [] [] [] an)⟩
  intro g_2;replace h:=zN g_2 h
  refine sk ?_
  refine sq ?_
  refine zT (id:=1) (by kernel_rfl) ?_
  refine sr [] [0,3,12,13] [] 0 [.str s_1,Ii v_1,Ii (lN (s_1)),Ii v_1] [] zD an ?_
  refine sq ?_
  obtain ⟨c_1,h_2,h⟩:=bind_some h
  obtain ⟨r_1,h_3,h⟩:=bind_some h
  refine rg [(2,{ z:=c_1 }),(3,{ av:=.bool r_1,l:=[Iu c_1] })] [0,12,13,20] [] 0 [.str s_1,Ii (lN (s_1)),Ii v_1,.bool (!r_1)] [] zD (ac h_2 (ar ([Iu c_1]:List AV) (ac (rfl:([]:List zP)=[]) (ac (zFM c_1 r_1 h_3:zM prog 95 [] [] [Iu c_1] [] (.bool r_1)) an)))) ?_
  refine cd 20 (!r_1) ?_ ?_
  rotate_left
  ·intro g_3;replace h:=zO g_3 h
   refine sk ?_
   refine rg [] [0,12,13] [] 0 [.str s_1,Ii (lN (s_1)),Ii (zK (v_1+(1:Int)))] [] zD an ?_
   exact ⟨_,(sw [] [] [.s 0,.s 12,.s 13] [] an),_,rfl,h⟩
  intro g_3;replace h:=zN g_3 h
  refine sr [] [2] [] 0 [Ii 3] [] zD an ?_
  refine rt ?_
  cases h
  exact ⟨rfl,Nat.le_of_ble_eq_true rfl,by kernel_rfl⟩
 intro e st1 hk
 rcases o_1 with q_1 | q_2
 rotate_left
 ·obtain ⟨rfl,hf⟩:=hk
  cases h
  exact ⟨st1,Sub.refl _ _,.inr rfl,hf⟩
 obtain ⟨rfl,hs⟩:=hk
 refine ⟨_,hs,?_⟩
 refine sr [] [2] [] 0 [Ii 0] [] zD an ?_
 refine rt ?_
 cases h
 exact ⟨.inr rfl,Nat.le_of_ble_eq_true rfl,by kernel_rfl⟩
theorem zCn (F:Nat) (l_1:List (List Int)) (r:Int) (h:j8 F l_1=some r):zM prog 81 [] [] [.sl false 1 (Ms l_1)] [] (Ii r):=by
 refine zS (fn:=Go.Proofs.Try.f81) (code:=z6 Go.Proofs.Try.f81) (by kernel_rfl) (by kernel_rfl) (Nat.le_of_ble_eq_true (by kernel_rfl)) ?_
 unfold j8 at h
 refine sr [] [0] [] 0 [.sl false 1 (Ms l_1)] [] zD an ?_
 refine sq ?_
 refine sr [(1,{ n:=(l_1).length })] [0,8] [] 0 [.sl false 1 (Ms l_1),.bool (decide ((lN (l_1))>(32:Int)))] [] zD (ac (zY _:((Ms l_1)).length=(l_1).length) an) ?_
 refine cd 8 (decide ((lN (l_1))>(32:Int))) ?_ ?_
 ·intro g_1;replace h:=zN g_1 h
  refine sr [] [2] [] 0 [Ii 7] [] zD an ?_
  refine rt ?_
  cases h
  exact ⟨.inr rfl,Nat.le_of_ble_eq_true rfl,by kernel_rfl⟩
 intro g_1;replace h:=zO g_1 h
 refine sk ?_
 refine sq ?_
 refine sr [(1,{ n:=(l_1).length })] [9,10,11] [] 0 [.sl false 1 (Ms l_1),Ii (lN (l_1)),Ii 0] [] zD (ac (zY _:((Ms l_1)).length=(l_1).length) an) ?_
 obtain ⟨o_1,h_1,h⟩:=bind_some h
 refine yZ (K1:=(fun e st'=>match o_1 with | (.inl q0)=>e=.normal∧Sub 0 st' (mk [] [] 0) | (.inr q1)=>e=.ret∧vS prog Go.Proofs.Try.f81 0 [] (Ii q1) st')) ?_ ?_
 ·replace h:=h_1
  refine zT (id:=0) (by kernel_rfl) ?_
  refine wk [] [] [.s 9,.s 10,.s 11] [] [(9,.sl false 1 (Ms l_1)),(10,Ii (lN (l_1))),(11,Ii 0)] [] an ?_
  refine yF (fun n st=>∃ (v_1:Int),st=mk [(9,.sl false 1 (Ms l_1)),(10,Ii (lN (l_1))),(11,Ii v_1)] [] 0∧jQ F l_1 n v_1=some o_1) F (by kernel_rfl) ⟨_,rfl,h⟩ ?_ ?_
  ·rintro _ ⟨_,_,h⟩;exact yM (h:(none:Option (Unit⊕Int))=some o_1)
  rintro n_1 _ ⟨v_1,rfl,h⟩
  replace h:tE F l_1 (jQ F l_1 n_1) v_1=some o_1:=h
  unfold tE at h
  refine sr [] [9,10,11,12] [] 0 [.sl false 1 (Ms l_1),Ii (lN (l_1)),Ii v_1,.bool (decide (v_1<(lN (l_1))))] [] zD an ?_
  refine sq ?_
  refine cd 12 (decide (v_1<(lN (l_1)))) ?_ ?_
  rotate_left
  ·intro g_2;replace h:=zO g_2 h
   refine yL (id:=0) (by kernel_rfl) ?_
   cases h
   exact ⟨rfl,(sw [] [] [] [] an)⟩
  intro g_2;replace h:=zN g_2 h
  refine sk ?_
  refine sq ?_
  refine zT (id:=1) (by kernel_rfl) ?_
  refine sq ?_
  obtain ⟨x_1,h_2,h⟩:=bind_some h
  refine rg [(0,{ av:=.str x_1 })] [4,9,10,11] [] 0 [.str x_1,.sl false 1 (Ms l_1),Ii (lN (l_1)),Ii v_1] [] zD (ac (yO h_2:xD (Ms l_1) v_1=some (.str x_1)) an) ?_
  refine sq ?_
  obtain ⟨r_1,h_3,h⟩:=bind_some h
  refine rg [(1,{ av:=Ii r_1,l:=[.str x_1] })] [5,9,10,11] [] 0 [Ii r_1,.sl false 1 (Ms l_1),Ii (lN (l_1)),Ii v_1] [] zD (ar ([.str x_1]:List AV) (ac (rfl:([]:List zP)=[]) (ac (n9 F x_1 r_1 h_3:zM prog 78 [] [] [.str x_1] [] (Ii r_1)) an))) ?_
  refine sr [] [5,9,10,11,18] [] 0 [Ii r_1,.sl false 1 (Ms l_1),Ii (lN (l_1)),Ii v_1,.bool (r_1 != (0:Int))] [] zD an ?_
  refine cd 18 (r_1 != (0:Int)) ?_ ?_
  rotate_left
  ·intro g_3;replace h:=zO g_3 h
   refine sk ?_
   refine rg [] [9,10,11] [] 0 [.sl false 1 (Ms l_1),Ii (lN (l_1)),Ii (zK (v_1+(1:Int)))] [] zD an ?_
   exact ⟨_,(sw [] [] [.s 9,.s 10,.s 11] [] an),_,rfl,h⟩
  intro g_3;replace h:=zN g_3 h
  refine sr [] [2] [] 0 [Ii r_1] [] zD an ?_
  refine rt ?_
  cases h
  exact ⟨rfl,Nat.le_of_ble_eq_true rfl,by kernel_rfl⟩
 intro e st1 hk
 rcases o_1 with q_1 | q_2
 rotate_left
 ·obtain ⟨rfl,hf⟩:=hk
  cases h
  exact ⟨st1,Sub.refl _ _,.inr rfl,hf⟩
 obtain ⟨rfl,hs⟩:=hk
 refine ⟨_,hs,?_⟩
 refine sr [] [2] [] 0 [Ii 0] [] zD an ?_
 refine rt ?_
 cases h
 exact ⟨.inr rfl,Nat.le_of_ble_eq_true rfl,by kernel_rfl⟩
theorem zHt (F:Nat) (f_1:zR) (e_1:zA) (r:Int) (h:zAv F f_1 e_1=some r):zM prog 76 [] [] [yX f_1,zB e_1] [] (Ii r):=by
 refine zS (fn:=Go.Proofs.Try.f76) (code:=z6 Go.Proofs.Try.f76) (by kernel_rfl) (by kernel_rfl) (Nat.le_of_ble_eq_true (by kernel_rfl)) ?_
 unfold zAv at h
 refine sr [(0,{ id:=0 }),(1,{ id:=1 })] [2,3] [0,1] 2 [Pp 0,Pp 1] [Vb 103 (zZ f_1),Vb 33 (zJ e_1)] zD an ?_
 refine sq ?_
 refine sr [] [3,6] [1] 2 [Pp 1,.bool f_1.name] [Vb 33 (zJ e_1)] zD an ?_
 refine cd 6 f_1.name ?_ ?_
 ·intro g_1;replace h:=zN g_1 h
  refine sq ?_
  obtain ⟨r_1,h_1,h⟩:=bind_some h
  refine rg [(2,{ av:=Ii r_1,l:=[.str e_1.Name] })] [4] [] 2 [Ii r_1] [] zD (ar ([.str e_1.Name]:List AV) (ac (rfl:([]:List zP)=[]) (ac (n9 F e_1.Name r_1 h_1:zM prog 78 [] [] [.str e_1.Name] [] (Ii r_1)) an))) ?_
  refine rt ?_
  cases h
  exact ⟨.inr rfl,Nat.le_of_ble_eq_true rfl,by kernel_rfl⟩
 intro g_1;replace h:=zO g_1 h
 refine sk ?_
 refine sq ?_
 obtain ⟨r_2,h_2,h⟩:=bind_some h
 refine rg [(2,{ av:=Ii r_2,l:=[.sl false 1 (Ms e_1.Stack)] })] [4] [] 2 [Ii r_2] [] zD (ar ([.sl false 1 (Ms e_1.Stack)]:List AV) (ac (rfl:([]:List zP)=[]) (ac (zCn F e_1.Stack r_2 h_2:zM prog 81 [] [] [.sl false 1 (Ms e_1.Stack)] [] (Ii r_2)) an))) ?_
 refine rt ?_
 cases h
 exact ⟨.inr rfl,Nat.le_of_ble_eq_true rfl,by kernel_rfl⟩
theorem zBf (F:Nat) (e_1:zA) (r:Int) (h:jL F e_1=some r):zM prog 48 [] [] [zB e_1] [] (Ii r):=by
 refine zS (fn:=Go.Proofs.Try.f48) (code:=z6 Go.Proofs.Try.f48) (by kernel_rfl) (by kernel_rfl) (Nat.le_of_ble_eq_true (by kernel_rfl)) ?_
 unfold jL at h
 refine sr [(0,{ id:=0 })] [1] [0] 1 [Pp 0] [Vb 33 (zJ e_1)] zD an ?_
 refine sq ?_
 refine sq ?_
 refine zX (mk [(1,Pp 0),(13,.bool (decide (e_1.At<(0:Int))||decide (e_1.At>(1000000000000:Int))))] [(0,Vb 33 (zJ e_1))] 1) ?_ ?_
 ·rcases bft (decide (e_1.At<(0:Int))) with gg_1 | gg_1
  ·refine rg [(4,Hg),(5,Hg),(6,Hg),(7,Ht)] [1,13] [0] 1 [Pp 0,.bool true] [Vb 33 (zJ e_1)] zD (ac gg_1 (ac gg_1 (ac gg_1 (ac gg_1 an)))) ?_
   exact ⟨rfl,(sw [0] [] [.s 1,.a 13 (.bool (decide (e_1.At<(0:Int))||decide (e_1.At>(1000000000000:Int))))] [.s 0] (ac (congrArg AV.bool (ort gg_1):(.bool true:AV)=.bool (decide (e_1.At<(0:Int))||decide (e_1.At>(1000000000000:Int)))) an))⟩
  ·refine rg [(7,Hf)] [1,13] [0] 1 [Pp 0,.bool (decide (e_1.At>(1000000000000:Int)))] [Vb 33 (zJ e_1)] zD (ac gg_1 (ac gg_1 (ac gg_1 (ac gg_1 an)))) ?_
   exact ⟨rfl,(sw [0] [] [.s 1,.a 13 (.bool (decide (e_1.At<(0:Int))||decide (e_1.At>(1000000000000:Int))))] [.s 0] (ac (congrArg AV.bool (orf gg_1 rfl):(.bool (decide (e_1.At>(1000000000000:Int))):AV)=.bool (decide (e_1.At<(0:Int))||decide (e_1.At>(1000000000000:Int)))) an))⟩
 refine cd 13 (decide (e_1.At<(0:Int))||decide (e_1.At>(1000000000000:Int))) ?_ ?_
 ·intro g_1;replace h:=zN g_1 h
  refine sr [] [2] [] 1 [Ii 2] [] zD an ?_
  refine rt ?_
  cases h
  exact ⟨.inr rfl,Nat.le_of_ble_eq_true rfl,by kernel_rfl⟩
 intro g_1;replace h:=zO g_1 h
 refine sk ?_
 refine sq ?_
 obtain ⟨r_1,h_1,h⟩:=bind_some h
 refine rg [(2,{ av:=.tuple [yX r_1.1,.bool r_1.2],l:=[Ii e_1.Kind] }),(6,{ id:=1 })] [1,3,4] [0,1] 2 [Pp 0,Pp 1,.bool r_1.2] [Vb 33 (zJ e_1),Vb 103 (zZ r_1.1)] zD (ar ([Ii e_1.Kind]:List AV) (ac (rfl:([]:List zP)=[]) (ac (zGb e_1.Kind r_1 h_1:zM prog 75 [] [] [Ii e_1.Kind] [] (.tuple [yX r_1.1,.bool r_1.2])) an))) ?_
 refine sq ?_
 refine sq ?_
 obtain ⟨p_1,h_2,h⟩:=bind_some h
 refine zX (mk [(1,Pp 0),(3,Pp 1),(62,.bool p_1)] [(0,Vb 33 (zJ e_1)),(1,Vb 103 (zZ r_1.1))] 2) ?_ ?_
 ·replace h:=h_2
  rcases bft (!r_1.2) with gg_2 | gg_2
  ·replace h:=zN gg_2 h
   refine rg [(3,Hg),(4,Hg),(5,Hg),(6,Hg),(10,Hg),(11,Ht),(13,Hg),(14,Hg),(15,Hg),(16,Hg),(20,Hg),(21,Ht),(23,Hg),(24,Hg),(25,Hg),(26,Hg),(30,Hg),(31,Ht),(33,Hg),(34,Hg),(35,Hg),(36,Hg),(41,Hg),(42,Ht)] [1,3,62] [0,1] 2 [Pp 0,Pp 1,.bool true] [Vb 33 (zJ e_1),Vb 103 (zZ r_1.1)] zD (ac gg_2 (ac gg_2 (ac gg_2 (ac gg_2 (ac gg_2 (ac gg_2 (ax (ax (ax (ax (ax (ar true (ax (ax (ax (ax (ax (ar true (ax (ax (ax (ax (ax (ar true an)))))))))))))))))))))))) ?_
   cases h
   exact ⟨rfl,(sw [0,1] [] [.s 1,.s 3,.s 62] [.s 0,.s 1] an)⟩
  ·replace h:=zO gg_2 h
   rcases bft (!r_1.1.name) with gg_3 | gg_3
   ·replace h:=zN gg_3 h
    rcases bft (!(e_1.Name==([]:List Int))) with gg_4 | gg_4
    ·replace h:=zN gg_4 h
     refine rg [(10,Ht),(11,Hf),(13,Hg),(14,Hg),(15,Hg),(16,Hg),(20,Hg),(21,Ht),(23,Hg),(24,Hg),(25,Hg),(26,Hg),(30,Hg),(31,Ht),(33,Hg),(34,Hg),(35,Hg),(36,Hg),(41,Hg),(42,Ht)] [1,3,62] [0,1] 2 [Pp 0,Pp 1,.bool true] [Vb 33 (zJ e_1),Vb 103 (zZ r_1.1)] zD (ac gg_2 (ac gg_2 (ac gg_2 (ac gg_2 (ac gg_3 (ac gg_3 (ac gg_3 (ac gg_2 (ac gg_3 (ac gg_2 (ac gg_4 (ac gg_4 (ac gg_4 (ac gg_4 (ac gg_4 (ac gg_4 (ax (ax (ax (ax (ax (ar true (ax (ax (ax (ax (ax (ar true an)))))))))))))))))))))))))))) ?_
     cases h
     exact ⟨rfl,(sw [0,1] [] [.s 1,.s 3,.s 62] [.s 0,.s 1] an)⟩
    ·replace h:=zO gg_4 h
     rcases bft (!r_1.1.n) with gg_5 | gg_5
     ·replace h:=zN gg_5 h
      rcases bft (e_1.N != (0:Int)) with gg_6 | gg_6
      ·replace h:=zN gg_6 h
       refine rg [(10,Ht),(11,Hf),(20,Ht),(21,Hf),(23,Hg),(24,Hg),(25,Hg),(26,Hg),(30,Hg),(31,Ht),(33,Hg),(34,Hg),(35,Hg),(36,Hg),(41,Hg),(42,Ht)] [1,3,62] [0,1] 2 [Pp 0,Pp 1,.bool true] [Vb 33 (zJ e_1),Vb 103 (zZ r_1.1)] zD (ac gg_2 (ac gg_2 (ac gg_2 (ac gg_2 (ac gg_3 (ac gg_3 (ac gg_3 (ac gg_2 (ac gg_3 (ac gg_2 (ac gg_4 (ac gg_4 (ac gg_4 (ac gg_4 (ac gg_5 (ac gg_5 (ac gg_5 (ac gg_4 (ac gg_5 (ac gg_4 (ac gg_6 (ac gg_6 (ac gg_6 (ac gg_6 (ac gg_6 (ac gg_6 (ax (ax (ax (ax (ax (ar true an)))))))))))))))))))))))))))))))) ?_
       cases h
       exact ⟨rfl,(sw [0,1] [] [.s 1,.s 3,.s 62] [.s 0,.s 1] an)⟩
      ·replace h:=zO gg_6 h
       rcases bft (!r_1.1.m) with gg_7 | gg_7
       ·replace h:=zN gg_7 h
        rcases bft (e_1.M != (0:Int)) with gg_8 | gg_8
        ·replace h:=zN gg_8 h
         refine rg [(10,Ht),(11,Hf),(20,Ht),(21,Hf),(30,Ht),(31,Hf),(33,Hg),(34,Hg),(35,Hg),(36,Hg),(41,Hg),(42,Ht)] [1,3,62] [0,1] 2 [Pp 0,Pp 1,.bool true] [Vb 33 (zJ e_1),Vb 103 (zZ r_1.1)] zD (ac gg_2 (ac gg_2 (ac gg_2 (ac gg_2 (ac gg_3 (ac gg_3 (ac gg_3 (ac gg_2 (ac gg_3 (ac gg_2 (ac gg_4 (ac gg_4 (ac gg_4 (ac gg_4 (ac gg_5 (ac gg_5 (ac gg_5 (ac gg_4 (ac gg_5 (ac gg_4 (ac gg_6 (ac gg_6 (ac gg_6 (ac gg_6 (ac gg_7 (ac gg_7 (ac gg_7 (ac gg_6 (ac gg_7 (ac gg_6 (ac gg_8 (ac gg_8 (ac gg_8 (ac gg_8 (ac gg_8 (ac gg_8 an)))))))))))))))))))))))))))))))))))) ?_
         cases h
         exact ⟨rfl,(sw [0,1] [] [.s 1,.s 3,.s 62] [.s 0,.s 1] an)⟩
        ·replace h:=zO gg_8 h
         rcases bft (!r_1.1.stack) with gg_9 | gg_9
         ·replace h:=zN gg_9 h
          refine rg [(10,Ht),(11,Hf),(20,Ht),(21,Hf),(30,Ht),(31,Hf),(39,{ n:=(e_1.Stack).length }),(41,Ht),(42,Hf)] [1,3,62] [0,1] 2 [Pp 0,Pp 1,.bool (decide ((lN (e_1.Stack))>(0:Int)))] [Vb 33 (zJ e_1),Vb 103 (zZ r_1.1)] zD (ac gg_2 (ac gg_2 (ac gg_2 (ac gg_2 (ac gg_3 (ac gg_3 (ac gg_3 (ac gg_2 (ac gg_3 (ac gg_2 (ac gg_4 (ac gg_4 (ac gg_4 (ac gg_4 (ac gg_5 (ac gg_5 (ac gg_5 (ac gg_4 (ac gg_5 (ac gg_4 (ac gg_6 (ac gg_6 (ac gg_6 (ac gg_6 (ac gg_7 (ac gg_7 (ac gg_7 (ac gg_6 (ac gg_7 (ac gg_6 (ac gg_8 (ac gg_8 (ac gg_8 (ac gg_8 (ac gg_9 (ac gg_9 (ac gg_9 (ac (zY _:((Ms e_1.Stack)).length=(e_1.Stack).length) (ac gg_9 (ac gg_8 (ac gg_9 (ac gg_8 an)))))))))))))))))))))))))))))))))))))))))) ?_
          cases h
          exact ⟨rfl,(sw [0,1] [] [.s 1,.s 3,.s 62] [.s 0,.s 1] an)⟩
         ·replace h:=zO gg_9 h
          refine rg [(10,Ht),(11,Hf),(20,Ht),(21,Hf),(30,Ht),(31,Hf),(37,Hg),(38,Hg),(39,Hg),(40,Hg),(41,Hf),(42,Hf)] [1,3,62] [0,1] 2 [Pp 0,Pp 1,.bool false] [Vb 33 (zJ e_1),Vb 103 (zZ r_1.1)] zD (ac gg_2 (ac gg_2 (ac gg_2 (ac gg_2 (ac gg_3 (ac gg_3 (ac gg_3 (ac gg_2 (ac gg_3 (ac gg_2 (ac gg_4 (ac gg_4 (ac gg_4 (ac gg_4 (ac gg_5 (ac gg_5 (ac gg_5 (ac gg_4 (ac gg_5 (ac gg_4 (ac gg_6 (ac gg_6 (ac gg_6 (ac gg_6 (ac gg_7 (ac gg_7 (ac gg_7 (ac gg_6 (ac gg_7 (ac gg_6 (ac gg_8 (ac gg_8 (ac gg_8 (ac gg_8 (ac gg_9 (ac gg_9 (ac gg_9 (ac gg_9 (ac gg_8 (ac gg_9 (ac gg_8 an))))))))))))))))))))))))))))))))))))))))) ?_
          cases h
          exact ⟨rfl,(sw [0,1] [] [.s 1,.s 3,.s 62] [.s 0,.s 1] an)⟩
       ·replace h:=zO gg_7 h
        rcases bft (!r_1.1.stack) with gg_10 | gg_10
        ·replace h:=zN gg_10 h
         refine rg [(10,Ht),(11,Hf),(20,Ht),(21,Hf),(27,Hg),(28,Hg),(29,Hg),(30,Hf),(31,Hf),(39,{ n:=(e_1.Stack).length }),(41,Ht),(42,Hf)] [1,3,62] [0,1] 2 [Pp 0,Pp 1,.bool (decide ((lN (e_1.Stack))>(0:Int)))] [Vb 33 (zJ e_1),Vb 103 (zZ r_1.1)] zD (ac gg_2 (ac gg_2 (ac gg_2 (ac gg_2 (ac gg_3 (ac gg_3 (ac gg_3 (ac gg_2 (ac gg_3 (ac gg_2 (ac gg_4 (ac gg_4 (ac gg_4 (ac gg_4 (ac gg_5 (ac gg_5 (ac gg_5 (ac gg_4 (ac gg_5 (ac gg_4 (ac gg_6 (ac gg_6 (ac gg_6 (ac gg_6 (ac gg_7 (ac gg_7 (ac gg_7 (ac gg_6 (ac gg_7 (ac gg_6 (ar false (ar false (ar false (ar false (ac gg_10 (ac gg_10 (ac gg_10 (ac (zY _:((Ms e_1.Stack)).length=(e_1.Stack).length) (ac gg_10 (ar false (ac gg_10 (ar false an)))))))))))))))))))))))))))))))))))))))))) ?_
         cases h
         exact ⟨rfl,(sw [0,1] [] [.s 1,.s 3,.s 62] [.s 0,.s 1] an)⟩
        ·replace h:=zO gg_10 h
         refine rg [(10,Ht),(11,Hf),(20,Ht),(21,Hf),(27,Hg),(28,Hg),(29,Hg),(30,Hf),(31,Hf),(37,Hg),(38,Hg),(39,Hg),(40,Hg),(41,Hf),(42,Hf)] [1,3,62] [0,1] 2 [Pp 0,Pp 1,.bool false] [Vb 33 (zJ e_1),Vb 103 (zZ r_1.1)] zD (ac gg_2 (ac gg_2 (ac gg_2 (ac gg_2 (ac gg_3 (ac gg_3 (ac gg_3 (ac gg_2 (ac gg_3 (ac gg_2 (ac gg_4 (ac gg_4 (ac gg_4 (ac gg_4 (ac gg_5 (ac gg_5 (ac gg_5 (ac gg_4 (ac gg_5 (ac gg_4 (ac gg_6 (ac gg_6 (ac gg_6 (ac gg_6 (ac gg_7 (ac gg_7 (ac gg_7 (ac gg_6 (ac gg_7 (ac gg_6 (ar false (ar false (ar false (ar false (ac gg_10 (ac gg_10 (ac gg_10 (ac gg_10 (ar false (ac gg_10 (ar false an))))))))))))))))))))))))))))))))))))))))) ?_
         cases h
         exact ⟨rfl,(sw [0,1] [] [.s 1,.s 3,.s 62] [.s 0,.s 1] an)⟩
     ·replace h:=zO gg_5 h
      rcases bft (!r_1.1.m) with gg_11 | gg_11
      ·replace h:=zN gg_11 h
       rcases bft (e_1.M != (0:Int)) with gg_12 | gg_12
       ·replace h:=zN gg_12 h
        refine rg [(10,Ht),(11,Hf),(17,Hg),(18,Hg),(19,Hg),(20,Hf),(21,Hf),(30,Ht),(31,Hf),(33,Hg),(34,Hg),(35,Hg),(36,Hg),(41,Hg),(42,Ht)] [1,3,62] [0,1] 2 [Pp 0,Pp 1,.bool true] [Vb 33 (zJ e_1),Vb 103 (zZ r_1.1)] zD (ac gg_2 (ac gg_2 (ac gg_2 (ac gg_2 (ac gg_3 (ac gg_3 (ac gg_3 (ac gg_2 (ac gg_3 (ac gg_2 (ac gg_4 (ac gg_4 (ac gg_4 (ac gg_4 (ac gg_5 (ac gg_5 (ac gg_5 (ac gg_4 (ac gg_5 (ac gg_4 (ar false (ar false (ar false (ar false (ac gg_11 (ac gg_11 (ac gg_11 (ar false (ac gg_11 (ar false (ac gg_12 (ac gg_12 (ac gg_12 (ac gg_12 (ac gg_12 (ac gg_12 an)))))))))))))))))))))))))))))))))))) ?_
        cases h
        exact ⟨rfl,(sw [0,1] [] [.s 1,.s 3,.s 62] [.s 0,.s 1] an)⟩
       ·replace h:=zO gg_12 h
        rcases bft (!r_1.1.stack) with gg_13 | gg_13
        ·replace h:=zN gg_13 h
         refine rg [(10,Ht),(11,Hf),(17,Hg),(18,Hg),(19,Hg),(20,Hf),(21,Hf),(30,Ht),(31,Hf),(39,{ n:=(e_1.Stack).length }),(41,Ht),(42,Hf)] [1,3,62] [0,1] 2 [Pp 0,Pp 1,.bool (decide ((lN (e_1.Stack))>(0:Int)))] [Vb 33 (zJ e_1),Vb 103 (zZ r_1.1)] zD (ac gg_2 (ac gg_2 (ac gg_2 (ac gg_2 (ac gg_3 (ac gg_3 (ac gg_3 (ac gg_2 (ac gg_3 (ac gg_2 (ac gg_4 (ac gg_4 (ac gg_4 (ac gg_4 (ac gg_5 (ac gg_5 (ac gg_5 (ac gg_4 (ac gg_5 (ac gg_4 (ar false (ar false (ar false (ar false (ac gg_11 (ac gg_11 (ac gg_11 (ar false (ac gg_11 (ar false (ac gg_12 (ac gg_12 (ac gg_12 (ac gg_12 (ac gg_13 (ac gg_13 (ac gg_13 (ac (zY _:((Ms e_1.Stack)).length=(e_1.Stack).length) (ac gg_13 (ac gg_12 (ac gg_13 (ac gg_12 an)))))))))))))))))))))))))))))))))))))))))) ?_
         cases h
         exact ⟨rfl,(sw [0,1] [] [.s 1,.s 3,.s 62] [.s 0,.s 1] an)⟩
        ·replace h:=zO gg_13 h
         refine rg [(10,Ht),(11,Hf),(17,Hg),(18,Hg),(19,Hg),(20,Hf),(21,Hf),(30,Ht),(31,Hf),(37,Hg),(38,Hg),(39,Hg),(40,Hg),(41,Hf),(42,Hf)] [1,3,62] [0,1] 2 [Pp 0,Pp 1,.bool false] [Vb 33 (zJ e_1),Vb 103 (zZ r_1.1)] zD (ac gg_2 (ac gg_2 (ac gg_2 (ac gg_2 (ac gg_3 (ac gg_3 (ac gg_3 (ac gg_2 (ac gg_3 (ac gg_2 (ac gg_4 (ac gg_4 (ac gg_4 (ac gg_4 (ac gg_5 (ac gg_5 (ac gg_5 (ac gg_4 (ac gg_5 (ac gg_4 (ar false (ar false (ar false (ar false (ac gg_11 (ac gg_11 (ac gg_11 (ar false (ac gg_11 (ar false (ac gg_12 (ac gg_12 (ac gg_12 (ac gg_12 (ac gg_13 (ac gg_13 (ac gg_13 (ac gg_13 (ac gg_12 (ac gg_13 (ac gg_12 an))))))))))))))))))))))))))))))))))))))))) ?_
         cases h
         exact ⟨rfl,(sw [0,1] [] [.s 1,.s 3,.s 62] [.s 0,.s 1] an)⟩
      ·replace h:=zO gg_11 h
       rcases bft (!r_1.1.stack) with gg_14 | gg_14
       ·replace h:=zN gg_14 h
        refine rg [(10,Ht),(11,Hf),(17,Hg),(18,Hg),(19,Hg),(20,Hf),(21,Hf),(27,Hg),(28,Hg),(29,Hg),(30,Hf),(31,Hf),(39,{ n:=(e_1.Stack).length }),(41,Ht),(42,Hf)] [1,3,62] [0,1] 2 [Pp 0,Pp 1,.bool (decide ((lN (e_1.Stack))>(0:Int)))] [Vb 33 (zJ e_1),Vb 103 (zZ r_1.1)] zD (ac gg_2 (ac gg_2 (ac gg_2 (ac gg_2 (ac gg_3 (ac gg_3 (ac gg_3 (ac gg_2 (ac gg_3 (ac gg_2 (ac gg_4 (ac gg_4 (ac gg_4 (ac gg_4 (ac gg_5 (ac gg_5 (ac gg_5 (ac gg_4 (ac gg_5 (ac gg_4 (ar false (ar false (ar false (ar false (ac gg_11 (ac gg_11 (ac gg_11 (ar false (ac gg_11 (ar false (ar false (ar false (ar false (ar false (ac gg_14 (ac gg_14 (ac gg_14 (ac (zY _:((Ms e_1.Stack)).length=(e_1.Stack).length) (ac gg_14 (ar false (ac gg_14 (ar false an)))))))))))))))))))))))))))))))))))))))))) ?_
        cases h
        exact ⟨rfl,(sw [0,1] [] [.s 1,.s 3,.s 62] [.s 0,.s 1] an)⟩
       ·replace h:=zO gg_14 h
        refine rg [(10,Ht),(11,Hf),(17,Hg),(18,Hg),(19,Hg),(20,Hf),(21,Hf),(27,Hg),(28,Hg),(29,Hg),(30,Hf),(31,Hf),(37,Hg),(38,Hg),(39,Hg),(40,Hg),(41,Hf),(42,Hf)] [1,3,62] [0,1] 2 [Pp 0,Pp 1,.bool false] [Vb 33 (zJ e_1),Vb 103 (zZ r_1.1)] zD (ac gg_2 (ac gg_2 (ac gg_2 (ac gg_2 (ac gg_3 (ac gg_3 (ac gg_3 (ac gg_2 (ac gg_3 (ac gg_2 (ac gg_4 (ac gg_4 (ac gg_4 (ac gg_4 (ac gg_5 (ac gg_5 (ac gg_5 (ac gg_4 (ac gg_5 (ac gg_4 (ar false (ar false (ar false (ar false (ac gg_11 (ac gg_11 (ac gg_11 (ar false (ac gg_11 (ar false (ar false (ar false (ar false (ar false (ac gg_14 (ac gg_14 (ac gg_14 (ac gg_14 (ar false (ac gg_14 (ar false an))))))))))))))))))))))))))))))))))))))))) ?_
        cases h
        exact ⟨rfl,(sw [0,1] [] [.s 1,.s 3,.s 62] [.s 0,.s 1] an)⟩
   ·replace h:=zO gg_3 h
    rcases bft (!r_1.1.n) with gg_15 | gg_15
    ·replace h:=zN gg_15 h
     rcases bft (e_1.N != (0:Int)) with gg_16 | gg_16
     ·replace h:=zN gg_16 h
      refine rg [(7,Hg),(8,Hg),(9,Hg),(10,Hf),(11,Hf),(20,Ht),(21,Hf),(23,Hg),(24,Hg),(25,Hg),(26,Hg),(30,Hg),(31,Ht),(33,Hg),(34,Hg),(35,Hg),(36,Hg),(41,Hg),(42,Ht)] [1,3,62] [0,1] 2 [Pp 0,Pp 1,.bool true] [Vb 33 (zJ e_1),Vb 103 (zZ r_1.1)] zD (ac gg_2 (ac gg_2 (ac gg_2 (ac gg_2 (ac gg_3 (ac gg_3 (ac gg_3 (ac gg_2 (ac gg_3 (ac gg_2 (ar false (ar false (ar false (ar false (ac gg_15 (ac gg_15 (ac gg_15 (ar false (ac gg_15 (ar false (ac gg_16 (ac gg_16 (ac gg_16 (ac gg_16 (ac gg_16 (ac gg_16 (ax (ax (ax (ax (ax (ar true an)))))))))))))))))))))))))))))))) ?_
      cases h
      exact ⟨rfl,(sw [0,1] [] [.s 1,.s 3,.s 62] [.s 0,.s 1] an)⟩
     ·replace h:=zO gg_16 h
      rcases bft (!r_1.1.m) with gg_17 | gg_17
      ·replace h:=zN gg_17 h
       rcases bft (e_1.M != (0:Int)) with gg_18 | gg_18
       ·replace h:=zN gg_18 h
        refine rg [(7,Hg),(8,Hg),(9,Hg),(10,Hf),(11,Hf),(20,Ht),(21,Hf),(30,Ht),(31,Hf),(33,Hg),(34,Hg),(35,Hg),(36,Hg),(41,Hg),(42,Ht)] [1,3,62] [0,1] 2 [Pp 0,Pp 1,.bool true] [Vb 33 (zJ e_1),Vb 103 (zZ r_1.1)] zD (ac gg_2 (ac gg_2 (ac gg_2 (ac gg_2 (ac gg_3 (ac gg_3 (ac gg_3 (ac gg_2 (ac gg_3 (ac gg_2 (ar false (ar false (ar false (ar false (ac gg_15 (ac gg_15 (ac gg_15 (ar false (ac gg_15 (ar false (ac gg_16 (ac gg_16 (ac gg_16 (ac gg_16 (ac gg_17 (ac gg_17 (ac gg_17 (ac gg_16 (ac gg_17 (ac gg_16 (ac gg_18 (ac gg_18 (ac gg_18 (ac gg_18 (ac gg_18 (ac gg_18 an)))))))))))))))))))))))))))))))))))) ?_
        cases h
        exact ⟨rfl,(sw [0,1] [] [.s 1,.s 3,.s 62] [.s 0,.s 1] an)⟩
       ·replace h:=zO gg_18 h
        rcases bft (!r_1.1.stack) with gg_19 | gg_19
        ·replace h:=zN gg_19 h
         refine rg [(7,Hg),(8,Hg),(9,Hg),(10,Hf),(11,Hf),(20,Ht),(21,Hf),(30,Ht),(31,Hf),(39,{ n:=(e_1.Stack).length }),(41,Ht),(42,Hf)] [1,3,62] [0,1] 2 [Pp 0,Pp 1,.bool (decide ((lN (e_1.Stack))>(0:Int)))] [Vb 33 (zJ e_1),Vb 103 (zZ r_1.1)] zD (ac gg_2 (ac gg_2 (ac gg_2 (ac gg_2 (ac gg_3 (ac gg_3 (ac gg_3 (ac gg_2 (ac gg_3 (ac gg_2 (ar false (ar false (ar false (ar false (ac gg_15 (ac gg_15 (ac gg_15 (ar false (ac gg_15 (ar false (ac gg_16 (ac gg_16 (ac gg_16 (ac gg_16 (ac gg_17 (ac gg_17 (ac gg_17 (ac gg_16 (ac gg_17 (ac gg_16 (ac gg_18 (ac gg_18 (ac gg_18 (ac gg_18 (ac gg_19 (ac gg_19 (ac gg_19 (ac (zY _:((Ms e_1.Stack)).length=(e_1.Stack).length) (ac gg_19 (ac gg_18 (ac gg_19 (ac gg_18 an)))))))))))))))))))))))))))))))))))))))))) ?_
         cases h
         exact ⟨rfl,(sw [0,1] [] [.s 1,.s 3,.s 62] [.s 0,.s 1] an)⟩
        ·replace h:=zO gg_19 h
         refine rg [(7,Hg),(8,Hg),(9,Hg),(10,Hf),(11,Hf),(20,Ht),(21,Hf),(30,Ht),(31,Hf),(37,Hg),(38,Hg),(39,Hg),(40,Hg),(41,Hf),(42,Hf)] [1,3,62] [0,1] 2 [Pp 0,Pp 1,.bool false] [Vb 33 (zJ e_1),Vb 103 (zZ r_1.1)] zD (ac gg_2 (ac gg_2 (ac gg_2 (ac gg_2 (ac gg_3 (ac gg_3 (ac gg_3 (ac gg_2 (ac gg_3 (ac gg_2 (ar false (ar false (ar false (ar false (ac gg_15 (ac gg_15 (ac gg_15 (ar false (ac gg_15 (ar false (ac gg_16 (ac gg_16 (ac gg_16 (ac gg_16 (ac gg_17 (ac gg_17 (ac gg_17 (ac gg_16 (ac gg_17 (ac gg_16 (ac gg_18 (ac gg_18 (ac gg_18 (ac gg_18 (ac gg_19 (ac gg_19 (ac gg_19 (ac gg_19 (ac gg_18 (ac gg_19 (ac gg_18 an))))))))))))))))))))))))))))))))))))))))) ?_
         cases h
         exact ⟨rfl,(sw [0,1] [] [.s 1,.s 3,.s 62] [.s 0,.s 1] an)⟩
      ·replace h:=zO gg_17 h
       rcases bft (!r_1.1.stack) with gg_20 | gg_20
       ·replace h:=zN gg_20 h
        refine rg [(7,Hg),(8,Hg),(9,Hg),(10,Hf),(11,Hf),(20,Ht),(21,Hf),(27,Hg),(28,Hg),(29,Hg),(30,Hf),(31,Hf),(39,{ n:=(e_1.Stack).length }),(41,Ht),(42,Hf)] [1,3,62] [0,1] 2 [Pp 0,Pp 1,.bool (decide ((lN (e_1.Stack))>(0:Int)))] [Vb 33 (zJ e_1),Vb 103 (zZ r_1.1)] zD (ac gg_2 (ac gg_2 (ac gg_2 (ac gg_2 (ac gg_3 (ac gg_3 (ac gg_3 (ac gg_2 (ac gg_3 (ac gg_2 (ar false (ar false (ar false (ar false (ac gg_15 (ac gg_15 (ac gg_15 (ar false (ac gg_15 (ar false (ac gg_16 (ac gg_16 (ac gg_16 (ac gg_16 (ac gg_17 (ac gg_17 (ac gg_17 (ac gg_16 (ac gg_17 (ac gg_16 (ar false (ar false (ar false (ar false (ac gg_20 (ac gg_20 (ac gg_20 (ac (zY _:((Ms e_1.Stack)).length=(e_1.Stack).length) (ac gg_20 (ar false (ac gg_20 (ar false an)))))))))))))))))))))))))))))))))))))))))) ?_
        cases h
        exact ⟨rfl,(sw [0,1] [] [.s 1,.s 3,.s 62] [.s 0,.s 1] an)⟩
       ·replace h:=zO gg_20 h
        refine rg [(7,Hg),(8,Hg),(9,Hg),(10,Hf),(11,Hf),(20,Ht),(21,Hf),(27,Hg),(28,Hg),(29,Hg),(30,Hf),(31,Hf),(37,Hg),(38,Hg),(39,Hg),(40,Hg),(41,Hf),(42,Hf)] [1,3,62] [0,1] 2 [Pp 0,Pp 1,.bool false] [Vb 33 (zJ e_1),Vb 103 (zZ r_1.1)] zD (ac gg_2 (ac gg_2 (ac gg_2 (ac gg_2 (ac gg_3 (ac gg_3 (ac gg_3 (ac gg_2 (ac gg_3 (ac gg_2 (ar false (ar false (ar false (ar false (ac gg_15 (ac gg_15 (ac gg_15 (ar false (ac gg_15 (ar false (ac gg_16 (ac gg_16 (ac gg_16 (ac gg_16 (ac gg_17 (ac gg_17 (ac gg_17 (ac gg_16 (ac gg_17 (ac gg_16 (ar false (ar false (ar false (ar false (ac gg_20 (ac gg_20 (ac gg_20 (ac gg_20 (ar false (ac gg_20 (ar false an))))))))))))))))))))))))))))))))))))))))) ?_
        cases h
        exact ⟨rfl,(sw [0,1] [] [.s 1,.s 3,.s 62] [.s 0,.s 1] an)⟩
    ·replace h:=zO gg_15 h
     rcases bft (!r_1.1.m) with gg_21 | gg_21
     ·replace h:=zN gg_21 h
      rcases bft (e_1.M != (0:Int)) with gg_22 | gg_22
      ·replace h:=zN gg_22 h
       refine rg [(7,Hg),(8,Hg),(9,Hg),(10,Hf),(11,Hf),(17,Hg),(18,Hg),(19,Hg),(20,Hf),(21,Hf),(30,Ht),(31,Hf),(33,Hg),(34,Hg),(35,Hg),(36,Hg),(41,Hg),(42,Ht)] [1,3,62] [0,1] 2 [Pp 0,Pp 1,.bool true] [Vb 33 (zJ e_1),Vb 103 (zZ r_1.1)] zD (ac gg_2 (ac gg_2 (ac gg_2 (ac gg_2 (ac gg_3 (ac gg_3 (ac gg_3 (ac gg_2 (ac gg_3 (ac gg_2 (ar false (ar false (ar false (ar false (ac gg_15 (ac gg_15 (ac gg_15 (ar false (ac gg_15 (ar false (ar false (ar false (ar false (ar false (ac gg_21 (ac gg_21 (ac gg_21 (ar false (ac gg_21 (ar false (ac gg_22 (ac gg_22 (ac gg_22 (ac gg_22 (ac gg_22 (ac gg_22 an)))))))))))))))))))))))))))))))))))) ?_
       cases h
       exact ⟨rfl,(sw [0,1] [] [.s 1,.s 3,.s 62] [.s 0,.s 1] an)⟩
      ·replace h:=zO gg_22 h
       rcases bft (!r_1.1.stack) with gg_23 | gg_23
       ·replace h:=zN gg_23 h
        refine rg [(7,Hg),(8,Hg),(9,Hg),(10,Hf),(11,Hf),(17,Hg),(18,Hg),(19,Hg),(20,Hf),(21,Hf),(30,Ht),(31,Hf),(39,{ n:=(e_1.Stack).length }),(41,Ht),(42,Hf)] [1,3,62] [0,1] 2 [Pp 0,Pp 1,.bool (decide ((lN (e_1.Stack))>(0:Int)))] [Vb 33 (zJ e_1),Vb 103 (zZ r_1.1)] zD (ac gg_2 (ac gg_2 (ac gg_2 (ac gg_2 (ac gg_3 (ac gg_3 (ac gg_3 (ac gg_2 (ac gg_3 (ac gg_2 (ar false (ar false (ar false (ar false (ac gg_15 (ac gg_15 (ac gg_15 (ar false (ac gg_15 (ar false (ar false (ar false (ar false (ar false (ac gg_21 (ac gg_21 (ac gg_21 (ar false (ac gg_21 (ar false (ac gg_22 (ac gg_22 (ac gg_22 (ac gg_22 (ac gg_23 (ac gg_23 (ac gg_23 (ac (zY _:((Ms e_1.Stack)).length=(e_1.Stack).length) (ac gg_23 (ac gg_22 (ac gg_23 (ac gg_22 an)))))))))))))))))))))))))))))))))))))))))) ?_
        cases h
        exact ⟨rfl,(sw [0,1] [] [.s 1,.s 3,.s 62] [.s 0,.s 1] an)⟩
       ·replace h:=zO gg_23 h
        refine rg [(7,Hg),(8,Hg),(9,Hg),(10,Hf),(11,Hf),(17,Hg),(18,Hg),(19,Hg),(20,Hf),(21,Hf),(30,Ht),(31,Hf),(37,Hg),(38,Hg),(39,Hg),(40,Hg),(41,Hf),(42,Hf)] [1,3,62] [0,1] 2 [Pp 0,Pp 1,.bool false] [Vb 33 (zJ e_1),Vb 103 (zZ r_1.1)] zD (ac gg_2 (ac gg_2 (ac gg_2 (ac gg_2 (ac gg_3 (ac gg_3 (ac gg_3 (ac gg_2 (ac gg_3 (ac gg_2 (ar false (ar false (ar false (ar false (ac gg_15 (ac gg_15 (ac gg_15 (ar false (ac gg_15 (ar false (ar false (ar false (ar false (ar false (ac gg_21 (ac gg_21 (ac gg_21 (ar false (ac gg_21 (ar false (ac gg_22 (ac gg_22 (ac gg_22 (ac gg_22 (ac gg_23 (ac gg_23 (ac gg_23 (ac gg_23 (ac gg_22 (ac gg_23 (ac gg_22 an))))))))))))))))))))))))))))))))))))))))) ?_
        cases h
        exact ⟨rfl,(sw [0,1] [] [.s 1,.s 3,.s 62] [.s 0,.s 1] an)⟩
     ·replace h:=zO gg_21 h
      rcases bft (!r_1.1.stack) with gg_24 | gg_24
      ·replace h:=zN gg_24 h
       refine rg [(7,Hg),(8,Hg),(9,Hg),(10,Hf),(11,Hf),(17,Hg),(18,Hg),(19,Hg),(20,Hf),(21,Hf),(27,Hg),(28,Hg),(29,Hg),(30,Hf),(31,Hf),(39,{ n:=(e_1.Stack).length }),(41,Ht),(42,Hf)] [1,3,62] [0,1] 2 [Pp 0,Pp 1,.bool (decide ((lN (e_1.Stack))>(0:Int)))] [Vb 33 (zJ e_1),Vb 103 (zZ r_1.1)] zD (ac gg_2 (ac gg_2 (ac gg_2 (ac gg_2 (ac gg_3 (ac gg_3 (ac gg_3 (ac gg_2 (ac gg_3 (ac gg_2 (ar false (ar false (ar false (ar false (ac gg_15 (ac gg_15 (ac gg_15 (ar false (ac gg_15 (ar false (ar false (ar false (ar false (ar false (ac gg_21 (ac gg_21 (ac gg_21 (ar false (ac gg_21 (ar false (ar false (ar false (ar false (ar false (ac gg_24 (ac gg_24 (ac gg_24 (ac (zY _:((Ms e_1.Stack)).length=(e_1.Stack).length) (ac gg_24 (ar false (ac gg_24 (ar false an)))))))))))))))))))))))))))))))))))))))))) ?_
       cases h
       exact ⟨rfl,(sw [0,1] [] [.s 1,.s 3,.s 62] [.s 0,.s 1] an)⟩
      ·replace h:=zO gg_24 h
       refine rg [(7,Hg),(8,Hg),(9,Hg),(10,Hf),(11,Hf),(17,Hg),(18,Hg),(19,Hg),(20,Hf),(21,Hf),(27,Hg),(28,Hg),(29,Hg),(30,Hf),(31,Hf),(37,Hg),(38,Hg),(39,Hg),(40,Hg),(41,Hf),(42,Hf)] [1,3,62] [0,1] 2 [Pp 0,Pp 1,.bool false] [Vb 33 (zJ e_1),Vb 103 (zZ r_1.1)] zD (ac gg_2 (ac gg_2 (ac gg_2 (ac gg_2 (ac gg_3 (ac gg_3 (ac gg_3 (ac gg_2 (ac gg_3 (ac gg_2 (ar false (ar false (ar false (ar false (ac gg_15 (ac gg_15 (ac gg_15 (ar false (ac gg_15 (ar false (ar false (ar false (ar false (ar false (ac gg_21 (ac gg_21 (ac gg_21 (ar false (ac gg_21 (ar false (ar false (ar false (ar false (ar false (ac gg_24 (ac gg_24 (ac gg_24 (ac gg_24 (ar false (ac gg_24 (ar false an))))))))))))))))))))))))))))))))))))))))) ?_
       cases h
       exact ⟨rfl,(sw [0,1] [] [.s 1,.s 3,.s 62] [.s 0,.s 1] an)⟩
 refine cd 62 p_1 ?_ ?_
 ·intro g_2;replace h:=zN g_2 h
  refine sr [] [2] [] 2 [Ii 1] [] zD an ?_
  refine rt ?_
  cases h
  exact ⟨.inr rfl,Nat.le_of_ble_eq_true rfl,by kernel_rfl⟩
 intro g_2;replace h:=zO g_2 h
 refine sk ?_
 refine sq ?_
 refine sq ?_
 obtain ⟨r_2,h_3,h⟩:=bind_some h
 refine rg [(2,{ av:=Ii r_2,l:=[yX r_1.1,zB e_1] })] [1,3,5] [0,1] 2 [Pp 0,Pp 1,Ii r_2] [Vb 33 (zJ e_1),Vb 103 (zZ r_1.1)] zD (ar ([yX r_1.1,zB e_1]:List AV) (ac (rfl:([]:List zP)=[]) (ac (zHt F r_1.1 e_1 r_2 h_3:zM prog 76 [] [] [yX r_1.1,zB e_1] [] (Ii r_2)) an))) ?_
 refine sr [] [1,3,5,67] [0,1] 2 [Pp 0,Pp 1,Ii r_2,.bool (r_2 != (0:Int))] [Vb 33 (zJ e_1),Vb 103 (zZ r_1.1)] zD an ?_
 refine cd 67 (r_2 != (0:Int)) ?_ ?_
 ·intro g_3;replace h:=zN g_3 h
  refine sr [] [2] [] 2 [Ii r_2] [] zD an ?_
  refine rt ?_
  cases h
  exact ⟨.inr rfl,Nat.le_of_ble_eq_true rfl,by kernel_rfl⟩
 intro g_3;replace h:=zO g_3 h
 refine sk ?_
 refine sq ?_
 refine zT (id:=0) (by kernel_rfl) ?_
 refine sq ?_
 refine zX (mk [(1,Pp 0),(3,Pp 1),(69,.bool (r_1.1.n&&(decide (e_1.N<r_1.1.least)||decide (e_1.N>r_1.1.most))))] [(0,Vb 33 (zJ e_1)),(1,Vb 103 (zZ r_1.1))] 2) ?_ ?_
 ·rcases Bool.eq_false_or_eq_true r_1.1.n with gg_25 | gg_25
  ·rcases bft (decide (e_1.N<r_1.1.least)) with gg_26 | gg_26
   ·refine rg [(9,Hg),(10,Hg),(11,Hg),(12,Hg),(13,Hg),(14,Ht),(15,Ht)] [1,3,69] [0,1] 2 [Pp 0,Pp 1,.bool true] [Vb 33 (zJ e_1),Vb 103 (zZ r_1.1)] zD (ac gg_25 (ac gg_25 (ac gg_25 (ac gg_25 (ac gg_25 (ac gg_25 (ac gg_26 (ac gg_26 (ac gg_26 (ac gg_26 (ac gg_26 (ac gg_25 (ac gg_26 (ac gg_25 an)))))))))))))) ?_
    exact ⟨rfl,(sw [0,1] [] [.s 1,.s 3,.a 69 (.bool (r_1.1.n&&(decide (e_1.N<r_1.1.least)||decide (e_1.N>r_1.1.most))))] [.s 0,.s 1] (ac (congrArg AV.bool (vR gg_25 (ort gg_26)):(.bool true:AV)=.bool (r_1.1.n&&(decide (e_1.N<r_1.1.least)||decide (e_1.N>r_1.1.most)))) an))⟩
   ·refine rg [(14,Hf),(15,Ht)] [1,3,69] [0,1] 2 [Pp 0,Pp 1,.bool (decide (e_1.N>r_1.1.most))] [Vb 33 (zJ e_1),Vb 103 (zZ r_1.1)] zD (ac gg_25 (ac gg_25 (ac gg_25 (ac gg_25 (ac gg_25 (ac gg_25 (ac gg_26 (ac gg_26 (ac gg_26 (ac gg_26 (ac gg_26 (ac gg_25 (ac gg_26 (ac gg_25 an)))))))))))))) ?_
    exact ⟨rfl,(sw [0,1] [] [.s 1,.s 3,.a 69 (.bool (r_1.1.n&&(decide (e_1.N<r_1.1.least)||decide (e_1.N>r_1.1.most))))] [.s 0,.s 1] (ac (congrArg AV.bool (vR gg_25 (orf gg_26 rfl)):(.bool (decide (e_1.N>r_1.1.most)):AV)=.bool (r_1.1.n&&(decide (e_1.N<r_1.1.least)||decide (e_1.N>r_1.1.most)))) an))⟩
  ·refine rg [(3,Hg),(4,Hg),(5,Hg),(6,Hg),(7,Hg),(8,Hg),(14,Hg),(15,Hf)] [1,3,69] [0,1] 2 [Pp 0,Pp 1,.bool false] [Vb 33 (zJ e_1),Vb 103 (zZ r_1.1)] zD (ac gg_25 (ac gg_25 (ac gg_25 (ac gg_25 (ac gg_25 (ac gg_25 (ac gg_25 (ac gg_25 an)))))))) ?_
   exact ⟨rfl,(sw [0,1] [] [.s 1,.s 3,.a 69 (.bool (r_1.1.n&&(decide (e_1.N<r_1.1.least)||decide (e_1.N>r_1.1.most))))] [.s 0,.s 1] (ac (congrArg AV.bool (qL gg_25):(.bool false:AV)=.bool (r_1.1.n&&(decide (e_1.N<r_1.1.least)||decide (e_1.N>r_1.1.most)))) an))⟩
 refine cd 69 (r_1.1.n&&(decide (e_1.N<r_1.1.least)||decide (e_1.N>r_1.1.most))) ?_ ?_
 ·intro g_4;replace h:=zN g_4 h
  refine sr [] [2] [] 2 [Ii 2] [] zD an ?_
  refine rt ?_
  cases h
  exact ⟨.inr rfl,Nat.le_of_ble_eq_true rfl,by kernel_rfl⟩
 intro g_4;replace h:=zO g_4 h
 refine sq ?_
 refine zX (mk [(1,Pp 0),(3,Pp 1),(86,.bool ((e_1.Kind==(9:Int))&&((e_1.N != (2:Int))&&(e_1.M != (0:Int)))))] [(0,Vb 33 (zJ e_1)),(1,Vb 103 (zZ r_1.1))] 2) ?_ ?_
 ·rcases bft (e_1.Kind==(9:Int)) with gg_27 | gg_27
  ·rcases bft (e_1.N != (2:Int)) with gg_28 | gg_28
   ·refine rg [(7,Ht),(12,Ht)] [1,3,86] [0,1] 2 [Pp 0,Pp 1,.bool (e_1.M != (0:Int))] [Vb 33 (zJ e_1),Vb 103 (zZ r_1.1)] zD (ac gg_27 (ac gg_27 (ac gg_27 (ac gg_27 (ac gg_28 (ac gg_28 (ac gg_28 (ac gg_28 an)))))))) ?_
    exact ⟨rfl,(sw [0,1] [] [.s 1,.s 3,.a 86 (.bool ((e_1.Kind==(9:Int))&&((e_1.N != (2:Int))&&(e_1.M != (0:Int)))))] [.s 0,.s 1] (ac (congrArg AV.bool (vR gg_27 (vR gg_28 rfl)):(.bool (e_1.M != (0:Int)):AV)=.bool ((e_1.Kind==(9:Int))&&((e_1.N != (2:Int))&&(e_1.M != (0:Int))))) an))⟩
   ·refine rg [(7,Ht),(9,Hg),(10,Hg),(11,Hg),(12,Hf)] [1,3,86] [0,1] 2 [Pp 0,Pp 1,.bool false] [Vb 33 (zJ e_1),Vb 103 (zZ r_1.1)] zD (ac gg_27 (ac gg_27 (ac gg_27 (ac gg_27 (ac gg_28 (ac gg_28 (ac gg_28 (ac gg_28 an)))))))) ?_
    exact ⟨rfl,(sw [0,1] [] [.s 1,.s 3,.a 86 (.bool ((e_1.Kind==(9:Int))&&((e_1.N != (2:Int))&&(e_1.M != (0:Int)))))] [.s 0,.s 1] (ac (congrArg AV.bool (vR gg_27 (qL gg_28)):(.bool false:AV)=.bool ((e_1.Kind==(9:Int))&&((e_1.N != (2:Int))&&(e_1.M != (0:Int))))) an))⟩
  ·refine rg [(4,Hg),(5,Hg),(6,Hg),(7,Hf),(9,Hg),(10,Hg),(11,Hg),(12,Hf)] [1,3,86] [0,1] 2 [Pp 0,Pp 1,.bool false] [Vb 33 (zJ e_1),Vb 103 (zZ r_1.1)] zD (ac gg_27 (ac gg_27 (ac gg_27 (ac gg_27 (ac (rfl:false=!true) (ac (rfl:false=!true) (ac (rfl:false=!true) (ar false an)))))))) ?_
   exact ⟨rfl,(sw [0,1] [] [.s 1,.s 3,.a 86 (.bool ((e_1.Kind==(9:Int))&&((e_1.N != (2:Int))&&(e_1.M != (0:Int)))))] [.s 0,.s 1] (ac (congrArg AV.bool (qL gg_27):(.bool false:AV)=.bool ((e_1.Kind==(9:Int))&&((e_1.N != (2:Int))&&(e_1.M != (0:Int))))) an))⟩
 refine cd 86 ((e_1.Kind==(9:Int))&&((e_1.N != (2:Int))&&(e_1.M != (0:Int)))) ?_ ?_
 ·intro g_5;replace h:=zN g_5 h
  refine sr [] [2] [] 2 [Ii 1] [] zD an ?_
  refine rt ?_
  cases h
  exact ⟨.inr rfl,Nat.le_of_ble_eq_true rfl,by kernel_rfl⟩
 intro g_5;replace h:=zO g_5 h
 refine sq ?_
 refine zX (mk [(100,.bool (r_1.1.m&&(bif decide (e_1.M<r_1.1.mLeast) then ((e_1.Kind != (9:Int))||(e_1.N==(2:Int))) else (decide (e_1.M>r_1.1.mMost)&&((e_1.Kind != (9:Int))||(e_1.N==(2:Int)))))))] [] 0) ?_ ?_
 ·rcases Bool.eq_false_or_eq_true r_1.1.m with gg_29 | gg_29
  ·rcases bft (decide (e_1.M<r_1.1.mLeast)) with gg_30 | gg_30
   ·rcases bft (e_1.Kind != (9:Int)) with gg_31 | gg_31
    ·refine rg [(9,Hg),(10,Hg),(11,Hg),(12,Hg),(13,Hg),(14,Ht),(15,Ht),(21,Hg),(22,Hg),(23,Hg),(24,Ht),(25,Ht)] [100] [] 2 [.bool true] [] zD (ac gg_29 (ac gg_29 (ac gg_29 (ac gg_29 (ac gg_29 (ac gg_29 (ac gg_30 (ac gg_30 (ac gg_30 (ac gg_30 (ac gg_30 (ac gg_29 (ac gg_30 (ac gg_29 (ar true (ar true (ar true (ar true (ac gg_31 (ac gg_31 (ac gg_31 (ar true (ac gg_31 (ar true an)))))))))))))))))))))))) ?_
     exact ⟨rfl,(sw [] [] [.a 100 (.bool (r_1.1.m&&(bif decide (e_1.M<r_1.1.mLeast) then ((e_1.Kind != (9:Int))||(e_1.N==(2:Int))) else (decide (e_1.M>r_1.1.mMost)&&((e_1.Kind != (9:Int))||(e_1.N==(2:Int)))))))] [] (ac (congrArg AV.bool (vR gg_29 (ctr gg_30 (ort gg_31))):(.bool true:AV)=.bool (r_1.1.m&&(bif decide (e_1.M<r_1.1.mLeast) then ((e_1.Kind != (9:Int))||(e_1.N==(2:Int))) else (decide (e_1.M>r_1.1.mMost)&&((e_1.Kind != (9:Int))||(e_1.N==(2:Int))))))) an))⟩
    ·refine rg [(9,Hg),(10,Hg),(11,Hg),(12,Hg),(13,Hg),(14,Ht),(15,Ht),(24,Hf),(25,Ht)] [100] [] 2 [.bool (e_1.N==(2:Int))] [] zD (ac gg_29 (ac gg_29 (ac gg_29 (ac gg_29 (ac gg_29 (ac gg_29 (ac gg_30 (ac gg_30 (ac gg_30 (ac gg_30 (ac gg_30 (ac gg_29 (ac gg_30 (ac gg_29 (ar true (ar true (ar true (ar true (ac gg_31 (ac gg_31 (ac gg_31 (ar true (ac gg_31 (ar true an)))))))))))))))))))))))) ?_
     exact ⟨rfl,(sw [] [] [.a 100 (.bool (r_1.1.m&&(bif decide (e_1.M<r_1.1.mLeast) then ((e_1.Kind != (9:Int))||(e_1.N==(2:Int))) else (decide (e_1.M>r_1.1.mMost)&&((e_1.Kind != (9:Int))||(e_1.N==(2:Int)))))))] [] (ac (congrArg AV.bool (vR gg_29 (ctr gg_30 (orf gg_31 rfl))):(.bool (e_1.N==(2:Int)):AV)=.bool (r_1.1.m&&(bif decide (e_1.M<r_1.1.mLeast) then ((e_1.Kind != (9:Int))||(e_1.N==(2:Int))) else (decide (e_1.M>r_1.1.mMost)&&((e_1.Kind != (9:Int))||(e_1.N==(2:Int))))))) an))⟩
   ·rcases bft (decide (e_1.M>r_1.1.mMost)) with gg_32 | gg_32
    ·rcases bft (e_1.Kind != (9:Int)) with gg_33 | gg_33
     ·refine rg [(14,Hf),(15,Ht),(21,Hg),(22,Hg),(23,Hg),(24,Ht),(25,Ht)] [100] [] 2 [.bool true] [] zD (ac gg_29 (ac gg_29 (ac gg_29 (ac gg_29 (ac gg_29 (ac gg_29 (ac gg_30 (ac gg_30 (ac gg_30 (ac gg_30 (ac gg_30 (ac gg_29 (ac gg_30 (ac gg_29 (ac gg_32 (ac gg_32 (ac gg_32 (ac gg_32 (ac gg_33 (ac gg_33 (ac gg_33 (ac gg_32 (ac gg_33 (ac gg_32 an)))))))))))))))))))))))) ?_
      exact ⟨rfl,(sw [] [] [.a 100 (.bool (r_1.1.m&&(bif decide (e_1.M<r_1.1.mLeast) then ((e_1.Kind != (9:Int))||(e_1.N==(2:Int))) else (decide (e_1.M>r_1.1.mMost)&&((e_1.Kind != (9:Int))||(e_1.N==(2:Int)))))))] [] (ac (congrArg AV.bool (vR gg_29 (cfr gg_30 (vR gg_32 (ort gg_33)))):(.bool true:AV)=.bool (r_1.1.m&&(bif decide (e_1.M<r_1.1.mLeast) then ((e_1.Kind != (9:Int))||(e_1.N==(2:Int))) else (decide (e_1.M>r_1.1.mMost)&&((e_1.Kind != (9:Int))||(e_1.N==(2:Int))))))) an))⟩
     ·refine rg [(14,Hf),(15,Ht),(24,Hf),(25,Ht)] [100] [] 2 [.bool (e_1.N==(2:Int))] [] zD (ac gg_29 (ac gg_29 (ac gg_29 (ac gg_29 (ac gg_29 (ac gg_29 (ac gg_30 (ac gg_30 (ac gg_30 (ac gg_30 (ac gg_30 (ac gg_29 (ac gg_30 (ac gg_29 (ac gg_32 (ac gg_32 (ac gg_32 (ac gg_32 (ac gg_33 (ac gg_33 (ac gg_33 (ac gg_32 (ac gg_33 (ac gg_32 an)))))))))))))))))))))))) ?_
      exact ⟨rfl,(sw [] [] [.a 100 (.bool (r_1.1.m&&(bif decide (e_1.M<r_1.1.mLeast) then ((e_1.Kind != (9:Int))||(e_1.N==(2:Int))) else (decide (e_1.M>r_1.1.mMost)&&((e_1.Kind != (9:Int))||(e_1.N==(2:Int)))))))] [] (ac (congrArg AV.bool (vR gg_29 (cfr gg_30 (vR gg_32 (orf gg_33 rfl)))):(.bool (e_1.N==(2:Int)):AV)=.bool (r_1.1.m&&(bif decide (e_1.M<r_1.1.mLeast) then ((e_1.Kind != (9:Int))||(e_1.N==(2:Int))) else (decide (e_1.M>r_1.1.mMost)&&((e_1.Kind != (9:Int))||(e_1.N==(2:Int))))))) an))⟩
    ·refine rg [(14,Hf),(15,Ht),(17,Hg),(18,Hg),(19,Hg),(20,Hg),(24,Hg),(25,Hf)] [100] [] 2 [.bool false] [] zD (ac gg_29 (ac gg_29 (ac gg_29 (ac gg_29 (ac gg_29 (ac gg_29 (ac gg_30 (ac gg_30 (ac gg_30 (ac gg_30 (ac gg_30 (ac gg_29 (ac gg_30 (ac gg_29 (ac gg_32 (ac gg_32 (ac gg_32 (ac gg_32 (ac gg_32 (ac gg_32 an)))))))))))))))))))) ?_
     exact ⟨rfl,(sw [] [] [.a 100 (.bool (r_1.1.m&&(bif decide (e_1.M<r_1.1.mLeast) then ((e_1.Kind != (9:Int))||(e_1.N==(2:Int))) else (decide (e_1.M>r_1.1.mMost)&&((e_1.Kind != (9:Int))||(e_1.N==(2:Int)))))))] [] (ac (congrArg AV.bool (vR gg_29 (cfr gg_30 (qL gg_32))):(.bool false:AV)=.bool (r_1.1.m&&(bif decide (e_1.M<r_1.1.mLeast) then ((e_1.Kind != (9:Int))||(e_1.N==(2:Int))) else (decide (e_1.M>r_1.1.mMost)&&((e_1.Kind != (9:Int))||(e_1.N==(2:Int))))))) an))⟩
  ·refine rg [(3,Hg),(4,Hg),(5,Hg),(6,Hg),(7,Hg),(8,Hg),(14,Hg),(15,Hf),(17,Hg),(18,Hg),(19,Hg),(20,Hg),(24,Hg),(25,Hf)] [100] [] 2 [.bool false] [] zD (ac gg_29 (ac gg_29 (ac gg_29 (ac gg_29 (ac gg_29 (ac gg_29 (ac gg_29 (ac gg_29 (ac (rfl:false=!true) (ac (rfl:false=!true) (ac (rfl:false=!true) (ac (rfl:false=!true) (ac (rfl:false=!true) (ar false an)))))))))))))) ?_
   exact ⟨rfl,(sw [] [] [.a 100 (.bool (r_1.1.m&&(bif decide (e_1.M<r_1.1.mLeast) then ((e_1.Kind != (9:Int))||(e_1.N==(2:Int))) else (decide (e_1.M>r_1.1.mMost)&&((e_1.Kind != (9:Int))||(e_1.N==(2:Int)))))))] [] (ac (congrArg AV.bool (qL gg_29):(.bool false:AV)=.bool (r_1.1.m&&(bif decide (e_1.M<r_1.1.mLeast) then ((e_1.Kind != (9:Int))||(e_1.N==(2:Int))) else (decide (e_1.M>r_1.1.mMost)&&((e_1.Kind != (9:Int))||(e_1.N==(2:Int))))))) an))⟩
 refine cd 100 (r_1.1.m&&(bif decide (e_1.M<r_1.1.mLeast) then ((e_1.Kind != (9:Int))||(e_1.N==(2:Int))) else (decide (e_1.M>r_1.1.mMost)&&((e_1.Kind != (9:Int))||(e_1.N==(2:Int)))))) ?_ ?_
 ·intro g_6;replace h:=zN g_6 h
  refine sr [] [2] [] 0 [Ii 2] [] zD an ?_
  refine rt ?_
  cases h
  exact ⟨.inr rfl,Nat.le_of_ble_eq_true rfl,by kernel_rfl⟩
 intro g_6;replace h:=zO g_6 h
 refine sk ?_
 refine sr [] [2] [] 0 [Ii 0] [] zD an ?_
 refine rt ?_
 cases h
 exact ⟨.inr rfl,Nat.le_of_ble_eq_true rfl,by kernel_rfl⟩
theorem zEP (F:Nat) (l_1:List (zA)) (r:Int) (h:k9 F l_1=some r):zM prog 26 [] [] [.sl false 6 (Mp zB l_1)] [] (Ii r):=by
 refine zS (fn:=Go.Proofs.Try.f26) (code:=z6 Go.Proofs.Try.f26) (by kernel_rfl) (by kernel_rfl) (Nat.le_of_ble_eq_true (by kernel_rfl)) ?_
 unfold k9 at h
 refine sr [] [0] [] 0 [.sl false 6 (Mp zB l_1)] [] zD an ?_
 refine sq ?_
 refine sr [(1,{ n:=(l_1).length })] [0,6,7,8] [] 0 [.sl false 6 (Mp zB l_1),.sl false 6 (Mp zB l_1),Ii (lN (l_1)),Ii 0] [] zD (ac (zY _:((Mp zB l_1)).length=(l_1).length) an) ?_
 obtain ⟨o_1,h_1,h⟩:=bind_some h
 refine yZ (K1:=(fun e st'=>match o_1 with | (.inl q0)=>e=.normal∧Sub 0 st' (mk [] [] 0) | (.inr q1)=>e=.ret∧vS prog Go.Proofs.Try.f26 0 [] (Ii q1) st')) ?_ ?_
 ·replace h:=h_1
  refine zT (id:=0) (by kernel_rfl) ?_
  refine wk [] [] [.s 0,.s 6,.s 7,.s 8] [] [(0,.sl false 6 (Mp zB l_1)),(6,.sl false 6 (Mp zB l_1)),(7,Ii (lN (l_1))),(8,Ii 0)] [] an ?_
  refine yF (fun n st=>∃ (v_1:Int),st=mk [(0,.sl false 6 (Mp zB l_1)),(6,.sl false 6 (Mp zB l_1)),(7,Ii (lN (l_1))),(8,Ii v_1)] [] 0∧tU F l_1 n v_1=some o_1) F (by kernel_rfl) ⟨_,rfl,h⟩ ?_ ?_
  ·rintro _ ⟨_,_,h⟩;exact yM (h:(none:Option (Unit⊕Int))=some o_1)
  rintro n_1 _ ⟨v_1,rfl,h⟩
  replace h:uZ F l_1 (tU F l_1 n_1) v_1=some o_1:=h
  unfold uZ at h
  refine sr [] [0,6,7,8,9] [] 0 [.sl false 6 (Mp zB l_1),.sl false 6 (Mp zB l_1),Ii (lN (l_1)),Ii v_1,.bool (decide (v_1<(lN (l_1))))] [] zD an ?_
  refine sq ?_
  refine cd 9 (decide (v_1<(lN (l_1)))) ?_ ?_
  rotate_left
  ·intro g_1;replace h:=zO g_1 h
   refine yL (id:=0) (by kernel_rfl) ?_
   cases h
   exact ⟨rfl,(sw [] [] [] [] an)⟩
  intro g_1;replace h:=zN g_1 h
  refine sk ?_
  refine sq ?_
  refine zT (id:=1) (by kernel_rfl) ?_
  refine sq ?_
  obtain ⟨x_1,h_2,h⟩:=bind_some h
  refine rg [(1,{ av:=zB x_1 }),(3,{ id:=0 })] [0,3,4,6,7,8] [0] 1 [.sl false 6 (Mp zB l_1),Ii v_1,Pp 0,.sl false 6 (Mp zB l_1),Ii (lN (l_1)),Ii v_1] [Vb 33 (zJ x_1)] zD (ac (yO h_2:xD (Mp zB l_1) v_1=some (zB x_1)) an) ?_
  refine sq ?_
  refine sq ?_
  obtain ⟨r_1,h_3,h⟩:=bind_some h
  refine rg [(1,{ av:=Ii r_1,l:=[zB x_1] })] [0,3,4,5,6,7,8] [0] 1 [.sl false 6 (Mp zB l_1),Ii v_1,Pp 0,Ii r_1,.sl false 6 (Mp zB l_1),Ii (lN (l_1)),Ii v_1] [Vb 33 (zJ x_1)] zD (ar ([zB x_1]:List AV) (ac (rfl:([]:List zP)=[]) (ac (zBf F x_1 r_1 h_3:zM prog 48 [] [] [zB x_1] [] (Ii r_1)) an))) ?_
  refine sr [] [0,3,4,5,6,7,8,16] [0] 1 [.sl false 6 (Mp zB l_1),Ii v_1,Pp 0,Ii r_1,.sl false 6 (Mp zB l_1),Ii (lN (l_1)),Ii v_1,.bool (r_1 != (0:Int))] [Vb 33 (zJ x_1)] zD an ?_
  refine cd 16 (r_1 != (0:Int)) ?_ ?_
  ·intro g_2;replace h:=zN g_2 h
   refine sr [] [2] [] 1 [Ii r_1] [] zD an ?_
   refine rt ?_
   cases h
   exact ⟨rfl,Nat.le_of_ble_eq_true rfl,by kernel_rfl⟩
  intro g_2;replace h:=zO g_2 h
  refine sk ?_
  refine sq ?_
  obtain ⟨p_1,h_5,h⟩:=bind_some h
  refine zX (mk [(0,.sl false 6 (Mp zB l_1)),(6,.sl false 6 (Mp zB l_1)),(7,Ii (lN (l_1))),(8,Ii v_1),(30,.bool p_1)] [] 0) ?_ ?_
  ·replace h:=h_5
   rcases bft (decide (v_1>(0:Int))) with gg_4 | gg_4
   ·replace h:=zN gg_4 h
    obtain ⟨x_2,h_4,h⟩:=bind_some h
    refine rg [(8,{ av:=zB x_2 }),(12,Ht)] [0,6,7,8,21,22,23,24,25,26,27,28,29,30] [0] 1 [.sl false 6 (Mp zB l_1),.sl false 6 (Mp zB l_1),Ii (lN (l_1)),Ii v_1,Pp 0,Ii x_1.At,.sl false 6 (Mp zB l_1),Ii v_1,Ii (zK (v_1 - (1:Int))),.ref (zB x_2),.ref (Ii x_2.At),Ii x_2.At,.bool (decide (x_1.At<x_2.At)),.bool (decide (x_1.At<x_2.At))] [Vb 33 (zJ x_1)] zD (ac gg_4 (ac gg_4 (ac gg_4 (ac gg_4 (ac gg_4 (ac gg_4 (ac (yO h_4:xD (Mp zB l_1) (zK (v_1 - (1:Int)))=some (zB x_2)) (ac gg_4 (ac gg_4 (ac gg_4 (ac gg_4 an))))))))))) ?_
    cases h
    exact ⟨rfl,(sw [] [] [.s 0,.s 6,.s 7,.s 8,.s 30] [] an)⟩
   ·replace h:=zO gg_4 h
    refine rg [(3,Hg),(4,Hg),(5,Hg),(6,Hg),(7,Hg),(8,Hg),(9,Hg),(10,Hg),(11,Hg),(12,Hf)] [0,6,7,8,21,22,23,24,25,26,27,28,29,30] [] 1 [.sl false 6 (Mp zB l_1),.sl false 6 (Mp zB l_1),Ii (lN (l_1)),Ii v_1,.tuple [],.tuple [],.tuple [],.tuple [],.tuple [],.tuple [],.tuple [],.tuple [],.tuple [],.bool false] [] zD (ac gg_4 (ac gg_4 (ac gg_4 (ac gg_4 (ac gg_4 (ac gg_4 (ac gg_4 (ac gg_4 (ac gg_4 (ac gg_4 an)))))))))) ?_
    cases h
    exact ⟨rfl,(sw [] [] [.s 0,.s 6,.s 7,.s 8,.s 30] [] an)⟩
  refine cd 30 p_1 ?_ ?_
  rotate_left
  ·intro g_3;replace h:=zO g_3 h
   refine sk ?_
   refine rg [] [0,6,7,8] [] 0 [.sl false 6 (Mp zB l_1),.sl false 6 (Mp zB l_1),Ii (lN (l_1)),Ii (zK (v_1+(1:Int)))] [] zD an ?_
   exact ⟨_,(sw [] [] [.s 0,.s 6,.s 7,.s 8] [] an),_,rfl,h⟩
  intro g_3;replace h:=zN g_3 h
  refine sr [] [2] [] 0 [Ii 11] [] zD an ?_
  refine rt ?_
  cases h
  exact ⟨rfl,Nat.le_of_ble_eq_true rfl,by kernel_rfl⟩
 intro e st1 hk
 rcases o_1 with q_1 | q_2
 rotate_left
 ·obtain ⟨rfl,hf⟩:=hk
  cases h
  exact ⟨st1,Sub.refl _ _,.inr rfl,hf⟩
 obtain ⟨rfl,hs⟩:=hk
 refine ⟨_,hs,?_⟩
 refine sr [] [2] [] 0 [Ii 0] [] zD an ?_
 refine rt ?_
 cases h
 exact ⟨.inr rfl,Nat.le_of_ble_eq_true rfl,by kernel_rfl⟩
theorem xE (F:Nat) (p_1:zF) (r:Int) (h:vY F p_1=some r):zM prog 13 [] [] [zI p_1] [] (Ii r):=by
 refine zS (fn:=Go.Proofs.Try.f13) (code:=z6 Go.Proofs.Try.f13) (by kernel_rfl) (by kernel_rfl) (Nat.le_of_ble_eq_true (by kernel_rfl)) ?_
 unfold vY at h
 refine sr [(0,{ id:=0 })] [1] [0] 1 [Pp 0] [Vb 24 (zH p_1)] zD an ?_
 refine sq ?_
 refine sr [(6,{ id:=1 })] [1,11,12,13] [0,1] 2 [Pp 0,.own 1 3,Ii ((3:Nat):Int),Ii 0] [Vb 24 (zH p_1),Rb 3 1 (Mi ([p_1.Thread,p_1.Serial,p_1.Lost]:List Int))] zD an ?_
 obtain ⟨o_1,h_1,h⟩:=bind_some h
 refine yZ (K1:=(fun e st'=>match o_1 with | (.inl q0)=>e=.normal∧Sub 0 st' (mk [(1,Pp 0)] [(0,Vb 24 (zH p_1))] 1) | (.inr q1)=>e=.ret∧vS prog Go.Proofs.Try.f13 0 [] (Ii q1) st')) ?_ ?_
 ·replace h:=h_1
  refine zT (id:=0) (by kernel_rfl) ?_
  refine wk [0,1] [] [.s 1,.a 11 (.own 1 ((([p_1.Thread,p_1.Serial,p_1.Lost]:List Int)).length)),.s 12,.s 13] [.s 0,.s 1] [(1,Pp 0),(11,.own 1 ((([p_1.Thread,p_1.Serial,p_1.Lost]:List Int)).length)),(12,Ii ((3:Nat):Int)),(13,Ii 0)] [(0,Vb 24 (zH p_1)),(1,Rb 3 1 (Mi ([p_1.Thread,p_1.Serial,p_1.Lost]:List Int)))] (ac (congrArg (AV.own _) (by first | (simp;done) | (simp;omega)):(.own 1 3:AV)=.own 1 ((([p_1.Thread,p_1.Serial,p_1.Lost]:List Int)).length)) an) ?_
  refine yF (fun n st=>∃ (v_1:Int),st=mk [(1,Pp 0),(11,.own 1 ((([p_1.Thread,p_1.Serial,p_1.Lost]:List Int)).length)),(12,Ii ((3:Nat):Int)),(13,Ii v_1)] [(0,Vb 24 (zH p_1)),(1,Rb 3 1 (Mi ([p_1.Thread,p_1.Serial,p_1.Lost]:List Int)))] 2∧kD F p_1 n v_1=some o_1) F (by kernel_rfl) ⟨_,rfl,h⟩ ?_ ?_
  ·rintro _ ⟨_,_,h⟩;exact yM (h:(none:Option (Unit⊕Int))=some o_1)
  rintro n_1 _ ⟨v_1,rfl,h⟩
  replace h:x4 F p_1 (kD F p_1 n_1) v_1=some o_1:=h
  unfold x4 at h
  refine sr [] [1,11,12,13,14] [0,1] 2 [Pp 0,.own 1 ((([p_1.Thread,p_1.Serial,p_1.Lost]:List Int)).length),Ii ((3:Nat):Int),Ii v_1,.bool (decide (v_1<((3:Nat):Int)))] [Vb 24 (zH p_1),Rb 3 1 (Mi ([p_1.Thread,p_1.Serial,p_1.Lost]:List Int))] zD an ?_
  refine sq ?_
  refine cd 14 (decide (v_1<((3:Nat):Int))) ?_ ?_
  rotate_left
  ·intro g_1;replace h:=zO g_1 h
   refine yL (id:=0) (by kernel_rfl) ?_
   cases h
   exact ⟨rfl,(sw [0] [] [.s 1] [.s 0] an)⟩
  intro g_1;replace h:=zN g_1 h
  refine sk ?_
  refine sq ?_
  refine zT (id:=1) (by kernel_rfl) ?_
  refine sq ?_
  obtain ⟨x_1,h_2,h⟩:=bind_some h
  refine rg [(1,{ av:=Ii x_1 })] [1,4,11,12,13] [0,1] 2 [Pp 0,Ii x_1,.own 1 ((([p_1.Thread,p_1.Serial,p_1.Lost]:List Int)).length),Ii ((3:Nat):Int),Ii v_1] [Vb 24 (zH p_1),Rb 3 1 (Mi ([p_1.Thread,p_1.Serial,p_1.Lost]:List Int))] zD (ac (wQ h_2:(0:Int)≤v_1) (ac (by first | (simp;done) | simpa using wR h_2:v_1<(((([p_1.Thread,p_1.Serial,p_1.Lost]:List Int)).length:Nat):Int)) (ac (vP h_2:(Mi ([p_1.Thread,p_1.Serial,p_1.Lost]:List Int))[(v_1).toNat]?=some (Ii x_1)) an))) ?_
  refine sq ?_
  refine zX (mk [(1,Pp 0),(11,.own 1 ((([p_1.Thread,p_1.Serial,p_1.Lost]:List Int)).length)),(12,Ii ((3:Nat):Int)),(13,Ii v_1),(22,.bool (decide (x_1<(0:Int))||decide (x_1>(1000000000000000:Int))))] [(0,Vb 24 (zH p_1)),(1,Rb 3 1 (Mi ([p_1.Thread,p_1.Serial,p_1.Lost]:List Int)))] 2) ?_ ?_
  ·rcases bft (decide (x_1<(0:Int))) with gg_4 | gg_4
   ·refine rg [(3,Hg),(4,Hg),(5,Ht)] [1,11,12,13,20,21,22] [0,1] 2 [Pp 0,.own 1 ((([p_1.Thread,p_1.Serial,p_1.Lost]:List Int)).length),Ii ((3:Nat):Int),Ii v_1,.tuple [],.tuple [],.bool true] [Vb 24 (zH p_1),Rb 3 1 (Mi ([p_1.Thread,p_1.Serial,p_1.Lost]:List Int))] zD (ac gg_4 (ac gg_4 (ac gg_4 an))) ?_
    exact ⟨rfl,(sw [0,1] [] [.s 1,.s 11,.s 12,.s 13,.a 22 (.bool (decide (x_1<(0:Int))||decide (x_1>(1000000000000000:Int))))] [.s 0,.s 1] (ac (congrArg AV.bool (ort gg_4):(.bool true:AV)=.bool (decide (x_1<(0:Int))||decide (x_1>(1000000000000000:Int)))) an))⟩
   ·refine rg [(5,Hf)] [1,11,12,13,20,21,22] [0,1] 2 [Pp 0,.own 1 ((([p_1.Thread,p_1.Serial,p_1.Lost]:List Int)).length),Ii ((3:Nat):Int),Ii v_1,Ii x_1,.bool (decide (x_1>(1000000000000000:Int))),.bool (decide (x_1>(1000000000000000:Int)))] [Vb 24 (zH p_1),Rb 3 1 (Mi ([p_1.Thread,p_1.Serial,p_1.Lost]:List Int))] zD (ac gg_4 (ac gg_4 (ac gg_4 an))) ?_
    exact ⟨rfl,(sw [0,1] [] [.s 1,.s 11,.s 12,.s 13,.a 22 (.bool (decide (x_1<(0:Int))||decide (x_1>(1000000000000000:Int))))] [.s 0,.s 1] (ac (congrArg AV.bool (orf gg_4 rfl):(.bool (decide (x_1>(1000000000000000:Int))):AV)=.bool (decide (x_1<(0:Int))||decide (x_1>(1000000000000000:Int)))) an))⟩
  refine cd 22 (decide (x_1<(0:Int))||decide (x_1>(1000000000000000:Int))) ?_ ?_
  rotate_left
  ·intro g_2;replace h:=zO g_2 h
   refine sk ?_
   refine rg [] [1,11,12,13] [0,1] 2 [Pp 0,.own 1 ((([p_1.Thread,p_1.Serial,p_1.Lost]:List Int)).length),Ii ((3:Nat):Int),Ii (zK (v_1+(1:Int)))] [Vb 24 (zH p_1),Rb 3 1 (Mi ([p_1.Thread,p_1.Serial,p_1.Lost]:List Int))] zD an ?_
   exact ⟨_,(sw [0,1] [] [.s 1,.s 11,.s 12,.s 13] [.s 0,.s 1] an),_,rfl,h⟩
  intro g_2;replace h:=zN g_2 h
  refine sr [] [2] [] 2 [Ii 2] [] zD an ?_
  refine rt ?_
  cases h
  exact ⟨rfl,Nat.le_of_ble_eq_true rfl,by kernel_rfl⟩
 intro e st1 hk
 rcases o_1 with q_1 | q_2
 rotate_left
 ·obtain ⟨rfl,hf⟩:=hk
  cases h
  exact ⟨st1,Sub.refl _ _,.inr rfl,hf⟩
 obtain ⟨rfl,hs⟩:=hk
 refine ⟨_,hs,?_⟩
 refine sq ?_
 refine zT (id:=2) (by kernel_rfl) ?_
 refine sq ?_
 refine sr [] [1,24] [0] 1 [Pp 0,.bool (decide (p_1.Lost>p_1.Serial))] [Vb 24 (zH p_1)] zD an ?_
 obtain ⟨o_2,h_3,h⟩:=bind_some h
 refine zX (mk [(1,Pp 0),(24,.bool o_2)] [(0,Vb 24 (zH p_1))] 1) ?_ ?_
 ·replace h:=h_3
  refine cd 24 (decide (p_1.Lost>p_1.Serial)) ?_ ?_
  ·intro g_3;replace h:=zN g_3 h
   refine sk ?_
   cases h
   exact ⟨rfl,(sw [0] [] [.s 1,.s 24] [.s 0] an)⟩
  intro g_3;replace h:=zO g_3 h
  refine rg [(4,{ n:=(p_1.Events).length })] [1,24] [0] 1 [Pp 0,.bool (decide ((zK (p_1.Serial+(lN (p_1.Events))))>(1000000000000000:Int)))] [Vb 24 (zH p_1)] zD (ac (zY _:((Mp zB p_1.Events)).length=(p_1.Events).length) an) ?_
  cases h
  exact ⟨rfl,(sw [0] [] [.s 1,.s 24] [.s 0] an)⟩
 refine cd 24 o_2 ?_ ?_
 ·intro g_4;replace h:=zN g_4 h
  refine sr [] [2] [] 1 [Ii 2] [] zD an ?_
  refine rt ?_
  cases h
  exact ⟨.inr rfl,Nat.le_of_ble_eq_true rfl,by kernel_rfl⟩
 intro g_4;replace h:=zO g_4 h
 refine sr [(2,{ n:=(p_1.Events).length })] [1,37] [0] 1 [Pp 0,.bool ((lN (p_1.Events))==(0:Int))] [Vb 24 (zH p_1)] zD (ac (zY _:((Mp zB p_1.Events)).length=(p_1.Events).length) an) ?_
 refine cd 37 ((lN (p_1.Events))==(0:Int)) ?_ ?_
 ·intro g_5;replace h:=zN g_5 h
  refine sr [] [2] [] 1 [Ii 8] [] zD an ?_
  refine rt ?_
  cases h
  exact ⟨.inr rfl,Nat.le_of_ble_eq_true rfl,by kernel_rfl⟩
 intro g_5;replace h:=zO g_5 h
 refine sr [(2,{ n:=(p_1.Events).length })] [1,42] [0] 1 [Pp 0,.bool (decide ((lN (p_1.Events))>(1000:Int)))] [Vb 24 (zH p_1)] zD (ac (zY _:((Mp zB p_1.Events)).length=(p_1.Events).length) an) ?_
 refine cd 42 (decide ((lN (p_1.Events))>(1000:Int))) ?_ ?_
 ·intro g_6;replace h:=zN g_6 h
  refine sr [] [2] [] 1 [Ii 7] [] zD an ?_
  refine rt ?_
  cases h
  exact ⟨.inr rfl,Nat.le_of_ble_eq_true rfl,by kernel_rfl⟩
 intro g_6;replace h:=zO g_6 h
 refine sk ?_
 refine sq ?_
 obtain ⟨r_1,h_4,h⟩:=bind_some h
 refine rg [(2,{ av:=Ii r_1,l:=[.sl false 6 (Mp zB p_1.Events)] })] [2] [] 1 [Ii r_1] [] zD (ar ([.sl false 6 (Mp zB p_1.Events)]:List AV) (ac (rfl:([]:List zP)=[]) (ac (zEP F p_1.Events r_1 h_4:zM prog 26 [] [] [.sl false 6 (Mp zB p_1.Events)] [] (Ii r_1)) an))) ?_
 refine rt ?_
 cases h
 exact ⟨.inr rfl,Nat.le_of_ble_eq_true rfl,by kernel_rfl⟩
theorem zDn (F:Nat) (names_1:List (List Int)) (r:Int) (h:jD F names_1=some r):zM prog 63 [] [] [.sl false 1 (Ms names_1)] [] (Ii r):=by
 refine zS (fn:=Go.Proofs.Try.f63) (code:=z6 Go.Proofs.Try.f63) (by kernel_rfl) (by kernel_rfl) (Nat.le_of_ble_eq_true (by kernel_rfl)) ?_
 unfold jD at h
 refine sr [] [0] [] 0 [.sl false 1 (Ms names_1)] [] zD an ?_
 refine sr [(0,{ id:=0,mag:=false,mks:=[.str] })] [0,3] [0] 1 [.sl false 1 (Ms names_1),.mp 0] [.live (.map false [.str] [])] zD an ?_
 refine sq ?_
 refine sr [(1,{ n:=(names_1).length })] [3,8,9,10] [0] 1 [.mp 0,.sl false 1 (Ms names_1),Ii (lN (names_1)),Ii 0] [.live (.map false [.str] [])] zD (ac (zY _:((Ms names_1)).length=(names_1).length) an) ?_
 obtain ⟨o_1,h_1,h⟩:=bind_some h
 refine yZ (K1:=(fun e st'=>match o_1 with | (.inl q0)=>e=.normal∧Sub 0 st' (mk [] [] 0) | (.inr q1)=>e=.ret∧vS prog Go.Proofs.Try.f63 0 [] (Ii q1) st')) ?_ ?_
 ·replace h:=h_1
  refine zT (id:=0) (by kernel_rfl) ?_
  refine wk [0] [] [.s 3,.s 8,.s 9,.s 10] [.s 0] [(3,.mp 0),(8,.sl false 1 (Ms names_1)),(9,Ii (lN (names_1))),(10,Ii 0)] [(0,.live (.map false [.str] []))] an ?_
  refine yF (fun n st=>∃ (v_1:Int),∃ (row_1:List ((List Int)×Bool)),st=mk [(3,.mp 0),(8,.sl false 1 (Ms names_1)),(9,Ii (lN (names_1))),(10,Ii v_1)] [(0,.live (.map false [.str] (List.map (mpE AV.str AV.bool) row_1)))] 1∧uD F names_1 n v_1 row_1=some o_1) F (by kernel_rfl) ⟨_,_,rfl,h⟩ ?_ ?_
  ·rintro _ ⟨_,_,_,h⟩;exact yM (h:(none:Option (Unit⊕Int))=some o_1)
  rintro n_1 _ ⟨v_1,row_1,rfl,h⟩
  replace h:x6 F names_1 (uD F names_1 n_1) v_1 row_1=some o_1:=h
  unfold x6 at h
  refine sr [] [3,8,9,10,11] [0] 1 [.mp 0,.sl false 1 (Ms names_1),Ii (lN (names_1)),Ii v_1,.bool (decide (v_1<(lN (names_1))))] [.live (.map false [.str] (List.map (mpE AV.str AV.bool) row_1))] zD an ?_
  refine sq ?_
  refine cd 11 (decide (v_1<(lN (names_1)))) ?_ ?_
  rotate_left
  ·intro g_1;replace h:=zO g_1 h
   refine yL (id:=0) (by kernel_rfl) ?_
   cases h
   exact ⟨rfl,(sw [] [] [] [] an)⟩
  intro g_1;replace h:=zN g_1 h
  refine sk ?_
  refine sq ?_
  refine zT (id:=1) (by kernel_rfl) ?_
  refine sq ?_
  obtain ⟨x_1,h_2,h⟩:=bind_some h
  refine rg [(0,{ av:=.str x_1 })] [3,5,8,9,10] [0] 1 [.mp 0,.str x_1,.sl false 1 (Ms names_1),Ii (lN (names_1)),Ii v_1] [.live (.map false [.str] (List.map (mpE AV.str AV.bool) row_1))] zD (ac (yO h_2:xD (Ms names_1) v_1=some (.str x_1)) an) ?_
  refine sq ?_
  refine sq ?_
  obtain ⟨r_1,h_3,h⟩:=bind_some h
  refine rg [(1,{ av:=Ii r_1,l:=[.str x_1] })] [3,5,6,8,9,10] [0] 1 [.mp 0,.str x_1,Ii r_1,.sl false 1 (Ms names_1),Ii (lN (names_1)),Ii v_1] [.live (.map false [.str] (List.map (mpE AV.str AV.bool) row_1))] zD (ar ([.str x_1]:List AV) (ac (rfl:([]:List zP)=[]) (ac (n9 F x_1 r_1 h_3:zM prog 78 [] [] [.str x_1] [] (Ii r_1)) an))) ?_
  refine sr [] [3,5,6,8,9,10,17] [0] 1 [.mp 0,.str x_1,Ii r_1,.sl false 1 (Ms names_1),Ii (lN (names_1)),Ii v_1,.bool (r_1 != (0:Int))] [.live (.map false [.str] (List.map (mpE AV.str AV.bool) row_1))] zD an ?_
  refine cd 17 (r_1 != (0:Int)) ?_ ?_
  ·intro g_2;replace h:=zN g_2 h
   refine sr [] [2] [] 1 [Ii r_1] [] zD an ?_
   refine rt ?_
   cases h
   exact ⟨rfl,Nat.le_of_ble_eq_true rfl,by kernel_rfl⟩
  intro g_2;replace h:=zO g_2 h
  refine sk ?_
  refine sq ?_
  refine sr [(2,{ av:=(.bool ((tJ row_1 x_1).getD false)),g:=(tJ row_1 x_1).isSome })] [3,5,8,9,10,21] [0] 1 [.mp 0,.str x_1,.sl false 1 (Ms names_1),Ii (lN (names_1)),Ii v_1,.bool ((tJ row_1 x_1).getD false)] [.live (.map false [.str] (List.map (mpE AV.str AV.bool) row_1))] zD (ac (zKF:kO prog 9 false [.str]) (ac (zHJ (f:=AV.str) (g:=AV.bool) zKO row_1 x_1 false:zGW (List.map (mpE AV.str AV.bool) row_1) (.str x_1) (.bool false) (.bool ((tJ row_1 x_1).getD false)) (tJ row_1 x_1).isSome) an)) ?_
  refine cd 21 ((tJ row_1 x_1).getD false) ?_ ?_
  ·intro g_3;replace h:=zN g_3 h
   refine sr [] [2] [] 1 [Ii 4] [] zD an ?_
   refine rt ?_
   cases h
   exact ⟨rfl,Nat.le_of_ble_eq_true rfl,by kernel_rfl⟩
  intro g_3;replace h:=zO g_3 h
  refine sk ?_
  obtain ⟨_,h_4,h⟩:=bind_some h;replace h_4:=z0 h_4
  refine rg [(2,{ es:=(List.map (mpE AV.str AV.bool) (t3 row_1 x_1 true)) })] [3,8,9,10] [0] 1 [.mp 0,.sl false 1 (Ms names_1),Ii (lN (names_1)),Ii v_1] [.live (.map false [.str] (List.map (mpE AV.str AV.bool) (t3 row_1 x_1 true)))] zD (ac (zKF:kO prog 9 false [.str]) (ac (zI2 (f:=AV.str) (g:=AV.bool) zKO row_1 x_1 true:zI0 (List.map (mpE AV.str AV.bool) row_1) (.str x_1) (.bool true) (List.map (mpE AV.str AV.bool) (t3 row_1 x_1 true))) (ac (zKL (l:=row_1) h_4:((List.map (mpE AV.str AV.bool) row_1):List (AV×AV)).length<maxLen) an))) ?_
  refine rg [] [3,8,9,10] [0] 1 [.mp 0,.sl false 1 (Ms names_1),Ii (lN (names_1)),Ii (zK (v_1+(1:Int)))] [.live (.map false [.str] (List.map (mpE AV.str AV.bool) (t3 row_1 x_1 true)))] zD an ?_
  exact ⟨_,(sw [0] [] [.s 3,.s 8,.s 9,.s 10] [.s 0] an),_,_,rfl,h⟩
 intro e st1 hk
 rcases o_1 with q_1 | q_2
 rotate_left
 ·obtain ⟨rfl,hf⟩:=hk
  cases h
  exact ⟨st1,Sub.refl _ _,.inr rfl,hf⟩
 obtain ⟨rfl,hs⟩:=hk
 refine ⟨_,hs,?_⟩
 refine sr [] [2] [] 0 [Ii 0] [] zD an ?_
 refine rt ?_
 cases h
 exact ⟨.inr rfl,Nat.le_of_ble_eq_true rfl,by kernel_rfl⟩
theorem nL (F:Nat) (names_1:List (List Int)) (stacks_1:List (zE)) (r:Int) (h:tN F names_1 stacks_1=some r):zM prog 40 [] [] [.sl false 1 (Ms names_1),.sl false 2 (Mp zC stacks_1)] [] (Ii r):=by
 refine zS (fn:=Go.Proofs.Try.f40) (code:=z6 Go.Proofs.Try.f40) (by kernel_rfl) (by kernel_rfl) (Nat.le_of_ble_eq_true (by kernel_rfl)) ?_
 unfold tN at h
 refine sr [] [0,1] [] 0 [.sl false 1 (Ms names_1),.sl false 2 (Mp zC stacks_1)] [] zD an ?_
 refine sq ?_
 refine sq ?_
 refine zX (mk [(0,.sl false 1 (Ms names_1)),(1,.sl false 2 (Mp zC stacks_1)),(17,.bool (decide ((lN (names_1))>(1000:Int))||decide ((lN (stacks_1))>(1000:Int))))] [] 0) ?_ ?_
 ·rcases bft (decide ((lN (names_1))>(1000:Int))) with gg_1 | gg_1
  ·refine rg [(1,{ n:=(names_1).length }),(4,Hg),(5,Hg),(6,Hg),(7,Ht)] [0,1,17] [] 0 [.sl false 1 (Ms names_1),.sl false 2 (Mp zC stacks_1),.bool true] [] zD (ac (zY _:((Ms names_1)).length=(names_1).length) (ac gg_1 (ac gg_1 (ac gg_1 (ac gg_1 an))))) ?_
   exact ⟨rfl,(sw [] [] [.s 0,.s 1,.a 17 (.bool (decide ((lN (names_1))>(1000:Int))||decide ((lN (stacks_1))>(1000:Int))))] [] (ac (congrArg AV.bool (ort gg_1):(.bool true:AV)=.bool (decide ((lN (names_1))>(1000:Int))||decide ((lN (stacks_1))>(1000:Int)))) an))⟩
  ·refine rg [(1,{ n:=(names_1).length }),(5,{ n:=(stacks_1).length }),(7,Hf)] [0,1,17] [] 0 [.sl false 1 (Ms names_1),.sl false 2 (Mp zC stacks_1),.bool (decide ((lN (stacks_1))>(1000:Int)))] [] zD (ac (zY _:((Ms names_1)).length=(names_1).length) (ac gg_1 (ac gg_1 (ac (zY _:((Mp zC stacks_1)).length=(stacks_1).length) (ac gg_1 (ac gg_1 an)))))) ?_
   exact ⟨rfl,(sw [] [] [.s 0,.s 1,.a 17 (.bool (decide ((lN (names_1))>(1000:Int))||decide ((lN (stacks_1))>(1000:Int))))] [] (ac (congrArg AV.bool (orf gg_1 rfl):(.bool (decide ((lN (stacks_1))>(1000:Int))):AV)=.bool (decide ((lN (names_1))>(1000:Int))||decide ((lN (stacks_1))>(1000:Int)))) an))⟩
 refine cd 17 (decide ((lN (names_1))>(1000:Int))||decide ((lN (stacks_1))>(1000:Int))) ?_ ?_
 ·intro g_1;replace h:=zN g_1 h
  refine sr [] [4] [] 0 [Ii 7] [] zD an ?_
  refine rt ?_
  cases h
  exact ⟨.inr rfl,Nat.le_of_ble_eq_true rfl,by kernel_rfl⟩
 intro g_1;replace h:=zO g_1 h
 refine sk ?_
 refine sq ?_
 refine sq ?_
 obtain ⟨r_1,h_1,h⟩:=bind_some h
 refine rg [(1,{ av:=Ii r_1,l:=[.sl false 1 (Ms names_1)] })] [0,1,5] [] 0 [.sl false 1 (Ms names_1),.sl false 2 (Mp zC stacks_1),Ii r_1] [] zD (ar ([.sl false 1 (Ms names_1)]:List AV) (ac (rfl:([]:List zP)=[]) (ac (zDn F names_1 r_1 h_1:zM prog 63 [] [] [.sl false 1 (Ms names_1)] [] (Ii r_1)) an))) ?_
 refine sr [] [0,1,5,21] [] 0 [.sl false 1 (Ms names_1),.sl false 2 (Mp zC stacks_1),Ii r_1,.bool (r_1 != (0:Int))] [] zD an ?_
 refine cd 21 (r_1 != (0:Int)) ?_ ?_
 ·intro g_2;replace h:=zN g_2 h
  refine sr [] [4] [] 0 [Ii r_1] [] zD an ?_
  refine rt ?_
  cases h
  exact ⟨.inr rfl,Nat.le_of_ble_eq_true rfl,by kernel_rfl⟩
 intro g_2;replace h:=zO g_2 h
 refine sk ?_
 refine sr [(0,{ id:=0,mag:=true,mks:=[.int .i64,.int .i64] })] [0,1,6] [0] 1 [.sl false 1 (Ms names_1),.sl false 2 (Mp zC stacks_1),.mp 0] [.live (.map true [.int .i64,.int .i64] [])] zD an ?_
 refine sq ?_
 obtain ⟨_,h_2,h⟩:=bind_some h;replace h_2:=z0 h_2
 refine rg [(1,{ n:=(stacks_1).length }),(2,{ id:=1,l:=(Mi (List.replicate ((stacks_1).length) (0:Int))),m:=(stacks_1).length,n:=(stacks_1).length })] [0,1,6,7] [0,1] 2 [.sl false 1 (Ms names_1),.sl false 2 (Mp zC stacks_1),.mp 0,.own 1 ((stacks_1).length)] [.live (.map true [.int .i64,.int .i64] []),Rb 3 1 (Mi (List.replicate ((stacks_1).length) (0:Int)))] zD (ac (zY _:((Mp zC stacks_1)).length=(stacks_1).length) (ar (lN (stacks_1)) (ar (lN (stacks_1)) (ac (Nat.le_refl _:((stacks_1).length)≤((stacks_1).length)) (ac h_2 (ac (zMj:(Mi (List.replicate ((stacks_1).length) (0:Int)))=List.replicate ((stacks_1).length) (Ii 0)) an)))))) ?_
 refine sq ?_
 refine sr [(1,{ n:=(stacks_1).length })] [0,6,7,27,28,29] [0,1] 2 [.sl false 1 (Ms names_1),.mp 0,.own 1 ((stacks_1).length),.sl false 2 (Mp zC stacks_1),Ii (lN (stacks_1)),Ii 0] [.live (.map true [.int .i64,.int .i64] []),Rb 3 1 (Mi (List.replicate ((stacks_1).length) (0:Int)))] zD (ac (zY _:((Mp zC stacks_1)).length=(stacks_1).length) an) ?_
 obtain ⟨o_1,h_3,h⟩:=bind_some h
 refine yZ (K1:=(fun e st'=>match o_1 with | (.inl q0)=>e=.normal∧Sub 0 st' (mk [] [] 0) | (.inr q1)=>e=.ret∧vS prog Go.Proofs.Try.f40 0 [] (Ii q1) st')) ?_ ?_
 ·replace h:=h_3
  refine zT (id:=0) (by kernel_rfl) ?_
  refine wk [0,1] [] [.s 0,.s 6,.a 7 (.own 1 (((List.replicate ((stacks_1).length) (0:Int))).length)),.s 27,.s 28,.s 29] [.s 0,.s 1] [(0,.sl false 1 (Ms names_1)),(6,.mp 0),(7,.own 1 (((List.replicate ((stacks_1).length) (0:Int))).length)),(27,.sl false 2 (Mp zC stacks_1)),(28,Ii (lN (stacks_1))),(29,Ii 0)] [(0,.live (.map true [.int .i64,.int .i64] [])),(1,Rb 3 1 (Mi (List.replicate ((stacks_1).length) (0:Int))))] (ac (congrArg (AV.own _) List.length_replicate.symm:(.own 1 ((stacks_1).length):AV)=.own 1 (((List.replicate ((stacks_1).length) (0:Int))).length)) an) ?_
  refine yF (fun n st=>∃ (v_1:Int),∃ (row_1:List (zE×Bool)),∃ (row_2:List Int),st=mk [(0,.sl false 1 (Ms names_1)),(6,.mp 0),(7,.own 1 ((row_2).length)),(27,.sl false 2 (Mp zC stacks_1)),(28,Ii (lN (stacks_1))),(29,Ii v_1)] [(0,.live (.map true [.int .i64,.int .i64] (List.map (mpE zC AV.bool) row_1))),(1,Rb 3 1 (Mi row_2))] 2∧qW F names_1 stacks_1 n v_1 row_1 row_2=some o_1) F (by kernel_rfl) ⟨_,_,_,rfl,h⟩ ?_ ?_
  ·rintro _ ⟨_,_,_,_,h⟩;exact yM (h:(none:Option (Unit⊕Int))=some o_1)
  rintro n_1 _ ⟨v_1,row_1,row_2,rfl,h⟩
  replace h:tQ F names_1 stacks_1 (qW F names_1 stacks_1 n_1) v_1 row_1 row_2=some o_1:=h
  unfold tQ at h
  refine sr [] [0,6,7,27,28,29,30] [0,1] 2 [.sl false 1 (Ms names_1),.mp 0,.own 1 ((row_2).length),.sl false 2 (Mp zC stacks_1),Ii (lN (stacks_1)),Ii v_1,.bool (decide (v_1<(lN (stacks_1))))] [.live (.map true [.int .i64,.int .i64] (List.map (mpE zC AV.bool) row_1)),Rb 3 1 (Mi row_2)] zD an ?_
  refine sq ?_
  refine cd 30 (decide (v_1<(lN (stacks_1)))) ?_ ?_
  rotate_left
  ·intro g_3;replace h:=zO g_3 h
   refine yL (id:=0) (by kernel_rfl) ?_
   cases h
   exact ⟨rfl,(sw [] [] [] [] an)⟩
  intro g_3;replace h:=zN g_3 h
  refine sk ?_
  refine sq ?_
  refine zT (id:=1) (by kernel_rfl) ?_
  refine sq ?_
  obtain ⟨x_1,h_4,h⟩:=bind_some h
  refine rg [(1,{ av:=.agg [Ii x_1.c0,Ii x_1.c1] }),(3,{ id:=2 })] [0,6,7,8,9,27,28,29] [0,1,2] 3 [.sl false 1 (Ms names_1),.mp 0,.own 1 ((row_2).length),Ii v_1,Pp 2,.sl false 2 (Mp zC stacks_1),Ii (lN (stacks_1)),Ii v_1] [.live (.map true [.int .i64,.int .i64] (List.map (mpE zC AV.bool) row_1)),Rb 3 1 (Mi row_2),Vb 57 [Ii x_1.c0,Ii x_1.c1]] zD (ac (yO h_4:xD (Mp zC stacks_1) v_1=some (.agg [Ii x_1.c0,Ii x_1.c1])) an) ?_
  refine sq ?_
  refine zT (id:=2) (by kernel_rfl) ?_
  refine sq ?_
  refine zX (mk [(0,.sl false 1 (Ms names_1)),(6,.mp 0),(7,.own 1 ((row_2).length)),(8,Ii v_1),(9,Pp 2),(27,.sl false 2 (Mp zC stacks_1)),(28,Ii (lN (stacks_1))),(29,Ii v_1),(34,.bool (decide (x_1.c0<(-1:Int))||(decide (x_1.c0≥v_1)||(decide (x_1.c1<(0:Int))||decide (x_1.c1≥(lN (names_1)))))))] [(0,.live (.map true [.int .i64,.int .i64] (List.map (mpE zC AV.bool) row_1))),(1,Rb 3 1 (Mi row_2)),(2,Vb 57 [Ii x_1.c0,Ii x_1.c1])] 3) ?_ ?_
  ·rcases bft (decide (x_1.c0<(-1:Int))) with gg_11 | gg_11
   ·refine rg [(4,Hg),(5,Hg),(6,Hg),(7,Hg),(8,Ht),(10,Hg),(11,Hg),(12,Hg),(13,Ht),(15,Hg),(16,Hg),(17,Hg),(18,Hg),(19,Hg),(20,Ht)] [0,6,7,8,9,27,28,29,34,39,40,41,42,45,46,47,50,51,52,53,54] [0,1,2] 3 [.sl false 1 (Ms names_1),.mp 0,.own 1 ((row_2).length),Ii v_1,Pp 2,.sl false 2 (Mp zC stacks_1),Ii (lN (stacks_1)),Ii v_1,.bool true,.tuple [],.tuple [],.tuple [],.tuple [],.tuple [],.tuple [],.tuple [],.tuple [],.tuple [],.tuple [],.tuple [],.tuple []] [.live (.map true [.int .i64,.int .i64] (List.map (mpE zC AV.bool) row_1)),Rb 3 1 (Mi row_2),Vb 57 [Ii x_1.c0,Ii x_1.c1]] zD (ac (by decide:(0:Int)≤(0:Int)) (ac (by decide:(0:Int)<((2:Nat):Int)) (ac gg_11 (ac gg_11 (ac gg_11 (ac gg_11 (ac gg_11 (ax (ax (ax (ar true (ax (ax (ax (ax (ax (ar true an))))))))))))))))) ?_
    exact ⟨rfl,(sw [0,1,2] [] [.s 0,.s 6,.s 7,.s 8,.s 9,.s 27,.s 28,.s 29,.a 34 (.bool (decide (x_1.c0<(-1:Int))||(decide (x_1.c0≥v_1)||(decide (x_1.c1<(0:Int))||decide (x_1.c1≥(lN (names_1)))))))] [.s 0,.s 1,.s 2] (ac (congrArg AV.bool (ort gg_11):(.bool true:AV)=.bool (decide (x_1.c0<(-1:Int))||(decide (x_1.c0≥v_1)||(decide (x_1.c1<(0:Int))||decide (x_1.c1≥(lN (names_1))))))) an))⟩
   ·rcases bft (decide (x_1.c0≥v_1)) with gg_12 | gg_12
    ·refine rg [(8,Hf),(10,Hg),(11,Hg),(12,Hg),(13,Ht),(15,Hg),(16,Hg),(17,Hg),(18,Hg),(19,Hg),(20,Ht)] [0,6,7,8,9,27,28,29,34,39,40,41,42,45,46,47,50,51,52,53,54] [0,1,2] 3 [.sl false 1 (Ms names_1),.mp 0,.own 1 ((row_2).length),Ii v_1,Pp 2,.sl false 2 (Mp zC stacks_1),Ii (lN (stacks_1)),Ii v_1,.bool true,Pp 2,Ii x_1.c0,Ii v_1,.bool (decide (x_1.c0≥v_1)),.tuple [],.tuple [],.tuple [],.tuple [],.tuple [],.tuple [],.tuple [],.tuple []] [.live (.map true [.int .i64,.int .i64] (List.map (mpE zC AV.bool) row_1)),Rb 3 1 (Mi row_2),Vb 57 [Ii x_1.c0,Ii x_1.c1]] zD (ac (by decide:(0:Int)≤(0:Int)) (ac (by decide:(0:Int)<((2:Nat):Int)) (ac gg_11 (ac (by decide:(0:Int)≤(0:Int)) (ac (by decide:(0:Int)<((2:Nat):Int)) (ac gg_11 (ac gg_11 (ac gg_11 (ac gg_11 (ac gg_12 (ac gg_12 (ac gg_12 (ac gg_12 (ax (ax (ax (ax (ax (ar true an))))))))))))))))))) ?_
     exact ⟨rfl,(sw [0,1,2] [] [.s 0,.s 6,.s 7,.s 8,.s 9,.s 27,.s 28,.s 29,.a 34 (.bool (decide (x_1.c0<(-1:Int))||(decide (x_1.c0≥v_1)||(decide (x_1.c1<(0:Int))||decide (x_1.c1≥(lN (names_1)))))))] [.s 0,.s 1,.s 2] (ac (congrArg AV.bool (orf gg_11 (ort gg_12)):(.bool true:AV)=.bool (decide (x_1.c0<(-1:Int))||(decide (x_1.c0≥v_1)||(decide (x_1.c1<(0:Int))||decide (x_1.c1≥(lN (names_1))))))) an))⟩
    ·rcases bft (decide (x_1.c1<(0:Int))) with gg_13 | gg_13
     ·refine rg [(8,Hf),(13,Hf),(15,Hg),(16,Hg),(17,Hg),(18,Hg),(19,Hg),(20,Ht)] [0,6,7,8,9,27,28,29,34,39,40,41,42,45,46,47,50,51,52,53,54] [0,1,2] 3 [.sl false 1 (Ms names_1),.mp 0,.own 1 ((row_2).length),Ii v_1,Pp 2,.sl false 2 (Mp zC stacks_1),Ii (lN (stacks_1)),Ii v_1,.bool true,Pp 2,Ii x_1.c0,Ii v_1,.bool (decide (x_1.c0≥v_1)),.ptr 2 0 0 1,Ii x_1.c1,.bool (decide (x_1.c1<(0:Int))),.tuple [],.tuple [],.tuple [],.tuple [],.tuple []] [.live (.map true [.int .i64,.int .i64] (List.map (mpE zC AV.bool) row_1)),Rb 3 1 (Mi row_2),Vb 57 [Ii x_1.c0,Ii x_1.c1]] zD (ac (by decide:(0:Int)≤(0:Int)) (ac (by decide:(0:Int)<((2:Nat):Int)) (ac gg_11 (ac (by decide:(0:Int)≤(0:Int)) (ac (by decide:(0:Int)<((2:Nat):Int)) (ac gg_11 (ac gg_11 (ac gg_11 (ac gg_11 (ac gg_12 (ac (by decide:(0:Int)≤(1:Int)) (ac (by decide:(1:Int)<((2:Nat):Int)) (ac gg_12 (ac gg_12 (ac gg_12 (ac gg_13 (ac gg_13 (ac gg_13 (ac gg_13 (ac gg_13 (ac gg_13 an))))))))))))))))))))) ?_
      exact ⟨rfl,(sw [0,1,2] [] [.s 0,.s 6,.s 7,.s 8,.s 9,.s 27,.s 28,.s 29,.a 34 (.bool (decide (x_1.c0<(-1:Int))||(decide (x_1.c0≥v_1)||(decide (x_1.c1<(0:Int))||decide (x_1.c1≥(lN (names_1)))))))] [.s 0,.s 1,.s 2] (ac (congrArg AV.bool (orf gg_11 (orf gg_12 (ort gg_13))):(.bool true:AV)=.bool (decide (x_1.c0<(-1:Int))||(decide (x_1.c0≥v_1)||(decide (x_1.c1<(0:Int))||decide (x_1.c1≥(lN (names_1))))))) an))⟩
     ·refine rg [(8,Hf),(13,Hf),(18,{ n:=(names_1).length }),(20,Hf)] [0,6,7,8,9,27,28,29,34,39,40,41,42,45,46,47,50,51,52,53,54] [0,1,2] 3 [.sl false 1 (Ms names_1),.mp 0,.own 1 ((row_2).length),Ii v_1,Pp 2,.sl false 2 (Mp zC stacks_1),Ii (lN (stacks_1)),Ii v_1,.bool (decide (x_1.c1≥(lN (names_1)))),Pp 2,Ii x_1.c0,Ii v_1,.bool (decide (x_1.c0≥v_1)),.ptr 2 0 0 1,Ii x_1.c1,.bool (decide (x_1.c1<(0:Int))),.ptr 2 0 0 1,Ii x_1.c1,.sl false 1 (Ms names_1),Ii (lN (names_1)),.bool (decide (x_1.c1≥(lN (names_1))))] [.live (.map true [.int .i64,.int .i64] (List.map (mpE zC AV.bool) row_1)),Rb 3 1 (Mi row_2),Vb 57 [Ii x_1.c0,Ii x_1.c1]] zD (ac (by decide:(0:Int)≤(0:Int)) (ac (by decide:(0:Int)<((2:Nat):Int)) (ac gg_11 (ac (by decide:(0:Int)≤(0:Int)) (ac (by decide:(0:Int)<((2:Nat):Int)) (ac gg_11 (ac gg_11 (ac gg_11 (ac gg_11 (ac gg_12 (ac (by decide:(0:Int)≤(1:Int)) (ac (by decide:(1:Int)<((2:Nat):Int)) (ac gg_12 (ac gg_12 (ac gg_12 (ac gg_13 (ac (by decide:(0:Int)≤(1:Int)) (ac (by decide:(1:Int)<((2:Nat):Int)) (ac gg_13 (ac gg_13 (ac gg_13 (ac (zY _:((Ms names_1)).length=(names_1).length) (ac gg_13 (ac gg_13 an)))))))))))))))))))))))) ?_
      exact ⟨rfl,(sw [0,1,2] [] [.s 0,.s 6,.s 7,.s 8,.s 9,.s 27,.s 28,.s 29,.a 34 (.bool (decide (x_1.c0<(-1:Int))||(decide (x_1.c0≥v_1)||(decide (x_1.c1<(0:Int))||decide (x_1.c1≥(lN (names_1)))))))] [.s 0,.s 1,.s 2] (ac (congrArg AV.bool (orf gg_11 (orf gg_12 (orf gg_13 rfl))):(.bool (decide (x_1.c1≥(lN (names_1)))):AV)=.bool (decide (x_1.c0<(-1:Int))||(decide (x_1.c0≥v_1)||(decide (x_1.c1<(0:Int))||decide (x_1.c1≥(lN (names_1))))))) an))⟩
  refine cd 34 (decide (x_1.c0<(-1:Int))||(decide (x_1.c0≥v_1)||(decide (x_1.c1<(0:Int))||decide (x_1.c1≥(lN (names_1)))))) ?_ ?_
  ·intro g_4;replace h:=zN g_4 h
   refine sr [] [4] [] 3 [Ii 2] [] zD an ?_
   refine rt ?_
   cases h
   exact ⟨rfl,Nat.le_of_ble_eq_true rfl,by kernel_rfl⟩
  intro g_4;replace h:=zO g_4 h
  refine sr [(2,{ av:=(.bool ((tJ row_1 x_1).getD false)),g:=(tJ row_1 x_1).isSome })] [0,6,7,8,9,27,28,29,56] [0,1,2] 3 [.sl false 1 (Ms names_1),.mp 0,.own 1 ((row_2).length),Ii v_1,Pp 2,.sl false 2 (Mp zC stacks_1),Ii (lN (stacks_1)),Ii v_1,.bool ((tJ row_1 x_1).getD false)] [.live (.map true [.int .i64,.int .i64] (List.map (mpE zC AV.bool) row_1)),Rb 3 1 (Mi row_2),Vb 57 [Ii x_1.c0,Ii x_1.c1]] zD (ac (zFL:kO prog 57 true [.int .i64,.int .i64]) (ac (zHJ (f:=zC) (g:=AV.bool) zAT row_1 x_1 false:zGW (List.map (mpE zC AV.bool) row_1) (.agg [Ii x_1.c0,Ii x_1.c1]) (.bool false) (.bool ((tJ row_1 x_1).getD false)) (tJ row_1 x_1).isSome) an)) ?_
  refine cd 56 ((tJ row_1 x_1).getD false) ?_ ?_
  ·intro g_5;replace h:=zN g_5 h
   refine sr [] [4] [] 3 [Ii 4] [] zD an ?_
   refine rt ?_
   cases h
   exact ⟨rfl,Nat.le_of_ble_eq_true rfl,by kernel_rfl⟩
  intro g_5;replace h:=zO g_5 h
  refine sk ?_
  refine sq ?_
  obtain ⟨_,h_5,h⟩:=bind_some h;replace h_5:=z0 h_5
  refine rg [(2,{ es:=(List.map (mpE zC AV.bool) (t3 row_1 x_1 true)) })] [0,6,7,8,9,27,28,29] [0,1,2] 3 [.sl false 1 (Ms names_1),.mp 0,.own 1 ((row_2).length),Ii v_1,Pp 2,.sl false 2 (Mp zC stacks_1),Ii (lN (stacks_1)),Ii v_1] [.live (.map true [.int .i64,.int .i64] (List.map (mpE zC AV.bool) (t3 row_1 x_1 true))),Rb 3 1 (Mi row_2),Vb 57 [Ii x_1.c0,Ii x_1.c1]] zD (ac (zFL:kO prog 57 true [.int .i64,.int .i64]) (ac (zI2 (f:=zC) (g:=AV.bool) zAT row_1 x_1 true:zI0 (List.map (mpE zC AV.bool) row_1) (.agg [Ii x_1.c0,Ii x_1.c1]) (.bool true) (List.map (mpE zC AV.bool) (t3 row_1 x_1 true))) (ac (zKL (l:=row_1) h_5:((List.map (mpE zC AV.bool) row_1):List (AV×AV)).length<maxLen) an))) ?_
  refine sq ?_
  obtain ⟨x_2,h_6,h⟩:=bind_some h
  refine rg [(3,{ av:=Ii x_2,l:=(Mi ((row_2).set ((v_1).toNat) (1:Int))) })] [0,6,7,8,9,27,28,29] [0,1,2] 3 [.sl false 1 (Ms names_1),.mp 0,.own 1 ((row_2).length),Ii v_1,Pp 2,.sl false 2 (Mp zC stacks_1),Ii (lN (stacks_1)),Ii v_1] [.live (.map true [.int .i64,.int .i64] (List.map (mpE zC AV.bool) (t3 row_1 x_1 true))),Rb 3 1 (Mi ((row_2).set ((v_1).toNat) (1:Int))),Vb 57 [Ii x_1.c0,Ii x_1.c1]] zD (ac (wQ h_6:(0:Int)≤v_1) (ac (by first | (simp;done) | simpa using wR h_6:v_1<(((row_2).length:Nat):Int)) (ac (vP h_6:(Mi row_2)[(v_1).toNat]?=some (Ii x_2)) (ac (zC5 _ _ _:(Mi ((row_2).set ((v_1).toNat) (1:Int)))=List.set (Mi row_2) ((v_1).toNat) (nC (Ii x_2) 0 [Ii 1])) an)))) ?_
  refine sq ?_
  refine sr [] [0,6,7,8,9,27,28,29,67] [0,1,2] 3 [.sl false 1 (Ms names_1),.mp 0,.own 1 ((row_2).length),Ii v_1,Pp 2,.sl false 2 (Mp zC stacks_1),Ii (lN (stacks_1)),Ii v_1,.bool (x_1.c0 != (-1:Int))] [.live (.map true [.int .i64,.int .i64] (List.map (mpE zC AV.bool) (t3 row_1 x_1 true))),Rb 3 1 (Mi ((row_2).set ((v_1).toNat) (1:Int))),Vb 57 [Ii x_1.c0,Ii x_1.c1]] zD (ac (by decide:(0:Int)≤(0:Int)) (ac (by decide:(0:Int)<((2:Nat):Int)) an)) ?_
  obtain ⟨o_2,h_7,h⟩:=bind_some h
  refine zX (mk [(0,.sl false 1 (Ms names_1)),(6,.mp 0),(7,.own 1 ((o_2).length)),(8,Ii v_1),(27,.sl false 2 (Mp zC stacks_1)),(28,Ii (lN (stacks_1))),(29,Ii v_1)] [(0,.live (.map true [.int .i64,.int .i64] (List.map (mpE zC AV.bool) (t3 row_1 x_1 true)))),(1,Rb 3 1 (Mi o_2))] 2) ?_ ?_
  ·replace h:=h_7
   refine cd 67 (x_1.c0 != (-1:Int)) ?_ ?_
   rotate_left
   ·intro g_6;replace h:=zO g_6 h
    refine sk ?_
    cases h
    exact ⟨rfl,(sw [0,1] [] [.s 0,.s 6,.a 7 (.own 1 (((row_2).set ((v_1).toNat) (1:Int)).length)),.s 8,.s 27,.s 28,.s 29] [.s 0,.s 1] (ac (congrArg (AV.own _) (by first | (simp;done) | (simp;omega)):(.own 1 ((row_2).length):AV)=.own 1 (((row_2).set ((v_1).toNat) (1:Int)).length)) an))⟩
   intro g_6;replace h:=zN g_6 h
   obtain ⟨x_3,h_8,h⟩:=bind_some h
   obtain ⟨x_4,h_9,h⟩:=bind_some h
   obtain ⟨x_5,h_10,h⟩:=bind_some h
   refine rg [(3,{ av:=Ii x_3 }),(8,{ av:=Ii x_4 }),(11,{ av:=Ii x_5,l:=(Mi (((row_2).set ((v_1).toNat) (1:Int)).set ((v_1).toNat) (zK (x_3+x_4)))) })] [0,6,7,8,27,28,29] [0,1] 3 [.sl false 1 (Ms names_1),.mp 0,.own 1 ((row_2).length),Ii v_1,.sl false 2 (Mp zC stacks_1),Ii (lN (stacks_1)),Ii v_1] [.live (.map true [.int .i64,.int .i64] (List.map (mpE zC AV.bool) (t3 row_1 x_1 true))),Rb 3 1 (Mi (((row_2).set ((v_1).toNat) (1:Int)).set ((v_1).toNat) (zK (x_3+x_4))))] zD (ac (wQ h_8:(0:Int)≤v_1) (ac (by first | (simp;done) | simpa using wR h_8:v_1<(((row_2).length:Nat):Int)) (ac (vP h_8:(Mi ((row_2).set ((v_1).toNat) (1:Int)))[(v_1).toNat]?=some (Ii x_3)) (ac (by decide:(0:Int)≤(0:Int)) (ac (by decide:(0:Int)<((2:Nat):Int)) (ac (wQ h_9:(0:Int)≤x_1.c0) (ac (by first | (simp;done) | simpa using wR h_9:x_1.c0<(((row_2).length:Nat):Int)) (ac (vP h_9:(Mi ((row_2).set ((v_1).toNat) (1:Int)))[(x_1.c0).toNat]?=some (Ii x_4)) (ac (wQ h_10:(0:Int)≤v_1) (ac (by first | (simp;done) | simpa using wR h_10:v_1<(((row_2).length:Nat):Int)) (ac (vP h_10:(Mi ((row_2).set ((v_1).toNat) (1:Int)))[(v_1).toNat]?=some (Ii x_5)) (ac (zC5 _ _ _:(Mi (((row_2).set ((v_1).toNat) (1:Int)).set ((v_1).toNat) (zK (x_3+x_4))))=List.set (Mi ((row_2).set ((v_1).toNat) (1:Int))) ((v_1).toNat) (nC (Ii x_5) 0 [Ii (zK (x_3+x_4))])) an)))))))))))) ?_
   cases h
   exact ⟨rfl,(sw [0,1] [] [.s 0,.s 6,.a 7 (.own 1 ((((row_2).set ((v_1).toNat) (1:Int)).set ((v_1).toNat) (zK (x_3+x_4))).length)),.s 8,.s 27,.s 28,.s 29] [.s 0,.s 1] (ac (congrArg (AV.own _) (by first | (simp;done) | (simp;omega)):(.own 1 ((row_2).length):AV)=.own 1 ((((row_2).set ((v_1).toNat) (1:Int)).set ((v_1).toNat) (zK (x_3+x_4))).length)) an))⟩
  refine sq ?_
  obtain ⟨x_6,h_11,h⟩:=bind_some h
  refine rg [(3,{ av:=Ii x_6 })] [0,6,7,27,28,29,83] [0,1] 2 [.sl false 1 (Ms names_1),.mp 0,.own 1 ((o_2).length),.sl false 2 (Mp zC stacks_1),Ii (lN (stacks_1)),Ii v_1,.bool (decide (x_6>(32:Int)))] [.live (.map true [.int .i64,.int .i64] (List.map (mpE zC AV.bool) (t3 row_1 x_1 true))),Rb 3 1 (Mi o_2)] zD (ac (wQ h_11:(0:Int)≤v_1) (ac (by first | (simp;done) | simpa using wR h_11:v_1<(((o_2).length:Nat):Int)) (ac (vP h_11:(Mi o_2)[(v_1).toNat]?=some (Ii x_6)) an))) ?_
  refine cd 83 (decide (x_6>(32:Int))) ?_ ?_
  rotate_left
  ·intro g_7;replace h:=zO g_7 h
   refine sk ?_
   refine rg [] [0,6,7,27,28,29] [0,1] 2 [.sl false 1 (Ms names_1),.mp 0,.own 1 ((o_2).length),.sl false 2 (Mp zC stacks_1),Ii (lN (stacks_1)),Ii (zK (v_1+(1:Int)))] [.live (.map true [.int .i64,.int .i64] (List.map (mpE zC AV.bool) (t3 row_1 x_1 true))),Rb 3 1 (Mi o_2)] zD an ?_
   exact ⟨_,(sw [0,1] [] [.s 0,.s 6,.s 7,.s 27,.s 28,.s 29] [.s 0,.s 1] an),_,_,_,rfl,h⟩
  intro g_7;replace h:=zN g_7 h
  refine sr [] [4] [] 2 [Ii 7] [] zD an ?_
  refine rt ?_
  cases h
  exact ⟨rfl,Nat.le_of_ble_eq_true rfl,by kernel_rfl⟩
 intro e st1 hk
 rcases o_1 with q_1 | q_2
 rotate_left
 ·obtain ⟨rfl,hf⟩:=hk
  cases h
  exact ⟨st1,Sub.refl _ _,.inr rfl,hf⟩
 obtain ⟨rfl,hs⟩:=hk
 refine ⟨_,hs,?_⟩
 refine sr [] [4] [] 0 [Ii 0] [] zD an ?_
 refine rt ?_
 cases h
 exact ⟨.inr rfl,Nat.le_of_ble_eq_true rfl,by kernel_rfl⟩
theorem zC4 (k_1:Int) (r:Bool×Bool×Bool×Bool) (h:zAA k_1=some r):zM prog 51 [] [] [Ii k_1] [] (.tuple [.bool r.1,.bool r.2.1,.bool r.2.2.1,.bool r.2.2.2]):=by
 refine zS (fn:=Go.Proofs.Try.f51) (code:=z6 Go.Proofs.Try.f51) (by kernel_rfl) (by kernel_rfl) (Nat.le_of_ble_eq_true (by kernel_rfl)) ?_
 unfold zAA at h
 refine sr [] [0] [] 0 [Ii k_1] [] zD an ?_
 refine sq ?_
 refine zX (mk [(0,Ii k_1),(2,.bool ((k_1==(1:Int))||((k_1==(3:Int))||(k_1==(4:Int)))))] [] 0) ?_ ?_
 ·rcases bft (k_1==(1:Int)) with gg_1 | gg_1
  ·refine rg [(3,Hg),(4,Hg),(5,Ht),(7,Hg),(8,Hg),(9,Ht)] [0,2] [] 0 [Ii k_1,.bool true] [] zD (ac gg_1 (ac gg_1 (ac gg_1 (ax (ax (ar true an)))))) ?_
   exact ⟨rfl,(sw [] [] [.s 0,.a 2 (.bool ((k_1==(1:Int))||((k_1==(3:Int))||(k_1==(4:Int)))))] [] (ac (congrArg AV.bool (ort gg_1):(.bool true:AV)=.bool ((k_1==(1:Int))||((k_1==(3:Int))||(k_1==(4:Int))))) an))⟩
  ·rcases bft (k_1==(3:Int)) with gg_2 | gg_2
   ·refine rg [(5,Hf),(7,Hg),(8,Hg),(9,Ht)] [0,2] [] 0 [Ii k_1,.bool true] [] zD (ac gg_1 (ac gg_1 (ac gg_1 (ac gg_2 (ac gg_2 (ac gg_2 an)))))) ?_
    exact ⟨rfl,(sw [] [] [.s 0,.a 2 (.bool ((k_1==(1:Int))||((k_1==(3:Int))||(k_1==(4:Int)))))] [] (ac (congrArg AV.bool (orf gg_1 (ort gg_2)):(.bool true:AV)=.bool ((k_1==(1:Int))||((k_1==(3:Int))||(k_1==(4:Int))))) an))⟩
   ·refine rg [(5,Hf),(9,Hf)] [0,2] [] 0 [Ii k_1,.bool (k_1==(4:Int))] [] zD (ac gg_1 (ac gg_1 (ac gg_1 (ac gg_2 (ac gg_2 (ac gg_2 an)))))) ?_
    exact ⟨rfl,(sw [] [] [.s 0,.a 2 (.bool ((k_1==(1:Int))||((k_1==(3:Int))||(k_1==(4:Int)))))] [] (ac (congrArg AV.bool (orf gg_1 (orf gg_2 rfl)):(.bool (k_1==(4:Int)):AV)=.bool ((k_1==(1:Int))||((k_1==(3:Int))||(k_1==(4:Int))))) an))⟩
 refine sr [] [0,2,3] [] 0 [Ii k_1,.bool ((k_1==(1:Int))||((k_1==(3:Int))||(k_1==(4:Int)))),.bool (decide (k_1≥(4:Int)))] [] zD an ?_
 refine sq ?_
 refine zX (mk [(0,Ii k_1),(2,.bool ((k_1==(1:Int))||((k_1==(3:Int))||(k_1==(4:Int))))),(3,.bool (decide (k_1≥(4:Int)))),(4,.bool ((k_1==(9:Int))||(k_1==(11:Int))))] [] 0) ?_ ?_
 ·rcases bft (k_1==(9:Int)) with gg_3 | gg_3
  ·refine rg [(3,Hg),(4,Hg),(5,Ht)] [0,2,3,4] [] 0 [Ii k_1,.bool ((k_1==(1:Int))||((k_1==(3:Int))||(k_1==(4:Int)))),.bool (decide (k_1≥(4:Int))),.bool true] [] zD (ac gg_3 (ac gg_3 (ac gg_3 an))) ?_
   exact ⟨rfl,(sw [] [] [.s 0,.s 2,.s 3,.a 4 (.bool ((k_1==(9:Int))||(k_1==(11:Int))))] [] (ac (congrArg AV.bool (ort gg_3):(.bool true:AV)=.bool ((k_1==(9:Int))||(k_1==(11:Int)))) an))⟩
  ·refine rg [(5,Hf)] [0,2,3,4] [] 0 [Ii k_1,.bool ((k_1==(1:Int))||((k_1==(3:Int))||(k_1==(4:Int)))),.bool (decide (k_1≥(4:Int))),.bool (k_1==(11:Int))] [] zD (ac gg_3 (ac gg_3 (ac gg_3 an))) ?_
   exact ⟨rfl,(sw [] [] [.s 0,.s 2,.s 3,.a 4 (.bool ((k_1==(9:Int))||(k_1==(11:Int))))] [] (ac (congrArg AV.bool (orf gg_3 rfl):(.bool (k_1==(11:Int)):AV)=.bool ((k_1==(9:Int))||(k_1==(11:Int)))) an))⟩
 refine sq ?_
 refine zX (mk [(2,.bool ((k_1==(1:Int))||((k_1==(3:Int))||(k_1==(4:Int))))),(3,.bool (decide (k_1≥(4:Int)))),(4,.bool ((k_1==(9:Int))||(k_1==(11:Int)))),(5,.bool ((k_1==(5:Int))||(k_1==(11:Int))))] [] 0) ?_ ?_
 ·rcases bft (k_1==(5:Int)) with gg_4 | gg_4
  ·refine rg [(3,Hg),(4,Hg),(5,Ht)] [2,3,4,5] [] 0 [.bool ((k_1==(1:Int))||((k_1==(3:Int))||(k_1==(4:Int)))),.bool (decide (k_1≥(4:Int))),.bool ((k_1==(9:Int))||(k_1==(11:Int))),.bool true] [] zD (ac gg_4 (ac gg_4 (ac gg_4 an))) ?_
   exact ⟨rfl,(sw [] [] [.s 2,.s 3,.s 4,.a 5 (.bool ((k_1==(5:Int))||(k_1==(11:Int))))] [] (ac (congrArg AV.bool (ort gg_4):(.bool true:AV)=.bool ((k_1==(5:Int))||(k_1==(11:Int)))) an))⟩
  ·refine rg [(5,Hf)] [2,3,4,5] [] 0 [.bool ((k_1==(1:Int))||((k_1==(3:Int))||(k_1==(4:Int)))),.bool (decide (k_1≥(4:Int))),.bool ((k_1==(9:Int))||(k_1==(11:Int))),.bool (k_1==(11:Int))] [] zD (ac gg_4 (ac gg_4 (ac gg_4 an))) ?_
   exact ⟨rfl,(sw [] [] [.s 2,.s 3,.s 4,.a 5 (.bool ((k_1==(5:Int))||(k_1==(11:Int))))] [] (ac (congrArg AV.bool (orf gg_4 rfl):(.bool (k_1==(11:Int)):AV)=.bool ((k_1==(5:Int))||(k_1==(11:Int)))) an))⟩
 refine sr [] [2,3,4,5] [] 0 [.bool ((k_1==(1:Int))||((k_1==(3:Int))||(k_1==(4:Int)))),.bool (decide (k_1≥(4:Int))),.bool ((k_1==(9:Int))||(k_1==(11:Int))),.bool ((k_1==(5:Int))||(k_1==(11:Int)))] [] zD an ?_
 refine rt ?_
 cases h
 exact ⟨.inr rfl,Nat.le_of_ble_eq_true rfl,by kernel_rfl⟩
theorem zGv (n_1:Int) (r:Int) (h:nP n_1=some r):zM prog 77 [] [] [Ii n_1] [] (.int .u64 r):=by
 refine zS (fn:=Go.Proofs.Try.f77) (code:=z6 Go.Proofs.Try.f77) (by kernel_rfl) (by kernel_rfl) (Nat.le_of_ble_eq_true (by kernel_rfl)) ?_
 unfold nP at h
 refine sr [] [0] [] 0 [Ii n_1] [] zD an ?_
 refine sr [] [2] [] 0 [.int .u64 (zAL .u64 (kL .u64 (zW n_1) (1:Int)) (zW (nJ .i64 n_1 (63:Int))))] [] zD (ac (by decide:(0:Int)≤(1:Int)) (ac (by decide:(0:Int)≤(63:Int)) an)) ?_
 refine rt ?_
 cases h
 exact ⟨.inr rfl,Nat.le_of_ble_eq_true rfl,by kernel_rfl⟩
theorem vQ (F:Nat) (b_1:List (Int)) (n_1:Int) (r:(List (Int))) (h:xL F b_1 n_1=some r):zM prog 52 [] [] [.sl false 1 (Mb b_1),Ii n_1] [.row 5 1 (Mb r)] (.own 0 ((r).length)):=by
 refine zS (fn:=Go.Proofs.Try.f52) (code:=z6 Go.Proofs.Try.f52) (by kernel_rfl) (by kernel_rfl) (Nat.le_of_ble_eq_true (by kernel_rfl)) ?_
 unfold xL at h
 refine sr [(0,{ id:=0,m:=1 })] [0,1] [] 1 [.sl false 1 (Mb b_1),Ii n_1] [] zD an ?_
 refine sr [(0,{ b:=true,id:=1 })] [0,1,5] [1] 2 [.sl false 1 (Mb b_1),Ii n_1,Pp 1] [Rb 107 1 (Mb (List.replicate 10 (0:Int)))] zD an ?_
 refine sr [] [0,1,5,6] [1] 2 [.sl false 1 (Mb b_1),Ii n_1,Pp 1,Ii 0] [Rb 107 1 (Mb (List.replicate 10 (0:Int)))] zD an ?_
 refine sq ?_
 refine sq ?_
 obtain ⟨r_1,h_1,h⟩:=bind_some h
 refine rg [(1,{ av:=.int .u64 r_1,l:=[Ii n_1] })] [0,5,6,7] [1] 2 [.sl false 1 (Mb b_1),Pp 1,Ii 0,.int .u64 r_1] [Rb 107 1 (Mb (List.replicate 10 (0:Int)))] zD (ar ([Ii n_1]:List AV) (ac (rfl:([]:List zP)=[]) (ac (zGv n_1 r_1 h_1:zM prog 77 [] [] [Ii n_1] [] (.int .u64 r_1)) an))) ?_
 obtain ⟨o_1,h_2,h⟩:=bind_some h
 refine zX (mk [(0,.sl false 1 (Mb b_1)),(5,Pp 0),(6,Ii o_1.1)] [(0,Rb 107 1 (Mb o_1.2))] 1) ?_ ?_
 ·replace h:=h_2
  refine zT (id:=0) (by kernel_rfl) ?_
  refine wk [1] [] [.s 0,.s 5,.s 6,.s 7] [.s 0] [(0,.sl false 1 (Mb b_1)),(5,Pp 0),(6,Ii 0),(7,.int .u64 r_1)] [(0,Rb 107 1 (Mb (List.replicate 10 (0:Int))))] an ?_
  refine yF (fun n st=>∃ (size_1:Int),∃ (u_1:Int),∃ (row_1:List Int),st=mk [(0,.sl false 1 (Mb b_1)),(5,Pp 0),(6,Ii size_1),(7,.int .u64 u_1)] [(0,Rb 107 1 (Mb row_1))] 1∧uP F n size_1 u_1 row_1=some o_1) F (by kernel_rfl) ⟨_,_,_,rfl,h⟩ ?_ ?_
  ·rintro _ ⟨_,_,_,_,h⟩;exact yM (h:(none:Option (Int×(List Int)))=some o_1)
  rintro n_2 _ ⟨size_1,u_1,row_1,rfl,h⟩
  replace h:vF F (uP F n_2) size_1 u_1 row_1=some o_1:=h
  unfold vF at h
  refine sq ?_
  refine zT (id:=1) (by kernel_rfl) ?_
  refine sq ?_
  obtain ⟨_,h_3,h⟩:=bind_some h;replace h_3:=z0 h_3
  obtain ⟨x_1,h_4,h⟩:=bind_some h
  refine rg [(4,Ht),(5,{ av:=Iu x_1,l:=(Mb ((row_1).set ((size_1).toNat) (y4 (vG .u64 u_1 (127:Int))))) })] [0,5,6,7] [0] 1 [.sl false 1 (Mb b_1),Pp 0,Ii size_1,.int .u64 u_1] [Rb 107 1 (Mb ((row_1).set ((size_1).toNat) (y4 (vG .u64 u_1 (127:Int)))))] zD (ac h_3.1 (ac h_3.2 (ac (zG8 h_4:(Mb row_1)[(size_1).toNat]?=some (Iu x_1)) (ac (zC5 _ _ _:(Mb ((row_1).set ((size_1).toNat) (y4 (vG .u64 u_1 (127:Int)))))=List.set (Mb row_1) ((size_1).toNat) (nC (Iu x_1) 0 [Iu (y4 (vG .u64 u_1 (127:Int)))])) an)))) ?_
  refine sr [] [0,5,6,7] [0] 1 [.sl false 1 (Mb b_1),Pp 0,Ii (zK (size_1+(1:Int))),.int .u64 u_1] [Rb 107 1 (Mb ((row_1).set ((size_1).toNat) (y4 (vG .u64 u_1 (127:Int)))))] zD an ?_
  refine sq ?_
  refine sr [] [0,5,6,7,20] [0] 1 [.sl false 1 (Mb b_1),Pp 0,Ii (zK (size_1+(1:Int))),.int .u64 u_1,.bool (decide (u_1<(128:Int)))] [Rb 107 1 (Mb ((row_1).set ((size_1).toNat) (y4 (vG .u64 u_1 (127:Int)))))] zD an ?_
  refine cd 20 (decide (u_1<(128:Int))) ?_ ?_
  ·intro g_1;replace h:=zN g_1 h
   refine yL (id:=0) (by kernel_rfl) ?_
   cases h
   exact ⟨rfl,(sw [0] [] [.s 0,.s 5,.s 6] [.s 0] an)⟩
  intro g_1;replace h:=zO g_1 h
  refine sk ?_
  obtain ⟨_,h_5,h⟩:=bind_some h;replace h_5:=z0 h_5
  obtain ⟨x_2,h_6,h⟩:=bind_some h
  obtain ⟨_,h_7,h⟩:=bind_some h;replace h_7:=z0 h_7
  obtain ⟨x_3,h_8,h⟩:=bind_some h
  refine rg [(2,Ht),(3,{ av:=Iu x_2 }),(5,Ht),(6,{ av:=Iu x_3,l:=(Mb (((row_1).set ((size_1).toNat) (y4 (vG .u64 u_1 (127:Int)))).set ((zK ((zK (size_1+(1:Int))) - (1:Int))).toNat) (ior .u8 x_2 (128:Int)))) })] [0,5,6,7] [0] 1 [.sl false 1 (Mb b_1),Pp 0,Ii (zK (size_1+(1:Int))),.int .u64 u_1] [Rb 107 1 (Mb (((row_1).set ((size_1).toNat) (y4 (vG .u64 u_1 (127:Int)))).set ((zK ((zK (size_1+(1:Int))) - (1:Int))).toNat) (ior .u8 x_2 (128:Int))))] zD (ac h_5.1 (ac h_5.2 (ac (zG8 h_6:(Mb ((row_1).set ((size_1).toNat) (y4 (vG .u64 u_1 (127:Int)))))[(zK ((zK (size_1+(1:Int))) - (1:Int))).toNat]?=some (Iu x_2)) (ac h_7.1 (ac h_7.2 (ac (zG8 h_8:(Mb ((row_1).set ((size_1).toNat) (y4 (vG .u64 u_1 (127:Int)))))[(zK ((zK (size_1+(1:Int))) - (1:Int))).toNat]?=some (Iu x_3)) (ac (zC5 _ _ _:(Mb (((row_1).set ((size_1).toNat) (y4 (vG .u64 u_1 (127:Int)))).set ((zK ((zK (size_1+(1:Int))) - (1:Int))).toNat) (ior .u8 x_2 (128:Int))))=List.set (Mb ((row_1).set ((size_1).toNat) (y4 (vG .u64 u_1 (127:Int))))) ((zK ((zK (size_1+(1:Int))) - (1:Int))).toNat) (nC (Iu x_3) 0 [Iu (ior .u8 x_2 (128:Int))])) an))))))) ?_
  refine rg [] [0,5,6,7] [0] 1 [.sl false 1 (Mb b_1),Pp 0,Ii (zK (size_1+(1:Int))),.int .u64 (nJ .u64 u_1 (7:Int))] [Rb 107 1 (Mb (((row_1).set ((size_1).toNat) (y4 (vG .u64 u_1 (127:Int)))).set ((zK ((zK (size_1+(1:Int))) - (1:Int))).toNat) (ior .u8 x_2 (128:Int))))] zD (ac (by decide:(0:Int)≤(7:Int)) an) ?_
  exact ⟨_,(sw [0] [] [.s 0,.s 5,.s 6,.s 7] [.s 0] an),_,_,_,rfl,h⟩
 refine sq ?_
 obtain ⟨_,h_9,h⟩:=bind_some h;replace h_9:=z0 h_9
 obtain ⟨_,h_10,h⟩:=bind_some h;replace h_10:=z0 h_10
 obtain ⟨_,h_11,h⟩:=bind_some h;replace h_11:=z0 h_11
 obtain ⟨_,h_12,h⟩:=bind_some h;replace h_12:=z0 h_12
 refine rg [(2,{ n:=(b_1).length }),(4,{ n:=(b_1).length }),(5,{ l:=(Mb (sub b_1 (0:Int) (lN (b_1)))) }),(8,{ dep:=true,id:=1,l:=(Mb ((sub b_1 (0:Int) (lN (b_1)))++(((o_1.2).take ((o_1.1).toNat)).drop 0))),n:=(((sub b_1 (0:Int) (lN (b_1)))++(((o_1.2).take ((o_1.1).toNat)).drop 0))).length })] [4] [1] 2 [.own 1 ((((sub b_1 (0:Int) (lN (b_1)))++(((o_1.2).take ((o_1.1).toNat)).drop 0))).length)] [Rb 5 1 (Mb ((sub b_1 (0:Int) (lN (b_1)))++(((o_1.2).take ((o_1.1).toNat)).drop 0)))] zD (ac (zY _:((Mb b_1)).length=(b_1).length) (ac (zY _:((Mb b_1)).length=(b_1).length) (ac (by decide:(0:Int)≤(0:Int)) (ac (Int.natCast_nonneg _:(0:Int)≤(lN (b_1))) (ac (v5 (Int.le_refl _):(lN (b_1))≤(lN ((Mb b_1)))) (ar (lN (b_1)) (ac (zBP _ _ _:(Mb (sub b_1 (0:Int) (lN (b_1))))=(((Mb b_1)).take ((lN (b_1))).toNat).drop ((0:Int)).toNat) (ac (by decide:(0:Int)≤(0:Int)) (ac h_9.1 (ac h_9.2.1 (ac (zCO h_9.2.2:10≤((Mb o_1.2)).length) (ac (zCO h_10.2:((o_1.1).toNat)≤((Mb o_1.2)).length) (ac h_10.1 (ac (zKc _ _ _ _:(Mb ((sub b_1 (0:Int) (lN (b_1)))++(((o_1.2).take ((o_1.1).toNat)).drop 0)))=(Mb (sub b_1 (0:Int) (lN (b_1))))++(((Mb o_1.2)).take ((o_1.1).toNat)).drop 0) (ac (by first | (simp;done) | simpa using h_11:(((List.map (AV.int .u8) (sub b_1 (0:Int) (((b_1).length:Nat):Int))):List AV).length+((((List.map (AV.int .u8) o_1.2)).take ((o_1.1).toNat)).drop 0:List AV).length) * 1≤140737488355328) (ac (by first | (simp;done) | simpa using h_12:0<((((List.map (AV.int .u8) o_1.2)).take ((o_1.1).toNat)).drop 0:List AV).length∨((List.map (AV.int .u8) (sub b_1 (0:Int) (((b_1).length:Nat):Int))):List AV).length=0) (ac (by simp:(((sub b_1 (0:Int) (((b_1).length:Nat):Int))++(((o_1.2).take ((o_1.1).toNat)).drop 0))).length=((List.map (AV.int .u8) ((sub b_1 (0:Int) (((b_1).length:Nat):Int))++(((o_1.2).take ((o_1.1).toNat)).drop 0)))).length) an))))))))))))))))) ?_
 refine wk [1] [] [.s 4] [.s 0] [(4,.own 0 ((((sub b_1 (0:Int) (lN (b_1)))++(((o_1.2).take ((o_1.1).toNat)).drop 0))).length))] [(0,Rb 5 1 (Mb ((sub b_1 (0:Int) (lN (b_1)))++(((o_1.2).take ((o_1.1).toNat)).drop 0))))] an ?_
 refine rt ?_
 cases h
 exact ⟨.inr rfl,Nat.le_of_ble_eq_true rfl,by kernel_rfl⟩
theorem zBb (F:Nat) (s_1:List (List Int)) (a_1:List Int) (r:Int) (h:vJ F s_1 a_1=some r):zM prog 79 [] [] [.sl false 1 (Ms s_1),.str a_1] [] (Ii r):=by
 refine zS (fn:=Go.Proofs.Try.f79) (code:=z6 Go.Proofs.Try.f79) (by kernel_rfl) (by kernel_rfl) (Nat.le_of_ble_eq_true (by kernel_rfl)) ?_
 unfold vJ at h
 refine sr [] [0,1] [] 0 [.sl false 1 (Ms s_1),.str a_1] [] zD an ?_
 refine sq ?_
 refine sr [(1,{ n:=(s_1).length })] [0,1,7,8] [] 0 [.sl false 1 (Ms s_1),.str a_1,Ii (lN (s_1)),Ii 0] [] zD (ac (zY _:((Ms s_1)).length=(s_1).length) an) ?_
 obtain ⟨o_1,h_1,h⟩:=bind_some h
 refine yZ (K1:=(fun e st'=>match o_1 with | (.inl q0)=>e=.normal∧Sub 0 st' (mk [] [] 0) | (.inr q1)=>e=.ret∧vS prog Go.Proofs.Try.f79 0 [] (Ii q1) st')) ?_ ?_
 ·replace h:=h_1
  refine zT (id:=0) (by kernel_rfl) ?_
  refine wk [] [] [.s 0,.s 1,.s 7,.s 8] [] [(0,.sl false 1 (Ms s_1)),(1,.str a_1),(7,Ii (lN (s_1))),(8,Ii 0)] [] an ?_
  refine yF (fun n st=>∃ (v_1:Int),st=mk [(0,.sl false 1 (Ms s_1)),(1,.str a_1),(7,Ii (lN (s_1))),(8,Ii v_1)] [] 0∧wT F s_1 a_1 n v_1=some o_1) F (by kernel_rfl) ⟨_,rfl,h⟩ ?_ ?_
  ·rintro _ ⟨_,_,h⟩;exact yM (h:(none:Option (Unit⊕Int))=some o_1)
  rintro n_1 _ ⟨v_1,rfl,h⟩
  replace h:yY F s_1 a_1 (wT F s_1 a_1 n_1) v_1=some o_1:=h
  unfold yY at h
  refine sr [] [0,1,7,8,9] [] 0 [.sl false 1 (Ms s_1),.str a_1,Ii (lN (s_1)),Ii v_1,.bool (decide (v_1<(lN (s_1))))] [] zD an ?_
  refine sq ?_
  refine cd 9 (decide (v_1<(lN (s_1)))) ?_ ?_
  rotate_left
  ·intro g_1;replace h:=zO g_1 h
   refine yL (id:=0) (by kernel_rfl) ?_
   cases h
   exact ⟨rfl,(sw [] [] [] [] an)⟩
  intro g_1;replace h:=zN g_1 h
  refine sk ?_
  refine sq ?_
  refine zT (id:=1) (by kernel_rfl) ?_
  refine sr [] [0,1,5,7,8] [] 0 [.sl false 1 (Ms s_1),.str a_1,Ii v_1,Ii (lN (s_1)),Ii v_1] [] zD an ?_
  refine sq ?_
  obtain ⟨x_1,h_2,h⟩:=bind_some h
  refine rg [(3,{ av:=.str x_1 })] [0,1,5,7,8,16] [] 0 [.sl false 1 (Ms s_1),.str a_1,Ii v_1,Ii (lN (s_1)),Ii v_1,.bool (a_1==x_1)] [] zD (ac (yO h_2:xD (Ms s_1) v_1=some (.str x_1)) an) ?_
  refine cd 16 (a_1==x_1) ?_ ?_
  rotate_left
  ·intro g_2;replace h:=zO g_2 h
   refine sk ?_
   refine rg [] [0,1,7,8] [] 0 [.sl false 1 (Ms s_1),.str a_1,Ii (lN (s_1)),Ii (zK (v_1+(1:Int)))] [] zD an ?_
   exact ⟨_,(sw [] [] [.s 0,.s 1,.s 7,.s 8] [] an),_,rfl,h⟩
  intro g_2;replace h:=zN g_2 h
  refine sr [] [4] [] 0 [Ii v_1] [] zD an ?_
  refine rt ?_
  cases h
  exact ⟨rfl,Nat.le_of_ble_eq_true rfl,by kernel_rfl⟩
 intro e st1 hk
 rcases o_1 with q_1 | q_2
 rotate_left
 ·obtain ⟨rfl,hf⟩:=hk
  cases h
  exact ⟨st1,Sub.refl _ _,.inr rfl,hf⟩
 obtain ⟨rfl,hs⟩:=hk
 refine ⟨_,hs,?_⟩
 refine sr [] [4] [] 0 [Ii (-1)] [] zD an ?_
 refine rt ?_
 cases h
 exact ⟨.inr rfl,Nat.le_of_ble_eq_true rfl,by kernel_rfl⟩
theorem zBc (s_1:List (List Int)) (r:(List (List Int))) (h:u1 s_1=some r):zM prog 80 [] [] [.sl false 1 (Ms s_1)] [.row 9 1 (Ms r)] (.own 0 ((r).length)):=by
 refine zS (fn:=Go.Proofs.Try.f80) (code:=z6 Go.Proofs.Try.f80) (by kernel_rfl) (by kernel_rfl) (Nat.le_of_ble_eq_true (by kernel_rfl)) ?_
 unfold u1 at h
 refine sr [(0,{ id:=0,m:=1 })] [0] [] 1 [.sl false 1 (Ms s_1)] [] zD an ?_
 refine sq ?_
 refine sr [] [0,4] [] 1 [.sl false 1 (Ms s_1),.nb (Ms s_1)] [] zD an ?_
 refine zFp (t:=4) (l:=(Ms s_1)) (by kernel_rfl) (by kernel_rfl) ?_ ?_
 ·intro h_2;replace h_2:=List.map_eq_nil_iff.1 h_2
  replace h:=Eq.trans (show (some [])=((need (((([]:List (List Int))).length+(s_1).length) * 16≤140737488355328)).bind fun _ =>
 some ([]++s_1)) from by simp [h_2,need]) h
  refine sr [(0,{ id:=1,m:=1 })] [2] [1] 2 [.own 1 0] [Rb 9 1 []] zD an ?_
  refine wk [1] [] [.a 2 (.own 0 ((([]:List (List Int))).length))] [.s 0] [(2,.own 0 ((([]:List (List Int))).length))] [(0,Rb 9 1 [])] (ac (congrArg (AV.own _) (by first | (simp;done) | (simp;omega)):(.own 1 0:AV)=.own 1 ((([]:List (List Int))).length)) an) ?_
  refine rt ?_
  cases h
  exact ⟨.inr rfl,Nat.le_of_ble_eq_true rfl,by kernel_rfl⟩
 refine sk ?_
 refine sq ?_
 obtain ⟨_,h_1,h⟩:=bind_some h;replace h_1:=z0 h_1
 refine rg [(0,{ id:=1 }),(2,{ id:=2,l:=(Ms ([]++s_1)),n:=(([]++s_1)).length })] [2] [2] 3 [.own 2 ((([]++s_1)).length)] [Rb 9 1 (Ms ([]++s_1))] zD (ac (by first | (simp;done) | (simp;omega):0=(([]:List AV)).length) (ac (trivial:True) (ac (by simp:(List.map AV.str ([]++s_1))=[]++(List.map AV.str s_1)) (ac (by simp:(([]++s_1)).length=((List.map AV.str ([]++s_1))).length) (ac (by first | (simp;done) | simpa using h_1:(([]:List AV).length+((List.map AV.str s_1):List AV).length) * 16≤140737488355328) an))))) ?_
 refine wk [2] [] [.s 2] [.s 0] [(2,.own 0 ((([]++s_1)).length))] [(0,Rb 9 1 (Ms ([]++s_1)))] an ?_
 refine rt ?_
 cases h
 exact ⟨.inr rfl,Nat.le_of_ble_eq_true rfl,by kernel_rfl⟩
theorem zDW (F:Nat) (names_1:List (List Int)) (s_1:List Int) (r:Int×(List (List Int))×Int) (h:zAa F names_1 s_1=some r):zM prog 53 [] [] [.sl false 1 (Ms names_1),.str s_1] [] (.tuple [Ii r.1,.sl false 1 (Ms r.2.1),Ii r.2.2]):=by
 refine zS (fn:=Go.Proofs.Try.f53) (code:=z6 Go.Proofs.Try.f53) (by kernel_rfl) (by kernel_rfl) (Nat.le_of_ble_eq_true (by kernel_rfl)) ?_
 unfold zAa at h
 refine sr [] [0,1] [] 0 [.sl false 1 (Ms names_1),.str s_1] [] zD an ?_
 refine sq ?_
 refine sq ?_
 obtain ⟨r_1,h_1,h⟩:=bind_some h
 refine rg [(1,{ av:=Ii r_1,l:=[.str s_1] })] [0,1,7] [] 0 [.sl false 1 (Ms names_1),.str s_1,Ii r_1] [] zD (ar ([.str s_1]:List AV) (ac (rfl:([]:List zP)=[]) (ac (n9 F s_1 r_1 h_1:zM prog 78 [] [] [.str s_1] [] (Ii r_1)) an))) ?_
 refine sr [] [0,1,7,12] [] 0 [.sl false 1 (Ms names_1),.str s_1,Ii r_1,.bool (r_1 != (0:Int))] [] zD an ?_
 refine cd 12 (r_1 != (0:Int)) ?_ ?_
 ·intro g_1;replace h:=zN g_1 h
  refine sr [] [4,5,6] [] 0 [Ii 0,.sl false 1 (Ms names_1),Ii r_1] [] zD an ?_
  refine rt ?_
  cases h
  exact ⟨.inr rfl,Nat.le_of_ble_eq_true rfl,by kernel_rfl⟩
 intro g_1;replace h:=zO g_1 h
 refine sk ?_
 refine sq ?_
 refine sq ?_
 obtain ⟨r_2,h_2,h⟩:=bind_some h
 refine rg [(2,{ av:=Ii r_2,l:=[.sl false 1 (Ms names_1),.str s_1] })] [0,1,8] [] 0 [.sl false 1 (Ms names_1),.str s_1,Ii r_2] [] zD (ar ([.sl false 1 (Ms names_1),.str s_1]:List AV) (ac (rfl:([]:List zP)=[]) (ac (zBb F names_1 s_1 r_2 h_2:zM prog 79 [] [] [.sl false 1 (Ms names_1),.str s_1] [] (Ii r_2)) an))) ?_
 refine sr [] [0,1,8,19] [] 0 [.sl false 1 (Ms names_1),.str s_1,Ii r_2,.bool (decide (r_2≥(0:Int)))] [] zD an ?_
 refine cd 19 (decide (r_2≥(0:Int))) ?_ ?_
 ·intro g_2;replace h:=zN g_2 h
  refine sr [] [4,5,6] [] 0 [Ii r_2,.sl false 1 (Ms names_1),Ii 0] [] zD an ?_
  refine rt ?_
  cases h
  exact ⟨.inr rfl,Nat.le_of_ble_eq_true rfl,by kernel_rfl⟩
 intro g_2;replace h:=zO g_2 h
 refine sk ?_
 refine sq ?_
 refine sr [(1,{ n:=(names_1).length })] [0,1,24] [] 0 [.sl false 1 (Ms names_1),.str s_1,.bool (decide ((lN (names_1))≥(1000:Int)))] [] zD (ac (zY _:((Ms names_1)).length=(names_1).length) an) ?_
 refine cd 24 (decide ((lN (names_1))≥(1000:Int))) ?_ ?_
 ·intro g_3;replace h:=zN g_3 h
  refine sr [] [4,5,6] [] 0 [Ii 0,.sl false 1 (Ms names_1),Ii 6] [] zD an ?_
  refine rt ?_
  cases h
  exact ⟨.inr rfl,Nat.le_of_ble_eq_true rfl,by kernel_rfl⟩
 intro g_3;replace h:=zO g_3 h
 refine sk ?_
 refine sq ?_
 obtain ⟨r_3,h_3,h⟩:=bind_some h
 obtain ⟨_,h_4,h⟩:=bind_some h;replace h_4:=z0 h_4
 refine rg [(1,{ n:=(names_1).length }),(3,{ av:=.own 0 ((r_3).length),ids:=[0],l:=[.sl false 1 (Ms names_1)],post:=[(.row 9 1 (Ms r_3))] }),(5,{ id:=1 }),(6,{ id:=2,l:=(Ms (r_3++([s_1]:List (List Int)))),n:=((r_3++([s_1]:List (List Int)))).length })] [4,5,6] [2] 3 [Ii (lN (names_1)),.own 2 (((r_3++([s_1]:List (List Int)))).length),Ii 0] [Rb 9 1 (Ms (r_3++([s_1]:List (List Int))))] zD (ac (zY _:((Ms names_1)).length=(names_1).length) (ar ([.sl false 1 (Ms names_1)]:List AV) (ac (rfl:([]:List zP)=[]) (ac (zBc names_1 r_3 h_3:zM prog 80 [] [] [.sl false 1 (Ms names_1)] [(.row 9 1 (Ms r_3))] (.own 0 ((r_3).length))) (ac (by first | (simp;done) | (simp;omega):(r_3).length=((List.map AV.str r_3)).length) (ac (by first | (simp;done) | (simp;omega):1=((List.map AV.str ([s_1]:List (List Int)))).length) (ac (w9 _ _:(Ms (r_3++([s_1]:List (List Int))))=(Ms r_3)++(Ms ([s_1]:List (List Int)))) (ac (by simp:((r_3++([s_1]:List (List Int)))).length=((List.map AV.str (r_3++([s_1]:List (List Int))))).length) (ac (by first | (simp;done) | simpa using h_4:(((List.map AV.str r_3):List AV).length+((List.map AV.str ([s_1]:List (List Int))):List AV).length) * 16≤140737488355328) an))))))))) ?_
 refine wk [] [2] [.s 4,.a 5 (.sl false 1 (Ms (r_3++([s_1]:List (List Int))))),.s 6] [] [(4,Ii (lN (names_1))),(5,.sl false 1 (Ms (r_3++([s_1]:List (List Int))))),(6,Ii 0)] [] (ac (by first | (simp;done) | (simp;omega):((r_3++([s_1]:List (List Int)))).length=((List.map AV.str (r_3++([s_1]:List (List Int))))).length) (ar 1 (ar ((Ms (r_3++([s_1]:List (List Int)))):List AV) (ac (rfl:(!false||false)=true) an)))) ?_
 refine rt ?_
 cases h
 exact ⟨.inr rfl,Nat.le_of_ble_eq_true rfl,by kernel_rfl⟩
theorem zBN (s_1:List (zE)) (r:(List (zE))) (h:tK s_1=some r):zM prog 82 [] [] [.sl false 2 (Mp zC s_1)] [.row 57 2 (Mp zC r)] (.own 0 ((r).length)):=by
 refine zS (fn:=Go.Proofs.Try.f82) (code:=z6 Go.Proofs.Try.f82) (by kernel_rfl) (by kernel_rfl) (Nat.le_of_ble_eq_true (by kernel_rfl)) ?_
 unfold tK at h
 refine sr [(0,{ id:=0,m:=1 })] [0] [] 1 [.sl false 2 (Mp zC s_1)] [] zD an ?_
 refine sq ?_
 refine sr [] [0,4] [] 1 [.sl false 2 (Mp zC s_1),.nb (Mp zC s_1)] [] zD an ?_
 refine zFp (t:=4) (l:=(Mp zC s_1)) (by kernel_rfl) (by kernel_rfl) ?_ ?_
 ·intro h_2;replace h_2:=List.map_eq_nil_iff.1 h_2
  replace h:=Eq.trans (show (some [])=((need (((([]:List zE)).length+(s_1).length) * 16≤140737488355328)).bind fun _ =>
 some ([]++s_1)) from by simp [h_2,need]) h
  refine sr [(0,{ id:=1,m:=1 })] [2] [1] 2 [.own 1 0] [Rb 57 2 []] zD an ?_
  refine wk [1] [] [.a 2 (.own 0 ((([]:List zE)).length))] [.s 0] [(2,.own 0 ((([]:List zE)).length))] [(0,Rb 57 2 [])] (ac (congrArg (AV.own _) (by first | (simp;done) | (simp;omega)):(.own 1 0:AV)=.own 1 ((([]:List zE)).length)) an) ?_
  refine rt ?_
  cases h
  exact ⟨.inr rfl,Nat.le_of_ble_eq_true rfl,by kernel_rfl⟩
 refine sk ?_
 refine sq ?_
 obtain ⟨_,h_1,h⟩:=bind_some h;replace h_1:=z0 h_1
 refine rg [(0,{ id:=1 }),(2,{ id:=2,l:=(Mp zC ([]++s_1)),n:=(([]++s_1)).length })] [2] [2] 3 [.own 2 ((([]++s_1)).length)] [Rb 57 2 (Mp zC ([]++s_1))] zD (ac (by first | (simp;done) | (simp;omega):0=(([]:List AV)).length) (ac (trivial:True) (ac (by simp:(List.map zC ([]++s_1))=[]++(List.map zC s_1)) (ac (by simp:(([]++s_1)).length=((List.map zC ([]++s_1))).length) (ac (by first | (simp;done) | simpa using h_1:(([]:List AV).length+((List.map zC s_1):List AV).length) * 16≤140737488355328) an))))) ?_
 refine wk [2] [] [.s 2] [.s 0] [(2,.own 0 ((([]++s_1)).length))] [(0,Rb 57 2 (Mp zC ([]++s_1)))] an ?_
 refine rt ?_
 cases h
 exact ⟨.inr rfl,Nat.le_of_ble_eq_true rfl,by kernel_rfl⟩
theorem zBR (F:Nat) (s_1:List (zE)) (a_1:zE) (r:Int) (h:v7 F s_1 a_1=some r):zM prog 83 [] [] [.sl false 2 (Mp zC s_1),.agg [Ii a_1.c0,Ii a_1.c1]] [] (Ii r):=by
 refine zS (fn:=Go.Proofs.Try.f83) (code:=z6 Go.Proofs.Try.f83) (by kernel_rfl) (by kernel_rfl) (Nat.le_of_ble_eq_true (by kernel_rfl)) ?_
 unfold v7 at h
 refine sr [(0,{ id:=0 })] [0,3] [0] 1 [.sl false 2 (Mp zC s_1),Pp 0] [Vb 57 [Ii a_1.c0,Ii a_1.c1]] zD an ?_
 refine sq ?_
 refine sr [(1,{ n:=(s_1).length })] [0,3,7,8] [0] 1 [.sl false 2 (Mp zC s_1),Pp 0,Ii (lN (s_1)),Ii 0] [Vb 57 [Ii a_1.c0,Ii a_1.c1]] zD (ac (zY _:((Mp zC s_1)).length=(s_1).length) an) ?_
 obtain ⟨o_1,h_1,h⟩:=bind_some h
 refine yZ (K1:=(fun e st'=>match o_1 with | (.inl q0)=>e=.normal∧Sub 0 st' (mk [] [] 0) | (.inr q1)=>e=.ret∧vS prog Go.Proofs.Try.f83 0 [] (Ii q1) st')) ?_ ?_
 ·replace h:=h_1
  refine zT (id:=0) (by kernel_rfl) ?_
  refine wk [0] [] [.s 0,.s 3,.s 7,.s 8] [.s 0] [(0,.sl false 2 (Mp zC s_1)),(3,Pp 0),(7,Ii (lN (s_1))),(8,Ii 0)] [(0,Vb 57 [Ii a_1.c0,Ii a_1.c1])] an ?_
  refine yF (fun n st=>∃ (v_1:Int),st=mk [(0,.sl false 2 (Mp zC s_1)),(3,Pp 0),(7,Ii (lN (s_1))),(8,Ii v_1)] [(0,Vb 57 [Ii a_1.c0,Ii a_1.c1])] 1∧w8 F s_1 a_1 n v_1=some o_1) F (by kernel_rfl) ⟨_,rfl,h⟩ ?_ ?_
  ·rintro _ ⟨_,_,h⟩;exact yM (h:(none:Option (Unit⊕Int))=some o_1)
  rintro n_1 _ ⟨v_1,rfl,h⟩
  replace h:y5 F s_1 a_1 (w8 F s_1 a_1 n_1) v_1=some o_1:=h
  unfold y5 at h
  refine sr [] [0,3,7,8,9] [0] 1 [.sl false 2 (Mp zC s_1),Pp 0,Ii (lN (s_1)),Ii v_1,.bool (decide (v_1<(lN (s_1))))] [Vb 57 [Ii a_1.c0,Ii a_1.c1]] zD an ?_
  refine sq ?_
  refine cd 9 (decide (v_1<(lN (s_1)))) ?_ ?_
  rotate_left
  ·intro g_1;replace h:=zO g_1 h
   refine yL (id:=0) (by kernel_rfl) ?_
   cases h
   exact ⟨rfl,(sw [] [] [] [] an)⟩
  intro g_1;replace h:=zN g_1 h
  refine sk ?_
  refine sq ?_
  refine zT (id:=1) (by kernel_rfl) ?_
  refine sr [] [0,3,5,7,8] [0] 1 [.sl false 2 (Mp zC s_1),Pp 0,Ii v_1,Ii (lN (s_1)),Ii v_1] [Vb 57 [Ii a_1.c0,Ii a_1.c1]] zD an ?_
  refine sq ?_
  obtain ⟨x_1,h_2,h⟩:=bind_some h
  refine rg [(3,{ av:=.agg [Ii x_1.c0,Ii x_1.c1] }),(5,{ b:=(decide (a_1=x_1)),mks:=[.int .i64,.int .i64] })] [0,3,5,7,8,16] [0] 1 [.sl false 2 (Mp zC s_1),Pp 0,Ii v_1,Ii (lN (s_1)),Ii v_1,.bool (decide (a_1=x_1))] [Vb 57 [Ii a_1.c0,Ii a_1.c1]] zD (ac (yO h_2:xD (Mp zC s_1) v_1=some (.agg [Ii x_1.c0,Ii x_1.c1])) (ac (zKJ:zDv prog 57 [.int .i64,.int .i64]) (ac (zMc (f:=zC) zAT a_1 x_1:((decide (a_1=x_1))=true↔AV.agg [Ii a_1.c0,Ii a_1.c1]=AV.agg [Ii x_1.c0,Ii x_1.c1])) an))) ?_
  refine cd 16 (decide (a_1=x_1)) ?_ ?_
  rotate_left
  ·intro g_2;replace h:=zO g_2 h
   refine sk ?_
   refine rg [] [0,3,7,8] [0] 1 [.sl false 2 (Mp zC s_1),Pp 0,Ii (lN (s_1)),Ii (zK (v_1+(1:Int)))] [Vb 57 [Ii a_1.c0,Ii a_1.c1]] zD an ?_
   exact ⟨_,(sw [0] [] [.s 0,.s 3,.s 7,.s 8] [.s 0] an),_,rfl,h⟩
  intro g_2;replace h:=zN g_2 h
  refine sr [] [4] [] 1 [Ii v_1] [] zD an ?_
  refine rt ?_
  cases h
  exact ⟨rfl,Nat.le_of_ble_eq_true rfl,by kernel_rfl⟩
 intro e st1 hk
 rcases o_1 with q_1 | q_2
 rotate_left
 ·obtain ⟨rfl,hf⟩:=hk
  cases h
  exact ⟨st1,Sub.refl _ _,.inr rfl,hf⟩
 obtain ⟨rfl,hs⟩:=hk
 refine ⟨_,hs,?_⟩
 refine sr [] [4] [] 0 [Ii (-1)] [] zD an ?_
 refine rt ?_
 cases h
 exact ⟨.inr rfl,Nat.le_of_ble_eq_true rfl,by kernel_rfl⟩
theorem zEj (F:Nat) (names_1:List (List Int)) (stacks_1:List (zE)) (l_1:List (List Int)) (r:Int×(List (List Int))×(List (zE))×Int) (h:qS F names_1 stacks_1 l_1=some r):zM prog 54 [] [] [.sl false 1 (Ms names_1),.sl false 2 (Mp zC stacks_1),.sl false 1 (Ms l_1)] [] (.tuple [Ii r.1,.sl false 1 (Ms r.2.1),.sl false 2 (Mp zC r.2.2.1),Ii r.2.2.2]):=by
 refine zS (fn:=Go.Proofs.Try.f54) (code:=z6 Go.Proofs.Try.f54) (by kernel_rfl) (by kernel_rfl) (Nat.le_of_ble_eq_true (by kernel_rfl)) ?_
 unfold qS at h
 refine sr [] [0,1,2] [] 0 [.sl false 1 (Ms names_1),.sl false 2 (Mp zC stacks_1),.sl false 1 (Ms l_1)] [] zD an ?_
 refine sq ?_
 refine sq ?_
 obtain ⟨r_1,h_1,h⟩:=bind_some h
 refine rg [(1,{ av:=Ii r_1,l:=[.sl false 1 (Ms l_1)] })] [0,1,2,10] [] 0 [.sl false 1 (Ms names_1),.sl false 2 (Mp zC stacks_1),.sl false 1 (Ms l_1),Ii r_1] [] zD (ar ([.sl false 1 (Ms l_1)]:List AV) (ac (rfl:([]:List zP)=[]) (ac (zCn F l_1 r_1 h_1:zM prog 81 [] [] [.sl false 1 (Ms l_1)] [] (Ii r_1)) an))) ?_
 refine sr [] [0,1,2,10,23] [] 0 [.sl false 1 (Ms names_1),.sl false 2 (Mp zC stacks_1),.sl false 1 (Ms l_1),Ii r_1,.bool (r_1 != (0:Int))] [] zD an ?_
 refine cd 23 (r_1 != (0:Int)) ?_ ?_
 ·intro g_1;replace h:=zN g_1 h
  refine sr [] [6,7,8,9] [] 0 [Ii 0,.sl false 1 (Ms names_1),.sl false 2 (Mp zC stacks_1),Ii r_1] [] zD an ?_
  refine rt ?_
  cases h
  exact ⟨.inr rfl,Nat.le_of_ble_eq_true rfl,by kernel_rfl⟩
 intro g_1;replace h:=zO g_1 h
 refine sk ?_
 refine sq ?_
 obtain ⟨r_2,h_2,h⟩:=bind_some h
 refine rg [(2,{ av:=.own 0 ((r_2).length),ids:=[0],l:=[.sl false 2 (Mp zC stacks_1)],post:=[(.row 57 2 (Mp zC r_2))] })] [0,1,2,11,12,13] [0] 1 [.sl false 1 (Ms names_1),.sl false 2 (Mp zC stacks_1),.sl false 1 (Ms l_1),Ii (-1),.sl false 1 (Ms names_1),.own 0 ((r_2).length)] [Rb 57 2 (Mp zC r_2)] zD (ar ([.sl false 2 (Mp zC stacks_1)]:List AV) (ac (rfl:([]:List zP)=[]) (ac (zBN stacks_1 r_2 h_2:zM prog 82 [] [] [.sl false 2 (Mp zC stacks_1)] [(.row 57 2 (Mp zC r_2))] (.own 0 ((r_2).length))) an))) ?_
 refine sq ?_
 refine sr [(1,{ n:=(l_1).length })] [0,1,11,12,13,30,31,32] [0] 1 [.sl false 1 (Ms names_1),.sl false 2 (Mp zC stacks_1),Ii (-1),.sl false 1 (Ms names_1),.own 0 ((r_2).length),.sl false 1 (Ms l_1),Ii (lN (l_1)),Ii 0] [Rb 57 2 (Mp zC r_2)] zD (ac (zY _:((Ms l_1)).length=(l_1).length) an) ?_
 obtain ⟨o_1,h_3,h⟩:=bind_some h
 refine yZ (K1:=(fun e st'=>match o_1 with | (.inl q0)=>e=.normal∧Sub 0 st' (mk [(11,Ii q0.1),(12,.sl false 1 (Ms q0.2.1)),(13,.own 0 ((q0.2.2).length))] [(0,Rb 57 2 (Mp zC q0.2.2))] 1) | (.inr q1)=>e=.ret∧vS prog Go.Proofs.Try.f54 0 [] (.tuple [Ii q1.1,.sl false 1 (Ms q1.2.1),.sl false 2 (Mp zC q1.2.2.1),Ii q1.2.2.2]) st')) ?_ ?_
 ·replace h:=h_3
  refine zT (id:=0) (by kernel_rfl) ?_
  refine wk [0] [] [.s 0,.s 1,.s 11,.s 12,.s 13,.s 30,.s 31,.s 32] [.s 0] [(0,.sl false 1 (Ms names_1)),(1,.sl false 2 (Mp zC stacks_1)),(11,Ii (-1)),(12,.sl false 1 (Ms names_1)),(13,.own 0 ((r_2).length)),(30,.sl false 1 (Ms l_1)),(31,Ii (lN (l_1))),(32,Ii 0)] [(0,Rb 57 2 (Mp zC r_2))] an ?_
  refine yF (fun n st=>∃ (at__1:Int),∃ (n_1:List (List Int)),∃ (v_1:Int),∃ (row_1:List zE),st=mk [(0,.sl false 1 (Ms names_1)),(1,.sl false 2 (Mp zC stacks_1)),(11,Ii at__1),(12,.sl false 1 (Ms n_1)),(13,.own 0 ((row_1).length)),(30,.sl false 1 (Ms l_1)),(31,Ii (lN (l_1))),(32,Ii v_1)] [(0,Rb 57 2 (Mp zC row_1))] 1∧tF F names_1 stacks_1 l_1 n at__1 n_1 v_1 row_1=some o_1) F (by kernel_rfl) ⟨_,_,_,_,rfl,h⟩ ?_ ?_
  ·rintro _ ⟨_,_,_,_,_,h⟩;exact yM (h:(none:Option ((Int×(List (List Int))×(List zE))⊕(Int×(List (List Int))×(List (zE))×Int)))=some o_1)
  rintro n_2 _ ⟨at__1,n_1,v_1,row_1,rfl,h⟩
  replace h:uH F names_1 stacks_1 l_1 (tF F names_1 stacks_1 l_1 n_2) at__1 n_1 v_1 row_1=some o_1:=h
  unfold uH at h
  refine sr [] [0,1,11,12,13,30,31,32,33] [0] 1 [.sl false 1 (Ms names_1),.sl false 2 (Mp zC stacks_1),Ii at__1,.sl false 1 (Ms n_1),.own 0 ((row_1).length),.sl false 1 (Ms l_1),Ii (lN (l_1)),Ii v_1,.bool (decide (v_1<(lN (l_1))))] [Rb 57 2 (Mp zC row_1)] zD an ?_
  refine sq ?_
  refine cd 33 (decide (v_1<(lN (l_1)))) ?_ ?_
  rotate_left
  ·intro g_2;replace h:=zO g_2 h
   refine yL (id:=0) (by kernel_rfl) ?_
   cases h
   exact ⟨rfl,(sw [0] [] [.s 11,.s 12,.s 13] [.s 0] an)⟩
  intro g_2;replace h:=zN g_2 h
  refine sk ?_
  refine sq ?_
  refine zT (id:=1) (by kernel_rfl) ?_
  refine sq ?_
  obtain ⟨x_1,h_4,h⟩:=bind_some h
  refine rg [(0,{ av:=.str x_1 })] [0,1,11,12,13,15,30,31,32] [0] 1 [.sl false 1 (Ms names_1),.sl false 2 (Mp zC stacks_1),Ii at__1,.sl false 1 (Ms n_1),.own 0 ((row_1).length),.str x_1,.sl false 1 (Ms l_1),Ii (lN (l_1)),Ii v_1] [Rb 57 2 (Mp zC row_1)] zD (ac (yO h_4:xD (Ms l_1) v_1=some (.str x_1)) an) ?_
  refine sq ?_
  obtain ⟨r_3,h_5,h⟩:=bind_some h
  refine rg [(2,{ av:=.tuple [Ii r_3.1,.sl false 1 (Ms r_3.2.1),Ii r_3.2.2],l:=[.sl false 1 (Ms n_1),.str x_1] })] [0,1,11,13,16,17,18,30,31,32] [0] 1 [.sl false 1 (Ms names_1),.sl false 2 (Mp zC stacks_1),Ii at__1,.own 0 ((row_1).length),Ii r_3.1,.sl false 1 (Ms r_3.2.1),Ii r_3.2.2,.sl false 1 (Ms l_1),Ii (lN (l_1)),Ii v_1] [Rb 57 2 (Mp zC row_1)] zD (ar ([.sl false 1 (Ms n_1),.str x_1]:List AV) (ac (rfl:([]:List zP)=[]) (ac (zDW F n_1 x_1 r_3 h_5:zM prog 53 [] [] [.sl false 1 (Ms n_1),.str x_1] [] (.tuple [Ii r_3.1,.sl false 1 (Ms r_3.2.1),Ii r_3.2.2])) an))) ?_
  refine sq ?_
  refine sr [] [0,1,11,13,16,17,18,30,31,32,44] [0] 1 [.sl false 1 (Ms names_1),.sl false 2 (Mp zC stacks_1),Ii at__1,.own 0 ((row_1).length),Ii r_3.1,.sl false 1 (Ms r_3.2.1),Ii r_3.2.2,.sl false 1 (Ms l_1),Ii (lN (l_1)),Ii v_1,.bool (r_3.2.2 != (0:Int))] [Rb 57 2 (Mp zC row_1)] zD an ?_
  refine cd 44 (r_3.2.2 != (0:Int)) ?_ ?_
  ·intro g_3;replace h:=zN g_3 h
   refine sr [] [6,7,8,9] [] 1 [Ii 0,.sl false 1 (Ms names_1),.sl false 2 (Mp zC stacks_1),Ii r_3.2.2] [] zD an ?_
   refine rt ?_
   cases h
   exact ⟨rfl,Nat.le_of_ble_eq_true rfl,by kernel_rfl⟩
  intro g_3;replace h:=zO g_3 h
  refine sk ?_
  refine sr [] [0,1,11,12,13,16,30,31,32] [0] 1 [.sl false 1 (Ms names_1),.sl false 2 (Mp zC stacks_1),Ii at__1,.sl false 1 (Ms r_3.2.1),.own 0 ((row_1).length),Ii r_3.1,.sl false 1 (Ms l_1),Ii (lN (l_1)),Ii v_1] [Rb 57 2 (Mp zC row_1)] zD an ?_
  refine sr [(3,{ id:=1 })] [0,1,12,13,19,30,31,32] [0,1] 2 [.sl false 1 (Ms names_1),.sl false 2 (Mp zC stacks_1),.sl false 1 (Ms r_3.2.1),.own 0 ((row_1).length),Pp 1,.sl false 1 (Ms l_1),Ii (lN (l_1)),Ii v_1] [Rb 57 2 (Mp zC row_1),Vb 57 [Ii at__1,Ii r_3.1]] zD an ?_
  refine sq ?_
  refine sq ?_
  obtain ⟨r_4,h_6,h⟩:=bind_some h
  refine rg [(2,{ av:=Ii r_4,l:=[.sl false 2 (Mp zC row_1),.agg [Ii at__1,Ii r_3.1]],lend:=[0] })] [0,1,11,12,13,19,30,31,32] [0,1] 2 [.sl false 1 (Ms names_1),.sl false 2 (Mp zC stacks_1),Ii r_4,.sl false 1 (Ms r_3.2.1),.own 0 ((row_1).length),Pp 1,.sl false 1 (Ms l_1),Ii (lN (l_1)),Ii v_1] [Rb 57 2 (Mp zC row_1),Vb 57 [Ii at__1,Ii r_3.1]] zD (ac (by first | (simp;done) | (simp;omega):(row_1).length=((List.map zC row_1)).length) (ar ([.sl false 2 (Mp zC row_1),.agg [Ii at__1,Ii r_3.1]]:List AV) (ac (rfl:([]:List zP)=[]) (ac (y7 (args':=[.sl false 2 (Mp zC row_1),.agg [Ii ((⟨at__1,r_3.1⟩:zE).c0),Ii ((⟨at__1,r_3.1⟩:zE).c1)]]) (zBR F row_1 (⟨at__1,r_3.1⟩:zE) r_4 h_6) rfl ⟨rfl,rfl,rfl,rfl,rfl,trivial⟩:zM prog 83 [] [] [.sl false 2 (Mp zC row_1),.agg [Ii at__1,Ii r_3.1]] [] (Ii r_4)) an)))) ?_
  refine sr [] [0,1,11,12,13,19,30,31,32,56] [0,1] 2 [.sl false 1 (Ms names_1),.sl false 2 (Mp zC stacks_1),Ii r_4,.sl false 1 (Ms r_3.2.1),.own 0 ((row_1).length),Pp 1,.sl false 1 (Ms l_1),Ii (lN (l_1)),Ii v_1,.bool (decide (r_4≥(0:Int)))] [Rb 57 2 (Mp zC row_1),Vb 57 [Ii at__1,Ii r_3.1]] zD an ?_
  refine cd 56 (decide (r_4≥(0:Int))) ?_ ?_
  ·intro g_4;replace h:=zN g_4 h
   refine yL (id:=1) (by kernel_rfl) ?_
   refine rg [] [0,1,11,12,13,30,31,32] [0] 2 [.sl false 1 (Ms names_1),.sl false 2 (Mp zC stacks_1),Ii r_4,.sl false 1 (Ms r_3.2.1),.own 0 ((row_1).length),.sl false 1 (Ms l_1),Ii (lN (l_1)),Ii (zK (v_1+(1:Int)))] [Rb 57 2 (Mp zC row_1)] zD an ?_
   exact ⟨_,(sw [0] [] [.s 0,.s 1,.s 11,.s 12,.s 13,.s 30,.s 31,.s 32] [.s 0] an),_,_,_,_,rfl,h⟩
  intro g_4;replace h:=zO g_4 h
  refine sk ?_
  refine sq ?_
  refine sr [] [0,1,12,13,19,30,31,32,59] [0,1] 2 [.sl false 1 (Ms names_1),.sl false 2 (Mp zC stacks_1),.sl false 1 (Ms r_3.2.1),.own 0 ((row_1).length),Pp 1,.sl false 1 (Ms l_1),Ii (lN (l_1)),Ii v_1,.bool (decide ((lN (row_1))≥(1000:Int)))] [Rb 57 2 (Mp zC row_1),Vb 57 [Ii at__1,Ii r_3.1]] zD an ?_
  refine cd 59 (decide ((lN (row_1))≥(1000:Int))) ?_ ?_
  ·intro g_5;replace h:=zN g_5 h
   refine sr [] [6,7,8,9] [] 2 [Ii 0,.sl false 1 (Ms names_1),.sl false 2 (Mp zC stacks_1),Ii 6] [] zD an ?_
   refine rt ?_
   cases h
   exact ⟨rfl,Nat.le_of_ble_eq_true rfl,by kernel_rfl⟩
  intro g_5;replace h:=zO g_5 h
  refine sk ?_
  refine sr [] [0,1,11,12,13,19,30,31,32] [0,1] 2 [.sl false 1 (Ms names_1),.sl false 2 (Mp zC stacks_1),Ii (lN (row_1)),.sl false 1 (Ms r_3.2.1),.own 0 ((row_1).length),Pp 1,.sl false 1 (Ms l_1),Ii (lN (l_1)),Ii v_1] [Rb 57 2 (Mp zC row_1),Vb 57 [Ii at__1,Ii r_3.1]] zD an ?_
  obtain ⟨_,h_7,h⟩:=bind_some h;replace h_7:=z0 h_7
  refine rg [(2,{ id:=2 }),(3,{ id:=3,l:=(Mp zC (row_1++([(⟨at__1,r_3.1⟩:zE)]:List zE))),n:=((row_1++([(⟨at__1,r_3.1⟩:zE)]:List zE))).length })] [0,1,11,12,13,30,31,32] [3] 4 [.sl false 1 (Ms names_1),.sl false 2 (Mp zC stacks_1),Ii (lN (row_1)),.sl false 1 (Ms r_3.2.1),.own 3 (((row_1++([(⟨at__1,r_3.1⟩:zE)]:List zE))).length),.sl false 1 (Ms l_1),Ii (lN (l_1)),Ii v_1] [Rb 57 2 (Mp zC (row_1++([(⟨at__1,r_3.1⟩:zE)]:List zE)))] zD (ac (by first | (simp;done) | (simp;omega):(row_1).length=((List.map zC row_1)).length) (ac (by first | (simp;done) | (simp;omega):1=((List.map zC ([(⟨at__1,r_3.1⟩:zE)]:List zE))).length) (ac (w9 _ _:(Mp zC (row_1++([(⟨at__1,r_3.1⟩:zE)]:List zE)))=(Mp zC row_1)++(Mp zC ([(⟨at__1,r_3.1⟩:zE)]:List zE))) (ac (by simp:((row_1++([(⟨at__1,r_3.1⟩:zE)]:List zE))).length=((List.map zC (row_1++([(⟨at__1,r_3.1⟩:zE)]:List zE)))).length) (ac (by first | (simp;done) | simpa using h_7:(((List.map zC row_1):List AV).length+((List.map zC ([(⟨at__1,r_3.1⟩:zE)]:List zE)):List AV).length) * 16≤140737488355328) an))))) ?_
  refine rg [] [0,1,11,12,13,30,31,32] [3] 4 [.sl false 1 (Ms names_1),.sl false 2 (Mp zC stacks_1),Ii (lN (row_1)),.sl false 1 (Ms r_3.2.1),.own 3 (((row_1++([(⟨at__1,r_3.1⟩:zE)]:List zE))).length),.sl false 1 (Ms l_1),Ii (lN (l_1)),Ii (zK (v_1+(1:Int)))] [Rb 57 2 (Mp zC (row_1++([(⟨at__1,r_3.1⟩:zE)]:List zE)))] zD an ?_
  exact ⟨_,(sw [3] [] [.s 0,.s 1,.s 11,.s 12,.s 13,.s 30,.s 31,.s 32] [.s 0] an),_,_,_,_,rfl,h⟩
 intro e st1 hk
 rcases o_1 with q_1 | q_2
 rotate_left
 ·obtain ⟨rfl,hf⟩:=hk
  cases h
  exact ⟨st1,Sub.refl _ _,.inr rfl,hf⟩
 obtain ⟨rfl,hs⟩:=hk
 refine ⟨_,hs,?_⟩
 refine sr [] [6,7,8,9] [0] 1 [Ii q_1.1,.sl false 1 (Ms q_1.2.1),.own 0 ((q_1.2.2).length),Ii 0] [Rb 57 2 (Mp zC q_1.2.2)] zD an ?_
 refine wk [] [0] [.s 6,.s 7,.a 8 (.sl false 2 (Mp zC q_1.2.2)),.s 9] [] [(6,Ii q_1.1),(7,.sl false 1 (Ms q_1.2.1)),(8,.sl false 2 (Mp zC q_1.2.2)),(9,Ii 0)] [] (ac (by first | (simp;done) | (simp;omega):(q_1.2.2).length=((List.map zC q_1.2.2)).length) (ar 2 (ar ((Mp zC q_1.2.2):List AV) (ac (rfl:(!false||false)=true) an)))) ?_
 refine rt ?_
 cases h
 exact ⟨.inr rfl,Nat.le_of_ble_eq_true rfl,by kernel_rfl⟩
theorem zFA (F:Nat) (names_1:List (List Int)) (stacks_1:List (zE)) (e_1:zA) (r:(List (Int))×(List (List Int))×(List (zE))×Int) (h:pU F names_1 stacks_1 e_1=some r):zM prog 31 [] [] [.sl false 1 (Ms names_1),.sl false 2 (Mp zC stacks_1),zB e_1] [.row 5 1 (Mb r.1)] (.tuple [.own 0 ((r.1).length),.sl false 1 (Ms r.2.1),.sl false 2 (Mp zC r.2.2.1),Ii r.2.2.2]):=by
 refine zS (fn:=Go.Proofs.Try.f31) (code:=z6 Go.Proofs.Try.f31) (by kernel_rfl) (by kernel_rfl) (Nat.le_of_ble_eq_true (by kernel_rfl)) ?_
 unfold pU at h
 refine sr [(0,{ id:=0 }),(1,{ id:=1,m:=1 })] [0,1,5] [0] 2 [.sl false 1 (Ms names_1),.sl false 2 (Mp zC stacks_1),Pp 0] [Vb 33 (zJ e_1)] zD an ?_
 refine sq ?_
 refine sq ?_
 obtain ⟨r_1,h_1,h⟩:=bind_some h
 refine rg [(2,{ av:=Ii r_1,l:=[.sl false 1 (Ms names_1),.sl false 2 (Mp zC stacks_1)] })] [0,1,5,26] [0] 2 [.sl false 1 (Ms names_1),.sl false 2 (Mp zC stacks_1),Pp 0,.bool (r_1 != (0:Int))] [Vb 33 (zJ e_1)] zD (ar ([.sl false 1 (Ms names_1),.sl false 2 (Mp zC stacks_1)]:List AV) (ac (rfl:([]:List zP)=[]) (ac (nL F names_1 stacks_1 r_1 h_1:zM prog 40 [] [] [.sl false 1 (Ms names_1),.sl false 2 (Mp zC stacks_1)] [] (Ii r_1)) an))) ?_
 refine cd 26 (r_1 != (0:Int)) ?_ ?_
 ·intro g_1;replace h:=zN g_1 h
  refine sr [(0,{ id:=2,m:=1 })] [6,7,8,9] [2] 3 [.own 2 0,.nilsl,.nilsl,Ii 1] [Rb 5 1 []] zD an ?_
  refine wk [2] [] [.a 6 (.own 0 ((([]:List Int)).length)),.a 7 (.sl false 1 []),.a 8 (.sl false 2 []),.s 9] [.s 0] [(6,.own 0 ((([]:List Int)).length)),(7,.sl false 1 []),(8,.sl false 2 []),(9,Ii 1)] [(0,Rb 5 1 [])] (ac (congrArg (AV.own _) (by first | (simp;done) | (simp;omega)):(.own 2 0:AV)=.own 2 ((([]:List Int)).length)) (ar ([]:List AV) (ar ([]:List AV) an))) ?_
  refine rt ?_
  cases h
  exact ⟨.inr rfl,Nat.le_of_ble_eq_true rfl,by kernel_rfl⟩
 intro g_1;replace h:=zO g_1 h
 refine sk ?_
 refine sq ?_
 refine sq ?_
 obtain ⟨r_2,h_2,h⟩:=bind_some h
 refine rg [(1,{ av:=Ii r_2,l:=[zB e_1] })] [0,1,5,10] [0] 2 [.sl false 1 (Ms names_1),.sl false 2 (Mp zC stacks_1),Pp 0,Ii r_2] [Vb 33 (zJ e_1)] zD (ar ([zB e_1]:List AV) (ac (rfl:([]:List zP)=[]) (ac (zBf F e_1 r_2 h_2:zM prog 48 [] [] [zB e_1] [] (Ii r_2)) an))) ?_
 refine sr [] [0,1,5,10,30] [0] 2 [.sl false 1 (Ms names_1),.sl false 2 (Mp zC stacks_1),Pp 0,Ii r_2,.bool (r_2 != (0:Int))] [Vb 33 (zJ e_1)] zD an ?_
 refine cd 30 (r_2 != (0:Int)) ?_ ?_
 ·intro g_2;replace h:=zN g_2 h
  refine sr [(1,{ id:=2,m:=1 })] [6,7,8,9] [2] 3 [.own 2 0,.nilsl,.nilsl,Ii r_2] [Rb 5 1 []] zD an ?_
  refine wk [2] [] [.a 6 (.own 0 ((([]:List Int)).length)),.a 7 (.sl false 1 []),.a 8 (.sl false 2 []),.s 9] [.s 0] [(6,.own 0 ((([]:List Int)).length)),(7,.sl false 1 []),(8,.sl false 2 []),(9,Ii r_2)] [(0,Rb 5 1 [])] (ac (congrArg (AV.own _) (by first | (simp;done) | (simp;omega)):(.own 2 0:AV)=.own 2 ((([]:List Int)).length)) (ar ([]:List AV) (ar ([]:List AV) an))) ?_
  refine rt ?_
  cases h
  exact ⟨.inr rfl,Nat.le_of_ble_eq_true rfl,by kernel_rfl⟩
 intro g_2;replace h:=zO g_2 h
 refine sk ?_
 refine sq ?_
 obtain ⟨r_3,h_3,h⟩:=bind_some h
 refine rg [(2,{ av:=.tuple [.bool r_3.1,.bool r_3.2.1,.bool r_3.2.2.1,.bool r_3.2.2.2],l:=[Ii e_1.Kind] })] [0,1,5,11,12,13,14] [0] 2 [.sl false 1 (Ms names_1),.sl false 2 (Mp zC stacks_1),Pp 0,.bool r_3.1,.bool r_3.2.1,.bool r_3.2.2.1,.bool r_3.2.2.2] [Vb 33 (zJ e_1)] zD (ar ([Ii e_1.Kind]:List AV) (ac (rfl:([]:List zP)=[]) (ac (zC4 e_1.Kind r_3 h_3:zM prog 51 [] [] [Ii e_1.Kind] [] (.tuple [.bool r_3.1,.bool r_3.2.1,.bool r_3.2.2.1,.bool r_3.2.2.2])) an))) ?_
 refine sq ?_
 obtain ⟨r_4,h_4,h⟩:=bind_some h
 obtain ⟨r_5,h_5,h⟩:=bind_some h
 refine rg [(2,{ av:=.own 0 ((r_4).length),ids:=[2],l:=[.nilsl,Ii e_1.Kind],post:=[(.row 5 1 (Mb r_4))] }),(5,{ av:=.own 0 ((r_5).length),frz:=[2],ids:=[3],l:=[.sl false 1 (Mb r_4),Ii e_1.At],post:=[(.row 5 1 (Mb r_5))] })] [0,1,5,11,12,13,14,15] [0,3] 4 [.sl false 1 (Ms names_1),.sl false 2 (Mp zC stacks_1),Pp 0,.bool r_3.1,.bool r_3.2.1,.bool r_3.2.2.1,.bool r_3.2.2.2,.own 3 ((r_5).length)] [Vb 33 (zJ e_1),Rb 5 1 (Mb r_5)] zD (ar ([.nilsl,Ii e_1.Kind]:List AV) (ac (rfl:([]:List zP)=[]) (ac (y7 (args':=[.sl false 1 [],Ii e_1.Kind]) (vQ F [] e_1.Kind r_4 h_4) rfl ⟨rfl,rfl,trivial⟩:zM prog 52 [] [] [.nilsl,Ii e_1.Kind] [(.row 5 1 (Mb r_4))] (.own 0 ((r_4).length))) (ac (by first | (simp;done) | (simp;omega):(r_4).length=((List.map (AV.int .u8) r_4)).length) (ar ([.sl false 1 (Mb r_4),Ii e_1.At]:List AV) (ac (rfl:([]:List zP)=[]) (ac (vQ F r_4 e_1.At r_5 h_5:zM prog 52 [] [] [.sl false 1 (Mb r_4),Ii e_1.At] [(.row 5 1 (Mb r_5))] (.own 0 ((r_5).length))) an))))))) ?_
 refine sq ?_
 refine sr [] [0,1,5,12,13,14,15,46] [0,3] 4 [.sl false 1 (Ms names_1),.sl false 2 (Mp zC stacks_1),Pp 0,.bool r_3.2.1,.bool r_3.2.2.1,.bool r_3.2.2.2,.own 3 ((r_5).length),.bool r_3.1] [Vb 33 (zJ e_1),Rb 5 1 (Mb r_5)] zD an ?_
 obtain ⟨o_1,h_6,h⟩:=bind_some h
 refine yZ (K1:=(fun e st'=>match o_1 with | (.inl q0)=>e=.normal∧Sub 0 st' (mk [(0,.sl false 1 (Ms q0.1)),(1,.sl false 2 (Mp zC stacks_1)),(5,Pp 0),(12,.bool r_3.2.1),(13,.bool r_3.2.2.1),(14,.bool r_3.2.2.2),(15,.own 1 ((q0.2).length))] [(0,Vb 33 (zJ e_1)),(1,Rb 5 1 (Mb q0.2))] 2) | (.inr q1)=>e=.ret∧vS prog Go.Proofs.Try.f31 0 [.row 5 1 (Mb q1.1)] (.tuple [.own 0 ((q1.1).length),.sl false 1 (Ms q1.2.1),.sl false 2 (Mp zC q1.2.2.1),Ii q1.2.2.2]) st')) ?_ ?_
 ·replace h:=h_6
  refine cd 46 r_3.1 ?_ ?_
  rotate_left
  ·intro g_3;replace h:=zO g_3 h
   refine sk ?_
   cases h
   exact ⟨rfl,(sw [0,3] [] [.s 0,.s 1,.s 5,.s 12,.s 13,.s 14,.s 15] [.s 0,.s 1] an)⟩
  intro g_3;replace h:=zN g_3 h
  refine sq ?_
  obtain ⟨r_6,h_7,h⟩:=bind_some h
  refine rg [(3,{ av:=.tuple [Ii r_6.1,.sl false 1 (Ms r_6.2.1),Ii r_6.2.2],l:=[.sl false 1 (Ms names_1),.str e_1.Name] })] [1,5,12,13,14,15,16,17,18] [0,3] 4 [.sl false 2 (Mp zC stacks_1),Pp 0,.bool r_3.2.1,.bool r_3.2.2.1,.bool r_3.2.2.2,.own 3 ((r_5).length),Ii r_6.1,.sl false 1 (Ms r_6.2.1),Ii r_6.2.2] [Vb 33 (zJ e_1),Rb 5 1 (Mb r_5)] zD (ar ([.sl false 1 (Ms names_1),.str e_1.Name]:List AV) (ac (rfl:([]:List zP)=[]) (ac (zDW F names_1 e_1.Name r_6 h_7:zM prog 53 [] [] [.sl false 1 (Ms names_1),.str e_1.Name] [] (.tuple [Ii r_6.1,.sl false 1 (Ms r_6.2.1),Ii r_6.2.2])) an))) ?_
  refine sq ?_
  refine sr [] [1,5,12,13,14,15,16,17,18,56] [0,3] 4 [.sl false 2 (Mp zC stacks_1),Pp 0,.bool r_3.2.1,.bool r_3.2.2.1,.bool r_3.2.2.2,.own 3 ((r_5).length),Ii r_6.1,.sl false 1 (Ms r_6.2.1),Ii r_6.2.2,.bool (r_6.2.2 != (0:Int))] [Vb 33 (zJ e_1),Rb 5 1 (Mb r_5)] zD an ?_
  refine cd 56 (r_6.2.2 != (0:Int)) ?_ ?_
  rotate_left
  ·intro g_4;replace h:=zO g_4 h
   refine sk ?_
   obtain ⟨r_7,h_8,h⟩:=bind_some h
   refine rg [(2,{ av:=.own 0 ((r_7).length),frz:=[3],ids:=[4],l:=[.sl false 1 (Mb r_5),Ii r_6.1],post:=[(.row 5 1 (Mb r_7))] })] [0,1,5,12,13,14,15] [0,4] 5 [.sl false 1 (Ms r_6.2.1),.sl false 2 (Mp zC stacks_1),Pp 0,.bool r_3.2.1,.bool r_3.2.2.1,.bool r_3.2.2.2,.own 4 ((r_7).length)] [Vb 33 (zJ e_1),Rb 5 1 (Mb r_7)] zD (ac (by first | (simp;done) | (simp;omega):(r_5).length=((List.map (AV.int .u8) r_5)).length) (ar ([.sl false 1 (Mb r_5),Ii r_6.1]:List AV) (ac (rfl:([]:List zP)=[]) (ac (vQ F r_5 r_6.1 r_7 h_8:zM prog 52 [] [] [.sl false 1 (Mb r_5),Ii r_6.1] [(.row 5 1 (Mb r_7))] (.own 0 ((r_7).length))) an)))) ?_
   cases h
   exact ⟨rfl,(sw [0,4] [] [.s 0,.s 1,.s 5,.s 12,.s 13,.s 14,.s 15] [.s 0,.s 1] an)⟩
  intro g_4;replace h:=zN g_4 h
  refine sr [(1,{ id:=4,m:=1 })] [6,7,8,9] [4] 5 [.own 4 0,.nilsl,.nilsl,Ii r_6.2.2] [Rb 5 1 []] zD an ?_
  refine wk [4] [] [.a 6 (.own 0 ((([]:List Int)).length)),.a 7 (.sl false 1 []),.a 8 (.sl false 2 []),.s 9] [.s 0] [(6,.own 0 ((([]:List Int)).length)),(7,.sl false 1 []),(8,.sl false 2 []),(9,Ii r_6.2.2)] [(0,Rb 5 1 [])] (ac (congrArg (AV.own _) (by first | (simp;done) | (simp;omega)):(.own 4 0:AV)=.own 4 ((([]:List Int)).length)) (ar ([]:List AV) (ar ([]:List AV) an))) ?_
  refine rt ?_
  cases h
  exact ⟨rfl,Nat.le_of_ble_eq_true rfl,by kernel_rfl⟩
 intro e st1 hk
 rcases o_1 with q_1 | q_2
 rotate_left
 ·obtain ⟨rfl,hf⟩:=hk
  cases h
  exact ⟨st1,Sub.refl _ _,.inr rfl,hf⟩
 obtain ⟨rfl,hs⟩:=hk
 refine ⟨_,hs,?_⟩
 refine sq ?_
 refine sr [] [0,1,5,13,14,15,62] [0,1] 2 [.sl false 1 (Ms q_1.1),.sl false 2 (Mp zC stacks_1),Pp 0,.bool r_3.2.2.1,.bool r_3.2.2.2,.own 1 ((q_1.2).length),.bool r_3.2.1] [Vb 33 (zJ e_1),Rb 5 1 (Mb q_1.2)] zD an ?_
 obtain ⟨o_2,h_9,h⟩:=bind_some h
 refine zX (mk [(0,.sl false 1 (Ms q_1.1)),(1,.sl false 2 (Mp zC stacks_1)),(5,Pp 0),(13,.bool r_3.2.2.1),(14,.bool r_3.2.2.2),(15,.own 1 ((o_2).length))] [(0,Vb 33 (zJ e_1)),(1,Rb 5 1 (Mb o_2))] 2) ?_ ?_
 ·replace h:=h_9
  refine cd 62 r_3.2.1 ?_ ?_
  rotate_left
  ·intro g_5;replace h:=zO g_5 h
   refine sk ?_
   cases h
   exact ⟨rfl,(sw [0,1] [] [.s 0,.s 1,.s 5,.s 13,.s 14,.s 15] [.s 0,.s 1] an)⟩
  intro g_5;replace h:=zN g_5 h
  obtain ⟨r_8,h_10,h⟩:=bind_some h
  refine rg [(3,{ av:=.own 0 ((r_8).length),frz:=[1],ids:=[2],l:=[.sl false 1 (Mb q_1.2),Ii e_1.N],post:=[(.row 5 1 (Mb r_8))] })] [0,1,5,13,14,15] [0,2] 3 [.sl false 1 (Ms q_1.1),.sl false 2 (Mp zC stacks_1),Pp 0,.bool r_3.2.2.1,.bool r_3.2.2.2,.own 2 ((r_8).length)] [Vb 33 (zJ e_1),Rb 5 1 (Mb r_8)] zD (ac (by first | (simp;done) | (simp;omega):(q_1.2).length=((List.map (AV.int .u8) q_1.2)).length) (ar ([.sl false 1 (Mb q_1.2),Ii e_1.N]:List AV) (ac (rfl:([]:List zP)=[]) (ac (vQ F q_1.2 e_1.N r_8 h_10:zM prog 52 [] [] [.sl false 1 (Mb q_1.2),Ii e_1.N] [(.row 5 1 (Mb r_8))] (.own 0 ((r_8).length))) an)))) ?_
  cases h
  exact ⟨rfl,(sw [0,2] [] [.s 0,.s 1,.s 5,.s 13,.s 14,.s 15] [.s 0,.s 1] an)⟩
 refine sq ?_
 refine sr [] [0,1,5,14,15,67] [0,1] 2 [.sl false 1 (Ms q_1.1),.sl false 2 (Mp zC stacks_1),Pp 0,.bool r_3.2.2.2,.own 1 ((o_2).length),.bool r_3.2.2.1] [Vb 33 (zJ e_1),Rb 5 1 (Mb o_2)] zD an ?_
 obtain ⟨o_3,h_11,h⟩:=bind_some h
 refine zX (mk [(0,.sl false 1 (Ms q_1.1)),(1,.sl false 2 (Mp zC stacks_1)),(5,Pp 0),(14,.bool r_3.2.2.2),(15,.own 1 ((o_3).length))] [(0,Vb 33 (zJ e_1)),(1,Rb 5 1 (Mb o_3))] 2) ?_ ?_
 ·replace h:=h_11
  refine cd 67 r_3.2.2.1 ?_ ?_
  rotate_left
  ·intro g_6;replace h:=zO g_6 h
   refine sk ?_
   cases h
   exact ⟨rfl,(sw [0,1] [] [.s 0,.s 1,.s 5,.s 14,.s 15] [.s 0,.s 1] an)⟩
  intro g_6;replace h:=zN g_6 h
  obtain ⟨r_9,h_12,h⟩:=bind_some h
  refine rg [(3,{ av:=.own 0 ((r_9).length),frz:=[1],ids:=[2],l:=[.sl false 1 (Mb o_2),Ii e_1.M],post:=[(.row 5 1 (Mb r_9))] })] [0,1,5,14,15] [0,2] 3 [.sl false 1 (Ms q_1.1),.sl false 2 (Mp zC stacks_1),Pp 0,.bool r_3.2.2.2,.own 2 ((r_9).length)] [Vb 33 (zJ e_1),Rb 5 1 (Mb r_9)] zD (ac (by first | (simp;done) | (simp;omega):(o_2).length=((List.map (AV.int .u8) o_2)).length) (ar ([.sl false 1 (Mb o_2),Ii e_1.M]:List AV) (ac (rfl:([]:List zP)=[]) (ac (vQ F o_2 e_1.M r_9 h_12:zM prog 52 [] [] [.sl false 1 (Mb o_2),Ii e_1.M] [(.row 5 1 (Mb r_9))] (.own 0 ((r_9).length))) an)))) ?_
  cases h
  exact ⟨rfl,(sw [0,2] [] [.s 0,.s 1,.s 5,.s 14,.s 15] [.s 0,.s 1] an)⟩
 refine sq ?_
 refine sr [] [0,1,5,15,72] [0,1] 2 [.sl false 1 (Ms q_1.1),.sl false 2 (Mp zC stacks_1),Pp 0,.own 1 ((o_3).length),.bool r_3.2.2.2] [Vb 33 (zJ e_1),Rb 5 1 (Mb o_3)] zD an ?_
 obtain ⟨o_4,h_13,h⟩:=bind_some h
 refine yZ (K1:=(fun e st'=>match o_4 with | (.inl q0)=>e=.normal∧Sub 0 st' (mk [(0,.sl false 1 (Ms q0.1)),(1,.sl false 2 (Mp zC q0.2.1)),(15,.own 0 ((q0.2.2).length))] [(0,Rb 5 1 (Mb q0.2.2))] 1) | (.inr q1)=>e=.ret∧vS prog Go.Proofs.Try.f31 0 [.row 5 1 (Mb q1.1)] (.tuple [.own 0 ((q1.1).length),.sl false 1 (Ms q1.2.1),.sl false 2 (Mp zC q1.2.2.1),Ii q1.2.2.2]) st')) ?_ ?_
 ·replace h:=h_13
  refine cd 72 r_3.2.2.2 ?_ ?_
  rotate_left
  ·intro g_7;replace h:=zO g_7 h
   refine sk ?_
   cases h
   exact ⟨rfl,(sw [1] [] [.s 0,.s 1,.s 15] [.s 0] an)⟩
  intro g_7;replace h:=zN g_7 h
  refine sq ?_
  obtain ⟨r_10,h_14,h⟩:=bind_some h
  refine rg [(4,{ av:=.tuple [Ii r_10.1,.sl false 1 (Ms r_10.2.1),.sl false 2 (Mp zC r_10.2.2.1),Ii r_10.2.2.2],l:=[.sl false 1 (Ms q_1.1),.sl false 2 (Mp zC stacks_1),.sl false 1 (Ms e_1.Stack)] })] [15,19,20,21,22] [1] 2 [.own 1 ((o_3).length),Ii r_10.1,.sl false 1 (Ms r_10.2.1),.sl false 2 (Mp zC r_10.2.2.1),Ii r_10.2.2.2] [Rb 5 1 (Mb o_3)] zD (ar ([.sl false 1 (Ms q_1.1),.sl false 2 (Mp zC stacks_1),.sl false 1 (Ms e_1.Stack)]:List AV) (ac (rfl:([]:List zP)=[]) (ac (zEj F q_1.1 stacks_1 e_1.Stack r_10 h_14:zM prog 54 [] [] [.sl false 1 (Ms q_1.1),.sl false 2 (Mp zC stacks_1),.sl false 1 (Ms e_1.Stack)] [] (.tuple [Ii r_10.1,.sl false 1 (Ms r_10.2.1),.sl false 2 (Mp zC r_10.2.2.1),Ii r_10.2.2.2])) an))) ?_
  refine sq ?_
  refine sr [] [15,19,20,21,22,84] [1] 2 [.own 1 ((o_3).length),Ii r_10.1,.sl false 1 (Ms r_10.2.1),.sl false 2 (Mp zC r_10.2.2.1),Ii r_10.2.2.2,.bool (r_10.2.2.2 != (0:Int))] [Rb 5 1 (Mb o_3)] zD an ?_
  refine cd 84 (r_10.2.2.2 != (0:Int)) ?_ ?_
  rotate_left
  ·intro g_8;replace h:=zO g_8 h
   refine sk ?_
   obtain ⟨r_11,h_15,h⟩:=bind_some h
   refine rg [(2,{ av:=.own 0 ((r_11).length),frz:=[1],ids:=[2],l:=[.sl false 1 (Mb o_3),Ii r_10.1],post:=[(.row 5 1 (Mb r_11))] })] [0,1,15] [2] 3 [.sl false 1 (Ms r_10.2.1),.sl false 2 (Mp zC r_10.2.2.1),.own 2 ((r_11).length)] [Rb 5 1 (Mb r_11)] zD (ac (by first | (simp;done) | (simp;omega):(o_3).length=((List.map (AV.int .u8) o_3)).length) (ar ([.sl false 1 (Mb o_3),Ii r_10.1]:List AV) (ac (rfl:([]:List zP)=[]) (ac (vQ F o_3 r_10.1 r_11 h_15:zM prog 52 [] [] [.sl false 1 (Mb o_3),Ii r_10.1] [(.row 5 1 (Mb r_11))] (.own 0 ((r_11).length))) an)))) ?_
   cases h
   exact ⟨rfl,(sw [2] [] [.s 0,.s 1,.s 15] [.s 0] an)⟩
  intro g_8;replace h:=zN g_8 h
  refine sr [(1,{ id:=2,m:=1 })] [6,7,8,9] [2] 3 [.own 2 0,.nilsl,.nilsl,Ii r_10.2.2.2] [Rb 5 1 []] zD an ?_
  refine wk [2] [] [.a 6 (.own 0 ((([]:List Int)).length)),.a 7 (.sl false 1 []),.a 8 (.sl false 2 []),.s 9] [.s 0] [(6,.own 0 ((([]:List Int)).length)),(7,.sl false 1 []),(8,.sl false 2 []),(9,Ii r_10.2.2.2)] [(0,Rb 5 1 [])] (ac (congrArg (AV.own _) (by first | (simp;done) | (simp;omega)):(.own 2 0:AV)=.own 2 ((([]:List Int)).length)) (ar ([]:List AV) (ar ([]:List AV) an))) ?_
  refine rt ?_
  cases h
  exact ⟨rfl,Nat.le_of_ble_eq_true rfl,by kernel_rfl⟩
 intro e st1 hk
 rcases o_4 with q_3 | q_4
 rotate_left
 ·obtain ⟨rfl,hf⟩:=hk
  cases h
  exact ⟨st1,Sub.refl _ _,.inr rfl,hf⟩
 obtain ⟨rfl,hs⟩:=hk
 refine ⟨_,hs,?_⟩
 refine sr [] [6,7,8,9] [0] 1 [.own 0 ((q_3.2.2).length),.sl false 1 (Ms q_3.1),.sl false 2 (Mp zC q_3.2.1),Ii 0] [Rb 5 1 (Mb q_3.2.2)] zD an ?_
 refine wk [0] [] [.s 6,.s 7,.s 8,.s 9] [.s 0] [(6,.own 0 ((q_3.2.2).length)),(7,.sl false 1 (Ms q_3.1)),(8,.sl false 2 (Mp zC q_3.2.1)),(9,Ii 0)] [(0,Rb 5 1 (Mb q_3.2.2))] an ?_
 refine rt ?_
 cases h
 exact ⟨.inr rfl,Nat.le_of_ble_eq_true rfl,by kernel_rfl⟩
theorem zFy (F:Nat) (b_1:List (Int)) (s_1:List Int) (r:(List (Int))) (h:pY F b_1 s_1=some r):zM prog 33 [] [] [.sl false 1 (Mb b_1),.str s_1] [.row 5 1 (Mb r)] (.own 0 ((r).length)):=by
 refine zS (fn:=Go.Proofs.Try.f33) (code:=z6 Go.Proofs.Try.f33) (by kernel_rfl) (by kernel_rfl) (Nat.le_of_ble_eq_true (by kernel_rfl)) ?_
 unfold pY at h
 refine sr [(0,{ id:=0,m:=1 })] [0,1] [] 1 [.sl false 1 (Mb b_1),.str s_1] [] zD an ?_
 refine sq ?_
 obtain ⟨r_1,h_1,h⟩:=bind_some h
 refine rg [(3,{ av:=.own 0 ((r_1).length),ids:=[1],l:=[.sl false 1 (Mb b_1),Ii (lN (s_1))],post:=[(.row 5 1 (Mb r_1))] })] [1,5] [1] 2 [.str s_1,.own 1 ((r_1).length)] [Rb 5 1 (Mb r_1)] zD (ar ([.sl false 1 (Mb b_1),Ii (lN (s_1))]:List AV) (ac (rfl:([]:List zP)=[]) (ac (vQ F b_1 (lN (s_1)) r_1 h_1:zM prog 52 [] [] [.sl false 1 (Mb b_1),Ii (lN (s_1))] [(.row 5 1 (Mb r_1))] (.own 0 ((r_1).length))) an))) ?_
 refine sq ?_
 obtain ⟨_,h_2,h⟩:=bind_some h;replace h_2:=z0 h_2
 refine rg [(5,{ id:=2,l:=(Mb (List.replicate ((zK ((lN (r_1))+(lN (s_1)))).toNat) (0:Int))),m:=(zK ((lN (r_1))+(lN (s_1)))).toNat,n:=(zK ((lN (r_1))+(lN (s_1)))).toNat })] [1,5,6] [1,2] 3 [.str s_1,.own 1 ((r_1).length),.own 2 ((zK ((lN (r_1))+(lN (s_1)))).toNat)] [Rb 5 1 (Mb r_1),Rb 5 1 (Mb (List.replicate ((zK ((lN (r_1))+(lN (s_1)))).toNat) (0:Int)))] zD (ac ((Int.toNat_of_nonneg h_2.1).symm:zK ((lN (r_1))+(lN (s_1)))=(((zK ((lN (r_1))+(lN (s_1)))).toNat:Nat):Int)) (ac ((Int.toNat_of_nonneg h_2.1).symm:zK ((lN (r_1))+(lN (s_1)))=(((zK ((lN (r_1))+(lN (s_1)))).toNat:Nat):Int)) (ac (Nat.le_refl _:((zK ((lN (r_1))+(lN (s_1)))).toNat)≤((zK ((lN (r_1))+(lN (s_1)))).toNat)) (ac h_2.2 (ac (zMj:(Mb (List.replicate ((zK ((lN (r_1))+(lN (s_1)))).toNat) (0:Int)))=List.replicate ((zK ((lN (r_1))+(lN (s_1)))).toNat) (Iu 0)) an))))) ?_
 refine sq ?_
 obtain ⟨_,h_3,h⟩:=bind_some h;replace h_3:=z0 h_3
 refine rg [(2,{ l:=(Mb (cpy (List.replicate ((zK ((lN (r_1))+(lN (s_1)))).toNat) (0:Int)) 0 ((zK ((lN (r_1))+(lN (s_1)))).toNat) r_1)),n:=(min (r_1).length ((zK ((lN (r_1))+(lN (s_1)))).toNat - 0)) })] [1,5,6] [1,2] 3 [.str s_1,.own 1 ((r_1).length),.own 2 ((zK ((lN (r_1))+(lN (s_1)))).toNat)] [Rb 5 1 (Mb r_1),Rb 5 1 (Mb (cpy (List.replicate ((zK ((lN (r_1))+(lN (s_1)))).toNat) (0:Int)) 0 ((zK ((lN (r_1))+(lN (s_1)))).toNat) r_1))] zD (ac (by first | (simp;done) | (simp;omega):(r_1).length=((List.map (AV.int .u8) r_1)).length) (ac h_3.1 (ac (zCO h_3.2:((zK ((lN (r_1))+(lN (s_1)))).toNat)≤((Mb (List.replicate ((zK ((lN (r_1))+(lN (s_1)))).toNat) (0:Int)))).length) (ac (by simp:(min (r_1).length ((zK ((((r_1).length:Nat):Int)+(((s_1).length:Nat):Int))).toNat - 0))=min ((List.map (AV.int .u8) r_1):List AV).length ((zK ((((r_1).length:Nat):Int)+(((s_1).length:Nat):Int))).toNat - 0)) (ac (by simp [cpy]:(List.map (AV.int .u8) (cpy (List.replicate ((zK ((((r_1).length:Nat):Int)+(((s_1).length:Nat):Int))).toNat) (0:Int)) 0 ((zK ((((r_1).length:Nat):Int)+(((s_1).length:Nat):Int))).toNat) r_1))=((List.map (AV.int .u8) (List.replicate ((zK ((((r_1).length:Nat):Int)+(((s_1).length:Nat):Int))).toNat) (0:Int)))).take 0++((List.map (AV.int .u8) r_1):List AV).take (min (r_1).length ((zK ((((r_1).length:Nat):Int)+(((s_1).length:Nat):Int))).toNat - 0))++((List.map (AV.int .u8) (List.replicate ((zK ((((r_1).length:Nat):Int)+(((s_1).length:Nat):Int))).toNat) (0:Int)))).drop (0+(min (r_1).length ((zK ((((r_1).length:Nat):Int)+(((s_1).length:Nat):Int))).toNat - 0)))) an))))) ?_
 refine sq ?_
 obtain ⟨_,h_4,h⟩:=bind_some h;replace h_4:=z0 h_4
 obtain ⟨_,h_5,h⟩:=bind_some h;replace h_5:=z0 h_5
 refine rg [(5,{ l:=(Mb (cpy (cpy (List.replicate ((zK ((lN (r_1))+(lN (s_1)))).toNat) (0:Int)) 0 ((zK ((lN (r_1))+(lN (s_1)))).toNat) r_1) ((r_1).length) ((zK ((lN (r_1))+(lN (s_1)))).toNat) s_1)),n:=(min (s_1).length ((zK ((lN (r_1))+(lN (s_1)))).toNat - (r_1).length)) })] [6] [2] 3 [.own 2 ((zK ((lN (r_1))+(lN (s_1)))).toNat)] [Rb 5 1 (Mb (cpy (cpy (List.replicate ((zK ((lN (r_1))+(lN (s_1)))).toNat) (0:Int)) 0 ((zK ((lN (r_1))+(lN (s_1)))).toNat) r_1) ((r_1).length) ((zK ((lN (r_1))+(lN (s_1)))).toNat) s_1))] zD (ac (Int.natCast_nonneg _:(0:Int)≤(lN (r_1))) (ac h_4 (ac (Int.le_refl _:(((zK ((lN (r_1))+(lN (s_1)))).toNat:Nat):Int)≤(((zK ((lN (r_1))+(lN (s_1)))).toNat:Nat):Int)) (ac (trivial:True) (ac h_5.1 (ac (zCO h_5.2:((zK ((lN (r_1))+(lN (s_1)))).toNat)≤((Mb (cpy (List.replicate ((zK ((lN (r_1))+(lN (s_1)))).toNat) (0:Int)) 0 ((zK ((lN (r_1))+(lN (s_1)))).toNat) r_1))).length) (ac (by simp:(min (s_1).length ((zK ((((r_1).length:Nat):Int)+(((s_1).length:Nat):Int))).toNat - (r_1).length))=min ((List.map (AV.int .u8) s_1):List AV).length ((zK ((((r_1).length:Nat):Int)+(((s_1).length:Nat):Int))).toNat - (r_1).length)) (ac (by simp [cpy]:(List.map (AV.int .u8) (cpy (cpy (List.replicate ((zK ((((r_1).length:Nat):Int)+(((s_1).length:Nat):Int))).toNat) (0:Int)) 0 ((zK ((((r_1).length:Nat):Int)+(((s_1).length:Nat):Int))).toNat) r_1) ((r_1).length) ((zK ((((r_1).length:Nat):Int)+(((s_1).length:Nat):Int))).toNat) s_1))=((List.map (AV.int .u8) (cpy (List.replicate ((zK ((((r_1).length:Nat):Int)+(((s_1).length:Nat):Int))).toNat) (0:Int)) 0 ((zK ((((r_1).length:Nat):Int)+(((s_1).length:Nat):Int))).toNat) r_1))).take ((r_1).length)++((List.map (AV.int .u8) s_1):List AV).take (min (s_1).length ((zK ((((r_1).length:Nat):Int)+(((s_1).length:Nat):Int))).toNat - (r_1).length))++((List.map (AV.int .u8) (cpy (List.replicate ((zK ((((r_1).length:Nat):Int)+(((s_1).length:Nat):Int))).toNat) (0:Int)) 0 ((zK ((((r_1).length:Nat):Int)+(((s_1).length:Nat):Int))).toNat) r_1))).drop ((r_1).length+(min (s_1).length ((zK ((((r_1).length:Nat):Int)+(((s_1).length:Nat):Int))).toNat - (r_1).length)))) an)))))))) ?_
 refine sr [] [4] [2] 3 [.own 2 ((zK ((lN (r_1))+(lN (s_1)))).toNat)] [Rb 5 1 (Mb (cpy (cpy (List.replicate ((zK ((lN (r_1))+(lN (s_1)))).toNat) (0:Int)) 0 ((zK ((lN (r_1))+(lN (s_1)))).toNat) r_1) ((r_1).length) ((zK ((lN (r_1))+(lN (s_1)))).toNat) s_1))] zD an ?_
 refine wk [2] [] [.a 4 (.own 0 (((cpy (cpy (List.replicate ((zK ((lN (r_1))+(lN (s_1)))).toNat) (0:Int)) 0 ((zK ((lN (r_1))+(lN (s_1)))).toNat) r_1) ((r_1).length) ((zK ((lN (r_1))+(lN (s_1)))).toNat) s_1)).length))] [.s 0] [(4,.own 0 (((cpy (cpy (List.replicate ((zK ((lN (r_1))+(lN (s_1)))).toNat) (0:Int)) 0 ((zK ((lN (r_1))+(lN (s_1)))).toNat) r_1) ((r_1).length) ((zK ((lN (r_1))+(lN (s_1)))).toNat) s_1)).length))] [(0,Rb 5 1 (Mb (cpy (cpy (List.replicate ((zK ((lN (r_1))+(lN (s_1)))).toNat) (0:Int)) 0 ((zK ((lN (r_1))+(lN (s_1)))).toNat) r_1) ((r_1).length) ((zK ((lN (r_1))+(lN (s_1)))).toNat) s_1)))] (ac (congrArg (AV.own _) ((zKZ h_5.1 h_5.2).trans ((zKZ h_3.1 h_3.2).trans List.length_replicate)).symm:(.own 2 ((zK ((lN (r_1))+(lN (s_1)))).toNat):AV)=.own 2 (((cpy (cpy (List.replicate ((zK ((lN (r_1))+(lN (s_1)))).toNat) (0:Int)) 0 ((zK ((lN (r_1))+(lN (s_1)))).toNat) r_1) ((r_1).length) ((zK ((lN (r_1))+(lN (s_1)))).toNat) s_1)).length)) an) ?_
 refine rt ?_
 cases h
 exact ⟨.inr rfl,Nat.le_of_ble_eq_true rfl,by kernel_rfl⟩
theorem zEN (F:Nat) (l_1:List (Int)) (r:(List (Int))) (h:pD F l_1=some r):zM prog 32 [] [] [.nilsl,.sl false 1 (Mi l_1)] [.row 5 1 (Mb r)] (.own 0 ((r).length)):=by
 refine zS (fn:=Go.Proofs.Try.f32) (code:=z6 Go.Proofs.Try.f32) (by kernel_rfl) (by kernel_rfl) (Nat.le_of_ble_eq_true (by kernel_rfl)) ?_
 unfold pD at h
 refine sr [(0,{ id:=0,m:=1 })] [0,1] [] 1 [.nilsl,.sl false 1 (Mi l_1)] [] zD an ?_
 refine sq ?_
 refine sr [(1,{ n:=(l_1).length })] [0,7,8,9] [] 1 [.nilsl,.sl false 1 (Mi l_1),Ii (lN (l_1)),Ii 0] [] zD (ac (zY _:((Mi l_1)).length=(l_1).length) an) ?_
 obtain ⟨o_1,h_1,h⟩:=bind_some h
 refine zX (mk [(0,.own 0 ((o_1).length))] [(0,Rb 5 1 (Mb o_1))] 1) ?_ ?_
 ·replace h:=h_1
  refine zT (id:=0) (by kernel_rfl) ?_
  refine zAy (zF3 0 none 1 5 1 (by kernel_rfl)) ?_
  refine wk [1] [] [.s 0,.s 7,.s 8,.s 9] [.s 0] [(0,.own 0 0),(7,.sl false 1 (Mi l_1)),(8,Ii (lN (l_1))),(9,Ii 0)] [(0,Rb 5 1 [])] an ?_
  refine yF (fun n st=>∃ (v_1:Int),∃ (row_1:List Int),st=mk [(0,.own 0 ((row_1).length)),(7,.sl false 1 (Mi l_1)),(8,Ii (lN (l_1))),(9,Ii v_1)] [(0,Rb 5 1 (Mb row_1))] 1∧tT F l_1 n v_1 row_1=some o_1) F (by kernel_rfl) ⟨_,_,rfl,h⟩ ?_ ?_
  ·rintro _ ⟨_,_,_,h⟩;exact yM (h:(none:Option (List Int))=some o_1)
  rintro n_1 _ ⟨v_1,row_1,rfl,h⟩
  replace h:uX F l_1 (tT F l_1 n_1) v_1 row_1=some o_1:=h
  unfold uX at h
  refine sr [] [0,7,8,9,10] [0] 1 [.own 0 ((row_1).length),.sl false 1 (Mi l_1),Ii (lN (l_1)),Ii v_1,.bool (decide (v_1<(lN (l_1))))] [Rb 5 1 (Mb row_1)] zD an ?_
  refine sq ?_
  refine cd 10 (decide (v_1<(lN (l_1)))) ?_ ?_
  rotate_left
  ·intro g_1;replace h:=zO g_1 h
   refine yL (id:=0) (by kernel_rfl) ?_
   cases h
   exact ⟨rfl,(sw [0] [] [.s 0] [.s 0] an)⟩
  intro g_1;replace h:=zN g_1 h
  refine sk ?_
  refine sq ?_
  refine zT (id:=1) (by kernel_rfl) ?_
  refine sq ?_
  obtain ⟨x_1,h_2,h⟩:=bind_some h
  refine rg [(0,{ av:=Ii x_1 })] [0,6,7,8,9] [0] 1 [.own 0 ((row_1).length),Ii x_1,.sl false 1 (Mi l_1),Ii (lN (l_1)),Ii v_1] [Rb 5 1 (Mb row_1)] zD (ac (yO h_2:xD (Mi l_1) v_1=some (Ii x_1)) an) ?_
  obtain ⟨r_1,h_3,h⟩:=bind_some h
  refine rg [(2,{ av:=.own 0 ((r_1).length),frz:=[0],ids:=[1],l:=[.sl false 1 (Mb row_1),Ii x_1],post:=[(.row 5 1 (Mb r_1))] })] [0,7,8,9] [1] 2 [.own 1 ((r_1).length),.sl false 1 (Mi l_1),Ii (lN (l_1)),Ii v_1] [Rb 5 1 (Mb r_1)] zD (ac (by first | (simp;done) | (simp;omega):(row_1).length=((List.map (AV.int .u8) row_1)).length) (ar ([.sl false 1 (Mb row_1),Ii x_1]:List AV) (ac (rfl:([]:List zP)=[]) (ac (vQ F row_1 x_1 r_1 h_3:zM prog 52 [] [] [.sl false 1 (Mb row_1),Ii x_1] [(.row 5 1 (Mb r_1))] (.own 0 ((r_1).length))) an)))) ?_
  refine rg [] [0,7,8,9] [1] 2 [.own 1 ((r_1).length),.sl false 1 (Mi l_1),Ii (lN (l_1)),Ii (zK (v_1+(1:Int)))] [Rb 5 1 (Mb r_1)] zD an ?_
  exact ⟨_,(sw [1] [] [.s 0,.s 7,.s 8,.s 9] [.s 0] an),_,_,rfl,h⟩
 refine sr [] [4] [0] 1 [.own 0 ((o_1).length)] [Rb 5 1 (Mb o_1)] zD an ?_
 refine wk [0] [] [.s 4] [.s 0] [(4,.own 0 ((o_1).length))] [(0,Rb 5 1 (Mb o_1))] an ?_
 refine rt ?_
 cases h
 exact ⟨.inr rfl,Nat.le_of_ble_eq_true rfl,by kernel_rfl⟩
theorem zAq (F:Nat) (b_1:List (Int)) (l_1:List (Int)) (r:(List (Int))) (h:t9 F b_1 l_1=some r):zM prog 32 [] [(.row 5 1 (Mb b_1))] [.own 0 ((b_1).length),.sl false 1 (Mi l_1)] [.row 5 1 (Mb r)] (.own 0 ((r).length)):=by
 refine zDT (fn:=Go.Proofs.Try.f32) (code:=z6 Go.Proofs.Try.f32) (by kernel_rfl) (by kernel_rfl) (Nat.le_of_ble_eq_true (by kernel_rfl)) ?_
 unfold t9 at h
 refine sr [(0,{ id:=1,m:=1 })] [0,1] [0] 2 [.own 0 ((b_1).length),.sl false 1 (Mi l_1)] [Rb 5 1 (Mb b_1)] zD an ?_
 refine sq ?_
 refine sr [(1,{ n:=(l_1).length })] [0,7,8,9] [0] 2 [.own 0 ((b_1).length),.sl false 1 (Mi l_1),Ii (lN (l_1)),Ii 0] [Rb 5 1 (Mb b_1)] zD (ac (zY _:((Mi l_1)).length=(l_1).length) an) ?_
 obtain ⟨o_1,h_1,h⟩:=bind_some h
 refine zX (mk [(0,.own 0 ((o_1).length))] [(0,Rb 5 1 (Mb o_1))] 1) ?_ ?_
 ·replace h:=h_1
  refine zT (id:=0) (by kernel_rfl) ?_
  refine wk [0] [] [.s 0,.s 7,.s 8,.s 9] [.s 0] [(0,.own 0 ((b_1).length)),(7,.sl false 1 (Mi l_1)),(8,Ii (lN (l_1))),(9,Ii 0)] [(0,Rb 5 1 (Mb b_1))] an ?_
  refine yF (fun n st=>∃ (v_1:Int),∃ (row_1:List Int),st=mk [(0,.own 0 ((row_1).length)),(7,.sl false 1 (Mi l_1)),(8,Ii (lN (l_1))),(9,Ii v_1)] [(0,Rb 5 1 (Mb row_1))] 1∧tW F l_1 n v_1 row_1=some o_1) F (by kernel_rfl) ⟨_,_,rfl,h⟩ ?_ ?_
  ·rintro _ ⟨_,_,_,h⟩;exact yM (h:(none:Option (List Int))=some o_1)
  rintro n_1 _ ⟨v_1,row_1,rfl,h⟩
  replace h:uY F l_1 (tW F l_1 n_1) v_1 row_1=some o_1:=h
  unfold uY at h
  refine sr [] [0,7,8,9,10] [0] 1 [.own 0 ((row_1).length),.sl false 1 (Mi l_1),Ii (lN (l_1)),Ii v_1,.bool (decide (v_1<(lN (l_1))))] [Rb 5 1 (Mb row_1)] zD an ?_
  refine sq ?_
  refine cd 10 (decide (v_1<(lN (l_1)))) ?_ ?_
  rotate_left
  ·intro g_1;replace h:=zO g_1 h
   refine yL (id:=0) (by kernel_rfl) ?_
   cases h
   exact ⟨rfl,(sw [0] [] [.s 0] [.s 0] an)⟩
  intro g_1;replace h:=zN g_1 h
  refine sk ?_
  refine sq ?_
  refine zT (id:=1) (by kernel_rfl) ?_
  refine sq ?_
  obtain ⟨x_1,h_2,h⟩:=bind_some h
  refine rg [(0,{ av:=Ii x_1 })] [0,6,7,8,9] [0] 1 [.own 0 ((row_1).length),Ii x_1,.sl false 1 (Mi l_1),Ii (lN (l_1)),Ii v_1] [Rb 5 1 (Mb row_1)] zD (ac (yO h_2:xD (Mi l_1) v_1=some (Ii x_1)) an) ?_
  obtain ⟨r_1,h_3,h⟩:=bind_some h
  refine rg [(2,{ av:=.own 0 ((r_1).length),frz:=[0],ids:=[1],l:=[.sl false 1 (Mb row_1),Ii x_1],post:=[(.row 5 1 (Mb r_1))] })] [0,7,8,9] [1] 2 [.own 1 ((r_1).length),.sl false 1 (Mi l_1),Ii (lN (l_1)),Ii v_1] [Rb 5 1 (Mb r_1)] zD (ac (by first | (simp;done) | (simp;omega):(row_1).length=((List.map (AV.int .u8) row_1)).length) (ar ([.sl false 1 (Mb row_1),Ii x_1]:List AV) (ac (rfl:([]:List zP)=[]) (ac (vQ F row_1 x_1 r_1 h_3:zM prog 52 [] [] [.sl false 1 (Mb row_1),Ii x_1] [(.row 5 1 (Mb r_1))] (.own 0 ((r_1).length))) an)))) ?_
  refine rg [] [0,7,8,9] [1] 2 [.own 1 ((r_1).length),.sl false 1 (Mi l_1),Ii (lN (l_1)),Ii (zK (v_1+(1:Int)))] [Rb 5 1 (Mb r_1)] zD an ?_
  exact ⟨_,(sw [1] [] [.s 0,.s 7,.s 8,.s 9] [.s 0] an),_,_,rfl,h⟩
 refine sr [] [4] [0] 1 [.own 0 ((o_1).length)] [Rb 5 1 (Mb o_1)] zD an ?_
 refine wk [0] [] [.s 4] [.s 0] [(4,.own 0 ((o_1).length))] [(0,Rb 5 1 (Mb o_1))] an ?_
 refine rt ?_
 cases h
 exact ⟨.inr rfl,Nat.le_of_ble_eq_true rfl,by kernel_rfl⟩
end Go.Ab
