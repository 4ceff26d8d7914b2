/- Printed: the typed Lean functions of the Go functions, or the proofs that the Go functions meet them. No conditions but those that the theorems name. -/
import Derived.Test.YtdpgdpjoemdkjaaP10xD
import Derived.Test.YtdpgdpjoemdkjaaProg
namespace Go.Ab
open Go
set_option linter.unusedVariables false
noncomputable abbrev prog:=Go.Proofs.Try.prog
theorem zE:prog.follows .mixedOrders=true:=by kernel_rfl
theorem zLW:zD7 prog 101:=⟨_,Go.Proofs.Try.func101,by kernel_rfl,by kernel_rfl,by kernel_rfl,by kernel_rfl⟩
theorem zIn:tY prog 9 false [.str]:=zJR (by kernel_rfl)
theorem zD2:tY prog 84 true [.int .i64,.int .i64]:=zFQ (by kernel_rfl) (by kernel_rfl) (by kernel_rfl) (by kernel_rfl)
theorem pY:∀ a b:zI,zD a=zD b→a=b:=by
  intro a b h
  cases a;cases b;simpa [zD,zEP] using h
theorem zIw:pE prog 84 [.int .i64,.int .i64]:=zHC zD2 (by kernel_rfl) (by kernel_rfl)
theorem zKz:tY prog 23 true [.int .i64,.str,.int .i64]:=zFQ (by kernel_rfl) (by kernel_rfl) (by kernel_rfl) (by kernel_rfl)
theorem tG:∀ a b:zC,zW a=zW b→a=b:=by
  intro a b h
  cases a;cases b;simpa [zW,z8] using h
theorem zBL:pE prog 23 [.int .i64,.str,.int .i64]:=zHC zKz (by kernel_rfl) (by kernel_rfl)
theorem zA9 (s_1:List Int) (c_1:Int) (r:Int) (h:uL s_1 c_1=some r):zN prog 95 [] [] [.str s_1,Iu c_1] [] (Ii r):=by
 refine zV (fn:=Go.Proofs.Try.f95) (code:=yG Go.Proofs.Try.f95) (by kernel_rfl) (by kernel_rfl) (Nat.le_of_ble_eq_true (by kernel_rfl)) ?_
 unfold uL at h
 refine sr [] [0,1] [] 0 [.str s_1,Iu c_1] [] zE an ?_
 refine sr [] [4] [] 0 [Ii (wN s_1 c_1)] [] zE (ac (zLW:zD7 prog 101) an) ?_
 refine rt ?_
 cases h
 exact ⟨.inr rfl,Nat.le_of_ble_eq_true rfl,by kernel_rfl⟩
theorem xL (s_1:List Int) (c_1:Int) (r:Int) (h:xB s_1 c_1=some r):zN prog 76 [] [] [.str s_1,Iu c_1] [] (Ii r):=by
 refine zV (fn:=Go.Proofs.Try.f76) (code:=yG Go.Proofs.Try.f76) (by kernel_rfl) (by kernel_rfl) (Nat.le_of_ble_eq_true (by kernel_rfl)) ?_
 unfold xB at h
 refine sr [] [0,1] [] 0 [.str s_1,Iu c_1] [] zE an ?_
 refine sq ?_
 obtain ⟨r_1,h_1,h⟩:=bind_some h
 refine rg [(2,{ av:=Ii r_1,l:=[.str s_1,Iu c_1] })] [4] [] 0 [Ii r_1] [] zE (ar ([.str s_1,Iu c_1]:List AV) (ac (rfl:([]:List zP)=[]) (ac (zA9 s_1 c_1 r_1 h_1:zN prog 95 [] [] [.str s_1,Iu c_1] [] (Ii r_1)) an))) ?_
 refine rt ?_
 cases h
 exact ⟨.inr rfl,Nat.le_of_ble_eq_true rfl,by kernel_rfl⟩
theorem zDP (c_1:Int) (r:Bool) (h:jJ c_1=some r):zN prog 46 [] [] [Iu c_1] [] (.bool r):=by
 refine zV (fn:=Go.Proofs.Try.f46) (code:=yG Go.Proofs.Try.f46) (by kernel_rfl) (by kernel_rfl) (Nat.le_of_ble_eq_true (by kernel_rfl)) ?_
 unfold jJ at h
 refine sr [] [0] [] 0 [Iu c_1] [] zE an ?_
 refine sq ?_
 obtain ⟨p_1,h_2,h⟩:=bind_some h
 refine yB (mk [(2,.bool p_1)] [] 0) ?_ ?_
 ·replace h:=h_2
  rcases bft (decide (c_1≥(97:Int))) with gg_1 | gg_1
  ·replace h:=zS gg_1 h
   rcases bft (decide (c_1≤(122:Int))) with gg_2 | gg_2
   ·replace h:=zS gg_2 h
    refine rg [(5,Ht),(7,Hg),(8,Hg),(9,Hg),(12,Hg),(13,Ht),(15,Hg),(16,Hg),(17,Hg),(20,Hg),(21,Ht),(23,Hg),(24,Hg),(25,Hg),(26,Ht)] [2] [] 0 [.bool true] [] zE (ac gg_1 (ac gg_1 (ac gg_1 (ac gg_2 (ac gg_2 (ac gg_2 (ac gg_2 (ac gg_2 (ax (ax (ax (ax (ar true (ax (ax (ax (ar true an))))))))))))))))) ?_
    cases h
    exact ⟨rfl,(sw [] [] [.s 2] [] an)⟩
   ·replace h:=zR gg_2 h
    rcases bft (decide (c_1≥(65:Int))) with gg_3 | gg_3
    ·replace h:=zS gg_3 h
     rcases bft (decide (c_1≤(90:Int))) with gg_4 | gg_4
     ·replace h:=zS gg_4 h
      refine rg [(5,Ht),(12,Ht),(13,Hf),(15,Hg),(16,Hg),(17,Hg),(20,Hg),(21,Ht),(23,Hg),(24,Hg),(25,Hg),(26,Ht)] [2] [] 0 [.bool true] [] zE (ac gg_1 (ac gg_1 (ac gg_1 (ac gg_2 (ac gg_2 (ac gg_2 (ac gg_3 (ac gg_3 (ac gg_2 (ac gg_3 (ac gg_2 (ac gg_4 (ac gg_4 (ac gg_4 (ac gg_4 (ac gg_4 (ax (ax (ax (ar true an)))))))))))))))))))) ?_
      cases h
      exact ⟨rfl,(sw [] [] [.s 2] [] an)⟩
     ·replace h:=zR gg_4 h
      rcases bft (decide (c_1≥(48:Int))) with gg_5 | gg_5
      ·replace h:=zS gg_5 h
       rcases bft (decide (c_1≤(57:Int))) with gg_6 | gg_6
       ·replace h:=zS gg_6 h
        refine rg [(5,Ht),(12,Ht),(13,Hf),(20,Ht),(21,Hf),(23,Hg),(24,Hg),(25,Hg),(26,Ht)] [2] [] 0 [.bool true] [] zE (ac gg_1 (ac gg_1 (ac gg_1 (ac gg_2 (ac gg_2 (ac gg_2 (ac gg_3 (ac gg_3 (ac gg_2 (ac gg_3 (ac gg_2 (ac gg_4 (ac gg_4 (ac gg_4 (ac gg_5 (ac gg_5 (ac gg_4 (ac gg_5 (ac gg_4 (ac gg_6 (ac gg_6 (ac gg_6 (ac gg_6 an))))))))))))))))))))))) ?_
        cases h
        exact ⟨rfl,(sw [] [] [.s 2] [] an)⟩
       ·replace h:=zR gg_6 h
        obtain ⟨r_1,h_1,h⟩:=bind_some h
        refine rg [(5,Ht),(12,Ht),(13,Hf),(20,Ht),(21,Hf),(24,{ av:=Ii r_1,l:=[.str ([95,46,58,47,60,62,36,42,126,45]:List Int),Iu c_1] }),(26,Hf)] [2] [] 0 [.bool (decide (r_1≥(0:Int)))] [] zE (ac gg_1 (ac gg_1 (ac gg_1 (ac gg_2 (ac gg_2 (ac gg_2 (ac gg_3 (ac gg_3 (ac gg_2 (ac gg_3 (ac gg_2 (ac gg_4 (ac gg_4 (ac gg_4 (ac gg_5 (ac gg_5 (ac gg_4 (ac gg_5 (ac gg_4 (ac gg_6 (ac gg_6 (ar ([.str ([95,46,58,47,60,62,36,42,126,45]:List Int),Iu c_1]:List AV) (ac (rfl:([]:List zP)=[]) (ac (xL ([95,46,58,47,60,62,36,42,126,45]:List Int) c_1 r_1 h_1:zN prog 76 [] [] [.str ([95,46,58,47,60,62,36,42,126,45]:List Int),Iu c_1] [] (Ii r_1)) (ac gg_6 (ac gg_6 an)))))))))))))))))))))))))) ?_
        cases h
        exact ⟨rfl,(sw [] [] [.s 2] [] an)⟩
      ·replace h:=zR gg_5 h
       obtain ⟨r_1,h_1,h⟩:=bind_some h
       refine rg [(5,Ht),(12,Ht),(13,Hf),(18,Hg),(19,Hg),(20,Hf),(21,Hf),(24,{ av:=Ii r_1,l:=[.str ([95,46,58,47,60,62,36,42,126,45]:List Int),Iu c_1] }),(26,Hf)] [2] [] 0 [.bool (decide (r_1≥(0:Int)))] [] zE (ac gg_1 (ac gg_1 (ac gg_1 (ac gg_2 (ac gg_2 (ac gg_2 (ac gg_3 (ac gg_3 (ac gg_2 (ac gg_3 (ac gg_2 (ac gg_4 (ac gg_4 (ac gg_4 (ac gg_5 (ac gg_5 (ac gg_4 (ac gg_5 (ac gg_4 (ar false (ar false (ar ([.str ([95,46,58,47,60,62,36,42,126,45]:List Int),Iu c_1]:List AV) (ac (rfl:([]:List zP)=[]) (ac (xL ([95,46,58,47,60,62,36,42,126,45]:List Int) c_1 r_1 h_1:zN prog 76 [] [] [.str ([95,46,58,47,60,62,36,42,126,45]:List Int),Iu c_1] [] (Ii r_1)) (ar false (ar false an)))))))))))))))))))))))))) ?_
       cases h
       exact ⟨rfl,(sw [] [] [.s 2] [] an)⟩
    ·replace h:=zR gg_3 h
     rcases bft (decide (c_1≥(48:Int))) with gg_7 | gg_7
     ·replace h:=zS gg_7 h
      rcases bft (decide (c_1≤(57:Int))) with gg_8 | gg_8
      ·replace h:=zS gg_8 h
       refine rg [(5,Ht),(10,Hg),(11,Hg),(12,Hf),(13,Hf),(20,Ht),(21,Hf),(23,Hg),(24,Hg),(25,Hg),(26,Ht)] [2] [] 0 [.bool true] [] zE (ac gg_1 (ac gg_1 (ac gg_1 (ac gg_2 (ac gg_2 (ac gg_2 (ac gg_3 (ac gg_3 (ac gg_2 (ac gg_3 (ac gg_2 (ar false (ar false (ar false (ac gg_7 (ac gg_7 (ar false (ac gg_7 (ar false (ac gg_8 (ac gg_8 (ac gg_8 (ac gg_8 an))))))))))))))))))))))) ?_
       cases h
       exact ⟨rfl,(sw [] [] [.s 2] [] an)⟩
      ·replace h:=zR gg_8 h
       obtain ⟨r_1,h_1,h⟩:=bind_some h
       refine rg [(5,Ht),(10,Hg),(11,Hg),(12,Hf),(13,Hf),(20,Ht),(21,Hf),(24,{ av:=Ii r_1,l:=[.str ([95,46,58,47,60,62,36,42,126,45]:List Int),Iu c_1] }),(26,Hf)] [2] [] 0 [.bool (decide (r_1≥(0:Int)))] [] zE (ac gg_1 (ac gg_1 (ac gg_1 (ac gg_2 (ac gg_2 (ac gg_2 (ac gg_3 (ac gg_3 (ac gg_2 (ac gg_3 (ac gg_2 (ar false (ar false (ar false (ac gg_7 (ac gg_7 (ar false (ac gg_7 (ar false (ac gg_8 (ac gg_8 (ar ([.str ([95,46,58,47,60,62,36,42,126,45]:List Int),Iu c_1]:List AV) (ac (rfl:([]:List zP)=[]) (ac (xL ([95,46,58,47,60,62,36,42,126,45]:List Int) c_1 r_1 h_1:zN prog 76 [] [] [.str ([95,46,58,47,60,62,36,42,126,45]:List Int),Iu c_1] [] (Ii r_1)) (ac gg_8 (ac gg_8 an)))))))))))))))))))))))))) ?_
       cases h
       exact ⟨rfl,(sw [] [] [.s 2] [] an)⟩
     ·replace h:=zR gg_7 h
      obtain ⟨r_1,h_1,h⟩:=bind_some h
      refine rg [(5,Ht),(10,Hg),(11,Hg),(12,Hf),(13,Hf),(18,Hg),(19,Hg),(20,Hf),(21,Hf),(24,{ av:=Ii r_1,l:=[.str ([95,46,58,47,60,62,36,42,126,45]:List Int),Iu c_1] }),(26,Hf)] [2] [] 0 [.bool (decide (r_1≥(0:Int)))] [] zE (ac gg_1 (ac gg_1 (ac gg_1 (ac gg_2 (ac gg_2 (ac gg_2 (ac gg_3 (ac gg_3 (ac gg_2 (ac gg_3 (ac gg_2 (ar false (ar false (ar false (ac gg_7 (ac gg_7 (ar false (ac gg_7 (ar false (ar false (ar false (ar ([.str ([95,46,58,47,60,62,36,42,126,45]:List Int),Iu c_1]:List AV) (ac (rfl:([]:List zP)=[]) (ac (xL ([95,46,58,47,60,62,36,42,126,45]:List Int) c_1 r_1 h_1:zN prog 76 [] [] [.str ([95,46,58,47,60,62,36,42,126,45]:List Int),Iu c_1] [] (Ii r_1)) (ar false (ar false an)))))))))))))))))))))))))) ?_
      cases h
      exact ⟨rfl,(sw [] [] [.s 2] [] an)⟩
  ·replace h:=zR gg_1 h
   rcases bft (decide (c_1≥(65:Int))) with gg_9 | gg_9
   ·replace h:=zS gg_9 h
    rcases bft (decide (c_1≤(90:Int))) with gg_10 | gg_10
    ·replace h:=zS gg_10 h
     refine rg [(3,Hg),(4,Hg),(5,Hf),(12,Ht),(13,Hf),(15,Hg),(16,Hg),(17,Hg),(20,Hg),(21,Ht),(23,Hg),(24,Hg),(25,Hg),(26,Ht)] [2] [] 0 [.bool true] [] zE (ac gg_1 (ac gg_1 (ac gg_1 (ar false (ar false (ar false (ac gg_9 (ac gg_9 (ar false (ac gg_9 (ar false (ac gg_10 (ac gg_10 (ac gg_10 (ac gg_10 (ac gg_10 (ax (ax (ax (ar true an)))))))))))))))))))) ?_
     cases h
     exact ⟨rfl,(sw [] [] [.s 2] [] an)⟩
    ·replace h:=zR gg_10 h
     rcases bft (decide (c_1≥(48:Int))) with gg_11 | gg_11
     ·replace h:=zS gg_11 h
      rcases bft (decide (c_1≤(57:Int))) with gg_12 | gg_12
      ·replace h:=zS gg_12 h
       refine rg [(3,Hg),(4,Hg),(5,Hf),(12,Ht),(13,Hf),(20,Ht),(21,Hf),(23,Hg),(24,Hg),(25,Hg),(26,Ht)] [2] [] 0 [.bool true] [] zE (ac gg_1 (ac gg_1 (ac gg_1 (ar false (ar false (ar false (ac gg_9 (ac gg_9 (ar false (ac gg_9 (ar false (ac gg_10 (ac gg_10 (ac gg_10 (ac gg_11 (ac gg_11 (ac gg_10 (ac gg_11 (ac gg_10 (ac gg_12 (ac gg_12 (ac gg_12 (ac gg_12 an))))))))))))))))))))))) ?_
       cases h
       exact ⟨rfl,(sw [] [] [.s 2] [] an)⟩
      ·replace h:=zR gg_12 h
       obtain ⟨r_1,h_1,h⟩:=bind_some h
       refine rg [(3,Hg),(4,Hg),(5,Hf),(12,Ht),(13,Hf),(20,Ht),(21,Hf),(24,{ av:=Ii r_1,l:=[.str ([95,46,58,47,60,62,36,42,126,45]:List Int),Iu c_1] }),(26,Hf)] [2] [] 0 [.bool (decide (r_1≥(0:Int)))] [] zE (ac gg_1 (ac gg_1 (ac gg_1 (ar false (ar false (ar false (ac gg_9 (ac gg_9 (ar false (ac gg_9 (ar false (ac gg_10 (ac gg_10 (ac gg_10 (ac gg_11 (ac gg_11 (ac gg_10 (ac gg_11 (ac gg_10 (ac gg_12 (ac gg_12 (ar ([.str ([95,46,58,47,60,62,36,42,126,45]:List Int),Iu c_1]:List AV) (ac (rfl:([]:List zP)=[]) (ac (xL ([95,46,58,47,60,62,36,42,126,45]:List Int) c_1 r_1 h_1:zN prog 76 [] [] [.str ([95,46,58,47,60,62,36,42,126,45]:List Int),Iu c_1] [] (Ii r_1)) (ac gg_12 (ac gg_12 an)))))))))))))))))))))))))) ?_
       cases h
       exact ⟨rfl,(sw [] [] [.s 2] [] an)⟩
     ·replace h:=zR gg_11 h
      obtain ⟨r_1,h_1,h⟩:=bind_some h
      refine rg [(3,Hg),(4,Hg),(5,Hf),(12,Ht),(13,Hf),(18,Hg),(19,Hg),(20,Hf),(21,Hf),(24,{ av:=Ii r_1,l:=[.str ([95,46,58,47,60,62,36,42,126,45]:List Int),Iu c_1] }),(26,Hf)] [2] [] 0 [.bool (decide (r_1≥(0:Int)))] [] zE (ac gg_1 (ac gg_1 (ac gg_1 (ar false (ar false (ar false (ac gg_9 (ac gg_9 (ar false (ac gg_9 (ar false (ac gg_10 (ac gg_10 (ac gg_10 (ac gg_11 (ac gg_11 (ac gg_10 (ac gg_11 (ac gg_10 (ar false (ar false (ar ([.str ([95,46,58,47,60,62,36,42,126,45]:List Int),Iu c_1]:List AV) (ac (rfl:([]:List zP)=[]) (ac (xL ([95,46,58,47,60,62,36,42,126,45]:List Int) c_1 r_1 h_1:zN prog 76 [] [] [.str ([95,46,58,47,60,62,36,42,126,45]:List Int),Iu c_1] [] (Ii r_1)) (ar false (ar false an)))))))))))))))))))))))))) ?_
      cases h
      exact ⟨rfl,(sw [] [] [.s 2] [] an)⟩
   ·replace h:=zR gg_9 h
    rcases bft (decide (c_1≥(48:Int))) with gg_13 | gg_13
    ·replace h:=zS gg_13 h
     rcases bft (decide (c_1≤(57:Int))) with gg_14 | gg_14
     ·replace h:=zS gg_14 h
      refine rg [(3,Hg),(4,Hg),(5,Hf),(10,Hg),(11,Hg),(12,Hf),(13,Hf),(20,Ht),(21,Hf),(23,Hg),(24,Hg),(25,Hg),(26,Ht)] [2] [] 0 [.bool true] [] zE (ac gg_1 (ac gg_1 (ac gg_1 (ar false (ar false (ar false (ac gg_9 (ac gg_9 (ar false (ac gg_9 (ar false (ar false (ar false (ar false (ac gg_13 (ac gg_13 (ar false (ac gg_13 (ar false (ac gg_14 (ac gg_14 (ac gg_14 (ac gg_14 an))))))))))))))))))))))) ?_
      cases h
      exact ⟨rfl,(sw [] [] [.s 2] [] an)⟩
     ·replace h:=zR gg_14 h
      obtain ⟨r_1,h_1,h⟩:=bind_some h
      refine rg [(3,Hg),(4,Hg),(5,Hf),(10,Hg),(11,Hg),(12,Hf),(13,Hf),(20,Ht),(21,Hf),(24,{ av:=Ii r_1,l:=[.str ([95,46,58,47,60,62,36,42,126,45]:List Int),Iu c_1] }),(26,Hf)] [2] [] 0 [.bool (decide (r_1≥(0:Int)))] [] zE (ac gg_1 (ac gg_1 (ac gg_1 (ar false (ar false (ar false (ac gg_9 (ac gg_9 (ar false (ac gg_9 (ar false (ar false (ar false (ar false (ac gg_13 (ac gg_13 (ar false (ac gg_13 (ar false (ac gg_14 (ac gg_14 (ar ([.str ([95,46,58,47,60,62,36,42,126,45]:List Int),Iu c_1]:List AV) (ac (rfl:([]:List zP)=[]) (ac (xL ([95,46,58,47,60,62,36,42,126,45]:List Int) c_1 r_1 h_1:zN prog 76 [] [] [.str ([95,46,58,47,60,62,36,42,126,45]:List Int),Iu c_1] [] (Ii r_1)) (ac gg_14 (ac gg_14 an)))))))))))))))))))))))))) ?_
      cases h
      exact ⟨rfl,(sw [] [] [.s 2] [] an)⟩
    ·replace h:=zR gg_13 h
     obtain ⟨r_1,h_1,h⟩:=bind_some h
     refine rg [(3,Hg),(4,Hg),(5,Hf),(10,Hg),(11,Hg),(12,Hf),(13,Hf),(18,Hg),(19,Hg),(20,Hf),(21,Hf),(24,{ av:=Ii r_1,l:=[.str ([95,46,58,47,60,62,36,42,126,45]:List Int),Iu c_1] }),(26,Hf)] [2] [] 0 [.bool (decide (r_1≥(0:Int)))] [] zE (ac gg_1 (ac gg_1 (ac gg_1 (ar false (ar false (ar false (ac gg_9 (ac gg_9 (ar false (ac gg_9 (ar false (ar false (ar false (ar false (ac gg_13 (ac gg_13 (ar false (ac gg_13 (ar false (ar false (ar false (ar ([.str ([95,46,58,47,60,62,36,42,126,45]:List Int),Iu c_1]:List AV) (ac (rfl:([]:List zP)=[]) (ac (xL ([95,46,58,47,60,62,36,42,126,45]:List Int) c_1 r_1 h_1:zN prog 76 [] [] [.str ([95,46,58,47,60,62,36,42,126,45]:List Int),Iu c_1] [] (Ii r_1)) (ar false (ar false an)))))))))))))))))))))))))) ?_
     cases h
     exact ⟨rfl,(sw [] [] [.s 2] [] an)⟩
 refine rt ?_
 cases h
 exact ⟨.inr rfl,Nat.le_of_ble_eq_true rfl,by kernel_rfl⟩
theorem qS (F:Nat) (s_1:List Int) (r:Int) (h:v8 F s_1=some r):zN prog 29 [] [] [.str s_1] [] (Ii r):=by
 refine zV (fn:=Go.Proofs.Try.f29) (code:=yG Go.Proofs.Try.f29) (by kernel_rfl) (by kernel_rfl) (Nat.le_of_ble_eq_true (by kernel_rfl)) ?_
 unfold v8 at h
 refine sr [] [0] [] 0 [.str s_1] [] zE an ?_
 refine sq ?_
 refine sq ?_
 refine yB (mk [(0,.str s_1),(10,.bool ((s_1==([]:List Int))||decide ((lN (s_1))>(40:Int))))] [] 0) ?_ ?_
 ·rcases bft (s_1==([]:List Int)) with gg_1 | gg_1
  ·refine rg [(3,Hg),(4,Hg),(5,Hg),(6,Ht)] [0,10] [] 0 [.str s_1,.bool true] [] zE (ac gg_1 (ac gg_1 (ac gg_1 (ac gg_1 an)))) ?_
   exact ⟨rfl,(sw [] [] [.s 0,.a 10 (.bool ((s_1==([]:List Int))||decide ((lN (s_1))>(40:Int))))] [] (ac (congrArg AV.bool (ort gg_1):(.bool true:AV)=.bool ((s_1==([]:List Int))||decide ((lN (s_1))>(40:Int)))) an))⟩
  ·refine rg [(6,Hf)] [0,10] [] 0 [.str s_1,.bool (decide ((lN (s_1))>(40:Int)))] [] zE (ac gg_1 (ac gg_1 (ac gg_1 (ac gg_1 an)))) ?_
   exact ⟨rfl,(sw [] [] [.s 0,.a 10 (.bool ((s_1==([]:List Int))||decide ((lN (s_1))>(40:Int))))] [] (ac (congrArg AV.bool (orf gg_1 rfl):(.bool (decide ((lN (s_1))>(40:Int))):AV)=.bool ((s_1==([]:List Int))||decide ((lN (s_1))>(40:Int)))) an))⟩
 refine cd 10 ((s_1==([]:List Int))||decide ((lN (s_1))>(40:Int))) ?_ ?_
 ·intro g_1;replace h:=zS g_1 h
  refine sr [] [2] [] 0 [Ii 3] [] zE an ?_
  refine rt ?_
  cases h
  exact ⟨.inr rfl,Nat.le_of_ble_eq_true rfl,by kernel_rfl⟩
 intro g_1;replace h:=zR g_1 h
 refine sk ?_
 refine sq ?_
 refine sr [] [0,12,13] [] 0 [.str s_1,Ii (lN (s_1)),Ii 0] [] zE an ?_
 obtain ⟨o_1,h_1,h⟩:=bind_some h
 refine xS (K1:=(fun e st'=>match o_1 with | (.inl q0)=>e=.normal∧Sub 0 st' (mk [] [] 0) | (.inr q1)=>e=.ret∧tO prog Go.Proofs.Try.f29 0 [] (Ii q1) st')) ?_ ?_
 ·replace h:=h_1
  refine z7 (id:=0) (by kernel_rfl) ?_
  refine wk [] [] [.s 0,.s 12,.s 13] [] [(0,.str s_1),(12,Ii (lN (s_1))),(13,Ii 0)] [] an ?_
  refine y9 (fun n st=>∃ (v_1:Int),st=mk [(0,.str s_1),(12,Ii (lN (s_1))),(13,Ii v_1)] [] 0∧qO F s_1 n v_1=some o_1) F (by kernel_rfl) ⟨_,rfl,h⟩ ?_ ?_
  ·rintro _ ⟨_,_,h⟩;exact xJ (h:(none:Option (Unit⊕Int))=some o_1)
  rintro n_1 _ ⟨v_1,rfl,h⟩
  replace h:vY F s_1 (qO F s_1 n_1) v_1=some o_1:=h
  unfold vY at h
  refine sr [] [0,12,13,14] [] 0 [.str s_1,Ii (lN (s_1)),Ii v_1,.bool (decide (v_1<(lN (s_1))))] [] zE an ?_
  refine sq ?_
  refine cd 14 (decide (v_1<(lN (s_1)))) ?_ ?_
  rotate_left
  ·intro g_2;replace h:=zR g_2 h
   refine xF (id:=0) (by kernel_rfl) ?_
   cases h
   exact ⟨rfl,(sw [] [] [] [] an)⟩
  intro g_2;replace h:=zS g_2 h
  refine sk ?_
  refine sq ?_
  refine z7 (id:=1) (by kernel_rfl) ?_
  refine sr [] [0,3,12,13] [] 0 [.str s_1,Ii v_1,Ii (lN (s_1)),Ii v_1] [] zE an ?_
  refine sq ?_
  obtain ⟨c_1,h_2,h⟩:=bind_some h
  obtain ⟨r_1,h_3,h⟩:=bind_some h
  refine rg [(2,{ z:=c_1 }),(3,{ av:=.bool r_1,l:=[Iu c_1] })] [0,12,13,20] [] 0 [.str s_1,Ii (lN (s_1)),Ii v_1,.bool (!r_1)] [] zE (ac h_2 (ar ([Iu c_1]:List AV) (ac (rfl:([]:List zP)=[]) (ac (zDP c_1 r_1 h_3:zN prog 46 [] [] [Iu c_1] [] (.bool r_1)) an)))) ?_
  refine cd 20 (!r_1) ?_ ?_
  rotate_left
  ·intro g_3;replace h:=zR g_3 h
   refine sk ?_
   refine rg [] [0,12,13] [] 0 [.str s_1,Ii (lN (s_1)),Ii (zG (v_1+(1:Int)))] [] zE an ?_
   exact ⟨_,(sw [] [] [.s 0,.s 12,.s 13] [] an),_,rfl,h⟩
  intro g_3;replace h:=zS g_3 h
  refine sr [] [2] [] 0 [Ii 3] [] zE an ?_
  refine rt ?_
  cases h
  exact ⟨rfl,Nat.le_of_ble_eq_true rfl,by kernel_rfl⟩
 intro e st1 hk
 rcases o_1 with q_1 | q_2
 rotate_left
 ·obtain ⟨rfl,hf⟩:=hk
  cases h
  exact ⟨st1,Sub.refl _ _,.inr rfl,hf⟩
 obtain ⟨rfl,hs⟩:=hk
 refine ⟨_,hs,?_⟩
 refine sr [] [2] [] 0 [Ii 0] [] zE an ?_
 refine rt ?_
 cases h
 exact ⟨.inr rfl,Nat.le_of_ble_eq_true rfl,by kernel_rfl⟩
theorem uA (F:Nat) (t_1:zC) (r:Int) (h:vJ F t_1=some r):zN prog 11 [] [] [zW t_1] [] (Ii r):=by
 refine zV (fn:=Go.Proofs.Try.f11) (code:=yG Go.Proofs.Try.f11) (by kernel_rfl) (by kernel_rfl) (Nat.le_of_ble_eq_true (by kernel_rfl)) ?_
 unfold vJ at h
 refine sr [(0,{ id:=0 })] [1] [0] 1 [Pp 0] [Vb 23 (z8 t_1)] zE an ?_
 refine sq ?_
 refine sq ?_
 refine yB (mk [(1,Pp 0),(20,.bool (decide (t_1.Id<(0:Int))||(decide (t_1.Id>(1000000000000000:Int))||(decide (t_1.Domain<(0:Int))||decide (t_1.Domain≥(8:Int))))))] [(0,Vb 23 (z8 t_1))] 1) ?_ ?_
 ·rcases bft (decide (t_1.Id<(0:Int))) with gg_1 | gg_1
  ·refine rg [(4,Hg),(5,Hg),(6,Hg),(7,Ht),(9,Hg),(10,Hg),(11,Hg),(12,Ht),(14,Hg),(15,Hg),(16,Hg),(17,Ht)] [1,20] [0] 1 [Pp 0,.bool true] [Vb 23 (z8 t_1)] zE (ac gg_1 (ac gg_1 (ac gg_1 (ac gg_1 (ax (ax (ax (ar true (ax (ax (ax (ar true an)))))))))))) ?_
   exact ⟨rfl,(sw [0] [] [.s 1,.a 20 (.bool (decide (t_1.Id<(0:Int))||(decide (t_1.Id>(1000000000000000:Int))||(decide (t_1.Domain<(0:Int))||decide (t_1.Domain≥(8:Int))))))] [.s 0] (ac (congrArg AV.bool (ort gg_1):(.bool true:AV)=.bool (decide (t_1.Id<(0:Int))||(decide (t_1.Id>(1000000000000000:Int))||(decide (t_1.Domain<(0:Int))||decide (t_1.Domain≥(8:Int)))))) an))⟩
  ·rcases bft (decide (t_1.Id>(1000000000000000:Int))) with gg_2 | gg_2
   ·refine rg [(7,Hf),(9,Hg),(10,Hg),(11,Hg),(12,Ht),(14,Hg),(15,Hg),(16,Hg),(17,Ht)] [1,20] [0] 1 [Pp 0,.bool true] [Vb 23 (z8 t_1)] zE (ac gg_1 (ac gg_1 (ac gg_1 (ac gg_1 (ac gg_2 (ac gg_2 (ac gg_2 (ac gg_2 (ax (ax (ax (ar true an)))))))))))) ?_
    exact ⟨rfl,(sw [0] [] [.s 1,.a 20 (.bool (decide (t_1.Id<(0:Int))||(decide (t_1.Id>(1000000000000000:Int))||(decide (t_1.Domain<(0:Int))||decide (t_1.Domain≥(8:Int))))))] [.s 0] (ac (congrArg AV.bool (orf gg_1 (ort gg_2)):(.bool true:AV)=.bool (decide (t_1.Id<(0:Int))||(decide (t_1.Id>(1000000000000000:Int))||(decide (t_1.Domain<(0:Int))||decide (t_1.Domain≥(8:Int)))))) an))⟩
   ·rcases bft (decide (t_1.Domain<(0:Int))) with gg_3 | gg_3
    ·refine rg [(7,Hf),(12,Hf),(14,Hg),(15,Hg),(16,Hg),(17,Ht)] [1,20] [0] 1 [Pp 0,.bool true] [Vb 23 (z8 t_1)] zE (ac gg_1 (ac gg_1 (ac gg_1 (ac gg_1 (ac gg_2 (ac gg_2 (ac gg_2 (ac gg_2 (ac gg_3 (ac gg_3 (ac gg_3 (ac gg_3 an)))))))))))) ?_
     exact ⟨rfl,(sw [0] [] [.s 1,.a 20 (.bool (decide (t_1.Id<(0:Int))||(decide (t_1.Id>(1000000000000000:Int))||(decide (t_1.Domain<(0:Int))||decide (t_1.Domain≥(8:Int))))))] [.s 0] (ac (congrArg AV.bool (orf gg_1 (orf gg_2 (ort gg_3))):(.bool true:AV)=.bool (decide (t_1.Id<(0:Int))||(decide (t_1.Id>(1000000000000000:Int))||(decide (t_1.Domain<(0:Int))||decide (t_1.Domain≥(8:Int)))))) an))⟩
    ·refine rg [(7,Hf),(12,Hf),(17,Hf)] [1,20] [0] 1 [Pp 0,.bool (decide (t_1.Domain≥(8:Int)))] [Vb 23 (z8 t_1)] zE (ac gg_1 (ac gg_1 (ac gg_1 (ac gg_1 (ac gg_2 (ac gg_2 (ac gg_2 (ac gg_2 (ac gg_3 (ac gg_3 (ac gg_3 (ac gg_3 an)))))))))))) ?_
     exact ⟨rfl,(sw [0] [] [.s 1,.a 20 (.bool (decide (t_1.Id<(0:Int))||(decide (t_1.Id>(1000000000000000:Int))||(decide (t_1.Domain<(0:Int))||decide (t_1.Domain≥(8:Int))))))] [.s 0] (ac (congrArg AV.bool (orf gg_1 (orf gg_2 (orf gg_3 rfl))):(.bool (decide (t_1.Domain≥(8:Int))):AV)=.bool (decide (t_1.Id<(0:Int))||(decide (t_1.Id>(1000000000000000:Int))||(decide (t_1.Domain<(0:Int))||decide (t_1.Domain≥(8:Int)))))) an))⟩
 refine cd 20 (decide (t_1.Id<(0:Int))||(decide (t_1.Id>(1000000000000000:Int))||(decide (t_1.Domain<(0:Int))||decide (t_1.Domain≥(8:Int))))) ?_ ?_
 ·intro g_1;replace h:=zS g_1 h
  refine sr [] [2] [] 1 [Ii 2] [] zE an ?_
  refine rt ?_
  cases h
  exact ⟨.inr rfl,Nat.le_of_ble_eq_true rfl,by kernel_rfl⟩
 intro g_1;replace h:=zR g_1 h
 refine sk ?_
 refine sq ?_
 obtain ⟨r_1,h_1,h⟩:=bind_some h
 refine rg [(2,{ av:=Ii r_1,l:=[.str t_1.Name] })] [2] [] 1 [Ii r_1] [] zE (ar ([.str t_1.Name]:List AV) (ac (rfl:([]:List zP)=[]) (ac (qS F t_1.Name r_1 h_1:zN prog 29 [] [] [.str t_1.Name] [] (Ii r_1)) an))) ?_
 refine rt ?_
 cases h
 exact ⟨.inr rfl,Nat.le_of_ble_eq_true rfl,by kernel_rfl⟩
theorem zH6 (size_1:Int) (p_1:Int) (r:zB×Int) (h:zCb size_1 p_1=some r):zN prog 27 [] [] [Ii size_1,Ii p_1] [] (.tuple [zT r.1,Ii r.2]):=by
 refine zV (fn:=Go.Proofs.Try.f27) (code:=yG Go.Proofs.Try.f27) (by kernel_rfl) (by kernel_rfl) (Nat.le_of_ble_eq_true (by kernel_rfl)) ?_
 unfold zCb at h
 refine sr [(0,{ id:=0 })] [0,1,4] [0] 1 [Ii size_1,Ii p_1,Pp 0] [Vb 30 [Ii 0,.nilsl,Ii 0,Ii 0,Ii 0,Ii 0]] zE an ?_
 refine sq ?_
 refine z7 (id:=0) (by kernel_rfl) ?_
 refine sq ?_
 refine yB (mk [(0,Ii size_1),(1,Ii p_1),(4,Pp 0),(6,.bool (decide (size_1<(16:Int))||decide (size_1>(65536:Int))))] [(0,Vb 30 [Ii 0,.nilsl,Ii 0,Ii 0,Ii 0,Ii 0])] 1) ?_ ?_
 ·rcases bft (decide (size_1<(16:Int))) with gg_1 | gg_1
  ·refine rg [(3,Hg),(4,Hg),(5,Ht)] [0,1,4,6] [0] 1 [Ii size_1,Ii p_1,Pp 0,.bool true] [Vb 30 [Ii 0,.nilsl,Ii 0,Ii 0,Ii 0,Ii 0]] zE (ac gg_1 (ac gg_1 (ac gg_1 an))) ?_
   exact ⟨rfl,(sw [0] [] [.s 0,.s 1,.s 4,.a 6 (.bool (decide (size_1<(16:Int))||decide (size_1>(65536:Int))))] [.s 0] (ac (congrArg AV.bool (ort gg_1):(.bool true:AV)=.bool (decide (size_1<(16:Int))||decide (size_1>(65536:Int)))) an))⟩
  ·refine rg [(5,Hf)] [0,1,4,6] [0] 1 [Ii size_1,Ii p_1,Pp 0,.bool (decide (size_1>(65536:Int)))] [Vb 30 [Ii 0,.nilsl,Ii 0,Ii 0,Ii 0,Ii 0]] zE (ac gg_1 (ac gg_1 (ac gg_1 an))) ?_
   exact ⟨rfl,(sw [0] [] [.s 0,.s 1,.s 4,.a 6 (.bool (decide (size_1<(16:Int))||decide (size_1>(65536:Int))))] [.s 0] (ac (congrArg AV.bool (orf gg_1 rfl):(.bool (decide (size_1>(65536:Int))):AV)=.bool (decide (size_1<(16:Int))||decide (size_1>(65536:Int)))) an))⟩
 refine cd 6 (decide (size_1<(16:Int))||decide (size_1>(65536:Int))) ?_ ?_
 ·intro g_1;replace h:=zS g_1 h
  refine sr [] [4,5] [0] 1 [Pp 0,Ii 2] [Vb 30 [Ii 0,.nilsl,Ii 0,Ii 0,Ii 0,Ii 0]] zE an ?_
  refine wk [0] [] [.s 4,.s 5] [.a 0 (Vb 30 (zK (⟨(0:Int),[],(0:Int),(0:Int),(0:Int),(0:Int)⟩:zB)))] [(4,Pp 0),(5,Ii 2)] [(0,Vb 30 (zK (⟨(0:Int),[],(0:Int),(0:Int),(0:Int),(0:Int)⟩:zB)))] (ar 30 (ac (rfl:xH [Ii ((⟨(0:Int),[],(0:Int),(0:Int),(0:Int),(0:Int)⟩:zB).Policy),.sl false 1 (Mb ((⟨(0:Int),[],(0:Int),(0:Int),(0:Int),(0:Int)⟩:zB).Data)),Ii ((⟨(0:Int),[],(0:Int),(0:Int),(0:Int),(0:Int)⟩:zB).Start),Ii ((⟨(0:Int),[],(0:Int),(0:Int),(0:Int),(0:Int)⟩:zB).End),Ii ((⟨(0:Int),[],(0:Int),(0:Int),(0:Int),(0:Int)⟩:zB).First),Ii ((⟨(0:Int),[],(0:Int),(0:Int),(0:Int),(0:Int)⟩:zB).Next)]=true) (ac (rfl:(Ii 0:AV)=Ii ((⟨(0:Int),[],(0:Int),(0:Int),(0:Int),(0:Int)⟩:zB).Policy)) (ac (rfl:((Mb ((⟨(0:Int),[],(0:Int),(0:Int),(0:Int),(0:Int)⟩:zB).Data)):List AV)=[]) (ac (rfl:(Ii 0:AV)=Ii ((⟨(0:Int),[],(0:Int),(0:Int),(0:Int),(0:Int)⟩:zB).Start)) (ac (rfl:(Ii 0:AV)=Ii ((⟨(0:Int),[],(0:Int),(0:Int),(0:Int),(0:Int)⟩:zB).End)) (ac (rfl:(Ii 0:AV)=Ii ((⟨(0:Int),[],(0:Int),(0:Int),(0:Int),(0:Int)⟩:zB).First)) (ac (rfl:(Ii 0:AV)=Ii ((⟨(0:Int),[],(0:Int),(0:Int),(0:Int),(0:Int)⟩:zB).Next)) an)))))))) ?_
  refine rt ?_
  cases h
  exact ⟨.inr rfl,Nat.le_of_ble_eq_true rfl,by kernel_rfl⟩
 intro g_1;replace h:=zR g_1 h
 refine sq ?_
 refine yB (mk [(0,Ii size_1),(1,Ii p_1),(4,Pp 0),(14,.bool ((p_1 != (1:Int))&&(p_1 != (2:Int))))] [(0,Vb 30 [Ii 0,.nilsl,Ii 0,Ii 0,Ii 0,Ii 0])] 1) ?_ ?_
 ·rcases bft (p_1 != (1:Int)) with gg_2 | gg_2
  ·refine rg [(5,Ht)] [0,1,4,14] [0] 1 [Ii size_1,Ii p_1,Pp 0,.bool (p_1 != (2:Int))] [Vb 30 [Ii 0,.nilsl,Ii 0,Ii 0,Ii 0,Ii 0]] zE (ac gg_2 (ac gg_2 (ac gg_2 an))) ?_
   exact ⟨rfl,(sw [0] [] [.s 0,.s 1,.s 4,.a 14 (.bool ((p_1 != (1:Int))&&(p_1 != (2:Int))))] [.s 0] (ac (congrArg AV.bool (w5 gg_2 rfl):(.bool (p_1 != (2:Int)):AV)=.bool ((p_1 != (1:Int))&&(p_1 != (2:Int)))) an))⟩
  ·refine rg [(3,Hg),(4,Hg),(5,Hf)] [0,1,4,14] [0] 1 [Ii size_1,Ii p_1,Pp 0,.bool false] [Vb 30 [Ii 0,.nilsl,Ii 0,Ii 0,Ii 0,Ii 0]] zE (ac gg_2 (ac gg_2 (ac gg_2 an))) ?_
   exact ⟨rfl,(sw [0] [] [.s 0,.s 1,.s 4,.a 14 (.bool ((p_1 != (1:Int))&&(p_1 != (2:Int))))] [.s 0] (ac (congrArg AV.bool (tQ gg_2):(.bool false:AV)=.bool ((p_1 != (1:Int))&&(p_1 != (2:Int)))) an))⟩
 refine cd 14 ((p_1 != (1:Int))&&(p_1 != (2:Int))) ?_ ?_
 ·intro g_2;replace h:=zS g_2 h
  refine sr [] [4,5] [0] 1 [Pp 0,Ii 1] [Vb 30 [Ii 0,.nilsl,Ii 0,Ii 0,Ii 0,Ii 0]] zE an ?_
  refine wk [0] [] [.s 4,.s 5] [.a 0 (Vb 30 (zK (⟨(0:Int),[],(0:Int),(0:Int),(0:Int),(0:Int)⟩:zB)))] [(4,Pp 0),(5,Ii 1)] [(0,Vb 30 (zK (⟨(0:Int),[],(0:Int),(0:Int),(0:Int),(0:Int)⟩:zB)))] (ar 30 (ac (rfl:xH [Ii ((⟨(0:Int),[],(0:Int),(0:Int),(0:Int),(0:Int)⟩:zB).Policy),.sl false 1 (Mb ((⟨(0:Int),[],(0:Int),(0:Int),(0:Int),(0:Int)⟩:zB).Data)),Ii ((⟨(0:Int),[],(0:Int),(0:Int),(0:Int),(0:Int)⟩:zB).Start),Ii ((⟨(0:Int),[],(0:Int),(0:Int),(0:Int),(0:Int)⟩:zB).End),Ii ((⟨(0:Int),[],(0:Int),(0:Int),(0:Int),(0:Int)⟩:zB).First),Ii ((⟨(0:Int),[],(0:Int),(0:Int),(0:Int),(0:Int)⟩:zB).Next)]=true) (ac (rfl:(Ii 0:AV)=Ii ((⟨(0:Int),[],(0:Int),(0:Int),(0:Int),(0:Int)⟩:zB).Policy)) (ac (rfl:((Mb ((⟨(0:Int),[],(0:Int),(0:Int),(0:Int),(0:Int)⟩:zB).Data)):List AV)=[]) (ac (rfl:(Ii 0:AV)=Ii ((⟨(0:Int),[],(0:Int),(0:Int),(0:Int),(0:Int)⟩:zB).Start)) (ac (rfl:(Ii 0:AV)=Ii ((⟨(0:Int),[],(0:Int),(0:Int),(0:Int),(0:Int)⟩:zB).End)) (ac (rfl:(Ii 0:AV)=Ii ((⟨(0:Int),[],(0:Int),(0:Int),(0:Int),(0:Int)⟩:zB).First)) (ac (rfl:(Ii 0:AV)=Ii ((⟨(0:Int),[],(0:Int),(0:Int),(0:Int),(0:Int)⟩:zB).Next)) an)))))))) ?_
  refine rt ?_
  cases h
  exact ⟨.inr rfl,Nat.le_of_ble_eq_true rfl,by kernel_rfl⟩
 intro g_2;replace h:=zR g_2 h
 refine sk ?_
 refine sq ?_
 obtain ⟨_,h_1,h⟩:=bind_some h;replace h_1:=z9 h_1
 refine rg [(2,{ id:=1,l:=(Mb (List.replicate ((size_1).toNat) (0:Int))),m:=(size_1).toNat,n:=(size_1).toNat })] [4,5] [0,1] 2 [Pp 0,Ii 0] [Vb 30 [Ii p_1,.own 1 ((size_1).toNat),Ii 0,Ii 0,Ii 0,Ii 0],Rb 5 1 (Mb (List.replicate ((size_1).toNat) (0:Int)))] zE (ac ((Int.toNat_of_nonneg h_1.1).symm:size_1=(((size_1).toNat:Nat):Int)) (ac ((Int.toNat_of_nonneg h_1.1).symm:size_1=(((size_1).toNat:Nat):Int)) (ac (Nat.le_refl _:((size_1).toNat)≤((size_1).toNat)) (ac h_1.2 (ac (zER:(Mb (List.replicate ((size_1).toNat) (0:Int)))=List.replicate ((size_1).toNat) (Iu 0)) an))))) ?_
 refine wk [0] [1] [.s 4,.s 5] [.a 0 (Vb 30 (zK (⟨p_1,(List.replicate ((size_1).toNat) (0:Int)),(0:Int),(0:Int),(0:Int),(0:Int)⟩:zB)))] [(4,Pp 0),(5,Ii 0)] [(0,Vb 30 (zK (⟨p_1,(List.replicate ((size_1).toNat) (0:Int)),(0:Int),(0:Int),(0:Int),(0:Int)⟩:zB)))] (ar 30 (ac (rfl:xH [Ii ((⟨p_1,(List.replicate ((size_1).toNat) (0:Int)),(0:Int),(0:Int),(0:Int),(0:Int)⟩:zB).Policy),.sl false 1 (Mb ((⟨p_1,(List.replicate ((size_1).toNat) (0:Int)),(0:Int),(0:Int),(0:Int),(0:Int)⟩:zB).Data)),Ii ((⟨p_1,(List.replicate ((size_1).toNat) (0:Int)),(0:Int),(0:Int),(0:Int),(0:Int)⟩:zB).Start),Ii ((⟨p_1,(List.replicate ((size_1).toNat) (0:Int)),(0:Int),(0:Int),(0:Int),(0:Int)⟩:zB).End),Ii ((⟨p_1,(List.replicate ((size_1).toNat) (0:Int)),(0:Int),(0:Int),(0:Int),(0:Int)⟩:zB).First),Ii ((⟨p_1,(List.replicate ((size_1).toNat) (0:Int)),(0:Int),(0:Int),(0:Int),(0:Int)⟩:zB).Next)]=true) (ac (by rw [List.length_map];exact List.length_replicate.symm:(size_1).toNat=((List.map (AV.int .u8) (List.replicate ((size_1).toNat) (0:Int)))).length) (ac (rfl:(Ii p_1:AV)=Ii ((⟨p_1,(List.replicate ((size_1).toNat) (0:Int)),(0:Int),(0:Int),(0:Int),(0:Int)⟩:zB).Policy)) (ar 1 (ac (rfl:((Mb (List.replicate ((size_1).toNat) (0:Int))):List AV)=(Mb ((⟨p_1,(List.replicate ((size_1).toNat) (0:Int)),(0:Int),(0:Int),(0:Int),(0:Int)⟩:zB).Data))) (ac (rfl:(!false||false)=true) (ac (rfl:(Ii 0:AV)=Ii ((⟨p_1,(List.replicate ((size_1).toNat) (0:Int)),(0:Int),(0:Int),(0:Int),(0:Int)⟩:zB).Start)) (ac (rfl:(Ii 0:AV)=Ii ((⟨p_1,(List.replicate ((size_1).toNat) (0:Int)),(0:Int),(0:Int),(0:Int),(0:Int)⟩:zB).End)) (ac (rfl:(Ii 0:AV)=Ii ((⟨p_1,(List.replicate ((size_1).toNat) (0:Int)),(0:Int),(0:Int),(0:Int),(0:Int)⟩:zB).First)) (ac (rfl:(Ii 0:AV)=Ii ((⟨p_1,(List.replicate ((size_1).toNat) (0:Int)),(0:Int),(0:Int),(0:Int),(0:Int)⟩:zB).Next)) an))))))))))) ?_
 refine rt ?_
 cases h
 exact ⟨.inr rfl,Nat.le_of_ble_eq_true rfl,by kernel_rfl⟩
theorem pV (F:Nat) (t_1:zC) (size_1:Int) (p_1:Int) (r:zA×Int) (h:u9 F t_1 size_1 p_1=some r):zN prog 9 [] [] [zW t_1,Ii size_1,Ii p_1] [] (.tuple [zL r.1,Ii r.2]):=by
 refine zV (fn:=Go.Proofs.Try.f9) (code:=yG Go.Proofs.Try.f9) (by kernel_rfl) (by kernel_rfl) (Nat.le_of_ble_eq_true (by kernel_rfl)) ?_
 unfold u9 at h
 refine sr [(0,{ id:=0 }),(1,{ id:=1 })] [1,2,3,6] [0,1] 2 [Ii size_1,Ii p_1,Pp 0,Pp 1] [Vb 23 (z8 t_1),Vb 32 [Ii 0,.str ([]:List Int),Ii 0,.nilsl,.nilsl,Ii 0,.nilsl,Ii 0,Ii 0,Ii 0,Ii 0,Ii 0,Ii 0]] zE an ?_
 refine sq ?_
 refine sq ?_
 obtain ⟨r_1,h_1,h⟩:=bind_some h
 refine rg [(1,{ av:=Ii r_1,l:=[zW t_1] })] [1,2,3,6,8] [0,1] 2 [Ii size_1,Ii p_1,Pp 0,Pp 1,Ii r_1] [Vb 23 (z8 t_1),Vb 32 [Ii 0,.str ([]:List Int),Ii 0,.nilsl,.nilsl,Ii 0,.nilsl,Ii 0,Ii 0,Ii 0,Ii 0,Ii 0,Ii 0]] zE (ar ([zW t_1]:List AV) (ac (rfl:([]:List zP)=[]) (ac (uA F t_1 r_1 h_1:zN prog 11 [] [] [zW t_1] [] (Ii r_1)) an))) ?_
 refine sr [] [1,2,3,6,8,14] [0,1] 2 [Ii size_1,Ii p_1,Pp 0,Pp 1,Ii r_1,.bool (r_1 != (0:Int))] [Vb 23 (z8 t_1),Vb 32 [Ii 0,.str ([]:List Int),Ii 0,.nilsl,.nilsl,Ii 0,.nilsl,Ii 0,Ii 0,Ii 0,Ii 0,Ii 0,Ii 0]] zE an ?_
 refine cd 14 (r_1 != (0:Int)) ?_ ?_
 ·intro g_1;replace h:=zS g_1 h
  refine sr [] [6,7] [1] 2 [Pp 1,Ii r_1] [Vb 32 [Ii 0,.str ([]:List Int),Ii 0,.nilsl,.nilsl,Ii 0,.nilsl,Ii 0,Ii 0,Ii 0,Ii 0,Ii 0,Ii 0]] zE an ?_
  refine wk [1] [] [.s 6,.s 7] [.a 0 (Vb 32 [Ii (((⟨(⟨(0:Int),([]:List Int),(0:Int)⟩:zC),[],[],(⟨(0:Int),[],(0:Int),(0:Int),(0:Int),(0:Int)⟩:zB),(0:Int),(0:Int)⟩:zA).Thread).Id),.str (((⟨(⟨(0:Int),([]:List Int),(0:Int)⟩:zC),[],[],(⟨(0:Int),[],(0:Int),(0:Int),(0:Int),(0:Int)⟩:zB),(0:Int),(0:Int)⟩:zA).Thread).Name),Ii (((⟨(⟨(0:Int),([]:List Int),(0:Int)⟩:zC),[],[],(⟨(0:Int),[],(0:Int),(0:Int),(0:Int),(0:Int)⟩:zB),(0:Int),(0:Int)⟩:zA).Thread).Domain),.sl false 1 (Ms ((⟨(⟨(0:Int),([]:List Int),(0:Int)⟩:zC),[],[],(⟨(0:Int),[],(0:Int),(0:Int),(0:Int),(0:Int)⟩:zB),(0:Int),(0:Int)⟩:zA).Names)),.sl false 2 (Mp zD ((⟨(⟨(0:Int),([]:List Int),(0:Int)⟩:zC),[],[],(⟨(0:Int),[],(0:Int),(0:Int),(0:Int),(0:Int)⟩:zB),(0:Int),(0:Int)⟩:zA).Stacks)),Ii (((⟨(⟨(0:Int),([]:List Int),(0:Int)⟩:zC),[],[],(⟨(0:Int),[],(0:Int),(0:Int),(0:Int),(0:Int)⟩:zB),(0:Int),(0:Int)⟩:zA).Ring).Policy),.sl false 1 (Mb (((⟨(⟨(0:Int),([]:List Int),(0:Int)⟩:zC),[],[],(⟨(0:Int),[],(0:Int),(0:Int),(0:Int),(0:Int)⟩:zB),(0:Int),(0:Int)⟩:zA).Ring).Data)),Ii (((⟨(⟨(0:Int),([]:List Int),(0:Int)⟩:zC),[],[],(⟨(0:Int),[],(0:Int),(0:Int),(0:Int),(0:Int)⟩:zB),(0:Int),(0:Int)⟩:zA).Ring).Start),Ii (((⟨(⟨(0:Int),([]:List Int),(0:Int)⟩:zC),[],[],(⟨(0:Int),[],(0:Int),(0:Int),(0:Int),(0:Int)⟩:zB),(0:Int),(0:Int)⟩:zA).Ring).End),Ii (((⟨(⟨(0:Int),([]:List Int),(0:Int)⟩:zC),[],[],(⟨(0:Int),[],(0:Int),(0:Int),(0:Int),(0:Int)⟩:zB),(0:Int),(0:Int)⟩:zA).Ring).First),Ii (((⟨(⟨(0:Int),([]:List Int),(0:Int)⟩:zC),[],[],(⟨(0:Int),[],(0:Int),(0:Int),(0:Int),(0:Int)⟩:zB),(0:Int),(0:Int)⟩:zA).Ring).Next),Ii ((⟨(⟨(0:Int),([]:List Int),(0:Int)⟩:zC),[],[],(⟨(0:Int),[],(0:Int),(0:Int),(0:Int),(0:Int)⟩:zB),(0:Int),(0:Int)⟩:zA).Last),Ii ((⟨(⟨(0:Int),([]:List Int),(0:Int)⟩:zC),[],[],(⟨(0:Int),[],(0:Int),(0:Int),(0:Int),(0:Int)⟩:zB),(0:Int),(0:Int)⟩:zA).Sent)])] [(6,Pp 0),(7,Ii r_1)] [(0,Vb 32 [Ii (((⟨(⟨(0:Int),([]:List Int),(0:Int)⟩:zC),[],[],(⟨(0:Int),[],(0:Int),(0:Int),(0:Int),(0:Int)⟩:zB),(0:Int),(0:Int)⟩:zA).Thread).Id),.str (((⟨(⟨(0:Int),([]:List Int),(0:Int)⟩:zC),[],[],(⟨(0:Int),[],(0:Int),(0:Int),(0:Int),(0:Int)⟩:zB),(0:Int),(0:Int)⟩:zA).Thread).Name),Ii (((⟨(⟨(0:Int),([]:List Int),(0:Int)⟩:zC),[],[],(⟨(0:Int),[],(0:Int),(0:Int),(0:Int),(0:Int)⟩:zB),(0:Int),(0:Int)⟩:zA).Thread).Domain),.sl false 1 (Ms ((⟨(⟨(0:Int),([]:List Int),(0:Int)⟩:zC),[],[],(⟨(0:Int),[],(0:Int),(0:Int),(0:Int),(0:Int)⟩:zB),(0:Int),(0:Int)⟩:zA).Names)),.sl false 2 (Mp zD ((⟨(⟨(0:Int),([]:List Int),(0:Int)⟩:zC),[],[],(⟨(0:Int),[],(0:Int),(0:Int),(0:Int),(0:Int)⟩:zB),(0:Int),(0:Int)⟩:zA).Stacks)),Ii (((⟨(⟨(0:Int),([]:List Int),(0:Int)⟩:zC),[],[],(⟨(0:Int),[],(0:Int),(0:Int),(0:Int),(0:Int)⟩:zB),(0:Int),(0:Int)⟩:zA).Ring).Policy),.sl false 1 (Mb (((⟨(⟨(0:Int),([]:List Int),(0:Int)⟩:zC),[],[],(⟨(0:Int),[],(0:Int),(0:Int),(0:Int),(0:Int)⟩:zB),(0:Int),(0:Int)⟩:zA).Ring).Data)),Ii (((⟨(⟨(0:Int),([]:List Int),(0:Int)⟩:zC),[],[],(⟨(0:Int),[],(0:Int),(0:Int),(0:Int),(0:Int)⟩:zB),(0:Int),(0:Int)⟩:zA).Ring).Start),Ii (((⟨(⟨(0:Int),([]:List Int),(0:Int)⟩:zC),[],[],(⟨(0:Int),[],(0:Int),(0:Int),(0:Int),(0:Int)⟩:zB),(0:Int),(0:Int)⟩:zA).Ring).End),Ii (((⟨(⟨(0:Int),([]:List Int),(0:Int)⟩:zC),[],[],(⟨(0:Int),[],(0:Int),(0:Int),(0:Int),(0:Int)⟩:zB),(0:Int),(0:Int)⟩:zA).Ring).First),Ii (((⟨(⟨(0:Int),([]:List Int),(0:Int)⟩:zC),[],[],(⟨(0:Int),[],(0:Int),(0:Int),(0:Int),(0:Int)⟩:zB),(0:Int),(0:Int)⟩:zA).Ring).Next),Ii ((⟨(⟨(0:Int),([]:List Int),(0:Int)⟩:zC),[],[],(⟨(0:Int),[],(0:Int),(0:Int),(0:Int),(0:Int)⟩:zB),(0:Int),(0:Int)⟩:zA).Last),Ii ((⟨(⟨(0:Int),([]:List Int),(0:Int)⟩:zC),[],[],(⟨(0:Int),[],(0:Int),(0:Int),(0:Int),(0:Int)⟩:zB),(0:Int),(0:Int)⟩:zA).Sent)])] (ar 32 (ac (rfl:xH [Ii (((⟨(⟨(0:Int),([]:List Int),(0:Int)⟩:zC),[],[],(⟨(0:Int),[],(0:Int),(0:Int),(0:Int),(0:Int)⟩:zB),(0:Int),(0:Int)⟩:zA).Thread).Id),.str (((⟨(⟨(0:Int),([]:List Int),(0:Int)⟩:zC),[],[],(⟨(0:Int),[],(0:Int),(0:Int),(0:Int),(0:Int)⟩:zB),(0:Int),(0:Int)⟩:zA).Thread).Name),Ii (((⟨(⟨(0:Int),([]:List Int),(0:Int)⟩:zC),[],[],(⟨(0:Int),[],(0:Int),(0:Int),(0:Int),(0:Int)⟩:zB),(0:Int),(0:Int)⟩:zA).Thread).Domain),.sl false 1 (Ms ((⟨(⟨(0:Int),([]:List Int),(0:Int)⟩:zC),[],[],(⟨(0:Int),[],(0:Int),(0:Int),(0:Int),(0:Int)⟩:zB),(0:Int),(0:Int)⟩:zA).Names)),.sl false 2 (Mp zD ((⟨(⟨(0:Int),([]:List Int),(0:Int)⟩:zC),[],[],(⟨(0:Int),[],(0:Int),(0:Int),(0:Int),(0:Int)⟩:zB),(0:Int),(0:Int)⟩:zA).Stacks)),Ii (((⟨(⟨(0:Int),([]:List Int),(0:Int)⟩:zC),[],[],(⟨(0:Int),[],(0:Int),(0:Int),(0:Int),(0:Int)⟩:zB),(0:Int),(0:Int)⟩:zA).Ring).Policy),.sl false 1 (Mb (((⟨(⟨(0:Int),([]:List Int),(0:Int)⟩:zC),[],[],(⟨(0:Int),[],(0:Int),(0:Int),(0:Int),(0:Int)⟩:zB),(0:Int),(0:Int)⟩:zA).Ring).Data)),Ii (((⟨(⟨(0:Int),([]:List Int),(0:Int)⟩:zC),[],[],(⟨(0:Int),[],(0:Int),(0:Int),(0:Int),(0:Int)⟩:zB),(0:Int),(0:Int)⟩:zA).Ring).Start),Ii (((⟨(⟨(0:Int),([]:List Int),(0:Int)⟩:zC),[],[],(⟨(0:Int),[],(0:Int),(0:Int),(0:Int),(0:Int)⟩:zB),(0:Int),(0:Int)⟩:zA).Ring).End),Ii (((⟨(⟨(0:Int),([]:List Int),(0:Int)⟩:zC),[],[],(⟨(0:Int),[],(0:Int),(0:Int),(0:Int),(0:Int)⟩:zB),(0:Int),(0:Int)⟩:zA).Ring).First),Ii (((⟨(⟨(0:Int),([]:List Int),(0:Int)⟩:zC),[],[],(⟨(0:Int),[],(0:Int),(0:Int),(0:Int),(0:Int)⟩:zB),(0:Int),(0:Int)⟩:zA).Ring).Next),Ii ((⟨(⟨(0:Int),([]:List Int),(0:Int)⟩:zC),[],[],(⟨(0:Int),[],(0:Int),(0:Int),(0:Int),(0:Int)⟩:zB),(0:Int),(0:Int)⟩:zA).Last),Ii ((⟨(⟨(0:Int),([]:List Int),(0:Int)⟩:zC),[],[],(⟨(0:Int),[],(0:Int),(0:Int),(0:Int),(0:Int)⟩:zB),(0:Int),(0:Int)⟩:zA).Sent)]=true) (ac (rfl:(Ii 0:AV)=Ii (((⟨(⟨(0:Int),([]:List Int),(0:Int)⟩:zC),[],[],(⟨(0:Int),[],(0:Int),(0:Int),(0:Int),(0:Int)⟩:zB),(0:Int),(0:Int)⟩:zA).Thread).Id)) (ac (rfl:(.str ([]:List Int):AV)=.str (((⟨(⟨(0:Int),([]:List Int),(0:Int)⟩:zC),[],[],(⟨(0:Int),[],(0:Int),(0:Int),(0:Int),(0:Int)⟩:zB),(0:Int),(0:Int)⟩:zA).Thread).Name)) (ac (rfl:(Ii 0:AV)=Ii (((⟨(⟨(0:Int),([]:List Int),(0:Int)⟩:zC),[],[],(⟨(0:Int),[],(0:Int),(0:Int),(0:Int),(0:Int)⟩:zB),(0:Int),(0:Int)⟩:zA).Thread).Domain)) (ac (rfl:((Ms ((⟨(⟨(0:Int),([]:List Int),(0:Int)⟩:zC),[],[],(⟨(0:Int),[],(0:Int),(0:Int),(0:Int),(0:Int)⟩:zB),(0:Int),(0:Int)⟩:zA).Names)):List AV)=[]) (ac (rfl:((Mp zD ((⟨(⟨(0:Int),([]:List Int),(0:Int)⟩:zC),[],[],(⟨(0:Int),[],(0:Int),(0:Int),(0:Int),(0:Int)⟩:zB),(0:Int),(0:Int)⟩:zA).Stacks)):List AV)=[]) (ac (rfl:(Ii 0:AV)=Ii (((⟨(⟨(0:Int),([]:List Int),(0:Int)⟩:zC),[],[],(⟨(0:Int),[],(0:Int),(0:Int),(0:Int),(0:Int)⟩:zB),(0:Int),(0:Int)⟩:zA).Ring).Policy)) (ac (rfl:((Mb (((⟨(⟨(0:Int),([]:List Int),(0:Int)⟩:zC),[],[],(⟨(0:Int),[],(0:Int),(0:Int),(0:Int),(0:Int)⟩:zB),(0:Int),(0:Int)⟩:zA).Ring).Data)):List AV)=[]) (ac (rfl:(Ii 0:AV)=Ii (((⟨(⟨(0:Int),([]:List Int),(0:Int)⟩:zC),[],[],(⟨(0:Int),[],(0:Int),(0:Int),(0:Int),(0:Int)⟩:zB),(0:Int),(0:Int)⟩:zA).Ring).Start)) (ac (rfl:(Ii 0:AV)=Ii (((⟨(⟨(0:Int),([]:List Int),(0:Int)⟩:zC),[],[],(⟨(0:Int),[],(0:Int),(0:Int),(0:Int),(0:Int)⟩:zB),(0:Int),(0:Int)⟩:zA).Ring).End)) (ac (rfl:(Ii 0:AV)=Ii (((⟨(⟨(0:Int),([]:List Int),(0:Int)⟩:zC),[],[],(⟨(0:Int),[],(0:Int),(0:Int),(0:Int),(0:Int)⟩:zB),(0:Int),(0:Int)⟩:zA).Ring).First)) (ac (rfl:(Ii 0:AV)=Ii (((⟨(⟨(0:Int),([]:List Int),(0:Int)⟩:zC),[],[],(⟨(0:Int),[],(0:Int),(0:Int),(0:Int),(0:Int)⟩:zB),(0:Int),(0:Int)⟩:zA).Ring).Next)) (ac (rfl:(Ii 0:AV)=Ii ((⟨(⟨(0:Int),([]:List Int),(0:Int)⟩:zC),[],[],(⟨(0:Int),[],(0:Int),(0:Int),(0:Int),(0:Int)⟩:zB),(0:Int),(0:Int)⟩:zA).Last)) (ac (rfl:(Ii 0:AV)=Ii ((⟨(⟨(0:Int),([]:List Int),(0:Int)⟩:zC),[],[],(⟨(0:Int),[],(0:Int),(0:Int),(0:Int),(0:Int)⟩:zB),(0:Int),(0:Int)⟩:zA).Sent)) an))))))))))))))) ?_
  refine rt ?_
  cases h
  exact ⟨.inr rfl,Nat.le_of_ble_eq_true rfl,by kernel_rfl⟩
 intro g_1;replace h:=zR g_1 h
 refine sk ?_
 refine sq ?_
 obtain ⟨r_2,h_2,h⟩:=bind_some h
 refine rg [(2,{ av:=.tuple [zT r_2.1,Ii r_2.2],l:=[Ii size_1,Ii p_1] }),(6,{ id:=2 })] [3,6,9,10] [0,1,2] 3 [Pp 0,Pp 1,Pp 2,Ii r_2.2] [Vb 23 (z8 t_1),Vb 32 [Ii 0,.str ([]:List Int),Ii 0,.nilsl,.nilsl,Ii 0,.nilsl,Ii 0,Ii 0,Ii 0,Ii 0,Ii 0,Ii 0],Vb 30 (zK r_2.1)] zE (ar ([Ii size_1,Ii p_1]:List AV) (ac (rfl:([]:List zP)=[]) (ac (zH6 size_1 p_1 r_2 h_2:zN prog 27 [] [] [Ii size_1,Ii p_1] [] (.tuple [zT r_2.1,Ii r_2.2])) an))) ?_
 refine sq ?_
 refine sr [] [3,6,9,10,24] [0,1,2] 3 [Pp 0,Pp 1,Pp 2,Ii r_2.2,.bool (r_2.2 != (0:Int))] [Vb 23 (z8 t_1),Vb 32 [Ii 0,.str ([]:List Int),Ii 0,.nilsl,.nilsl,Ii 0,.nilsl,Ii 0,Ii 0,Ii 0,Ii 0,Ii 0,Ii 0],Vb 30 (zK r_2.1)] zE an ?_
 refine cd 24 (r_2.2 != (0:Int)) ?_ ?_
 ·intro g_2;replace h:=zS g_2 h
  refine sr [] [6,7] [1] 3 [Pp 1,Ii r_2.2] [Vb 32 [Ii 0,.str ([]:List Int),Ii 0,.nilsl,.nilsl,Ii 0,.nilsl,Ii 0,Ii 0,Ii 0,Ii 0,Ii 0,Ii 0]] zE an ?_
  refine wk [1] [] [.s 6,.s 7] [.a 0 (Vb 32 [Ii (((⟨(⟨(0:Int),([]:List Int),(0:Int)⟩:zC),[],[],(⟨(0:Int),[],(0:Int),(0:Int),(0:Int),(0:Int)⟩:zB),(0:Int),(0:Int)⟩:zA).Thread).Id),.str (((⟨(⟨(0:Int),([]:List Int),(0:Int)⟩:zC),[],[],(⟨(0:Int),[],(0:Int),(0:Int),(0:Int),(0:Int)⟩:zB),(0:Int),(0:Int)⟩:zA).Thread).Name),Ii (((⟨(⟨(0:Int),([]:List Int),(0:Int)⟩:zC),[],[],(⟨(0:Int),[],(0:Int),(0:Int),(0:Int),(0:Int)⟩:zB),(0:Int),(0:Int)⟩:zA).Thread).Domain),.sl false 1 (Ms ((⟨(⟨(0:Int),([]:List Int),(0:Int)⟩:zC),[],[],(⟨(0:Int),[],(0:Int),(0:Int),(0:Int),(0:Int)⟩:zB),(0:Int),(0:Int)⟩:zA).Names)),.sl false 2 (Mp zD ((⟨(⟨(0:Int),([]:List Int),(0:Int)⟩:zC),[],[],(⟨(0:Int),[],(0:Int),(0:Int),(0:Int),(0:Int)⟩:zB),(0:Int),(0:Int)⟩:zA).Stacks)),Ii (((⟨(⟨(0:Int),([]:List Int),(0:Int)⟩:zC),[],[],(⟨(0:Int),[],(0:Int),(0:Int),(0:Int),(0:Int)⟩:zB),(0:Int),(0:Int)⟩:zA).Ring).Policy),.sl false 1 (Mb (((⟨(⟨(0:Int),([]:List Int),(0:Int)⟩:zC),[],[],(⟨(0:Int),[],(0:Int),(0:Int),(0:Int),(0:Int)⟩:zB),(0:Int),(0:Int)⟩:zA).Ring).Data)),Ii (((⟨(⟨(0:Int),([]:List Int),(0:Int)⟩:zC),[],[],(⟨(0:Int),[],(0:Int),(0:Int),(0:Int),(0:Int)⟩:zB),(0:Int),(0:Int)⟩:zA).Ring).Start),Ii (((⟨(⟨(0:Int),([]:List Int),(0:Int)⟩:zC),[],[],(⟨(0:Int),[],(0:Int),(0:Int),(0:Int),(0:Int)⟩:zB),(0:Int),(0:Int)⟩:zA).Ring).End),Ii (((⟨(⟨(0:Int),([]:List Int),(0:Int)⟩:zC),[],[],(⟨(0:Int),[],(0:Int),(0:Int),(0:Int),(0:Int)⟩:zB),(0:Int),(0:Int)⟩:zA).Ring).First),Ii (((⟨(⟨(0:Int),([]:List Int),(0:Int)⟩:zC),[],[],(⟨(0:Int),[],(0:Int),(0:Int),(0:Int),(0:Int)⟩:zB),(0:Int),(0:Int)⟩:zA).Ring).Next),Ii ((⟨(⟨(0:Int),([]:List Int),(0:Int)⟩:zC),[],[],(⟨(0:Int),[],(0:Int),(0:Int),(0:Int),(0:Int)⟩:zB),(0:Int),(0:Int)⟩:zA).Last),Ii ((⟨(⟨(0:Int),([]:List Int),(0:Int)⟩:zC),[],[],(⟨(0:Int),[],(0:Int),(0:Int),(0:Int),(0:Int)⟩:zB),(0:Int),(0:Int)⟩:zA).Sent)])] [(6,Pp 0),(7,Ii r_2.2)] [(0,Vb 32 [Ii (((⟨(⟨(0:Int),([]:List Int),(0:Int)⟩:zC),[],[],(⟨(0:Int),[],(0:Int),(0:Int),(0:Int),(0:Int)⟩:zB),(0:Int),(0:Int)⟩:zA).Thread).Id),.str (((⟨(⟨(0:Int),([]:List Int),(0:Int)⟩:zC),[],[],(⟨(0:Int),[],(0:Int),(0:Int),(0:Int),(0:Int)⟩:zB),(0:Int),(0:Int)⟩:zA).Thread).Name),Ii (((⟨(⟨(0:Int),([]:List Int),(0:Int)⟩:zC),[],[],(⟨(0:Int),[],(0:Int),(0:Int),(0:Int),(0:Int)⟩:zB),(0:Int),(0:Int)⟩:zA).Thread).Domain),.sl false 1 (Ms ((⟨(⟨(0:Int),([]:List Int),(0:Int)⟩:zC),[],[],(⟨(0:Int),[],(0:Int),(0:Int),(0:Int),(0:Int)⟩:zB),(0:Int),(0:Int)⟩:zA).Names)),.sl false 2 (Mp zD ((⟨(⟨(0:Int),([]:List Int),(0:Int)⟩:zC),[],[],(⟨(0:Int),[],(0:Int),(0:Int),(0:Int),(0:Int)⟩:zB),(0:Int),(0:Int)⟩:zA).Stacks)),Ii (((⟨(⟨(0:Int),([]:List Int),(0:Int)⟩:zC),[],[],(⟨(0:Int),[],(0:Int),(0:Int),(0:Int),(0:Int)⟩:zB),(0:Int),(0:Int)⟩:zA).Ring).Policy),.sl false 1 (Mb (((⟨(⟨(0:Int),([]:List Int),(0:Int)⟩:zC),[],[],(⟨(0:Int),[],(0:Int),(0:Int),(0:Int),(0:Int)⟩:zB),(0:Int),(0:Int)⟩:zA).Ring).Data)),Ii (((⟨(⟨(0:Int),([]:List Int),(0:Int)⟩:zC),[],[],(⟨(0:Int),[],(0:Int),(0:Int),(0:Int),(0:Int)⟩:zB),(0:Int),(0:Int)⟩:zA).Ring).Start),Ii (((⟨(⟨(0:Int),([]:List Int),(0:Int)⟩:zC),[],[],(⟨(0:Int),[],(0:Int),(0:Int),(0:Int),(0:Int)⟩:zB),(0:Int),(0:Int)⟩:zA).Ring).End),Ii (((⟨(⟨(0:Int),([]:List Int),(0:Int)⟩:zC),[],[],(⟨(0:Int),[],(0:Int),(0:Int),(0:Int),(0:Int)⟩:zB),(0:Int),(0:Int)⟩:zA).Ring).First),Ii (((⟨(⟨(0:Int),([]:List Int),(0:Int)⟩:zC),[],[],(⟨(0:Int),[],(0:Int),(0:Int),(0:Int),(0:Int)⟩:zB),(0:Int),(0:Int)⟩:zA).Ring).Next),Ii ((⟨(⟨(0:Int),([]:List Int),(0:Int)⟩:zC),[],[],(⟨(0:Int),[],(0:Int),(0:Int),(0:Int),(0:Int)⟩:zB),(0:Int),(0:Int)⟩:zA).Last),Ii ((⟨(⟨(0:Int),([]:List Int),(0:Int)⟩:zC),[],[],(⟨(0:Int),[],(0:Int),(0:Int),(0:Int),(0:Int)⟩:zB),(0:Int),(0:Int)⟩:zA).Sent)])] (ar 32 (ac (rfl:xH [Ii (((⟨(⟨(0:Int),([]:List Int),(0:Int)⟩:zC),[],[],(⟨(0:Int),[],(0:Int),(0:Int),(0:Int),(0:Int)⟩:zB),(0:Int),(0:Int)⟩:zA).Thread).Id),.str (((⟨(⟨(0:Int),([]:List Int),(0:Int)⟩:zC),[],[],(⟨(0:Int),[],(0:Int),(0:Int),(0:Int),(0:Int)⟩:zB),(0:Int),(0:Int)⟩:zA).Thread).Name),Ii (((⟨(⟨(0:Int),([]:List Int),(0:Int)⟩:zC),[],[],(⟨(0:Int),[],(0:Int),(0:Int),(0:Int),(0:Int)⟩:zB),(0:Int),(0:Int)⟩:zA).Thread).Domain),.sl false 1 (Ms ((⟨(⟨(0:Int),([]:List Int),(0:Int)⟩:zC),[],[],(⟨(0:Int),[],(0:Int),(0:Int),(0:Int),(0:Int)⟩:zB),(0:Int),(0:Int)⟩:zA).Names)),.sl false 2 (Mp zD ((⟨(⟨(0:Int),([]:List Int),(0:Int)⟩:zC),[],[],(⟨(0:Int),[],(0:Int),(0:Int),(0:Int),(0:Int)⟩:zB),(0:Int),(0:Int)⟩:zA).Stacks)),Ii (((⟨(⟨(0:Int),([]:List Int),(0:Int)⟩:zC),[],[],(⟨(0:Int),[],(0:Int),(0:Int),(0:Int),(0:Int)⟩:zB),(0:Int),(0:Int)⟩:zA).Ring).Policy),.sl false 1 (Mb (((⟨(⟨(0:Int),([]:List Int),(0:Int)⟩:zC),[],[],(⟨(0:Int),[],(0:Int),(0:Int),(0:Int),(0:Int)⟩:zB),(0:Int),(0:Int)⟩:zA).Ring).Data)),Ii (((⟨(⟨(0:Int),([]:List Int),(0:Int)⟩:zC),[],[],(⟨(0:Int),[],(0:Int),(0:Int),(0:Int),(0:Int)⟩:zB),(0:Int),(0:Int)⟩:zA).Ring).Start),Ii (((⟨(⟨(0:Int),([]:List Int),(0:Int)⟩:zC),[],[],(⟨(0:Int),[],(0:Int),(0:Int),(0:Int),(0:Int)⟩:zB),(0:Int),(0:Int)⟩:zA).Ring).End),Ii (((⟨(⟨(0:Int),([]:List Int),(0:Int)⟩:zC),[],[],(⟨(0:Int),[],(0:Int),(0:Int),(0:Int),(0:Int)⟩:zB),(0:Int),(0:Int)⟩:zA).Ring).First),Ii (((⟨(⟨(0:Int),([]:List Int),(0:Int)⟩:zC),[],[],(⟨(0:Int),[],(0:Int),(0:Int),(0:Int),(0:Int)⟩:zB),(0:Int),(0:Int)⟩:zA).Ring).Next),Ii ((⟨(⟨(0:Int),([]:List Int),(0:Int)⟩:zC),[],[],(⟨(0:Int),[],(0:Int),(0:Int),(0:Int),(0:Int)⟩:zB),(0:Int),(0:Int)⟩:zA).Last),Ii ((⟨(⟨(0:Int),([]:List Int),(0:Int)⟩:zC),[],[],(⟨(0:Int),[],(0:Int),(0:Int),(0:Int),(0:Int)⟩:zB),(0:Int),(0:Int)⟩:zA).Sent)]=true) (ac (rfl:(Ii 0:AV)=Ii (((⟨(⟨(0:Int),([]:List Int),(0:Int)⟩:zC),[],[],(⟨(0:Int),[],(0:Int),(0:Int),(0:Int),(0:Int)⟩:zB),(0:Int),(0:Int)⟩:zA).Thread).Id)) (ac (rfl:(.str ([]:List Int):AV)=.str (((⟨(⟨(0:Int),([]:List Int),(0:Int)⟩:zC),[],[],(⟨(0:Int),[],(0:Int),(0:Int),(0:Int),(0:Int)⟩:zB),(0:Int),(0:Int)⟩:zA).Thread).Name)) (ac (rfl:(Ii 0:AV)=Ii (((⟨(⟨(0:Int),([]:List Int),(0:Int)⟩:zC),[],[],(⟨(0:Int),[],(0:Int),(0:Int),(0:Int),(0:Int)⟩:zB),(0:Int),(0:Int)⟩:zA).Thread).Domain)) (ac (rfl:((Ms ((⟨(⟨(0:Int),([]:List Int),(0:Int)⟩:zC),[],[],(⟨(0:Int),[],(0:Int),(0:Int),(0:Int),(0:Int)⟩:zB),(0:Int),(0:Int)⟩:zA).Names)):List AV)=[]) (ac (rfl:((Mp zD ((⟨(⟨(0:Int),([]:List Int),(0:Int)⟩:zC),[],[],(⟨(0:Int),[],(0:Int),(0:Int),(0:Int),(0:Int)⟩:zB),(0:Int),(0:Int)⟩:zA).Stacks)):List AV)=[]) (ac (rfl:(Ii 0:AV)=Ii (((⟨(⟨(0:Int),([]:List Int),(0:Int)⟩:zC),[],[],(⟨(0:Int),[],(0:Int),(0:Int),(0:Int),(0:Int)⟩:zB),(0:Int),(0:Int)⟩:zA).Ring).Policy)) (ac (rfl:((Mb (((⟨(⟨(0:Int),([]:List Int),(0:Int)⟩:zC),[],[],(⟨(0:Int),[],(0:Int),(0:Int),(0:Int),(0:Int)⟩:zB),(0:Int),(0:Int)⟩:zA).Ring).Data)):List AV)=[]) (ac (rfl:(Ii 0:AV)=Ii (((⟨(⟨(0:Int),([]:List Int),(0:Int)⟩:zC),[],[],(⟨(0:Int),[],(0:Int),(0:Int),(0:Int),(0:Int)⟩:zB),(0:Int),(0:Int)⟩:zA).Ring).Start)) (ac (rfl:(Ii 0:AV)=Ii (((⟨(⟨(0:Int),([]:List Int),(0:Int)⟩:zC),[],[],(⟨(0:Int),[],(0:Int),(0:Int),(0:Int),(0:Int)⟩:zB),(0:Int),(0:Int)⟩:zA).Ring).End)) (ac (rfl:(Ii 0:AV)=Ii (((⟨(⟨(0:Int),([]:List Int),(0:Int)⟩:zC),[],[],(⟨(0:Int),[],(0:Int),(0:Int),(0:Int),(0:Int)⟩:zB),(0:Int),(0:Int)⟩:zA).Ring).First)) (ac (rfl:(Ii 0:AV)=Ii (((⟨(⟨(0:Int),([]:List Int),(0:Int)⟩:zC),[],[],(⟨(0:Int),[],(0:Int),(0:Int),(0:Int),(0:Int)⟩:zB),(0:Int),(0:Int)⟩:zA).Ring).Next)) (ac (rfl:(Ii 0:AV)=Ii ((⟨(⟨(0:Int),([]:List Int),(0:Int)⟩:zC),[],[],(⟨(0:Int),[],(0:Int),(0:Int),(0:Int),(0:Int)⟩:zB),(0:Int),(0:Int)⟩:zA).Last)) (ac (rfl:(Ii 0:AV)=Ii ((⟨(⟨(0:Int),([]:List Int),(0:Int)⟩:zC),[],[],(⟨(0:Int),[],(0:Int),(0:Int),(0:Int),(0:Int)⟩:zB),(0:Int),(0:Int)⟩:zA).Sent)) an))))))))))))))) ?_
  refine rt ?_
  cases h
  exact ⟨.inr rfl,Nat.le_of_ble_eq_true rfl,by kernel_rfl⟩
 intro g_2;replace h:=zR g_2 h
 refine sk ?_
 refine sr [] [6,7] [1] 3 [Pp 1,Ii 0] [Vb 32 [Ii t_1.Id,.str t_1.Name,Ii t_1.Domain,.nilsl,.nilsl,Ii r_2.1.Policy,.sl false 1 (Mb r_2.1.Data),Ii r_2.1.Start,Ii r_2.1.End,Ii r_2.1.First,Ii r_2.1.Next,Ii 0,Ii 0]] zE an ?_
 refine wk [1] [] [.s 6,.s 7] [.a 0 (Vb 32 [Ii (((⟨t_1,[],[],r_2.1,(0:Int),(0:Int)⟩:zA).Thread).Id),.str (((⟨t_1,[],[],r_2.1,(0:Int),(0:Int)⟩:zA).Thread).Name),Ii (((⟨t_1,[],[],r_2.1,(0:Int),(0:Int)⟩:zA).Thread).Domain),.sl false 1 (Ms ((⟨t_1,[],[],r_2.1,(0:Int),(0:Int)⟩:zA).Names)),.sl false 2 (Mp zD ((⟨t_1,[],[],r_2.1,(0:Int),(0:Int)⟩:zA).Stacks)),Ii (((⟨t_1,[],[],r_2.1,(0:Int),(0:Int)⟩:zA).Ring).Policy),.sl false 1 (Mb (((⟨t_1,[],[],r_2.1,(0:Int),(0:Int)⟩:zA).Ring).Data)),Ii (((⟨t_1,[],[],r_2.1,(0:Int),(0:Int)⟩:zA).Ring).Start),Ii (((⟨t_1,[],[],r_2.1,(0:Int),(0:Int)⟩:zA).Ring).End),Ii (((⟨t_1,[],[],r_2.1,(0:Int),(0:Int)⟩:zA).Ring).First),Ii (((⟨t_1,[],[],r_2.1,(0:Int),(0:Int)⟩:zA).Ring).Next),Ii ((⟨t_1,[],[],r_2.1,(0:Int),(0:Int)⟩:zA).Last),Ii ((⟨t_1,[],[],r_2.1,(0:Int),(0:Int)⟩:zA).Sent)])] [(6,Pp 0),(7,Ii 0)] [(0,Vb 32 [Ii (((⟨t_1,[],[],r_2.1,(0:Int),(0:Int)⟩:zA).Thread).Id),.str (((⟨t_1,[],[],r_2.1,(0:Int),(0:Int)⟩:zA).Thread).Name),Ii (((⟨t_1,[],[],r_2.1,(0:Int),(0:Int)⟩:zA).Thread).Domain),.sl false 1 (Ms ((⟨t_1,[],[],r_2.1,(0:Int),(0:Int)⟩:zA).Names)),.sl false 2 (Mp zD ((⟨t_1,[],[],r_2.1,(0:Int),(0:Int)⟩:zA).Stacks)),Ii (((⟨t_1,[],[],r_2.1,(0:Int),(0:Int)⟩:zA).Ring).Policy),.sl false 1 (Mb (((⟨t_1,[],[],r_2.1,(0:Int),(0:Int)⟩:zA).Ring).Data)),Ii (((⟨t_1,[],[],r_2.1,(0:Int),(0:Int)⟩:zA).Ring).Start),Ii (((⟨t_1,[],[],r_2.1,(0:Int),(0:Int)⟩:zA).Ring).End),Ii (((⟨t_1,[],[],r_2.1,(0:Int),(0:Int)⟩:zA).Ring).First),Ii (((⟨t_1,[],[],r_2.1,(0:Int),(0:Int)⟩:zA).Ring).Next),Ii ((⟨t_1,[],[],r_2.1,(0:Int),(0:Int)⟩:zA).Last),Ii ((⟨t_1,[],[],r_2.1,(0:Int),(0:Int)⟩:zA).Sent)])] (ar 32 (ac (rfl:xH [Ii (((⟨t_1,[],[],r_2.1,(0:Int),(0:Int)⟩:zA).Thread).Id),.str (((⟨t_1,[],[],r_2.1,(0:Int),(0:Int)⟩:zA).Thread).Name),Ii (((⟨t_1,[],[],r_2.1,(0:Int),(0:Int)⟩:zA).Thread).Domain),.sl false 1 (Ms ((⟨t_1,[],[],r_2.1,(0:Int),(0:Int)⟩:zA).Names)),.sl false 2 (Mp zD ((⟨t_1,[],[],r_2.1,(0:Int),(0:Int)⟩:zA).Stacks)),Ii (((⟨t_1,[],[],r_2.1,(0:Int),(0:Int)⟩:zA).Ring).Policy),.sl false 1 (Mb (((⟨t_1,[],[],r_2.1,(0:Int),(0:Int)⟩:zA).Ring).Data)),Ii (((⟨t_1,[],[],r_2.1,(0:Int),(0:Int)⟩:zA).Ring).Start),Ii (((⟨t_1,[],[],r_2.1,(0:Int),(0:Int)⟩:zA).Ring).End),Ii (((⟨t_1,[],[],r_2.1,(0:Int),(0:Int)⟩:zA).Ring).First),Ii (((⟨t_1,[],[],r_2.1,(0:Int),(0:Int)⟩:zA).Ring).Next),Ii ((⟨t_1,[],[],r_2.1,(0:Int),(0:Int)⟩:zA).Last),Ii ((⟨t_1,[],[],r_2.1,(0:Int),(0:Int)⟩:zA).Sent)]=true) (ac (rfl:(Ii t_1.Id:AV)=Ii (((⟨t_1,[],[],r_2.1,(0:Int),(0:Int)⟩:zA).Thread).Id)) (ac (rfl:(.str t_1.Name:AV)=.str (((⟨t_1,[],[],r_2.1,(0:Int),(0:Int)⟩:zA).Thread).Name)) (ac (rfl:(Ii t_1.Domain:AV)=Ii (((⟨t_1,[],[],r_2.1,(0:Int),(0:Int)⟩:zA).Thread).Domain)) (ac (rfl:((Ms ((⟨t_1,[],[],r_2.1,(0:Int),(0:Int)⟩:zA).Names)):List AV)=[]) (ac (rfl:((Mp zD ((⟨t_1,[],[],r_2.1,(0:Int),(0:Int)⟩:zA).Stacks)):List AV)=[]) (ac (rfl:(Ii r_2.1.Policy:AV)=Ii (((⟨t_1,[],[],r_2.1,(0:Int),(0:Int)⟩:zA).Ring).Policy)) (ar 1 (ac (rfl:((Mb r_2.1.Data):List AV)=(Mb (((⟨t_1,[],[],r_2.1,(0:Int),(0:Int)⟩:zA).Ring).Data))) (ac (rfl:(!false||false)=true) (ac (rfl:(Ii r_2.1.Start:AV)=Ii (((⟨t_1,[],[],r_2.1,(0:Int),(0:Int)⟩:zA).Ring).Start)) (ac (rfl:(Ii r_2.1.End:AV)=Ii (((⟨t_1,[],[],r_2.1,(0:Int),(0:Int)⟩:zA).Ring).End)) (ac (rfl:(Ii r_2.1.First:AV)=Ii (((⟨t_1,[],[],r_2.1,(0:Int),(0:Int)⟩:zA).Ring).First)) (ac (rfl:(Ii r_2.1.Next:AV)=Ii (((⟨t_1,[],[],r_2.1,(0:Int),(0:Int)⟩:zA).Ring).Next)) (ac (rfl:(Ii 0:AV)=Ii ((⟨t_1,[],[],r_2.1,(0:Int),(0:Int)⟩:zA).Last)) (ac (rfl:(Ii 0:AV)=Ii ((⟨t_1,[],[],r_2.1,(0:Int),(0:Int)⟩:zA).Sent)) an))))))))))))))))) ?_
 refine rt ?_
 cases h
 exact ⟨.inr rfl,Nat.le_of_ble_eq_true rfl,by kernel_rfl⟩
theorem zAc (at__1:Int) (r:zF) (h:nN at__1=some r):zN prog 26 [] [] [Ii at__1] [] (zJ r):=by
 refine zV (fn:=Go.Proofs.Try.f26) (code:=yG Go.Proofs.Try.f26) (by kernel_rfl) (by kernel_rfl) (Nat.le_of_ble_eq_true (by kernel_rfl)) ?_
 unfold nN at h
 refine sr [(0,{ id:=0 })] [0,2] [0] 1 [Ii at__1,Pp 0] [Vb 45 [Ii 0,Ii 0,.str ([]:List Int),Ii 0,Ii 0,.nilsl]] zE an ?_
 refine sr [] [2] [0] 1 [Pp 0] [Vb 45 [Ii at__1,Ii 3,.str ([97]:List Int),Ii 0,Ii 0,.nilsl]] zE an ?_
 refine wk [0] [] [.s 2] [.a 0 (Vb 45 (zQ (⟨at__1,(3:Int),([97]:List Int),(0:Int),(0:Int),[]⟩:zF)))] [(2,Pp 0)] [(0,Vb 45 (zQ (⟨at__1,(3:Int),([97]:List Int),(0:Int),(0:Int),[]⟩:zF)))] (ar 45 (ac (rfl:xH [Ii ((⟨at__1,(3:Int),([97]:List Int),(0:Int),(0:Int),[]⟩:zF).At),Ii ((⟨at__1,(3:Int),([97]:List Int),(0:Int),(0:Int),[]⟩:zF).Kind),.str ((⟨at__1,(3:Int),([97]:List Int),(0:Int),(0:Int),[]⟩:zF).Name),Ii ((⟨at__1,(3:Int),([97]:List Int),(0:Int),(0:Int),[]⟩:zF).N),Ii ((⟨at__1,(3:Int),([97]:List Int),(0:Int),(0:Int),[]⟩:zF).M),.sl false 1 (Ms ((⟨at__1,(3:Int),([97]:List Int),(0:Int),(0:Int),[]⟩:zF).Stack))]=true) (ac (rfl:(Ii at__1:AV)=Ii ((⟨at__1,(3:Int),([97]:List Int),(0:Int),(0:Int),[]⟩:zF).At)) (ac (rfl:(Ii 3:AV)=Ii ((⟨at__1,(3:Int),([97]:List Int),(0:Int),(0:Int),[]⟩:zF).Kind)) (ac (rfl:(.str ([97]:List Int):AV)=.str ((⟨at__1,(3:Int),([97]:List Int),(0:Int),(0:Int),[]⟩:zF).Name)) (ac (rfl:(Ii 0:AV)=Ii ((⟨at__1,(3:Int),([97]:List Int),(0:Int),(0:Int),[]⟩:zF).N)) (ac (rfl:(Ii 0:AV)=Ii ((⟨at__1,(3:Int),([97]:List Int),(0:Int),(0:Int),[]⟩:zF).M)) (ac (rfl:((Ms ((⟨at__1,(3:Int),([97]:List Int),(0:Int),(0:Int),[]⟩:zF).Stack)):List AV)=[]) an)))))))) ?_
 refine rt ?_
 cases h
 exact ⟨.inr rfl,Nat.le_of_ble_eq_true rfl,by kernel_rfl⟩
theorem zBV (F:Nat) (names_1:List (List Int)) (r:Int) (h:uR F names_1=some r):zN prog 78 [] [] [.sl false 1 (Ms names_1)] [] (Ii r):=by
 refine zV (fn:=Go.Proofs.Try.f78) (code:=yG Go.Proofs.Try.f78) (by kernel_rfl) (by kernel_rfl) (Nat.le_of_ble_eq_true (by kernel_rfl)) ?_
 unfold uR at h
 refine sr [] [0] [] 0 [.sl false 1 (Ms names_1)] [] zE an ?_
 refine sr [(0,{ id:=0,mag:=false,mks:=[.str] })] [0,3] [0] 1 [.sl false 1 (Ms names_1),.mp 0] [.live (.map false [.str] [])] zE an ?_
 refine sq ?_
 refine sr [(1,{ n:=(names_1).length })] [3,8,9,10] [0] 1 [.mp 0,.sl false 1 (Ms names_1),Ii (lN (names_1)),Ii 0] [.live (.map false [.str] [])] zE (ac (yA _:((Ms names_1)).length=(names_1).length) an) ?_
 obtain ⟨o_1,h_1,h⟩:=bind_some h
 refine xS (K1:=(fun e st'=>match o_1 with | (.inl q0)=>e=.normal∧Sub 0 st' (mk [] [] 0) | (.inr q1)=>e=.ret∧tO prog Go.Proofs.Try.f78 0 [] (Ii q1) st')) ?_ ?_
 ·replace h:=h_1
  refine z7 (id:=0) (by kernel_rfl) ?_
  refine wk [0] [] [.s 3,.s 8,.s 9,.s 10] [.s 0] [(3,.mp 0),(8,.sl false 1 (Ms names_1)),(9,Ii (lN (names_1))),(10,Ii 0)] [(0,.live (.map false [.str] []))] an ?_
  refine y9 (fun n st=>∃ (v_1:Int),∃ (row_1:List ((List Int)×Bool)),st=mk [(3,.mp 0),(8,.sl false 1 (Ms names_1)),(9,Ii (lN (names_1))),(10,Ii v_1)] [(0,.live (.map false [.str] (List.map (mpE AV.str AV.bool) row_1)))] 1∧wL F names_1 n v_1 row_1=some o_1) F (by kernel_rfl) ⟨_,_,rfl,h⟩ ?_ ?_
  ·rintro _ ⟨_,_,_,h⟩;exact xJ (h:(none:Option (Unit⊕Int))=some o_1)
  rintro n_1 _ ⟨v_1,row_1,rfl,h⟩
  replace h:xE F names_1 (wL F names_1 n_1) v_1 row_1=some o_1:=h
  unfold xE at h
  refine sr [] [3,8,9,10,11] [0] 1 [.mp 0,.sl false 1 (Ms names_1),Ii (lN (names_1)),Ii v_1,.bool (decide (v_1<(lN (names_1))))] [.live (.map false [.str] (List.map (mpE AV.str AV.bool) row_1))] zE an ?_
  refine sq ?_
  refine cd 11 (decide (v_1<(lN (names_1)))) ?_ ?_
  rotate_left
  ·intro g_1;replace h:=zR g_1 h
   refine xF (id:=0) (by kernel_rfl) ?_
   cases h
   exact ⟨rfl,(sw [] [] [] [] an)⟩
  intro g_1;replace h:=zS g_1 h
  refine sk ?_
  refine sq ?_
  refine z7 (id:=1) (by kernel_rfl) ?_
  refine sq ?_
  obtain ⟨x_1,h_2,h⟩:=bind_some h
  refine rg [(0,{ av:=.str x_1 })] [3,5,8,9,10] [0] 1 [.mp 0,.str x_1,.sl false 1 (Ms names_1),Ii (lN (names_1)),Ii v_1] [.live (.map false [.str] (List.map (mpE AV.str AV.bool) row_1))] zE (ac (uB h_2:tB (Ms names_1) v_1=some (.str x_1)) an) ?_
  refine sq ?_
  refine sq ?_
  obtain ⟨r_1,h_3,h⟩:=bind_some h
  refine rg [(1,{ av:=Ii r_1,l:=[.str x_1] })] [3,5,6,8,9,10] [0] 1 [.mp 0,.str x_1,Ii r_1,.sl false 1 (Ms names_1),Ii (lN (names_1)),Ii v_1] [.live (.map false [.str] (List.map (mpE AV.str AV.bool) row_1))] zE (ar ([.str x_1]:List AV) (ac (rfl:([]:List zP)=[]) (ac (qS F x_1 r_1 h_3:zN prog 29 [] [] [.str x_1] [] (Ii r_1)) an))) ?_
  refine sr [] [3,5,6,8,9,10,17] [0] 1 [.mp 0,.str x_1,Ii r_1,.sl false 1 (Ms names_1),Ii (lN (names_1)),Ii v_1,.bool (r_1 != (0:Int))] [.live (.map false [.str] (List.map (mpE AV.str AV.bool) row_1))] zE an ?_
  refine cd 17 (r_1 != (0:Int)) ?_ ?_
  ·intro g_2;replace h:=zS g_2 h
   refine sr [] [2] [] 1 [Ii r_1] [] zE an ?_
   refine rt ?_
   cases h
   exact ⟨rfl,Nat.le_of_ble_eq_true rfl,by kernel_rfl⟩
  intro g_2;replace h:=zR g_2 h
  refine sk ?_
  refine sq ?_
  refine sr [(2,{ av:=(.bool ((vN row_1 x_1).getD false)),g:=(vN row_1 x_1).isSome })] [3,5,8,9,10,21] [0] 1 [.mp 0,.str x_1,.sl false 1 (Ms names_1),Ii (lN (names_1)),Ii v_1,.bool ((vN row_1 x_1).getD false)] [.live (.map false [.str] (List.map (mpE AV.str AV.bool) row_1))] zE (ac (zIn:tY prog 9 false [.str]) (ac (zFI (f:=AV.str) (g:=AV.bool) zIu row_1 x_1 false:zEF (List.map (mpE AV.str AV.bool) row_1) (.str x_1) (.bool false) (.bool ((vN row_1 x_1).getD false)) (vN row_1 x_1).isSome) an)) ?_
  refine cd 21 ((vN row_1 x_1).getD false) ?_ ?_
  ·intro g_3;replace h:=zS g_3 h
   refine sr [] [2] [] 1 [Ii 4] [] zE an ?_
   refine rt ?_
   cases h
   exact ⟨rfl,Nat.le_of_ble_eq_true rfl,by kernel_rfl⟩
  intro g_3;replace h:=zR g_3 h
  refine sk ?_
  obtain ⟨_,h_4,h⟩:=bind_some h;replace h_4:=z9 h_4
  refine rg [(2,{ es:=(List.map (mpE AV.str AV.bool) (vU row_1 x_1 true)) })] [3,8,9,10] [0] 1 [.mp 0,.sl false 1 (Ms names_1),Ii (lN (names_1)),Ii v_1] [.live (.map false [.str] (List.map (mpE AV.str AV.bool) (vU row_1 x_1 true)))] zE (ac (zIn:tY prog 9 false [.str]) (ac (zHI (f:=AV.str) (g:=AV.bool) zIu row_1 x_1 true:zGZ (List.map (mpE AV.str AV.bool) row_1) (.str x_1) (.bool true) (List.map (mpE AV.str AV.bool) (vU row_1 x_1 true))) (ac (zIt (l:=row_1) h_4:((List.map (mpE AV.str AV.bool) row_1):List (AV×AV)).length<maxLen) an))) ?_
  refine rg [] [3,8,9,10] [0] 1 [.mp 0,.sl false 1 (Ms names_1),Ii (lN (names_1)),Ii (zG (v_1+(1:Int)))] [.live (.map false [.str] (List.map (mpE AV.str AV.bool) (vU row_1 x_1 true)))] zE an ?_
  exact ⟨_,(sw [0] [] [.s 3,.s 8,.s 9,.s 10] [.s 0] an),_,_,rfl,h⟩
 intro e st1 hk
 rcases o_1 with q_1 | q_2
 rotate_left
 ·obtain ⟨rfl,hf⟩:=hk
  cases h
  exact ⟨st1,Sub.refl _ _,.inr rfl,hf⟩
 obtain ⟨rfl,hs⟩:=hk
 refine ⟨_,hs,?_⟩
 refine sr [] [2] [] 0 [Ii 0] [] zE an ?_
 refine rt ?_
 cases h
 exact ⟨.inr rfl,Nat.le_of_ble_eq_true rfl,by kernel_rfl⟩
theorem jY (F:Nat) (names_1:List (List Int)) (stacks_1:List (zI)) (r:Int) (h:uE F names_1 stacks_1=some r):zN prog 50 [] [] [.sl false 1 (Ms names_1),.sl false 2 (Mp zD stacks_1)] [] (Ii r):=by
 refine zV (fn:=Go.Proofs.Try.f50) (code:=yG Go.Proofs.Try.f50) (by kernel_rfl) (by kernel_rfl) (Nat.le_of_ble_eq_true (by kernel_rfl)) ?_
 unfold uE at h
 refine sr [] [0,1] [] 0 [.sl false 1 (Ms names_1),.sl false 2 (Mp zD stacks_1)] [] zE an ?_
 refine sq ?_
 refine sq ?_
 refine yB (mk [(0,.sl false 1 (Ms names_1)),(1,.sl false 2 (Mp zD stacks_1)),(17,.bool (decide ((lN (names_1))>(1000:Int))||decide ((lN (stacks_1))>(1000:Int))))] [] 0) ?_ ?_
 ·rcases bft (decide ((lN (names_1))>(1000:Int))) with gg_1 | gg_1
  ·refine rg [(1,{ n:=(names_1).length }),(4,Hg),(5,Hg),(6,Hg),(7,Ht)] [0,1,17] [] 0 [.sl false 1 (Ms names_1),.sl false 2 (Mp zD stacks_1),.bool true] [] zE (ac (yA _:((Ms names_1)).length=(names_1).length) (ac gg_1 (ac gg_1 (ac gg_1 (ac gg_1 an))))) ?_
   exact ⟨rfl,(sw [] [] [.s 0,.s 1,.a 17 (.bool (decide ((lN (names_1))>(1000:Int))||decide ((lN (stacks_1))>(1000:Int))))] [] (ac (congrArg AV.bool (ort gg_1):(.bool true:AV)=.bool (decide ((lN (names_1))>(1000:Int))||decide ((lN (stacks_1))>(1000:Int)))) an))⟩
  ·refine rg [(1,{ n:=(names_1).length }),(5,{ n:=(stacks_1).length }),(7,Hf)] [0,1,17] [] 0 [.sl false 1 (Ms names_1),.sl false 2 (Mp zD stacks_1),.bool (decide ((lN (stacks_1))>(1000:Int)))] [] zE (ac (yA _:((Ms names_1)).length=(names_1).length) (ac gg_1 (ac gg_1 (ac (yA _:((Mp zD stacks_1)).length=(stacks_1).length) (ac gg_1 (ac gg_1 an)))))) ?_
   exact ⟨rfl,(sw [] [] [.s 0,.s 1,.a 17 (.bool (decide ((lN (names_1))>(1000:Int))||decide ((lN (stacks_1))>(1000:Int))))] [] (ac (congrArg AV.bool (orf gg_1 rfl):(.bool (decide ((lN (stacks_1))>(1000:Int))):AV)=.bool (decide ((lN (names_1))>(1000:Int))||decide ((lN (stacks_1))>(1000:Int)))) an))⟩
 refine cd 17 (decide ((lN (names_1))>(1000:Int))||decide ((lN (stacks_1))>(1000:Int))) ?_ ?_
 ·intro g_1;replace h:=zS g_1 h
  refine sr [] [4] [] 0 [Ii 7] [] zE an ?_
  refine rt ?_
  cases h
  exact ⟨.inr rfl,Nat.le_of_ble_eq_true rfl,by kernel_rfl⟩
 intro g_1;replace h:=zR g_1 h
 refine sk ?_
 refine sq ?_
 refine sq ?_
 obtain ⟨r_1,h_1,h⟩:=bind_some h
 refine rg [(1,{ av:=Ii r_1,l:=[.sl false 1 (Ms names_1)] })] [0,1,5] [] 0 [.sl false 1 (Ms names_1),.sl false 2 (Mp zD stacks_1),Ii r_1] [] zE (ar ([.sl false 1 (Ms names_1)]:List AV) (ac (rfl:([]:List zP)=[]) (ac (zBV F names_1 r_1 h_1:zN prog 78 [] [] [.sl false 1 (Ms names_1)] [] (Ii r_1)) an))) ?_
 refine sr [] [0,1,5,21] [] 0 [.sl false 1 (Ms names_1),.sl false 2 (Mp zD stacks_1),Ii r_1,.bool (r_1 != (0:Int))] [] zE an ?_
 refine cd 21 (r_1 != (0:Int)) ?_ ?_
 ·intro g_2;replace h:=zS g_2 h
  refine sr [] [4] [] 0 [Ii r_1] [] zE an ?_
  refine rt ?_
  cases h
  exact ⟨.inr rfl,Nat.le_of_ble_eq_true rfl,by kernel_rfl⟩
 intro g_2;replace h:=zR g_2 h
 refine sk ?_
 refine sr [(0,{ id:=0,mag:=true,mks:=[.int .i64,.int .i64] })] [0,1,6] [0] 1 [.sl false 1 (Ms names_1),.sl false 2 (Mp zD stacks_1),.mp 0] [.live (.map true [.int .i64,.int .i64] [])] zE an ?_
 refine sq ?_
 obtain ⟨_,h_2,h⟩:=bind_some h;replace h_2:=z9 h_2
 refine rg [(1,{ n:=(stacks_1).length }),(2,{ id:=1,l:=(Mi (List.replicate ((stacks_1).length) (0:Int))),m:=(stacks_1).length,n:=(stacks_1).length })] [0,1,6,7] [0,1] 2 [.sl false 1 (Ms names_1),.sl false 2 (Mp zD stacks_1),.mp 0,.own 1 ((stacks_1).length)] [.live (.map true [.int .i64,.int .i64] []),Rb 3 1 (Mi (List.replicate ((stacks_1).length) (0:Int)))] zE (ac (yA _:((Mp zD stacks_1)).length=(stacks_1).length) (ar (lN (stacks_1)) (ar (lN (stacks_1)) (ac (Nat.le_refl _:((stacks_1).length)≤((stacks_1).length)) (ac h_2 (ac (zER:(Mi (List.replicate ((stacks_1).length) (0:Int)))=List.replicate ((stacks_1).length) (Ii 0)) an)))))) ?_
 refine sq ?_
 refine sr [(1,{ n:=(stacks_1).length })] [0,6,7,27,28,29] [0,1] 2 [.sl false 1 (Ms names_1),.mp 0,.own 1 ((stacks_1).length),.sl false 2 (Mp zD stacks_1),Ii (lN (stacks_1)),Ii 0] [.live (.map true [.int .i64,.int .i64] []),Rb 3 1 (Mi (List.replicate ((stacks_1).length) (0:Int)))] zE (ac (yA _:((Mp zD stacks_1)).length=(stacks_1).length) an) ?_
 obtain ⟨o_1,h_3,h⟩:=bind_some h
 refine xS (K1:=(fun e st'=>match o_1 with | (.inl q0)=>e=.normal∧Sub 0 st' (mk [] [] 0) | (.inr q1)=>e=.ret∧tO prog Go.Proofs.Try.f50 0 [] (Ii q1) st')) ?_ ?_
 ·replace h:=h_3
  refine z7 (id:=0) (by kernel_rfl) ?_
  refine wk [0,1] [] [.s 0,.s 6,.a 7 (.own 1 (((List.replicate ((stacks_1).length) (0:Int))).length)),.s 27,.s 28,.s 29] [.s 0,.s 1] [(0,.sl false 1 (Ms names_1)),(6,.mp 0),(7,.own 1 (((List.replicate ((stacks_1).length) (0:Int))).length)),(27,.sl false 2 (Mp zD stacks_1)),(28,Ii (lN (stacks_1))),(29,Ii 0)] [(0,.live (.map true [.int .i64,.int .i64] [])),(1,Rb 3 1 (Mi (List.replicate ((stacks_1).length) (0:Int))))] (ac (congrArg (AV.own _) List.length_replicate.symm:(.own 1 ((stacks_1).length):AV)=.own 1 (((List.replicate ((stacks_1).length) (0:Int))).length)) an) ?_
  refine y9 (fun n st=>∃ (v_1:Int),∃ (row_1:List (zI×Bool)),∃ (row_2:List Int),st=mk [(0,.sl false 1 (Ms names_1)),(6,.mp 0),(7,.own 1 ((row_2).length)),(27,.sl false 2 (Mp zD stacks_1)),(28,Ii (lN (stacks_1))),(29,Ii v_1)] [(0,.live (.map true [.int .i64,.int .i64] (List.map (mpE zD AV.bool) row_1))),(1,Rb 3 1 (Mi row_2))] 2∧uH F names_1 stacks_1 n v_1 row_1 row_2=some o_1) F (by kernel_rfl) ⟨_,_,_,rfl,h⟩ ?_ ?_
  ·rintro _ ⟨_,_,_,_,h⟩;exact xJ (h:(none:Option (Unit⊕Int))=some o_1)
  rintro n_1 _ ⟨v_1,row_1,row_2,rfl,h⟩
  replace h:vH F names_1 stacks_1 (uH F names_1 stacks_1 n_1) v_1 row_1 row_2=some o_1:=h
  unfold vH at h
  refine sr [] [0,6,7,27,28,29,30] [0,1] 2 [.sl false 1 (Ms names_1),.mp 0,.own 1 ((row_2).length),.sl false 2 (Mp zD stacks_1),Ii (lN (stacks_1)),Ii v_1,.bool (decide (v_1<(lN (stacks_1))))] [.live (.map true [.int .i64,.int .i64] (List.map (mpE zD AV.bool) row_1)),Rb 3 1 (Mi row_2)] zE an ?_
  refine sq ?_
  refine cd 30 (decide (v_1<(lN (stacks_1)))) ?_ ?_
  rotate_left
  ·intro g_3;replace h:=zR g_3 h
   refine xF (id:=0) (by kernel_rfl) ?_
   cases h
   exact ⟨rfl,(sw [] [] [] [] an)⟩
  intro g_3;replace h:=zS g_3 h
  refine sk ?_
  refine sq ?_
  refine z7 (id:=1) (by kernel_rfl) ?_
  refine sq ?_
  obtain ⟨x_1,h_4,h⟩:=bind_some h
  refine rg [(1,{ av:=.agg [Ii x_1.c0,Ii x_1.c1] }),(3,{ id:=2 })] [0,6,7,8,9,27,28,29] [0,1,2] 3 [.sl false 1 (Ms names_1),.mp 0,.own 1 ((row_2).length),Ii v_1,Pp 2,.sl false 2 (Mp zD stacks_1),Ii (lN (stacks_1)),Ii v_1] [.live (.map true [.int .i64,.int .i64] (List.map (mpE zD AV.bool) row_1)),Rb 3 1 (Mi row_2),Vb 84 [Ii x_1.c0,Ii x_1.c1]] zE (ac (uB h_4:tB (Mp zD stacks_1) v_1=some (.agg [Ii x_1.c0,Ii x_1.c1])) an) ?_
  refine sq ?_
  refine z7 (id:=2) (by kernel_rfl) ?_
  refine sq ?_
  refine yB (mk [(0,.sl false 1 (Ms names_1)),(6,.mp 0),(7,.own 1 ((row_2).length)),(8,Ii v_1),(9,Pp 2),(27,.sl false 2 (Mp zD stacks_1)),(28,Ii (lN (stacks_1))),(29,Ii v_1),(34,.bool (decide (x_1.c0<(-1:Int))||(decide (x_1.c0≥v_1)||(decide (x_1.c1<(0:Int))||decide (x_1.c1≥(lN (names_1)))))))] [(0,.live (.map true [.int .i64,.int .i64] (List.map (mpE zD AV.bool) row_1))),(1,Rb 3 1 (Mi row_2)),(2,Vb 84 [Ii x_1.c0,Ii x_1.c1])] 3) ?_ ?_
  ·rcases bft (decide (x_1.c0<(-1:Int))) with gg_11 | gg_11
   ·refine rg [(4,Hg),(5,Hg),(6,Hg),(7,Hg),(8,Ht),(10,Hg),(11,Hg),(12,Hg),(13,Ht),(15,Hg),(16,Hg),(17,Hg),(18,Hg),(19,Hg),(20,Ht)] [0,6,7,8,9,27,28,29,34,39,40,41,42,45,46,47,50,51,52,53,54] [0,1,2] 3 [.sl false 1 (Ms names_1),.mp 0,.own 1 ((row_2).length),Ii v_1,Pp 2,.sl false 2 (Mp zD stacks_1),Ii (lN (stacks_1)),Ii v_1,.bool true,.tuple [],.tuple [],.tuple [],.tuple [],.tuple [],.tuple [],.tuple [],.tuple [],.tuple [],.tuple [],.tuple [],.tuple []] [.live (.map true [.int .i64,.int .i64] (List.map (mpE zD AV.bool) row_1)),Rb 3 1 (Mi row_2),Vb 84 [Ii x_1.c0,Ii x_1.c1]] zE (ac (by decide:(0:Int)≤(0:Int)) (ac (by decide:(0:Int)<((2:Nat):Int)) (ac gg_11 (ac gg_11 (ac gg_11 (ac gg_11 (ac gg_11 (ax (ax (ax (ar true (ax (ax (ax (ax (ax (ar true an))))))))))))))))) ?_
    exact ⟨rfl,(sw [0,1,2] [] [.s 0,.s 6,.s 7,.s 8,.s 9,.s 27,.s 28,.s 29,.a 34 (.bool (decide (x_1.c0<(-1:Int))||(decide (x_1.c0≥v_1)||(decide (x_1.c1<(0:Int))||decide (x_1.c1≥(lN (names_1)))))))] [.s 0,.s 1,.s 2] (ac (congrArg AV.bool (ort gg_11):(.bool true:AV)=.bool (decide (x_1.c0<(-1:Int))||(decide (x_1.c0≥v_1)||(decide (x_1.c1<(0:Int))||decide (x_1.c1≥(lN (names_1))))))) an))⟩
   ·rcases bft (decide (x_1.c0≥v_1)) with gg_12 | gg_12
    ·refine rg [(8,Hf),(10,Hg),(11,Hg),(12,Hg),(13,Ht),(15,Hg),(16,Hg),(17,Hg),(18,Hg),(19,Hg),(20,Ht)] [0,6,7,8,9,27,28,29,34,39,40,41,42,45,46,47,50,51,52,53,54] [0,1,2] 3 [.sl false 1 (Ms names_1),.mp 0,.own 1 ((row_2).length),Ii v_1,Pp 2,.sl false 2 (Mp zD stacks_1),Ii (lN (stacks_1)),Ii v_1,.bool true,Pp 2,Ii x_1.c0,Ii v_1,.bool (decide (x_1.c0≥v_1)),.tuple [],.tuple [],.tuple [],.tuple [],.tuple [],.tuple [],.tuple [],.tuple []] [.live (.map true [.int .i64,.int .i64] (List.map (mpE zD AV.bool) row_1)),Rb 3 1 (Mi row_2),Vb 84 [Ii x_1.c0,Ii x_1.c1]] zE (ac (by decide:(0:Int)≤(0:Int)) (ac (by decide:(0:Int)<((2:Nat):Int)) (ac gg_11 (ac (by decide:(0:Int)≤(0:Int)) (ac (by decide:(0:Int)<((2:Nat):Int)) (ac gg_11 (ac gg_11 (ac gg_11 (ac gg_11 (ac gg_12 (ac gg_12 (ac gg_12 (ac gg_12 (ax (ax (ax (ax (ax (ar true an))))))))))))))))))) ?_
     exact ⟨rfl,(sw [0,1,2] [] [.s 0,.s 6,.s 7,.s 8,.s 9,.s 27,.s 28,.s 29,.a 34 (.bool (decide (x_1.c0<(-1:Int))||(decide (x_1.c0≥v_1)||(decide (x_1.c1<(0:Int))||decide (x_1.c1≥(lN (names_1)))))))] [.s 0,.s 1,.s 2] (ac (congrArg AV.bool (orf gg_11 (ort gg_12)):(.bool true:AV)=.bool (decide (x_1.c0<(-1:Int))||(decide (x_1.c0≥v_1)||(decide (x_1.c1<(0:Int))||decide (x_1.c1≥(lN (names_1))))))) an))⟩
    ·rcases bft (decide (x_1.c1<(0:Int))) with gg_13 | gg_13
     ·refine rg [(8,Hf),(13,Hf),(15,Hg),(16,Hg),(17,Hg),(18,Hg),(19,Hg),(20,Ht)] [0,6,7,8,9,27,28,29,34,39,40,41,42,45,46,47,50,51,52,53,54] [0,1,2] 3 [.sl false 1 (Ms names_1),.mp 0,.own 1 ((row_2).length),Ii v_1,Pp 2,.sl false 2 (Mp zD stacks_1),Ii (lN (stacks_1)),Ii v_1,.bool true,Pp 2,Ii x_1.c0,Ii v_1,.bool (decide (x_1.c0≥v_1)),.ptr 2 0 0 1,Ii x_1.c1,.bool (decide (x_1.c1<(0:Int))),.tuple [],.tuple [],.tuple [],.tuple [],.tuple []] [.live (.map true [.int .i64,.int .i64] (List.map (mpE zD AV.bool) row_1)),Rb 3 1 (Mi row_2),Vb 84 [Ii x_1.c0,Ii x_1.c1]] zE (ac (by decide:(0:Int)≤(0:Int)) (ac (by decide:(0:Int)<((2:Nat):Int)) (ac gg_11 (ac (by decide:(0:Int)≤(0:Int)) (ac (by decide:(0:Int)<((2:Nat):Int)) (ac gg_11 (ac gg_11 (ac gg_11 (ac gg_11 (ac gg_12 (ac (by decide:(0:Int)≤(1:Int)) (ac (by decide:(1:Int)<((2:Nat):Int)) (ac gg_12 (ac gg_12 (ac gg_12 (ac gg_13 (ac gg_13 (ac gg_13 (ac gg_13 (ac gg_13 (ac gg_13 an))))))))))))))))))))) ?_
      exact ⟨rfl,(sw [0,1,2] [] [.s 0,.s 6,.s 7,.s 8,.s 9,.s 27,.s 28,.s 29,.a 34 (.bool (decide (x_1.c0<(-1:Int))||(decide (x_1.c0≥v_1)||(decide (x_1.c1<(0:Int))||decide (x_1.c1≥(lN (names_1)))))))] [.s 0,.s 1,.s 2] (ac (congrArg AV.bool (orf gg_11 (orf gg_12 (ort gg_13))):(.bool true:AV)=.bool (decide (x_1.c0<(-1:Int))||(decide (x_1.c0≥v_1)||(decide (x_1.c1<(0:Int))||decide (x_1.c1≥(lN (names_1))))))) an))⟩
     ·refine rg [(8,Hf),(13,Hf),(18,{ n:=(names_1).length }),(20,Hf)] [0,6,7,8,9,27,28,29,34,39,40,41,42,45,46,47,50,51,52,53,54] [0,1,2] 3 [.sl false 1 (Ms names_1),.mp 0,.own 1 ((row_2).length),Ii v_1,Pp 2,.sl false 2 (Mp zD stacks_1),Ii (lN (stacks_1)),Ii v_1,.bool (decide (x_1.c1≥(lN (names_1)))),Pp 2,Ii x_1.c0,Ii v_1,.bool (decide (x_1.c0≥v_1)),.ptr 2 0 0 1,Ii x_1.c1,.bool (decide (x_1.c1<(0:Int))),.ptr 2 0 0 1,Ii x_1.c1,.sl false 1 (Ms names_1),Ii (lN (names_1)),.bool (decide (x_1.c1≥(lN (names_1))))] [.live (.map true [.int .i64,.int .i64] (List.map (mpE zD AV.bool) row_1)),Rb 3 1 (Mi row_2),Vb 84 [Ii x_1.c0,Ii x_1.c1]] zE (ac (by decide:(0:Int)≤(0:Int)) (ac (by decide:(0:Int)<((2:Nat):Int)) (ac gg_11 (ac (by decide:(0:Int)≤(0:Int)) (ac (by decide:(0:Int)<((2:Nat):Int)) (ac gg_11 (ac gg_11 (ac gg_11 (ac gg_11 (ac gg_12 (ac (by decide:(0:Int)≤(1:Int)) (ac (by decide:(1:Int)<((2:Nat):Int)) (ac gg_12 (ac gg_12 (ac gg_12 (ac gg_13 (ac (by decide:(0:Int)≤(1:Int)) (ac (by decide:(1:Int)<((2:Nat):Int)) (ac gg_13 (ac gg_13 (ac gg_13 (ac (yA _:((Ms names_1)).length=(names_1).length) (ac gg_13 (ac gg_13 an)))))))))))))))))))))))) ?_
      exact ⟨rfl,(sw [0,1,2] [] [.s 0,.s 6,.s 7,.s 8,.s 9,.s 27,.s 28,.s 29,.a 34 (.bool (decide (x_1.c0<(-1:Int))||(decide (x_1.c0≥v_1)||(decide (x_1.c1<(0:Int))||decide (x_1.c1≥(lN (names_1)))))))] [.s 0,.s 1,.s 2] (ac (congrArg AV.bool (orf gg_11 (orf gg_12 (orf gg_13 rfl))):(.bool (decide (x_1.c1≥(lN (names_1)))):AV)=.bool (decide (x_1.c0<(-1:Int))||(decide (x_1.c0≥v_1)||(decide (x_1.c1<(0:Int))||decide (x_1.c1≥(lN (names_1))))))) an))⟩
  refine cd 34 (decide (x_1.c0<(-1:Int))||(decide (x_1.c0≥v_1)||(decide (x_1.c1<(0:Int))||decide (x_1.c1≥(lN (names_1)))))) ?_ ?_
  ·intro g_4;replace h:=zS g_4 h
   refine sr [] [4] [] 3 [Ii 2] [] zE an ?_
   refine rt ?_
   cases h
   exact ⟨rfl,Nat.le_of_ble_eq_true rfl,by kernel_rfl⟩
  intro g_4;replace h:=zR g_4 h
  refine sr [(2,{ av:=(.bool ((vN row_1 x_1).getD false)),g:=(vN row_1 x_1).isSome })] [0,6,7,8,9,27,28,29,56] [0,1,2] 3 [.sl false 1 (Ms names_1),.mp 0,.own 1 ((row_2).length),Ii v_1,Pp 2,.sl false 2 (Mp zD stacks_1),Ii (lN (stacks_1)),Ii v_1,.bool ((vN row_1 x_1).getD false)] [.live (.map true [.int .i64,.int .i64] (List.map (mpE zD AV.bool) row_1)),Rb 3 1 (Mi row_2),Vb 84 [Ii x_1.c0,Ii x_1.c1]] zE (ac (zD2:tY prog 84 true [.int .i64,.int .i64]) (ac (zFI (f:=zD) (g:=AV.bool) pY row_1 x_1 false:zEF (List.map (mpE zD AV.bool) row_1) (.agg [Ii x_1.c0,Ii x_1.c1]) (.bool false) (.bool ((vN row_1 x_1).getD false)) (vN row_1 x_1).isSome) an)) ?_
  refine cd 56 ((vN row_1 x_1).getD false) ?_ ?_
  ·intro g_5;replace h:=zS g_5 h
   refine sr [] [4] [] 3 [Ii 4] [] zE an ?_
   refine rt ?_
   cases h
   exact ⟨rfl,Nat.le_of_ble_eq_true rfl,by kernel_rfl⟩
  intro g_5;replace h:=zR g_5 h
  refine sk ?_
  refine sq ?_
  obtain ⟨_,h_5,h⟩:=bind_some h;replace h_5:=z9 h_5
  refine rg [(2,{ es:=(List.map (mpE zD AV.bool) (vU row_1 x_1 true)) })] [0,6,7,8,9,27,28,29] [0,1,2] 3 [.sl false 1 (Ms names_1),.mp 0,.own 1 ((row_2).length),Ii v_1,Pp 2,.sl false 2 (Mp zD stacks_1),Ii (lN (stacks_1)),Ii v_1] [.live (.map true [.int .i64,.int .i64] (List.map (mpE zD AV.bool) (vU row_1 x_1 true))),Rb 3 1 (Mi row_2),Vb 84 [Ii x_1.c0,Ii x_1.c1]] zE (ac (zD2:tY prog 84 true [.int .i64,.int .i64]) (ac (zHI (f:=zD) (g:=AV.bool) pY row_1 x_1 true:zGZ (List.map (mpE zD AV.bool) row_1) (.agg [Ii x_1.c0,Ii x_1.c1]) (.bool true) (List.map (mpE zD AV.bool) (vU row_1 x_1 true))) (ac (zIt (l:=row_1) h_5:((List.map (mpE zD AV.bool) row_1):List (AV×AV)).length<maxLen) an))) ?_
  refine sq ?_
  obtain ⟨x_2,h_6,h⟩:=bind_some h
  refine rg [(3,{ av:=Ii x_2,l:=(Mi ((row_2).set ((v_1).toNat) (1:Int))) })] [0,6,7,8,9,27,28,29] [0,1,2] 3 [.sl false 1 (Ms names_1),.mp 0,.own 1 ((row_2).length),Ii v_1,Pp 2,.sl false 2 (Mp zD stacks_1),Ii (lN (stacks_1)),Ii v_1] [.live (.map true [.int .i64,.int .i64] (List.map (mpE zD AV.bool) (vU row_1 x_1 true))),Rb 3 1 (Mi ((row_2).set ((v_1).toNat) (1:Int))),Vb 84 [Ii x_1.c0,Ii x_1.c1]] zE (ac (yL h_6:(0:Int)≤v_1) (ac (by first | (simp;done) | simpa using yK h_6:v_1<(((row_2).length:Nat):Int)) (ac (yV h_6:(Mi row_2)[(v_1).toNat]?=some (Ii x_2)) (ac (zBC _ _ _:(Mi ((row_2).set ((v_1).toNat) (1:Int)))=List.set (Mi row_2) ((v_1).toNat) (jR (Ii x_2) 0 [Ii 1])) an)))) ?_
  refine sq ?_
  refine sr [] [0,6,7,8,9,27,28,29,67] [0,1,2] 3 [.sl false 1 (Ms names_1),.mp 0,.own 1 ((row_2).length),Ii v_1,Pp 2,.sl false 2 (Mp zD stacks_1),Ii (lN (stacks_1)),Ii v_1,.bool (x_1.c0 != (-1:Int))] [.live (.map true [.int .i64,.int .i64] (List.map (mpE zD AV.bool) (vU row_1 x_1 true))),Rb 3 1 (Mi ((row_2).set ((v_1).toNat) (1:Int))),Vb 84 [Ii x_1.c0,Ii x_1.c1]] zE (ac (by decide:(0:Int)≤(0:Int)) (ac (by decide:(0:Int)<((2:Nat):Int)) an)) ?_
  obtain ⟨o_2,h_7,h⟩:=bind_some h
  refine yB (mk [(0,.sl false 1 (Ms names_1)),(6,.mp 0),(7,.own 1 ((o_2).length)),(8,Ii v_1),(27,.sl false 2 (Mp zD stacks_1)),(28,Ii (lN (stacks_1))),(29,Ii v_1)] [(0,.live (.map true [.int .i64,.int .i64] (List.map (mpE zD AV.bool) (vU row_1 x_1 true)))),(1,Rb 3 1 (Mi o_2))] 2) ?_ ?_
  ·replace h:=h_7
   refine cd 67 (x_1.c0 != (-1:Int)) ?_ ?_
   rotate_left
   ·intro g_6;replace h:=zR g_6 h
    refine sk ?_
    cases h
    exact ⟨rfl,(sw [0,1] [] [.s 0,.s 6,.a 7 (.own 1 (((row_2).set ((v_1).toNat) (1:Int)).length)),.s 8,.s 27,.s 28,.s 29] [.s 0,.s 1] (ac (congrArg (AV.own _) (by first | (simp;done) | (simp;omega)):(.own 1 ((row_2).length):AV)=.own 1 (((row_2).set ((v_1).toNat) (1:Int)).length)) an))⟩
   intro g_6;replace h:=zS g_6 h
   obtain ⟨x_3,h_8,h⟩:=bind_some h
   obtain ⟨x_4,h_9,h⟩:=bind_some h
   obtain ⟨x_5,h_10,h⟩:=bind_some h
   refine rg [(3,{ av:=Ii x_3 }),(8,{ av:=Ii x_4 }),(11,{ av:=Ii x_5,l:=(Mi (((row_2).set ((v_1).toNat) (1:Int)).set ((v_1).toNat) (zG (x_3+x_4)))) })] [0,6,7,8,27,28,29] [0,1] 3 [.sl false 1 (Ms names_1),.mp 0,.own 1 ((row_2).length),Ii v_1,.sl false 2 (Mp zD stacks_1),Ii (lN (stacks_1)),Ii v_1] [.live (.map true [.int .i64,.int .i64] (List.map (mpE zD AV.bool) (vU row_1 x_1 true))),Rb 3 1 (Mi (((row_2).set ((v_1).toNat) (1:Int)).set ((v_1).toNat) (zG (x_3+x_4))))] zE (ac (yL h_8:(0:Int)≤v_1) (ac (by first | (simp;done) | simpa using yK h_8:v_1<(((row_2).length:Nat):Int)) (ac (yV h_8:(Mi ((row_2).set ((v_1).toNat) (1:Int)))[(v_1).toNat]?=some (Ii x_3)) (ac (by decide:(0:Int)≤(0:Int)) (ac (by decide:(0:Int)<((2:Nat):Int)) (ac (yL h_9:(0:Int)≤x_1.c0) (ac (by first | (simp;done) | simpa using yK h_9:x_1.c0<(((row_2).length:Nat):Int)) (ac (yV h_9:(Mi ((row_2).set ((v_1).toNat) (1:Int)))[(x_1.c0).toNat]?=some (Ii x_4)) (ac (yL h_10:(0:Int)≤v_1) (ac (by first | (simp;done) | simpa using yK h_10:v_1<(((row_2).length:Nat):Int)) (ac (yV h_10:(Mi ((row_2).set ((v_1).toNat) (1:Int)))[(v_1).toNat]?=some (Ii x_5)) (ac (zBC _ _ _:(Mi (((row_2).set ((v_1).toNat) (1:Int)).set ((v_1).toNat) (zG (x_3+x_4))))=List.set (Mi ((row_2).set ((v_1).toNat) (1:Int))) ((v_1).toNat) (jR (Ii x_5) 0 [Ii (zG (x_3+x_4))])) an)))))))))))) ?_
   cases h
   exact ⟨rfl,(sw [0,1] [] [.s 0,.s 6,.a 7 (.own 1 ((((row_2).set ((v_1).toNat) (1:Int)).set ((v_1).toNat) (zG (x_3+x_4))).length)),.s 8,.s 27,.s 28,.s 29] [.s 0,.s 1] (ac (congrArg (AV.own _) (by first | (simp;done) | (simp;omega)):(.own 1 ((row_2).length):AV)=.own 1 ((((row_2).set ((v_1).toNat) (1:Int)).set ((v_1).toNat) (zG (x_3+x_4))).length)) an))⟩
  refine sq ?_
  obtain ⟨x_6,h_11,h⟩:=bind_some h
  refine rg [(3,{ av:=Ii x_6 })] [0,6,7,27,28,29,83] [0,1] 2 [.sl false 1 (Ms names_1),.mp 0,.own 1 ((o_2).length),.sl false 2 (Mp zD stacks_1),Ii (lN (stacks_1)),Ii v_1,.bool (decide (x_6>(32:Int)))] [.live (.map true [.int .i64,.int .i64] (List.map (mpE zD AV.bool) (vU row_1 x_1 true))),Rb 3 1 (Mi o_2)] zE (ac (yL h_11:(0:Int)≤v_1) (ac (by first | (simp;done) | simpa using yK h_11:v_1<(((o_2).length:Nat):Int)) (ac (yV h_11:(Mi o_2)[(v_1).toNat]?=some (Ii x_6)) an))) ?_
  refine cd 83 (decide (x_6>(32:Int))) ?_ ?_
  rotate_left
  ·intro g_7;replace h:=zR g_7 h
   refine sk ?_
   refine rg [] [0,6,7,27,28,29] [0,1] 2 [.sl false 1 (Ms names_1),.mp 0,.own 1 ((o_2).length),.sl false 2 (Mp zD stacks_1),Ii (lN (stacks_1)),Ii (zG (v_1+(1:Int)))] [.live (.map true [.int .i64,.int .i64] (List.map (mpE zD AV.bool) (vU row_1 x_1 true))),Rb 3 1 (Mi o_2)] zE an ?_
   exact ⟨_,(sw [0,1] [] [.s 0,.s 6,.s 7,.s 27,.s 28,.s 29] [.s 0,.s 1] an),_,_,_,rfl,h⟩
  intro g_7;replace h:=zS g_7 h
  refine sr [] [4] [] 2 [Ii 7] [] zE an ?_
  refine rt ?_
  cases h
  exact ⟨rfl,Nat.le_of_ble_eq_true rfl,by kernel_rfl⟩
 intro e st1 hk
 rcases o_1 with q_1 | q_2
 rotate_left
 ·obtain ⟨rfl,hf⟩:=hk
  cases h
  exact ⟨st1,Sub.refl _ _,.inr rfl,hf⟩
 obtain ⟨rfl,hs⟩:=hk
 refine ⟨_,hs,?_⟩
 refine sr [] [4] [] 0 [Ii 0] [] zE an ?_
 refine rt ?_
 cases h
 exact ⟨.inr rfl,Nat.le_of_ble_eq_true rfl,by kernel_rfl⟩
theorem zD1 (r_1:zB) (r:(List (Int))) (h:jI r_1=some r):zN prog 81 [] [] [zT r_1] [.row 5 1 (Mb r)] (.own 0 ((r).length)):=by
 refine zV (fn:=Go.Proofs.Try.f81) (code:=yG Go.Proofs.Try.f81) (by kernel_rfl) (by kernel_rfl) (Nat.le_of_ble_eq_true (by kernel_rfl)) ?_
 unfold jI at h
 refine sr [(0,{ id:=0 }),(1,{ id:=1,m:=1 })] [1] [0] 2 [Pp 0] [Vb 30 (zK r_1)] zE an ?_
 refine sq ?_
 obtain ⟨_,h_1,h⟩:=bind_some h;replace h_1:=z9 h_1
 refine rg [(5,{ id:=2,l:=(Mb (List.replicate ((zG (r_1.End - r_1.Start)).toNat) (0:Int))),m:=(zG (r_1.End - r_1.Start)).toNat,n:=(zG (r_1.End - r_1.Start)).toNat })] [1,3] [0,2] 3 [Pp 0,.own 2 ((zG (r_1.End - r_1.Start)).toNat)] [Vb 30 (zK r_1),Rb 5 1 (Mb (List.replicate ((zG (r_1.End - r_1.Start)).toNat) (0:Int)))] zE (ac ((Int.toNat_of_nonneg h_1.1).symm:zG (r_1.End - r_1.Start)=(((zG (r_1.End - r_1.Start)).toNat:Nat):Int)) (ac ((Int.toNat_of_nonneg h_1.1).symm:zG (r_1.End - r_1.Start)=(((zG (r_1.End - r_1.Start)).toNat:Nat):Int)) (ac (Nat.le_refl _:((zG (r_1.End - r_1.Start)).toNat)≤((zG (r_1.End - r_1.Start)).toNat)) (ac h_1.2 (ac (zER:(Mb (List.replicate ((zG (r_1.End - r_1.Start)).toNat) (0:Int)))=List.replicate ((zG (r_1.End - r_1.Start)).toNat) (Iu 0)) an))))) ?_
 refine sq ?_
 obtain ⟨_,h_2,h⟩:=bind_some h;replace h_2:=z9 h_2
 refine rg [(4,{ n:=(r_1.Data).length })] [1,3,4] [0,2] 3 [Pp 0,.own 2 ((zG (r_1.End - r_1.Start)).toNat),Ii (zX r_1.Start (lN (r_1.Data)))] [Vb 30 (zK r_1),Rb 5 1 (Mb (List.replicate ((zG (r_1.End - r_1.Start)).toNat) (0:Int)))] zE (ac (yA _:((Mb r_1.Data)).length=(r_1.Data).length) (ac h_2 an)) ?_
 refine sq ?_
 obtain ⟨_,h_3,h⟩:=bind_some h;replace h_3:=z9 h_3
 obtain ⟨_,h_4,h⟩:=bind_some h;replace h_4:=z9 h_4
 refine rg [(4,{ l:=(Mb (sub r_1.Data (zX r_1.Start (lN (r_1.Data))) (lN (r_1.Data)))) }),(5,{ l:=(Mb (cpy (List.replicate ((zG (r_1.End - r_1.Start)).toNat) (0:Int)) 0 ((zG (r_1.End - r_1.Start)).toNat) (sub r_1.Data (zX r_1.Start (lN (r_1.Data))) (lN (r_1.Data))))),n:=(min (sub r_1.Data (zX r_1.Start (lN (r_1.Data))) (lN (r_1.Data))).length ((zG (r_1.End - r_1.Start)).toNat - 0)) })] [1,3,5] [0,2] 3 [Pp 0,.own 2 ((zG (r_1.End - r_1.Start)).toNat),Ii (((min (sub r_1.Data (zX r_1.Start (lN (r_1.Data))) (lN (r_1.Data))).length ((zG (r_1.End - r_1.Start)).toNat - 0)):Nat):Int)] [Vb 30 (zK r_1),Rb 5 1 (Mb (cpy (List.replicate ((zG (r_1.End - r_1.Start)).toNat) (0:Int)) 0 ((zG (r_1.End - r_1.Start)).toNat) (sub r_1.Data (zX r_1.Start (lN (r_1.Data))) (lN (r_1.Data)))))] zE (ac h_3.1 (ac (jA h_3.2:(zX r_1.Start (lN (r_1.Data)))≤(lN ((Mb r_1.Data)))) (ac (Int.le_refl _:(lN ((Mb r_1.Data)))≤(lN ((Mb r_1.Data)))) (ac (zBP _ _:(Mb (sub r_1.Data (zX r_1.Start (lN (r_1.Data))) (lN (r_1.Data))))=(((Mb r_1.Data)).take ((lN ((Mb r_1.Data)))).toNat).drop (zX r_1.Start (lN (r_1.Data))).toNat) (ac (trivial:True) (ac h_4.1 (ac (kB h_4.2:((zG (r_1.End - r_1.Start)).toNat)≤((Mb (List.replicate ((zG (r_1.End - r_1.Start)).toNat) (0:Int)))).length) (ac (by simp:(min (sub r_1.Data (zX r_1.Start (((r_1.Data).length:Nat):Int)) (((r_1.Data).length:Nat):Int)).length ((zG (r_1.End - r_1.Start)).toNat - 0))=min ((List.map (AV.int .u8) (sub r_1.Data (zX r_1.Start (((r_1.Data).length:Nat):Int)) (((r_1.Data).length:Nat):Int))):List AV).length ((zG (r_1.End - r_1.Start)).toNat - 0)) (ac (by simp [cpy]:(List.map (AV.int .u8) (cpy (List.replicate ((zG (r_1.End - r_1.Start)).toNat) (0:Int)) 0 ((zG (r_1.End - r_1.Start)).toNat) (sub r_1.Data (zX r_1.Start (((r_1.Data).length:Nat):Int)) (((r_1.Data).length:Nat):Int))))=((List.map (AV.int .u8) (List.replicate ((zG (r_1.End - r_1.Start)).toNat) (0:Int)))).take 0++((List.map (AV.int .u8) (sub r_1.Data (zX r_1.Start (((r_1.Data).length:Nat):Int)) (((r_1.Data).length:Nat):Int))):List AV).take (min (sub r_1.Data (zX r_1.Start (((r_1.Data).length:Nat):Int)) (((r_1.Data).length:Nat):Int)).length ((zG (r_1.End - r_1.Start)).toNat - 0))++((List.map (AV.int .u8) (List.replicate ((zG (r_1.End - r_1.Start)).toNat) (0:Int)))).drop (0+(min (sub r_1.Data (zX r_1.Start (((r_1.Data).length:Nat):Int)) (((r_1.Data).length:Nat):Int)).length ((zG (r_1.End - r_1.Start)).toNat - 0)))) an))))))))) ?_
 refine sq ?_
 obtain ⟨_,h_5,h⟩:=bind_some h;replace h_5:=z9 h_5
 obtain ⟨_,h_6,h⟩:=bind_some h;replace h_6:=z9 h_6
 refine rg [(5,{ l:=(Mb (cpy (cpy (List.replicate ((zG (r_1.End - r_1.Start)).toNat) (0:Int)) 0 ((zG (r_1.End - r_1.Start)).toNat) (sub r_1.Data (zX r_1.Start (lN (r_1.Data))) (lN (r_1.Data)))) (min (sub r_1.Data (zX r_1.Start (lN (r_1.Data))) (lN (r_1.Data))).length ((zG (r_1.End - r_1.Start)).toNat - 0)) ((zG (r_1.End - r_1.Start)).toNat) r_1.Data)),n:=(min (r_1.Data).length ((zG (r_1.End - r_1.Start)).toNat - (min (sub r_1.Data (zX r_1.Start (lN (r_1.Data))) (lN (r_1.Data))).length ((zG (r_1.End - r_1.Start)).toNat - 0)))) })] [3] [2] 3 [.own 2 ((zG (r_1.End - r_1.Start)).toNat)] [Rb 5 1 (Mb (cpy (cpy (List.replicate ((zG (r_1.End - r_1.Start)).toNat) (0:Int)) 0 ((zG (r_1.End - r_1.Start)).toNat) (sub r_1.Data (zX r_1.Start (lN (r_1.Data))) (lN (r_1.Data)))) (min (sub r_1.Data (zX r_1.Start (lN (r_1.Data))) (lN (r_1.Data))).length ((zG (r_1.End - r_1.Start)).toNat - 0)) ((zG (r_1.End - r_1.Start)).toNat) r_1.Data))] zE (ac (Int.natCast_nonneg _:(0:Int)≤(((min (sub r_1.Data (zX r_1.Start (lN (r_1.Data))) (lN (r_1.Data))).length ((zG (r_1.End - r_1.Start)).toNat - 0)):Nat):Int)) (ac h_5 (ac (Int.le_refl _:(((zG (r_1.End - r_1.Start)).toNat:Nat):Int)≤(((zG (r_1.End - r_1.Start)).toNat:Nat):Int)) (ac (trivial:True) (ac h_6.1 (ac (kB h_6.2:((zG (r_1.End - r_1.Start)).toNat)≤((Mb (cpy (List.replicate ((zG (r_1.End - r_1.Start)).toNat) (0:Int)) 0 ((zG (r_1.End - r_1.Start)).toNat) (sub r_1.Data (zX r_1.Start (lN (r_1.Data))) (lN (r_1.Data)))))).length) (ac (by simp:(min (r_1.Data).length ((zG (r_1.End - r_1.Start)).toNat - (min (sub r_1.Data (zX r_1.Start (((r_1.Data).length:Nat):Int)) (((r_1.Data).length:Nat):Int)).length ((zG (r_1.End - r_1.Start)).toNat - 0))))=min ((List.map (AV.int .u8) r_1.Data):List AV).length ((zG (r_1.End - r_1.Start)).toNat - (min (sub r_1.Data (zX r_1.Start (((r_1.Data).length:Nat):Int)) (((r_1.Data).length:Nat):Int)).length ((zG (r_1.End - r_1.Start)).toNat - 0)))) (ac (by simp [cpy]:(List.map (AV.int .u8) (cpy (cpy (List.replicate ((zG (r_1.End - r_1.Start)).toNat) (0:Int)) 0 ((zG (r_1.End - r_1.Start)).toNat) (sub r_1.Data (zX r_1.Start (((r_1.Data).length:Nat):Int)) (((r_1.Data).length:Nat):Int))) (min (sub r_1.Data (zX r_1.Start (((r_1.Data).length:Nat):Int)) (((r_1.Data).length:Nat):Int)).length ((zG (r_1.End - r_1.Start)).toNat - 0)) ((zG (r_1.End - r_1.Start)).toNat) r_1.Data))=((List.map (AV.int .u8) (cpy (List.replicate ((zG (r_1.End - r_1.Start)).toNat) (0:Int)) 0 ((zG (r_1.End - r_1.Start)).toNat) (sub r_1.Data (zX r_1.Start (((r_1.Data).length:Nat):Int)) (((r_1.Data).length:Nat):Int))))).take (min (sub r_1.Data (zX r_1.Start (((r_1.Data).length:Nat):Int)) (((r_1.Data).length:Nat):Int)).length ((zG (r_1.End - r_1.Start)).toNat - 0))++((List.map (AV.int .u8) r_1.Data):List AV).take (min (r_1.Data).length ((zG (r_1.End - r_1.Start)).toNat - (min (sub r_1.Data (zX r_1.Start (((r_1.Data).length:Nat):Int)) (((r_1.Data).length:Nat):Int)).length ((zG (r_1.End - r_1.Start)).toNat - 0))))++((List.map (AV.int .u8) (cpy (List.replicate ((zG (r_1.End - r_1.Start)).toNat) (0:Int)) 0 ((zG (r_1.End - r_1.Start)).toNat) (sub r_1.Data (zX r_1.Start (((r_1.Data).length:Nat):Int)) (((r_1.Data).length:Nat):Int))))).drop ((min (sub r_1.Data (zX r_1.Start (((r_1.Data).length:Nat):Int)) (((r_1.Data).length:Nat):Int)).length ((zG (r_1.End - r_1.Start)).toNat - 0))+(min (r_1.Data).length ((zG (r_1.End - r_1.Start)).toNat - (min (sub r_1.Data (zX r_1.Start (((r_1.Data).length:Nat):Int)) (((r_1.Data).length:Nat):Int)).length ((zG (r_1.End - r_1.Start)).toNat - 0)))))) an)))))))) ?_
 refine sr [] [2] [2] 3 [.own 2 ((zG (r_1.End - r_1.Start)).toNat)] [Rb 5 1 (Mb (cpy (cpy (List.replicate ((zG (r_1.End - r_1.Start)).toNat) (0:Int)) 0 ((zG (r_1.End - r_1.Start)).toNat) (sub r_1.Data (zX r_1.Start (lN (r_1.Data))) (lN (r_1.Data)))) (min (sub r_1.Data (zX r_1.Start (lN (r_1.Data))) (lN (r_1.Data))).length ((zG (r_1.End - r_1.Start)).toNat - 0)) ((zG (r_1.End - r_1.Start)).toNat) r_1.Data))] zE an ?_
 refine wk [2] [] [.a 2 (.own 0 (((cpy (cpy (List.replicate ((zG (r_1.End - r_1.Start)).toNat) (0:Int)) 0 ((zG (r_1.End - r_1.Start)).toNat) (sub r_1.Data (zX r_1.Start (lN (r_1.Data))) (lN (r_1.Data)))) (min (sub r_1.Data (zX r_1.Start (lN (r_1.Data))) (lN (r_1.Data))).length ((zG (r_1.End - r_1.Start)).toNat - 0)) ((zG (r_1.End - r_1.Start)).toNat) r_1.Data)).length))] [.s 0] [(2,.own 0 (((cpy (cpy (List.replicate ((zG (r_1.End - r_1.Start)).toNat) (0:Int)) 0 ((zG (r_1.End - r_1.Start)).toNat) (sub r_1.Data (zX r_1.Start (lN (r_1.Data))) (lN (r_1.Data)))) (min (sub r_1.Data (zX r_1.Start (lN (r_1.Data))) (lN (r_1.Data))).length ((zG (r_1.End - r_1.Start)).toNat - 0)) ((zG (r_1.End - r_1.Start)).toNat) r_1.Data)).length))] [(0,Rb 5 1 (Mb (cpy (cpy (List.replicate ((zG (r_1.End - r_1.Start)).toNat) (0:Int)) 0 ((zG (r_1.End - r_1.Start)).toNat) (sub r_1.Data (zX r_1.Start (lN (r_1.Data))) (lN (r_1.Data)))) (min (sub r_1.Data (zX r_1.Start (lN (r_1.Data))) (lN (r_1.Data))).length ((zG (r_1.End - r_1.Start)).toNat - 0)) ((zG (r_1.End - r_1.Start)).toNat) r_1.Data)))] (ac (congrArg (AV.own _) ((pO h_6.1 h_6.2).trans ((pO h_4.1 h_4.2).trans List.length_replicate)).symm:(.own 2 ((zG (r_1.End - r_1.Start)).toNat):AV)=.own 2 (((cpy (cpy (List.replicate ((zG (r_1.End - r_1.Start)).toNat) (0:Int)) 0 ((zG (r_1.End - r_1.Start)).toNat) (sub r_1.Data (zX r_1.Start (lN (r_1.Data))) (lN (r_1.Data)))) (min (sub r_1.Data (zX r_1.Start (lN (r_1.Data))) (lN (r_1.Data))).length ((zG (r_1.End - r_1.Start)).toNat - 0)) ((zG (r_1.End - r_1.Start)).toNat) r_1.Data)).length)) an) ?_
 refine rt ?_
 cases h
 exact ⟨.inr rfl,Nat.le_of_ble_eq_true rfl,by kernel_rfl⟩
theorem zDA (u_1:Int) (r:Int) (h:jK u_1=some r):zN prog 103 [] [] [.int .u64 u_1] [] (Ii r):=by
 refine zV (fn:=Go.Proofs.Try.f103) (code:=yG Go.Proofs.Try.f103) (by kernel_rfl) (by kernel_rfl) (Nat.le_of_ble_eq_true (by kernel_rfl)) ?_
 unfold jK at h
 refine sr [] [0] [] 0 [.int .u64 u_1] [] zE an ?_
 refine sr [] [2] [] 0 [Ii (zAV .i64 (zG (pG .u64 u_1 (1:Int))) (zG (0 - (zG (wA .u64 u_1 (1:Int))))))] [] zE (ac (by decide:(0:Int)≤(1:Int)) an) ?_
 refine rt ?_
 cases h
 exact ⟨.inr rfl,Nat.le_of_ble_eq_true rfl,by kernel_rfl⟩
theorem zCU (F:Nat) (b_1:List (Int)) (r:Int×Int×Int) (h:pI F b_1=some r):zN prog 99 [] [] [.sl false 1 (Mb b_1)] [] (.tuple [Ii r.1,Ii r.2.1,Ii r.2.2]):=by
 refine zV (fn:=Go.Proofs.Try.f99) (code:=yG Go.Proofs.Try.f99) (by kernel_rfl) (by kernel_rfl) (Nat.le_of_ble_eq_true (by kernel_rfl)) ?_
 unfold pI at h
 refine sr [] [0] [] 0 [.sl false 1 (Mb b_1)] [] zE an ?_
 refine sr [] [0,5] [] 0 [.sl false 1 (Mb b_1),.int .u64 (0:Int)] [] zE an ?_
 refine sq ?_
 refine sr [(1,{ n:=(b_1).length })] [5,8,9,10] [] 0 [.int .u64 (0:Int),.sl false 1 (Mb b_1),Ii (lN (b_1)),Ii 0] [] zE (ac (yA _:((Mb b_1)).length=(b_1).length) an) ?_
 obtain ⟨o_1,h_1,h⟩:=bind_some h
 refine xS (K1:=(fun e st'=>match o_1 with | (.inl q0)=>e=.normal∧Sub 0 st' (mk [] [] 0) | (.inr q1)=>e=.ret∧tO prog Go.Proofs.Try.f99 0 [] (.tuple [Ii q1.1,Ii q1.2.1,Ii q1.2.2]) st')) ?_ ?_
 ·replace h:=h_1
  refine z7 (id:=0) (by kernel_rfl) ?_
  refine wk [] [] [.s 5,.s 8,.s 9,.s 10] [] [(5,.int .u64 (0:Int)),(8,.sl false 1 (Mb b_1)),(9,Ii (lN (b_1))),(10,Ii 0)] [] an ?_
  refine y9 (fun n st=>∃ (u_1:Int),∃ (v_1:Int),st=mk [(5,.int .u64 u_1),(8,.sl false 1 (Mb b_1)),(9,Ii (lN (b_1))),(10,Ii v_1)] [] 0∧u7 F b_1 n u_1 v_1=some o_1) F (by kernel_rfl) ⟨_,_,rfl,h⟩ ?_ ?_
  ·rintro _ ⟨_,_,_,h⟩;exact xJ (h:(none:Option (Unit⊕(Int×Int×Int)))=some o_1)
  rintro n_1 _ ⟨u_1,v_1,rfl,h⟩
  replace h:uU F b_1 (u7 F b_1 n_1) u_1 v_1=some o_1:=h
  unfold uU at h
  refine sr [] [5,8,9,10,11] [] 0 [.int .u64 u_1,.sl false 1 (Mb b_1),Ii (lN (b_1)),Ii v_1,.bool (decide (v_1<(lN (b_1))))] [] zE an ?_
  refine sq ?_
  refine cd 11 (decide (v_1<(lN (b_1)))) ?_ ?_
  rotate_left
  ·intro g_1;replace h:=zR g_1 h
   refine xF (id:=0) (by kernel_rfl) ?_
   cases h
   exact ⟨rfl,(sw [] [] [] [] an)⟩
  intro g_1;replace h:=zS g_1 h
  refine sk ?_
  refine sq ?_
  refine z7 (id:=1) (by kernel_rfl) ?_
  refine sq ?_
  obtain ⟨x_1,h_2,h⟩:=bind_some h
  refine rg [(1,{ av:=Iu x_1 })] [5,6,7,8,9,10] [] 0 [.int .u64 u_1,Ii v_1,Iu x_1,.sl false 1 (Mb b_1),Ii (lN (b_1)),Ii v_1] [] zE (ac (uB h_2:tB (Mb b_1) v_1=some (Iu x_1)) an) ?_
  refine sq ?_
  refine sq ?_
  refine yB (mk [(5,.int .u64 u_1),(6,Ii v_1),(7,Iu x_1),(8,.sl false 1 (Mb b_1)),(9,Ii (lN (b_1))),(10,Ii v_1),(20,.bool ((v_1==(9:Int))&&decide (x_1>(1:Int))))] [] 0) ?_ ?_
  ·rcases bft (v_1==(9:Int)) with gg_7 | gg_7
   ·refine rg [(5,Ht)] [5,6,7,8,9,10,18,19,20] [] 0 [.int .u64 u_1,Ii v_1,Iu x_1,.sl false 1 (Mb b_1),Ii (lN (b_1)),Ii v_1,Iu x_1,.bool (decide (x_1>(1:Int))),.bool (decide (x_1>(1:Int)))] [] zE (ac gg_7 (ac gg_7 (ac gg_7 an))) ?_
    exact ⟨rfl,(sw [] [] [.s 5,.s 6,.s 7,.s 8,.s 9,.s 10,.a 20 (.bool ((v_1==(9:Int))&&decide (x_1>(1:Int))))] [] (ac (congrArg AV.bool (w5 gg_7 rfl):(.bool (decide (x_1>(1:Int))):AV)=.bool ((v_1==(9:Int))&&decide (x_1>(1:Int)))) an))⟩
   ·refine rg [(3,Hg),(4,Hg),(5,Hf)] [5,6,7,8,9,10,18,19,20] [] 0 [.int .u64 u_1,Ii v_1,Iu x_1,.sl false 1 (Mb b_1),Ii (lN (b_1)),Ii v_1,.tuple [],.tuple [],.bool false] [] zE (ac gg_7 (ac gg_7 (ac gg_7 an))) ?_
    exact ⟨rfl,(sw [] [] [.s 5,.s 6,.s 7,.s 8,.s 9,.s 10,.a 20 (.bool ((v_1==(9:Int))&&decide (x_1>(1:Int))))] [] (ac (congrArg AV.bool (tQ gg_7):(.bool false:AV)=.bool ((v_1==(9:Int))&&decide (x_1>(1:Int)))) an))⟩
  refine cd 20 ((v_1==(9:Int))&&decide (x_1>(1:Int))) ?_ ?_
  ·intro g_2;replace h:=zS g_2 h
   refine sr [] [2,3,4] [] 0 [Ii 0,Ii 0,Ii 10] [] zE an ?_
   refine rt ?_
   cases h
   exact ⟨rfl,Nat.le_of_ble_eq_true rfl,by kernel_rfl⟩
  intro g_2;replace h:=zR g_2 h
  refine sk ?_
  refine sq ?_
  obtain ⟨_,h_3,h⟩:=bind_some h;replace h_3:=z9 h_3
  refine rg [] [5,6,7,8,9,10] [] 0 [.int .u64 (ior .u64 u_1 (jG .u64 (z0 (wA .u8 x_1 (127:Int))) (zG ((7:Int) * v_1)))),Ii v_1,Iu x_1,.sl false 1 (Mb b_1),Ii (lN (b_1)),Ii v_1] [] zE (ac h_3 an) ?_
  refine sq ?_
  refine sr [] [5,6,7,8,9,10,30] [] 0 [.int .u64 (ior .u64 u_1 (jG .u64 (z0 (wA .u8 x_1 (127:Int))) (zG ((7:Int) * v_1)))),Ii v_1,Iu x_1,.sl false 1 (Mb b_1),Ii (lN (b_1)),Ii v_1,.bool (decide (x_1≥(128:Int)))] [] zE an ?_
  refine cd 30 (decide (x_1≥(128:Int))) ?_ ?_
  ·intro g_3;replace h:=zS g_3 h
   refine xF (id:=1) (by kernel_rfl) ?_
   refine rg [] [5,8,9,10] [] 0 [.int .u64 (ior .u64 u_1 (jG .u64 (z0 (wA .u8 x_1 (127:Int))) (zG ((7:Int) * v_1)))),.sl false 1 (Mb b_1),Ii (lN (b_1)),Ii (zG (v_1+(1:Int)))] [] zE an ?_
   exact ⟨_,(sw [] [] [.s 5,.s 8,.s 9,.s 10] [] an),_,_,rfl,h⟩
  intro g_3;replace h:=zR g_3 h
  refine sk ?_
  refine sq ?_
  refine sq ?_
  refine yB (mk [(5,.int .u64 (ior .u64 u_1 (jG .u64 (z0 (wA .u8 x_1 (127:Int))) (zG ((7:Int) * v_1))))),(6,Ii v_1),(36,.bool ((x_1==(0:Int))&&decide (v_1>(0:Int))))] [] 0) ?_ ?_
  ·rcases bft (x_1==(0:Int)) with gg_8 | gg_8
   ·refine rg [(5,Ht)] [5,6,36] [] 0 [.int .u64 (ior .u64 u_1 (jG .u64 (z0 (wA .u8 x_1 (127:Int))) (zG ((7:Int) * v_1)))),Ii v_1,.bool (decide (v_1>(0:Int)))] [] zE (ac gg_8 (ac gg_8 (ac gg_8 an))) ?_
    exact ⟨rfl,(sw [] [] [.s 5,.s 6,.a 36 (.bool ((x_1==(0:Int))&&decide (v_1>(0:Int))))] [] (ac (congrArg AV.bool (w5 gg_8 rfl):(.bool (decide (v_1>(0:Int))):AV)=.bool ((x_1==(0:Int))&&decide (v_1>(0:Int)))) an))⟩
   ·refine rg [(3,Hg),(4,Hg),(5,Hf)] [5,6,36] [] 0 [.int .u64 (ior .u64 u_1 (jG .u64 (z0 (wA .u8 x_1 (127:Int))) (zG ((7:Int) * v_1)))),Ii v_1,.bool false] [] zE (ac gg_8 (ac gg_8 (ac gg_8 an))) ?_
    exact ⟨rfl,(sw [] [] [.s 5,.s 6,.a 36 (.bool ((x_1==(0:Int))&&decide (v_1>(0:Int))))] [] (ac (congrArg AV.bool (tQ gg_8):(.bool false:AV)=.bool ((x_1==(0:Int))&&decide (v_1>(0:Int)))) an))⟩
  refine cd 36 ((x_1==(0:Int))&&decide (v_1>(0:Int))) ?_ ?_
  ·intro g_4;replace h:=zS g_4 h
   refine sr [] [2,3,4] [] 0 [Ii 0,Ii 0,Ii 10] [] zE an ?_
   refine rt ?_
   cases h
   exact ⟨rfl,Nat.le_of_ble_eq_true rfl,by kernel_rfl⟩
  intro g_4;replace h:=zR g_4 h
  refine sk ?_
  refine sq ?_
  obtain ⟨r_1,h_4,h⟩:=bind_some h
  refine rg [(1,{ av:=Ii r_1,l:=[.int .u64 (ior .u64 u_1 (jG .u64 (z0 (wA .u8 x_1 (127:Int))) (zG ((7:Int) * v_1))))] })] [2,3,4] [] 0 [Ii r_1,Ii (zG (v_1+(1:Int))),Ii 0] [] zE (ar ([.int .u64 (ior .u64 u_1 (jG .u64 (z0 (wA .u8 x_1 (127:Int))) (zG ((7:Int) * v_1))))]:List AV) (ac (rfl:([]:List zP)=[]) (ac (zDA (ior .u64 u_1 (jG .u64 (z0 (wA .u8 x_1 (127:Int))) (zG ((7:Int) * v_1)))) r_1 h_4:zN prog 103 [] [] [.int .u64 (ior .u64 u_1 (jG .u64 (z0 (wA .u8 x_1 (127:Int))) (zG ((7:Int) * v_1))))] [] (Ii r_1)) an))) ?_
  refine rt ?_
  cases h
  exact ⟨rfl,Nat.le_of_ble_eq_true rfl,by kernel_rfl⟩
 intro e st1 hk
 rcases o_1 with q_1 | q_2
 rotate_left
 ·obtain ⟨rfl,hf⟩:=hk
  cases h
  exact ⟨st1,Sub.refl _ _,.inr rfl,hf⟩
 obtain ⟨rfl,hs⟩:=hk
 refine ⟨_,hs,?_⟩
 refine sr [] [2,3,4] [] 0 [Ii 0,Ii 0,Ii 8] [] zE an ?_
 refine rt ?_
 cases h
 exact ⟨.inr rfl,Nat.le_of_ble_eq_true rfl,by kernel_rfl⟩
theorem zFS (F:Nat) (b_1:List (Int)) (r:(List (List (Int)))×Bool) (h:pZ F b_1=some r):zN prog 80 [] [] [.sl false 1 (Mb b_1)] [.row 28 1 (List.map (fun l=>AV.sl false 1 (l.map (AV.int .u8))) r.1)] (.tuple [.own 0 ((r.1).length),.bool r.2]):=by
 refine zV (fn:=Go.Proofs.Try.f80) (code:=yG Go.Proofs.Try.f80) (by kernel_rfl) (by kernel_rfl) (Nat.le_of_ble_eq_true (by kernel_rfl)) ?_
 unfold pZ at h
 refine sr [(0,{ id:=0,m:=1 })] [0] [] 1 [.sl false 1 (Mb b_1)] [] zE an ?_
 refine sr [(0,{ id:=1,m:=1 })] [0,4] [1] 2 [.sl false 1 (Mb b_1),.own 1 0] [Rb 28 1 []] zE an ?_
 refine sq ?_
 obtain ⟨o_1,h_1,h⟩:=bind_some h
 refine xS (K1:=(fun e st'=>match o_1 with | (.inl q0)=>e=.normal∧Sub 0 st' (mk [(4,.own 0 ((q0).length))] [(0,Rb 28 1 (List.map (fun l=>AV.sl false 1 (l.map (AV.int .u8))) q0))] 1) | (.inr q1)=>e=.ret∧tO prog Go.Proofs.Try.f80 0 [.row 28 1 (List.map (fun l=>AV.sl false 1 (l.map (AV.int .u8))) q1.1)] (.tuple [.own 0 ((q1.1).length),.bool q1.2]) st')) ?_ ?_
 ·replace h:=h_1
  refine z7 (id:=0) (by kernel_rfl) ?_
  refine wk [1] [] [.s 0,.s 4] [.s 0] [(0,.sl false 1 (Mb b_1)),(4,.own 0 0)] [(0,Rb 28 1 [])] an ?_
  refine y9 (fun n st=>∃ (b_2:List Int),∃ (row_1:List (List (Int))),st=mk [(0,.sl false 1 (Mb b_2)),(4,.own 0 ((row_1).length))] [(0,Rb 28 1 (List.map (fun l=>AV.sl false 1 (l.map (AV.int .u8))) row_1))] 1∧jN F n b_2 row_1=some o_1) F (by kernel_rfl) ⟨_,_,rfl,h⟩ ?_ ?_
  ·rintro _ ⟨_,_,_,h⟩;exact xJ (h:(none:Option ((List (List (Int)))⊕((List (List (Int)))×Bool)))=some o_1)
  rintro n_1 _ ⟨b_2,row_1,rfl,h⟩
  replace h:uG F (jN F n_1) b_2 row_1=some o_1:=h
  unfold uG at h
  refine sq ?_
  refine sr [(1,{ n:=(b_2).length })] [0,4,10] [0] 1 [.sl false 1 (Mb b_2),.own 0 ((row_1).length),.bool (decide ((lN (b_2))>(0:Int)))] [Rb 28 1 (List.map (fun l=>AV.sl false 1 (l.map (AV.int .u8))) row_1)] zE (ac (yA _:((Mb b_2)).length=(b_2).length) an) ?_
  refine cd 10 (decide ((lN (b_2))>(0:Int))) ?_ ?_
  rotate_left
  ·intro g_1;replace h:=zR g_1 h
   refine xF (id:=0) (by kernel_rfl) ?_
   cases h
   exact ⟨rfl,(sw [0] [] [.s 4] [.s 0] an)⟩
  intro g_1;replace h:=zS g_1 h
  refine sk ?_
  refine z7 (id:=1) (by kernel_rfl) ?_
  refine sq ?_
  obtain ⟨r_1,h_2,h⟩:=bind_some h
  refine rg [(1,{ av:=.tuple [Ii r_1.1,Ii r_1.2.1,Ii r_1.2.2],l:=[.sl false 1 (Mb b_2)] })] [0,4,5,6,7] [0] 1 [.sl false 1 (Mb b_2),.own 0 ((row_1).length),Ii r_1.1,Ii r_1.2.1,Ii r_1.2.2] [Rb 28 1 (List.map (fun l=>AV.sl false 1 (l.map (AV.int .u8))) row_1)] zE (ar ([.sl false 1 (Mb b_2)]:List AV) (ac (rfl:([]:List zP)=[]) (ac (zCU F b_2 r_1 h_2:zN prog 99 [] [] [.sl false 1 (Mb b_2)] [] (.tuple [Ii r_1.1,Ii r_1.2.1,Ii r_1.2.2])) an))) ?_
  refine sq ?_
  refine sq ?_
  refine yB (mk [(0,.sl false 1 (Mb b_2)),(4,.own 0 ((row_1).length)),(5,Ii r_1.1),(6,Ii r_1.2.1),(34,.bool ((r_1.2.2 != (0:Int))||(decide (r_1.1<(0:Int))||(decide (r_1.1>(2000:Int))||decide ((zG (r_1.2.1+r_1.1))>(lN (b_2)))))))] [(0,Rb 28 1 (List.map (fun l=>AV.sl false 1 (l.map (AV.int .u8))) row_1))] 1) ?_ ?_
  ·rcases bft (r_1.2.2 != (0:Int)) with gg_22 | gg_22
   ·refine rg [(3,Hg),(4,Hg),(5,Ht),(7,Hg),(8,Hg),(9,Ht),(11,Hg),(12,Hg),(13,Hg),(14,Hg),(15,Hg),(16,Hg),(17,Ht)] [0,4,5,6,20,21,24,25,28,29,30,31,32,33,34] [0] 1 [.sl false 1 (Mb b_2),.own 0 ((row_1).length),Ii r_1.1,Ii r_1.2.1,.tuple [],.tuple [],.tuple [],.tuple [],.tuple [],.tuple [],.tuple [],.tuple [],.tuple [],.tuple [],.bool true] [Rb 28 1 (List.map (fun l=>AV.sl false 1 (l.map (AV.int .u8))) row_1)] zE (ac gg_22 (ac gg_22 (ac gg_22 (ax (ax (ar true (ax (ax (ax (ax (ax (ax (ar true an))))))))))))) ?_
    exact ⟨rfl,(sw [0] [] [.s 0,.s 4,.s 5,.s 6,.a 34 (.bool ((r_1.2.2 != (0:Int))||(decide (r_1.1<(0:Int))||(decide (r_1.1>(2000:Int))||decide ((zG (r_1.2.1+r_1.1))>(lN (b_2)))))))] [.s 0] (ac (congrArg AV.bool (ort gg_22):(.bool true:AV)=.bool ((r_1.2.2 != (0:Int))||(decide (r_1.1<(0:Int))||(decide (r_1.1>(2000:Int))||decide ((zG (r_1.2.1+r_1.1))>(lN (b_2))))))) an))⟩
   ·rcases bft (decide (r_1.1<(0:Int))) with gg_23 | gg_23
    ·refine rg [(5,Hf),(7,Hg),(8,Hg),(9,Ht),(11,Hg),(12,Hg),(13,Hg),(14,Hg),(15,Hg),(16,Hg),(17,Ht)] [0,4,5,6,20,21,24,25,28,29,30,31,32,33,34] [0] 1 [.sl false 1 (Mb b_2),.own 0 ((row_1).length),Ii r_1.1,Ii r_1.2.1,Ii r_1.1,.bool (decide (r_1.1<(0:Int))),.tuple [],.tuple [],.tuple [],.tuple [],.tuple [],.tuple [],.tuple [],.tuple [],.bool true] [Rb 28 1 (List.map (fun l=>AV.sl false 1 (l.map (AV.int .u8))) row_1)] zE (ac gg_22 (ac gg_22 (ac gg_22 (ac gg_23 (ac gg_23 (ac gg_23 (ax (ax (ax (ax (ax (ax (ar true an))))))))))))) ?_
     exact ⟨rfl,(sw [0] [] [.s 0,.s 4,.s 5,.s 6,.a 34 (.bool ((r_1.2.2 != (0:Int))||(decide (r_1.1<(0:Int))||(decide (r_1.1>(2000:Int))||decide ((zG (r_1.2.1+r_1.1))>(lN (b_2)))))))] [.s 0] (ac (congrArg AV.bool (orf gg_22 (ort gg_23)):(.bool true:AV)=.bool ((r_1.2.2 != (0:Int))||(decide (r_1.1<(0:Int))||(decide (r_1.1>(2000:Int))||decide ((zG (r_1.2.1+r_1.1))>(lN (b_2))))))) an))⟩
    ·rcases bft (decide (r_1.1>(2000:Int))) with gg_24 | gg_24
     ·refine rg [(5,Hf),(9,Hf),(11,Hg),(12,Hg),(13,Hg),(14,Hg),(15,Hg),(16,Hg),(17,Ht)] [0,4,5,6,20,21,24,25,28,29,30,31,32,33,34] [0] 1 [.sl false 1 (Mb b_2),.own 0 ((row_1).length),Ii r_1.1,Ii r_1.2.1,Ii r_1.1,.bool (decide (r_1.1<(0:Int))),Ii r_1.1,.bool (decide (r_1.1>(2000:Int))),.tuple [],.tuple [],.tuple [],.tuple [],.tuple [],.tuple [],.bool true] [Rb 28 1 (List.map (fun l=>AV.sl false 1 (l.map (AV.int .u8))) row_1)] zE (ac gg_22 (ac gg_22 (ac gg_22 (ac gg_23 (ac gg_23 (ac gg_23 (ac gg_24 (ac gg_24 (ac gg_24 (ac gg_24 (ac gg_24 (ac gg_24 (ac gg_24 an))))))))))))) ?_
      exact ⟨rfl,(sw [0] [] [.s 0,.s 4,.s 5,.s 6,.a 34 (.bool ((r_1.2.2 != (0:Int))||(decide (r_1.1<(0:Int))||(decide (r_1.1>(2000:Int))||decide ((zG (r_1.2.1+r_1.1))>(lN (b_2)))))))] [.s 0] (ac (congrArg AV.bool (orf gg_22 (orf gg_23 (ort gg_24))):(.bool true:AV)=.bool ((r_1.2.2 != (0:Int))||(decide (r_1.1<(0:Int))||(decide (r_1.1>(2000:Int))||decide ((zG (r_1.2.1+r_1.1))>(lN (b_2))))))) an))⟩
     ·refine rg [(5,Hf),(9,Hf),(15,{ n:=(b_2).length }),(17,Hf)] [0,4,5,6,20,21,24,25,28,29,30,31,32,33,34] [0] 1 [.sl false 1 (Mb b_2),.own 0 ((row_1).length),Ii r_1.1,Ii r_1.2.1,Ii r_1.1,.bool (decide (r_1.1<(0:Int))),Ii r_1.1,.bool (decide (r_1.1>(2000:Int))),Ii r_1.2.1,Ii r_1.1,Ii (zG (r_1.2.1+r_1.1)),.sl false 1 (Mb b_2),Ii (lN (b_2)),.bool (decide ((zG (r_1.2.1+r_1.1))>(lN (b_2)))),.bool (decide ((zG (r_1.2.1+r_1.1))>(lN (b_2))))] [Rb 28 1 (List.map (fun l=>AV.sl false 1 (l.map (AV.int .u8))) row_1)] zE (ac gg_22 (ac gg_22 (ac gg_22 (ac gg_23 (ac gg_23 (ac gg_23 (ac gg_24 (ac gg_24 (ac gg_24 (ac gg_24 (ac gg_24 (ac (yA _:((Mb b_2)).length=(b_2).length) (ac gg_24 (ac gg_24 an)))))))))))))) ?_
      exact ⟨rfl,(sw [0] [] [.s 0,.s 4,.s 5,.s 6,.a 34 (.bool ((r_1.2.2 != (0:Int))||(decide (r_1.1<(0:Int))||(decide (r_1.1>(2000:Int))||decide ((zG (r_1.2.1+r_1.1))>(lN (b_2)))))))] [.s 0] (ac (congrArg AV.bool (orf gg_22 (orf gg_23 (orf gg_24 rfl))):(.bool (decide ((zG (r_1.2.1+r_1.1))>(lN (b_2)))):AV)=.bool ((r_1.2.2 != (0:Int))||(decide (r_1.1<(0:Int))||(decide (r_1.1>(2000:Int))||decide ((zG (r_1.2.1+r_1.1))>(lN (b_2))))))) an))⟩
  refine cd 34 ((r_1.2.2 != (0:Int))||(decide (r_1.1<(0:Int))||(decide (r_1.1>(2000:Int))||decide ((zG (r_1.2.1+r_1.1))>(lN (b_2)))))) ?_ ?_
  ·intro g_2;replace h:=zS g_2 h
   refine sr [(0,{ id:=1,m:=1 })] [2,3] [1] 2 [.own 1 0,.bool false] [Rb 28 1 []] zE an ?_
   refine wk [1] [] [.a 2 (.own 0 ((([]:List (List (Int)))).length)),.s 3] [.s 0] [(2,.own 0 ((([]:List (List (Int)))).length)),(3,.bool false)] [(0,Rb 28 1 [])] (ac (congrArg (AV.own _) (by first | (simp;done) | (simp;omega)):(.own 1 0:AV)=.own 1 ((([]:List (List (Int)))).length)) an) ?_
   refine rt ?_
   cases h
   exact ⟨rfl,Nat.le_of_ble_eq_true rfl,by kernel_rfl⟩
  intro g_2;replace h:=zR g_2 h
  refine sk ?_
  refine sq ?_
  obtain ⟨_,h_3,h⟩:=bind_some h;replace h_3:=z9 h_3
  obtain ⟨_,h_4,h⟩:=bind_some h;replace h_4:=z9 h_4
  refine rg [(9,{ l:=(Mb (sub b_2 r_1.2.1 (zG (r_1.2.1+r_1.1)))) }),(10,{ id:=1,lo:=[(44,[1])] }),(11,{ id:=2,l:=(List.map (fun l=>AV.sl false 1 (l.map (AV.int .u8))) (row_1++([sub b_2 r_1.2.1 (zG (r_1.2.1+r_1.1))]:List (List (Int))))),n:=((row_1++([sub b_2 r_1.2.1 (zG (r_1.2.1+r_1.1))]:List (List (Int))))).length })] [0,4,5,6] [2] 3 [.sl false 1 (Mb b_2),.own 2 (((row_1++([sub b_2 r_1.2.1 (zG (r_1.2.1+r_1.1))]:List (List (Int))))).length),Ii r_1.1,Ii r_1.2.1] [Rb 28 1 (List.map (fun l=>AV.sl false 1 (l.map (AV.int .u8))) (row_1++([sub b_2 r_1.2.1 (zG (r_1.2.1+r_1.1))]:List (List (Int)))))] zE (ac h_3.1 (ac h_3.2.1 (ac (jA h_3.2.2:(zG (r_1.2.1+r_1.1))≤(lN ((Mb b_2)))) (ar (zG (r_1.2.1+r_1.1)) (ac (zEs _ _ _:(Mb (sub b_2 r_1.2.1 (zG (r_1.2.1+r_1.1))))=(((Mb b_2)).take (zG (r_1.2.1+r_1.1)).toNat).drop (r_1.2.1).toNat) (ac (by first | (simp;done) | (simp;omega):(row_1).length=((List.map (fun l=>AV.sl false 1 (l.map (AV.int .u8))) row_1)).length) (ac (by first | (simp;done) | (simp;omega):1=((List.map (fun l=>AV.sl false 1 (l.map (AV.int .u8))) ([sub b_2 r_1.2.1 (zG (r_1.2.1+r_1.1))]:List (List (Int))))).length) (ac (nC _ _:(List.map (fun l=>AV.sl false 1 (l.map (AV.int .u8))) (row_1++([sub b_2 r_1.2.1 (zG (r_1.2.1+r_1.1))]:List (List (Int)))))=(List.map (fun l=>AV.sl false 1 (l.map (AV.int .u8))) row_1)++(List.map (fun l=>AV.sl false 1 (l.map (AV.int .u8))) ([sub b_2 r_1.2.1 (zG (r_1.2.1+r_1.1))]:List (List (Int))))) (ac (by simp:((row_1++([sub b_2 r_1.2.1 (zG (r_1.2.1+r_1.1))]:List (List (Int))))).length=((List.map (fun l=>AV.sl false 1 (l.map (AV.int .u8))) (row_1++([sub b_2 r_1.2.1 (zG (r_1.2.1+r_1.1))]:List (List (Int)))))).length) (ac (by first | (simp;done) | simpa using h_4:(((List.map (fun l=>AV.sl false 1 (l.map (AV.int .u8))) row_1):List AV).length+((List.map (fun l=>AV.sl false 1 (l.map (AV.int .u8))) ([sub b_2 r_1.2.1 (zG (r_1.2.1+r_1.1))]:List (List (Int)))):List AV).length) * 24≤140737488355328) an)))))))))) ?_
  obtain ⟨_,h_5,h⟩:=bind_some h;replace h_5:=z9 h_5
  refine rg [(4,{ l:=(Mb (sub b_2 (zG (r_1.2.1+r_1.1)) (lN (b_2)))) })] [0,4] [2] 3 [.sl false 1 (Mb (sub b_2 (zG (r_1.2.1+r_1.1)) (lN (b_2)))),.own 2 (((row_1++([sub b_2 r_1.2.1 (zG (r_1.2.1+r_1.1))]:List (List (Int))))).length)] [Rb 28 1 (List.map (fun l=>AV.sl false 1 (l.map (AV.int .u8))) (row_1++([sub b_2 r_1.2.1 (zG (r_1.2.1+r_1.1))]:List (List (Int)))))] zE (ac h_5.1 (ac (jA h_5.2:(zG (r_1.2.1+r_1.1))≤(lN ((Mb b_2)))) (ac (Int.le_refl _:(lN ((Mb b_2)))≤(lN ((Mb b_2)))) (ac (zBP _ _:(Mb (sub b_2 (zG (r_1.2.1+r_1.1)) (lN (b_2))))=(((Mb b_2)).take ((lN ((Mb b_2)))).toNat).drop (zG (r_1.2.1+r_1.1)).toNat) an)))) ?_
  exact ⟨_,(sw [2] [] [.s 0,.s 4] [.s 0] an),_,_,rfl,h⟩
 intro e st1 hk
 rcases o_1 with q_1 | q_2
 rotate_left
 ·obtain ⟨rfl,hf⟩:=hk
  cases h
  exact ⟨st1,Sub.refl _ _,.inr rfl,hf⟩
 obtain ⟨rfl,hs⟩:=hk
 refine ⟨_,hs,?_⟩
 refine sr [] [2,3] [0] 1 [.own 0 ((q_1).length),.bool true] [Rb 28 1 (List.map (fun l=>AV.sl false 1 (l.map (AV.int .u8))) q_1)] zE an ?_
 refine wk [0] [] [.s 2,.s 3] [.s 0] [(2,.own 0 ((q_1).length)),(3,.bool true)] [(0,Rb 28 1 (List.map (fun l=>AV.sl false 1 (l.map (AV.int .u8))) q_1))] an ?_
 refine rt ?_
 cases h
 exact ⟨.inr rfl,Nat.le_of_ble_eq_true rfl,by kernel_rfl⟩
theorem zA6 (F:Nat) (r_1:zB) (r:(List (List (Int)))×Int) (h:kC F r_1=some r):zN prog 53 [] [] [zT r_1] [.row 28 1 (List.map (fun l=>AV.sl false 1 (l.map (AV.int .u8))) r.1)] (.tuple [.own 0 ((r.1).length),Ii r.2]):=by
 refine zV (fn:=Go.Proofs.Try.f53) (code:=yG Go.Proofs.Try.f53) (by kernel_rfl) (by kernel_rfl) (Nat.le_of_ble_eq_true (by kernel_rfl)) ?_
 unfold kC at h
 refine sr [(0,{ id:=0 }),(1,{ id:=1,m:=1 })] [1] [0] 2 [Pp 0] [Vb 30 (zK r_1)] zE an ?_
 refine sr [(2,{ n:=(r_1.Data).length })] [1,4] [0] 2 [Pp 0,Ii (lN (r_1.Data))] [Vb 30 (zK r_1)] zE (ac (yA _:((Mb r_1.Data)).length=(r_1.Data).length) an) ?_
 refine sq ?_
 obtain ⟨o_1,h_1,h⟩:=bind_some h
 refine xS (K1:=(fun e st'=>match o_1 with | (.inl q0)=>e=.normal∧Sub 0 st' (mk [(1,Pp 0)] [(0,Vb 30 (zK r_1))] 1) | (.inr q1)=>e=.ret∧tO prog Go.Proofs.Try.f53 0 [.row 28 1 (List.map (fun l=>AV.sl false 1 (l.map (AV.int .u8))) q1.1)] (.tuple [.own 0 ((q1.1).length),Ii q1.2]) st')) ?_ ?_
 ·replace h:=h_1
  refine z7 (id:=0) (by kernel_rfl) ?_
  refine sq ?_
  refine yB (mk [(1,Pp 0),(4,Ii (lN (r_1.Data))),(10,.bool ((r_1.Policy != (1:Int))&&(r_1.Policy != (2:Int))))] [(0,Vb 30 (zK r_1))] 1) ?_ ?_
  ·rcases bft (r_1.Policy != (1:Int)) with gg_8 | gg_8
   ·refine rg [(7,Ht)] [1,4,10] [0] 2 [Pp 0,Ii (lN (r_1.Data)),.bool (r_1.Policy != (2:Int))] [Vb 30 (zK r_1)] zE (ac gg_8 (ac gg_8 (ac gg_8 (ac gg_8 an)))) ?_
    exact ⟨rfl,(sw [0] [] [.s 1,.s 4,.a 10 (.bool ((r_1.Policy != (1:Int))&&(r_1.Policy != (2:Int))))] [.s 0] (ac (congrArg AV.bool (w5 gg_8 rfl):(.bool (r_1.Policy != (2:Int)):AV)=.bool ((r_1.Policy != (1:Int))&&(r_1.Policy != (2:Int)))) an))⟩
   ·refine rg [(4,Hg),(5,Hg),(6,Hg),(7,Hf)] [1,4,10] [0] 2 [Pp 0,Ii (lN (r_1.Data)),.bool false] [Vb 30 (zK r_1)] zE (ac gg_8 (ac gg_8 (ac gg_8 (ac gg_8 an)))) ?_
    exact ⟨rfl,(sw [0] [] [.s 1,.s 4,.a 10 (.bool ((r_1.Policy != (1:Int))&&(r_1.Policy != (2:Int))))] [.s 0] (ac (congrArg AV.bool (tQ gg_8):(.bool false:AV)=.bool ((r_1.Policy != (1:Int))&&(r_1.Policy != (2:Int)))) an))⟩
  refine cd 10 ((r_1.Policy != (1:Int))&&(r_1.Policy != (2:Int))) ?_ ?_
  ·intro g_1;replace h:=zS g_1 h
   refine sr [(0,{ id:=1,m:=1 })] [2,3] [1] 2 [.own 1 0,Ii 1] [Rb 28 1 []] zE an ?_
   refine wk [1] [] [.a 2 (.own 0 ((([]:List (List (Int)))).length)),.s 3] [.s 0] [(2,.own 0 ((([]:List (List (Int)))).length)),(3,Ii 1)] [(0,Rb 28 1 [])] (ac (congrArg (AV.own _) (by first | (simp;done) | (simp;omega)):(.own 1 0:AV)=.own 1 ((([]:List (List (Int)))).length)) an) ?_
   refine rt ?_
   cases h
   exact ⟨rfl,Nat.le_of_ble_eq_true rfl,by kernel_rfl⟩
  intro g_1;replace h:=zR g_1 h
  refine sq ?_
  refine sq ?_
  refine yB (mk [(1,Pp 0),(4,Ii (lN (r_1.Data))),(19,.bool (decide ((lN (r_1.Data))<(16:Int))||decide ((lN (r_1.Data))>(65536:Int))))] [(0,Vb 30 (zK r_1))] 1) ?_ ?_
  ·rcases bft (decide ((lN (r_1.Data))<(16:Int))) with gg_9 | gg_9
   ·refine rg [(3,Hg),(4,Hg),(5,Ht)] [1,4,19] [0] 1 [Pp 0,Ii (lN (r_1.Data)),.bool true] [Vb 30 (zK r_1)] zE (ac gg_9 (ac gg_9 (ac gg_9 an))) ?_
    exact ⟨rfl,(sw [0] [] [.s 1,.s 4,.a 19 (.bool (decide ((lN (r_1.Data))<(16:Int))||decide ((lN (r_1.Data))>(65536:Int))))] [.s 0] (ac (congrArg AV.bool (ort gg_9):(.bool true:AV)=.bool (decide ((lN (r_1.Data))<(16:Int))||decide ((lN (r_1.Data))>(65536:Int)))) an))⟩
   ·refine rg [(5,Hf)] [1,4,19] [0] 1 [Pp 0,Ii (lN (r_1.Data)),.bool (decide ((lN (r_1.Data))>(65536:Int)))] [Vb 30 (zK r_1)] zE (ac gg_9 (ac gg_9 (ac gg_9 an))) ?_
    exact ⟨rfl,(sw [0] [] [.s 1,.s 4,.a 19 (.bool (decide ((lN (r_1.Data))<(16:Int))||decide ((lN (r_1.Data))>(65536:Int))))] [.s 0] (ac (congrArg AV.bool (orf gg_9 rfl):(.bool (decide ((lN (r_1.Data))>(65536:Int))):AV)=.bool (decide ((lN (r_1.Data))<(16:Int))||decide ((lN (r_1.Data))>(65536:Int)))) an))⟩
  refine cd 19 (decide ((lN (r_1.Data))<(16:Int))||decide ((lN (r_1.Data))>(65536:Int))) ?_ ?_
  ·intro g_2;replace h:=zS g_2 h
   refine sk ?_
   refine cd 19 (decide ((lN (r_1.Data))<(16:Int))||decide ((lN (r_1.Data))>(65536:Int))) ?_ ?_
   rotate_left
   ·intro hg;exact Bool.noConfusion ((g_2).symm.trans hg)
   intro _
   refine sr [(0,{ id:=1,m:=1 })] [2,3] [1] 2 [.own 1 0,Ii 2] [Rb 28 1 []] zE an ?_
   refine wk [1] [] [.a 2 (.own 0 ((([]:List (List (Int)))).length)),.s 3] [.s 0] [(2,.own 0 ((([]:List (List (Int)))).length)),(3,Ii 2)] [(0,Rb 28 1 [])] (ac (congrArg (AV.own _) (by first | (simp;done) | (simp;omega)):(.own 1 0:AV)=.own 1 ((([]:List (List (Int)))).length)) an) ?_
   refine rt ?_
   cases h
   exact ⟨rfl,Nat.le_of_ble_eq_true rfl,by kernel_rfl⟩
  intro g_2;replace h:=zR g_2 h
  refine sr [] [1,4,19] [0] 1 [Pp 0,Ii (lN (r_1.Data)),.bool (decide (r_1.Start<(0:Int)))] [Vb 30 (zK r_1)] zE an ?_
  refine cd 19 (decide (r_1.Start<(0:Int))) ?_ ?_
  ·intro g_3;replace h:=zS g_3 h
   refine sk ?_
   refine cd 19 (decide (r_1.Start<(0:Int))) ?_ ?_
   rotate_left
   ·intro hg;exact Bool.noConfusion ((g_3).symm.trans hg)
   intro _
   refine sr [(0,{ id:=1,m:=1 })] [2,3] [1] 2 [.own 1 0,Ii 2] [Rb 28 1 []] zE an ?_
   refine wk [1] [] [.a 2 (.own 0 ((([]:List (List (Int)))).length)),.s 3] [.s 0] [(2,.own 0 ((([]:List (List (Int)))).length)),(3,Ii 2)] [(0,Rb 28 1 [])] (ac (congrArg (AV.own _) (by first | (simp;done) | (simp;omega)):(.own 1 0:AV)=.own 1 ((([]:List (List (Int)))).length)) an) ?_
   refine rt ?_
   cases h
   exact ⟨rfl,Nat.le_of_ble_eq_true rfl,by kernel_rfl⟩
  intro g_3;replace h:=zR g_3 h
  refine sr [] [1,4,19] [0] 1 [Pp 0,Ii (lN (r_1.Data)),.bool (decide (r_1.End<r_1.Start))] [Vb 30 (zK r_1)] zE an ?_
  refine cd 19 (decide (r_1.End<r_1.Start)) ?_ ?_
  ·intro g_4;replace h:=zS g_4 h
   refine sk ?_
   refine cd 19 (decide (r_1.End<r_1.Start)) ?_ ?_
   rotate_left
   ·intro hg;exact Bool.noConfusion ((g_4).symm.trans hg)
   intro _
   refine sr [(0,{ id:=1,m:=1 })] [2,3] [1] 2 [.own 1 0,Ii 2] [Rb 28 1 []] zE an ?_
   refine wk [1] [] [.a 2 (.own 0 ((([]:List (List (Int)))).length)),.s 3] [.s 0] [(2,.own 0 ((([]:List (List (Int)))).length)),(3,Ii 2)] [(0,Rb 28 1 [])] (ac (congrArg (AV.own _) (by first | (simp;done) | (simp;omega)):(.own 1 0:AV)=.own 1 ((([]:List (List (Int)))).length)) an) ?_
   refine rt ?_
   cases h
   exact ⟨rfl,Nat.le_of_ble_eq_true rfl,by kernel_rfl⟩
  intro g_4;replace h:=zR g_4 h
  refine sr [] [1,4,19] [0] 1 [Pp 0,Ii (lN (r_1.Data)),.bool (decide (r_1.End>(1000000000000000:Int)))] [Vb 30 (zK r_1)] zE an ?_
  refine cd 19 (decide (r_1.End>(1000000000000000:Int))) ?_ ?_
  ·intro g_5;replace h:=zS g_5 h
   refine sk ?_
   refine cd 19 (decide (r_1.End>(1000000000000000:Int))) ?_ ?_
   rotate_left
   ·intro hg;exact Bool.noConfusion ((g_5).symm.trans hg)
   intro _
   refine sr [(0,{ id:=1,m:=1 })] [2,3] [1] 2 [.own 1 0,Ii 2] [Rb 28 1 []] zE an ?_
   refine wk [1] [] [.a 2 (.own 0 ((([]:List (List (Int)))).length)),.s 3] [.s 0] [(2,.own 0 ((([]:List (List (Int)))).length)),(3,Ii 2)] [(0,Rb 28 1 [])] (ac (congrArg (AV.own _) (by first | (simp;done) | (simp;omega)):(.own 1 0:AV)=.own 1 ((([]:List (List (Int)))).length)) an) ?_
   refine rt ?_
   cases h
   exact ⟨rfl,Nat.le_of_ble_eq_true rfl,by kernel_rfl⟩
  intro g_5;replace h:=zR g_5 h
  refine sr [] [1,19] [0] 1 [Pp 0,.bool (decide ((zG (r_1.End - r_1.Start))>(lN (r_1.Data))))] [Vb 30 (zK r_1)] zE an ?_
  refine cd 19 (decide ((zG (r_1.End - r_1.Start))>(lN (r_1.Data)))) ?_ ?_
  ·intro g_6;replace h:=zS g_6 h
   refine sk ?_
   refine cd 19 (decide ((zG (r_1.End - r_1.Start))>(lN (r_1.Data)))) ?_ ?_
   rotate_left
   ·intro hg;exact Bool.noConfusion ((g_6).symm.trans hg)
   intro _
   refine sr [(0,{ id:=1,m:=1 })] [2,3] [1] 2 [.own 1 0,Ii 2] [Rb 28 1 []] zE an ?_
   refine wk [1] [] [.a 2 (.own 0 ((([]:List (List (Int)))).length)),.s 3] [.s 0] [(2,.own 0 ((([]:List (List (Int)))).length)),(3,Ii 2)] [(0,Rb 28 1 [])] (ac (congrArg (AV.own _) (by first | (simp;done) | (simp;omega)):(.own 1 0:AV)=.own 1 ((([]:List (List (Int)))).length)) an) ?_
   refine rt ?_
   cases h
   exact ⟨rfl,Nat.le_of_ble_eq_true rfl,by kernel_rfl⟩
  intro g_6;replace h:=zR g_6 h
  refine sr [] [1,19] [0] 1 [Pp 0,.bool (decide (r_1.First<(0:Int)))] [Vb 30 (zK r_1)] zE an ?_
  refine cd 19 (decide (r_1.First<(0:Int))) ?_ ?_
  ·intro g_7;replace h:=zS g_7 h
   refine sk ?_
   refine cd 19 (decide (r_1.First<(0:Int))) ?_ ?_
   rotate_left
   ·intro hg;exact Bool.noConfusion ((g_7).symm.trans hg)
   intro _
   refine sr [(0,{ id:=1,m:=1 })] [2,3] [1] 2 [.own 1 0,Ii 2] [Rb 28 1 []] zE an ?_
   refine wk [1] [] [.a 2 (.own 0 ((([]:List (List (Int)))).length)),.s 3] [.s 0] [(2,.own 0 ((([]:List (List (Int)))).length)),(3,Ii 2)] [(0,Rb 28 1 [])] (ac (congrArg (AV.own _) (by first | (simp;done) | (simp;omega)):(.own 1 0:AV)=.own 1 ((([]:List (List (Int)))).length)) an) ?_
   refine rt ?_
   cases h
   exact ⟨rfl,Nat.le_of_ble_eq_true rfl,by kernel_rfl⟩
  intro g_7;replace h:=zR g_7 h
  refine sr [] [1,19] [0] 1 [Pp 0,.bool (decide (r_1.Next<r_1.First))] [Vb 30 (zK r_1)] zE an ?_
  refine cd 19 (decide (r_1.Next<r_1.First)) ?_ ?_
  ·intro g_8;replace h:=zS g_8 h
   refine sk ?_
   refine cd 19 (decide (r_1.Next<r_1.First)) ?_ ?_
   rotate_left
   ·intro hg;exact Bool.noConfusion ((g_8).symm.trans hg)
   intro _
   refine sr [(0,{ id:=1,m:=1 })] [2,3] [1] 2 [.own 1 0,Ii 2] [Rb 28 1 []] zE an ?_
   refine wk [1] [] [.a 2 (.own 0 ((([]:List (List (Int)))).length)),.s 3] [.s 0] [(2,.own 0 ((([]:List (List (Int)))).length)),(3,Ii 2)] [(0,Rb 28 1 [])] (ac (congrArg (AV.own _) (by first | (simp;done) | (simp;omega)):(.own 1 0:AV)=.own 1 ((([]:List (List (Int)))).length)) an) ?_
   refine rt ?_
   cases h
   exact ⟨rfl,Nat.le_of_ble_eq_true rfl,by kernel_rfl⟩
  intro g_8;replace h:=zR g_8 h
  refine rg [] [1,19] [0] 1 [Pp 0,.bool (decide (r_1.Next>(1000000000000000:Int)))] [Vb 30 (zK r_1)] zE an ?_
  refine cd 19 (decide (r_1.Next>(1000000000000000:Int))) ?_ ?_
  rotate_left
  ·intro g_9;replace h:=zR g_9 h
   refine sk ?_
   cases h
   exact ⟨rfl,(sw [0] [] [.s 1] [.s 0] an)⟩
  intro g_9;replace h:=zS g_9 h
  refine sr [(0,{ id:=1,m:=1 })] [2,3] [1] 2 [.own 1 0,Ii 2] [Rb 28 1 []] zE an ?_
  refine wk [1] [] [.a 2 (.own 0 ((([]:List (List (Int)))).length)),.s 3] [.s 0] [(2,.own 0 ((([]:List (List (Int)))).length)),(3,Ii 2)] [(0,Rb 28 1 [])] (ac (congrArg (AV.own _) (by first | (simp;done) | (simp;omega)):(.own 1 0:AV)=.own 1 ((([]:List (List (Int)))).length)) an) ?_
  refine rt ?_
  cases h
  exact ⟨rfl,Nat.le_of_ble_eq_true rfl,by kernel_rfl⟩
 intro e st1 hk
 rcases o_1 with q_1 | q_2
 rotate_left
 ·obtain ⟨rfl,hf⟩:=hk
  cases h
  exact ⟨st1,Sub.refl _ _,.inr rfl,hf⟩
 obtain ⟨rfl,hs⟩:=hk
 refine ⟨_,hs,?_⟩
 refine sq ?_
 obtain ⟨r_2,h_2,h⟩:=bind_some h
 obtain ⟨r_3,h_3,h⟩:=bind_some h
 refine rg [(1,{ av:=.own 0 ((r_2).length),ids:=[1],l:=[zT r_1],post:=[(.row 5 1 (Mb r_2))] }),(2,{ av:=.tuple [.own 0 ((r_3.1).length),.bool r_3.2],frz:=[1],ids:=[2],l:=[.sl false 1 (Mb r_2)],post:=[(.row 28 1 (List.map (fun l=>AV.sl false 1 (l.map (AV.int .u8))) r_3.1))] })] [1,5,6] [0,2] 3 [Pp 0,.own 2 ((r_3.1).length),.bool r_3.2] [Vb 30 (zK r_1),Rb 28 1 (List.map (fun l=>AV.sl false 1 (l.map (AV.int .u8))) r_3.1)] zE (ar ([zT r_1]:List AV) (ac (rfl:([]:List zP)=[]) (ac (zD1 r_1 r_2 h_2:zN prog 81 [] [] [zT r_1] [(.row 5 1 (Mb r_2))] (.own 0 ((r_2).length))) (ac (by first | (simp;done) | (simp;omega):(r_2).length=((List.map (AV.int .u8) r_2)).length) (ar ([.sl false 1 (Mb r_2)]:List AV) (ac (rfl:([]:List zP)=[]) (ac (zFS F r_2 r_3 h_3:zN prog 80 [] [] [.sl false 1 (Mb r_2)] [(.row 28 1 (List.map (fun l=>AV.sl false 1 (l.map (AV.int .u8))) r_3.1))] (.tuple [.own 0 ((r_3.1).length),.bool r_3.2])) an))))))) ?_
 refine sq ?_
 refine sq ?_
 refine yB (mk [(5,.own 0 ((r_3.1).length)),(72,.bool (!r_3.2||((lN (r_3.1)) != (zG (r_1.Next - r_1.First)))))] [(0,Rb 28 1 (List.map (fun l=>AV.sl false 1 (l.map (AV.int .u8))) r_3.1))] 1) ?_ ?_
 ·rcases bft (!r_3.2) with gg_10 | gg_10
  ·refine rg [(3,Hg),(4,Hg),(5,Hg),(6,Hg),(7,Hg),(8,Hg),(9,Hg),(10,Hg),(11,Ht)] [5,72] [2] 3 [.own 2 ((r_3.1).length),.bool true] [Rb 28 1 (List.map (fun l=>AV.sl false 1 (l.map (AV.int .u8))) r_3.1)] zE (ac gg_10 (ac gg_10 (ac gg_10 (ac gg_10 (ac gg_10 (ac gg_10 (ac gg_10 (ac gg_10 (ac gg_10 an))))))))) ?_
   exact ⟨rfl,(sw [2] [] [.s 5,.a 72 (.bool (!r_3.2||((lN (r_3.1)) != (zG (r_1.Next - r_1.First)))))] [.s 0] (ac (congrArg AV.bool (ort gg_10):(.bool true:AV)=.bool (!r_3.2||((lN (r_3.1)) != (zG (r_1.Next - r_1.First))))) an))⟩
  ·refine rg [(11,Hf)] [5,72] [2] 3 [.own 2 ((r_3.1).length),.bool ((lN (r_3.1)) != (zG (r_1.Next - r_1.First)))] [Rb 28 1 (List.map (fun l=>AV.sl false 1 (l.map (AV.int .u8))) r_3.1)] zE (ac gg_10 (ac gg_10 (ac gg_10 (ac gg_10 (ac gg_10 (ac gg_10 (ac gg_10 (ac gg_10 (ac gg_10 an))))))))) ?_
   exact ⟨rfl,(sw [2] [] [.s 5,.a 72 (.bool (!r_3.2||((lN (r_3.1)) != (zG (r_1.Next - r_1.First)))))] [.s 0] (ac (congrArg AV.bool (orf gg_10 rfl):(.bool ((lN (r_3.1)) != (zG (r_1.Next - r_1.First))):AV)=.bool (!r_3.2||((lN (r_3.1)) != (zG (r_1.Next - r_1.First))))) an))⟩
 refine cd 72 (!r_3.2||((lN (r_3.1)) != (zG (r_1.Next - r_1.First)))) ?_ ?_
 ·intro g_10;replace h:=zS g_10 h
  refine sr [(0,{ id:=1,m:=1 })] [2,3] [1] 2 [.own 1 0,Ii 10] [Rb 28 1 []] zE an ?_
  refine wk [1] [] [.a 2 (.own 0 ((([]:List (List (Int)))).length)),.s 3] [.s 0] [(2,.own 0 ((([]:List (List (Int)))).length)),(3,Ii 10)] [(0,Rb 28 1 [])] (ac (congrArg (AV.own _) (by first | (simp;done) | (simp;omega)):(.own 1 0:AV)=.own 1 ((([]:List (List (Int)))).length)) an) ?_
  refine rt ?_
  cases h
  exact ⟨.inr rfl,Nat.le_of_ble_eq_true rfl,by kernel_rfl⟩
 intro g_10;replace h:=zR g_10 h
 refine sk ?_
 refine sr [] [2,3] [0] 1 [.own 0 ((r_3.1).length),Ii 0] [Rb 28 1 (List.map (fun l=>AV.sl false 1 (l.map (AV.int .u8))) r_3.1)] zE an ?_
 refine wk [0] [] [.s 2,.s 3] [.s 0] [(2,.own 0 ((r_3.1).length)),(3,Ii 0)] [(0,Rb 28 1 (List.map (fun l=>AV.sl false 1 (l.map (AV.int .u8))) r_3.1))] an ?_
 refine rt ?_
 cases h
 exact ⟨.inr rfl,Nat.le_of_ble_eq_true rfl,by kernel_rfl⟩
theorem zGb (F:Nat) (r_1:zB) (r:Int) (h:p9 F r_1=some r):zN prog 51 [] [] [zT r_1] [] (Ii r):=by
 refine zV (fn:=Go.Proofs.Try.f51) (code:=yG Go.Proofs.Try.f51) (by kernel_rfl) (by kernel_rfl) (Nat.le_of_ble_eq_true (by kernel_rfl)) ?_
 unfold p9 at h
 refine sr [(0,{ id:=0 })] [1] [0] 1 [Pp 0] [Vb 30 (zK r_1)] zE an ?_
 refine sq ?_
 obtain ⟨r_2,h_1,h⟩:=bind_some h
 refine rg [(1,{ av:=.tuple [.own 0 ((r_2.1).length),Ii r_2.2],ids:=[1],l:=[zT r_1],post:=[(.row 28 1 (List.map (fun l=>AV.sl false 1 (l.map (AV.int .u8))) r_2.1))] })] [4] [] 2 [Ii r_2.2] [] zE (ar ([zT r_1]:List AV) (ac (rfl:([]:List zP)=[]) (ac (zA6 F r_1 r_2 h_1:zN prog 53 [] [] [zT r_1] [(.row 28 1 (List.map (fun l=>AV.sl false 1 (l.map (AV.int .u8))) r_2.1))] (.tuple [.own 0 ((r_2.1).length),Ii r_2.2])) an))) ?_
 refine sr [] [2] [] 2 [Ii r_2.2] [] zE an ?_
 refine rt ?_
 cases h
 exact ⟨.inr rfl,Nat.le_of_ble_eq_true rfl,by kernel_rfl⟩
theorem zCM (F:Nat) (r_1:zB) (r:(List (List (Int)))×zB) (h:pL F r_1=some r):zN prog 35 [] [] [zT r_1] [.row 28 1 (List.map (fun l=>AV.sl false 1 (l.map (AV.int .u8))) r.1)] (.tuple [.own 0 ((r.1).length),zT r.2]):=by
 refine zV (fn:=Go.Proofs.Try.f35) (code:=yG Go.Proofs.Try.f35) (by kernel_rfl) (by kernel_rfl) (Nat.le_of_ble_eq_true (by kernel_rfl)) ?_
 unfold pL at h
 refine sr [(0,{ id:=0 }),(1,{ id:=1,m:=1 }),(2,{ id:=2 })] [1,3] [0,2] 3 [Pp 0,Pp 2] [Vb 30 (zK r_1),Vb 30 [Ii 0,.nilsl,Ii 0,Ii 0,Ii 0,Ii 0]] zE an ?_
 refine sq ?_
 obtain ⟨r_2,h_1,h⟩:=bind_some h
 refine rg [(1,{ av:=.tuple [.own 0 ((r_2.1).length),Ii r_2.2],ids:=[3],l:=[zT r_1],post:=[(.row 28 1 (List.map (fun l=>AV.sl false 1 (l.map (AV.int .u8))) r_2.1))] })] [1,3,4,5] [0,2,3] 4 [Pp 0,Pp 2,.own 3 ((r_2.1).length),Ii r_2.2] [Vb 30 (zK r_1),Vb 30 [Ii 0,.nilsl,Ii 0,Ii 0,Ii 0,Ii 0],Rb 28 1 (List.map (fun l=>AV.sl false 1 (l.map (AV.int .u8))) r_2.1)] zE (ar ([zT r_1]:List AV) (ac (rfl:([]:List zP)=[]) (ac (zA6 F r_1 r_2 h_1:zN prog 53 [] [] [zT r_1] [(.row 28 1 (List.map (fun l=>AV.sl false 1 (l.map (AV.int .u8))) r_2.1))] (.tuple [.own 0 ((r_2.1).length),Ii r_2.2])) an))) ?_
 refine sq ?_
 refine sr [] [1,3,4,12] [0,2,3] 4 [Pp 0,Pp 2,.own 3 ((r_2.1).length),.bool (r_2.2 != (0:Int))] [Vb 30 (zK r_1),Vb 30 [Ii 0,.nilsl,Ii 0,Ii 0,Ii 0,Ii 0],Rb 28 1 (List.map (fun l=>AV.sl false 1 (l.map (AV.int .u8))) r_2.1)] zE an ?_
 refine cd 12 (r_2.2 != (0:Int)) ?_ ?_
 ·intro g_1;replace h:=zS g_1 h
  refine sr [(1,{ id:=4,m:=1 })] [2,3] [2,4] 5 [.own 4 0,Pp 2] [Vb 30 (zK r_1),Rb 28 1 []] zE an ?_
  refine wk [4,2] [] [.a 2 (.own 0 ((([]:List (List (Int)))).length)),.s 3] [.s 0,.s 1] [(2,.own 0 ((([]:List (List (Int)))).length)),(3,Pp 1)] [(0,Rb 28 1 []),(1,Vb 30 (zK r_1))] (ac (congrArg (AV.own _) (by first | (simp;done) | (simp;omega)):(.own 4 0:AV)=.own 4 ((([]:List (List (Int)))).length)) an) ?_
  refine rt ?_
  cases h
  exact ⟨.inr rfl,Nat.le_of_ble_eq_true rfl,by kernel_rfl⟩
 intro g_1;replace h:=zR g_1 h
 refine sk ?_
 refine sr [] [1,3,4] [0,2,3] 4 [Pp 0,Pp 2,.own 3 ((r_2.1).length)] [Vb 30 [Ii r_1.Policy,.sl false 1 (Mb r_1.Data),Ii r_1.End,Ii r_1.End,Ii r_1.Next,Ii r_1.Next],Vb 30 [Ii 0,.nilsl,Ii 0,Ii 0,Ii 0,Ii 0],Rb 28 1 (List.map (fun l=>AV.sl false 1 (l.map (AV.int .u8))) r_2.1)] zE an ?_
 refine sr [] [2,3] [2,3] 4 [.own 3 ((r_2.1).length),Pp 2] [Vb 30 [Ii r_1.Policy,.sl false 1 (Mb r_1.Data),Ii r_1.End,Ii r_1.End,Ii r_1.Next,Ii r_1.Next],Rb 28 1 (List.map (fun l=>AV.sl false 1 (l.map (AV.int .u8))) r_2.1)] zE an ?_
 refine wk [3,2] [] [.s 2,.s 3] [.s 0,.a 1 (Vb 30 (zK (⟨r_1.Policy,r_1.Data,r_1.End,r_1.End,r_1.Next,r_1.Next⟩:zB)))] [(2,.own 0 ((r_2.1).length)),(3,Pp 1)] [(0,Rb 28 1 (List.map (fun l=>AV.sl false 1 (l.map (AV.int .u8))) r_2.1)),(1,Vb 30 (zK (⟨r_1.Policy,r_1.Data,r_1.End,r_1.End,r_1.Next,r_1.Next⟩:zB)))] (ar 30 (ac (rfl:xH [Ii ((⟨r_1.Policy,r_1.Data,r_1.End,r_1.End,r_1.Next,r_1.Next⟩:zB).Policy),.sl false 1 (Mb ((⟨r_1.Policy,r_1.Data,r_1.End,r_1.End,r_1.Next,r_1.Next⟩:zB).Data)),Ii ((⟨r_1.Policy,r_1.Data,r_1.End,r_1.End,r_1.Next,r_1.Next⟩:zB).Start),Ii ((⟨r_1.Policy,r_1.Data,r_1.End,r_1.End,r_1.Next,r_1.Next⟩:zB).End),Ii ((⟨r_1.Policy,r_1.Data,r_1.End,r_1.End,r_1.Next,r_1.Next⟩:zB).First),Ii ((⟨r_1.Policy,r_1.Data,r_1.End,r_1.End,r_1.Next,r_1.Next⟩:zB).Next)]=true) (ac (rfl:(Ii r_1.Policy:AV)=Ii ((⟨r_1.Policy,r_1.Data,r_1.End,r_1.End,r_1.Next,r_1.Next⟩:zB).Policy)) (ar 1 (ac (rfl:((Mb r_1.Data):List AV)=(Mb ((⟨r_1.Policy,r_1.Data,r_1.End,r_1.End,r_1.Next,r_1.Next⟩:zB).Data))) (ac (rfl:(!false||false)=true) (ac (rfl:(Ii r_1.End:AV)=Ii ((⟨r_1.Policy,r_1.Data,r_1.End,r_1.End,r_1.Next,r_1.Next⟩:zB).Start)) (ac (rfl:(Ii r_1.End:AV)=Ii ((⟨r_1.Policy,r_1.Data,r_1.End,r_1.End,r_1.Next,r_1.Next⟩:zB).End)) (ac (rfl:(Ii r_1.Next:AV)=Ii ((⟨r_1.Policy,r_1.Data,r_1.End,r_1.End,r_1.Next,r_1.Next⟩:zB).First)) (ac (rfl:(Ii r_1.Next:AV)=Ii ((⟨r_1.Policy,r_1.Data,r_1.End,r_1.End,r_1.Next,r_1.Next⟩:zB).Next)) an)))))))))) ?_
 refine rt ?_
 cases h
 exact ⟨.inr rfl,Nat.le_of_ble_eq_true rfl,by kernel_rfl⟩
theorem wX (F:Nat) (x_1:yE) (r:Int×yE) (h:y1 F x_1=some r):zN prog 97 [(.var 136 (z5 x_1))] [] [Pp 0] [(.var 136 (z5 r.2))] (Ii r.1):=by
 refine zV (fn:=Go.Proofs.Try.f97) (code:=yG Go.Proofs.Try.f97) (by kernel_rfl) (by kernel_rfl) (Nat.le_of_ble_eq_true (by kernel_rfl)) ?_
 unfold y1 at h
 refine sr [] [0] [0] 1 [Pp 0] [Vb 136 (z5 x_1)] zE an ?_
 refine sq ?_
 refine sr [] [0,10] [0] 1 [Pp 0,.bool (x_1.fault != (0:Int))] [Vb 136 (z5 x_1)] zE an ?_
 refine cd 10 (x_1.fault != (0:Int)) ?_ ?_
 ·intro g_1;replace h:=zS g_1 h
  refine sr [] [2] [0] 1 [Ii 0] [Vb 136 (z5 x_1)] zE an ?_
  refine wk [0] [] [.s 2] [.s 0] [(2,Ii 0)] [(0,Vb 136 (z5 x_1))] an ?_
  refine rt ?_
  cases h
  exact ⟨.inr rfl,Nat.le_of_ble_eq_true rfl,by kernel_rfl⟩
 intro g_1;replace h:=zR g_1 h
 refine sk ?_
 refine sq ?_
 obtain ⟨_,h_1,h⟩:=bind_some h;replace h_1:=z9 h_1
 obtain ⟨r_1,h_2,h⟩:=bind_some h
 refine rg [(8,{ l:=(Mb (sub x_1.b x_1.used (lN (x_1.b)))) }),(9,{ av:=.tuple [Ii r_1.1,Ii r_1.2.1,Ii r_1.2.2],l:=[.sl false 1 (Mb (sub x_1.b x_1.used (lN (x_1.b))))] })] [0,3,4,5] [0] 1 [Pp 0,Ii r_1.1,Ii r_1.2.1,Ii r_1.2.2] [Vb 136 (z5 x_1)] zE (ac h_1.1 (ac (jA h_1.2:x_1.used≤(lN ((Mb x_1.b)))) (ac (Int.le_refl _:(lN ((Mb x_1.b)))≤(lN ((Mb x_1.b)))) (ac (zBP _ _:(Mb (sub x_1.b x_1.used (lN (x_1.b))))=(((Mb x_1.b)).take ((lN ((Mb x_1.b)))).toNat).drop (x_1.used).toNat) (ar ([.sl false 1 (Mb (sub x_1.b x_1.used (lN (x_1.b))))]:List AV) (ac (rfl:([]:List zP)=[]) (ac (zCU F (sub x_1.b x_1.used (lN (x_1.b))) r_1 h_2:zN prog 99 [] [] [.sl false 1 (Mb (sub x_1.b x_1.used (lN (x_1.b))))] [] (.tuple [Ii r_1.1,Ii r_1.2.1,Ii r_1.2.2])) an))))))) ?_
 refine sr [] [0,3,4] [0] 1 [Pp 0,Ii r_1.1,Ii r_1.2.1] [Vb 136 [.sl false 1 (Mb x_1.b),Ii x_1.used,Ii r_1.2.2]] zE an ?_
 refine sr [] [3] [0] 1 [Ii r_1.1] [Vb 136 [.sl false 1 (Mb x_1.b),Ii (zG (x_1.used+r_1.2.1)),Ii r_1.2.2]] zE an ?_
 refine sr [] [2] [0] 1 [Ii r_1.1] [Vb 136 [.sl false 1 (Mb x_1.b),Ii (zG (x_1.used+r_1.2.1)),Ii r_1.2.2]] zE an ?_
 refine wk [0] [] [.s 2] [.a 0 (Vb 136 (z5 (⟨x_1.b,zG (x_1.used+r_1.2.1),r_1.2.2⟩:yE)))] [(2,Ii r_1.1)] [(0,Vb 136 (z5 (⟨x_1.b,zG (x_1.used+r_1.2.1),r_1.2.2⟩:yE)))] (ar 136 (ac (rfl:xH [.sl false 1 (Mb ((⟨x_1.b,zG (x_1.used+r_1.2.1),r_1.2.2⟩:yE).b)),Ii ((⟨x_1.b,zG (x_1.used+r_1.2.1),r_1.2.2⟩:yE).used),Ii ((⟨x_1.b,zG (x_1.used+r_1.2.1),r_1.2.2⟩:yE).fault)]=true) (ar 1 (ac (rfl:((Mb x_1.b):List AV)=(Mb ((⟨x_1.b,zG (x_1.used+r_1.2.1),r_1.2.2⟩:yE).b))) (ac (rfl:(!false||false)=true) (ac (rfl:(Ii (zG (x_1.used+r_1.2.1)):AV)=Ii ((⟨x_1.b,zG (x_1.used+r_1.2.1),r_1.2.2⟩:yE).used)) (ac (rfl:(Ii r_1.2.2:AV)=Ii ((⟨x_1.b,zG (x_1.used+r_1.2.1),r_1.2.2⟩:yE).fault)) an))))))) ?_
 refine rt ?_
 cases h
 exact ⟨.inr rfl,Nat.le_of_ble_eq_true rfl,by kernel_rfl⟩
theorem zBE (k_1:Int) (r:Bool×Bool×Bool×Bool) (h:n7 k_1=some r):zN prog 58 [] [] [Ii k_1] [] (.tuple [.bool r.1,.bool r.2.1,.bool r.2.2.1,.bool r.2.2.2]):=by
 refine zV (fn:=Go.Proofs.Try.f58) (code:=yG Go.Proofs.Try.f58) (by kernel_rfl) (by kernel_rfl) (Nat.le_of_ble_eq_true (by kernel_rfl)) ?_
 unfold n7 at h
 refine sr [] [0] [] 0 [Ii k_1] [] zE an ?_
 refine sq ?_
 refine yB (mk [(0,Ii k_1),(2,.bool ((k_1==(1:Int))||((k_1==(3:Int))||(k_1==(4:Int)))))] [] 0) ?_ ?_
 ·rcases bft (k_1==(1:Int)) with gg_1 | gg_1
  ·refine rg [(3,Hg),(4,Hg),(5,Ht),(7,Hg),(8,Hg),(9,Ht)] [0,2] [] 0 [Ii k_1,.bool true] [] zE (ac gg_1 (ac gg_1 (ac gg_1 (ax (ax (ar true an)))))) ?_
   exact ⟨rfl,(sw [] [] [.s 0,.a 2 (.bool ((k_1==(1:Int))||((k_1==(3:Int))||(k_1==(4:Int)))))] [] (ac (congrArg AV.bool (ort gg_1):(.bool true:AV)=.bool ((k_1==(1:Int))||((k_1==(3:Int))||(k_1==(4:Int))))) an))⟩
  ·rcases bft (k_1==(3:Int)) with gg_2 | gg_2
   ·refine rg [(5,Hf),(7,Hg),(8,Hg),(9,Ht)] [0,2] [] 0 [Ii k_1,.bool true] [] zE (ac gg_1 (ac gg_1 (ac gg_1 (ac gg_2 (ac gg_2 (ac gg_2 an)))))) ?_
    exact ⟨rfl,(sw [] [] [.s 0,.a 2 (.bool ((k_1==(1:Int))||((k_1==(3:Int))||(k_1==(4:Int)))))] [] (ac (congrArg AV.bool (orf gg_1 (ort gg_2)):(.bool true:AV)=.bool ((k_1==(1:Int))||((k_1==(3:Int))||(k_1==(4:Int))))) an))⟩
   ·refine rg [(5,Hf),(9,Hf)] [0,2] [] 0 [Ii k_1,.bool (k_1==(4:Int))] [] zE (ac gg_1 (ac gg_1 (ac gg_1 (ac gg_2 (ac gg_2 (ac gg_2 an)))))) ?_
    exact ⟨rfl,(sw [] [] [.s 0,.a 2 (.bool ((k_1==(1:Int))||((k_1==(3:Int))||(k_1==(4:Int)))))] [] (ac (congrArg AV.bool (orf gg_1 (orf gg_2 rfl)):(.bool (k_1==(4:Int)):AV)=.bool ((k_1==(1:Int))||((k_1==(3:Int))||(k_1==(4:Int))))) an))⟩
 refine sr [] [0,2,3] [] 0 [Ii k_1,.bool ((k_1==(1:Int))||((k_1==(3:Int))||(k_1==(4:Int)))),.bool (decide (k_1≥(4:Int)))] [] zE an ?_
 refine sq ?_
 refine yB (mk [(0,Ii k_1),(2,.bool ((k_1==(1:Int))||((k_1==(3:Int))||(k_1==(4:Int))))),(3,.bool (decide (k_1≥(4:Int)))),(4,.bool ((k_1==(9:Int))||(k_1==(11:Int))))] [] 0) ?_ ?_
 ·rcases bft (k_1==(9:Int)) with gg_3 | gg_3
  ·refine rg [(3,Hg),(4,Hg),(5,Ht)] [0,2,3,4] [] 0 [Ii k_1,.bool ((k_1==(1:Int))||((k_1==(3:Int))||(k_1==(4:Int)))),.bool (decide (k_1≥(4:Int))),.bool true] [] zE (ac gg_3 (ac gg_3 (ac gg_3 an))) ?_
   exact ⟨rfl,(sw [] [] [.s 0,.s 2,.s 3,.a 4 (.bool ((k_1==(9:Int))||(k_1==(11:Int))))] [] (ac (congrArg AV.bool (ort gg_3):(.bool true:AV)=.bool ((k_1==(9:Int))||(k_1==(11:Int)))) an))⟩
  ·refine rg [(5,Hf)] [0,2,3,4] [] 0 [Ii k_1,.bool ((k_1==(1:Int))||((k_1==(3:Int))||(k_1==(4:Int)))),.bool (decide (k_1≥(4:Int))),.bool (k_1==(11:Int))] [] zE (ac gg_3 (ac gg_3 (ac gg_3 an))) ?_
   exact ⟨rfl,(sw [] [] [.s 0,.s 2,.s 3,.a 4 (.bool ((k_1==(9:Int))||(k_1==(11:Int))))] [] (ac (congrArg AV.bool (orf gg_3 rfl):(.bool (k_1==(11:Int)):AV)=.bool ((k_1==(9:Int))||(k_1==(11:Int)))) an))⟩
 refine sq ?_
 refine yB (mk [(2,.bool ((k_1==(1:Int))||((k_1==(3:Int))||(k_1==(4:Int))))),(3,.bool (decide (k_1≥(4:Int)))),(4,.bool ((k_1==(9:Int))||(k_1==(11:Int)))),(5,.bool ((k_1==(5:Int))||(k_1==(11:Int))))] [] 0) ?_ ?_
 ·rcases bft (k_1==(5:Int)) with gg_4 | gg_4
  ·refine rg [(3,Hg),(4,Hg),(5,Ht)] [2,3,4,5] [] 0 [.bool ((k_1==(1:Int))||((k_1==(3:Int))||(k_1==(4:Int)))),.bool (decide (k_1≥(4:Int))),.bool ((k_1==(9:Int))||(k_1==(11:Int))),.bool true] [] zE (ac gg_4 (ac gg_4 (ac gg_4 an))) ?_
   exact ⟨rfl,(sw [] [] [.s 2,.s 3,.s 4,.a 5 (.bool ((k_1==(5:Int))||(k_1==(11:Int))))] [] (ac (congrArg AV.bool (ort gg_4):(.bool true:AV)=.bool ((k_1==(5:Int))||(k_1==(11:Int)))) an))⟩
  ·refine rg [(5,Hf)] [2,3,4,5] [] 0 [.bool ((k_1==(1:Int))||((k_1==(3:Int))||(k_1==(4:Int)))),.bool (decide (k_1≥(4:Int))),.bool ((k_1==(9:Int))||(k_1==(11:Int))),.bool (k_1==(11:Int))] [] zE (ac gg_4 (ac gg_4 (ac gg_4 an))) ?_
   exact ⟨rfl,(sw [] [] [.s 2,.s 3,.s 4,.a 5 (.bool ((k_1==(5:Int))||(k_1==(11:Int))))] [] (ac (congrArg AV.bool (orf gg_4 rfl):(.bool (k_1==(11:Int)):AV)=.bool ((k_1==(5:Int))||(k_1==(11:Int)))) an))⟩
 refine sr [] [2,3,4,5] [] 0 [.bool ((k_1==(1:Int))||((k_1==(3:Int))||(k_1==(4:Int)))),.bool (decide (k_1≥(4:Int))),.bool ((k_1==(9:Int))||(k_1==(11:Int))),.bool ((k_1==(5:Int))||(k_1==(11:Int)))] [] zE an ?_
 refine rt ?_
 cases h
 exact ⟨.inr rfl,Nat.le_of_ble_eq_true rfl,by kernel_rfl⟩
theorem pP (F:Nat) (s_1:List (List Int)) (r:(List (List Int))) (h:xX F s_1=some r):zN prog 102 [(.row 9 1 (Ms s_1))] [] [.own 0 ((s_1).length)] [(.row 9 1 (Ms r))] (.tuple []):=by
 refine zV (fn:=Go.Proofs.Try.f102) (code:=yG Go.Proofs.Try.f102) (by kernel_rfl) (by kernel_rfl) (Nat.le_of_ble_eq_true (by kernel_rfl)) ?_
 unfold xX at h
 refine sr [] [0,2,3] [0] 1 [.own 0 ((s_1).length),Ii 0,Ii (zG ((lN (s_1)) - (1:Int)))] [Rb 9 1 (Ms s_1)] zE an ?_
 obtain ⟨o_1,h_1,h⟩:=bind_some h
 refine yB (mk [] [(0,Rb 9 1 (Ms o_1))] 1) ?_ ?_
 ·replace h:=h_1
  refine z7 (id:=0) (by kernel_rfl) ?_
  refine wk [0] [] [.s 0,.s 2,.s 3] [.s 0] [(0,.own 0 ((s_1).length)),(2,Ii 0),(3,Ii (zG ((lN (s_1)) - (1:Int))))] [(0,Rb 9 1 (Ms s_1))] an ?_
  refine y9 (fun n st=>∃ (i_1:Int),∃ (j_1:Int),∃ (row_1:List (List Int)),st=mk [(0,.own 0 ((row_1).length)),(2,Ii i_1),(3,Ii j_1)] [(0,Rb 9 1 (Ms row_1))] 1∧y2 F n i_1 j_1 row_1=some o_1) F (by kernel_rfl) ⟨_,_,_,rfl,h⟩ ?_ ?_
  ·rintro _ ⟨_,_,_,_,h⟩;exact xJ (h:(none:Option (List (List Int)))=some o_1)
  rintro n_1 _ ⟨i_1,j_1,row_1,rfl,h⟩
  replace h:y6 F (y2 F n_1) i_1 j_1 row_1=some o_1:=h
  unfold y6 at h
  refine sq ?_
  refine sr [] [0,2,3,9] [0] 1 [.own 0 ((row_1).length),Ii i_1,Ii j_1,.bool (decide (i_1<j_1))] [Rb 9 1 (Ms row_1)] zE an ?_
  refine cd 9 (decide (i_1<j_1)) ?_ ?_
  rotate_left
  ·intro g_1;replace h:=zR g_1 h
   refine xF (id:=0) (by kernel_rfl) ?_
   cases h
   exact ⟨rfl,(sw [0] [] [] [.s 0] an)⟩
  intro g_1;replace h:=zS g_1 h
  refine sk ?_
  refine sq ?_
  refine z7 (id:=1) (by kernel_rfl) ?_
  obtain ⟨x_1,h_2,h⟩:=bind_some h
  obtain ⟨x_2,h_3,h⟩:=bind_some h
  obtain ⟨x_3,h_4,h⟩:=bind_some h
  obtain ⟨x_4,h_5,h⟩:=bind_some h
  refine rg [(7,{ av:=.str x_1 }),(11,{ av:=.str x_2 }),(13,{ av:=.str x_3,l:=(Ms ((row_1).set ((i_1).toNat) x_1)) }),(15,{ av:=.str x_4,l:=(Ms (((row_1).set ((i_1).toNat) x_1).set ((j_1).toNat) x_2)) })] [0,2,3] [0] 1 [.own 0 ((row_1).length),Ii i_1,Ii j_1] [Rb 9 1 (Ms (((row_1).set ((i_1).toNat) x_1).set ((j_1).toNat) x_2))] zE (ac (yL h_2:(0:Int)≤j_1) (ac (by first | (simp;done) | simpa using yK h_2:j_1<(((row_1).length:Nat):Int)) (ac (yV h_2:(Ms row_1)[(j_1).toNat]?=some (.str x_1)) (ac (yL h_3:(0:Int)≤i_1) (ac (by first | (simp;done) | simpa using yK h_3:i_1<(((row_1).length:Nat):Int)) (ac (yV h_3:(Ms row_1)[(i_1).toNat]?=some (.str x_2)) (ac (yL h_4:(0:Int)≤i_1) (ac (by first | (simp;done) | simpa using yK h_4:i_1<(((row_1).length:Nat):Int)) (ac (yV h_4:(Ms row_1)[(i_1).toNat]?=some (.str x_3)) (ac (zBC _ _ _:(Ms ((row_1).set ((i_1).toNat) x_1))=List.set (Ms row_1) ((i_1).toNat) (jR (.str x_3) 0 [.str x_1])) (ac (yL h_5:(0:Int)≤j_1) (ac (by first | (simp;done) | simpa using yK h_5:j_1<(((row_1).length:Nat):Int)) (ac (yV h_5:(Ms ((row_1).set ((i_1).toNat) x_1))[(j_1).toNat]?=some (.str x_4)) (ac (zBC _ _ _:(Ms (((row_1).set ((i_1).toNat) x_1).set ((j_1).toNat) x_2))=List.set (Ms ((row_1).set ((i_1).toNat) x_1)) ((j_1).toNat) (jR (.str x_4) 0 [.str x_2])) an)))))))))))))) ?_
  refine rg [] [0,2,3] [0] 1 [.own 0 ((row_1).length),Ii (zG (i_1+(1:Int))),Ii (zG (j_1 - (1:Int)))] [Rb 9 1 (Ms (((row_1).set ((i_1).toNat) x_1).set ((j_1).toNat) x_2))] zE an ?_
  exact ⟨_,(sw [0] [] [.a 0 (.own 0 ((((row_1).set ((i_1).toNat) x_1).set ((j_1).toNat) x_2).length)),.s 2,.s 3] [.s 0] (ac (congrArg (AV.own _) (by first | (simp;done) | (simp;omega)):(.own 0 ((row_1).length):AV)=.own 0 ((((row_1).set ((i_1).toNat) x_1).set ((j_1).toNat) x_2).length)) an)),_,_,_,rfl,h⟩
 cases h
 exact ⟨.inl rfl,Nat.le_of_ble_eq_true rfl,by kernel_rfl⟩
theorem zEd (F:Nat) (names_1:List (List Int)) (stacks_1:List (zI)) (i_1:Int) (r:(List (List Int))×Int) (h:qN F names_1 stacks_1 i_1=some r):zN prog 98 [] [] [.sl false 1 (Ms names_1),.sl false 2 (Mp zD stacks_1),Ii i_1] [.row 9 1 (Ms r.1)] (.tuple [.own 0 ((r.1).length),Ii r.2]):=by
 refine zV (fn:=Go.Proofs.Try.f98) (code:=yG Go.Proofs.Try.f98) (by kernel_rfl) (by kernel_rfl) (Nat.le_of_ble_eq_true (by kernel_rfl)) ?_
 unfold qN at h
 refine sr [(0,{ id:=0,m:=1 })] [0,1,2] [] 1 [.sl false 1 (Ms names_1),.sl false 2 (Mp zD stacks_1),Ii i_1] [] zE an ?_
 refine sq ?_
 refine z7 (id:=0) (by kernel_rfl) ?_
 refine sq ?_
 obtain ⟨r_1,h_1,h⟩:=bind_some h
 refine rg [(2,{ av:=Ii r_1,l:=[.sl false 1 (Ms names_1),.sl false 2 (Mp zD stacks_1)] })] [0,1,2,9] [] 1 [.sl false 1 (Ms names_1),.sl false 2 (Mp zD stacks_1),Ii i_1,.bool (r_1 != (0:Int))] [] zE (ar ([.sl false 1 (Ms names_1),.sl false 2 (Mp zD stacks_1)]:List AV) (ac (rfl:([]:List zP)=[]) (ac (jY F names_1 stacks_1 r_1 h_1:zN prog 50 [] [] [.sl false 1 (Ms names_1),.sl false 2 (Mp zD stacks_1)] [] (Ii r_1)) an))) ?_
 refine cd 9 (r_1 != (0:Int)) ?_ ?_
 ·intro g_1;replace h:=zS g_1 h
  refine sr [(0,{ id:=1,m:=1 })] [6,7] [1] 2 [.own 1 0,Ii 1] [Rb 9 1 []] zE an ?_
  refine wk [1] [] [.a 6 (.own 0 ((([]:List (List Int))).length)),.s 7] [.s 0] [(6,.own 0 ((([]:List (List Int))).length)),(7,Ii 1)] [(0,Rb 9 1 [])] (ac (congrArg (AV.own _) (by first | (simp;done) | (simp;omega)):(.own 1 0:AV)=.own 1 ((([]:List (List Int))).length)) an) ?_
  refine rt ?_
  cases h
  exact ⟨.inr rfl,Nat.le_of_ble_eq_true rfl,by kernel_rfl⟩
 intro g_1;replace h:=zR g_1 h
 refine sq ?_
 refine yB (mk [(0,.sl false 1 (Ms names_1)),(1,.sl false 2 (Mp zD stacks_1)),(2,Ii i_1),(14,.bool (decide (i_1<(-1:Int))||decide (i_1≥(lN (stacks_1)))))] [] 0) ?_ ?_
 ·rcases bft (decide (i_1<(-1:Int))) with gg_2 | gg_2
  ·refine rg [(3,Hg),(4,Hg),(5,Hg),(6,Hg),(7,Ht)] [0,1,2,14] [] 1 [.sl false 1 (Ms names_1),.sl false 2 (Mp zD stacks_1),Ii i_1,.bool true] [] zE (ac gg_2 (ac gg_2 (ac gg_2 (ac gg_2 (ac gg_2 an))))) ?_
   exact ⟨rfl,(sw [] [] [.s 0,.s 1,.s 2,.a 14 (.bool (decide (i_1<(-1:Int))||decide (i_1≥(lN (stacks_1)))))] [] (ac (congrArg AV.bool (ort gg_2):(.bool true:AV)=.bool (decide (i_1<(-1:Int))||decide (i_1≥(lN (stacks_1))))) an))⟩
  ·refine rg [(5,{ n:=(stacks_1).length }),(7,Hf)] [0,1,2,14] [] 1 [.sl false 1 (Ms names_1),.sl false 2 (Mp zD stacks_1),Ii i_1,.bool (decide (i_1≥(lN (stacks_1))))] [] zE (ac gg_2 (ac gg_2 (ac gg_2 (ac (yA _:((Mp zD stacks_1)).length=(stacks_1).length) (ac gg_2 (ac gg_2 an)))))) ?_
   exact ⟨rfl,(sw [] [] [.s 0,.s 1,.s 2,.a 14 (.bool (decide (i_1<(-1:Int))||decide (i_1≥(lN (stacks_1)))))] [] (ac (congrArg AV.bool (orf gg_2 rfl):(.bool (decide (i_1≥(lN (stacks_1)))):AV)=.bool (decide (i_1<(-1:Int))||decide (i_1≥(lN (stacks_1))))) an))⟩
 refine cd 14 (decide (i_1<(-1:Int))||decide (i_1≥(lN (stacks_1)))) ?_ ?_
 ·intro g_2;replace h:=zS g_2 h
  refine sr [(0,{ id:=0,m:=1 })] [6,7] [0] 1 [.own 0 0,Ii 2] [Rb 9 1 []] zE an ?_
  refine wk [0] [] [.a 6 (.own 0 ((([]:List (List Int))).length)),.s 7] [.s 0] [(6,.own 0 ((([]:List (List Int))).length)),(7,Ii 2)] [(0,Rb 9 1 [])] (ac (congrArg (AV.own _) (by first | (simp;done) | (simp;omega)):(.own 0 0:AV)=.own 0 ((([]:List (List Int))).length)) an) ?_
  refine rt ?_
  cases h
  exact ⟨.inr rfl,Nat.le_of_ble_eq_true rfl,by kernel_rfl⟩
 intro g_2;replace h:=zR g_2 h
 refine sk ?_
 refine sr [(0,{ id:=0,m:=1 })] [0,1,2,8] [0] 1 [.sl false 1 (Ms names_1),.sl false 2 (Mp zD stacks_1),Ii i_1,.own 0 0] [Rb 9 1 []] zE an ?_
 refine sq ?_
 obtain ⟨o_1,h_2,h⟩:=bind_some h
 refine yB (mk [(8,.own 0 ((o_1).length))] [(0,Rb 9 1 (Ms o_1))] 1) ?_ ?_
 ·replace h:=h_2
  refine z7 (id:=1) (by kernel_rfl) ?_
  refine wk [0] [] [.s 0,.s 1,.s 2,.s 8] [.s 0] [(0,.sl false 1 (Ms names_1)),(1,.sl false 2 (Mp zD stacks_1)),(2,Ii i_1),(8,.own 0 0)] [(0,Rb 9 1 [])] an ?_
  refine y9 (fun n st=>∃ (i_2:Int),∃ (row_1:List (List Int)),st=mk [(0,.sl false 1 (Ms names_1)),(1,.sl false 2 (Mp zD stacks_1)),(2,Ii i_2),(8,.own 0 ((row_1).length))] [(0,Rb 9 1 (Ms row_1))] 1∧tZ F names_1 stacks_1 n i_2 row_1=some o_1) F (by kernel_rfl) ⟨_,_,rfl,h⟩ ?_ ?_
  ·rintro _ ⟨_,_,_,h⟩;exact xJ (h:(none:Option (List (List Int)))=some o_1)
  rintro n_1 _ ⟨i_2,row_1,rfl,h⟩
  replace h:x6 F names_1 stacks_1 (tZ F names_1 stacks_1 n_1) i_2 row_1=some o_1:=h
  unfold x6 at h
  refine sq ?_
  refine sr [] [0,1,2,8,24] [0] 1 [.sl false 1 (Ms names_1),.sl false 2 (Mp zD stacks_1),Ii i_2,.own 0 ((row_1).length),.bool (i_2 != (-1:Int))] [Rb 9 1 (Ms row_1)] zE an ?_
  refine cd 24 (i_2 != (-1:Int)) ?_ ?_
  rotate_left
  ·intro g_3;replace h:=zR g_3 h
   refine xF (id:=1) (by kernel_rfl) ?_
   cases h
   exact ⟨rfl,(sw [0] [] [.s 8] [.s 0] an)⟩
  intro g_3;replace h:=zS g_3 h
  refine sk ?_
  refine sq ?_
  refine z7 (id:=2) (by kernel_rfl) ?_
  obtain ⟨x_1,h_3,h⟩:=bind_some h
  obtain ⟨x_2,h_4,h⟩:=bind_some h
  obtain ⟨_,h_5,h⟩:=bind_some h;replace h_5:=z9 h_5
  refine rg [(4,{ av:=.agg [Ii x_1.c0,Ii x_1.c1] }),(7,{ av:=.str x_2 }),(9,{ id:=1 }),(10,{ id:=2,l:=(Ms (row_1++([x_2]:List (List Int)))),n:=((row_1++([x_2]:List (List Int)))).length })] [0,1,2,8] [2] 3 [.sl false 1 (Ms names_1),.sl false 2 (Mp zD stacks_1),Ii i_2,.own 2 (((row_1++([x_2]:List (List Int)))).length)] [Rb 9 1 (Ms (row_1++([x_2]:List (List Int))))] zE (ac (uB h_3:tB (Mp zD stacks_1) i_2=some (.agg [Ii x_1.c0,Ii x_1.c1])) (ac (by decide:(0:Int)≤(1:Int)) (ac (by decide:(1:Int)<((2:Nat):Int)) (ac (uB h_4:tB (Ms names_1) x_1.c1=some (.str x_2)) (ac (by first | (simp;done) | (simp;omega):(row_1).length=((List.map AV.str row_1)).length) (ac (by first | (simp;done) | (simp;omega):1=((List.map AV.str ([x_2]:List (List Int)))).length) (ac (nC _ _:(Ms (row_1++([x_2]:List (List Int))))=(Ms row_1)++(Ms ([x_2]:List (List Int)))) (ac (by simp:((row_1++([x_2]:List (List Int)))).length=((List.map AV.str (row_1++([x_2]:List (List Int))))).length) (ac (by first | (simp;done) | simpa using h_5:(((List.map AV.str row_1):List AV).length+((List.map AV.str ([x_2]:List (List Int))):List AV).length) * 16≤140737488355328) an))))))))) ?_
  obtain ⟨x_3,h_6,h⟩:=bind_some h
  refine rg [(2,{ av:=.agg [Ii x_3.c0,Ii x_3.c1] })] [0,1,2,8] [2] 3 [.sl false 1 (Ms names_1),.sl false 2 (Mp zD stacks_1),Ii x_3.c0,.own 2 (((row_1++([x_2]:List (List Int)))).length)] [Rb 9 1 (Ms (row_1++([x_2]:List (List Int))))] zE (ac (uB h_6:tB (Mp zD stacks_1) i_2=some (.agg [Ii x_3.c0,Ii x_3.c1])) (ac (by decide:(0:Int)≤(0:Int)) (ac (by decide:(0:Int)<((2:Nat):Int)) an))) ?_
  exact ⟨_,(sw [2] [] [.s 0,.s 1,.s 2,.s 8] [.s 0] an),_,_,rfl,h⟩
 refine sq ?_
 obtain ⟨r_2,h_7,h⟩:=bind_some h
 obtain ⟨_,h_8,h⟩:=bind_some h;replace h_8:=z9 h_8
 refine rg [(1,{ av:=.tuple [],ids:=[0],l:=[.own 0 ((o_1).length)],post:=[(.row 9 1 (Ms r_2))],pre:=[(.row 9 1 (Ms o_1))] })] [8] [0] 1 [.own 0 ((o_1).length)] [Rb 9 1 (Ms r_2)] zE (ar ([.own 0 ((o_1).length)]:List AV) (ac (rfl:([Rb 9 1 (Ms o_1)]:List zP)=[Rb 9 1 (Ms o_1)]) (ac (pP F o_1 r_2 h_7:zN prog 102 [(.row 9 1 (Ms o_1))] [] [.own 0 ((o_1).length)] [(.row 9 1 (Ms r_2))] (.tuple [])) an))) ?_
 refine sr [] [6,7] [0] 1 [.own 0 ((o_1).length),Ii 0] [Rb 9 1 (Ms r_2)] zE an ?_
 refine wk [0] [] [.a 6 (.own 0 ((r_2).length)),.s 7] [.s 0] [(6,.own 0 ((r_2).length)),(7,Ii 0)] [(0,Rb 9 1 (Ms r_2))] (ac (congrArg (AV.own _) h_8.symm:(.own 0 ((o_1).length):AV)=.own 0 ((r_2).length)) an) ?_
 refine rt ?_
 cases h
 exact ⟨.inr rfl,Nat.le_of_ble_eq_true rfl,by kernel_rfl⟩
theorem zFj (r:(List (zO))) (h:jP=some r):zN prog 86 [] [] [] [.row 94 9 (Mp yO r)] (.own 0 ((r).length)):=by
 refine zV (fn:=Go.Proofs.Try.f86) (code:=yG Go.Proofs.Try.f86) (by kernel_rfl) (by kernel_rfl) (Nat.le_of_ble_eq_true (by kernel_rfl)) ?_
 unfold jP at h
 refine sr [(0,{ id:=0,m:=1 })] [] [] 1 [] [] zE an ?_
 refine sr [(13,{ id:=1 })] [0] [1] 2 [.own 1 13] [Rb 94 9 (Mp yO ([(⟨([]:List Int),false,false,false,false,(0:Int),(0:Int),(0:Int),(0:Int)⟩:zO),(⟨([98,101,103,105,110]:List Int),true,false,false,false,(0:Int),(0:Int),(0:Int),(0:Int)⟩:zO),(⟨([101,110,100]:List Int),false,false,false,false,(0:Int),(0:Int),(0:Int),(0:Int)⟩:zO),(⟨([109,97,114,107]:List Int),true,false,false,false,(0:Int),(0:Int),(0:Int),(0:Int)⟩:zO),(⟨([99,111,117,110,116]:List Int),true,true,false,false,(-1000000000000000:Int),(1000000000000000:Int),(0:Int),(0:Int)⟩:zO),(⟨([115,97,109,112,108,101]:List Int),false,true,false,true,(1:Int),(1000000000000:Int),(0:Int),(0:Int)⟩:zO),(⟨([115,101,110,100]:List Int),false,true,false,false,(0:Int),(1000000000000000:Int),(0:Int),(0:Int)⟩:zO),(⟨([114,101,99,118]:List Int),false,true,false,false,(0:Int),(1000000000000000:Int),(0:Int),(0:Int)⟩:zO),(⟨([114,117,110]:List Int),false,true,false,false,(0:Int),(63:Int),(0:Int),(0:Int)⟩:zO),(⟨([115,116,111,112]:List Int),false,true,true,false,(0:Int),(3:Int),(0:Int),(1000000000000000:Int)⟩:zO),(⟨([119,97,107,101]:List Int),false,true,false,false,(0:Int),(1000000000000000:Int),(0:Int),(0:Int)⟩:zO),(⟨([97,108,108,111,99]:List Int),false,true,true,true,(0:Int),(1000000000000000:Int),(1:Int),(1000000000000:Int)⟩:zO),(⟨([102,114,101,101]:List Int),false,true,false,false,(0:Int),(1000000000000000:Int),(0:Int),(0:Int)⟩:zO)]:List zO))] zE an ?_
 refine wk [1] [] [.a 0 (.own 0 ((([(⟨([]:List Int),false,false,false,false,(0:Int),(0:Int),(0:Int),(0:Int)⟩:zO),(⟨([98,101,103,105,110]:List Int),true,false,false,false,(0:Int),(0:Int),(0:Int),(0:Int)⟩:zO),(⟨([101,110,100]:List Int),false,false,false,false,(0:Int),(0:Int),(0:Int),(0:Int)⟩:zO),(⟨([109,97,114,107]:List Int),true,false,false,false,(0:Int),(0:Int),(0:Int),(0:Int)⟩:zO),(⟨([99,111,117,110,116]:List Int),true,true,false,false,(-1000000000000000:Int),(1000000000000000:Int),(0:Int),(0:Int)⟩:zO),(⟨([115,97,109,112,108,101]:List Int),false,true,false,true,(1:Int),(1000000000000:Int),(0:Int),(0:Int)⟩:zO),(⟨([115,101,110,100]:List Int),false,true,false,false,(0:Int),(1000000000000000:Int),(0:Int),(0:Int)⟩:zO),(⟨([114,101,99,118]:List Int),false,true,false,false,(0:Int),(1000000000000000:Int),(0:Int),(0:Int)⟩:zO),(⟨([114,117,110]:List Int),false,true,false,false,(0:Int),(63:Int),(0:Int),(0:Int)⟩:zO),(⟨([115,116,111,112]:List Int),false,true,true,false,(0:Int),(3:Int),(0:Int),(1000000000000000:Int)⟩:zO),(⟨([119,97,107,101]:List Int),false,true,false,false,(0:Int),(1000000000000000:Int),(0:Int),(0:Int)⟩:zO),(⟨([97,108,108,111,99]:List Int),false,true,true,true,(0:Int),(1000000000000000:Int),(1:Int),(1000000000000:Int)⟩:zO),(⟨([102,114,101,101]:List Int),false,true,false,false,(0:Int),(1000000000000000:Int),(0:Int),(0:Int)⟩:zO)]:List zO)).length))] [.s 0] [(0,.own 0 ((([(⟨([]:List Int),false,false,false,false,(0:Int),(0:Int),(0:Int),(0:Int)⟩:zO),(⟨([98,101,103,105,110]:List Int),true,false,false,false,(0:Int),(0:Int),(0:Int),(0:Int)⟩:zO),(⟨([101,110,100]:List Int),false,false,false,false,(0:Int),(0:Int),(0:Int),(0:Int)⟩:zO),(⟨([109,97,114,107]:List Int),true,false,false,false,(0:Int),(0:Int),(0:Int),(0:Int)⟩:zO),(⟨([99,111,117,110,116]:List Int),true,true,false,false,(-1000000000000000:Int),(1000000000000000:Int),(0:Int),(0:Int)⟩:zO),(⟨([115,97,109,112,108,101]:List Int),false,true,false,true,(1:Int),(1000000000000:Int),(0:Int),(0:Int)⟩:zO),(⟨([115,101,110,100]:List Int),false,true,false,false,(0:Int),(1000000000000000:Int),(0:Int),(0:Int)⟩:zO),(⟨([114,101,99,118]:List Int),false,true,false,false,(0:Int),(1000000000000000:Int),(0:Int),(0:Int)⟩:zO),(⟨([114,117,110]:List Int),false,true,false,false,(0:Int),(63:Int),(0:Int),(0:Int)⟩:zO),(⟨([115,116,111,112]:List Int),false,true,true,false,(0:Int),(3:Int),(0:Int),(1000000000000000:Int)⟩:zO),(⟨([119,97,107,101]:List Int),false,true,false,false,(0:Int),(1000000000000000:Int),(0:Int),(0:Int)⟩:zO),(⟨([97,108,108,111,99]:List Int),false,true,true,true,(0:Int),(1000000000000000:Int),(1:Int),(1000000000000:Int)⟩:zO),(⟨([102,114,101,101]:List Int),false,true,false,false,(0:Int),(1000000000000000:Int),(0:Int),(0:Int)⟩:zO)]:List zO)).length))] [(0,Rb 94 9 (Mp yO ([(⟨([]:List Int),false,false,false,false,(0:Int),(0:Int),(0:Int),(0:Int)⟩:zO),(⟨([98,101,103,105,110]:List Int),true,false,false,false,(0:Int),(0:Int),(0:Int),(0:Int)⟩:zO),(⟨([101,110,100]:List Int),false,false,false,false,(0:Int),(0:Int),(0:Int),(0:Int)⟩:zO),(⟨([109,97,114,107]:List Int),true,false,false,false,(0:Int),(0:Int),(0:Int),(0:Int)⟩:zO),(⟨([99,111,117,110,116]:List Int),true,true,false,false,(-1000000000000000:Int),(1000000000000000:Int),(0:Int),(0:Int)⟩:zO),(⟨([115,97,109,112,108,101]:List Int),false,true,false,true,(1:Int),(1000000000000:Int),(0:Int),(0:Int)⟩:zO),(⟨([115,101,110,100]:List Int),false,true,false,false,(0:Int),(1000000000000000:Int),(0:Int),(0:Int)⟩:zO),(⟨([114,101,99,118]:List Int),false,true,false,false,(0:Int),(1000000000000000:Int),(0:Int),(0:Int)⟩:zO),(⟨([114,117,110]:List Int),false,true,false,false,(0:Int),(63:Int),(0:Int),(0:Int)⟩:zO),(⟨([115,116,111,112]:List Int),false,true,true,false,(0:Int),(3:Int),(0:Int),(1000000000000000:Int)⟩:zO),(⟨([119,97,107,101]:List Int),false,true,false,false,(0:Int),(1000000000000000:Int),(0:Int),(0:Int)⟩:zO),(⟨([97,108,108,111,99]:List Int),false,true,true,true,(0:Int),(1000000000000000:Int),(1:Int),(1000000000000:Int)⟩:zO),(⟨([102,114,101,101]:List Int),false,true,false,false,(0:Int),(1000000000000000:Int),(0:Int),(0:Int)⟩:zO)]:List zO)))] (ac (congrArg (AV.own _) (by first | (simp;done) | (simp;omega)):(.own 1 13:AV)=.own 1 ((([(⟨([]:List Int),false,false,false,false,(0:Int),(0:Int),(0:Int),(0:Int)⟩:zO),(⟨([98,101,103,105,110]:List Int),true,false,false,false,(0:Int),(0:Int),(0:Int),(0:Int)⟩:zO),(⟨([101,110,100]:List Int),false,false,false,false,(0:Int),(0:Int),(0:Int),(0:Int)⟩:zO),(⟨([109,97,114,107]:List Int),true,false,false,false,(0:Int),(0:Int),(0:Int),(0:Int)⟩:zO),(⟨([99,111,117,110,116]:List Int),true,true,false,false,(-1000000000000000:Int),(1000000000000000:Int),(0:Int),(0:Int)⟩:zO),(⟨([115,97,109,112,108,101]:List Int),false,true,false,true,(1:Int),(1000000000000:Int),(0:Int),(0:Int)⟩:zO),(⟨([115,101,110,100]:List Int),false,true,false,false,(0:Int),(1000000000000000:Int),(0:Int),(0:Int)⟩:zO),(⟨([114,101,99,118]:List Int),false,true,false,false,(0:Int),(1000000000000000:Int),(0:Int),(0:Int)⟩:zO),(⟨([114,117,110]:List Int),false,true,false,false,(0:Int),(63:Int),(0:Int),(0:Int)⟩:zO),(⟨([115,116,111,112]:List Int),false,true,true,false,(0:Int),(3:Int),(0:Int),(1000000000000000:Int)⟩:zO),(⟨([119,97,107,101]:List Int),false,true,false,false,(0:Int),(1000000000000000:Int),(0:Int),(0:Int)⟩:zO),(⟨([97,108,108,111,99]:List Int),false,true,true,true,(0:Int),(1000000000000000:Int),(1:Int),(1000000000000:Int)⟩:zO),(⟨([102,114,101,101]:List Int),false,true,false,false,(0:Int),(1000000000000000:Int),(0:Int),(0:Int)⟩:zO)]:List zO)).length)) an) ?_
 refine rt ?_
 cases h
 exact ⟨.inr rfl,Nat.le_of_ble_eq_true rfl,by kernel_rfl⟩
theorem zEI (k_1:Int) (r:zO×Bool) (h:j8 k_1=some r):zN prog 56 [] [] [Ii k_1] [] (.tuple [yO r.1,.bool r.2]):=by
 refine zV (fn:=Go.Proofs.Try.f56) (code:=yG Go.Proofs.Try.f56) (by kernel_rfl) (by kernel_rfl) (Nat.le_of_ble_eq_true (by kernel_rfl)) ?_
 unfold j8 at h
 refine sr [(0,{ id:=0 })] [0,2] [0] 1 [Ii k_1,Pp 0] [Vb 94 [.str ([]:List Int),.bool false,.bool false,.bool false,.bool false,Ii 0,Ii 0,Ii 0,Ii 0]] zE an ?_
 refine sq ?_
 obtain ⟨r_1,h_1,h⟩:=bind_some h
 refine rg [(0,{ av:=.own 0 ((r_1).length),ids:=[1],l:=[],post:=[(.row 94 9 (Mp yO r_1))] })] [0,2,4] [0,1] 2 [Ii k_1,Pp 0,.own 1 ((r_1).length)] [Vb 94 [.str ([]:List Int),.bool false,.bool false,.bool false,.bool false,Ii 0,Ii 0,Ii 0,Ii 0],Rb 94 9 (Mp yO r_1)] zE (ar ([]:List AV) (ac (rfl:([]:List zP)=[]) (ac (zFj r_1 h_1:zN prog 86 [] [] [] [(.row 94 9 (Mp yO r_1))] (.own 0 ((r_1).length))) an))) ?_
 refine sq ?_
 refine sq ?_
 refine yB (mk [(0,Ii k_1),(2,Pp 0),(4,.own 1 ((r_1).length)),(13,.bool (decide (k_1<(1:Int))||decide (k_1≥(lN (r_1)))))] [(0,Vb 94 [.str ([]:List Int),.bool false,.bool false,.bool false,.bool false,Ii 0,Ii 0,Ii 0,Ii 0]),(1,Rb 94 9 (Mp yO r_1))] 2) ?_ ?_
 ·rcases bft (decide (k_1<(1:Int))) with gg_1 | gg_1
  ·refine rg [(3,Hg),(4,Hg),(5,Hg),(6,Hg),(7,Ht)] [0,2,4,13] [0,1] 2 [Ii k_1,Pp 0,.own 1 ((r_1).length),.bool true] [Vb 94 [.str ([]:List Int),.bool false,.bool false,.bool false,.bool false,Ii 0,Ii 0,Ii 0,Ii 0],Rb 94 9 (Mp yO r_1)] zE (ac gg_1 (ac gg_1 (ac gg_1 (ac gg_1 (ac gg_1 an))))) ?_
   exact ⟨rfl,(sw [0,1] [] [.s 0,.s 2,.s 4,.a 13 (.bool (decide (k_1<(1:Int))||decide (k_1≥(lN (r_1)))))] [.s 0,.s 1] (ac (congrArg AV.bool (ort gg_1):(.bool true:AV)=.bool (decide (k_1<(1:Int))||decide (k_1≥(lN (r_1))))) an))⟩
  ·refine rg [(7,Hf)] [0,2,4,13] [0,1] 2 [Ii k_1,Pp 0,.own 1 ((r_1).length),.bool (decide (k_1≥(lN (r_1))))] [Vb 94 [.str ([]:List Int),.bool false,.bool false,.bool false,.bool false,Ii 0,Ii 0,Ii 0,Ii 0],Rb 94 9 (Mp yO r_1)] zE (ac gg_1 (ac gg_1 (ac gg_1 (ac gg_1 (ac gg_1 an))))) ?_
   exact ⟨rfl,(sw [0,1] [] [.s 0,.s 2,.s 4,.a 13 (.bool (decide (k_1<(1:Int))||decide (k_1≥(lN (r_1)))))] [.s 0,.s 1] (ac (congrArg AV.bool (orf gg_1 rfl):(.bool (decide (k_1≥(lN (r_1)))):AV)=.bool (decide (k_1<(1:Int))||decide (k_1≥(lN (r_1))))) an))⟩
 refine cd 13 (decide (k_1<(1:Int))||decide (k_1≥(lN (r_1)))) ?_ ?_
 ·intro g_1;replace h:=zS g_1 h
  refine sr [] [2,3] [0] 2 [Pp 0,.bool false] [Vb 94 [.str ([]:List Int),.bool false,.bool false,.bool false,.bool false,Ii 0,Ii 0,Ii 0,Ii 0]] zE an ?_
  refine wk [0] [] [.s 2,.s 3] [.a 0 (Vb 94 (zY (⟨([]:List Int),false,false,false,false,(0:Int),(0:Int),(0:Int),(0:Int)⟩:zO)))] [(2,Pp 0),(3,.bool false)] [(0,Vb 94 (zY (⟨([]:List Int),false,false,false,false,(0:Int),(0:Int),(0:Int),(0:Int)⟩:zO)))] (ar 94 (ac (rfl:xH [.str ((⟨([]:List Int),false,false,false,false,(0:Int),(0:Int),(0:Int),(0:Int)⟩:zO).word),.bool ((⟨([]:List Int),false,false,false,false,(0:Int),(0:Int),(0:Int),(0:Int)⟩:zO).name),.bool ((⟨([]:List Int),false,false,false,false,(0:Int),(0:Int),(0:Int),(0:Int)⟩:zO).n),.bool ((⟨([]:List Int),false,false,false,false,(0:Int),(0:Int),(0:Int),(0:Int)⟩:zO).m),.bool ((⟨([]:List Int),false,false,false,false,(0:Int),(0:Int),(0:Int),(0:Int)⟩:zO).stack),Ii ((⟨([]:List Int),false,false,false,false,(0:Int),(0:Int),(0:Int),(0:Int)⟩:zO).least),Ii ((⟨([]:List Int),false,false,false,false,(0:Int),(0:Int),(0:Int),(0:Int)⟩:zO).most),Ii ((⟨([]:List Int),false,false,false,false,(0:Int),(0:Int),(0:Int),(0:Int)⟩:zO).mLeast),Ii ((⟨([]:List Int),false,false,false,false,(0:Int),(0:Int),(0:Int),(0:Int)⟩:zO).mMost)]=true) (ac (rfl:(.str ([]:List Int):AV)=.str ((⟨([]:List Int),false,false,false,false,(0:Int),(0:Int),(0:Int),(0:Int)⟩:zO).word)) (ac (rfl:(.bool false:AV)=.bool ((⟨([]:List Int),false,false,false,false,(0:Int),(0:Int),(0:Int),(0:Int)⟩:zO).name)) (ac (rfl:(.bool false:AV)=.bool ((⟨([]:List Int),false,false,false,false,(0:Int),(0:Int),(0:Int),(0:Int)⟩:zO).n)) (ac (rfl:(.bool false:AV)=.bool ((⟨([]:List Int),false,false,false,false,(0:Int),(0:Int),(0:Int),(0:Int)⟩:zO).m)) (ac (rfl:(.bool false:AV)=.bool ((⟨([]:List Int),false,false,false,false,(0:Int),(0:Int),(0:Int),(0:Int)⟩:zO).stack)) (ac (rfl:(Ii 0:AV)=Ii ((⟨([]:List Int),false,false,false,false,(0:Int),(0:Int),(0:Int),(0:Int)⟩:zO).least)) (ac (rfl:(Ii 0:AV)=Ii ((⟨([]:List Int),false,false,false,false,(0:Int),(0:Int),(0:Int),(0:Int)⟩:zO).most)) (ac (rfl:(Ii 0:AV)=Ii ((⟨([]:List Int),false,false,false,false,(0:Int),(0:Int),(0:Int),(0:Int)⟩:zO).mLeast)) (ac (rfl:(Ii 0:AV)=Ii ((⟨([]:List Int),false,false,false,false,(0:Int),(0:Int),(0:Int),(0:Int)⟩:zO).mMost)) an))))))))))) ?_
  refine rt ?_
  cases h
  exact ⟨.inr rfl,Nat.le_of_ble_eq_true rfl,by kernel_rfl⟩
 intro g_1;replace h:=zR g_1 h
 refine sk ?_
 refine sq ?_
 obtain ⟨x_1,h_2,h⟩:=bind_some h
 refine rg [(3,{ av:=yO x_1 })] [2,3] [0] 2 [Pp 0,.bool true] [Vb 94 (zY x_1)] zE (ac (yL h_2:(0:Int)≤k_1) (ac (by first | (simp;done) | simpa using yK h_2:k_1<(((r_1).length:Nat):Int)) (ac (yV h_2:(Mp yO r_1)[(k_1).toNat]?=some (yO x_1)) an))) ?_
 refine wk [0] [] [.s 2,.s 3] [.s 0] [(2,Pp 0),(3,.bool true)] [(0,Vb 94 (zY x_1))] an ?_
 refine rt ?_
 cases h
 exact ⟨.inr rfl,Nat.le_of_ble_eq_true rfl,by kernel_rfl⟩
theorem zA8 (F:Nat) (l_1:List (List Int)) (r:Int) (h:tS F l_1=some r):zN prog 87 [] [] [.sl false 1 (Ms l_1)] [] (Ii r):=by
 refine zV (fn:=Go.Proofs.Try.f87) (code:=yG Go.Proofs.Try.f87) (by kernel_rfl) (by kernel_rfl) (Nat.le_of_ble_eq_true (by kernel_rfl)) ?_
 unfold tS at h
 refine sr [] [0] [] 0 [.sl false 1 (Ms l_1)] [] zE an ?_
 refine sq ?_
 refine sr [(1,{ n:=(l_1).length })] [0,8] [] 0 [.sl false 1 (Ms l_1),.bool (decide ((lN (l_1))>(32:Int)))] [] zE (ac (yA _:((Ms l_1)).length=(l_1).length) an) ?_
 refine cd 8 (decide ((lN (l_1))>(32:Int))) ?_ ?_
 ·intro g_1;replace h:=zS g_1 h
  refine sr [] [2] [] 0 [Ii 7] [] zE an ?_
  refine rt ?_
  cases h
  exact ⟨.inr rfl,Nat.le_of_ble_eq_true rfl,by kernel_rfl⟩
 intro g_1;replace h:=zR g_1 h
 refine sk ?_
 refine sq ?_
 refine sr [(1,{ n:=(l_1).length })] [9,10,11] [] 0 [.sl false 1 (Ms l_1),Ii (lN (l_1)),Ii 0] [] zE (ac (yA _:((Ms l_1)).length=(l_1).length) an) ?_
 obtain ⟨o_1,h_1,h⟩:=bind_some h
 refine xS (K1:=(fun e st'=>match o_1 with | (.inl q0)=>e=.normal∧Sub 0 st' (mk [] [] 0) | (.inr q1)=>e=.ret∧tO prog Go.Proofs.Try.f87 0 [] (Ii q1) st')) ?_ ?_
 ·replace h:=h_1
  refine z7 (id:=0) (by kernel_rfl) ?_
  refine wk [] [] [.s 9,.s 10,.s 11] [] [(9,.sl false 1 (Ms l_1)),(10,Ii (lN (l_1))),(11,Ii 0)] [] an ?_
  refine y9 (fun n st=>∃ (v_1:Int),st=mk [(9,.sl false 1 (Ms l_1)),(10,Ii (lN (l_1))),(11,Ii v_1)] [] 0∧tL F l_1 n v_1=some o_1) F (by kernel_rfl) ⟨_,rfl,h⟩ ?_ ?_
  ·rintro _ ⟨_,_,h⟩;exact xJ (h:(none:Option (Unit⊕Int))=some o_1)
  rintro n_1 _ ⟨v_1,rfl,h⟩
  replace h:vD F l_1 (tL F l_1 n_1) v_1=some o_1:=h
  unfold vD at h
  refine sr [] [9,10,11,12] [] 0 [.sl false 1 (Ms l_1),Ii (lN (l_1)),Ii v_1,.bool (decide (v_1<(lN (l_1))))] [] zE an ?_
  refine sq ?_
  refine cd 12 (decide (v_1<(lN (l_1)))) ?_ ?_
  rotate_left
  ·intro g_2;replace h:=zR g_2 h
   refine xF (id:=0) (by kernel_rfl) ?_
   cases h
   exact ⟨rfl,(sw [] [] [] [] an)⟩
  intro g_2;replace h:=zS g_2 h
  refine sk ?_
  refine sq ?_
  refine z7 (id:=1) (by kernel_rfl) ?_
  refine sq ?_
  obtain ⟨x_1,h_2,h⟩:=bind_some h
  refine rg [(0,{ av:=.str x_1 })] [4,9,10,11] [] 0 [.str x_1,.sl false 1 (Ms l_1),Ii (lN (l_1)),Ii v_1] [] zE (ac (uB h_2:tB (Ms l_1) v_1=some (.str x_1)) an) ?_
  refine sq ?_
  obtain ⟨r_1,h_3,h⟩:=bind_some h
  refine rg [(1,{ av:=Ii r_1,l:=[.str x_1] })] [5,9,10,11] [] 0 [Ii r_1,.sl false 1 (Ms l_1),Ii (lN (l_1)),Ii v_1] [] zE (ar ([.str x_1]:List AV) (ac (rfl:([]:List zP)=[]) (ac (qS F x_1 r_1 h_3:zN prog 29 [] [] [.str x_1] [] (Ii r_1)) an))) ?_
  refine sr [] [5,9,10,11,18] [] 0 [Ii r_1,.sl false 1 (Ms l_1),Ii (lN (l_1)),Ii v_1,.bool (r_1 != (0:Int))] [] zE an ?_
  refine cd 18 (r_1 != (0:Int)) ?_ ?_
  rotate_left
  ·intro g_3;replace h:=zR g_3 h
   refine sk ?_
   refine rg [] [9,10,11] [] 0 [.sl false 1 (Ms l_1),Ii (lN (l_1)),Ii (zG (v_1+(1:Int)))] [] zE an ?_
   exact ⟨_,(sw [] [] [.s 9,.s 10,.s 11] [] an),_,rfl,h⟩
  intro g_3;replace h:=zS g_3 h
  refine sr [] [2] [] 0 [Ii r_1] [] zE an ?_
  refine rt ?_
  cases h
  exact ⟨rfl,Nat.le_of_ble_eq_true rfl,by kernel_rfl⟩
 intro e st1 hk
 rcases o_1 with q_1 | q_2
 rotate_left
 ·obtain ⟨rfl,hf⟩:=hk
  cases h
  exact ⟨st1,Sub.refl _ _,.inr rfl,hf⟩
 obtain ⟨rfl,hs⟩:=hk
 refine ⟨_,hs,?_⟩
 refine sr [] [2] [] 0 [Ii 0] [] zE an ?_
 refine rt ?_
 cases h
 exact ⟨.inr rfl,Nat.le_of_ble_eq_true rfl,by kernel_rfl⟩
theorem zE1 (F:Nat) (f_1:zO) (e_1:zF) (r:Int) (h:kW F f_1 e_1=some r):zN prog 57 [] [] [yO f_1,zJ e_1] [] (Ii r):=by
 refine zV (fn:=Go.Proofs.Try.f57) (code:=yG Go.Proofs.Try.f57) (by kernel_rfl) (by kernel_rfl) (Nat.le_of_ble_eq_true (by kernel_rfl)) ?_
 unfold kW at h
 refine sr [(0,{ id:=0 }),(1,{ id:=1 })] [2,3] [0,1] 2 [Pp 0,Pp 1] [Vb 94 (zY f_1),Vb 45 (zQ e_1)] zE an ?_
 refine sq ?_
 refine sr [] [3,6] [1] 2 [Pp 1,.bool f_1.name] [Vb 45 (zQ e_1)] zE an ?_
 refine cd 6 f_1.name ?_ ?_
 ·intro g_1;replace h:=zS g_1 h
  refine sq ?_
  obtain ⟨r_1,h_1,h⟩:=bind_some h
  refine rg [(2,{ av:=Ii r_1,l:=[.str e_1.Name] })] [4] [] 2 [Ii r_1] [] zE (ar ([.str e_1.Name]:List AV) (ac (rfl:([]:List zP)=[]) (ac (qS F e_1.Name r_1 h_1:zN prog 29 [] [] [.str e_1.Name] [] (Ii r_1)) an))) ?_
  refine rt ?_
  cases h
  exact ⟨.inr rfl,Nat.le_of_ble_eq_true rfl,by kernel_rfl⟩
 intro g_1;replace h:=zR g_1 h
 refine sk ?_
 refine sq ?_
 obtain ⟨r_2,h_2,h⟩:=bind_some h
 refine rg [(2,{ av:=Ii r_2,l:=[.sl false 1 (Ms e_1.Stack)] })] [4] [] 2 [Ii r_2] [] zE (ar ([.sl false 1 (Ms e_1.Stack)]:List AV) (ac (rfl:([]:List zP)=[]) (ac (zA8 F e_1.Stack r_2 h_2:zN prog 87 [] [] [.sl false 1 (Ms e_1.Stack)] [] (Ii r_2)) an))) ?_
 refine rt ?_
 cases h
 exact ⟨.inr rfl,Nat.le_of_ble_eq_true rfl,by kernel_rfl⟩
theorem nM (F:Nat) (e_1:zF) (r:Int) (h:uX F e_1=some r):zN prog 38 [] [] [zJ e_1] [] (Ii r):=by
 refine zV (fn:=Go.Proofs.Try.f38) (code:=yG Go.Proofs.Try.f38) (by kernel_rfl) (by kernel_rfl) (Nat.le_of_ble_eq_true (by kernel_rfl)) ?_
 unfold uX at h
 refine sr [(0,{ id:=0 })] [1] [0] 1 [Pp 0] [Vb 45 (zQ e_1)] zE an ?_
 refine sq ?_
 refine sq ?_
 refine yB (mk [(1,Pp 0),(13,.bool (decide (e_1.At<(0:Int))||decide (e_1.At>(1000000000000:Int))))] [(0,Vb 45 (zQ e_1))] 1) ?_ ?_
 ·rcases bft (decide (e_1.At<(0:Int))) with gg_1 | gg_1
  ·refine rg [(4,Hg),(5,Hg),(6,Hg),(7,Ht)] [1,13] [0] 1 [Pp 0,.bool true] [Vb 45 (zQ e_1)] zE (ac gg_1 (ac gg_1 (ac gg_1 (ac gg_1 an)))) ?_
   exact ⟨rfl,(sw [0] [] [.s 1,.a 13 (.bool (decide (e_1.At<(0:Int))||decide (e_1.At>(1000000000000:Int))))] [.s 0] (ac (congrArg AV.bool (ort gg_1):(.bool true:AV)=.bool (decide (e_1.At<(0:Int))||decide (e_1.At>(1000000000000:Int)))) an))⟩
  ·refine rg [(7,Hf)] [1,13] [0] 1 [Pp 0,.bool (decide (e_1.At>(1000000000000:Int)))] [Vb 45 (zQ e_1)] zE (ac gg_1 (ac gg_1 (ac gg_1 (ac gg_1 an)))) ?_
   exact ⟨rfl,(sw [0] [] [.s 1,.a 13 (.bool (decide (e_1.At<(0:Int))||decide (e_1.At>(1000000000000:Int))))] [.s 0] (ac (congrArg AV.bool (orf gg_1 rfl):(.bool (decide (e_1.At>(1000000000000:Int))):AV)=.bool (decide (e_1.At<(0:Int))||decide (e_1.At>(1000000000000:Int)))) an))⟩
 refine cd 13 (decide (e_1.At<(0:Int))||decide (e_1.At>(1000000000000:Int))) ?_ ?_
 ·intro g_1;replace h:=zS g_1 h
  refine sr [] [2] [] 1 [Ii 2] [] zE an ?_
  refine rt ?_
  cases h
  exact ⟨.inr rfl,Nat.le_of_ble_eq_true rfl,by kernel_rfl⟩
 intro g_1;replace h:=zR g_1 h
 refine sk ?_
 refine sq ?_
 obtain ⟨r_1,h_1,h⟩:=bind_some h
 refine rg [(2,{ av:=.tuple [yO r_1.1,.bool r_1.2],l:=[Ii e_1.Kind] }),(6,{ id:=1 })] [1,3,4] [0,1] 2 [Pp 0,Pp 1,.bool r_1.2] [Vb 45 (zQ e_1),Vb 94 (zY r_1.1)] zE (ar ([Ii e_1.Kind]:List AV) (ac (rfl:([]:List zP)=[]) (ac (zEI e_1.Kind r_1 h_1:zN prog 56 [] [] [Ii e_1.Kind] [] (.tuple [yO r_1.1,.bool r_1.2])) an))) ?_
 refine sq ?_
 refine sq ?_
 obtain ⟨p_1,h_2,h⟩:=bind_some h
 refine yB (mk [(1,Pp 0),(3,Pp 1),(62,.bool p_1)] [(0,Vb 45 (zQ e_1)),(1,Vb 94 (zY r_1.1))] 2) ?_ ?_
 ·replace h:=h_2
  rcases bft (!r_1.2) with gg_2 | gg_2
  ·replace h:=zS gg_2 h
   refine rg [(3,Hg),(4,Hg),(5,Hg),(6,Hg),(10,Hg),(11,Ht),(13,Hg),(14,Hg),(15,Hg),(16,Hg),(20,Hg),(21,Ht),(23,Hg),(24,Hg),(25,Hg),(26,Hg),(30,Hg),(31,Ht),(33,Hg),(34,Hg),(35,Hg),(36,Hg),(41,Hg),(42,Ht)] [1,3,62] [0,1] 2 [Pp 0,Pp 1,.bool true] [Vb 45 (zQ e_1),Vb 94 (zY r_1.1)] zE (ac gg_2 (ac gg_2 (ac gg_2 (ac gg_2 (ac gg_2 (ac gg_2 (ax (ax (ax (ax (ax (ar true (ax (ax (ax (ax (ax (ar true (ax (ax (ax (ax (ax (ar true an)))))))))))))))))))))))) ?_
   cases h
   exact ⟨rfl,(sw [0,1] [] [.s 1,.s 3,.s 62] [.s 0,.s 1] an)⟩
  ·replace h:=zR gg_2 h
   rcases bft (!r_1.1.name) with gg_3 | gg_3
   ·replace h:=zS gg_3 h
    rcases bft (!(e_1.Name==([]:List Int))) with gg_4 | gg_4
    ·replace h:=zS gg_4 h
     refine rg [(10,Ht),(11,Hf),(13,Hg),(14,Hg),(15,Hg),(16,Hg),(20,Hg),(21,Ht),(23,Hg),(24,Hg),(25,Hg),(26,Hg),(30,Hg),(31,Ht),(33,Hg),(34,Hg),(35,Hg),(36,Hg),(41,Hg),(42,Ht)] [1,3,62] [0,1] 2 [Pp 0,Pp 1,.bool true] [Vb 45 (zQ e_1),Vb 94 (zY r_1.1)] zE (ac gg_2 (ac gg_2 (ac gg_2 (ac gg_2 (ac gg_3 (ac gg_3 (ac gg_3 (ac gg_2 (ac gg_3 (ac gg_2 (ac gg_4 (ac gg_4 (ac gg_4 (ac gg_4 (ac gg_4 (ac gg_4 (ax (ax (ax (ax (ax (ar true (ax (ax (ax (ax (ax (ar true an)))))))))))))))))))))))))))) ?_
     cases h
     exact ⟨rfl,(sw [0,1] [] [.s 1,.s 3,.s 62] [.s 0,.s 1] an)⟩
    ·replace h:=zR gg_4 h
     rcases bft (!r_1.1.n) with gg_5 | gg_5
     ·replace h:=zS gg_5 h
      rcases bft (e_1.N != (0:Int)) with gg_6 | gg_6
      ·replace h:=zS gg_6 h
       refine rg [(10,Ht),(11,Hf),(20,Ht),(21,Hf),(23,Hg),(24,Hg),(25,Hg),(26,Hg),(30,Hg),(31,Ht),(33,Hg),(34,Hg),(35,Hg),(36,Hg),(41,Hg),(42,Ht)] [1,3,62] [0,1] 2 [Pp 0,Pp 1,.bool true] [Vb 45 (zQ e_1),Vb 94 (zY r_1.1)] zE (ac gg_2 (ac gg_2 (ac gg_2 (ac gg_2 (ac gg_3 (ac gg_3 (ac gg_3 (ac gg_2 (ac gg_3 (ac gg_2 (ac gg_4 (ac gg_4 (ac gg_4 (ac gg_4 (ac gg_5 (ac gg_5 (ac gg_5 (ac gg_4 (ac gg_5 (ac gg_4 (ac gg_6 (ac gg_6 (ac gg_6 (ac gg_6 (ac gg_6 (ac gg_6 (ax (ax (ax (ax (ax (ar true an)))))))))))))))))))))))))))))))) ?_
       cases h
       exact ⟨rfl,(sw [0,1] [] [.s 1,.s 3,.s 62] [.s 0,.s 1] an)⟩
      ·replace h:=zR gg_6 h
       rcases bft (!r_1.1.m) with gg_7 | gg_7
       ·replace h:=zS gg_7 h
        rcases bft (e_1.M != (0:Int)) with gg_8 | gg_8
        ·replace h:=zS gg_8 h
         refine rg [(10,Ht),(11,Hf),(20,Ht),(21,Hf),(30,Ht),(31,Hf),(33,Hg),(34,Hg),(35,Hg),(36,Hg),(41,Hg),(42,Ht)] [1,3,62] [0,1] 2 [Pp 0,Pp 1,.bool true] [Vb 45 (zQ e_1),Vb 94 (zY r_1.1)] zE (ac gg_2 (ac gg_2 (ac gg_2 (ac gg_2 (ac gg_3 (ac gg_3 (ac gg_3 (ac gg_2 (ac gg_3 (ac gg_2 (ac gg_4 (ac gg_4 (ac gg_4 (ac gg_4 (ac gg_5 (ac gg_5 (ac gg_5 (ac gg_4 (ac gg_5 (ac gg_4 (ac gg_6 (ac gg_6 (ac gg_6 (ac gg_6 (ac gg_7 (ac gg_7 (ac gg_7 (ac gg_6 (ac gg_7 (ac gg_6 (ac gg_8 (ac gg_8 (ac gg_8 (ac gg_8 (ac gg_8 (ac gg_8 an)))))))))))))))))))))))))))))))))))) ?_
         cases h
         exact ⟨rfl,(sw [0,1] [] [.s 1,.s 3,.s 62] [.s 0,.s 1] an)⟩
        ·replace h:=zR gg_8 h
         rcases bft (!r_1.1.stack) with gg_9 | gg_9
         ·replace h:=zS gg_9 h
          refine rg [(10,Ht),(11,Hf),(20,Ht),(21,Hf),(30,Ht),(31,Hf),(39,{ n:=(e_1.Stack).length }),(41,Ht),(42,Hf)] [1,3,62] [0,1] 2 [Pp 0,Pp 1,.bool (decide ((lN (e_1.Stack))>(0:Int)))] [Vb 45 (zQ e_1),Vb 94 (zY r_1.1)] zE (ac gg_2 (ac gg_2 (ac gg_2 (ac gg_2 (ac gg_3 (ac gg_3 (ac gg_3 (ac gg_2 (ac gg_3 (ac gg_2 (ac gg_4 (ac gg_4 (ac gg_4 (ac gg_4 (ac gg_5 (ac gg_5 (ac gg_5 (ac gg_4 (ac gg_5 (ac gg_4 (ac gg_6 (ac gg_6 (ac gg_6 (ac gg_6 (ac gg_7 (ac gg_7 (ac gg_7 (ac gg_6 (ac gg_7 (ac gg_6 (ac gg_8 (ac gg_8 (ac gg_8 (ac gg_8 (ac gg_9 (ac gg_9 (ac gg_9 (ac (yA _:((Ms e_1.Stack)).length=(e_1.Stack).length) (ac gg_9 (ac gg_8 (ac gg_9 (ac gg_8 an)))))))))))))))))))))))))))))))))))))))))) ?_
          cases h
          exact ⟨rfl,(sw [0,1] [] [.s 1,.s 3,.s 62] [.s 0,.s 1] an)⟩
         ·replace h:=zR gg_9 h
          refine rg [(10,Ht),(11,Hf),(20,Ht),(21,Hf),(30,Ht),(31,Hf),(37,Hg),(38,Hg),(39,Hg),(40,Hg),(41,Hf),(42,Hf)] [1,3,62] [0,1] 2 [Pp 0,Pp 1,.bool false] [Vb 45 (zQ e_1),Vb 94 (zY r_1.1)] zE (ac gg_2 (ac gg_2 (ac gg_2 (ac gg_2 (ac gg_3 (ac gg_3 (ac gg_3 (ac gg_2 (ac gg_3 (ac gg_2 (ac gg_4 (ac gg_4 (ac gg_4 (ac gg_4 (ac gg_5 (ac gg_5 (ac gg_5 (ac gg_4 (ac gg_5 (ac gg_4 (ac gg_6 (ac gg_6 (ac gg_6 (ac gg_6 (ac gg_7 (ac gg_7 (ac gg_7 (ac gg_6 (ac gg_7 (ac gg_6 (ac gg_8 (ac gg_8 (ac gg_8 (ac gg_8 (ac gg_9 (ac gg_9 (ac gg_9 (ac gg_9 (ac gg_8 (ac gg_9 (ac gg_8 an))))))))))))))))))))))))))))))))))))))))) ?_
          cases h
          exact ⟨rfl,(sw [0,1] [] [.s 1,.s 3,.s 62] [.s 0,.s 1] an)⟩
       ·replace h:=zR gg_7 h
        rcases bft (!r_1.1.stack) with gg_10 | gg_10
        ·replace h:=zS gg_10 h
         refine rg [(10,Ht),(11,Hf),(20,Ht),(21,Hf),(27,Hg),(28,Hg),(29,Hg),(30,Hf),(31,Hf),(39,{ n:=(e_1.Stack).length }),(41,Ht),(42,Hf)] [1,3,62] [0,1] 2 [Pp 0,Pp 1,.bool (decide ((lN (e_1.Stack))>(0:Int)))] [Vb 45 (zQ e_1),Vb 94 (zY r_1.1)] zE (ac gg_2 (ac gg_2 (ac gg_2 (ac gg_2 (ac gg_3 (ac gg_3 (ac gg_3 (ac gg_2 (ac gg_3 (ac gg_2 (ac gg_4 (ac gg_4 (ac gg_4 (ac gg_4 (ac gg_5 (ac gg_5 (ac gg_5 (ac gg_4 (ac gg_5 (ac gg_4 (ac gg_6 (ac gg_6 (ac gg_6 (ac gg_6 (ac gg_7 (ac gg_7 (ac gg_7 (ac gg_6 (ac gg_7 (ac gg_6 (ar false (ar false (ar false (ar false (ac gg_10 (ac gg_10 (ac gg_10 (ac (yA _:((Ms e_1.Stack)).length=(e_1.Stack).length) (ac gg_10 (ar false (ac gg_10 (ar false an)))))))))))))))))))))))))))))))))))))))))) ?_
         cases h
         exact ⟨rfl,(sw [0,1] [] [.s 1,.s 3,.s 62] [.s 0,.s 1] an)⟩
        ·replace h:=zR gg_10 h
         refine rg [(10,Ht),(11,Hf),(20,Ht),(21,Hf),(27,Hg),(28,Hg),(29,Hg),(30,Hf),(31,Hf),(37,Hg),(38,Hg),(39,Hg),(40,Hg),(41,Hf),(42,Hf)] [1,3,62] [0,1] 2 [Pp 0,Pp 1,.bool false] [Vb 45 (zQ e_1),Vb 94 (zY r_1.1)] zE (ac gg_2 (ac gg_2 (ac gg_2 (ac gg_2 (ac gg_3 (ac gg_3 (ac gg_3 (ac gg_2 (ac gg_3 (ac gg_2 (ac gg_4 (ac gg_4 (ac gg_4 (ac gg_4 (ac gg_5 (ac gg_5 (ac gg_5 (ac gg_4 (ac gg_5 (ac gg_4 (ac gg_6 (ac gg_6 (ac gg_6 (ac gg_6 (ac gg_7 (ac gg_7 (ac gg_7 (ac gg_6 (ac gg_7 (ac gg_6 (ar false (ar false (ar false (ar false (ac gg_10 (ac gg_10 (ac gg_10 (ac gg_10 (ar false (ac gg_10 (ar false an))))))))))))))))))))))))))))))))))))))))) ?_
         cases h
         exact ⟨rfl,(sw [0,1] [] [.s 1,.s 3,.s 62] [.s 0,.s 1] an)⟩
     ·replace h:=zR gg_5 h
      rcases bft (!r_1.1.m) with gg_11 | gg_11
      ·replace h:=zS gg_11 h
       rcases bft (e_1.M != (0:Int)) with gg_12 | gg_12
       ·replace h:=zS gg_12 h
        refine rg [(10,Ht),(11,Hf),(17,Hg),(18,Hg),(19,Hg),(20,Hf),(21,Hf),(30,Ht),(31,Hf),(33,Hg),(34,Hg),(35,Hg),(36,Hg),(41,Hg),(42,Ht)] [1,3,62] [0,1] 2 [Pp 0,Pp 1,.bool true] [Vb 45 (zQ e_1),Vb 94 (zY r_1.1)] zE (ac gg_2 (ac gg_2 (ac gg_2 (ac gg_2 (ac gg_3 (ac gg_3 (ac gg_3 (ac gg_2 (ac gg_3 (ac gg_2 (ac gg_4 (ac gg_4 (ac gg_4 (ac gg_4 (ac gg_5 (ac gg_5 (ac gg_5 (ac gg_4 (ac gg_5 (ac gg_4 (ar false (ar false (ar false (ar false (ac gg_11 (ac gg_11 (ac gg_11 (ar false (ac gg_11 (ar false (ac gg_12 (ac gg_12 (ac gg_12 (ac gg_12 (ac gg_12 (ac gg_12 an)))))))))))))))))))))))))))))))))))) ?_
        cases h
        exact ⟨rfl,(sw [0,1] [] [.s 1,.s 3,.s 62] [.s 0,.s 1] an)⟩
       ·replace h:=zR gg_12 h
        rcases bft (!r_1.1.stack) with gg_13 | gg_13
        ·replace h:=zS gg_13 h
         refine rg [(10,Ht),(11,Hf),(17,Hg),(18,Hg),(19,Hg),(20,Hf),(21,Hf),(30,Ht),(31,Hf),(39,{ n:=(e_1.Stack).length }),(41,Ht),(42,Hf)] [1,3,62] [0,1] 2 [Pp 0,Pp 1,.bool (decide ((lN (e_1.Stack))>(0:Int)))] [Vb 45 (zQ e_1),Vb 94 (zY r_1.1)] zE (ac gg_2 (ac gg_2 (ac gg_2 (ac gg_2 (ac gg_3 (ac gg_3 (ac gg_3 (ac gg_2 (ac gg_3 (ac gg_2 (ac gg_4 (ac gg_4 (ac gg_4 (ac gg_4 (ac gg_5 (ac gg_5 (ac gg_5 (ac gg_4 (ac gg_5 (ac gg_4 (ar false (ar false (ar false (ar false (ac gg_11 (ac gg_11 (ac gg_11 (ar false (ac gg_11 (ar false (ac gg_12 (ac gg_12 (ac gg_12 (ac gg_12 (ac gg_13 (ac gg_13 (ac gg_13 (ac (yA _:((Ms e_1.Stack)).length=(e_1.Stack).length) (ac gg_13 (ac gg_12 (ac gg_13 (ac gg_12 an)))))))))))))))))))))))))))))))))))))))))) ?_
         cases h
         exact ⟨rfl,(sw [0,1] [] [.s 1,.s 3,.s 62] [.s 0,.s 1] an)⟩
        ·replace h:=zR gg_13 h
         refine rg [(10,Ht),(11,Hf),(17,Hg),(18,Hg),(19,Hg),(20,Hf),(21,Hf),(30,Ht),(31,Hf),(37,Hg),(38,Hg),(39,Hg),(40,Hg),(41,Hf),(42,Hf)] [1,3,62] [0,1] 2 [Pp 0,Pp 1,.bool false] [Vb 45 (zQ e_1),Vb 94 (zY r_1.1)] zE (ac gg_2 (ac gg_2 (ac gg_2 (ac gg_2 (ac gg_3 (ac gg_3 (ac gg_3 (ac gg_2 (ac gg_3 (ac gg_2 (ac gg_4 (ac gg_4 (ac gg_4 (ac gg_4 (ac gg_5 (ac gg_5 (ac gg_5 (ac gg_4 (ac gg_5 (ac gg_4 (ar false (ar false (ar false (ar false (ac gg_11 (ac gg_11 (ac gg_11 (ar false (ac gg_11 (ar false (ac gg_12 (ac gg_12 (ac gg_12 (ac gg_12 (ac gg_13 (ac gg_13 (ac gg_13 (ac gg_13 (ac gg_12 (ac gg_13 (ac gg_12 an))))))))))))))))))))))))))))))))))))))))) ?_
         cases h
         exact ⟨rfl,(sw [0,1] [] [.s 1,.s 3,.s 62] [.s 0,.s 1] an)⟩
      ·replace h:=zR gg_11 h
       rcases bft (!r_1.1.stack) with gg_14 | gg_14
       ·replace h:=zS gg_14 h
        refine rg [(10,Ht),(11,Hf),(17,Hg),(18,Hg),(19,Hg),(20,Hf),(21,Hf),(27,Hg),(28,Hg),(29,Hg),(30,Hf),(31,Hf),(39,{ n:=(e_1.Stack).length }),(41,Ht),(42,Hf)] [1,3,62] [0,1] 2 [Pp 0,Pp 1,.bool (decide ((lN (e_1.Stack))>(0:Int)))] [Vb 45 (zQ e_1),Vb 94 (zY r_1.1)] zE (ac gg_2 (ac gg_2 (ac gg_2 (ac gg_2 (ac gg_3 (ac gg_3 (ac gg_3 (ac gg_2 (ac gg_3 (ac gg_2 (ac gg_4 (ac gg_4 (ac gg_4 (ac gg_4 (ac gg_5 (ac gg_5 (ac gg_5 (ac gg_4 (ac gg_5 (ac gg_4 (ar false (ar false (ar false (ar false (ac gg_11 (ac gg_11 (ac gg_11 (ar false (ac gg_11 (ar false (ar false (ar false (ar false (ar false (ac gg_14 (ac gg_14 (ac gg_14 (ac (yA _:((Ms e_1.Stack)).length=(e_1.Stack).length) (ac gg_14 (ar false (ac gg_14 (ar false an)))))))))))))))))))))))))))))))))))))))))) ?_
        cases h
        exact ⟨rfl,(sw [0,1] [] [.s 1,.s 3,.s 62] [.s 0,.s 1] an)⟩
       ·replace h:=zR gg_14 h
        refine rg [(10,Ht),(11,Hf),(17,Hg),(18,Hg),(19,Hg),(20,Hf),(21,Hf),(27,Hg),(28,Hg),(29,Hg),(30,Hf),(31,Hf),(37,Hg),(38,Hg),(39,Hg),(40,Hg),(41,Hf),(42,Hf)] [1,3,62] [0,1] 2 [Pp 0,Pp 1,.bool false] [Vb 45 (zQ e_1),Vb 94 (zY r_1.1)] zE (ac gg_2 (ac gg_2 (ac gg_2 (ac gg_2 (ac gg_3 (ac gg_3 (ac gg_3 (ac gg_2 (ac gg_3 (ac gg_2 (ac gg_4 (ac gg_4 (ac gg_4 (ac gg_4 (ac gg_5 (ac gg_5 (ac gg_5 (ac gg_4 (ac gg_5 (ac gg_4 (ar false (ar false (ar false (ar false (ac gg_11 (ac gg_11 (ac gg_11 (ar false (ac gg_11 (ar false (ar false (ar false (ar false (ar false (ac gg_14 (ac gg_14 (ac gg_14 (ac gg_14 (ar false (ac gg_14 (ar false an))))))))))))))))))))))))))))))))))))))))) ?_
        cases h
        exact ⟨rfl,(sw [0,1] [] [.s 1,.s 3,.s 62] [.s 0,.s 1] an)⟩
   ·replace h:=zR gg_3 h
    rcases bft (!r_1.1.n) with gg_15 | gg_15
    ·replace h:=zS gg_15 h
     rcases bft (e_1.N != (0:Int)) with gg_16 | gg_16
     ·replace h:=zS gg_16 h
      refine rg [(7,Hg),(8,Hg),(9,Hg),(10,Hf),(11,Hf),(20,Ht),(21,Hf),(23,Hg),(24,Hg),(25,Hg),(26,Hg),(30,Hg),(31,Ht),(33,Hg),(34,Hg),(35,Hg),(36,Hg),(41,Hg),(42,Ht)] [1,3,62] [0,1] 2 [Pp 0,Pp 1,.bool true] [Vb 45 (zQ e_1),Vb 94 (zY r_1.1)] zE (ac gg_2 (ac gg_2 (ac gg_2 (ac gg_2 (ac gg_3 (ac gg_3 (ac gg_3 (ac gg_2 (ac gg_3 (ac gg_2 (ar false (ar false (ar false (ar false (ac gg_15 (ac gg_15 (ac gg_15 (ar false (ac gg_15 (ar false (ac gg_16 (ac gg_16 (ac gg_16 (ac gg_16 (ac gg_16 (ac gg_16 (ax (ax (ax (ax (ax (ar true an)))))))))))))))))))))))))))))))) ?_
      cases h
      exact ⟨rfl,(sw [0,1] [] [.s 1,.s 3,.s 62] [.s 0,.s 1] an)⟩
     ·replace h:=zR gg_16 h
      rcases bft (!r_1.1.m) with gg_17 | gg_17
      ·replace h:=zS gg_17 h
       rcases bft (e_1.M != (0:Int)) with gg_18 | gg_18
       ·replace h:=zS gg_18 h
        refine rg [(7,Hg),(8,Hg),(9,Hg),(10,Hf),(11,Hf),(20,Ht),(21,Hf),(30,Ht),(31,Hf),(33,Hg),(34,Hg),(35,Hg),(36,Hg),(41,Hg),(42,Ht)] [1,3,62] [0,1] 2 [Pp 0,Pp 1,.bool true] [Vb 45 (zQ e_1),Vb 94 (zY r_1.1)] zE (ac gg_2 (ac gg_2 (ac gg_2 (ac gg_2 (ac gg_3 (ac gg_3 (ac gg_3 (ac gg_2 (ac gg_3 (ac gg_2 (ar false (ar false (ar false (ar false (ac gg_15 (ac gg_15 (ac gg_15 (ar false (ac gg_15 (ar false (ac gg_16 (ac gg_16 (ac gg_16 (ac gg_16 (ac gg_17 (ac gg_17 (ac gg_17 (ac gg_16 (ac gg_17 (ac gg_16 (ac gg_18 (ac gg_18 (ac gg_18 (ac gg_18 (ac gg_18 (ac gg_18 an)))))))))))))))))))))))))))))))))))) ?_
        cases h
        exact ⟨rfl,(sw [0,1] [] [.s 1,.s 3,.s 62] [.s 0,.s 1] an)⟩
       ·replace h:=zR gg_18 h
        rcases bft (!r_1.1.stack) with gg_19 | gg_19
        ·replace h:=zS gg_19 h
         refine rg [(7,Hg),(8,Hg),(9,Hg),(10,Hf),(11,Hf),(20,Ht),(21,Hf),(30,Ht),(31,Hf),(39,{ n:=(e_1.Stack).length }),(41,Ht),(42,Hf)] [1,3,62] [0,1] 2 [Pp 0,Pp 1,.bool (decide ((lN (e_1.Stack))>(0:Int)))] [Vb 45 (zQ e_1),Vb 94 (zY r_1.1)] zE (ac gg_2 (ac gg_2 (ac gg_2 (ac gg_2 (ac gg_3 (ac gg_3 (ac gg_3 (ac gg_2 (ac gg_3 (ac gg_2 (ar false (ar false (ar false (ar false (ac gg_15 (ac gg_15 (ac gg_15 (ar false (ac gg_15 (ar false (ac gg_16 (ac gg_16 (ac gg_16 (ac gg_16 (ac gg_17 (ac gg_17 (ac gg_17 (ac gg_16 (ac gg_17 (ac gg_16 (ac gg_18 (ac gg_18 (ac gg_18 (ac gg_18 (ac gg_19 (ac gg_19 (ac gg_19 (ac (yA _:((Ms e_1.Stack)).length=(e_1.Stack).length) (ac gg_19 (ac gg_18 (ac gg_19 (ac gg_18 an)))))))))))))))))))))))))))))))))))))))))) ?_
         cases h
         exact ⟨rfl,(sw [0,1] [] [.s 1,.s 3,.s 62] [.s 0,.s 1] an)⟩
        ·replace h:=zR gg_19 h
         refine rg [(7,Hg),(8,Hg),(9,Hg),(10,Hf),(11,Hf),(20,Ht),(21,Hf),(30,Ht),(31,Hf),(37,Hg),(38,Hg),(39,Hg),(40,Hg),(41,Hf),(42,Hf)] [1,3,62] [0,1] 2 [Pp 0,Pp 1,.bool false] [Vb 45 (zQ e_1),Vb 94 (zY r_1.1)] zE (ac gg_2 (ac gg_2 (ac gg_2 (ac gg_2 (ac gg_3 (ac gg_3 (ac gg_3 (ac gg_2 (ac gg_3 (ac gg_2 (ar false (ar false (ar false (ar false (ac gg_15 (ac gg_15 (ac gg_15 (ar false (ac gg_15 (ar false (ac gg_16 (ac gg_16 (ac gg_16 (ac gg_16 (ac gg_17 (ac gg_17 (ac gg_17 (ac gg_16 (ac gg_17 (ac gg_16 (ac gg_18 (ac gg_18 (ac gg_18 (ac gg_18 (ac gg_19 (ac gg_19 (ac gg_19 (ac gg_19 (ac gg_18 (ac gg_19 (ac gg_18 an))))))))))))))))))))))))))))))))))))))))) ?_
         cases h
         exact ⟨rfl,(sw [0,1] [] [.s 1,.s 3,.s 62] [.s 0,.s 1] an)⟩
      ·replace h:=zR gg_17 h
       rcases bft (!r_1.1.stack) with gg_20 | gg_20
       ·replace h:=zS gg_20 h
        refine rg [(7,Hg),(8,Hg),(9,Hg),(10,Hf),(11,Hf),(20,Ht),(21,Hf),(27,Hg),(28,Hg),(29,Hg),(30,Hf),(31,Hf),(39,{ n:=(e_1.Stack).length }),(41,Ht),(42,Hf)] [1,3,62] [0,1] 2 [Pp 0,Pp 1,.bool (decide ((lN (e_1.Stack))>(0:Int)))] [Vb 45 (zQ e_1),Vb 94 (zY r_1.1)] zE (ac gg_2 (ac gg_2 (ac gg_2 (ac gg_2 (ac gg_3 (ac gg_3 (ac gg_3 (ac gg_2 (ac gg_3 (ac gg_2 (ar false (ar false (ar false (ar false (ac gg_15 (ac gg_15 (ac gg_15 (ar false (ac gg_15 (ar false (ac gg_16 (ac gg_16 (ac gg_16 (ac gg_16 (ac gg_17 (ac gg_17 (ac gg_17 (ac gg_16 (ac gg_17 (ac gg_16 (ar false (ar false (ar false (ar false (ac gg_20 (ac gg_20 (ac gg_20 (ac (yA _:((Ms e_1.Stack)).length=(e_1.Stack).length) (ac gg_20 (ar false (ac gg_20 (ar false an)))))))))))))))))))))))))))))))))))))))))) ?_
        cases h
        exact ⟨rfl,(sw [0,1] [] [.s 1,.s 3,.s 62] [.s 0,.s 1] an)⟩
       ·replace h:=zR gg_20 h
        refine rg [(7,Hg),(8,Hg),(9,Hg),(10,Hf),(11,Hf),(20,Ht),(21,Hf),(27,Hg),(28,Hg),(29,Hg),(30,Hf),(31,Hf),(37,Hg),(38,Hg),(39,Hg),(40,Hg),(41,Hf),(42,Hf)] [1,3,62] [0,1] 2 [Pp 0,Pp 1,.bool false] [Vb 45 (zQ e_1),Vb 94 (zY r_1.1)] zE (ac gg_2 (ac gg_2 (ac gg_2 (ac gg_2 (ac gg_3 (ac gg_3 (ac gg_3 (ac gg_2 (ac gg_3 (ac gg_2 (ar false (ar false (ar false (ar false (ac gg_15 (ac gg_15 (ac gg_15 (ar false (ac gg_15 (ar false (ac gg_16 (ac gg_16 (ac gg_16 (ac gg_16 (ac gg_17 (ac gg_17 (ac gg_17 (ac gg_16 (ac gg_17 (ac gg_16 (ar false (ar false (ar false (ar false (ac gg_20 (ac gg_20 (ac gg_20 (ac gg_20 (ar false (ac gg_20 (ar false an))))))))))))))))))))))))))))))))))))))))) ?_
        cases h
        exact ⟨rfl,(sw [0,1] [] [.s 1,.s 3,.s 62] [.s 0,.s 1] an)⟩
    ·replace h:=zR gg_15 h
     rcases bft (!r_1.1.m) with gg_21 | gg_21
     ·replace h:=zS gg_21 h
      rcases bft (e_1.M != (0:Int)) with gg_22 | gg_22
      ·replace h:=zS gg_22 h
       refine rg [(7,Hg),(8,Hg),(9,Hg),(10,Hf),(11,Hf),(17,Hg),(18,Hg),(19,Hg),(20,Hf),(21,Hf),(30,Ht),(31,Hf),(33,Hg),(34,Hg),(35,Hg),(36,Hg),(41,Hg),(42,Ht)] [1,3,62] [0,1] 2 [Pp 0,Pp 1,.bool true] [Vb 45 (zQ e_1),Vb 94 (zY r_1.1)] zE (ac gg_2 (ac gg_2 (ac gg_2 (ac gg_2 (ac gg_3 (ac gg_3 (ac gg_3 (ac gg_2 (ac gg_3 (ac gg_2 (ar false (ar false (ar false (ar false (ac gg_15 (ac gg_15 (ac gg_15 (ar false (ac gg_15 (ar false (ar false (ar false (ar false (ar false (ac gg_21 (ac gg_21 (ac gg_21 (ar false (ac gg_21 (ar false (ac gg_22 (ac gg_22 (ac gg_22 (ac gg_22 (ac gg_22 (ac gg_22 an)))))))))))))))))))))))))))))))))))) ?_
       cases h
       exact ⟨rfl,(sw [0,1] [] [.s 1,.s 3,.s 62] [.s 0,.s 1] an)⟩
      ·replace h:=zR gg_22 h
       rcases bft (!r_1.1.stack) with gg_23 | gg_23
       ·replace h:=zS gg_23 h
        refine rg [(7,Hg),(8,Hg),(9,Hg),(10,Hf),(11,Hf),(17,Hg),(18,Hg),(19,Hg),(20,Hf),(21,Hf),(30,Ht),(31,Hf),(39,{ n:=(e_1.Stack).length }),(41,Ht),(42,Hf)] [1,3,62] [0,1] 2 [Pp 0,Pp 1,.bool (decide ((lN (e_1.Stack))>(0:Int)))] [Vb 45 (zQ e_1),Vb 94 (zY r_1.1)] zE (ac gg_2 (ac gg_2 (ac gg_2 (ac gg_2 (ac gg_3 (ac gg_3 (ac gg_3 (ac gg_2 (ac gg_3 (ac gg_2 (ar false (ar false (ar false (ar false (ac gg_15 (ac gg_15 (ac gg_15 (ar false (ac gg_15 (ar false (ar false (ar false (ar false (ar false (ac gg_21 (ac gg_21 (ac gg_21 (ar false (ac gg_21 (ar false (ac gg_22 (ac gg_22 (ac gg_22 (ac gg_22 (ac gg_23 (ac gg_23 (ac gg_23 (ac (yA _:((Ms e_1.Stack)).length=(e_1.Stack).length) (ac gg_23 (ac gg_22 (ac gg_23 (ac gg_22 an)))))))))))))))))))))))))))))))))))))))))) ?_
        cases h
        exact ⟨rfl,(sw [0,1] [] [.s 1,.s 3,.s 62] [.s 0,.s 1] an)⟩
       ·replace h:=zR gg_23 h
        refine rg [(7,Hg),(8,Hg),(9,Hg),(10,Hf),(11,Hf),(17,Hg),(18,Hg),(19,Hg),(20,Hf),(21,Hf),(30,Ht),(31,Hf),(37,Hg),(38,Hg),(39,Hg),(40,Hg),(41,Hf),(42,Hf)] [1,3,62] [0,1] 2 [Pp 0,Pp 1,.bool false] [Vb 45 (zQ e_1),Vb 94 (zY r_1.1)] zE (ac gg_2 (ac gg_2 (ac gg_2 (ac gg_2 (ac gg_3 (ac gg_3 (ac gg_3 (ac gg_2 (ac gg_3 (ac gg_2 (ar false (ar false (ar false (ar false (ac gg_15 (ac gg_15 (ac gg_15 (ar false (ac gg_15 (ar false (ar false (ar false (ar false (ar false (ac gg_21 (ac gg_21 (ac gg_21 (ar false (ac gg_21 (ar false (ac gg_22 (ac gg_22 (ac gg_22 (ac gg_22 (ac gg_23 (ac gg_23 (ac gg_23 (ac gg_23 (ac gg_22 (ac gg_23 (ac gg_22 an))))))))))))))))))))))))))))))))))))))))) ?_
        cases h
        exact ⟨rfl,(sw [0,1] [] [.s 1,.s 3,.s 62] [.s 0,.s 1] an)⟩
     ·replace h:=zR gg_21 h
      rcases bft (!r_1.1.stack) with gg_24 | gg_24
      ·replace h:=zS gg_24 h
       refine rg [(7,Hg),(8,Hg),(9,Hg),(10,Hf),(11,Hf),(17,Hg),(18,Hg),(19,Hg),(20,Hf),(21,Hf),(27,Hg),(28,Hg),(29,Hg),(30,Hf),(31,Hf),(39,{ n:=(e_1.Stack).length }),(41,Ht),(42,Hf)] [1,3,62] [0,1] 2 [Pp 0,Pp 1,.bool (decide ((lN (e_1.Stack))>(0:Int)))] [Vb 45 (zQ e_1),Vb 94 (zY r_1.1)] zE (ac gg_2 (ac gg_2 (ac gg_2 (ac gg_2 (ac gg_3 (ac gg_3 (ac gg_3 (ac gg_2 (ac gg_3 (ac gg_2 (ar false (ar false (ar false (ar false (ac gg_15 (ac gg_15 (ac gg_15 (ar false (ac gg_15 (ar false (ar false (ar false (ar false (ar false (ac gg_21 (ac gg_21 (ac gg_21 (ar false (ac gg_21 (ar false (ar false (ar false (ar false (ar false (ac gg_24 (ac gg_24 (ac gg_24 (ac (yA _:((Ms e_1.Stack)).length=(e_1.Stack).length) (ac gg_24 (ar false (ac gg_24 (ar false an)))))))))))))))))))))))))))))))))))))))))) ?_
       cases h
       exact ⟨rfl,(sw [0,1] [] [.s 1,.s 3,.s 62] [.s 0,.s 1] an)⟩
      ·replace h:=zR gg_24 h
       refine rg [(7,Hg),(8,Hg),(9,Hg),(10,Hf),(11,Hf),(17,Hg),(18,Hg),(19,Hg),(20,Hf),(21,Hf),(27,Hg),(28,Hg),(29,Hg),(30,Hf),(31,Hf),(37,Hg),(38,Hg),(39,Hg),(40,Hg),(41,Hf),(42,Hf)] [1,3,62] [0,1] 2 [Pp 0,Pp 1,.bool false] [Vb 45 (zQ e_1),Vb 94 (zY r_1.1)] zE (ac gg_2 (ac gg_2 (ac gg_2 (ac gg_2 (ac gg_3 (ac gg_3 (ac gg_3 (ac gg_2 (ac gg_3 (ac gg_2 (ar false (ar false (ar false (ar false (ac gg_15 (ac gg_15 (ac gg_15 (ar false (ac gg_15 (ar false (ar false (ar false (ar false (ar false (ac gg_21 (ac gg_21 (ac gg_21 (ar false (ac gg_21 (ar false (ar false (ar false (ar false (ar false (ac gg_24 (ac gg_24 (ac gg_24 (ac gg_24 (ar false (ac gg_24 (ar false an))))))))))))))))))))))))))))))))))))))))) ?_
       cases h
       exact ⟨rfl,(sw [0,1] [] [.s 1,.s 3,.s 62] [.s 0,.s 1] an)⟩
 refine cd 62 p_1 ?_ ?_
 ·intro g_2;replace h:=zS g_2 h
  refine sr [] [2] [] 2 [Ii 1] [] zE an ?_
  refine rt ?_
  cases h
  exact ⟨.inr rfl,Nat.le_of_ble_eq_true rfl,by kernel_rfl⟩
 intro g_2;replace h:=zR g_2 h
 refine sk ?_
 refine sq ?_
 refine sq ?_
 obtain ⟨r_2,h_3,h⟩:=bind_some h
 refine rg [(2,{ av:=Ii r_2,l:=[yO r_1.1,zJ e_1] })] [1,3,5] [0,1] 2 [Pp 0,Pp 1,Ii r_2] [Vb 45 (zQ e_1),Vb 94 (zY r_1.1)] zE (ar ([yO r_1.1,zJ e_1]:List AV) (ac (rfl:([]:List zP)=[]) (ac (zE1 F r_1.1 e_1 r_2 h_3:zN prog 57 [] [] [yO r_1.1,zJ e_1] [] (Ii r_2)) an))) ?_
 refine sr [] [1,3,5,67] [0,1] 2 [Pp 0,Pp 1,Ii r_2,.bool (r_2 != (0:Int))] [Vb 45 (zQ e_1),Vb 94 (zY r_1.1)] zE an ?_
 refine cd 67 (r_2 != (0:Int)) ?_ ?_
 ·intro g_3;replace h:=zS g_3 h
  refine sr [] [2] [] 2 [Ii r_2] [] zE an ?_
  refine rt ?_
  cases h
  exact ⟨.inr rfl,Nat.le_of_ble_eq_true rfl,by kernel_rfl⟩
 intro g_3;replace h:=zR g_3 h
 refine sk ?_
 refine sq ?_
 refine z7 (id:=0) (by kernel_rfl) ?_
 refine sq ?_
 refine yB (mk [(1,Pp 0),(3,Pp 1),(69,.bool (r_1.1.n&&(decide (e_1.N<r_1.1.least)||decide (e_1.N>r_1.1.most))))] [(0,Vb 45 (zQ e_1)),(1,Vb 94 (zY r_1.1))] 2) ?_ ?_
 ·rcases Bool.eq_false_or_eq_true r_1.1.n with gg_25 | gg_25
  ·rcases bft (decide (e_1.N<r_1.1.least)) with gg_26 | gg_26
   ·refine rg [(9,Hg),(10,Hg),(11,Hg),(12,Hg),(13,Hg),(14,Ht),(15,Ht)] [1,3,69] [0,1] 2 [Pp 0,Pp 1,.bool true] [Vb 45 (zQ e_1),Vb 94 (zY r_1.1)] zE (ac gg_25 (ac gg_25 (ac gg_25 (ac gg_25 (ac gg_25 (ac gg_25 (ac gg_26 (ac gg_26 (ac gg_26 (ac gg_26 (ac gg_26 (ac gg_25 (ac gg_26 (ac gg_25 an)))))))))))))) ?_
    exact ⟨rfl,(sw [0,1] [] [.s 1,.s 3,.a 69 (.bool (r_1.1.n&&(decide (e_1.N<r_1.1.least)||decide (e_1.N>r_1.1.most))))] [.s 0,.s 1] (ac (congrArg AV.bool (w5 gg_25 (ort gg_26)):(.bool true:AV)=.bool (r_1.1.n&&(decide (e_1.N<r_1.1.least)||decide (e_1.N>r_1.1.most)))) an))⟩
   ·refine rg [(14,Hf),(15,Ht)] [1,3,69] [0,1] 2 [Pp 0,Pp 1,.bool (decide (e_1.N>r_1.1.most))] [Vb 45 (zQ e_1),Vb 94 (zY r_1.1)] zE (ac gg_25 (ac gg_25 (ac gg_25 (ac gg_25 (ac gg_25 (ac gg_25 (ac gg_26 (ac gg_26 (ac gg_26 (ac gg_26 (ac gg_26 (ac gg_25 (ac gg_26 (ac gg_25 an)))))))))))))) ?_
    exact ⟨rfl,(sw [0,1] [] [.s 1,.s 3,.a 69 (.bool (r_1.1.n&&(decide (e_1.N<r_1.1.least)||decide (e_1.N>r_1.1.most))))] [.s 0,.s 1] (ac (congrArg AV.bool (w5 gg_25 (orf gg_26 rfl)):(.bool (decide (e_1.N>r_1.1.most)):AV)=.bool (r_1.1.n&&(decide (e_1.N<r_1.1.least)||decide (e_1.N>r_1.1.most)))) an))⟩
  ·refine rg [(3,Hg),(4,Hg),(5,Hg),(6,Hg),(7,Hg),(8,Hg),(14,Hg),(15,Hf)] [1,3,69] [0,1] 2 [Pp 0,Pp 1,.bool false] [Vb 45 (zQ e_1),Vb 94 (zY r_1.1)] zE (ac gg_25 (ac gg_25 (ac gg_25 (ac gg_25 (ac gg_25 (ac gg_25 (ac gg_25 (ac gg_25 an)))))))) ?_
   exact ⟨rfl,(sw [0,1] [] [.s 1,.s 3,.a 69 (.bool (r_1.1.n&&(decide (e_1.N<r_1.1.least)||decide (e_1.N>r_1.1.most))))] [.s 0,.s 1] (ac (congrArg AV.bool (tQ gg_25):(.bool false:AV)=.bool (r_1.1.n&&(decide (e_1.N<r_1.1.least)||decide (e_1.N>r_1.1.most)))) an))⟩
 refine cd 69 (r_1.1.n&&(decide (e_1.N<r_1.1.least)||decide (e_1.N>r_1.1.most))) ?_ ?_
 ·intro g_4;replace h:=zS g_4 h
  refine sr [] [2] [] 2 [Ii 2] [] zE an ?_
  refine rt ?_
  cases h
  exact ⟨.inr rfl,Nat.le_of_ble_eq_true rfl,by kernel_rfl⟩
 intro g_4;replace h:=zR g_4 h
 refine sq ?_
 refine yB (mk [(1,Pp 0),(3,Pp 1),(86,.bool ((e_1.Kind==(9:Int))&&((e_1.N != (2:Int))&&(e_1.M != (0:Int)))))] [(0,Vb 45 (zQ e_1)),(1,Vb 94 (zY r_1.1))] 2) ?_ ?_
 ·rcases bft (e_1.Kind==(9:Int)) with gg_27 | gg_27
  ·rcases bft (e_1.N != (2:Int)) with gg_28 | gg_28
   ·refine rg [(7,Ht),(12,Ht)] [1,3,86] [0,1] 2 [Pp 0,Pp 1,.bool (e_1.M != (0:Int))] [Vb 45 (zQ e_1),Vb 94 (zY r_1.1)] zE (ac gg_27 (ac gg_27 (ac gg_27 (ac gg_27 (ac gg_28 (ac gg_28 (ac gg_28 (ac gg_28 an)))))))) ?_
    exact ⟨rfl,(sw [0,1] [] [.s 1,.s 3,.a 86 (.bool ((e_1.Kind==(9:Int))&&((e_1.N != (2:Int))&&(e_1.M != (0:Int)))))] [.s 0,.s 1] (ac (congrArg AV.bool (w5 gg_27 (w5 gg_28 rfl)):(.bool (e_1.M != (0:Int)):AV)=.bool ((e_1.Kind==(9:Int))&&((e_1.N != (2:Int))&&(e_1.M != (0:Int))))) an))⟩
   ·refine rg [(7,Ht),(9,Hg),(10,Hg),(11,Hg),(12,Hf)] [1,3,86] [0,1] 2 [Pp 0,Pp 1,.bool false] [Vb 45 (zQ e_1),Vb 94 (zY r_1.1)] zE (ac gg_27 (ac gg_27 (ac gg_27 (ac gg_27 (ac gg_28 (ac gg_28 (ac gg_28 (ac gg_28 an)))))))) ?_
    exact ⟨rfl,(sw [0,1] [] [.s 1,.s 3,.a 86 (.bool ((e_1.Kind==(9:Int))&&((e_1.N != (2:Int))&&(e_1.M != (0:Int)))))] [.s 0,.s 1] (ac (congrArg AV.bool (w5 gg_27 (tQ gg_28)):(.bool false:AV)=.bool ((e_1.Kind==(9:Int))&&((e_1.N != (2:Int))&&(e_1.M != (0:Int))))) an))⟩
  ·refine rg [(4,Hg),(5,Hg),(6,Hg),(7,Hf),(9,Hg),(10,Hg),(11,Hg),(12,Hf)] [1,3,86] [0,1] 2 [Pp 0,Pp 1,.bool false] [Vb 45 (zQ e_1),Vb 94 (zY r_1.1)] zE (ac gg_27 (ac gg_27 (ac gg_27 (ac gg_27 (ac (rfl:false=!true) (ac (rfl:false=!true) (ac (rfl:false=!true) (ar false an)))))))) ?_
   exact ⟨rfl,(sw [0,1] [] [.s 1,.s 3,.a 86 (.bool ((e_1.Kind==(9:Int))&&((e_1.N != (2:Int))&&(e_1.M != (0:Int)))))] [.s 0,.s 1] (ac (congrArg AV.bool (tQ gg_27):(.bool false:AV)=.bool ((e_1.Kind==(9:Int))&&((e_1.N != (2:Int))&&(e_1.M != (0:Int))))) an))⟩
 refine cd 86 ((e_1.Kind==(9:Int))&&((e_1.N != (2:Int))&&(e_1.M != (0:Int)))) ?_ ?_
 ·intro g_5;replace h:=zS g_5 h
  refine sr [] [2] [] 2 [Ii 1] [] zE an ?_
  refine rt ?_
  cases h
  exact ⟨.inr rfl,Nat.le_of_ble_eq_true rfl,by kernel_rfl⟩
 intro g_5;replace h:=zR g_5 h
 refine sq ?_
 refine yB (mk [(100,.bool (r_1.1.m&&(bif decide (e_1.M<r_1.1.mLeast) then ((e_1.Kind != (9:Int))||(e_1.N==(2:Int))) else (decide (e_1.M>r_1.1.mMost)&&((e_1.Kind != (9:Int))||(e_1.N==(2:Int)))))))] [] 0) ?_ ?_
 ·rcases Bool.eq_false_or_eq_true r_1.1.m with gg_29 | gg_29
  ·rcases bft (decide (e_1.M<r_1.1.mLeast)) with gg_30 | gg_30
   ·rcases bft (e_1.Kind != (9:Int)) with gg_31 | gg_31
    ·refine rg [(9,Hg),(10,Hg),(11,Hg),(12,Hg),(13,Hg),(14,Ht),(15,Ht),(21,Hg),(22,Hg),(23,Hg),(24,Ht),(25,Ht)] [100] [] 2 [.bool true] [] zE (ac gg_29 (ac gg_29 (ac gg_29 (ac gg_29 (ac gg_29 (ac gg_29 (ac gg_30 (ac gg_30 (ac gg_30 (ac gg_30 (ac gg_30 (ac gg_29 (ac gg_30 (ac gg_29 (ar true (ar true (ar true (ar true (ac gg_31 (ac gg_31 (ac gg_31 (ar true (ac gg_31 (ar true an)))))))))))))))))))))))) ?_
     exact ⟨rfl,(sw [] [] [.a 100 (.bool (r_1.1.m&&(bif decide (e_1.M<r_1.1.mLeast) then ((e_1.Kind != (9:Int))||(e_1.N==(2:Int))) else (decide (e_1.M>r_1.1.mMost)&&((e_1.Kind != (9:Int))||(e_1.N==(2:Int)))))))] [] (ac (congrArg AV.bool (w5 gg_29 (ctr gg_30 (ort gg_31))):(.bool true:AV)=.bool (r_1.1.m&&(bif decide (e_1.M<r_1.1.mLeast) then ((e_1.Kind != (9:Int))||(e_1.N==(2:Int))) else (decide (e_1.M>r_1.1.mMost)&&((e_1.Kind != (9:Int))||(e_1.N==(2:Int))))))) an))⟩
    ·refine rg [(9,Hg),(10,Hg),(11,Hg),(12,Hg),(13,Hg),(14,Ht),(15,Ht),(24,Hf),(25,Ht)] [100] [] 2 [.bool (e_1.N==(2:Int))] [] zE (ac gg_29 (ac gg_29 (ac gg_29 (ac gg_29 (ac gg_29 (ac gg_29 (ac gg_30 (ac gg_30 (ac gg_30 (ac gg_30 (ac gg_30 (ac gg_29 (ac gg_30 (ac gg_29 (ar true (ar true (ar true (ar true (ac gg_31 (ac gg_31 (ac gg_31 (ar true (ac gg_31 (ar true an)))))))))))))))))))))))) ?_
     exact ⟨rfl,(sw [] [] [.a 100 (.bool (r_1.1.m&&(bif decide (e_1.M<r_1.1.mLeast) then ((e_1.Kind != (9:Int))||(e_1.N==(2:Int))) else (decide (e_1.M>r_1.1.mMost)&&((e_1.Kind != (9:Int))||(e_1.N==(2:Int)))))))] [] (ac (congrArg AV.bool (w5 gg_29 (ctr gg_30 (orf gg_31 rfl))):(.bool (e_1.N==(2:Int)):AV)=.bool (r_1.1.m&&(bif decide (e_1.M<r_1.1.mLeast) then ((e_1.Kind != (9:Int))||(e_1.N==(2:Int))) else (decide (e_1.M>r_1.1.mMost)&&((e_1.Kind != (9:Int))||(e_1.N==(2:Int))))))) an))⟩
   ·rcases bft (decide (e_1.M>r_1.1.mMost)) with gg_32 | gg_32
    ·rcases bft (e_1.Kind != (9:Int)) with gg_33 | gg_33
     ·refine rg [(14,Hf),(15,Ht),(21,Hg),(22,Hg),(23,Hg),(24,Ht),(25,Ht)] [100] [] 2 [.bool true] [] zE (ac gg_29 (ac gg_29 (ac gg_29 (ac gg_29 (ac gg_29 (ac gg_29 (ac gg_30 (ac gg_30 (ac gg_30 (ac gg_30 (ac gg_30 (ac gg_29 (ac gg_30 (ac gg_29 (ac gg_32 (ac gg_32 (ac gg_32 (ac gg_32 (ac gg_33 (ac gg_33 (ac gg_33 (ac gg_32 (ac gg_33 (ac gg_32 an)))))))))))))))))))))))) ?_
      exact ⟨rfl,(sw [] [] [.a 100 (.bool (r_1.1.m&&(bif decide (e_1.M<r_1.1.mLeast) then ((e_1.Kind != (9:Int))||(e_1.N==(2:Int))) else (decide (e_1.M>r_1.1.mMost)&&((e_1.Kind != (9:Int))||(e_1.N==(2:Int)))))))] [] (ac (congrArg AV.bool (w5 gg_29 (cfr gg_30 (w5 gg_32 (ort gg_33)))):(.bool true:AV)=.bool (r_1.1.m&&(bif decide (e_1.M<r_1.1.mLeast) then ((e_1.Kind != (9:Int))||(e_1.N==(2:Int))) else (decide (e_1.M>r_1.1.mMost)&&((e_1.Kind != (9:Int))||(e_1.N==(2:Int))))))) an))⟩
     ·refine rg [(14,Hf),(15,Ht),(24,Hf),(25,Ht)] [100] [] 2 [.bool (e_1.N==(2:Int))] [] zE (ac gg_29 (ac gg_29 (ac gg_29 (ac gg_29 (ac gg_29 (ac gg_29 (ac gg_30 (ac gg_30 (ac gg_30 (ac gg_30 (ac gg_30 (ac gg_29 (ac gg_30 (ac gg_29 (ac gg_32 (ac gg_32 (ac gg_32 (ac gg_32 (ac gg_33 (ac gg_33 (ac gg_33 (ac gg_32 (ac gg_33 (ac gg_32 an)))))))))))))))))))))))) ?_
      exact ⟨rfl,(sw [] [] [.a 100 (.bool (r_1.1.m&&(bif decide (e_1.M<r_1.1.mLeast) then ((e_1.Kind != (9:Int))||(e_1.N==(2:Int))) else (decide (e_1.M>r_1.1.mMost)&&((e_1.Kind != (9:Int))||(e_1.N==(2:Int)))))))] [] (ac (congrArg AV.bool (w5 gg_29 (cfr gg_30 (w5 gg_32 (orf gg_33 rfl)))):(.bool (e_1.N==(2:Int)):AV)=.bool (r_1.1.m&&(bif decide (e_1.M<r_1.1.mLeast) then ((e_1.Kind != (9:Int))||(e_1.N==(2:Int))) else (decide (e_1.M>r_1.1.mMost)&&((e_1.Kind != (9:Int))||(e_1.N==(2:Int))))))) an))⟩
    ·refine rg [(14,Hf),(15,Ht),(17,Hg),(18,Hg),(19,Hg),(20,Hg),(24,Hg),(25,Hf)] [100] [] 2 [.bool false] [] zE (ac gg_29 (ac gg_29 (ac gg_29 (ac gg_29 (ac gg_29 (ac gg_29 (ac gg_30 (ac gg_30 (ac gg_30 (ac gg_30 (ac gg_30 (ac gg_29 (ac gg_30 (ac gg_29 (ac gg_32 (ac gg_32 (ac gg_32 (ac gg_32 (ac gg_32 (ac gg_32 an)))))))))))))))))))) ?_
     exact ⟨rfl,(sw [] [] [.a 100 (.bool (r_1.1.m&&(bif decide (e_1.M<r_1.1.mLeast) then ((e_1.Kind != (9:Int))||(e_1.N==(2:Int))) else (decide (e_1.M>r_1.1.mMost)&&((e_1.Kind != (9:Int))||(e_1.N==(2:Int)))))))] [] (ac (congrArg AV.bool (w5 gg_29 (cfr gg_30 (tQ gg_32))):(.bool false:AV)=.bool (r_1.1.m&&(bif decide (e_1.M<r_1.1.mLeast) then ((e_1.Kind != (9:Int))||(e_1.N==(2:Int))) else (decide (e_1.M>r_1.1.mMost)&&((e_1.Kind != (9:Int))||(e_1.N==(2:Int))))))) an))⟩
  ·refine rg [(3,Hg),(4,Hg),(5,Hg),(6,Hg),(7,Hg),(8,Hg),(14,Hg),(15,Hf),(17,Hg),(18,Hg),(19,Hg),(20,Hg),(24,Hg),(25,Hf)] [100] [] 2 [.bool false] [] zE (ac gg_29 (ac gg_29 (ac gg_29 (ac gg_29 (ac gg_29 (ac gg_29 (ac gg_29 (ac gg_29 (ac (rfl:false=!true) (ac (rfl:false=!true) (ac (rfl:false=!true) (ac (rfl:false=!true) (ac (rfl:false=!true) (ar false an)))))))))))))) ?_
   exact ⟨rfl,(sw [] [] [.a 100 (.bool (r_1.1.m&&(bif decide (e_1.M<r_1.1.mLeast) then ((e_1.Kind != (9:Int))||(e_1.N==(2:Int))) else (decide (e_1.M>r_1.1.mMost)&&((e_1.Kind != (9:Int))||(e_1.N==(2:Int)))))))] [] (ac (congrArg AV.bool (tQ gg_29):(.bool false:AV)=.bool (r_1.1.m&&(bif decide (e_1.M<r_1.1.mLeast) then ((e_1.Kind != (9:Int))||(e_1.N==(2:Int))) else (decide (e_1.M>r_1.1.mMost)&&((e_1.Kind != (9:Int))||(e_1.N==(2:Int))))))) an))⟩
 refine cd 100 (r_1.1.m&&(bif decide (e_1.M<r_1.1.mLeast) then ((e_1.Kind != (9:Int))||(e_1.N==(2:Int))) else (decide (e_1.M>r_1.1.mMost)&&((e_1.Kind != (9:Int))||(e_1.N==(2:Int)))))) ?_ ?_
 ·intro g_6;replace h:=zS g_6 h
  refine sr [] [2] [] 0 [Ii 2] [] zE an ?_
  refine rt ?_
  cases h
  exact ⟨.inr rfl,Nat.le_of_ble_eq_true rfl,by kernel_rfl⟩
 intro g_6;replace h:=zR g_6 h
 refine sk ?_
 refine sr [] [2] [] 0 [Ii 0] [] zE an ?_
 refine rt ?_
 cases h
 exact ⟨.inr rfl,Nat.le_of_ble_eq_true rfl,by kernel_rfl⟩
end Go.Ab
