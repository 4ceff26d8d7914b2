/- Printed: the typed Lean functions of the Go functions, or the proofs that the Go functions meet them. No conditions but those that the theorems name. -/
import Derived.Test.YtdpgdpjoemdkjaaP10xD
import Derived.Test.YtdpgdpjoemdkjaaProg
namespace Go.Ab
open Go
set_option linter.unusedVariables false
noncomputable abbrev prog:=Go.Proofs.Try.prog
theorem zF:prog.follows .mixedOrders=true:=by kernel_rfl
theorem zNI:zGA prog 101:=⟨_,Go.Proofs.Try.func101,by kernel_rfl,by kernel_rfl,by kernel_rfl,by kernel_rfl⟩
theorem zKf:kI prog 9 false [.str]:=zLF (by kernel_rfl)
theorem zFw:kI prog 84 true [.int .i64,.int .i64]:=zHu (by kernel_rfl) (by kernel_rfl) (by kernel_rfl) (by kernel_rfl)
theorem zA9:∀ a b:zJ,zD a=zD b→a=b:=by
  intro a b h
  cases a;cases b;simpa [zD,zFY] using h
theorem zKs:zAO prog 84 [.int .i64,.int .i64]:=zIj zFw (by kernel_rfl) (by kernel_rfl)
theorem zMH:kI prog 23 true [.int .i64,.str,.int .i64]:=zHu (by kernel_rfl) (by kernel_rfl) (by kernel_rfl) (by kernel_rfl)
theorem j7:∀ a b:zC,xI a=xI b→a=b:=by
  intro a b h
  cases a;cases b;simpa [xI,wX] using h
theorem zDi:zAO prog 23 [.int .i64,.str,.int .i64]:=zIj zMH (by kernel_rfl) (by kernel_rfl)
theorem zCt (s_1:List Int) (c_1:Int) (r:Int) (h:jC s_1 c_1=some r):zS prog 95 [] [] [.str s_1,Iu c_1] [] (Ii r):=by
 refine yD (fn:=Go.Proofs.Try.f95) (code:=y5 Go.Proofs.Try.f95) (by kernel_rfl) (by kernel_rfl) (Nat.le_of_ble_eq_true (by kernel_rfl)) ?_
 unfold jC at h
 refine sr [] [0,1] [] 0 [.str s_1,Iu c_1] [] zF an ?_
 refine sr [] [4] [] 0 [Ii (uH s_1 c_1)] [] zF (ac (zNI:zGA prog 101) an) ?_
 refine rt ?_
 cases h
 exact ⟨.inr rfl,Nat.le_of_ble_eq_true rfl,by kernel_rfl⟩
theorem w9 (s_1:List Int) (c_1:Int) (r:Int) (h:wP s_1 c_1=some r):zS prog 76 [] [] [.str s_1,Iu c_1] [] (Ii r):=by
 refine yD (fn:=Go.Proofs.Try.f76) (code:=y5 Go.Proofs.Try.f76) (by kernel_rfl) (by kernel_rfl) (Nat.le_of_ble_eq_true (by kernel_rfl)) ?_
 unfold wP at h
 refine sr [] [0,1] [] 0 [.str s_1,Iu c_1] [] zF an ?_
 refine sq ?_
 obtain ⟨r_1,h_1,h⟩:=bind_some h
 refine rg [(2,{ av:=Ii r_1,l:=[.str s_1,Iu c_1] })] [4] [] 0 [Ii r_1] [] zF (ar ([.str s_1,Iu c_1]:List AV) (ac (rfl:([]:List zU)=[]) (ac (zCt s_1 c_1 r_1 h_1:zS prog 95 [] [] [.str s_1,Iu c_1] [] (Ii r_1)) an))) ?_
 refine rt ?_
 cases h
 exact ⟨.inr rfl,Nat.le_of_ble_eq_true rfl,by kernel_rfl⟩
theorem zFf (c_1:Int) (r:Bool) (h:nF c_1=some r):zS prog 46 [] [] [Iu c_1] [] (.bool r):=by
 refine yD (fn:=Go.Proofs.Try.f46) (code:=y5 Go.Proofs.Try.f46) (by kernel_rfl) (by kernel_rfl) (Nat.le_of_ble_eq_true (by kernel_rfl)) ?_
 unfold nF at h
 refine sr [] [0] [] 0 [Iu c_1] [] zF an ?_
 refine sq ?_
 obtain ⟨p_1,h_2,h⟩:=bind_some h
 refine yV (mk [(2,.bool p_1)] [] 0) ?_ ?_
 ·replace h:=h_2
  rcases bft (decide (c_1≥(97:Int))) with zX | zX
  ·replace h:=zV zX h
   rcases bft (decide (c_1≤(122:Int))) with zQ | zQ
   ·replace h:=zV zQ h
    refine rg [(5,Ht),(7,Hg),(8,Hg),(9,Hg),(12,Hg),(13,Ht),(15,Hg),(16,Hg),(17,Hg),(20,Hg),(21,Ht),(23,Hg),(24,Hg),(25,Hg),(26,Ht)] [2] [] 0 [.bool true] [] zF (ac zX (ac zX (ac zX (ac zQ (ac zQ (ac zQ (ac zQ (ac zQ (ax (ax (ax (ax (ar true (ax (ax (ax (ar true an))))))))))))))))) ?_
    cases h
    exact ⟨rfl,(sw [] [] [.s 2] [] an)⟩
   ·replace h:=zW zQ h
    rcases bft (decide (c_1≥(65:Int))) with zY | zY
    ·replace h:=zV zY h
     rcases bft (decide (c_1≤(90:Int))) with z8 | z8
     ·replace h:=zV z8 h
      refine rg [(5,Ht),(12,Ht),(13,Hf),(15,Hg),(16,Hg),(17,Hg),(20,Hg),(21,Ht),(23,Hg),(24,Hg),(25,Hg),(26,Ht)] [2] [] 0 [.bool true] [] zF (ac zX (ac zX (ac zX (ac zQ (ac zQ (ac zQ (ac zY (ac zY (ac zQ (ac zY (ac zQ (ac z8 (ac z8 (ac z8 (ac z8 (ac z8 (ax (ax (ax (ar true an)))))))))))))))))))) ?_
      cases h
      exact ⟨rfl,(sw [] [] [.s 2] [] an)⟩
     ·replace h:=zW z8 h
      rcases bft (decide (c_1≥(48:Int))) with yB | yB
      ·replace h:=zV yB h
       rcases bft (decide (c_1≤(57:Int))) with zZ | zZ
       ·replace h:=zV zZ h
        refine rg [(5,Ht),(12,Ht),(13,Hf),(20,Ht),(21,Hf),(23,Hg),(24,Hg),(25,Hg),(26,Ht)] [2] [] 0 [.bool true] [] zF (ac zX (ac zX (ac zX (ac zQ (ac zQ (ac zQ (ac zY (ac zY (ac zQ (ac zY (ac zQ (ac z8 (ac z8 (ac z8 (ac yB (ac yB (ac z8 (ac yB (ac z8 (ac zZ (ac zZ (ac zZ (ac zZ an))))))))))))))))))))))) ?_
        cases h
        exact ⟨rfl,(sw [] [] [.s 2] [] an)⟩
       ·replace h:=zW zZ h
        obtain ⟨r_1,h_1,h⟩:=bind_some h
        refine rg [(5,Ht),(12,Ht),(13,Hf),(20,Ht),(21,Hf),(24,{ av:=Ii r_1,l:=[.str ([95,46,58,47,60,62,36,42,126,45]:List Int),Iu c_1] }),(26,Hf)] [2] [] 0 [.bool (decide (r_1≥(0:Int)))] [] zF (ac zX (ac zX (ac zX (ac zQ (ac zQ (ac zQ (ac zY (ac zY (ac zQ (ac zY (ac zQ (ac z8 (ac z8 (ac z8 (ac yB (ac yB (ac z8 (ac yB (ac z8 (ac zZ (ac zZ (ar ([.str ([95,46,58,47,60,62,36,42,126,45]:List Int),Iu c_1]:List AV) (ac (rfl:([]:List zU)=[]) (ac (w9 ([95,46,58,47,60,62,36,42,126,45]:List Int) c_1 r_1 h_1:zS prog 76 [] [] [.str ([95,46,58,47,60,62,36,42,126,45]:List Int),Iu c_1] [] (Ii r_1)) (ac zZ (ac zZ an)))))))))))))))))))))))))) ?_
        cases h
        exact ⟨rfl,(sw [] [] [.s 2] [] an)⟩
      ·replace h:=zW yB h
       obtain ⟨r_1,h_1,h⟩:=bind_some h
       refine rg [(5,Ht),(12,Ht),(13,Hf),(18,Hg),(19,Hg),(20,Hf),(21,Hf),(24,{ av:=Ii r_1,l:=[.str ([95,46,58,47,60,62,36,42,126,45]:List Int),Iu c_1] }),(26,Hf)] [2] [] 0 [.bool (decide (r_1≥(0:Int)))] [] zF (ac zX (ac zX (ac zX (ac zQ (ac zQ (ac zQ (ac zY (ac zY (ac zQ (ac zY (ac zQ (ac z8 (ac z8 (ac z8 (ac yB (ac yB (ac z8 (ac yB (ac z8 (ar false (ar false (ar ([.str ([95,46,58,47,60,62,36,42,126,45]:List Int),Iu c_1]:List AV) (ac (rfl:([]:List zU)=[]) (ac (w9 ([95,46,58,47,60,62,36,42,126,45]:List Int) c_1 r_1 h_1:zS prog 76 [] [] [.str ([95,46,58,47,60,62,36,42,126,45]:List Int),Iu c_1] [] (Ii r_1)) (ar false (ar false an)))))))))))))))))))))))))) ?_
       cases h
       exact ⟨rfl,(sw [] [] [.s 2] [] an)⟩
    ·replace h:=zW zY h
     rcases bft (decide (c_1≥(48:Int))) with yC | yC
     ·replace h:=zV yC h
      rcases bft (decide (c_1≤(57:Int))) with z9 | z9
      ·replace h:=zV z9 h
       refine rg [(5,Ht),(10,Hg),(11,Hg),(12,Hf),(13,Hf),(20,Ht),(21,Hf),(23,Hg),(24,Hg),(25,Hg),(26,Ht)] [2] [] 0 [.bool true] [] zF (ac zX (ac zX (ac zX (ac zQ (ac zQ (ac zQ (ac zY (ac zY (ac zQ (ac zY (ac zQ (ar false (ar false (ar false (ac yC (ac yC (ar false (ac yC (ar false (ac z9 (ac z9 (ac z9 (ac z9 an))))))))))))))))))))))) ?_
       cases h
       exact ⟨rfl,(sw [] [] [.s 2] [] an)⟩
      ·replace h:=zW z9 h
       obtain ⟨r_1,h_1,h⟩:=bind_some h
       refine rg [(5,Ht),(10,Hg),(11,Hg),(12,Hf),(13,Hf),(20,Ht),(21,Hf),(24,{ av:=Ii r_1,l:=[.str ([95,46,58,47,60,62,36,42,126,45]:List Int),Iu c_1] }),(26,Hf)] [2] [] 0 [.bool (decide (r_1≥(0:Int)))] [] zF (ac zX (ac zX (ac zX (ac zQ (ac zQ (ac zQ (ac zY (ac zY (ac zQ (ac zY (ac zQ (ar false (ar false (ar false (ac yC (ac yC (ar false (ac yC (ar false (ac z9 (ac z9 (ar ([.str ([95,46,58,47,60,62,36,42,126,45]:List Int),Iu c_1]:List AV) (ac (rfl:([]:List zU)=[]) (ac (w9 ([95,46,58,47,60,62,36,42,126,45]:List Int) c_1 r_1 h_1:zS prog 76 [] [] [.str ([95,46,58,47,60,62,36,42,126,45]:List Int),Iu c_1] [] (Ii r_1)) (ac z9 (ac z9 an)))))))))))))))))))))))))) ?_
       cases h
       exact ⟨rfl,(sw [] [] [.s 2] [] an)⟩
     ·replace h:=zW yC h
      obtain ⟨r_1,h_1,h⟩:=bind_some h
      refine rg [(5,Ht),(10,Hg),(11,Hg),(12,Hf),(13,Hf),(18,Hg),(19,Hg),(20,Hf),(21,Hf),(24,{ av:=Ii r_1,l:=[.str ([95,46,58,47,60,62,36,42,126,45]:List Int),Iu c_1] }),(26,Hf)] [2] [] 0 [.bool (decide (r_1≥(0:Int)))] [] zF (ac zX (ac zX (ac zX (ac zQ (ac zQ (ac zQ (ac zY (ac zY (ac zQ (ac zY (ac zQ (ar false (ar false (ar false (ac yC (ac yC (ar false (ac yC (ar false (ar false (ar false (ar ([.str ([95,46,58,47,60,62,36,42,126,45]:List Int),Iu c_1]:List AV) (ac (rfl:([]:List zU)=[]) (ac (w9 ([95,46,58,47,60,62,36,42,126,45]:List Int) c_1 r_1 h_1:zS prog 76 [] [] [.str ([95,46,58,47,60,62,36,42,126,45]:List Int),Iu c_1] [] (Ii r_1)) (ar false (ar false an)))))))))))))))))))))))))) ?_
      cases h
      exact ⟨rfl,(sw [] [] [.s 2] [] an)⟩
  ·replace h:=zW zX h
   rcases bft (decide (c_1≥(65:Int))) with yE | yE
   ·replace h:=zV yE h
    rcases bft (decide (c_1≤(90:Int))) with z5 | z5
    ·replace h:=zV z5 h
     refine rg [(3,Hg),(4,Hg),(5,Hf),(12,Ht),(13,Hf),(15,Hg),(16,Hg),(17,Hg),(20,Hg),(21,Ht),(23,Hg),(24,Hg),(25,Hg),(26,Ht)] [2] [] 0 [.bool true] [] zF (ac zX (ac zX (ac zX (ar false (ar false (ar false (ac yE (ac yE (ar false (ac yE (ar false (ac z5 (ac z5 (ac z5 (ac z5 (ac z5 (ax (ax (ax (ar true an)))))))))))))))))))) ?_
     cases h
     exact ⟨rfl,(sw [] [] [.s 2] [] an)⟩
    ·replace h:=zW z5 h
     rcases bft (decide (c_1≥(48:Int))) with yF | yF
     ·replace h:=zV yF h
      rcases bft (decide (c_1≤(57:Int))) with yM | yM
      ·replace h:=zV yM h
       refine rg [(3,Hg),(4,Hg),(5,Hf),(12,Ht),(13,Hf),(20,Ht),(21,Hf),(23,Hg),(24,Hg),(25,Hg),(26,Ht)] [2] [] 0 [.bool true] [] zF (ac zX (ac zX (ac zX (ar false (ar false (ar false (ac yE (ac yE (ar false (ac yE (ar false (ac z5 (ac z5 (ac z5 (ac yF (ac yF (ac z5 (ac yF (ac z5 (ac yM (ac yM (ac yM (ac yM an))))))))))))))))))))))) ?_
       cases h
       exact ⟨rfl,(sw [] [] [.s 2] [] an)⟩
      ·replace h:=zW yM h
       obtain ⟨r_1,h_1,h⟩:=bind_some h
       refine rg [(3,Hg),(4,Hg),(5,Hf),(12,Ht),(13,Hf),(20,Ht),(21,Hf),(24,{ av:=Ii r_1,l:=[.str ([95,46,58,47,60,62,36,42,126,45]:List Int),Iu c_1] }),(26,Hf)] [2] [] 0 [.bool (decide (r_1≥(0:Int)))] [] zF (ac zX (ac zX (ac zX (ar false (ar false (ar false (ac yE (ac yE (ar false (ac yE (ar false (ac z5 (ac z5 (ac z5 (ac yF (ac yF (ac z5 (ac yF (ac z5 (ac yM (ac yM (ar ([.str ([95,46,58,47,60,62,36,42,126,45]:List Int),Iu c_1]:List AV) (ac (rfl:([]:List zU)=[]) (ac (w9 ([95,46,58,47,60,62,36,42,126,45]:List Int) c_1 r_1 h_1:zS prog 76 [] [] [.str ([95,46,58,47,60,62,36,42,126,45]:List Int),Iu c_1] [] (Ii r_1)) (ac yM (ac yM an)))))))))))))))))))))))))) ?_
       cases h
       exact ⟨rfl,(sw [] [] [.s 2] [] an)⟩
     ·replace h:=zW yF h
      obtain ⟨r_1,h_1,h⟩:=bind_some h
      refine rg [(3,Hg),(4,Hg),(5,Hf),(12,Ht),(13,Hf),(18,Hg),(19,Hg),(20,Hf),(21,Hf),(24,{ av:=Ii r_1,l:=[.str ([95,46,58,47,60,62,36,42,126,45]:List Int),Iu c_1] }),(26,Hf)] [2] [] 0 [.bool (decide (r_1≥(0:Int)))] [] zF (ac zX (ac zX (ac zX (ar false (ar false (ar false (ac yE (ac yE (ar false (ac yE (ar false (ac z5 (ac z5 (ac z5 (ac yF (ac yF (ac z5 (ac yF (ac z5 (ar false (ar false (ar ([.str ([95,46,58,47,60,62,36,42,126,45]:List Int),Iu c_1]:List AV) (ac (rfl:([]:List zU)=[]) (ac (w9 ([95,46,58,47,60,62,36,42,126,45]:List Int) c_1 r_1 h_1:zS prog 76 [] [] [.str ([95,46,58,47,60,62,36,42,126,45]:List Int),Iu c_1] [] (Ii r_1)) (ar false (ar false an)))))))))))))))))))))))))) ?_
      cases h
      exact ⟨rfl,(sw [] [] [.s 2] [] an)⟩
   ·replace h:=zW yE h
    rcases bft (decide (c_1≥(48:Int))) with y8 | y8
    ·replace h:=zV y8 h
     rcases bft (decide (c_1≤(57:Int))) with xX | xX
     ·replace h:=zV xX h
      refine rg [(3,Hg),(4,Hg),(5,Hf),(10,Hg),(11,Hg),(12,Hf),(13,Hf),(20,Ht),(21,Hf),(23,Hg),(24,Hg),(25,Hg),(26,Ht)] [2] [] 0 [.bool true] [] zF (ac zX (ac zX (ac zX (ar false (ar false (ar false (ac yE (ac yE (ar false (ac yE (ar false (ar false (ar false (ar false (ac y8 (ac y8 (ar false (ac y8 (ar false (ac xX (ac xX (ac xX (ac xX an))))))))))))))))))))))) ?_
      cases h
      exact ⟨rfl,(sw [] [] [.s 2] [] an)⟩
     ·replace h:=zW xX h
      obtain ⟨r_1,h_1,h⟩:=bind_some h
      refine rg [(3,Hg),(4,Hg),(5,Hf),(10,Hg),(11,Hg),(12,Hf),(13,Hf),(20,Ht),(21,Hf),(24,{ av:=Ii r_1,l:=[.str ([95,46,58,47,60,62,36,42,126,45]:List Int),Iu c_1] }),(26,Hf)] [2] [] 0 [.bool (decide (r_1≥(0:Int)))] [] zF (ac zX (ac zX (ac zX (ar false (ar false (ar false (ac yE (ac yE (ar false (ac yE (ar false (ar false (ar false (ar false (ac y8 (ac y8 (ar false (ac y8 (ar false (ac xX (ac xX (ar ([.str ([95,46,58,47,60,62,36,42,126,45]:List Int),Iu c_1]:List AV) (ac (rfl:([]:List zU)=[]) (ac (w9 ([95,46,58,47,60,62,36,42,126,45]:List Int) c_1 r_1 h_1:zS prog 76 [] [] [.str ([95,46,58,47,60,62,36,42,126,45]:List Int),Iu c_1] [] (Ii r_1)) (ac xX (ac xX an)))))))))))))))))))))))))) ?_
      cases h
      exact ⟨rfl,(sw [] [] [.s 2] [] an)⟩
    ·replace h:=zW y8 h
     obtain ⟨r_1,h_1,h⟩:=bind_some h
     refine rg [(3,Hg),(4,Hg),(5,Hf),(10,Hg),(11,Hg),(12,Hf),(13,Hf),(18,Hg),(19,Hg),(20,Hf),(21,Hf),(24,{ av:=Ii r_1,l:=[.str ([95,46,58,47,60,62,36,42,126,45]:List Int),Iu c_1] }),(26,Hf)] [2] [] 0 [.bool (decide (r_1≥(0:Int)))] [] zF (ac zX (ac zX (ac zX (ar false (ar false (ar false (ac yE (ac yE (ar false (ac yE (ar false (ar false (ar false (ar false (ac y8 (ac y8 (ar false (ac y8 (ar false (ar false (ar false (ar ([.str ([95,46,58,47,60,62,36,42,126,45]:List Int),Iu c_1]:List AV) (ac (rfl:([]:List zU)=[]) (ac (w9 ([95,46,58,47,60,62,36,42,126,45]:List Int) c_1 r_1 h_1:zS prog 76 [] [] [.str ([95,46,58,47,60,62,36,42,126,45]:List Int),Iu c_1] [] (Ii r_1)) (ar false (ar false an)))))))))))))))))))))))))) ?_
     cases h
     exact ⟨rfl,(sw [] [] [.s 2] [] an)⟩
 refine rt ?_
 cases h
 exact ⟨.inr rfl,Nat.le_of_ble_eq_true rfl,by kernel_rfl⟩
theorem pL (F:Nat) (s_1:List Int) (r:Int) (h:qU F s_1=some r):zS prog 29 [] [] [.str s_1] [] (Ii r):=by
 refine yD (fn:=Go.Proofs.Try.f29) (code:=y5 Go.Proofs.Try.f29) (by kernel_rfl) (by kernel_rfl) (Nat.le_of_ble_eq_true (by kernel_rfl)) ?_
 unfold qU at h
 refine sr [] [0] [] 0 [.str s_1] [] zF an ?_
 refine sq ?_
 refine sq ?_
 refine yV (mk [(0,.str s_1),(10,.bool ((s_1==([]:List Int))||decide ((lN (s_1))>(40:Int))))] [] 0) ?_ ?_
 ·rcases bft (s_1==([]:List Int)) with zX | zX
  ·refine rg [(3,Hg),(4,Hg),(5,Hg),(6,Ht)] [0,10] [] 0 [.str s_1,.bool true] [] zF (ac zX (ac zX (ac zX (ac zX an)))) ?_
   exact ⟨rfl,(sw [] [] [.s 0,.a 10 (.bool ((s_1==([]:List Int))||decide ((lN (s_1))>(40:Int))))] [] (ac (congrArg AV.bool (ort zX):(.bool true:AV)=.bool ((s_1==([]:List Int))||decide ((lN (s_1))>(40:Int)))) an))⟩
  ·refine rg [(6,Hf)] [0,10] [] 0 [.str s_1,.bool (decide ((lN (s_1))>(40:Int)))] [] zF (ac zX (ac zX (ac zX (ac zX an)))) ?_
   exact ⟨rfl,(sw [] [] [.s 0,.a 10 (.bool ((s_1==([]:List Int))||decide ((lN (s_1))>(40:Int))))] [] (ac (congrArg AV.bool (orf zX rfl):(.bool (decide ((lN (s_1))>(40:Int))):AV)=.bool ((s_1==([]:List Int))||decide ((lN (s_1))>(40:Int)))) an))⟩
 refine cd 10 ((s_1==([]:List Int))||decide ((lN (s_1))>(40:Int))) ?_ ?_
 ·intro g_1;replace h:=zV g_1 h
  refine sr [] [2] [] 0 [Ii 3] [] zF an ?_
  refine rt ?_
  cases h
  exact ⟨.inr rfl,Nat.le_of_ble_eq_true rfl,by kernel_rfl⟩
 intro g_1;replace h:=zW g_1 h
 refine sk ?_
 refine sq ?_
 refine sr [] [0,12,13] [] 0 [.str s_1,Ii (lN (s_1)),Ii 0] [] zF an ?_
 obtain ⟨o_1,h_1,h⟩:=bind_some h
 refine vL (K1:=(fun e st'=>match o_1 with | (.inl q0)=>e=.normal∧Sub 0 st' (mk [] [] 0) | (.inr q1)=>e=.ret∧kB prog Go.Proofs.Try.f29 0 [] (Ii q1) st')) ?_ ?_
 ·replace h:=h_1
  refine yN (id:=0) (by kernel_rfl) ?_
  refine wk [] [] [.s 0,.s 12,.s 13] [] [(0,.str s_1),(12,Ii (lN (s_1))),(13,Ii 0)] [] an ?_
  refine wH (fun n st=>∃ (v_1:Int),st=mk [(0,.str s_1),(12,Ii (lN (s_1))),(13,Ii v_1)] [] 0∧pM F s_1 n v_1=some o_1) F (by kernel_rfl) ⟨_,rfl,h⟩ ?_ ?_
  ·rintro _ ⟨_,_,h⟩;exact w5 (h:(none:Option (Unit⊕Int))=some o_1)
  rintro n_1 _ ⟨v_1,rfl,h⟩
  replace h:qJ F s_1 (pM F s_1 n_1) v_1=some o_1:=h
  unfold qJ at h
  refine sr [] [0,12,13,14] [] 0 [.str s_1,Ii (lN (s_1)),Ii v_1,.bool (decide (v_1<(lN (s_1))))] [] zF an ?_
  refine sq ?_
  refine cd 14 (decide (v_1<(lN (s_1)))) ?_ ?_
  rotate_left
  ·intro g_2;replace h:=zW g_2 h
   refine wS (id:=0) (by kernel_rfl) ?_
   cases h
   exact ⟨rfl,(sw [] [] [] [] an)⟩
  intro g_2;replace h:=zV g_2 h
  refine sk ?_
  refine sq ?_
  refine yN (id:=1) (by kernel_rfl) ?_
  refine sr [] [0,3,12,13] [] 0 [.str s_1,Ii v_1,Ii (lN (s_1)),Ii v_1] [] zF an ?_
  refine sq ?_
  obtain ⟨c_1,h_2,h⟩:=bind_some h
  obtain ⟨r_1,h_3,h⟩:=bind_some h
  refine rg [(2,{ z:=c_1 }),(3,{ av:=.bool r_1,l:=[Iu c_1] })] [0,12,13,20] [] 0 [.str s_1,Ii (lN (s_1)),Ii v_1,.bool (!r_1)] [] zF (ac h_2 (ar ([Iu c_1]:List AV) (ac (rfl:([]:List zU)=[]) (ac (zFf c_1 r_1 h_3:zS prog 46 [] [] [Iu c_1] [] (.bool r_1)) an)))) ?_
  refine cd 20 (!r_1) ?_ ?_
  rotate_left
  ·intro g_3;replace h:=zW g_3 h
   refine sk ?_
   refine rg [] [0,12,13] [] 0 [.str s_1,Ii (lN (s_1)),Ii (zG (v_1+(1:Int)))] [] zF an ?_
   exact ⟨_,(sw [] [] [.s 0,.s 12,.s 13] [] an),_,rfl,h⟩
  intro g_3;replace h:=zV g_3 h
  refine sr [] [2] [] 0 [Ii 3] [] zF an ?_
  refine rt ?_
  cases h
  exact ⟨rfl,Nat.le_of_ble_eq_true rfl,by kernel_rfl⟩
 intro e st1 hk
 rcases o_1 with q_1 | q_2
 rotate_left
 ·obtain ⟨rfl,hf⟩:=hk
  cases h
  exact ⟨st1,Sub.refl _ _,.inr rfl,hf⟩
 obtain ⟨rfl,hs⟩:=hk
 refine ⟨_,hs,?_⟩
 refine sr [] [2] [] 0 [Ii 0] [] zF an ?_
 refine rt ?_
 cases h
 exact ⟨.inr rfl,Nat.le_of_ble_eq_true rfl,by kernel_rfl⟩
theorem zBY (F:Nat) (t_1:zC) (r:Int) (h:jE F t_1=some r):zS prog 11 [] [] [xI t_1] [] (Ii r):=by
 refine yD (fn:=Go.Proofs.Try.f11) (code:=y5 Go.Proofs.Try.f11) (by kernel_rfl) (by kernel_rfl) (Nat.le_of_ble_eq_true (by kernel_rfl)) ?_
 unfold jE at h
 refine sr [(0,{ id:=0 })] [1] [0] 1 [Pp 0] [Vb 23 (wX t_1)] zF an ?_
 refine sq ?_
 refine sq ?_
 refine yV (mk [(1,Pp 0),(20,.bool (decide (t_1.Id<(0:Int))||(decide (t_1.Id>(1000000000000000:Int))||(decide (t_1.Domain<(0:Int))||decide (t_1.Domain≥(8:Int))))))] [(0,Vb 23 (wX t_1))] 1) ?_ ?_
 ·rcases bft (decide (t_1.Id<(0:Int))) with zX | zX
  ·refine rg [(4,Hg),(5,Hg),(6,Hg),(7,Ht),(9,Hg),(10,Hg),(11,Hg),(12,Ht),(14,Hg),(15,Hg),(16,Hg),(17,Ht)] [1,20] [0] 1 [Pp 0,.bool true] [Vb 23 (wX t_1)] zF (ac zX (ac zX (ac zX (ac zX (ax (ax (ax (ar true (ax (ax (ax (ar true an)))))))))))) ?_
   exact ⟨rfl,(sw [0] [] [.s 1,.a 20 (.bool (decide (t_1.Id<(0:Int))||(decide (t_1.Id>(1000000000000000:Int))||(decide (t_1.Domain<(0:Int))||decide (t_1.Domain≥(8:Int))))))] [.s 0] (ac (congrArg AV.bool (ort zX):(.bool true:AV)=.bool (decide (t_1.Id<(0:Int))||(decide (t_1.Id>(1000000000000000:Int))||(decide (t_1.Domain<(0:Int))||decide (t_1.Domain≥(8:Int)))))) an))⟩
  ·rcases bft (decide (t_1.Id>(1000000000000000:Int))) with zQ | zQ
   ·refine rg [(7,Hf),(9,Hg),(10,Hg),(11,Hg),(12,Ht),(14,Hg),(15,Hg),(16,Hg),(17,Ht)] [1,20] [0] 1 [Pp 0,.bool true] [Vb 23 (wX t_1)] zF (ac zX (ac zX (ac zX (ac zX (ac zQ (ac zQ (ac zQ (ac zQ (ax (ax (ax (ar true an)))))))))))) ?_
    exact ⟨rfl,(sw [0] [] [.s 1,.a 20 (.bool (decide (t_1.Id<(0:Int))||(decide (t_1.Id>(1000000000000000:Int))||(decide (t_1.Domain<(0:Int))||decide (t_1.Domain≥(8:Int))))))] [.s 0] (ac (congrArg AV.bool (orf zX (ort zQ)):(.bool true:AV)=.bool (decide (t_1.Id<(0:Int))||(decide (t_1.Id>(1000000000000000:Int))||(decide (t_1.Domain<(0:Int))||decide (t_1.Domain≥(8:Int)))))) an))⟩
   ·rcases bft (decide (t_1.Domain<(0:Int))) with zY | zY
    ·refine rg [(7,Hf),(12,Hf),(14,Hg),(15,Hg),(16,Hg),(17,Ht)] [1,20] [0] 1 [Pp 0,.bool true] [Vb 23 (wX t_1)] zF (ac zX (ac zX (ac zX (ac zX (ac zQ (ac zQ (ac zQ (ac zQ (ac zY (ac zY (ac zY (ac zY an)))))))))))) ?_
     exact ⟨rfl,(sw [0] [] [.s 1,.a 20 (.bool (decide (t_1.Id<(0:Int))||(decide (t_1.Id>(1000000000000000:Int))||(decide (t_1.Domain<(0:Int))||decide (t_1.Domain≥(8:Int))))))] [.s 0] (ac (congrArg AV.bool (orf zX (orf zQ (ort zY))):(.bool true:AV)=.bool (decide (t_1.Id<(0:Int))||(decide (t_1.Id>(1000000000000000:Int))||(decide (t_1.Domain<(0:Int))||decide (t_1.Domain≥(8:Int)))))) an))⟩
    ·refine rg [(7,Hf),(12,Hf),(17,Hf)] [1,20] [0] 1 [Pp 0,.bool (decide (t_1.Domain≥(8:Int)))] [Vb 23 (wX t_1)] zF (ac zX (ac zX (ac zX (ac zX (ac zQ (ac zQ (ac zQ (ac zQ (ac zY (ac zY (ac zY (ac zY an)))))))))))) ?_
     exact ⟨rfl,(sw [0] [] [.s 1,.a 20 (.bool (decide (t_1.Id<(0:Int))||(decide (t_1.Id>(1000000000000000:Int))||(decide (t_1.Domain<(0:Int))||decide (t_1.Domain≥(8:Int))))))] [.s 0] (ac (congrArg AV.bool (orf zX (orf zQ (orf zY rfl))):(.bool (decide (t_1.Domain≥(8:Int))):AV)=.bool (decide (t_1.Id<(0:Int))||(decide (t_1.Id>(1000000000000000:Int))||(decide (t_1.Domain<(0:Int))||decide (t_1.Domain≥(8:Int)))))) an))⟩
 refine cd 20 (decide (t_1.Id<(0:Int))||(decide (t_1.Id>(1000000000000000:Int))||(decide (t_1.Domain<(0:Int))||decide (t_1.Domain≥(8:Int))))) ?_ ?_
 ·intro g_1;replace h:=zV g_1 h
  refine sr [] [2] [] 1 [Ii 2] [] zF an ?_
  refine rt ?_
  cases h
  exact ⟨.inr rfl,Nat.le_of_ble_eq_true rfl,by kernel_rfl⟩
 intro g_1;replace h:=zW g_1 h
 refine sk ?_
 refine sq ?_
 obtain ⟨r_1,h_1,h⟩:=bind_some h
 refine rg [(2,{ av:=Ii r_1,l:=[.str t_1.Name] })] [2] [] 1 [Ii r_1] [] zF (ar ([.str t_1.Name]:List AV) (ac (rfl:([]:List zU)=[]) (ac (pL F t_1.Name r_1 h_1:zS prog 29 [] [] [.str t_1.Name] [] (Ii r_1)) an))) ?_
 refine rt ?_
 cases h
 exact ⟨.inr rfl,Nat.le_of_ble_eq_true rfl,by kernel_rfl⟩
theorem zJL (yA:Int) (p_1:Int) (r:zB×Int) (h:zDP yA p_1=some r):zS prog 27 [] [] [Ii yA,Ii p_1] [] (.tuple [z6 r.1,Ii r.2]):=by
 refine yD (fn:=Go.Proofs.Try.f27) (code:=y5 Go.Proofs.Try.f27) (by kernel_rfl) (by kernel_rfl) (Nat.le_of_ble_eq_true (by kernel_rfl)) ?_
 unfold zDP at h
 refine sr [(0,{ id:=0 })] [0,1,4] [0] 1 [Ii yA,Ii p_1,Pp 0] [Vb 30 [Ii 0,.nilsl,Ii 0,Ii 0,Ii 0,Ii 0]] zF an ?_
 refine sq ?_
 refine yN (id:=0) (by kernel_rfl) ?_
 refine sq ?_
 refine yV (mk [(0,Ii yA),(1,Ii p_1),(4,Pp 0),(6,.bool (decide (yA<(16:Int))||decide (yA>(65536:Int))))] [(0,Vb 30 [Ii 0,.nilsl,Ii 0,Ii 0,Ii 0,Ii 0])] 1) ?_ ?_
 ·rcases bft (decide (yA<(16:Int))) with zX | zX
  ·refine rg [(3,Hg),(4,Hg),(5,Ht)] [0,1,4,6] [0] 1 [Ii yA,Ii p_1,Pp 0,.bool true] [Vb 30 [Ii 0,.nilsl,Ii 0,Ii 0,Ii 0,Ii 0]] zF (ac zX (ac zX (ac zX an))) ?_
   exact ⟨rfl,(sw [0] [] [.s 0,.s 1,.s 4,.a 6 (.bool (decide (yA<(16:Int))||decide (yA>(65536:Int))))] [.s 0] (ac (congrArg AV.bool (ort zX):(.bool true:AV)=.bool (decide (yA<(16:Int))||decide (yA>(65536:Int)))) an))⟩
  ·refine rg [(5,Hf)] [0,1,4,6] [0] 1 [Ii yA,Ii p_1,Pp 0,.bool (decide (yA>(65536:Int)))] [Vb 30 [Ii 0,.nilsl,Ii 0,Ii 0,Ii 0,Ii 0]] zF (ac zX (ac zX (ac zX an))) ?_
   exact ⟨rfl,(sw [0] [] [.s 0,.s 1,.s 4,.a 6 (.bool (decide (yA<(16:Int))||decide (yA>(65536:Int))))] [.s 0] (ac (congrArg AV.bool (orf zX rfl):(.bool (decide (yA>(65536:Int))):AV)=.bool (decide (yA<(16:Int))||decide (yA>(65536:Int)))) an))⟩
 refine cd 6 (decide (yA<(16:Int))||decide (yA>(65536:Int))) ?_ ?_
 ·intro g_1;replace h:=zV g_1 h
  refine sr [] [4,5] [0] 1 [Pp 0,Ii 2] [Vb 30 [Ii 0,.nilsl,Ii 0,Ii 0,Ii 0,Ii 0]] zF an ?_
  refine wk [0] [] [.s 4,.s 5] [.a 0 (Vb 30 (zP (⟨(0:Int),[],(0:Int),(0:Int),(0:Int),(0:Int)⟩:zB)))] [(4,Pp 0),(5,Ii 2)] [(0,Vb 30 (zP (⟨(0:Int),[],(0:Int),(0:Int),(0:Int),(0:Int)⟩:zB)))] (ar 30 (ac (rfl:vI [Ii ((⟨(0:Int),[],(0:Int),(0:Int),(0:Int),(0:Int)⟩:zB).Policy),.sl false 1 (Mb ((⟨(0:Int),[],(0:Int),(0:Int),(0:Int),(0:Int)⟩:zB).Data)),Ii ((⟨(0:Int),[],(0:Int),(0:Int),(0:Int),(0:Int)⟩:zB).Start),Ii ((⟨(0:Int),[],(0:Int),(0:Int),(0:Int),(0:Int)⟩:zB).End),Ii ((⟨(0:Int),[],(0:Int),(0:Int),(0:Int),(0:Int)⟩:zB).First),Ii ((⟨(0:Int),[],(0:Int),(0:Int),(0:Int),(0:Int)⟩:zB).Next)]=true) (ac (rfl:(Ii 0:AV)=Ii ((⟨(0:Int),[],(0:Int),(0:Int),(0:Int),(0:Int)⟩:zB).Policy)) (ac (rfl:((Mb ((⟨(0:Int),[],(0:Int),(0:Int),(0:Int),(0:Int)⟩:zB).Data)):List AV)=[]) (ac (rfl:(Ii 0:AV)=Ii ((⟨(0:Int),[],(0:Int),(0:Int),(0:Int),(0:Int)⟩:zB).Start)) (ac (rfl:(Ii 0:AV)=Ii ((⟨(0:Int),[],(0:Int),(0:Int),(0:Int),(0:Int)⟩:zB).End)) (ac (rfl:(Ii 0:AV)=Ii ((⟨(0:Int),[],(0:Int),(0:Int),(0:Int),(0:Int)⟩:zB).First)) (ac (rfl:(Ii 0:AV)=Ii ((⟨(0:Int),[],(0:Int),(0:Int),(0:Int),(0:Int)⟩:zB).Next)) an)))))))) ?_
  refine rt ?_
  cases h
  exact ⟨.inr rfl,Nat.le_of_ble_eq_true rfl,by kernel_rfl⟩
 intro g_1;replace h:=zW g_1 h
 refine sq ?_
 refine yV (mk [(0,Ii yA),(1,Ii p_1),(4,Pp 0),(14,.bool ((p_1 != (1:Int))&&(p_1 != (2:Int))))] [(0,Vb 30 [Ii 0,.nilsl,Ii 0,Ii 0,Ii 0,Ii 0])] 1) ?_ ?_
 ·rcases bft (p_1 != (1:Int)) with zQ | zQ
  ·refine rg [(5,Ht)] [0,1,4,14] [0] 1 [Ii yA,Ii p_1,Pp 0,.bool (p_1 != (2:Int))] [Vb 30 [Ii 0,.nilsl,Ii 0,Ii 0,Ii 0,Ii 0]] zF (ac zQ (ac zQ (ac zQ an))) ?_
   exact ⟨rfl,(sw [0] [] [.s 0,.s 1,.s 4,.a 14 (.bool ((p_1 != (1:Int))&&(p_1 != (2:Int))))] [.s 0] (ac (congrArg AV.bool (qS zQ rfl):(.bool (p_1 != (2:Int)):AV)=.bool ((p_1 != (1:Int))&&(p_1 != (2:Int)))) an))⟩
  ·refine rg [(3,Hg),(4,Hg),(5,Hf)] [0,1,4,14] [0] 1 [Ii yA,Ii p_1,Pp 0,.bool false] [Vb 30 [Ii 0,.nilsl,Ii 0,Ii 0,Ii 0,Ii 0]] zF (ac zQ (ac zQ (ac zQ an))) ?_
   exact ⟨rfl,(sw [0] [] [.s 0,.s 1,.s 4,.a 14 (.bool ((p_1 != (1:Int))&&(p_1 != (2:Int))))] [.s 0] (ac (congrArg AV.bool (n8 zQ):(.bool false:AV)=.bool ((p_1 != (1:Int))&&(p_1 != (2:Int)))) an))⟩
 refine cd 14 ((p_1 != (1:Int))&&(p_1 != (2:Int))) ?_ ?_
 ·intro g_2;replace h:=zV g_2 h
  refine sr [] [4,5] [0] 1 [Pp 0,Ii 1] [Vb 30 [Ii 0,.nilsl,Ii 0,Ii 0,Ii 0,Ii 0]] zF an ?_
  refine wk [0] [] [.s 4,.s 5] [.a 0 (Vb 30 (zP (⟨(0:Int),[],(0:Int),(0:Int),(0:Int),(0:Int)⟩:zB)))] [(4,Pp 0),(5,Ii 1)] [(0,Vb 30 (zP (⟨(0:Int),[],(0:Int),(0:Int),(0:Int),(0:Int)⟩:zB)))] (ar 30 (ac (rfl:vI [Ii ((⟨(0:Int),[],(0:Int),(0:Int),(0:Int),(0:Int)⟩:zB).Policy),.sl false 1 (Mb ((⟨(0:Int),[],(0:Int),(0:Int),(0:Int),(0:Int)⟩:zB).Data)),Ii ((⟨(0:Int),[],(0:Int),(0:Int),(0:Int),(0:Int)⟩:zB).Start),Ii ((⟨(0:Int),[],(0:Int),(0:Int),(0:Int),(0:Int)⟩:zB).End),Ii ((⟨(0:Int),[],(0:Int),(0:Int),(0:Int),(0:Int)⟩:zB).First),Ii ((⟨(0:Int),[],(0:Int),(0:Int),(0:Int),(0:Int)⟩:zB).Next)]=true) (ac (rfl:(Ii 0:AV)=Ii ((⟨(0:Int),[],(0:Int),(0:Int),(0:Int),(0:Int)⟩:zB).Policy)) (ac (rfl:((Mb ((⟨(0:Int),[],(0:Int),(0:Int),(0:Int),(0:Int)⟩:zB).Data)):List AV)=[]) (ac (rfl:(Ii 0:AV)=Ii ((⟨(0:Int),[],(0:Int),(0:Int),(0:Int),(0:Int)⟩:zB).Start)) (ac (rfl:(Ii 0:AV)=Ii ((⟨(0:Int),[],(0:Int),(0:Int),(0:Int),(0:Int)⟩:zB).End)) (ac (rfl:(Ii 0:AV)=Ii ((⟨(0:Int),[],(0:Int),(0:Int),(0:Int),(0:Int)⟩:zB).First)) (ac (rfl:(Ii 0:AV)=Ii ((⟨(0:Int),[],(0:Int),(0:Int),(0:Int),(0:Int)⟩:zB).Next)) an)))))))) ?_
  refine rt ?_
  cases h
  exact ⟨.inr rfl,Nat.le_of_ble_eq_true rfl,by kernel_rfl⟩
 intro g_2;replace h:=zW g_2 h
 refine sk ?_
 refine sq ?_
 obtain ⟨_,h_1,h⟩:=bind_some h;replace h_1:=yU h_1
 refine rg [(2,{ id:=1,l:=(Mb (List.replicate ((yA).toNat) (0:Int))),m:=(yA).toNat,n:=(yA).toNat })] [4,5] [0,1] 2 [Pp 0,Ii 0] [Vb 30 [Ii p_1,.own 1 ((yA).toNat),Ii 0,Ii 0,Ii 0,Ii 0],Rb 5 1 (Mb (List.replicate ((yA).toNat) (0:Int)))] zF (ac ((Int.toNat_of_nonneg h_1.1).symm:yA=(((yA).toNat:Nat):Int)) (ac ((Int.toNat_of_nonneg h_1.1).symm:yA=(((yA).toNat:Nat):Int)) (ac (Nat.le_refl _:((yA).toNat)≤((yA).toNat)) (ac h_1.2 (ac (zJt:(Mb (List.replicate ((yA).toNat) (0:Int)))=List.replicate ((yA).toNat) (Iu 0)) an))))) ?_
 refine wk [0] [1] [.s 4,.s 5] [.a 0 (Vb 30 (zP (⟨p_1,(List.replicate ((yA).toNat) (0:Int)),(0:Int),(0:Int),(0:Int),(0:Int)⟩:zB)))] [(4,Pp 0),(5,Ii 0)] [(0,Vb 30 (zP (⟨p_1,(List.replicate ((yA).toNat) (0:Int)),(0:Int),(0:Int),(0:Int),(0:Int)⟩:zB)))] (ar 30 (ac (rfl:vI [Ii ((⟨p_1,(List.replicate ((yA).toNat) (0:Int)),(0:Int),(0:Int),(0:Int),(0:Int)⟩:zB).Policy),.sl false 1 (Mb ((⟨p_1,(List.replicate ((yA).toNat) (0:Int)),(0:Int),(0:Int),(0:Int),(0:Int)⟩:zB).Data)),Ii ((⟨p_1,(List.replicate ((yA).toNat) (0:Int)),(0:Int),(0:Int),(0:Int),(0:Int)⟩:zB).Start),Ii ((⟨p_1,(List.replicate ((yA).toNat) (0:Int)),(0:Int),(0:Int),(0:Int),(0:Int)⟩:zB).End),Ii ((⟨p_1,(List.replicate ((yA).toNat) (0:Int)),(0:Int),(0:Int),(0:Int),(0:Int)⟩:zB).First),Ii ((⟨p_1,(List.replicate ((yA).toNat) (0:Int)),(0:Int),(0:Int),(0:Int),(0:Int)⟩:zB).Next)]=true) (ac (by rw [List.length_map];exact List.length_replicate.symm:(yA).toNat=((List.map (AV.int .u8) (List.replicate ((yA).toNat) (0:Int)))).length) (ac (rfl:(Ii p_1:AV)=Ii ((⟨p_1,(List.replicate ((yA).toNat) (0:Int)),(0:Int),(0:Int),(0:Int),(0:Int)⟩:zB).Policy)) (ar 1 (ac (rfl:((Mb (List.replicate ((yA).toNat) (0:Int))):List AV)=(Mb ((⟨p_1,(List.replicate ((yA).toNat) (0:Int)),(0:Int),(0:Int),(0:Int),(0:Int)⟩:zB).Data))) (ac (rfl:(!false||false)=true) (ac (rfl:(Ii 0:AV)=Ii ((⟨p_1,(List.replicate ((yA).toNat) (0:Int)),(0:Int),(0:Int),(0:Int),(0:Int)⟩:zB).Start)) (ac (rfl:(Ii 0:AV)=Ii ((⟨p_1,(List.replicate ((yA).toNat) (0:Int)),(0:Int),(0:Int),(0:Int),(0:Int)⟩:zB).End)) (ac (rfl:(Ii 0:AV)=Ii ((⟨p_1,(List.replicate ((yA).toNat) (0:Int)),(0:Int),(0:Int),(0:Int),(0:Int)⟩:zB).First)) (ac (rfl:(Ii 0:AV)=Ii ((⟨p_1,(List.replicate ((yA).toNat) (0:Int)),(0:Int),(0:Int),(0:Int),(0:Int)⟩:zB).Next)) an))))))))))) ?_
 refine rt ?_
 cases h
 exact ⟨.inr rfl,Nat.le_of_ble_eq_true rfl,by kernel_rfl⟩
theorem zBe (F:Nat) (t_1:zC) (yA:Int) (p_1:Int) (r:zA×Int) (h:qY F t_1 yA p_1=some r):zS prog 9 [] [] [xI t_1,Ii yA,Ii p_1] [] (.tuple [zM r.1,Ii r.2]):=by
 refine yD (fn:=Go.Proofs.Try.f9) (code:=y5 Go.Proofs.Try.f9) (by kernel_rfl) (by kernel_rfl) (Nat.le_of_ble_eq_true (by kernel_rfl)) ?_
 unfold qY at h
 refine sr [(0,{ id:=0 }),(1,{ id:=1 })] [1,2,3,6] [0,1] 2 [Ii yA,Ii p_1,Pp 0,Pp 1] [Vb 23 (wX t_1),Vb 32 [Ii 0,.str ([]:List Int),Ii 0,.nilsl,.nilsl,Ii 0,.nilsl,Ii 0,Ii 0,Ii 0,Ii 0,Ii 0,Ii 0]] zF an ?_
 refine sq ?_
 refine sq ?_
 obtain ⟨r_1,h_1,h⟩:=bind_some h
 refine rg [(1,{ av:=Ii r_1,l:=[xI t_1] })] [1,2,3,6,8] [0,1] 2 [Ii yA,Ii p_1,Pp 0,Pp 1,Ii r_1] [Vb 23 (wX t_1),Vb 32 [Ii 0,.str ([]:List Int),Ii 0,.nilsl,.nilsl,Ii 0,.nilsl,Ii 0,Ii 0,Ii 0,Ii 0,Ii 0,Ii 0]] zF (ar ([xI t_1]:List AV) (ac (rfl:([]:List zU)=[]) (ac (zBY F t_1 r_1 h_1:zS prog 11 [] [] [xI t_1] [] (Ii r_1)) an))) ?_
 refine sr [] [1,2,3,6,8,14] [0,1] 2 [Ii yA,Ii p_1,Pp 0,Pp 1,Ii r_1,.bool (r_1 != (0:Int))] [Vb 23 (wX t_1),Vb 32 [Ii 0,.str ([]:List Int),Ii 0,.nilsl,.nilsl,Ii 0,.nilsl,Ii 0,Ii 0,Ii 0,Ii 0,Ii 0,Ii 0]] zF an ?_
 refine cd 14 (r_1 != (0:Int)) ?_ ?_
 ·intro g_1;replace h:=zV g_1 h
  refine sr [] [6,7] [1] 2 [Pp 1,Ii r_1] [Vb 32 [Ii 0,.str ([]:List Int),Ii 0,.nilsl,.nilsl,Ii 0,.nilsl,Ii 0,Ii 0,Ii 0,Ii 0,Ii 0,Ii 0]] zF an ?_
  refine wk [1] [] [.s 6,.s 7] [.a 0 (Vb 32 [Ii (((⟨(⟨(0:Int),([]:List Int),(0:Int)⟩:zC),[],[],(⟨(0:Int),[],(0:Int),(0:Int),(0:Int),(0:Int)⟩:zB),(0:Int),(0:Int)⟩:zA).Thread).Id),.str (((⟨(⟨(0:Int),([]:List Int),(0:Int)⟩:zC),[],[],(⟨(0:Int),[],(0:Int),(0:Int),(0:Int),(0:Int)⟩:zB),(0:Int),(0:Int)⟩:zA).Thread).Name),Ii (((⟨(⟨(0:Int),([]:List Int),(0:Int)⟩:zC),[],[],(⟨(0:Int),[],(0:Int),(0:Int),(0:Int),(0:Int)⟩:zB),(0:Int),(0:Int)⟩:zA).Thread).Domain),.sl false 1 (Ms ((⟨(⟨(0:Int),([]:List Int),(0:Int)⟩:zC),[],[],(⟨(0:Int),[],(0:Int),(0:Int),(0:Int),(0:Int)⟩:zB),(0:Int),(0:Int)⟩:zA).Names)),.sl false 2 (Mp zD ((⟨(⟨(0:Int),([]:List Int),(0:Int)⟩:zC),[],[],(⟨(0:Int),[],(0:Int),(0:Int),(0:Int),(0:Int)⟩:zB),(0:Int),(0:Int)⟩:zA).Stacks)),Ii (((⟨(⟨(0:Int),([]:List Int),(0:Int)⟩:zC),[],[],(⟨(0:Int),[],(0:Int),(0:Int),(0:Int),(0:Int)⟩:zB),(0:Int),(0:Int)⟩:zA).Ring).Policy),.sl false 1 (Mb (((⟨(⟨(0:Int),([]:List Int),(0:Int)⟩:zC),[],[],(⟨(0:Int),[],(0:Int),(0:Int),(0:Int),(0:Int)⟩:zB),(0:Int),(0:Int)⟩:zA).Ring).Data)),Ii (((⟨(⟨(0:Int),([]:List Int),(0:Int)⟩:zC),[],[],(⟨(0:Int),[],(0:Int),(0:Int),(0:Int),(0:Int)⟩:zB),(0:Int),(0:Int)⟩:zA).Ring).Start),Ii (((⟨(⟨(0:Int),([]:List Int),(0:Int)⟩:zC),[],[],(⟨(0:Int),[],(0:Int),(0:Int),(0:Int),(0:Int)⟩:zB),(0:Int),(0:Int)⟩:zA).Ring).End),Ii (((⟨(⟨(0:Int),([]:List Int),(0:Int)⟩:zC),[],[],(⟨(0:Int),[],(0:Int),(0:Int),(0:Int),(0:Int)⟩:zB),(0:Int),(0:Int)⟩:zA).Ring).First),Ii (((⟨(⟨(0:Int),([]:List Int),(0:Int)⟩:zC),[],[],(⟨(0:Int),[],(0:Int),(0:Int),(0:Int),(0:Int)⟩:zB),(0:Int),(0:Int)⟩:zA).Ring).Next),Ii ((⟨(⟨(0:Int),([]:List Int),(0:Int)⟩:zC),[],[],(⟨(0:Int),[],(0:Int),(0:Int),(0:Int),(0:Int)⟩:zB),(0:Int),(0:Int)⟩:zA).Last),Ii ((⟨(⟨(0:Int),([]:List Int),(0:Int)⟩:zC),[],[],(⟨(0:Int),[],(0:Int),(0:Int),(0:Int),(0:Int)⟩:zB),(0:Int),(0:Int)⟩:zA).Sent)])] [(6,Pp 0),(7,Ii r_1)] [(0,Vb 32 [Ii (((⟨(⟨(0:Int),([]:List Int),(0:Int)⟩:zC),[],[],(⟨(0:Int),[],(0:Int),(0:Int),(0:Int),(0:Int)⟩:zB),(0:Int),(0:Int)⟩:zA).Thread).Id),.str (((⟨(⟨(0:Int),([]:List Int),(0:Int)⟩:zC),[],[],(⟨(0:Int),[],(0:Int),(0:Int),(0:Int),(0:Int)⟩:zB),(0:Int),(0:Int)⟩:zA).Thread).Name),Ii (((⟨(⟨(0:Int),([]:List Int),(0:Int)⟩:zC),[],[],(⟨(0:Int),[],(0:Int),(0:Int),(0:Int),(0:Int)⟩:zB),(0:Int),(0:Int)⟩:zA).Thread).Domain),.sl false 1 (Ms ((⟨(⟨(0:Int),([]:List Int),(0:Int)⟩:zC),[],[],(⟨(0:Int),[],(0:Int),(0:Int),(0:Int),(0:Int)⟩:zB),(0:Int),(0:Int)⟩:zA).Names)),.sl false 2 (Mp zD ((⟨(⟨(0:Int),([]:List Int),(0:Int)⟩:zC),[],[],(⟨(0:Int),[],(0:Int),(0:Int),(0:Int),(0:Int)⟩:zB),(0:Int),(0:Int)⟩:zA).Stacks)),Ii (((⟨(⟨(0:Int),([]:List Int),(0:Int)⟩:zC),[],[],(⟨(0:Int),[],(0:Int),(0:Int),(0:Int),(0:Int)⟩:zB),(0:Int),(0:Int)⟩:zA).Ring).Policy),.sl false 1 (Mb (((⟨(⟨(0:Int),([]:List Int),(0:Int)⟩:zC),[],[],(⟨(0:Int),[],(0:Int),(0:Int),(0:Int),(0:Int)⟩:zB),(0:Int),(0:Int)⟩:zA).Ring).Data)),Ii (((⟨(⟨(0:Int),([]:List Int),(0:Int)⟩:zC),[],[],(⟨(0:Int),[],(0:Int),(0:Int),(0:Int),(0:Int)⟩:zB),(0:Int),(0:Int)⟩:zA).Ring).Start),Ii (((⟨(⟨(0:Int),([]:List Int),(0:Int)⟩:zC),[],[],(⟨(0:Int),[],(0:Int),(0:Int),(0:Int),(0:Int)⟩:zB),(0:Int),(0:Int)⟩:zA).Ring).End),Ii (((⟨(⟨(0:Int),([]:List Int),(0:Int)⟩:zC),[],[],(⟨(0:Int),[],(0:Int),(0:Int),(0:Int),(0:Int)⟩:zB),(0:Int),(0:Int)⟩:zA).Ring).First),Ii (((⟨(⟨(0:Int),([]:List Int),(0:Int)⟩:zC),[],[],(⟨(0:Int),[],(0:Int),(0:Int),(0:Int),(0:Int)⟩:zB),(0:Int),(0:Int)⟩:zA).Ring).Next),Ii ((⟨(⟨(0:Int),([]:List Int),(0:Int)⟩:zC),[],[],(⟨(0:Int),[],(0:Int),(0:Int),(0:Int),(0:Int)⟩:zB),(0:Int),(0:Int)⟩:zA).Last),Ii ((⟨(⟨(0:Int),([]:List Int),(0:Int)⟩:zC),[],[],(⟨(0:Int),[],(0:Int),(0:Int),(0:Int),(0:Int)⟩:zB),(0:Int),(0:Int)⟩:zA).Sent)])] (ar 32 (ac (rfl:vI [Ii (((⟨(⟨(0:Int),([]:List Int),(0:Int)⟩:zC),[],[],(⟨(0:Int),[],(0:Int),(0:Int),(0:Int),(0:Int)⟩:zB),(0:Int),(0:Int)⟩:zA).Thread).Id),.str (((⟨(⟨(0:Int),([]:List Int),(0:Int)⟩:zC),[],[],(⟨(0:Int),[],(0:Int),(0:Int),(0:Int),(0:Int)⟩:zB),(0:Int),(0:Int)⟩:zA).Thread).Name),Ii (((⟨(⟨(0:Int),([]:List Int),(0:Int)⟩:zC),[],[],(⟨(0:Int),[],(0:Int),(0:Int),(0:Int),(0:Int)⟩:zB),(0:Int),(0:Int)⟩:zA).Thread).Domain),.sl false 1 (Ms ((⟨(⟨(0:Int),([]:List Int),(0:Int)⟩:zC),[],[],(⟨(0:Int),[],(0:Int),(0:Int),(0:Int),(0:Int)⟩:zB),(0:Int),(0:Int)⟩:zA).Names)),.sl false 2 (Mp zD ((⟨(⟨(0:Int),([]:List Int),(0:Int)⟩:zC),[],[],(⟨(0:Int),[],(0:Int),(0:Int),(0:Int),(0:Int)⟩:zB),(0:Int),(0:Int)⟩:zA).Stacks)),Ii (((⟨(⟨(0:Int),([]:List Int),(0:Int)⟩:zC),[],[],(⟨(0:Int),[],(0:Int),(0:Int),(0:Int),(0:Int)⟩:zB),(0:Int),(0:Int)⟩:zA).Ring).Policy),.sl false 1 (Mb (((⟨(⟨(0:Int),([]:List Int),(0:Int)⟩:zC),[],[],(⟨(0:Int),[],(0:Int),(0:Int),(0:Int),(0:Int)⟩:zB),(0:Int),(0:Int)⟩:zA).Ring).Data)),Ii (((⟨(⟨(0:Int),([]:List Int),(0:Int)⟩:zC),[],[],(⟨(0:Int),[],(0:Int),(0:Int),(0:Int),(0:Int)⟩:zB),(0:Int),(0:Int)⟩:zA).Ring).Start),Ii (((⟨(⟨(0:Int),([]:List Int),(0:Int)⟩:zC),[],[],(⟨(0:Int),[],(0:Int),(0:Int),(0:Int),(0:Int)⟩:zB),(0:Int),(0:Int)⟩:zA).Ring).End),Ii (((⟨(⟨(0:Int),([]:List Int),(0:Int)⟩:zC),[],[],(⟨(0:Int),[],(0:Int),(0:Int),(0:Int),(0:Int)⟩:zB),(0:Int),(0:Int)⟩:zA).Ring).First),Ii (((⟨(⟨(0:Int),([]:List Int),(0:Int)⟩:zC),[],[],(⟨(0:Int),[],(0:Int),(0:Int),(0:Int),(0:Int)⟩:zB),(0:Int),(0:Int)⟩:zA).Ring).Next),Ii ((⟨(⟨(0:Int),([]:List Int),(0:Int)⟩:zC),[],[],(⟨(0:Int),[],(0:Int),(0:Int),(0:Int),(0:Int)⟩:zB),(0:Int),(0:Int)⟩:zA).Last),Ii ((⟨(⟨(0:Int),([]:List Int),(0:Int)⟩:zC),[],[],(⟨(0:Int),[],(0:Int),(0:Int),(0:Int),(0:Int)⟩:zB),(0:Int),(0:Int)⟩:zA).Sent)]=true) (ac (rfl:(Ii 0:AV)=Ii (((⟨(⟨(0:Int),([]:List Int),(0:Int)⟩:zC),[],[],(⟨(0:Int),[],(0:Int),(0:Int),(0:Int),(0:Int)⟩:zB),(0:Int),(0:Int)⟩:zA).Thread).Id)) (ac (rfl:(.str ([]:List Int):AV)=.str (((⟨(⟨(0:Int),([]:List Int),(0:Int)⟩:zC),[],[],(⟨(0:Int),[],(0:Int),(0:Int),(0:Int),(0:Int)⟩:zB),(0:Int),(0:Int)⟩:zA).Thread).Name)) (ac (rfl:(Ii 0:AV)=Ii (((⟨(⟨(0:Int),([]:List Int),(0:Int)⟩:zC),[],[],(⟨(0:Int),[],(0:Int),(0:Int),(0:Int),(0:Int)⟩:zB),(0:Int),(0:Int)⟩:zA).Thread).Domain)) (ac (rfl:((Ms ((⟨(⟨(0:Int),([]:List Int),(0:Int)⟩:zC),[],[],(⟨(0:Int),[],(0:Int),(0:Int),(0:Int),(0:Int)⟩:zB),(0:Int),(0:Int)⟩:zA).Names)):List AV)=[]) (ac (rfl:((Mp zD ((⟨(⟨(0:Int),([]:List Int),(0:Int)⟩:zC),[],[],(⟨(0:Int),[],(0:Int),(0:Int),(0:Int),(0:Int)⟩:zB),(0:Int),(0:Int)⟩:zA).Stacks)):List AV)=[]) (ac (rfl:(Ii 0:AV)=Ii (((⟨(⟨(0:Int),([]:List Int),(0:Int)⟩:zC),[],[],(⟨(0:Int),[],(0:Int),(0:Int),(0:Int),(0:Int)⟩:zB),(0:Int),(0:Int)⟩:zA).Ring).Policy)) (ac (rfl:((Mb (((⟨(⟨(0:Int),([]:List Int),(0:Int)⟩:zC),[],[],(⟨(0:Int),[],(0:Int),(0:Int),(0:Int),(0:Int)⟩:zB),(0:Int),(0:Int)⟩:zA).Ring).Data)):List AV)=[]) (ac (rfl:(Ii 0:AV)=Ii (((⟨(⟨(0:Int),([]:List Int),(0:Int)⟩:zC),[],[],(⟨(0:Int),[],(0:Int),(0:Int),(0:Int),(0:Int)⟩:zB),(0:Int),(0:Int)⟩:zA).Ring).Start)) (ac (rfl:(Ii 0:AV)=Ii (((⟨(⟨(0:Int),([]:List Int),(0:Int)⟩:zC),[],[],(⟨(0:Int),[],(0:Int),(0:Int),(0:Int),(0:Int)⟩:zB),(0:Int),(0:Int)⟩:zA).Ring).End)) (ac (rfl:(Ii 0:AV)=Ii (((⟨(⟨(0:Int),([]:List Int),(0:Int)⟩:zC),[],[],(⟨(0:Int),[],(0:Int),(0:Int),(0:Int),(0:Int)⟩:zB),(0:Int),(0:Int)⟩:zA).Ring).First)) (ac (rfl:(Ii 0:AV)=Ii (((⟨(⟨(0:Int),([]:List Int),(0:Int)⟩:zC),[],[],(⟨(0:Int),[],(0:Int),(0:Int),(0:Int),(0:Int)⟩:zB),(0:Int),(0:Int)⟩:zA).Ring).Next)) (ac (rfl:(Ii 0:AV)=Ii ((⟨(⟨(0:Int),([]:List Int),(0:Int)⟩:zC),[],[],(⟨(0:Int),[],(0:Int),(0:Int),(0:Int),(0:Int)⟩:zB),(0:Int),(0:Int)⟩:zA).Last)) (ac (rfl:(Ii 0:AV)=Ii ((⟨(⟨(0:Int),([]:List Int),(0:Int)⟩:zC),[],[],(⟨(0:Int),[],(0:Int),(0:Int),(0:Int),(0:Int)⟩:zB),(0:Int),(0:Int)⟩:zA).Sent)) an))))))))))))))) ?_
  refine rt ?_
  cases h
  exact ⟨.inr rfl,Nat.le_of_ble_eq_true rfl,by kernel_rfl⟩
 intro g_1;replace h:=zW g_1 h
 refine sk ?_
 refine sq ?_
 obtain ⟨r_2,h_2,h⟩:=bind_some h
 refine rg [(2,{ av:=.tuple [z6 r_2.1,Ii r_2.2],l:=[Ii yA,Ii p_1] }),(6,{ id:=2 })] [3,6,9,10] [0,1,2] 3 [Pp 0,Pp 1,Pp 2,Ii r_2.2] [Vb 23 (wX t_1),Vb 32 [Ii 0,.str ([]:List Int),Ii 0,.nilsl,.nilsl,Ii 0,.nilsl,Ii 0,Ii 0,Ii 0,Ii 0,Ii 0,Ii 0],Vb 30 (zP r_2.1)] zF (ar ([Ii yA,Ii p_1]:List AV) (ac (rfl:([]:List zU)=[]) (ac (zJL yA p_1 r_2 h_2:zS prog 27 [] [] [Ii yA,Ii p_1] [] (.tuple [z6 r_2.1,Ii r_2.2])) an))) ?_
 refine sq ?_
 refine sr [] [3,6,9,10,24] [0,1,2] 3 [Pp 0,Pp 1,Pp 2,Ii r_2.2,.bool (r_2.2 != (0:Int))] [Vb 23 (wX t_1),Vb 32 [Ii 0,.str ([]:List Int),Ii 0,.nilsl,.nilsl,Ii 0,.nilsl,Ii 0,Ii 0,Ii 0,Ii 0,Ii 0,Ii 0],Vb 30 (zP r_2.1)] zF an ?_
 refine cd 24 (r_2.2 != (0:Int)) ?_ ?_
 ·intro g_2;replace h:=zV g_2 h
  refine sr [] [6,7] [1] 3 [Pp 1,Ii r_2.2] [Vb 32 [Ii 0,.str ([]:List Int),Ii 0,.nilsl,.nilsl,Ii 0,.nilsl,Ii 0,Ii 0,Ii 0,Ii 0,Ii 0,Ii 0]] zF an ?_
  refine wk [1] [] [.s 6,.s 7] [.a 0 (Vb 32 [Ii (((⟨(⟨(0:Int),([]:List Int),(0:Int)⟩:zC),[],[],(⟨(0:Int),[],(0:Int),(0:Int),(0:Int),(0:Int)⟩:zB),(0:Int),(0:Int)⟩:zA).Thread).Id),.str (((⟨(⟨(0:Int),([]:List Int),(0:Int)⟩:zC),[],[],(⟨(0:Int),[],(0:Int),(0:Int),(0:Int),(0:Int)⟩:zB),(0:Int),(0:Int)⟩:zA).Thread).Name),Ii (((⟨(⟨(0:Int),([]:List Int),(0:Int)⟩:zC),[],[],(⟨(0:Int),[],(0:Int),(0:Int),(0:Int),(0:Int)⟩:zB),(0:Int),(0:Int)⟩:zA).Thread).Domain),.sl false 1 (Ms ((⟨(⟨(0:Int),([]:List Int),(0:Int)⟩:zC),[],[],(⟨(0:Int),[],(0:Int),(0:Int),(0:Int),(0:Int)⟩:zB),(0:Int),(0:Int)⟩:zA).Names)),.sl false 2 (Mp zD ((⟨(⟨(0:Int),([]:List Int),(0:Int)⟩:zC),[],[],(⟨(0:Int),[],(0:Int),(0:Int),(0:Int),(0:Int)⟩:zB),(0:Int),(0:Int)⟩:zA).Stacks)),Ii (((⟨(⟨(0:Int),([]:List Int),(0:Int)⟩:zC),[],[],(⟨(0:Int),[],(0:Int),(0:Int),(0:Int),(0:Int)⟩:zB),(0:Int),(0:Int)⟩:zA).Ring).Policy),.sl false 1 (Mb (((⟨(⟨(0:Int),([]:List Int),(0:Int)⟩:zC),[],[],(⟨(0:Int),[],(0:Int),(0:Int),(0:Int),(0:Int)⟩:zB),(0:Int),(0:Int)⟩:zA).Ring).Data)),Ii (((⟨(⟨(0:Int),([]:List Int),(0:Int)⟩:zC),[],[],(⟨(0:Int),[],(0:Int),(0:Int),(0:Int),(0:Int)⟩:zB),(0:Int),(0:Int)⟩:zA).Ring).Start),Ii (((⟨(⟨(0:Int),([]:List Int),(0:Int)⟩:zC),[],[],(⟨(0:Int),[],(0:Int),(0:Int),(0:Int),(0:Int)⟩:zB),(0:Int),(0:Int)⟩:zA).Ring).End),Ii (((⟨(⟨(0:Int),([]:List Int),(0:Int)⟩:zC),[],[],(⟨(0:Int),[],(0:Int),(0:Int),(0:Int),(0:Int)⟩:zB),(0:Int),(0:Int)⟩:zA).Ring).First),Ii (((⟨(⟨(0:Int),([]:List Int),(0:Int)⟩:zC),[],[],(⟨(0:Int),[],(0:Int),(0:Int),(0:Int),(0:Int)⟩:zB),(0:Int),(0:Int)⟩:zA).Ring).Next),Ii ((⟨(⟨(0:Int),([]:List Int),(0:Int)⟩:zC),[],[],(⟨(0:Int),[],(0:Int),(0:Int),(0:Int),(0:Int)⟩:zB),(0:Int),(0:Int)⟩:zA).Last),Ii ((⟨(⟨(0:Int),([]:List Int),(0:Int)⟩:zC),[],[],(⟨(0:Int),[],(0:Int),(0:Int),(0:Int),(0:Int)⟩:zB),(0:Int),(0:Int)⟩:zA).Sent)])] [(6,Pp 0),(7,Ii r_2.2)] [(0,Vb 32 [Ii (((⟨(⟨(0:Int),([]:List Int),(0:Int)⟩:zC),[],[],(⟨(0:Int),[],(0:Int),(0:Int),(0:Int),(0:Int)⟩:zB),(0:Int),(0:Int)⟩:zA).Thread).Id),.str (((⟨(⟨(0:Int),([]:List Int),(0:Int)⟩:zC),[],[],(⟨(0:Int),[],(0:Int),(0:Int),(0:Int),(0:Int)⟩:zB),(0:Int),(0:Int)⟩:zA).Thread).Name),Ii (((⟨(⟨(0:Int),([]:List Int),(0:Int)⟩:zC),[],[],(⟨(0:Int),[],(0:Int),(0:Int),(0:Int),(0:Int)⟩:zB),(0:Int),(0:Int)⟩:zA).Thread).Domain),.sl false 1 (Ms ((⟨(⟨(0:Int),([]:List Int),(0:Int)⟩:zC),[],[],(⟨(0:Int),[],(0:Int),(0:Int),(0:Int),(0:Int)⟩:zB),(0:Int),(0:Int)⟩:zA).Names)),.sl false 2 (Mp zD ((⟨(⟨(0:Int),([]:List Int),(0:Int)⟩:zC),[],[],(⟨(0:Int),[],(0:Int),(0:Int),(0:Int),(0:Int)⟩:zB),(0:Int),(0:Int)⟩:zA).Stacks)),Ii (((⟨(⟨(0:Int),([]:List Int),(0:Int)⟩:zC),[],[],(⟨(0:Int),[],(0:Int),(0:Int),(0:Int),(0:Int)⟩:zB),(0:Int),(0:Int)⟩:zA).Ring).Policy),.sl false 1 (Mb (((⟨(⟨(0:Int),([]:List Int),(0:Int)⟩:zC),[],[],(⟨(0:Int),[],(0:Int),(0:Int),(0:Int),(0:Int)⟩:zB),(0:Int),(0:Int)⟩:zA).Ring).Data)),Ii (((⟨(⟨(0:Int),([]:List Int),(0:Int)⟩:zC),[],[],(⟨(0:Int),[],(0:Int),(0:Int),(0:Int),(0:Int)⟩:zB),(0:Int),(0:Int)⟩:zA).Ring).Start),Ii (((⟨(⟨(0:Int),([]:List Int),(0:Int)⟩:zC),[],[],(⟨(0:Int),[],(0:Int),(0:Int),(0:Int),(0:Int)⟩:zB),(0:Int),(0:Int)⟩:zA).Ring).End),Ii (((⟨(⟨(0:Int),([]:List Int),(0:Int)⟩:zC),[],[],(⟨(0:Int),[],(0:Int),(0:Int),(0:Int),(0:Int)⟩:zB),(0:Int),(0:Int)⟩:zA).Ring).First),Ii (((⟨(⟨(0:Int),([]:List Int),(0:Int)⟩:zC),[],[],(⟨(0:Int),[],(0:Int),(0:Int),(0:Int),(0:Int)⟩:zB),(0:Int),(0:Int)⟩:zA).Ring).Next),Ii ((⟨(⟨(0:Int),([]:List Int),(0:Int)⟩:zC),[],[],(⟨(0:Int),[],(0:Int),(0:Int),(0:Int),(0:Int)⟩:zB),(0:Int),(0:Int)⟩:zA).Last),Ii ((⟨(⟨(0:Int),([]:List Int),(0:Int)⟩:zC),[],[],(⟨(0:Int),[],(0:Int),(0:Int),(0:Int),(0:Int)⟩:zB),(0:Int),(0:Int)⟩:zA).Sent)])] (ar 32 (ac (rfl:vI [Ii (((⟨(⟨(0:Int),([]:List Int),(0:Int)⟩:zC),[],[],(⟨(0:Int),[],(0:Int),(0:Int),(0:Int),(0:Int)⟩:zB),(0:Int),(0:Int)⟩:zA).Thread).Id),.str (((⟨(⟨(0:Int),([]:List Int),(0:Int)⟩:zC),[],[],(⟨(0:Int),[],(0:Int),(0:Int),(0:Int),(0:Int)⟩:zB),(0:Int),(0:Int)⟩:zA).Thread).Name),Ii (((⟨(⟨(0:Int),([]:List Int),(0:Int)⟩:zC),[],[],(⟨(0:Int),[],(0:Int),(0:Int),(0:Int),(0:Int)⟩:zB),(0:Int),(0:Int)⟩:zA).Thread).Domain),.sl false 1 (Ms ((⟨(⟨(0:Int),([]:List Int),(0:Int)⟩:zC),[],[],(⟨(0:Int),[],(0:Int),(0:Int),(0:Int),(0:Int)⟩:zB),(0:Int),(0:Int)⟩:zA).Names)),.sl false 2 (Mp zD ((⟨(⟨(0:Int),([]:List Int),(0:Int)⟩:zC),[],[],(⟨(0:Int),[],(0:Int),(0:Int),(0:Int),(0:Int)⟩:zB),(0:Int),(0:Int)⟩:zA).Stacks)),Ii (((⟨(⟨(0:Int),([]:List Int),(0:Int)⟩:zC),[],[],(⟨(0:Int),[],(0:Int),(0:Int),(0:Int),(0:Int)⟩:zB),(0:Int),(0:Int)⟩:zA).Ring).Policy),.sl false 1 (Mb (((⟨(⟨(0:Int),([]:List Int),(0:Int)⟩:zC),[],[],(⟨(0:Int),[],(0:Int),(0:Int),(0:Int),(0:Int)⟩:zB),(0:Int),(0:Int)⟩:zA).Ring).Data)),Ii (((⟨(⟨(0:Int),([]:List Int),(0:Int)⟩:zC),[],[],(⟨(0:Int),[],(0:Int),(0:Int),(0:Int),(0:Int)⟩:zB),(0:Int),(0:Int)⟩:zA).Ring).Start),Ii (((⟨(⟨(0:Int),([]:List Int),(0:Int)⟩:zC),[],[],(⟨(0:Int),[],(0:Int),(0:Int),(0:Int),(0:Int)⟩:zB),(0:Int),(0:Int)⟩:zA).Ring).End),Ii (((⟨(⟨(0:Int),([]:List Int),(0:Int)⟩:zC),[],[],(⟨(0:Int),[],(0:Int),(0:Int),(0:Int),(0:Int)⟩:zB),(0:Int),(0:Int)⟩:zA).Ring).First),Ii (((⟨(⟨(0:Int),([]:List Int),(0:Int)⟩:zC),[],[],(⟨(0:Int),[],(0:Int),(0:Int),(0:Int),(0:Int)⟩:zB),(0:Int),(0:Int)⟩:zA).Ring).Next),Ii ((⟨(⟨(0:Int),([]:List Int),(0:Int)⟩:zC),[],[],(⟨(0:Int),[],(0:Int),(0:Int),(0:Int),(0:Int)⟩:zB),(0:Int),(0:Int)⟩:zA).Last),Ii ((⟨(⟨(0:Int),([]:List Int),(0:Int)⟩:zC),[],[],(⟨(0:Int),[],(0:Int),(0:Int),(0:Int),(0:Int)⟩:zB),(0:Int),(0:Int)⟩:zA).Sent)]=true) (ac (rfl:(Ii 0:AV)=Ii (((⟨(⟨(0:Int),([]:List Int),(0:Int)⟩:zC),[],[],(⟨(0:Int),[],(0:Int),(0:Int),(0:Int),(0:Int)⟩:zB),(0:Int),(0:Int)⟩:zA).Thread).Id)) (ac (rfl:(.str ([]:List Int):AV)=.str (((⟨(⟨(0:Int),([]:List Int),(0:Int)⟩:zC),[],[],(⟨(0:Int),[],(0:Int),(0:Int),(0:Int),(0:Int)⟩:zB),(0:Int),(0:Int)⟩:zA).Thread).Name)) (ac (rfl:(Ii 0:AV)=Ii (((⟨(⟨(0:Int),([]:List Int),(0:Int)⟩:zC),[],[],(⟨(0:Int),[],(0:Int),(0:Int),(0:Int),(0:Int)⟩:zB),(0:Int),(0:Int)⟩:zA).Thread).Domain)) (ac (rfl:((Ms ((⟨(⟨(0:Int),([]:List Int),(0:Int)⟩:zC),[],[],(⟨(0:Int),[],(0:Int),(0:Int),(0:Int),(0:Int)⟩:zB),(0:Int),(0:Int)⟩:zA).Names)):List AV)=[]) (ac (rfl:((Mp zD ((⟨(⟨(0:Int),([]:List Int),(0:Int)⟩:zC),[],[],(⟨(0:Int),[],(0:Int),(0:Int),(0:Int),(0:Int)⟩:zB),(0:Int),(0:Int)⟩:zA).Stacks)):List AV)=[]) (ac (rfl:(Ii 0:AV)=Ii (((⟨(⟨(0:Int),([]:List Int),(0:Int)⟩:zC),[],[],(⟨(0:Int),[],(0:Int),(0:Int),(0:Int),(0:Int)⟩:zB),(0:Int),(0:Int)⟩:zA).Ring).Policy)) (ac (rfl:((Mb (((⟨(⟨(0:Int),([]:List Int),(0:Int)⟩:zC),[],[],(⟨(0:Int),[],(0:Int),(0:Int),(0:Int),(0:Int)⟩:zB),(0:Int),(0:Int)⟩:zA).Ring).Data)):List AV)=[]) (ac (rfl:(Ii 0:AV)=Ii (((⟨(⟨(0:Int),([]:List Int),(0:Int)⟩:zC),[],[],(⟨(0:Int),[],(0:Int),(0:Int),(0:Int),(0:Int)⟩:zB),(0:Int),(0:Int)⟩:zA).Ring).Start)) (ac (rfl:(Ii 0:AV)=Ii (((⟨(⟨(0:Int),([]:List Int),(0:Int)⟩:zC),[],[],(⟨(0:Int),[],(0:Int),(0:Int),(0:Int),(0:Int)⟩:zB),(0:Int),(0:Int)⟩:zA).Ring).End)) (ac (rfl:(Ii 0:AV)=Ii (((⟨(⟨(0:Int),([]:List Int),(0:Int)⟩:zC),[],[],(⟨(0:Int),[],(0:Int),(0:Int),(0:Int),(0:Int)⟩:zB),(0:Int),(0:Int)⟩:zA).Ring).First)) (ac (rfl:(Ii 0:AV)=Ii (((⟨(⟨(0:Int),([]:List Int),(0:Int)⟩:zC),[],[],(⟨(0:Int),[],(0:Int),(0:Int),(0:Int),(0:Int)⟩:zB),(0:Int),(0:Int)⟩:zA).Ring).Next)) (ac (rfl:(Ii 0:AV)=Ii ((⟨(⟨(0:Int),([]:List Int),(0:Int)⟩:zC),[],[],(⟨(0:Int),[],(0:Int),(0:Int),(0:Int),(0:Int)⟩:zB),(0:Int),(0:Int)⟩:zA).Last)) (ac (rfl:(Ii 0:AV)=Ii ((⟨(⟨(0:Int),([]:List Int),(0:Int)⟩:zC),[],[],(⟨(0:Int),[],(0:Int),(0:Int),(0:Int),(0:Int)⟩:zB),(0:Int),(0:Int)⟩:zA).Sent)) an))))))))))))))) ?_
  refine rt ?_
  cases h
  exact ⟨.inr rfl,Nat.le_of_ble_eq_true rfl,by kernel_rfl⟩
 intro g_2;replace h:=zW g_2 h
 refine sk ?_
 refine sr [] [6,7] [1] 3 [Pp 1,Ii 0] [Vb 32 [Ii t_1.Id,.str t_1.Name,Ii t_1.Domain,.nilsl,.nilsl,Ii r_2.1.Policy,.sl false 1 (Mb r_2.1.Data),Ii r_2.1.Start,Ii r_2.1.End,Ii r_2.1.First,Ii r_2.1.Next,Ii 0,Ii 0]] zF an ?_
 refine wk [1] [] [.s 6,.s 7] [.a 0 (Vb 32 [Ii (((⟨t_1,[],[],r_2.1,(0:Int),(0:Int)⟩:zA).Thread).Id),.str (((⟨t_1,[],[],r_2.1,(0:Int),(0:Int)⟩:zA).Thread).Name),Ii (((⟨t_1,[],[],r_2.1,(0:Int),(0:Int)⟩:zA).Thread).Domain),.sl false 1 (Ms ((⟨t_1,[],[],r_2.1,(0:Int),(0:Int)⟩:zA).Names)),.sl false 2 (Mp zD ((⟨t_1,[],[],r_2.1,(0:Int),(0:Int)⟩:zA).Stacks)),Ii (((⟨t_1,[],[],r_2.1,(0:Int),(0:Int)⟩:zA).Ring).Policy),.sl false 1 (Mb (((⟨t_1,[],[],r_2.1,(0:Int),(0:Int)⟩:zA).Ring).Data)),Ii (((⟨t_1,[],[],r_2.1,(0:Int),(0:Int)⟩:zA).Ring).Start),Ii (((⟨t_1,[],[],r_2.1,(0:Int),(0:Int)⟩:zA).Ring).End),Ii (((⟨t_1,[],[],r_2.1,(0:Int),(0:Int)⟩:zA).Ring).First),Ii (((⟨t_1,[],[],r_2.1,(0:Int),(0:Int)⟩:zA).Ring).Next),Ii ((⟨t_1,[],[],r_2.1,(0:Int),(0:Int)⟩:zA).Last),Ii ((⟨t_1,[],[],r_2.1,(0:Int),(0:Int)⟩:zA).Sent)])] [(6,Pp 0),(7,Ii 0)] [(0,Vb 32 [Ii (((⟨t_1,[],[],r_2.1,(0:Int),(0:Int)⟩:zA).Thread).Id),.str (((⟨t_1,[],[],r_2.1,(0:Int),(0:Int)⟩:zA).Thread).Name),Ii (((⟨t_1,[],[],r_2.1,(0:Int),(0:Int)⟩:zA).Thread).Domain),.sl false 1 (Ms ((⟨t_1,[],[],r_2.1,(0:Int),(0:Int)⟩:zA).Names)),.sl false 2 (Mp zD ((⟨t_1,[],[],r_2.1,(0:Int),(0:Int)⟩:zA).Stacks)),Ii (((⟨t_1,[],[],r_2.1,(0:Int),(0:Int)⟩:zA).Ring).Policy),.sl false 1 (Mb (((⟨t_1,[],[],r_2.1,(0:Int),(0:Int)⟩:zA).Ring).Data)),Ii (((⟨t_1,[],[],r_2.1,(0:Int),(0:Int)⟩:zA).Ring).Start),Ii (((⟨t_1,[],[],r_2.1,(0:Int),(0:Int)⟩:zA).Ring).End),Ii (((⟨t_1,[],[],r_2.1,(0:Int),(0:Int)⟩:zA).Ring).First),Ii (((⟨t_1,[],[],r_2.1,(0:Int),(0:Int)⟩:zA).Ring).Next),Ii ((⟨t_1,[],[],r_2.1,(0:Int),(0:Int)⟩:zA).Last),Ii ((⟨t_1,[],[],r_2.1,(0:Int),(0:Int)⟩:zA).Sent)])] (ar 32 (ac (rfl:vI [Ii (((⟨t_1,[],[],r_2.1,(0:Int),(0:Int)⟩:zA).Thread).Id),.str (((⟨t_1,[],[],r_2.1,(0:Int),(0:Int)⟩:zA).Thread).Name),Ii (((⟨t_1,[],[],r_2.1,(0:Int),(0:Int)⟩:zA).Thread).Domain),.sl false 1 (Ms ((⟨t_1,[],[],r_2.1,(0:Int),(0:Int)⟩:zA).Names)),.sl false 2 (Mp zD ((⟨t_1,[],[],r_2.1,(0:Int),(0:Int)⟩:zA).Stacks)),Ii (((⟨t_1,[],[],r_2.1,(0:Int),(0:Int)⟩:zA).Ring).Policy),.sl false 1 (Mb (((⟨t_1,[],[],r_2.1,(0:Int),(0:Int)⟩:zA).Ring).Data)),Ii (((⟨t_1,[],[],r_2.1,(0:Int),(0:Int)⟩:zA).Ring).Start),Ii (((⟨t_1,[],[],r_2.1,(0:Int),(0:Int)⟩:zA).Ring).End),Ii (((⟨t_1,[],[],r_2.1,(0:Int),(0:Int)⟩:zA).Ring).First),Ii (((⟨t_1,[],[],r_2.1,(0:Int),(0:Int)⟩:zA).Ring).Next),Ii ((⟨t_1,[],[],r_2.1,(0:Int),(0:Int)⟩:zA).Last),Ii ((⟨t_1,[],[],r_2.1,(0:Int),(0:Int)⟩:zA).Sent)]=true) (ac (rfl:(Ii t_1.Id:AV)=Ii (((⟨t_1,[],[],r_2.1,(0:Int),(0:Int)⟩:zA).Thread).Id)) (ac (rfl:(.str t_1.Name:AV)=.str (((⟨t_1,[],[],r_2.1,(0:Int),(0:Int)⟩:zA).Thread).Name)) (ac (rfl:(Ii t_1.Domain:AV)=Ii (((⟨t_1,[],[],r_2.1,(0:Int),(0:Int)⟩:zA).Thread).Domain)) (ac (rfl:((Ms ((⟨t_1,[],[],r_2.1,(0:Int),(0:Int)⟩:zA).Names)):List AV)=[]) (ac (rfl:((Mp zD ((⟨t_1,[],[],r_2.1,(0:Int),(0:Int)⟩:zA).Stacks)):List AV)=[]) (ac (rfl:(Ii r_2.1.Policy:AV)=Ii (((⟨t_1,[],[],r_2.1,(0:Int),(0:Int)⟩:zA).Ring).Policy)) (ar 1 (ac (rfl:((Mb r_2.1.Data):List AV)=(Mb (((⟨t_1,[],[],r_2.1,(0:Int),(0:Int)⟩:zA).Ring).Data))) (ac (rfl:(!false||false)=true) (ac (rfl:(Ii r_2.1.Start:AV)=Ii (((⟨t_1,[],[],r_2.1,(0:Int),(0:Int)⟩:zA).Ring).Start)) (ac (rfl:(Ii r_2.1.End:AV)=Ii (((⟨t_1,[],[],r_2.1,(0:Int),(0:Int)⟩:zA).Ring).End)) (ac (rfl:(Ii r_2.1.First:AV)=Ii (((⟨t_1,[],[],r_2.1,(0:Int),(0:Int)⟩:zA).Ring).First)) (ac (rfl:(Ii r_2.1.Next:AV)=Ii (((⟨t_1,[],[],r_2.1,(0:Int),(0:Int)⟩:zA).Ring).Next)) (ac (rfl:(Ii 0:AV)=Ii ((⟨t_1,[],[],r_2.1,(0:Int),(0:Int)⟩:zA).Last)) (ac (rfl:(Ii 0:AV)=Ii ((⟨t_1,[],[],r_2.1,(0:Int),(0:Int)⟩:zA).Sent)) an))))))))))))))))) ?_
 refine rt ?_
 cases h
 exact ⟨.inr rfl,Nat.le_of_ble_eq_true rfl,by kernel_rfl⟩
theorem zBJ (yP:Int) (r:zE) (h:zBt yP=some r):zS prog 26 [] [] [Ii yP] [] (zN r):=by
 refine yD (fn:=Go.Proofs.Try.f26) (code:=y5 Go.Proofs.Try.f26) (by kernel_rfl) (by kernel_rfl) (Nat.le_of_ble_eq_true (by kernel_rfl)) ?_
 unfold zBt at h
 refine sr [(0,{ id:=0 })] [0,2] [0] 1 [Ii yP,Pp 0] [Vb 45 [Ii 0,Ii 0,.str ([]:List Int),Ii 0,Ii 0,.nilsl]] zF an ?_
 refine sr [] [2] [0] 1 [Pp 0] [Vb 45 [Ii yP,Ii 3,.str ([97]:List Int),Ii 0,Ii 0,.nilsl]] zF an ?_
 refine wk [0] [] [.s 2] [.a 0 (Vb 45 (zT (⟨yP,(3:Int),([97]:List Int),(0:Int),(0:Int),[]⟩:zE)))] [(2,Pp 0)] [(0,Vb 45 (zT (⟨yP,(3:Int),([97]:List Int),(0:Int),(0:Int),[]⟩:zE)))] (ar 45 (ac (rfl:vI [Ii ((⟨yP,(3:Int),([97]:List Int),(0:Int),(0:Int),[]⟩:zE).At),Ii ((⟨yP,(3:Int),([97]:List Int),(0:Int),(0:Int),[]⟩:zE).Kind),.str ((⟨yP,(3:Int),([97]:List Int),(0:Int),(0:Int),[]⟩:zE).Name),Ii ((⟨yP,(3:Int),([97]:List Int),(0:Int),(0:Int),[]⟩:zE).N),Ii ((⟨yP,(3:Int),([97]:List Int),(0:Int),(0:Int),[]⟩:zE).M),.sl false 1 (Ms ((⟨yP,(3:Int),([97]:List Int),(0:Int),(0:Int),[]⟩:zE).Stack))]=true) (ac (rfl:(Ii yP:AV)=Ii ((⟨yP,(3:Int),([97]:List Int),(0:Int),(0:Int),[]⟩:zE).At)) (ac (rfl:(Ii 3:AV)=Ii ((⟨yP,(3:Int),([97]:List Int),(0:Int),(0:Int),[]⟩:zE).Kind)) (ac (rfl:(.str ([97]:List Int):AV)=.str ((⟨yP,(3:Int),([97]:List Int),(0:Int),(0:Int),[]⟩:zE).Name)) (ac (rfl:(Ii 0:AV)=Ii ((⟨yP,(3:Int),([97]:List Int),(0:Int),(0:Int),[]⟩:zE).N)) (ac (rfl:(Ii 0:AV)=Ii ((⟨yP,(3:Int),([97]:List Int),(0:Int),(0:Int),[]⟩:zE).M)) (ac (rfl:((Ms ((⟨yP,(3:Int),([97]:List Int),(0:Int),(0:Int),[]⟩:zE).Stack)):List AV)=[]) an)))))))) ?_
 refine rt ?_
 cases h
 exact ⟨.inr rfl,Nat.le_of_ble_eq_true rfl,by kernel_rfl⟩
theorem zDG (F:Nat) (zI:List (List Int)) (r:Int) (h:jO F zI=some r):zS prog 78 [] [] [.sl false 1 (Ms zI)] [] (Ii r):=by
 refine yD (fn:=Go.Proofs.Try.f78) (code:=y5 Go.Proofs.Try.f78) (by kernel_rfl) (by kernel_rfl) (Nat.le_of_ble_eq_true (by kernel_rfl)) ?_
 unfold jO at h
 refine sr [] [0] [] 0 [.sl false 1 (Ms zI)] [] zF an ?_
 refine sr [(0,{ id:=0,mag:=false,mks:=[.str] })] [0,3] [0] 1 [.sl false 1 (Ms zI),.mp 0] [.live (.map false [.str] [])] zF an ?_
 refine sq ?_
 refine sr [(1,{ n:=(zI).length })] [3,8,9,10] [0] 1 [.mp 0,.sl false 1 (Ms zI),Ii (lN (zI)),Ii 0] [.live (.map false [.str] [])] zF (ac (yO _:((Ms zI)).length=(zI).length) an) ?_
 obtain ⟨o_1,h_1,h⟩:=bind_some h
 refine vL (K1:=(fun e st'=>match o_1 with | (.inl q0)=>e=.normal∧Sub 0 st' (mk [] [] 0) | (.inr q1)=>e=.ret∧kB prog Go.Proofs.Try.f78 0 [] (Ii q1) st')) ?_ ?_
 ·replace h:=h_1
  refine yN (id:=0) (by kernel_rfl) ?_
  refine wk [0] [] [.s 3,.s 8,.s 9,.s 10] [.s 0] [(3,.mp 0),(8,.sl false 1 (Ms zI)),(9,Ii (lN (zI))),(10,Ii 0)] [(0,.live (.map false [.str] []))] an ?_
  refine wH (fun n st=>∃ (v_1:Int),∃ (zL:List ((List Int)×Bool)),st=mk [(3,.mp 0),(8,.sl false 1 (Ms zI)),(9,Ii (lN (zI))),(10,Ii v_1)] [(0,.live (.map false [.str] (List.map (mpE AV.str AV.bool) zL)))] 1∧uK F zI n v_1 zL=some o_1) F (by kernel_rfl) ⟨_,_,rfl,h⟩ ?_ ?_
  ·rintro _ ⟨_,_,_,h⟩;exact w5 (h:(none:Option (Unit⊕Int))=some o_1)
  rintro n_1 _ ⟨v_1,zL,rfl,h⟩
  replace h:wU F zI (uK F zI n_1) v_1 zL=some o_1:=h
  unfold wU at h
  refine sr [] [3,8,9,10,11] [0] 1 [.mp 0,.sl false 1 (Ms zI),Ii (lN (zI)),Ii v_1,.bool (decide (v_1<(lN (zI))))] [.live (.map false [.str] (List.map (mpE AV.str AV.bool) zL))] zF an ?_
  refine sq ?_
  refine cd 11 (decide (v_1<(lN (zI)))) ?_ ?_
  rotate_left
  ·intro g_1;replace h:=zW g_1 h
   refine wS (id:=0) (by kernel_rfl) ?_
   cases h
   exact ⟨rfl,(sw [] [] [] [] an)⟩
  intro g_1;replace h:=zV g_1 h
  refine sk ?_
  refine sq ?_
  refine yN (id:=1) (by kernel_rfl) ?_
  refine sq ?_
  obtain ⟨x_1,h_2,h⟩:=bind_some h
  refine rg [(0,{ av:=.str x_1 })] [3,5,8,9,10] [0] 1 [.mp 0,.str x_1,.sl false 1 (Ms zI),Ii (lN (zI)),Ii v_1] [.live (.map false [.str] (List.map (mpE AV.str AV.bool) zL))] zF (ac (tJ h_2:jA (Ms zI) v_1=some (.str x_1)) an) ?_
  refine sq ?_
  refine sq ?_
  obtain ⟨r_1,h_3,h⟩:=bind_some h
  refine rg [(1,{ av:=Ii r_1,l:=[.str x_1] })] [3,5,6,8,9,10] [0] 1 [.mp 0,.str x_1,Ii r_1,.sl false 1 (Ms zI),Ii (lN (zI)),Ii v_1] [.live (.map false [.str] (List.map (mpE AV.str AV.bool) zL))] zF (ar ([.str x_1]:List AV) (ac (rfl:([]:List zU)=[]) (ac (pL F x_1 r_1 h_3:zS prog 29 [] [] [.str x_1] [] (Ii r_1)) an))) ?_
  refine sr [] [3,5,6,8,9,10,17] [0] 1 [.mp 0,.str x_1,Ii r_1,.sl false 1 (Ms zI),Ii (lN (zI)),Ii v_1,.bool (r_1 != (0:Int))] [.live (.map false [.str] (List.map (mpE AV.str AV.bool) zL))] zF an ?_
  refine cd 17 (r_1 != (0:Int)) ?_ ?_
  ·intro g_2;replace h:=zV g_2 h
   refine sr [] [2] [] 1 [Ii r_1] [] zF an ?_
   refine rt ?_
   cases h
   exact ⟨rfl,Nat.le_of_ble_eq_true rfl,by kernel_rfl⟩
  intro g_2;replace h:=zW g_2 h
  refine sk ?_
  refine sq ?_
  refine sr [(2,{ av:=(.bool ((tS zL x_1).getD false)),g:=(tS zL x_1).isSome })] [3,5,8,9,10,21] [0] 1 [.mp 0,.str x_1,.sl false 1 (Ms zI),Ii (lN (zI)),Ii v_1,.bool ((tS zL x_1).getD false)] [.live (.map false [.str] (List.map (mpE AV.str AV.bool) zL))] zF (ac (zKf:kI prog 9 false [.str]) (ac (zHk (f:=AV.str) (g:=AV.bool) zKv zL x_1 false:zF6 (List.map (mpE AV.str AV.bool) zL) (.str x_1) (.bool false) (.bool ((tS zL x_1).getD false)) (tS zL x_1).isSome) an)) ?_
  refine cd 21 ((tS zL x_1).getD false) ?_ ?_
  ·intro g_3;replace h:=zV g_3 h
   refine sr [] [2] [] 1 [Ii 4] [] zF an ?_
   refine rt ?_
   cases h
   exact ⟨rfl,Nat.le_of_ble_eq_true rfl,by kernel_rfl⟩
  intro g_3;replace h:=zW g_3 h
  refine sk ?_
  obtain ⟨_,h_4,h⟩:=bind_some h;replace h_4:=yU h_4
  refine rg [(2,{ es:=(List.map (mpE AV.str AV.bool) (t3 zL x_1 true)) })] [3,8,9,10] [0] 1 [.mp 0,.sl false 1 (Ms zI),Ii (lN (zI)),Ii v_1] [.live (.map false [.str] (List.map (mpE AV.str AV.bool) (t3 zL x_1 true)))] zF (ac (zKf:kI prog 9 false [.str]) (ac (zIV (f:=AV.str) (g:=AV.bool) zKv zL x_1 true:zJh (List.map (mpE AV.str AV.bool) zL) (.str x_1) (.bool true) (List.map (mpE AV.str AV.bool) (t3 zL x_1 true))) (ac (zKe (l:=zL) h_4:((List.map (mpE AV.str AV.bool) zL):List (AV×AV)).length<maxLen) an))) ?_
  refine rg [] [3,8,9,10] [0] 1 [.mp 0,.sl false 1 (Ms zI),Ii (lN (zI)),Ii (zG (v_1+(1:Int)))] [.live (.map false [.str] (List.map (mpE AV.str AV.bool) (t3 zL x_1 true)))] zF an ?_
  exact ⟨_,(sw [0] [] [.s 3,.s 8,.s 9,.s 10] [.s 0] an),_,_,rfl,h⟩
 intro e st1 hk
 rcases o_1 with q_1 | q_2
 rotate_left
 ·obtain ⟨rfl,hf⟩:=hk
  cases h
  exact ⟨st1,Sub.refl _ _,.inr rfl,hf⟩
 obtain ⟨rfl,hs⟩:=hk
 refine ⟨_,hs,?_⟩
 refine sr [] [2] [] 0 [Ii 0] [] zF an ?_
 refine rt ?_
 cases h
 exact ⟨.inr rfl,Nat.le_of_ble_eq_true rfl,by kernel_rfl⟩
theorem nW (F:Nat) (zI:List (List Int)) (zH:List (zJ)) (r:Int) (h:q7 F zI zH=some r):zS prog 50 [] [] [.sl false 1 (Ms zI),.sl false 2 (Mp zD zH)] [] (Ii r):=by
 refine yD (fn:=Go.Proofs.Try.f50) (code:=y5 Go.Proofs.Try.f50) (by kernel_rfl) (by kernel_rfl) (Nat.le_of_ble_eq_true (by kernel_rfl)) ?_
 unfold q7 at h
 refine sr [] [0,1] [] 0 [.sl false 1 (Ms zI),.sl false 2 (Mp zD zH)] [] zF an ?_
 refine sq ?_
 refine sq ?_
 refine yV (mk [(0,.sl false 1 (Ms zI)),(1,.sl false 2 (Mp zD zH)),(17,.bool (decide ((lN (zI))>(1000:Int))||decide ((lN (zH))>(1000:Int))))] [] 0) ?_ ?_
 ·rcases bft (decide ((lN (zI))>(1000:Int))) with zX | zX
  ·refine rg [(1,{ n:=(zI).length }),(4,Hg),(5,Hg),(6,Hg),(7,Ht)] [0,1,17] [] 0 [.sl false 1 (Ms zI),.sl false 2 (Mp zD zH),.bool true] [] zF (ac (yO _:((Ms zI)).length=(zI).length) (ac zX (ac zX (ac zX (ac zX an))))) ?_
   exact ⟨rfl,(sw [] [] [.s 0,.s 1,.a 17 (.bool (decide ((lN (zI))>(1000:Int))||decide ((lN (zH))>(1000:Int))))] [] (ac (congrArg AV.bool (ort zX):(.bool true:AV)=.bool (decide ((lN (zI))>(1000:Int))||decide ((lN (zH))>(1000:Int)))) an))⟩
  ·refine rg [(1,{ n:=(zI).length }),(5,{ n:=(zH).length }),(7,Hf)] [0,1,17] [] 0 [.sl false 1 (Ms zI),.sl false 2 (Mp zD zH),.bool (decide ((lN (zH))>(1000:Int)))] [] zF (ac (yO _:((Ms zI)).length=(zI).length) (ac zX (ac zX (ac (yO _:((Mp zD zH)).length=(zH).length) (ac zX (ac zX an)))))) ?_
   exact ⟨rfl,(sw [] [] [.s 0,.s 1,.a 17 (.bool (decide ((lN (zI))>(1000:Int))||decide ((lN (zH))>(1000:Int))))] [] (ac (congrArg AV.bool (orf zX rfl):(.bool (decide ((lN (zH))>(1000:Int))):AV)=.bool (decide ((lN (zI))>(1000:Int))||decide ((lN (zH))>(1000:Int)))) an))⟩
 refine cd 17 (decide ((lN (zI))>(1000:Int))||decide ((lN (zH))>(1000:Int))) ?_ ?_
 ·intro g_1;replace h:=zV g_1 h
  refine sr [] [4] [] 0 [Ii 7] [] zF an ?_
  refine rt ?_
  cases h
  exact ⟨.inr rfl,Nat.le_of_ble_eq_true rfl,by kernel_rfl⟩
 intro g_1;replace h:=zW g_1 h
 refine sk ?_
 refine sq ?_
 refine sq ?_
 obtain ⟨r_1,h_1,h⟩:=bind_some h
 refine rg [(1,{ av:=Ii r_1,l:=[.sl false 1 (Ms zI)] })] [0,1,5] [] 0 [.sl false 1 (Ms zI),.sl false 2 (Mp zD zH),Ii r_1] [] zF (ar ([.sl false 1 (Ms zI)]:List AV) (ac (rfl:([]:List zU)=[]) (ac (zDG F zI r_1 h_1:zS prog 78 [] [] [.sl false 1 (Ms zI)] [] (Ii r_1)) an))) ?_
 refine sr [] [0,1,5,21] [] 0 [.sl false 1 (Ms zI),.sl false 2 (Mp zD zH),Ii r_1,.bool (r_1 != (0:Int))] [] zF an ?_
 refine cd 21 (r_1 != (0:Int)) ?_ ?_
 ·intro g_2;replace h:=zV g_2 h
  refine sr [] [4] [] 0 [Ii r_1] [] zF an ?_
  refine rt ?_
  cases h
  exact ⟨.inr rfl,Nat.le_of_ble_eq_true rfl,by kernel_rfl⟩
 intro g_2;replace h:=zW g_2 h
 refine sk ?_
 refine sr [(0,{ id:=0,mag:=true,mks:=[.int .i64,.int .i64] })] [0,1,6] [0] 1 [.sl false 1 (Ms zI),.sl false 2 (Mp zD zH),.mp 0] [.live (.map true [.int .i64,.int .i64] [])] zF an ?_
 refine sq ?_
 obtain ⟨_,h_2,h⟩:=bind_some h;replace h_2:=yU h_2
 refine rg [(1,{ n:=(zH).length }),(2,{ id:=1,l:=(Mi (List.replicate ((zH).length) (0:Int))),m:=(zH).length,n:=(zH).length })] [0,1,6,7] [0,1] 2 [.sl false 1 (Ms zI),.sl false 2 (Mp zD zH),.mp 0,.own 1 ((zH).length)] [.live (.map true [.int .i64,.int .i64] []),Rb 3 1 (Mi (List.replicate ((zH).length) (0:Int)))] zF (ac (yO _:((Mp zD zH)).length=(zH).length) (ar (lN (zH)) (ar (lN (zH)) (ac (Nat.le_refl _:((zH).length)≤((zH).length)) (ac h_2 (ac (zJt:(Mi (List.replicate ((zH).length) (0:Int)))=List.replicate ((zH).length) (Ii 0)) an)))))) ?_
 refine sq ?_
 refine sr [(1,{ n:=(zH).length })] [0,6,7,27,28,29] [0,1] 2 [.sl false 1 (Ms zI),.mp 0,.own 1 ((zH).length),.sl false 2 (Mp zD zH),Ii (lN (zH)),Ii 0] [.live (.map true [.int .i64,.int .i64] []),Rb 3 1 (Mi (List.replicate ((zH).length) (0:Int)))] zF (ac (yO _:((Mp zD zH)).length=(zH).length) an) ?_
 obtain ⟨o_1,h_3,h⟩:=bind_some h
 refine vL (K1:=(fun e st'=>match o_1 with | (.inl q0)=>e=.normal∧Sub 0 st' (mk [] [] 0) | (.inr q1)=>e=.ret∧kB prog Go.Proofs.Try.f50 0 [] (Ii q1) st')) ?_ ?_
 ·replace h:=h_3
  refine yN (id:=0) (by kernel_rfl) ?_
  refine wk [0,1] [] [.s 0,.s 6,.a 7 (.own 1 (((List.replicate ((zH).length) (0:Int))).length)),.s 27,.s 28,.s 29] [.s 0,.s 1] [(0,.sl false 1 (Ms zI)),(6,.mp 0),(7,.own 1 (((List.replicate ((zH).length) (0:Int))).length)),(27,.sl false 2 (Mp zD zH)),(28,Ii (lN (zH))),(29,Ii 0)] [(0,.live (.map true [.int .i64,.int .i64] [])),(1,Rb 3 1 (Mi (List.replicate ((zH).length) (0:Int))))] (ac (congrArg (AV.own _) List.length_replicate.symm:(.own 1 ((zH).length):AV)=.own 1 (((List.replicate ((zH).length) (0:Int))).length)) an) ?_
  refine wH (fun n st=>∃ (v_1:Int),∃ (zL:List (zJ×Bool)),∃ (xB:List Int),st=mk [(0,.sl false 1 (Ms zI)),(6,.mp 0),(7,.own 1 ((xB).length)),(27,.sl false 2 (Mp zD zH)),(28,Ii (lN (zH))),(29,Ii v_1)] [(0,.live (.map true [.int .i64,.int .i64] (List.map (mpE zD AV.bool) zL))),(1,Rb 3 1 (Mi xB))] 2∧jH F zI zH n v_1 zL xB=some o_1) F (by kernel_rfl) ⟨_,_,_,rfl,h⟩ ?_ ?_
  ·rintro _ ⟨_,_,_,_,h⟩;exact w5 (h:(none:Option (Unit⊕Int))=some o_1)
  rintro n_1 _ ⟨v_1,zL,xB,rfl,h⟩
  replace h:tO F zI zH (jH F zI zH n_1) v_1 zL xB=some o_1:=h
  unfold tO at h
  refine sr [] [0,6,7,27,28,29,30] [0,1] 2 [.sl false 1 (Ms zI),.mp 0,.own 1 ((xB).length),.sl false 2 (Mp zD zH),Ii (lN (zH)),Ii v_1,.bool (decide (v_1<(lN (zH))))] [.live (.map true [.int .i64,.int .i64] (List.map (mpE zD AV.bool) zL)),Rb 3 1 (Mi xB)] zF an ?_
  refine sq ?_
  refine cd 30 (decide (v_1<(lN (zH)))) ?_ ?_
  rotate_left
  ·intro g_3;replace h:=zW g_3 h
   refine wS (id:=0) (by kernel_rfl) ?_
   cases h
   exact ⟨rfl,(sw [] [] [] [] an)⟩
  intro g_3;replace h:=zV g_3 h
  refine sk ?_
  refine sq ?_
  refine yN (id:=1) (by kernel_rfl) ?_
  refine sq ?_
  obtain ⟨x_1,h_4,h⟩:=bind_some h
  refine rg [(1,{ av:=.agg [Ii x_1.c0,Ii x_1.c1] }),(3,{ id:=2 })] [0,6,7,8,9,27,28,29] [0,1,2] 3 [.sl false 1 (Ms zI),.mp 0,.own 1 ((xB).length),Ii v_1,Pp 2,.sl false 2 (Mp zD zH),Ii (lN (zH)),Ii v_1] [.live (.map true [.int .i64,.int .i64] (List.map (mpE zD AV.bool) zL)),Rb 3 1 (Mi xB),Vb 84 [Ii x_1.c0,Ii x_1.c1]] zF (ac (tJ h_4:jA (Mp zD zH) v_1=some (.agg [Ii x_1.c0,Ii x_1.c1])) an) ?_
  refine sq ?_
  refine yN (id:=2) (by kernel_rfl) ?_
  refine sq ?_
  refine yV (mk [(0,.sl false 1 (Ms zI)),(6,.mp 0),(7,.own 1 ((xB).length)),(8,Ii v_1),(9,Pp 2),(27,.sl false 2 (Mp zD zH)),(28,Ii (lN (zH))),(29,Ii v_1),(34,.bool (decide (x_1.c0<(-1:Int))||(decide (x_1.c0≥v_1)||(decide (x_1.c1<(0:Int))||decide (x_1.c1≥(lN (zI)))))))] [(0,.live (.map true [.int .i64,.int .i64] (List.map (mpE zD AV.bool) zL))),(1,Rb 3 1 (Mi xB)),(2,Vb 84 [Ii x_1.c0,Ii x_1.c1])] 3) ?_ ?_
  ·rcases bft (decide (x_1.c0<(-1:Int))) with yF | yF
   ·refine rg [(4,Hg),(5,Hg),(6,Hg),(7,Hg),(8,Ht),(10,Hg),(11,Hg),(12,Hg),(13,Ht),(15,Hg),(16,Hg),(17,Hg),(18,Hg),(19,Hg),(20,Ht)] [0,6,7,8,9,27,28,29,34,39,40,41,42,45,46,47,50,51,52,53,54] [0,1,2] 3 [.sl false 1 (Ms zI),.mp 0,.own 1 ((xB).length),Ii v_1,Pp 2,.sl false 2 (Mp zD zH),Ii (lN (zH)),Ii v_1,.bool true,.tuple [],.tuple [],.tuple [],.tuple [],.tuple [],.tuple [],.tuple [],.tuple [],.tuple [],.tuple [],.tuple [],.tuple []] [.live (.map true [.int .i64,.int .i64] (List.map (mpE zD AV.bool) zL)),Rb 3 1 (Mi xB),Vb 84 [Ii x_1.c0,Ii x_1.c1]] zF (ac (by decide:(0:Int)≤(0:Int)) (ac (by decide:(0:Int)<((2:Nat):Int)) (ac yF (ac yF (ac yF (ac yF (ac yF (ax (ax (ax (ar true (ax (ax (ax (ax (ax (ar true an))))))))))))))))) ?_
    exact ⟨rfl,(sw [0,1,2] [] [.s 0,.s 6,.s 7,.s 8,.s 9,.s 27,.s 28,.s 29,.a 34 (.bool (decide (x_1.c0<(-1:Int))||(decide (x_1.c0≥v_1)||(decide (x_1.c1<(0:Int))||decide (x_1.c1≥(lN (zI)))))))] [.s 0,.s 1,.s 2] (ac (congrArg AV.bool (ort yF):(.bool true:AV)=.bool (decide (x_1.c0<(-1:Int))||(decide (x_1.c0≥v_1)||(decide (x_1.c1<(0:Int))||decide (x_1.c1≥(lN (zI))))))) an))⟩
   ·rcases bft (decide (x_1.c0≥v_1)) with yM | yM
    ·refine rg [(8,Hf),(10,Hg),(11,Hg),(12,Hg),(13,Ht),(15,Hg),(16,Hg),(17,Hg),(18,Hg),(19,Hg),(20,Ht)] [0,6,7,8,9,27,28,29,34,39,40,41,42,45,46,47,50,51,52,53,54] [0,1,2] 3 [.sl false 1 (Ms zI),.mp 0,.own 1 ((xB).length),Ii v_1,Pp 2,.sl false 2 (Mp zD zH),Ii (lN (zH)),Ii v_1,.bool true,Pp 2,Ii x_1.c0,Ii v_1,.bool (decide (x_1.c0≥v_1)),.tuple [],.tuple [],.tuple [],.tuple [],.tuple [],.tuple [],.tuple [],.tuple []] [.live (.map true [.int .i64,.int .i64] (List.map (mpE zD AV.bool) zL)),Rb 3 1 (Mi xB),Vb 84 [Ii x_1.c0,Ii x_1.c1]] zF (ac (by decide:(0:Int)≤(0:Int)) (ac (by decide:(0:Int)<((2:Nat):Int)) (ac yF (ac (by decide:(0:Int)≤(0:Int)) (ac (by decide:(0:Int)<((2:Nat):Int)) (ac yF (ac yF (ac yF (ac yF (ac yM (ac yM (ac yM (ac yM (ax (ax (ax (ax (ax (ar true an))))))))))))))))))) ?_
     exact ⟨rfl,(sw [0,1,2] [] [.s 0,.s 6,.s 7,.s 8,.s 9,.s 27,.s 28,.s 29,.a 34 (.bool (decide (x_1.c0<(-1:Int))||(decide (x_1.c0≥v_1)||(decide (x_1.c1<(0:Int))||decide (x_1.c1≥(lN (zI)))))))] [.s 0,.s 1,.s 2] (ac (congrArg AV.bool (orf yF (ort yM)):(.bool true:AV)=.bool (decide (x_1.c0<(-1:Int))||(decide (x_1.c0≥v_1)||(decide (x_1.c1<(0:Int))||decide (x_1.c1≥(lN (zI))))))) an))⟩
    ·rcases bft (decide (x_1.c1<(0:Int))) with y8 | y8
     ·refine rg [(8,Hf),(13,Hf),(15,Hg),(16,Hg),(17,Hg),(18,Hg),(19,Hg),(20,Ht)] [0,6,7,8,9,27,28,29,34,39,40,41,42,45,46,47,50,51,52,53,54] [0,1,2] 3 [.sl false 1 (Ms zI),.mp 0,.own 1 ((xB).length),Ii v_1,Pp 2,.sl false 2 (Mp zD zH),Ii (lN (zH)),Ii v_1,.bool true,Pp 2,Ii x_1.c0,Ii v_1,.bool (decide (x_1.c0≥v_1)),.ptr 2 0 0 1,Ii x_1.c1,.bool (decide (x_1.c1<(0:Int))),.tuple [],.tuple [],.tuple [],.tuple [],.tuple []] [.live (.map true [.int .i64,.int .i64] (List.map (mpE zD AV.bool) zL)),Rb 3 1 (Mi xB),Vb 84 [Ii x_1.c0,Ii x_1.c1]] zF (ac (by decide:(0:Int)≤(0:Int)) (ac (by decide:(0:Int)<((2:Nat):Int)) (ac yF (ac (by decide:(0:Int)≤(0:Int)) (ac (by decide:(0:Int)<((2:Nat):Int)) (ac yF (ac yF (ac yF (ac yF (ac yM (ac (by decide:(0:Int)≤(1:Int)) (ac (by decide:(1:Int)<((2:Nat):Int)) (ac yM (ac yM (ac yM (ac y8 (ac y8 (ac y8 (ac y8 (ac y8 (ac y8 an))))))))))))))))))))) ?_
      exact ⟨rfl,(sw [0,1,2] [] [.s 0,.s 6,.s 7,.s 8,.s 9,.s 27,.s 28,.s 29,.a 34 (.bool (decide (x_1.c0<(-1:Int))||(decide (x_1.c0≥v_1)||(decide (x_1.c1<(0:Int))||decide (x_1.c1≥(lN (zI)))))))] [.s 0,.s 1,.s 2] (ac (congrArg AV.bool (orf yF (orf yM (ort y8))):(.bool true:AV)=.bool (decide (x_1.c0<(-1:Int))||(decide (x_1.c0≥v_1)||(decide (x_1.c1<(0:Int))||decide (x_1.c1≥(lN (zI))))))) an))⟩
     ·refine rg [(8,Hf),(13,Hf),(18,{ n:=(zI).length }),(20,Hf)] [0,6,7,8,9,27,28,29,34,39,40,41,42,45,46,47,50,51,52,53,54] [0,1,2] 3 [.sl false 1 (Ms zI),.mp 0,.own 1 ((xB).length),Ii v_1,Pp 2,.sl false 2 (Mp zD zH),Ii (lN (zH)),Ii v_1,.bool (decide (x_1.c1≥(lN (zI)))),Pp 2,Ii x_1.c0,Ii v_1,.bool (decide (x_1.c0≥v_1)),.ptr 2 0 0 1,Ii x_1.c1,.bool (decide (x_1.c1<(0:Int))),.ptr 2 0 0 1,Ii x_1.c1,.sl false 1 (Ms zI),Ii (lN (zI)),.bool (decide (x_1.c1≥(lN (zI))))] [.live (.map true [.int .i64,.int .i64] (List.map (mpE zD AV.bool) zL)),Rb 3 1 (Mi xB),Vb 84 [Ii x_1.c0,Ii x_1.c1]] zF (ac (by decide:(0:Int)≤(0:Int)) (ac (by decide:(0:Int)<((2:Nat):Int)) (ac yF (ac (by decide:(0:Int)≤(0:Int)) (ac (by decide:(0:Int)<((2:Nat):Int)) (ac yF (ac yF (ac yF (ac yF (ac yM (ac (by decide:(0:Int)≤(1:Int)) (ac (by decide:(1:Int)<((2:Nat):Int)) (ac yM (ac yM (ac yM (ac y8 (ac (by decide:(0:Int)≤(1:Int)) (ac (by decide:(1:Int)<((2:Nat):Int)) (ac y8 (ac y8 (ac y8 (ac (yO _:((Ms zI)).length=(zI).length) (ac y8 (ac y8 an)))))))))))))))))))))))) ?_
      exact ⟨rfl,(sw [0,1,2] [] [.s 0,.s 6,.s 7,.s 8,.s 9,.s 27,.s 28,.s 29,.a 34 (.bool (decide (x_1.c0<(-1:Int))||(decide (x_1.c0≥v_1)||(decide (x_1.c1<(0:Int))||decide (x_1.c1≥(lN (zI)))))))] [.s 0,.s 1,.s 2] (ac (congrArg AV.bool (orf yF (orf yM (orf y8 rfl))):(.bool (decide (x_1.c1≥(lN (zI)))):AV)=.bool (decide (x_1.c0<(-1:Int))||(decide (x_1.c0≥v_1)||(decide (x_1.c1<(0:Int))||decide (x_1.c1≥(lN (zI))))))) an))⟩
  refine cd 34 (decide (x_1.c0<(-1:Int))||(decide (x_1.c0≥v_1)||(decide (x_1.c1<(0:Int))||decide (x_1.c1≥(lN (zI)))))) ?_ ?_
  ·intro g_4;replace h:=zV g_4 h
   refine sr [] [4] [] 3 [Ii 2] [] zF an ?_
   refine rt ?_
   cases h
   exact ⟨rfl,Nat.le_of_ble_eq_true rfl,by kernel_rfl⟩
  intro g_4;replace h:=zW g_4 h
  refine sr [(2,{ av:=(.bool ((tS zL x_1).getD false)),g:=(tS zL x_1).isSome })] [0,6,7,8,9,27,28,29,56] [0,1,2] 3 [.sl false 1 (Ms zI),.mp 0,.own 1 ((xB).length),Ii v_1,Pp 2,.sl false 2 (Mp zD zH),Ii (lN (zH)),Ii v_1,.bool ((tS zL x_1).getD false)] [.live (.map true [.int .i64,.int .i64] (List.map (mpE zD AV.bool) zL)),Rb 3 1 (Mi xB),Vb 84 [Ii x_1.c0,Ii x_1.c1]] zF (ac (zFw:kI prog 84 true [.int .i64,.int .i64]) (ac (zHk (f:=zD) (g:=AV.bool) zA9 zL x_1 false:zF6 (List.map (mpE zD AV.bool) zL) (.agg [Ii x_1.c0,Ii x_1.c1]) (.bool false) (.bool ((tS zL x_1).getD false)) (tS zL x_1).isSome) an)) ?_
  refine cd 56 ((tS zL x_1).getD false) ?_ ?_
  ·intro g_5;replace h:=zV g_5 h
   refine sr [] [4] [] 3 [Ii 4] [] zF an ?_
   refine rt ?_
   cases h
   exact ⟨rfl,Nat.le_of_ble_eq_true rfl,by kernel_rfl⟩
  intro g_5;replace h:=zW g_5 h
  refine sk ?_
  refine sq ?_
  obtain ⟨_,h_5,h⟩:=bind_some h;replace h_5:=yU h_5
  refine rg [(2,{ es:=(List.map (mpE zD AV.bool) (t3 zL x_1 true)) })] [0,6,7,8,9,27,28,29] [0,1,2] 3 [.sl false 1 (Ms zI),.mp 0,.own 1 ((xB).length),Ii v_1,Pp 2,.sl false 2 (Mp zD zH),Ii (lN (zH)),Ii v_1] [.live (.map true [.int .i64,.int .i64] (List.map (mpE zD AV.bool) (t3 zL x_1 true))),Rb 3 1 (Mi xB),Vb 84 [Ii x_1.c0,Ii x_1.c1]] zF (ac (zFw:kI prog 84 true [.int .i64,.int .i64]) (ac (zIV (f:=zD) (g:=AV.bool) zA9 zL x_1 true:zJh (List.map (mpE zD AV.bool) zL) (.agg [Ii x_1.c0,Ii x_1.c1]) (.bool true) (List.map (mpE zD AV.bool) (t3 zL x_1 true))) (ac (zKe (l:=zL) h_5:((List.map (mpE zD AV.bool) zL):List (AV×AV)).length<maxLen) an))) ?_
  refine sq ?_
  obtain ⟨x_2,h_6,h⟩:=bind_some h
  refine rg [(3,{ av:=Ii x_2,l:=(Mi ((xB).set ((v_1).toNat) (1:Int))) })] [0,6,7,8,9,27,28,29] [0,1,2] 3 [.sl false 1 (Ms zI),.mp 0,.own 1 ((xB).length),Ii v_1,Pp 2,.sl false 2 (Mp zD zH),Ii (lN (zH)),Ii v_1] [.live (.map true [.int .i64,.int .i64] (List.map (mpE zD AV.bool) (t3 zL x_1 true))),Rb 3 1 (Mi ((xB).set ((v_1).toNat) (1:Int))),Vb 84 [Ii x_1.c0,Ii x_1.c1]] zF (ac (y6 h_6:(0:Int)≤v_1) (ac (by first | (simp;done) | simpa using y7 h_6:v_1<(((xB).length:Nat):Int)) (ac (xD h_6:(Mi xB)[(v_1).toNat]?=some (Ii x_2)) (ac (zDo _ _ _:(Mi ((xB).set ((v_1).toNat) (1:Int)))=List.set (Mi xB) ((v_1).toNat) (nO (Ii x_2) 0 [Ii 1])) an)))) ?_
  refine sq ?_
  refine sr [] [0,6,7,8,9,27,28,29,67] [0,1,2] 3 [.sl false 1 (Ms zI),.mp 0,.own 1 ((xB).length),Ii v_1,Pp 2,.sl false 2 (Mp zD zH),Ii (lN (zH)),Ii v_1,.bool (x_1.c0 != (-1:Int))] [.live (.map true [.int .i64,.int .i64] (List.map (mpE zD AV.bool) (t3 zL x_1 true))),Rb 3 1 (Mi ((xB).set ((v_1).toNat) (1:Int))),Vb 84 [Ii x_1.c0,Ii x_1.c1]] zF (ac (by decide:(0:Int)≤(0:Int)) (ac (by decide:(0:Int)<((2:Nat):Int)) an)) ?_
  obtain ⟨o_2,h_7,h⟩:=bind_some h
  refine yV (mk [(0,.sl false 1 (Ms zI)),(6,.mp 0),(7,.own 1 ((o_2).length)),(8,Ii v_1),(27,.sl false 2 (Mp zD zH)),(28,Ii (lN (zH))),(29,Ii v_1)] [(0,.live (.map true [.int .i64,.int .i64] (List.map (mpE zD AV.bool) (t3 zL x_1 true)))),(1,Rb 3 1 (Mi o_2))] 2) ?_ ?_
  ·replace h:=h_7
   refine cd 67 (x_1.c0 != (-1:Int)) ?_ ?_
   rotate_left
   ·intro g_6;replace h:=zW g_6 h
    refine sk ?_
    cases h
    exact ⟨rfl,(sw [0,1] [] [.s 0,.s 6,.a 7 (.own 1 (((xB).set ((v_1).toNat) (1:Int)).length)),.s 8,.s 27,.s 28,.s 29] [.s 0,.s 1] (ac (congrArg (AV.own _) (by first | (simp;done) | (simp;omega)):(.own 1 ((xB).length):AV)=.own 1 (((xB).set ((v_1).toNat) (1:Int)).length)) an))⟩
   intro g_6;replace h:=zV g_6 h
   obtain ⟨x_3,h_8,h⟩:=bind_some h
   obtain ⟨x_4,h_9,h⟩:=bind_some h
   obtain ⟨x_5,kX,h⟩:=bind_some h
   refine rg [(3,{ av:=Ii x_3 }),(8,{ av:=Ii x_4 }),(11,{ av:=Ii x_5,l:=(Mi (((xB).set ((v_1).toNat) (1:Int)).set ((v_1).toNat) (zG (x_3+x_4)))) })] [0,6,7,8,27,28,29] [0,1] 3 [.sl false 1 (Ms zI),.mp 0,.own 1 ((xB).length),Ii v_1,.sl false 2 (Mp zD zH),Ii (lN (zH)),Ii v_1] [.live (.map true [.int .i64,.int .i64] (List.map (mpE zD AV.bool) (t3 zL x_1 true))),Rb 3 1 (Mi (((xB).set ((v_1).toNat) (1:Int)).set ((v_1).toNat) (zG (x_3+x_4))))] zF (ac (y6 h_8:(0:Int)≤v_1) (ac (by first | (simp;done) | simpa using y7 h_8:v_1<(((xB).length:Nat):Int)) (ac (xD h_8:(Mi ((xB).set ((v_1).toNat) (1:Int)))[(v_1).toNat]?=some (Ii x_3)) (ac (by decide:(0:Int)≤(0:Int)) (ac (by decide:(0:Int)<((2:Nat):Int)) (ac (y6 h_9:(0:Int)≤x_1.c0) (ac (by first | (simp;done) | simpa using y7 h_9:x_1.c0<(((xB).length:Nat):Int)) (ac (xD h_9:(Mi ((xB).set ((v_1).toNat) (1:Int)))[(x_1.c0).toNat]?=some (Ii x_4)) (ac (y6 kX:(0:Int)≤v_1) (ac (by first | (simp;done) | simpa using y7 kX:v_1<(((xB).length:Nat):Int)) (ac (xD kX:(Mi ((xB).set ((v_1).toNat) (1:Int)))[(v_1).toNat]?=some (Ii x_5)) (ac (zDo _ _ _:(Mi (((xB).set ((v_1).toNat) (1:Int)).set ((v_1).toNat) (zG (x_3+x_4))))=List.set (Mi ((xB).set ((v_1).toNat) (1:Int))) ((v_1).toNat) (nO (Ii x_5) 0 [Ii (zG (x_3+x_4))])) an)))))))))))) ?_
   cases h
   exact ⟨rfl,(sw [0,1] [] [.s 0,.s 6,.a 7 (.own 1 ((((xB).set ((v_1).toNat) (1:Int)).set ((v_1).toNat) (zG (x_3+x_4))).length)),.s 8,.s 27,.s 28,.s 29] [.s 0,.s 1] (ac (congrArg (AV.own _) (by first | (simp;done) | (simp;omega)):(.own 1 ((xB).length):AV)=.own 1 ((((xB).set ((v_1).toNat) (1:Int)).set ((v_1).toNat) (zG (x_3+x_4))).length)) an))⟩
  refine sq ?_
  obtain ⟨x_6,kC,h⟩:=bind_some h
  refine rg [(3,{ av:=Ii x_6 })] [0,6,7,27,28,29,83] [0,1] 2 [.sl false 1 (Ms zI),.mp 0,.own 1 ((o_2).length),.sl false 2 (Mp zD zH),Ii (lN (zH)),Ii v_1,.bool (decide (x_6>(32:Int)))] [.live (.map true [.int .i64,.int .i64] (List.map (mpE zD AV.bool) (t3 zL x_1 true))),Rb 3 1 (Mi o_2)] zF (ac (y6 kC:(0:Int)≤v_1) (ac (by first | (simp;done) | simpa using y7 kC:v_1<(((o_2).length:Nat):Int)) (ac (xD kC:(Mi o_2)[(v_1).toNat]?=some (Ii x_6)) an))) ?_
  refine cd 83 (decide (x_6>(32:Int))) ?_ ?_
  rotate_left
  ·intro g_7;replace h:=zW g_7 h
   refine sk ?_
   refine rg [] [0,6,7,27,28,29] [0,1] 2 [.sl false 1 (Ms zI),.mp 0,.own 1 ((o_2).length),.sl false 2 (Mp zD zH),Ii (lN (zH)),Ii (zG (v_1+(1:Int)))] [.live (.map true [.int .i64,.int .i64] (List.map (mpE zD AV.bool) (t3 zL x_1 true))),Rb 3 1 (Mi o_2)] zF an ?_
   exact ⟨_,(sw [0,1] [] [.s 0,.s 6,.s 7,.s 27,.s 28,.s 29] [.s 0,.s 1] an),_,_,_,rfl,h⟩
  intro g_7;replace h:=zV g_7 h
  refine sr [] [4] [] 2 [Ii 7] [] zF an ?_
  refine rt ?_
  cases h
  exact ⟨rfl,Nat.le_of_ble_eq_true rfl,by kernel_rfl⟩
 intro e st1 hk
 rcases o_1 with q_1 | q_2
 rotate_left
 ·obtain ⟨rfl,hf⟩:=hk
  cases h
  exact ⟨st1,Sub.refl _ _,.inr rfl,hf⟩
 obtain ⟨rfl,hs⟩:=hk
 refine ⟨_,hs,?_⟩
 refine sr [] [4] [] 0 [Ii 0] [] zF an ?_
 refine rt ?_
 cases h
 exact ⟨.inr rfl,Nat.le_of_ble_eq_true rfl,by kernel_rfl⟩
theorem zFu (r_1:zB) (r:(List (Int))) (h:nG r_1=some r):zS prog 81 [] [] [z6 r_1] [.row 5 1 (Mb r)] (.own 0 ((r).length)):=by
 refine yD (fn:=Go.Proofs.Try.f81) (code:=y5 Go.Proofs.Try.f81) (by kernel_rfl) (by kernel_rfl) (Nat.le_of_ble_eq_true (by kernel_rfl)) ?_
 unfold nG at h
 refine sr [(0,{ id:=0 }),(1,{ id:=1,m:=1 })] [1] [0] 2 [Pp 0] [Vb 30 (zP r_1)] zF an ?_
 refine sq ?_
 obtain ⟨_,h_1,h⟩:=bind_some h;replace h_1:=yU h_1
 refine rg [(5,{ id:=2,l:=(Mb (List.replicate ((zG (r_1.End - r_1.Start)).toNat) (0:Int))),m:=(zG (r_1.End - r_1.Start)).toNat,n:=(zG (r_1.End - r_1.Start)).toNat })] [1,3] [0,2] 3 [Pp 0,.own 2 ((zG (r_1.End - r_1.Start)).toNat)] [Vb 30 (zP r_1),Rb 5 1 (Mb (List.replicate ((zG (r_1.End - r_1.Start)).toNat) (0:Int)))] zF (ac ((Int.toNat_of_nonneg h_1.1).symm:zG (r_1.End - r_1.Start)=(((zG (r_1.End - r_1.Start)).toNat:Nat):Int)) (ac ((Int.toNat_of_nonneg h_1.1).symm:zG (r_1.End - r_1.Start)=(((zG (r_1.End - r_1.Start)).toNat:Nat):Int)) (ac (Nat.le_refl _:((zG (r_1.End - r_1.Start)).toNat)≤((zG (r_1.End - r_1.Start)).toNat)) (ac h_1.2 (ac (zJt:(Mb (List.replicate ((zG (r_1.End - r_1.Start)).toNat) (0:Int)))=List.replicate ((zG (r_1.End - r_1.Start)).toNat) (Iu 0)) an))))) ?_
 refine sq ?_
 obtain ⟨_,h_2,h⟩:=bind_some h;replace h_2:=yU h_2
 refine rg [(4,{ n:=(r_1.Data).length })] [1,3,4] [0,2] 3 [Pp 0,.own 2 ((zG (r_1.End - r_1.Start)).toNat),Ii (yH r_1.Start (lN (r_1.Data)))] [Vb 30 (zP r_1),Rb 5 1 (Mb (List.replicate ((zG (r_1.End - r_1.Start)).toNat) (0:Int)))] zF (ac (yO _:((Mb r_1.Data)).length=(r_1.Data).length) (ac h_2 an)) ?_
 refine sq ?_
 obtain ⟨_,h_3,h⟩:=bind_some h;replace h_3:=yU h_3
 obtain ⟨_,h_4,h⟩:=bind_some h;replace h_4:=yU h_4
 refine rg [(4,{ l:=(Mb (sub r_1.Data (yH r_1.Start (lN (r_1.Data))) (lN (r_1.Data)))) }),(5,{ l:=(Mb (cpy (List.replicate ((zG (r_1.End - r_1.Start)).toNat) (0:Int)) 0 ((zG (r_1.End - r_1.Start)).toNat) (sub r_1.Data (yH r_1.Start (lN (r_1.Data))) (lN (r_1.Data))))),n:=(min (sub r_1.Data (yH r_1.Start (lN (r_1.Data))) (lN (r_1.Data))).length ((zG (r_1.End - r_1.Start)).toNat - 0)) })] [1,3,5] [0,2] 3 [Pp 0,.own 2 ((zG (r_1.End - r_1.Start)).toNat),Ii (((min (sub r_1.Data (yH r_1.Start (lN (r_1.Data))) (lN (r_1.Data))).length ((zG (r_1.End - r_1.Start)).toNat - 0)):Nat):Int)] [Vb 30 (zP r_1),Rb 5 1 (Mb (cpy (List.replicate ((zG (r_1.End - r_1.Start)).toNat) (0:Int)) 0 ((zG (r_1.End - r_1.Start)).toNat) (sub r_1.Data (yH r_1.Start (lN (r_1.Data))) (lN (r_1.Data)))))] zF (ac h_3.1 (ac (p7 h_3.2:(yH r_1.Start (lN (r_1.Data)))≤(lN ((Mb r_1.Data)))) (ac (Int.le_refl _:(lN ((Mb r_1.Data)))≤(lN ((Mb r_1.Data)))) (ac (zDe _ _:(Mb (sub r_1.Data (yH r_1.Start (lN (r_1.Data))) (lN (r_1.Data))))=(((Mb r_1.Data)).take ((lN ((Mb r_1.Data)))).toNat).drop (yH r_1.Start (lN (r_1.Data))).toNat) (ac (trivial:True) (ac h_4.1 (ac (nZ h_4.2:((zG (r_1.End - r_1.Start)).toNat)≤((Mb (List.replicate ((zG (r_1.End - r_1.Start)).toNat) (0:Int)))).length) (ac (by simp:(min (sub r_1.Data (yH r_1.Start (((r_1.Data).length:Nat):Int)) (((r_1.Data).length:Nat):Int)).length ((zG (r_1.End - r_1.Start)).toNat - 0))=min ((List.map (AV.int .u8) (sub r_1.Data (yH r_1.Start (((r_1.Data).length:Nat):Int)) (((r_1.Data).length:Nat):Int))):List AV).length ((zG (r_1.End - r_1.Start)).toNat - 0)) (ac (by simp [cpy]:(List.map (AV.int .u8) (cpy (List.replicate ((zG (r_1.End - r_1.Start)).toNat) (0:Int)) 0 ((zG (r_1.End - r_1.Start)).toNat) (sub r_1.Data (yH r_1.Start (((r_1.Data).length:Nat):Int)) (((r_1.Data).length:Nat):Int))))=((List.map (AV.int .u8) (List.replicate ((zG (r_1.End - r_1.Start)).toNat) (0:Int)))).take 0++((List.map (AV.int .u8) (sub r_1.Data (yH r_1.Start (((r_1.Data).length:Nat):Int)) (((r_1.Data).length:Nat):Int))):List AV).take (min (sub r_1.Data (yH r_1.Start (((r_1.Data).length:Nat):Int)) (((r_1.Data).length:Nat):Int)).length ((zG (r_1.End - r_1.Start)).toNat - 0))++((List.map (AV.int .u8) (List.replicate ((zG (r_1.End - r_1.Start)).toNat) (0:Int)))).drop (0+(min (sub r_1.Data (yH r_1.Start (((r_1.Data).length:Nat):Int)) (((r_1.Data).length:Nat):Int)).length ((zG (r_1.End - r_1.Start)).toNat - 0)))) an))))))))) ?_
 refine sq ?_
 obtain ⟨_,h_5,h⟩:=bind_some h;replace h_5:=yU h_5
 obtain ⟨_,h_6,h⟩:=bind_some h;replace h_6:=yU h_6
 refine rg [(5,{ l:=(Mb (cpy (cpy (List.replicate ((zG (r_1.End - r_1.Start)).toNat) (0:Int)) 0 ((zG (r_1.End - r_1.Start)).toNat) (sub r_1.Data (yH r_1.Start (lN (r_1.Data))) (lN (r_1.Data)))) (min (sub r_1.Data (yH r_1.Start (lN (r_1.Data))) (lN (r_1.Data))).length ((zG (r_1.End - r_1.Start)).toNat - 0)) ((zG (r_1.End - r_1.Start)).toNat) r_1.Data)),n:=(min (r_1.Data).length ((zG (r_1.End - r_1.Start)).toNat - (min (sub r_1.Data (yH r_1.Start (lN (r_1.Data))) (lN (r_1.Data))).length ((zG (r_1.End - r_1.Start)).toNat - 0)))) })] [3] [2] 3 [.own 2 ((zG (r_1.End - r_1.Start)).toNat)] [Rb 5 1 (Mb (cpy (cpy (List.replicate ((zG (r_1.End - r_1.Start)).toNat) (0:Int)) 0 ((zG (r_1.End - r_1.Start)).toNat) (sub r_1.Data (yH r_1.Start (lN (r_1.Data))) (lN (r_1.Data)))) (min (sub r_1.Data (yH r_1.Start (lN (r_1.Data))) (lN (r_1.Data))).length ((zG (r_1.End - r_1.Start)).toNat - 0)) ((zG (r_1.End - r_1.Start)).toNat) r_1.Data))] zF (ac (Int.natCast_nonneg _:(0:Int)≤(((min (sub r_1.Data (yH r_1.Start (lN (r_1.Data))) (lN (r_1.Data))).length ((zG (r_1.End - r_1.Start)).toNat - 0)):Nat):Int)) (ac h_5 (ac (Int.le_refl _:(((zG (r_1.End - r_1.Start)).toNat:Nat):Int)≤(((zG (r_1.End - r_1.Start)).toNat:Nat):Int)) (ac (trivial:True) (ac h_6.1 (ac (nZ h_6.2:((zG (r_1.End - r_1.Start)).toNat)≤((Mb (cpy (List.replicate ((zG (r_1.End - r_1.Start)).toNat) (0:Int)) 0 ((zG (r_1.End - r_1.Start)).toNat) (sub r_1.Data (yH r_1.Start (lN (r_1.Data))) (lN (r_1.Data)))))).length) (ac (by simp:(min (r_1.Data).length ((zG (r_1.End - r_1.Start)).toNat - (min (sub r_1.Data (yH r_1.Start (((r_1.Data).length:Nat):Int)) (((r_1.Data).length:Nat):Int)).length ((zG (r_1.End - r_1.Start)).toNat - 0))))=min ((List.map (AV.int .u8) r_1.Data):List AV).length ((zG (r_1.End - r_1.Start)).toNat - (min (sub r_1.Data (yH r_1.Start (((r_1.Data).length:Nat):Int)) (((r_1.Data).length:Nat):Int)).length ((zG (r_1.End - r_1.Start)).toNat - 0)))) (ac (by simp [cpy]:(List.map (AV.int .u8) (cpy (cpy (List.replicate ((zG (r_1.End - r_1.Start)).toNat) (0:Int)) 0 ((zG (r_1.End - r_1.Start)).toNat) (sub r_1.Data (yH r_1.Start (((r_1.Data).length:Nat):Int)) (((r_1.Data).length:Nat):Int))) (min (sub r_1.Data (yH r_1.Start (((r_1.Data).length:Nat):Int)) (((r_1.Data).length:Nat):Int)).length ((zG (r_1.End - r_1.Start)).toNat - 0)) ((zG (r_1.End - r_1.Start)).toNat) r_1.Data))=((List.map (AV.int .u8) (cpy (List.replicate ((zG (r_1.End - r_1.Start)).toNat) (0:Int)) 0 ((zG (r_1.End - r_1.Start)).toNat) (sub r_1.Data (yH r_1.Start (((r_1.Data).length:Nat):Int)) (((r_1.Data).length:Nat):Int))))).take (min (sub r_1.Data (yH r_1.Start (((r_1.Data).length:Nat):Int)) (((r_1.Data).length:Nat):Int)).length ((zG (r_1.End - r_1.Start)).toNat - 0))++((List.map (AV.int .u8) r_1.Data):List AV).take (min (r_1.Data).length ((zG (r_1.End - r_1.Start)).toNat - (min (sub r_1.Data (yH r_1.Start (((r_1.Data).length:Nat):Int)) (((r_1.Data).length:Nat):Int)).length ((zG (r_1.End - r_1.Start)).toNat - 0))))++((List.map (AV.int .u8) (cpy (List.replicate ((zG (r_1.End - r_1.Start)).toNat) (0:Int)) 0 ((zG (r_1.End - r_1.Start)).toNat) (sub r_1.Data (yH r_1.Start (((r_1.Data).length:Nat):Int)) (((r_1.Data).length:Nat):Int))))).drop ((min (sub r_1.Data (yH r_1.Start (((r_1.Data).length:Nat):Int)) (((r_1.Data).length:Nat):Int)).length ((zG (r_1.End - r_1.Start)).toNat - 0))+(min (r_1.Data).length ((zG (r_1.End - r_1.Start)).toNat - (min (sub r_1.Data (yH r_1.Start (((r_1.Data).length:Nat):Int)) (((r_1.Data).length:Nat):Int)).length ((zG (r_1.End - r_1.Start)).toNat - 0)))))) an)))))))) ?_
 refine sr [] [2] [2] 3 [.own 2 ((zG (r_1.End - r_1.Start)).toNat)] [Rb 5 1 (Mb (cpy (cpy (List.replicate ((zG (r_1.End - r_1.Start)).toNat) (0:Int)) 0 ((zG (r_1.End - r_1.Start)).toNat) (sub r_1.Data (yH r_1.Start (lN (r_1.Data))) (lN (r_1.Data)))) (min (sub r_1.Data (yH r_1.Start (lN (r_1.Data))) (lN (r_1.Data))).length ((zG (r_1.End - r_1.Start)).toNat - 0)) ((zG (r_1.End - r_1.Start)).toNat) r_1.Data))] zF an ?_
 refine wk [2] [] [.a 2 (.own 0 (((cpy (cpy (List.replicate ((zG (r_1.End - r_1.Start)).toNat) (0:Int)) 0 ((zG (r_1.End - r_1.Start)).toNat) (sub r_1.Data (yH r_1.Start (lN (r_1.Data))) (lN (r_1.Data)))) (min (sub r_1.Data (yH r_1.Start (lN (r_1.Data))) (lN (r_1.Data))).length ((zG (r_1.End - r_1.Start)).toNat - 0)) ((zG (r_1.End - r_1.Start)).toNat) r_1.Data)).length))] [.s 0] [(2,.own 0 (((cpy (cpy (List.replicate ((zG (r_1.End - r_1.Start)).toNat) (0:Int)) 0 ((zG (r_1.End - r_1.Start)).toNat) (sub r_1.Data (yH r_1.Start (lN (r_1.Data))) (lN (r_1.Data)))) (min (sub r_1.Data (yH r_1.Start (lN (r_1.Data))) (lN (r_1.Data))).length ((zG (r_1.End - r_1.Start)).toNat - 0)) ((zG (r_1.End - r_1.Start)).toNat) r_1.Data)).length))] [(0,Rb 5 1 (Mb (cpy (cpy (List.replicate ((zG (r_1.End - r_1.Start)).toNat) (0:Int)) 0 ((zG (r_1.End - r_1.Start)).toNat) (sub r_1.Data (yH r_1.Start (lN (r_1.Data))) (lN (r_1.Data)))) (min (sub r_1.Data (yH r_1.Start (lN (r_1.Data))) (lN (r_1.Data))).length ((zG (r_1.End - r_1.Start)).toNat - 0)) ((zG (r_1.End - r_1.Start)).toNat) r_1.Data)))] (ac (congrArg (AV.own _) ((pI h_6.1 h_6.2).trans ((pI h_4.1 h_4.2).trans List.length_replicate)).symm:(.own 2 ((zG (r_1.End - r_1.Start)).toNat):AV)=.own 2 (((cpy (cpy (List.replicate ((zG (r_1.End - r_1.Start)).toNat) (0:Int)) 0 ((zG (r_1.End - r_1.Start)).toNat) (sub r_1.Data (yH r_1.Start (lN (r_1.Data))) (lN (r_1.Data)))) (min (sub r_1.Data (yH r_1.Start (lN (r_1.Data))) (lN (r_1.Data))).length ((zG (r_1.End - r_1.Start)).toNat - 0)) ((zG (r_1.End - r_1.Start)).toNat) r_1.Data)).length)) an) ?_
 refine rt ?_
 cases h
 exact ⟨.inr rfl,Nat.le_of_ble_eq_true rfl,by kernel_rfl⟩
theorem zFj (u_1:Int) (r:Int) (h:nJ u_1=some r):zS prog 103 [] [] [.int .u64 u_1] [] (Ii r):=by
 refine yD (fn:=Go.Proofs.Try.f103) (code:=y5 Go.Proofs.Try.f103) (by kernel_rfl) (by kernel_rfl) (Nat.le_of_ble_eq_true (by kernel_rfl)) ?_
 unfold nJ at h
 refine sr [] [0] [] 0 [.int .u64 u_1] [] zF an ?_
 refine sr [] [2] [] 0 [Ii (zAJ .i64 (zG (nT .u64 u_1 (1:Int))) (zG (0 - (zG (vT .u64 u_1 (1:Int))))))] [] zF (ac (by decide:(0:Int)≤(1:Int)) an) ?_
 refine rt ?_
 cases h
 exact ⟨.inr rfl,Nat.le_of_ble_eq_true rfl,by kernel_rfl⟩
theorem zEr (F:Nat) (b_1:List (Int)) (r:Int×Int×Int) (h:zAU F b_1=some r):zS prog 99 [] [] [.sl false 1 (Mb b_1)] [] (.tuple [Ii r.1,Ii r.2.1,Ii r.2.2]):=by
 refine yD (fn:=Go.Proofs.Try.f99) (code:=y5 Go.Proofs.Try.f99) (by kernel_rfl) (by kernel_rfl) (Nat.le_of_ble_eq_true (by kernel_rfl)) ?_
 unfold zAU at h
 refine sr [] [0] [] 0 [.sl false 1 (Mb b_1)] [] zF an ?_
 refine sr [] [0,5] [] 0 [.sl false 1 (Mb b_1),.int .u64 (0:Int)] [] zF an ?_
 refine sq ?_
 refine sr [(1,{ n:=(b_1).length })] [5,8,9,10] [] 0 [.int .u64 (0:Int),.sl false 1 (Mb b_1),Ii (lN (b_1)),Ii 0] [] zF (ac (yO _:((Mb b_1)).length=(b_1).length) an) ?_
 obtain ⟨o_1,h_1,h⟩:=bind_some h
 refine vL (K1:=(fun e st'=>match o_1 with | (.inl q0)=>e=.normal∧Sub 0 st' (mk [] [] 0) | (.inr q1)=>e=.ret∧kB prog Go.Proofs.Try.f99 0 [] (.tuple [Ii q1.1,Ii q1.2.1,Ii q1.2.2]) st')) ?_ ?_
 ·replace h:=h_1
  refine yN (id:=0) (by kernel_rfl) ?_
  refine wk [] [] [.s 5,.s 8,.s 9,.s 10] [] [(5,.int .u64 (0:Int)),(8,.sl false 1 (Mb b_1)),(9,Ii (lN (b_1))),(10,Ii 0)] [] an ?_
  refine wH (fun n st=>∃ (u_1:Int),∃ (v_1:Int),st=mk [(5,.int .u64 u_1),(8,.sl false 1 (Mb b_1)),(9,Ii (lN (b_1))),(10,Ii v_1)] [] 0∧j6 F b_1 n u_1 v_1=some o_1) F (by kernel_rfl) ⟨_,_,rfl,h⟩ ?_ ?_
  ·rintro _ ⟨_,_,_,h⟩;exact w5 (h:(none:Option (Unit⊕(Int×Int×Int)))=some o_1)
  rintro n_1 _ ⟨u_1,v_1,rfl,h⟩
  replace h:jK F b_1 (j6 F b_1 n_1) u_1 v_1=some o_1:=h
  unfold jK at h
  refine sr [] [5,8,9,10,11] [] 0 [.int .u64 u_1,.sl false 1 (Mb b_1),Ii (lN (b_1)),Ii v_1,.bool (decide (v_1<(lN (b_1))))] [] zF an ?_
  refine sq ?_
  refine cd 11 (decide (v_1<(lN (b_1)))) ?_ ?_
  rotate_left
  ·intro g_1;replace h:=zW g_1 h
   refine wS (id:=0) (by kernel_rfl) ?_
   cases h
   exact ⟨rfl,(sw [] [] [] [] an)⟩
  intro g_1;replace h:=zV g_1 h
  refine sk ?_
  refine sq ?_
  refine yN (id:=1) (by kernel_rfl) ?_
  refine sq ?_
  obtain ⟨x_1,h_2,h⟩:=bind_some h
  refine rg [(1,{ av:=Iu x_1 })] [5,6,7,8,9,10] [] 0 [.int .u64 u_1,Ii v_1,Iu x_1,.sl false 1 (Mb b_1),Ii (lN (b_1)),Ii v_1] [] zF (ac (tJ h_2:jA (Mb b_1) v_1=some (Iu x_1)) an) ?_
  refine sq ?_
  refine sq ?_
  refine yV (mk [(5,.int .u64 u_1),(6,Ii v_1),(7,Iu x_1),(8,.sl false 1 (Mb b_1)),(9,Ii (lN (b_1))),(10,Ii v_1),(20,.bool ((v_1==(9:Int))&&decide (x_1>(1:Int))))] [] 0) ?_ ?_
  ·rcases bft (v_1==(9:Int)) with yC | yC
   ·refine rg [(5,Ht)] [5,6,7,8,9,10,18,19,20] [] 0 [.int .u64 u_1,Ii v_1,Iu x_1,.sl false 1 (Mb b_1),Ii (lN (b_1)),Ii v_1,Iu x_1,.bool (decide (x_1>(1:Int))),.bool (decide (x_1>(1:Int)))] [] zF (ac yC (ac yC (ac yC an))) ?_
    exact ⟨rfl,(sw [] [] [.s 5,.s 6,.s 7,.s 8,.s 9,.s 10,.a 20 (.bool ((v_1==(9:Int))&&decide (x_1>(1:Int))))] [] (ac (congrArg AV.bool (qS yC rfl):(.bool (decide (x_1>(1:Int))):AV)=.bool ((v_1==(9:Int))&&decide (x_1>(1:Int)))) an))⟩
   ·refine rg [(3,Hg),(4,Hg),(5,Hf)] [5,6,7,8,9,10,18,19,20] [] 0 [.int .u64 u_1,Ii v_1,Iu x_1,.sl false 1 (Mb b_1),Ii (lN (b_1)),Ii v_1,.tuple [],.tuple [],.bool false] [] zF (ac yC (ac yC (ac yC an))) ?_
    exact ⟨rfl,(sw [] [] [.s 5,.s 6,.s 7,.s 8,.s 9,.s 10,.a 20 (.bool ((v_1==(9:Int))&&decide (x_1>(1:Int))))] [] (ac (congrArg AV.bool (n8 yC):(.bool false:AV)=.bool ((v_1==(9:Int))&&decide (x_1>(1:Int)))) an))⟩
  refine cd 20 ((v_1==(9:Int))&&decide (x_1>(1:Int))) ?_ ?_
  ·intro g_2;replace h:=zV g_2 h
   refine sr [] [2,3,4] [] 0 [Ii 0,Ii 0,Ii 10] [] zF an ?_
   refine rt ?_
   cases h
   exact ⟨rfl,Nat.le_of_ble_eq_true rfl,by kernel_rfl⟩
  intro g_2;replace h:=zW g_2 h
  refine sk ?_
  refine sq ?_
  obtain ⟨_,h_3,h⟩:=bind_some h;replace h_3:=yU h_3
  refine rg [] [5,6,7,8,9,10] [] 0 [.int .u64 (ior .u64 u_1 (kU .u64 (yG (vT .u8 x_1 (127:Int))) (zG ((7:Int) * v_1)))),Ii v_1,Iu x_1,.sl false 1 (Mb b_1),Ii (lN (b_1)),Ii v_1] [] zF (ac h_3 an) ?_
  refine sq ?_
  refine sr [] [5,6,7,8,9,10,30] [] 0 [.int .u64 (ior .u64 u_1 (kU .u64 (yG (vT .u8 x_1 (127:Int))) (zG ((7:Int) * v_1)))),Ii v_1,Iu x_1,.sl false 1 (Mb b_1),Ii (lN (b_1)),Ii v_1,.bool (decide (x_1≥(128:Int)))] [] zF an ?_
  refine cd 30 (decide (x_1≥(128:Int))) ?_ ?_
  ·intro g_3;replace h:=zV g_3 h
   refine wS (id:=1) (by kernel_rfl) ?_
   refine rg [] [5,8,9,10] [] 0 [.int .u64 (ior .u64 u_1 (kU .u64 (yG (vT .u8 x_1 (127:Int))) (zG ((7:Int) * v_1)))),.sl false 1 (Mb b_1),Ii (lN (b_1)),Ii (zG (v_1+(1:Int)))] [] zF an ?_
   exact ⟨_,(sw [] [] [.s 5,.s 8,.s 9,.s 10] [] an),_,_,rfl,h⟩
  intro g_3;replace h:=zW g_3 h
  refine sk ?_
  refine sq ?_
  refine sq ?_
  refine yV (mk [(5,.int .u64 (ior .u64 u_1 (kU .u64 (yG (vT .u8 x_1 (127:Int))) (zG ((7:Int) * v_1))))),(6,Ii v_1),(36,.bool ((x_1==(0:Int))&&decide (v_1>(0:Int))))] [] 0) ?_ ?_
  ·rcases bft (x_1==(0:Int)) with z9 | z9
   ·refine rg [(5,Ht)] [5,6,36] [] 0 [.int .u64 (ior .u64 u_1 (kU .u64 (yG (vT .u8 x_1 (127:Int))) (zG ((7:Int) * v_1)))),Ii v_1,.bool (decide (v_1>(0:Int)))] [] zF (ac z9 (ac z9 (ac z9 an))) ?_
    exact ⟨rfl,(sw [] [] [.s 5,.s 6,.a 36 (.bool ((x_1==(0:Int))&&decide (v_1>(0:Int))))] [] (ac (congrArg AV.bool (qS z9 rfl):(.bool (decide (v_1>(0:Int))):AV)=.bool ((x_1==(0:Int))&&decide (v_1>(0:Int)))) an))⟩
   ·refine rg [(3,Hg),(4,Hg),(5,Hf)] [5,6,36] [] 0 [.int .u64 (ior .u64 u_1 (kU .u64 (yG (vT .u8 x_1 (127:Int))) (zG ((7:Int) * v_1)))),Ii v_1,.bool false] [] zF (ac z9 (ac z9 (ac z9 an))) ?_
    exact ⟨rfl,(sw [] [] [.s 5,.s 6,.a 36 (.bool ((x_1==(0:Int))&&decide (v_1>(0:Int))))] [] (ac (congrArg AV.bool (n8 z9):(.bool false:AV)=.bool ((x_1==(0:Int))&&decide (v_1>(0:Int)))) an))⟩
  refine cd 36 ((x_1==(0:Int))&&decide (v_1>(0:Int))) ?_ ?_
  ·intro g_4;replace h:=zV g_4 h
   refine sr [] [2,3,4] [] 0 [Ii 0,Ii 0,Ii 10] [] zF an ?_
   refine rt ?_
   cases h
   exact ⟨rfl,Nat.le_of_ble_eq_true rfl,by kernel_rfl⟩
  intro g_4;replace h:=zW g_4 h
  refine sk ?_
  refine sq ?_
  obtain ⟨r_1,h_4,h⟩:=bind_some h
  refine rg [(1,{ av:=Ii r_1,l:=[.int .u64 (ior .u64 u_1 (kU .u64 (yG (vT .u8 x_1 (127:Int))) (zG ((7:Int) * v_1))))] })] [2,3,4] [] 0 [Ii r_1,Ii (zG (v_1+(1:Int))),Ii 0] [] zF (ar ([.int .u64 (ior .u64 u_1 (kU .u64 (yG (vT .u8 x_1 (127:Int))) (zG ((7:Int) * v_1))))]:List AV) (ac (rfl:([]:List zU)=[]) (ac (zFj (ior .u64 u_1 (kU .u64 (yG (vT .u8 x_1 (127:Int))) (zG ((7:Int) * v_1)))) r_1 h_4:zS prog 103 [] [] [.int .u64 (ior .u64 u_1 (kU .u64 (yG (vT .u8 x_1 (127:Int))) (zG ((7:Int) * v_1))))] [] (Ii r_1)) an))) ?_
  refine rt ?_
  cases h
  exact ⟨rfl,Nat.le_of_ble_eq_true rfl,by kernel_rfl⟩
 intro e st1 hk
 rcases o_1 with q_1 | q_2
 rotate_left
 ·obtain ⟨rfl,hf⟩:=hk
  cases h
  exact ⟨st1,Sub.refl _ _,.inr rfl,hf⟩
 obtain ⟨rfl,hs⟩:=hk
 refine ⟨_,hs,?_⟩
 refine sr [] [2,3,4] [] 0 [Ii 0,Ii 0,Ii 8] [] zF an ?_
 refine rt ?_
 cases h
 exact ⟨.inr rfl,Nat.le_of_ble_eq_true rfl,by kernel_rfl⟩
theorem zHT (F:Nat) (b_1:List (Int)) (r:(List (List (Int)))×Bool) (h:zBb F b_1=some r):zS prog 80 [] [] [.sl false 1 (Mb b_1)] [.row 28 1 (List.map (fun l=>AV.sl false 1 (l.map (AV.int .u8))) r.1)] (.tuple [.own 0 ((r.1).length),.bool r.2]):=by
 refine yD (fn:=Go.Proofs.Try.f80) (code:=y5 Go.Proofs.Try.f80) (by kernel_rfl) (by kernel_rfl) (Nat.le_of_ble_eq_true (by kernel_rfl)) ?_
 unfold zBb at h
 refine sr [(0,{ id:=0,m:=1 })] [0] [] 1 [.sl false 1 (Mb b_1)] [] zF an ?_
 refine sr [(0,{ id:=1,m:=1 })] [0,4] [1] 2 [.sl false 1 (Mb b_1),.own 1 0] [Rb 28 1 []] zF an ?_
 refine sq ?_
 obtain ⟨o_1,h_1,h⟩:=bind_some h
 refine vL (K1:=(fun e st'=>match o_1 with | (.inl q0)=>e=.normal∧Sub 0 st' (mk [(4,.own 0 ((q0).length))] [(0,Rb 28 1 (List.map (fun l=>AV.sl false 1 (l.map (AV.int .u8))) q0))] 1) | (.inr q1)=>e=.ret∧kB prog Go.Proofs.Try.f80 0 [.row 28 1 (List.map (fun l=>AV.sl false 1 (l.map (AV.int .u8))) q1.1)] (.tuple [.own 0 ((q1.1).length),.bool q1.2]) st')) ?_ ?_
 ·replace h:=h_1
  refine yN (id:=0) (by kernel_rfl) ?_
  refine wk [1] [] [.s 0,.s 4] [.s 0] [(0,.sl false 1 (Mb b_1)),(4,.own 0 0)] [(0,Rb 28 1 [])] an ?_
  refine wH (fun n st=>∃ (b_2:List Int),∃ (zL:List (List (Int))),st=mk [(0,.sl false 1 (Mb b_2)),(4,.own 0 ((zL).length))] [(0,Rb 28 1 (List.map (fun l=>AV.sl false 1 (l.map (AV.int .u8))) zL))] 1∧nE F n b_2 zL=some o_1) F (by kernel_rfl) ⟨_,_,rfl,h⟩ ?_ ?_
  ·rintro _ ⟨_,_,_,h⟩;exact w5 (h:(none:Option ((List (List (Int)))⊕((List (List (Int)))×Bool)))=some o_1)
  rintro n_1 _ ⟨b_2,zL,rfl,h⟩
  replace h:jB F (nE F n_1) b_2 zL=some o_1:=h
  unfold jB at h
  refine sq ?_
  refine sr [(1,{ n:=(b_2).length })] [0,4,10] [0] 1 [.sl false 1 (Mb b_2),.own 0 ((zL).length),.bool (decide ((lN (b_2))>(0:Int)))] [Rb 28 1 (List.map (fun l=>AV.sl false 1 (l.map (AV.int .u8))) zL)] zF (ac (yO _:((Mb b_2)).length=(b_2).length) an) ?_
  refine cd 10 (decide ((lN (b_2))>(0:Int))) ?_ ?_
  rotate_left
  ·intro g_1;replace h:=zW g_1 h
   refine wS (id:=0) (by kernel_rfl) ?_
   cases h
   exact ⟨rfl,(sw [0] [] [.s 4] [.s 0] an)⟩
  intro g_1;replace h:=zV g_1 h
  refine sk ?_
  refine yN (id:=1) (by kernel_rfl) ?_
  refine sq ?_
  obtain ⟨r_1,h_2,h⟩:=bind_some h
  refine rg [(1,{ av:=.tuple [Ii r_1.1,Ii r_1.2.1,Ii r_1.2.2],l:=[.sl false 1 (Mb b_2)] })] [0,4,5,6,7] [0] 1 [.sl false 1 (Mb b_2),.own 0 ((zL).length),Ii r_1.1,Ii r_1.2.1,Ii r_1.2.2] [Rb 28 1 (List.map (fun l=>AV.sl false 1 (l.map (AV.int .u8))) zL)] zF (ar ([.sl false 1 (Mb b_2)]:List AV) (ac (rfl:([]:List zU)=[]) (ac (zEr F b_2 r_1 h_2:zS prog 99 [] [] [.sl false 1 (Mb b_2)] [] (.tuple [Ii r_1.1,Ii r_1.2.1,Ii r_1.2.2])) an))) ?_
  refine sq ?_
  refine sq ?_
  refine yV (mk [(0,.sl false 1 (Mb b_2)),(4,.own 0 ((zL).length)),(5,Ii r_1.1),(6,Ii r_1.2.1),(34,.bool ((r_1.2.2 != (0:Int))||(decide (r_1.1<(0:Int))||(decide (r_1.1>(2000:Int))||decide ((zG (r_1.2.1+r_1.1))>(lN (b_2)))))))] [(0,Rb 28 1 (List.map (fun l=>AV.sl false 1 (l.map (AV.int .u8))) zL))] 1) ?_ ?_
  ·rcases bft (r_1.2.2 != (0:Int)) with xC | xC
   ·refine rg [(3,Hg),(4,Hg),(5,Ht),(7,Hg),(8,Hg),(9,Ht),(11,Hg),(12,Hg),(13,Hg),(14,Hg),(15,Hg),(16,Hg),(17,Ht)] [0,4,5,6,20,21,24,25,28,29,30,31,32,33,34] [0] 1 [.sl false 1 (Mb b_2),.own 0 ((zL).length),Ii r_1.1,Ii r_1.2.1,.tuple [],.tuple [],.tuple [],.tuple [],.tuple [],.tuple [],.tuple [],.tuple [],.tuple [],.tuple [],.bool true] [Rb 28 1 (List.map (fun l=>AV.sl false 1 (l.map (AV.int .u8))) zL)] zF (ac xC (ac xC (ac xC (ax (ax (ar true (ax (ax (ax (ax (ax (ax (ar true an))))))))))))) ?_
    exact ⟨rfl,(sw [0] [] [.s 0,.s 4,.s 5,.s 6,.a 34 (.bool ((r_1.2.2 != (0:Int))||(decide (r_1.1<(0:Int))||(decide (r_1.1>(2000:Int))||decide ((zG (r_1.2.1+r_1.1))>(lN (b_2)))))))] [.s 0] (ac (congrArg AV.bool (ort xC):(.bool true:AV)=.bool ((r_1.2.2 != (0:Int))||(decide (r_1.1<(0:Int))||(decide (r_1.1>(2000:Int))||decide ((zG (r_1.2.1+r_1.1))>(lN (b_2))))))) an))⟩
   ·rcases bft (decide (r_1.1<(0:Int))) with wL | wL
    ·refine rg [(5,Hf),(7,Hg),(8,Hg),(9,Ht),(11,Hg),(12,Hg),(13,Hg),(14,Hg),(15,Hg),(16,Hg),(17,Ht)] [0,4,5,6,20,21,24,25,28,29,30,31,32,33,34] [0] 1 [.sl false 1 (Mb b_2),.own 0 ((zL).length),Ii r_1.1,Ii r_1.2.1,Ii r_1.1,.bool (decide (r_1.1<(0:Int))),.tuple [],.tuple [],.tuple [],.tuple [],.tuple [],.tuple [],.tuple [],.tuple [],.bool true] [Rb 28 1 (List.map (fun l=>AV.sl false 1 (l.map (AV.int .u8))) zL)] zF (ac xC (ac xC (ac xC (ac wL (ac wL (ac wL (ax (ax (ax (ax (ax (ax (ar true an))))))))))))) ?_
     exact ⟨rfl,(sw [0] [] [.s 0,.s 4,.s 5,.s 6,.a 34 (.bool ((r_1.2.2 != (0:Int))||(decide (r_1.1<(0:Int))||(decide (r_1.1>(2000:Int))||decide ((zG (r_1.2.1+r_1.1))>(lN (b_2)))))))] [.s 0] (ac (congrArg AV.bool (orf xC (ort wL)):(.bool true:AV)=.bool ((r_1.2.2 != (0:Int))||(decide (r_1.1<(0:Int))||(decide (r_1.1>(2000:Int))||decide ((zG (r_1.2.1+r_1.1))>(lN (b_2))))))) an))⟩
    ·rcases bft (decide (r_1.1>(2000:Int))) with xW | xW
     ·refine rg [(5,Hf),(9,Hf),(11,Hg),(12,Hg),(13,Hg),(14,Hg),(15,Hg),(16,Hg),(17,Ht)] [0,4,5,6,20,21,24,25,28,29,30,31,32,33,34] [0] 1 [.sl false 1 (Mb b_2),.own 0 ((zL).length),Ii r_1.1,Ii r_1.2.1,Ii r_1.1,.bool (decide (r_1.1<(0:Int))),Ii r_1.1,.bool (decide (r_1.1>(2000:Int))),.tuple [],.tuple [],.tuple [],.tuple [],.tuple [],.tuple [],.bool true] [Rb 28 1 (List.map (fun l=>AV.sl false 1 (l.map (AV.int .u8))) zL)] zF (ac xC (ac xC (ac xC (ac wL (ac wL (ac wL (ac xW (ac xW (ac xW (ac xW (ac xW (ac xW (ac xW an))))))))))))) ?_
      exact ⟨rfl,(sw [0] [] [.s 0,.s 4,.s 5,.s 6,.a 34 (.bool ((r_1.2.2 != (0:Int))||(decide (r_1.1<(0:Int))||(decide (r_1.1>(2000:Int))||decide ((zG (r_1.2.1+r_1.1))>(lN (b_2)))))))] [.s 0] (ac (congrArg AV.bool (orf xC (orf wL (ort xW))):(.bool true:AV)=.bool ((r_1.2.2 != (0:Int))||(decide (r_1.1<(0:Int))||(decide (r_1.1>(2000:Int))||decide ((zG (r_1.2.1+r_1.1))>(lN (b_2))))))) an))⟩
     ·refine rg [(5,Hf),(9,Hf),(15,{ n:=(b_2).length }),(17,Hf)] [0,4,5,6,20,21,24,25,28,29,30,31,32,33,34] [0] 1 [.sl false 1 (Mb b_2),.own 0 ((zL).length),Ii r_1.1,Ii r_1.2.1,Ii r_1.1,.bool (decide (r_1.1<(0:Int))),Ii r_1.1,.bool (decide (r_1.1>(2000:Int))),Ii r_1.2.1,Ii r_1.1,Ii (zG (r_1.2.1+r_1.1)),.sl false 1 (Mb b_2),Ii (lN (b_2)),.bool (decide ((zG (r_1.2.1+r_1.1))>(lN (b_2)))),.bool (decide ((zG (r_1.2.1+r_1.1))>(lN (b_2))))] [Rb 28 1 (List.map (fun l=>AV.sl false 1 (l.map (AV.int .u8))) zL)] zF (ac xC (ac xC (ac xC (ac wL (ac wL (ac wL (ac xW (ac xW (ac xW (ac xW (ac xW (ac (yO _:((Mb b_2)).length=(b_2).length) (ac xW (ac xW an)))))))))))))) ?_
      exact ⟨rfl,(sw [0] [] [.s 0,.s 4,.s 5,.s 6,.a 34 (.bool ((r_1.2.2 != (0:Int))||(decide (r_1.1<(0:Int))||(decide (r_1.1>(2000:Int))||decide ((zG (r_1.2.1+r_1.1))>(lN (b_2)))))))] [.s 0] (ac (congrArg AV.bool (orf xC (orf wL (orf xW rfl))):(.bool (decide ((zG (r_1.2.1+r_1.1))>(lN (b_2)))):AV)=.bool ((r_1.2.2 != (0:Int))||(decide (r_1.1<(0:Int))||(decide (r_1.1>(2000:Int))||decide ((zG (r_1.2.1+r_1.1))>(lN (b_2))))))) an))⟩
  refine cd 34 ((r_1.2.2 != (0:Int))||(decide (r_1.1<(0:Int))||(decide (r_1.1>(2000:Int))||decide ((zG (r_1.2.1+r_1.1))>(lN (b_2)))))) ?_ ?_
  ·intro g_2;replace h:=zV g_2 h
   refine sr [(0,{ id:=1,m:=1 })] [2,3] [1] 2 [.own 1 0,.bool false] [Rb 28 1 []] zF an ?_
   refine wk [1] [] [.a 2 (.own 0 ((([]:List (List (Int)))).length)),.s 3] [.s 0] [(2,.own 0 ((([]:List (List (Int)))).length)),(3,.bool false)] [(0,Rb 28 1 [])] (ac (congrArg (AV.own _) (by first | (simp;done) | (simp;omega)):(.own 1 0:AV)=.own 1 ((([]:List (List (Int)))).length)) an) ?_
   refine rt ?_
   cases h
   exact ⟨rfl,Nat.le_of_ble_eq_true rfl,by kernel_rfl⟩
  intro g_2;replace h:=zW g_2 h
  refine sk ?_
  refine sq ?_
  obtain ⟨_,h_3,h⟩:=bind_some h;replace h_3:=yU h_3
  obtain ⟨_,h_4,h⟩:=bind_some h;replace h_4:=yU h_4
  refine rg [(9,{ l:=(Mb (sub b_2 r_1.2.1 (zG (r_1.2.1+r_1.1)))) }),(10,{ id:=1,lo:=[(44,[1])] }),(11,{ id:=2,l:=(List.map (fun l=>AV.sl false 1 (l.map (AV.int .u8))) (zL++([sub b_2 r_1.2.1 (zG (r_1.2.1+r_1.1))]:List (List (Int))))),n:=((zL++([sub b_2 r_1.2.1 (zG (r_1.2.1+r_1.1))]:List (List (Int))))).length })] [0,4,5,6] [2] 3 [.sl false 1 (Mb b_2),.own 2 (((zL++([sub b_2 r_1.2.1 (zG (r_1.2.1+r_1.1))]:List (List (Int))))).length),Ii r_1.1,Ii r_1.2.1] [Rb 28 1 (List.map (fun l=>AV.sl false 1 (l.map (AV.int .u8))) (zL++([sub b_2 r_1.2.1 (zG (r_1.2.1+r_1.1))]:List (List (Int)))))] zF (ac h_3.1 (ac h_3.2.1 (ac (p7 h_3.2.2:(zG (r_1.2.1+r_1.1))≤(lN ((Mb b_2)))) (ar (zG (r_1.2.1+r_1.1)) (ac (zF8 _ _ _:(Mb (sub b_2 r_1.2.1 (zG (r_1.2.1+r_1.1))))=(((Mb b_2)).take (zG (r_1.2.1+r_1.1)).toNat).drop (r_1.2.1).toNat) (ac (by first | (simp;done) | (simp;omega):(zL).length=((List.map (fun l=>AV.sl false 1 (l.map (AV.int .u8))) zL)).length) (ac (by first | (simp;done) | (simp;omega):1=((List.map (fun l=>AV.sl false 1 (l.map (AV.int .u8))) ([sub b_2 r_1.2.1 (zG (r_1.2.1+r_1.1))]:List (List (Int))))).length) (ac (zA2 _ _:(List.map (fun l=>AV.sl false 1 (l.map (AV.int .u8))) (zL++([sub b_2 r_1.2.1 (zG (r_1.2.1+r_1.1))]:List (List (Int)))))=(List.map (fun l=>AV.sl false 1 (l.map (AV.int .u8))) zL)++(List.map (fun l=>AV.sl false 1 (l.map (AV.int .u8))) ([sub b_2 r_1.2.1 (zG (r_1.2.1+r_1.1))]:List (List (Int))))) (ac (by simp:((zL++([sub b_2 r_1.2.1 (zG (r_1.2.1+r_1.1))]:List (List (Int))))).length=((List.map (fun l=>AV.sl false 1 (l.map (AV.int .u8))) (zL++([sub b_2 r_1.2.1 (zG (r_1.2.1+r_1.1))]:List (List (Int)))))).length) (ac (by first | (simp;done) | simpa using h_4:(((List.map (fun l=>AV.sl false 1 (l.map (AV.int .u8))) zL):List AV).length+((List.map (fun l=>AV.sl false 1 (l.map (AV.int .u8))) ([sub b_2 r_1.2.1 (zG (r_1.2.1+r_1.1))]:List (List (Int)))):List AV).length) * 24≤140737488355328) an)))))))))) ?_
  obtain ⟨_,h_5,h⟩:=bind_some h;replace h_5:=yU h_5
  refine rg [(4,{ l:=(Mb (sub b_2 (zG (r_1.2.1+r_1.1)) (lN (b_2)))) })] [0,4] [2] 3 [.sl false 1 (Mb (sub b_2 (zG (r_1.2.1+r_1.1)) (lN (b_2)))),.own 2 (((zL++([sub b_2 r_1.2.1 (zG (r_1.2.1+r_1.1))]:List (List (Int))))).length)] [Rb 28 1 (List.map (fun l=>AV.sl false 1 (l.map (AV.int .u8))) (zL++([sub b_2 r_1.2.1 (zG (r_1.2.1+r_1.1))]:List (List (Int)))))] zF (ac h_5.1 (ac (p7 h_5.2:(zG (r_1.2.1+r_1.1))≤(lN ((Mb b_2)))) (ac (Int.le_refl _:(lN ((Mb b_2)))≤(lN ((Mb b_2)))) (ac (zDe _ _:(Mb (sub b_2 (zG (r_1.2.1+r_1.1)) (lN (b_2))))=(((Mb b_2)).take ((lN ((Mb b_2)))).toNat).drop (zG (r_1.2.1+r_1.1)).toNat) an)))) ?_
  exact ⟨_,(sw [2] [] [.s 0,.s 4] [.s 0] an),_,_,rfl,h⟩
 intro e st1 hk
 rcases o_1 with q_1 | q_2
 rotate_left
 ·obtain ⟨rfl,hf⟩:=hk
  cases h
  exact ⟨st1,Sub.refl _ _,.inr rfl,hf⟩
 obtain ⟨rfl,hs⟩:=hk
 refine ⟨_,hs,?_⟩
 refine sr [] [2,3] [0] 1 [.own 0 ((q_1).length),.bool true] [Rb 28 1 (List.map (fun l=>AV.sl false 1 (l.map (AV.int .u8))) q_1)] zF an ?_
 refine wk [0] [] [.s 2,.s 3] [.s 0] [(2,.own 0 ((q_1).length)),(3,.bool true)] [(0,Rb 28 1 (List.map (fun l=>AV.sl false 1 (l.map (AV.int .u8))) q_1))] an ?_
 refine rt ?_
 cases h
 exact ⟨.inr rfl,Nat.le_of_ble_eq_true rfl,by kernel_rfl⟩
theorem zCE (F:Nat) (r_1:zB) (r:(List (List (Int)))×Int) (h:zAd F r_1=some r):zS prog 53 [] [] [z6 r_1] [.row 28 1 (List.map (fun l=>AV.sl false 1 (l.map (AV.int .u8))) r.1)] (.tuple [.own 0 ((r.1).length),Ii r.2]):=by
 refine yD (fn:=Go.Proofs.Try.f53) (code:=y5 Go.Proofs.Try.f53) (by kernel_rfl) (by kernel_rfl) (Nat.le_of_ble_eq_true (by kernel_rfl)) ?_
 unfold zAd at h
 refine sr [(0,{ id:=0 }),(1,{ id:=1,m:=1 })] [1] [0] 2 [Pp 0] [Vb 30 (zP r_1)] zF an ?_
 refine sr [(2,{ n:=(r_1.Data).length })] [1,4] [0] 2 [Pp 0,Ii (lN (r_1.Data))] [Vb 30 (zP r_1)] zF (ac (yO _:((Mb r_1.Data)).length=(r_1.Data).length) an) ?_
 refine sq ?_
 obtain ⟨o_1,h_1,h⟩:=bind_some h
 refine vL (K1:=(fun e st'=>match o_1 with | (.inl q0)=>e=.normal∧Sub 0 st' (mk [(1,Pp 0)] [(0,Vb 30 (zP r_1))] 1) | (.inr q1)=>e=.ret∧kB prog Go.Proofs.Try.f53 0 [.row 28 1 (List.map (fun l=>AV.sl false 1 (l.map (AV.int .u8))) q1.1)] (.tuple [.own 0 ((q1.1).length),Ii q1.2]) st')) ?_ ?_
 ·replace h:=h_1
  refine yN (id:=0) (by kernel_rfl) ?_
  refine sq ?_
  refine yV (mk [(1,Pp 0),(4,Ii (lN (r_1.Data))),(10,.bool ((r_1.Policy != (1:Int))&&(r_1.Policy != (2:Int))))] [(0,Vb 30 (zP r_1))] 1) ?_ ?_
  ·rcases bft (r_1.Policy != (1:Int)) with z9 | z9
   ·refine rg [(7,Ht)] [1,4,10] [0] 2 [Pp 0,Ii (lN (r_1.Data)),.bool (r_1.Policy != (2:Int))] [Vb 30 (zP r_1)] zF (ac z9 (ac z9 (ac z9 (ac z9 an)))) ?_
    exact ⟨rfl,(sw [0] [] [.s 1,.s 4,.a 10 (.bool ((r_1.Policy != (1:Int))&&(r_1.Policy != (2:Int))))] [.s 0] (ac (congrArg AV.bool (qS z9 rfl):(.bool (r_1.Policy != (2:Int)):AV)=.bool ((r_1.Policy != (1:Int))&&(r_1.Policy != (2:Int)))) an))⟩
   ·refine rg [(4,Hg),(5,Hg),(6,Hg),(7,Hf)] [1,4,10] [0] 2 [Pp 0,Ii (lN (r_1.Data)),.bool false] [Vb 30 (zP r_1)] zF (ac z9 (ac z9 (ac z9 (ac z9 an)))) ?_
    exact ⟨rfl,(sw [0] [] [.s 1,.s 4,.a 10 (.bool ((r_1.Policy != (1:Int))&&(r_1.Policy != (2:Int))))] [.s 0] (ac (congrArg AV.bool (n8 z9):(.bool false:AV)=.bool ((r_1.Policy != (1:Int))&&(r_1.Policy != (2:Int)))) an))⟩
  refine cd 10 ((r_1.Policy != (1:Int))&&(r_1.Policy != (2:Int))) ?_ ?_
  ·intro g_1;replace h:=zV g_1 h
   refine sr [(0,{ id:=1,m:=1 })] [2,3] [1] 2 [.own 1 0,Ii 1] [Rb 28 1 []] zF an ?_
   refine wk [1] [] [.a 2 (.own 0 ((([]:List (List (Int)))).length)),.s 3] [.s 0] [(2,.own 0 ((([]:List (List (Int)))).length)),(3,Ii 1)] [(0,Rb 28 1 [])] (ac (congrArg (AV.own _) (by first | (simp;done) | (simp;omega)):(.own 1 0:AV)=.own 1 ((([]:List (List (Int)))).length)) an) ?_
   refine rt ?_
   cases h
   exact ⟨rfl,Nat.le_of_ble_eq_true rfl,by kernel_rfl⟩
  intro g_1;replace h:=zW g_1 h
  refine sq ?_
  refine sq ?_
  refine yV (mk [(1,Pp 0),(4,Ii (lN (r_1.Data))),(19,.bool (decide ((lN (r_1.Data))<(16:Int))||decide ((lN (r_1.Data))>(65536:Int))))] [(0,Vb 30 (zP r_1))] 1) ?_ ?_
  ·rcases bft (decide ((lN (r_1.Data))<(16:Int))) with yE | yE
   ·refine rg [(3,Hg),(4,Hg),(5,Ht)] [1,4,19] [0] 1 [Pp 0,Ii (lN (r_1.Data)),.bool true] [Vb 30 (zP r_1)] zF (ac yE (ac yE (ac yE an))) ?_
    exact ⟨rfl,(sw [0] [] [.s 1,.s 4,.a 19 (.bool (decide ((lN (r_1.Data))<(16:Int))||decide ((lN (r_1.Data))>(65536:Int))))] [.s 0] (ac (congrArg AV.bool (ort yE):(.bool true:AV)=.bool (decide ((lN (r_1.Data))<(16:Int))||decide ((lN (r_1.Data))>(65536:Int)))) an))⟩
   ·refine rg [(5,Hf)] [1,4,19] [0] 1 [Pp 0,Ii (lN (r_1.Data)),.bool (decide ((lN (r_1.Data))>(65536:Int)))] [Vb 30 (zP r_1)] zF (ac yE (ac yE (ac yE an))) ?_
    exact ⟨rfl,(sw [0] [] [.s 1,.s 4,.a 19 (.bool (decide ((lN (r_1.Data))<(16:Int))||decide ((lN (r_1.Data))>(65536:Int))))] [.s 0] (ac (congrArg AV.bool (orf yE rfl):(.bool (decide ((lN (r_1.Data))>(65536:Int))):AV)=.bool (decide ((lN (r_1.Data))<(16:Int))||decide ((lN (r_1.Data))>(65536:Int)))) an))⟩
  refine cd 19 (decide ((lN (r_1.Data))<(16:Int))||decide ((lN (r_1.Data))>(65536:Int))) ?_ ?_
  ·intro g_2;replace h:=zV g_2 h
   refine sk ?_
   refine cd 19 (decide ((lN (r_1.Data))<(16:Int))||decide ((lN (r_1.Data))>(65536:Int))) ?_ ?_
   rotate_left
   ·intro hg;exact Bool.noConfusion ((g_2).symm.trans hg)
   intro _
   refine sr [(0,{ id:=1,m:=1 })] [2,3] [1] 2 [.own 1 0,Ii 2] [Rb 28 1 []] zF an ?_
   refine wk [1] [] [.a 2 (.own 0 ((([]:List (List (Int)))).length)),.s 3] [.s 0] [(2,.own 0 ((([]:List (List (Int)))).length)),(3,Ii 2)] [(0,Rb 28 1 [])] (ac (congrArg (AV.own _) (by first | (simp;done) | (simp;omega)):(.own 1 0:AV)=.own 1 ((([]:List (List (Int)))).length)) an) ?_
   refine rt ?_
   cases h
   exact ⟨rfl,Nat.le_of_ble_eq_true rfl,by kernel_rfl⟩
  intro g_2;replace h:=zW g_2 h
  refine sr [] [1,4,19] [0] 1 [Pp 0,Ii (lN (r_1.Data)),.bool (decide (r_1.Start<(0:Int)))] [Vb 30 (zP r_1)] zF an ?_
  refine cd 19 (decide (r_1.Start<(0:Int))) ?_ ?_
  ·intro g_3;replace h:=zV g_3 h
   refine sk ?_
   refine cd 19 (decide (r_1.Start<(0:Int))) ?_ ?_
   rotate_left
   ·intro hg;exact Bool.noConfusion ((g_3).symm.trans hg)
   intro _
   refine sr [(0,{ id:=1,m:=1 })] [2,3] [1] 2 [.own 1 0,Ii 2] [Rb 28 1 []] zF an ?_
   refine wk [1] [] [.a 2 (.own 0 ((([]:List (List (Int)))).length)),.s 3] [.s 0] [(2,.own 0 ((([]:List (List (Int)))).length)),(3,Ii 2)] [(0,Rb 28 1 [])] (ac (congrArg (AV.own _) (by first | (simp;done) | (simp;omega)):(.own 1 0:AV)=.own 1 ((([]:List (List (Int)))).length)) an) ?_
   refine rt ?_
   cases h
   exact ⟨rfl,Nat.le_of_ble_eq_true rfl,by kernel_rfl⟩
  intro g_3;replace h:=zW g_3 h
  refine sr [] [1,4,19] [0] 1 [Pp 0,Ii (lN (r_1.Data)),.bool (decide (r_1.End<r_1.Start))] [Vb 30 (zP r_1)] zF an ?_
  refine cd 19 (decide (r_1.End<r_1.Start)) ?_ ?_
  ·intro g_4;replace h:=zV g_4 h
   refine sk ?_
   refine cd 19 (decide (r_1.End<r_1.Start)) ?_ ?_
   rotate_left
   ·intro hg;exact Bool.noConfusion ((g_4).symm.trans hg)
   intro _
   refine sr [(0,{ id:=1,m:=1 })] [2,3] [1] 2 [.own 1 0,Ii 2] [Rb 28 1 []] zF an ?_
   refine wk [1] [] [.a 2 (.own 0 ((([]:List (List (Int)))).length)),.s 3] [.s 0] [(2,.own 0 ((([]:List (List (Int)))).length)),(3,Ii 2)] [(0,Rb 28 1 [])] (ac (congrArg (AV.own _) (by first | (simp;done) | (simp;omega)):(.own 1 0:AV)=.own 1 ((([]:List (List (Int)))).length)) an) ?_
   refine rt ?_
   cases h
   exact ⟨rfl,Nat.le_of_ble_eq_true rfl,by kernel_rfl⟩
  intro g_4;replace h:=zW g_4 h
  refine sr [] [1,4,19] [0] 1 [Pp 0,Ii (lN (r_1.Data)),.bool (decide (r_1.End>(1000000000000000:Int)))] [Vb 30 (zP r_1)] zF an ?_
  refine cd 19 (decide (r_1.End>(1000000000000000:Int))) ?_ ?_
  ·intro g_5;replace h:=zV g_5 h
   refine sk ?_
   refine cd 19 (decide (r_1.End>(1000000000000000:Int))) ?_ ?_
   rotate_left
   ·intro hg;exact Bool.noConfusion ((g_5).symm.trans hg)
   intro _
   refine sr [(0,{ id:=1,m:=1 })] [2,3] [1] 2 [.own 1 0,Ii 2] [Rb 28 1 []] zF an ?_
   refine wk [1] [] [.a 2 (.own 0 ((([]:List (List (Int)))).length)),.s 3] [.s 0] [(2,.own 0 ((([]:List (List (Int)))).length)),(3,Ii 2)] [(0,Rb 28 1 [])] (ac (congrArg (AV.own _) (by first | (simp;done) | (simp;omega)):(.own 1 0:AV)=.own 1 ((([]:List (List (Int)))).length)) an) ?_
   refine rt ?_
   cases h
   exact ⟨rfl,Nat.le_of_ble_eq_true rfl,by kernel_rfl⟩
  intro g_5;replace h:=zW g_5 h
  refine sr [] [1,19] [0] 1 [Pp 0,.bool (decide ((zG (r_1.End - r_1.Start))>(lN (r_1.Data))))] [Vb 30 (zP r_1)] zF an ?_
  refine cd 19 (decide ((zG (r_1.End - r_1.Start))>(lN (r_1.Data)))) ?_ ?_
  ·intro g_6;replace h:=zV g_6 h
   refine sk ?_
   refine cd 19 (decide ((zG (r_1.End - r_1.Start))>(lN (r_1.Data)))) ?_ ?_
   rotate_left
   ·intro hg;exact Bool.noConfusion ((g_6).symm.trans hg)
   intro _
   refine sr [(0,{ id:=1,m:=1 })] [2,3] [1] 2 [.own 1 0,Ii 2] [Rb 28 1 []] zF an ?_
   refine wk [1] [] [.a 2 (.own 0 ((([]:List (List (Int)))).length)),.s 3] [.s 0] [(2,.own 0 ((([]:List (List (Int)))).length)),(3,Ii 2)] [(0,Rb 28 1 [])] (ac (congrArg (AV.own _) (by first | (simp;done) | (simp;omega)):(.own 1 0:AV)=.own 1 ((([]:List (List (Int)))).length)) an) ?_
   refine rt ?_
   cases h
   exact ⟨rfl,Nat.le_of_ble_eq_true rfl,by kernel_rfl⟩
  intro g_6;replace h:=zW g_6 h
  refine sr [] [1,19] [0] 1 [Pp 0,.bool (decide (r_1.First<(0:Int)))] [Vb 30 (zP r_1)] zF an ?_
  refine cd 19 (decide (r_1.First<(0:Int))) ?_ ?_
  ·intro g_7;replace h:=zV g_7 h
   refine sk ?_
   refine cd 19 (decide (r_1.First<(0:Int))) ?_ ?_
   rotate_left
   ·intro hg;exact Bool.noConfusion ((g_7).symm.trans hg)
   intro _
   refine sr [(0,{ id:=1,m:=1 })] [2,3] [1] 2 [.own 1 0,Ii 2] [Rb 28 1 []] zF an ?_
   refine wk [1] [] [.a 2 (.own 0 ((([]:List (List (Int)))).length)),.s 3] [.s 0] [(2,.own 0 ((([]:List (List (Int)))).length)),(3,Ii 2)] [(0,Rb 28 1 [])] (ac (congrArg (AV.own _) (by first | (simp;done) | (simp;omega)):(.own 1 0:AV)=.own 1 ((([]:List (List (Int)))).length)) an) ?_
   refine rt ?_
   cases h
   exact ⟨rfl,Nat.le_of_ble_eq_true rfl,by kernel_rfl⟩
  intro g_7;replace h:=zW g_7 h
  refine sr [] [1,19] [0] 1 [Pp 0,.bool (decide (r_1.Next<r_1.First))] [Vb 30 (zP r_1)] zF an ?_
  refine cd 19 (decide (r_1.Next<r_1.First)) ?_ ?_
  ·intro g_8;replace h:=zV g_8 h
   refine sk ?_
   refine cd 19 (decide (r_1.Next<r_1.First)) ?_ ?_
   rotate_left
   ·intro hg;exact Bool.noConfusion ((g_8).symm.trans hg)
   intro _
   refine sr [(0,{ id:=1,m:=1 })] [2,3] [1] 2 [.own 1 0,Ii 2] [Rb 28 1 []] zF an ?_
   refine wk [1] [] [.a 2 (.own 0 ((([]:List (List (Int)))).length)),.s 3] [.s 0] [(2,.own 0 ((([]:List (List (Int)))).length)),(3,Ii 2)] [(0,Rb 28 1 [])] (ac (congrArg (AV.own _) (by first | (simp;done) | (simp;omega)):(.own 1 0:AV)=.own 1 ((([]:List (List (Int)))).length)) an) ?_
   refine rt ?_
   cases h
   exact ⟨rfl,Nat.le_of_ble_eq_true rfl,by kernel_rfl⟩
  intro g_8;replace h:=zW g_8 h
  refine rg [] [1,19] [0] 1 [Pp 0,.bool (decide (r_1.Next>(1000000000000000:Int)))] [Vb 30 (zP r_1)] zF an ?_
  refine cd 19 (decide (r_1.Next>(1000000000000000:Int))) ?_ ?_
  rotate_left
  ·intro g_9;replace h:=zW g_9 h
   refine sk ?_
   cases h
   exact ⟨rfl,(sw [0] [] [.s 1] [.s 0] an)⟩
  intro g_9;replace h:=zV g_9 h
  refine sr [(0,{ id:=1,m:=1 })] [2,3] [1] 2 [.own 1 0,Ii 2] [Rb 28 1 []] zF an ?_
  refine wk [1] [] [.a 2 (.own 0 ((([]:List (List (Int)))).length)),.s 3] [.s 0] [(2,.own 0 ((([]:List (List (Int)))).length)),(3,Ii 2)] [(0,Rb 28 1 [])] (ac (congrArg (AV.own _) (by first | (simp;done) | (simp;omega)):(.own 1 0:AV)=.own 1 ((([]:List (List (Int)))).length)) an) ?_
  refine rt ?_
  cases h
  exact ⟨rfl,Nat.le_of_ble_eq_true rfl,by kernel_rfl⟩
 intro e st1 hk
 rcases o_1 with q_1 | q_2
 rotate_left
 ·obtain ⟨rfl,hf⟩:=hk
  cases h
  exact ⟨st1,Sub.refl _ _,.inr rfl,hf⟩
 obtain ⟨rfl,hs⟩:=hk
 refine ⟨_,hs,?_⟩
 refine sq ?_
 obtain ⟨r_2,h_2,h⟩:=bind_some h
 obtain ⟨r_3,h_3,h⟩:=bind_some h
 refine rg [(1,{ av:=.own 0 ((r_2).length),ids:=[1],l:=[z6 r_1],post:=[(.row 5 1 (Mb r_2))] }),(2,{ av:=.tuple [.own 0 ((r_3.1).length),.bool r_3.2],frz:=[1],ids:=[2],l:=[.sl false 1 (Mb r_2)],post:=[(.row 28 1 (List.map (fun l=>AV.sl false 1 (l.map (AV.int .u8))) r_3.1))] })] [1,5,6] [0,2] 3 [Pp 0,.own 2 ((r_3.1).length),.bool r_3.2] [Vb 30 (zP r_1),Rb 28 1 (List.map (fun l=>AV.sl false 1 (l.map (AV.int .u8))) r_3.1)] zF (ar ([z6 r_1]:List AV) (ac (rfl:([]:List zU)=[]) (ac (zFu r_1 r_2 h_2:zS prog 81 [] [] [z6 r_1] [(.row 5 1 (Mb r_2))] (.own 0 ((r_2).length))) (ac (by first | (simp;done) | (simp;omega):(r_2).length=((List.map (AV.int .u8) r_2)).length) (ar ([.sl false 1 (Mb r_2)]:List AV) (ac (rfl:([]:List zU)=[]) (ac (zHT F r_2 r_3 h_3:zS prog 80 [] [] [.sl false 1 (Mb r_2)] [(.row 28 1 (List.map (fun l=>AV.sl false 1 (l.map (AV.int .u8))) r_3.1))] (.tuple [.own 0 ((r_3.1).length),.bool r_3.2])) an))))))) ?_
 refine sq ?_
 refine sq ?_
 refine yV (mk [(5,.own 0 ((r_3.1).length)),(72,.bool (!r_3.2||((lN (r_3.1)) != (zG (r_1.Next - r_1.First)))))] [(0,Rb 28 1 (List.map (fun l=>AV.sl false 1 (l.map (AV.int .u8))) r_3.1))] 1) ?_ ?_
 ·rcases bft (!r_3.2) with z5 | z5
  ·refine rg [(3,Hg),(4,Hg),(5,Hg),(6,Hg),(7,Hg),(8,Hg),(9,Hg),(10,Hg),(11,Ht)] [5,72] [2] 3 [.own 2 ((r_3.1).length),.bool true] [Rb 28 1 (List.map (fun l=>AV.sl false 1 (l.map (AV.int .u8))) r_3.1)] zF (ac z5 (ac z5 (ac z5 (ac z5 (ac z5 (ac z5 (ac z5 (ac z5 (ac z5 an))))))))) ?_
   exact ⟨rfl,(sw [2] [] [.s 5,.a 72 (.bool (!r_3.2||((lN (r_3.1)) != (zG (r_1.Next - r_1.First)))))] [.s 0] (ac (congrArg AV.bool (ort z5):(.bool true:AV)=.bool (!r_3.2||((lN (r_3.1)) != (zG (r_1.Next - r_1.First))))) an))⟩
  ·refine rg [(11,Hf)] [5,72] [2] 3 [.own 2 ((r_3.1).length),.bool ((lN (r_3.1)) != (zG (r_1.Next - r_1.First)))] [Rb 28 1 (List.map (fun l=>AV.sl false 1 (l.map (AV.int .u8))) r_3.1)] zF (ac z5 (ac z5 (ac z5 (ac z5 (ac z5 (ac z5 (ac z5 (ac z5 (ac z5 an))))))))) ?_
   exact ⟨rfl,(sw [2] [] [.s 5,.a 72 (.bool (!r_3.2||((lN (r_3.1)) != (zG (r_1.Next - r_1.First)))))] [.s 0] (ac (congrArg AV.bool (orf z5 rfl):(.bool ((lN (r_3.1)) != (zG (r_1.Next - r_1.First))):AV)=.bool (!r_3.2||((lN (r_3.1)) != (zG (r_1.Next - r_1.First))))) an))⟩
 refine cd 72 (!r_3.2||((lN (r_3.1)) != (zG (r_1.Next - r_1.First)))) ?_ ?_
 ·intro zFQ;replace h:=zV zFQ h
  refine sr [(0,{ id:=1,m:=1 })] [2,3] [1] 2 [.own 1 0,Ii 10] [Rb 28 1 []] zF an ?_
  refine wk [1] [] [.a 2 (.own 0 ((([]:List (List (Int)))).length)),.s 3] [.s 0] [(2,.own 0 ((([]:List (List (Int)))).length)),(3,Ii 10)] [(0,Rb 28 1 [])] (ac (congrArg (AV.own _) (by first | (simp;done) | (simp;omega)):(.own 1 0:AV)=.own 1 ((([]:List (List (Int)))).length)) an) ?_
  refine rt ?_
  cases h
  exact ⟨.inr rfl,Nat.le_of_ble_eq_true rfl,by kernel_rfl⟩
 intro zFQ;replace h:=zW zFQ h
 refine sk ?_
 refine sr [] [2,3] [0] 1 [.own 0 ((r_3.1).length),Ii 0] [Rb 28 1 (List.map (fun l=>AV.sl false 1 (l.map (AV.int .u8))) r_3.1)] zF an ?_
 refine wk [0] [] [.s 2,.s 3] [.s 0] [(2,.own 0 ((r_3.1).length)),(3,Ii 0)] [(0,Rb 28 1 (List.map (fun l=>AV.sl false 1 (l.map (AV.int .u8))) r_3.1))] an ?_
 refine rt ?_
 cases h
 exact ⟨.inr rfl,Nat.le_of_ble_eq_true rfl,by kernel_rfl⟩
theorem zHI (F:Nat) (r_1:zB) (r:Int) (h:zBd F r_1=some r):zS prog 51 [] [] [z6 r_1] [] (Ii r):=by
 refine yD (fn:=Go.Proofs.Try.f51) (code:=y5 Go.Proofs.Try.f51) (by kernel_rfl) (by kernel_rfl) (Nat.le_of_ble_eq_true (by kernel_rfl)) ?_
 unfold zBd at h
 refine sr [(0,{ id:=0 })] [1] [0] 1 [Pp 0] [Vb 30 (zP r_1)] zF an ?_
 refine sq ?_
 obtain ⟨r_2,h_1,h⟩:=bind_some h
 refine rg [(1,{ av:=.tuple [.own 0 ((r_2.1).length),Ii r_2.2],ids:=[1],l:=[z6 r_1],post:=[(.row 28 1 (List.map (fun l=>AV.sl false 1 (l.map (AV.int .u8))) r_2.1))] })] [4] [] 2 [Ii r_2.2] [] zF (ar ([z6 r_1]:List AV) (ac (rfl:([]:List zU)=[]) (ac (zCE F r_1 r_2 h_1:zS prog 53 [] [] [z6 r_1] [(.row 28 1 (List.map (fun l=>AV.sl false 1 (l.map (AV.int .u8))) r_2.1))] (.tuple [.own 0 ((r_2.1).length),Ii r_2.2])) an))) ?_
 refine sr [] [2] [] 2 [Ii r_2.2] [] zF an ?_
 refine rt ?_
 cases h
 exact ⟨.inr rfl,Nat.le_of_ble_eq_true rfl,by kernel_rfl⟩
theorem zEn (F:Nat) (r_1:zB) (r:(List (List (Int)))×zB) (h:zAW F r_1=some r):zS prog 35 [] [] [z6 r_1] [.row 28 1 (List.map (fun l=>AV.sl false 1 (l.map (AV.int .u8))) r.1)] (.tuple [.own 0 ((r.1).length),z6 r.2]):=by
 refine yD (fn:=Go.Proofs.Try.f35) (code:=y5 Go.Proofs.Try.f35) (by kernel_rfl) (by kernel_rfl) (Nat.le_of_ble_eq_true (by kernel_rfl)) ?_
 unfold zAW at h
 refine sr [(0,{ id:=0 }),(1,{ id:=1,m:=1 }),(2,{ id:=2 })] [1,3] [0,2] 3 [Pp 0,Pp 2] [Vb 30 (zP r_1),Vb 30 [Ii 0,.nilsl,Ii 0,Ii 0,Ii 0,Ii 0]] zF an ?_
 refine sq ?_
 obtain ⟨r_2,h_1,h⟩:=bind_some h
 refine rg [(1,{ av:=.tuple [.own 0 ((r_2.1).length),Ii r_2.2],ids:=[3],l:=[z6 r_1],post:=[(.row 28 1 (List.map (fun l=>AV.sl false 1 (l.map (AV.int .u8))) r_2.1))] })] [1,3,4,5] [0,2,3] 4 [Pp 0,Pp 2,.own 3 ((r_2.1).length),Ii r_2.2] [Vb 30 (zP r_1),Vb 30 [Ii 0,.nilsl,Ii 0,Ii 0,Ii 0,Ii 0],Rb 28 1 (List.map (fun l=>AV.sl false 1 (l.map (AV.int .u8))) r_2.1)] zF (ar ([z6 r_1]:List AV) (ac (rfl:([]:List zU)=[]) (ac (zCE F r_1 r_2 h_1:zS prog 53 [] [] [z6 r_1] [(.row 28 1 (List.map (fun l=>AV.sl false 1 (l.map (AV.int .u8))) r_2.1))] (.tuple [.own 0 ((r_2.1).length),Ii r_2.2])) an))) ?_
 refine sq ?_
 refine sr [] [1,3,4,12] [0,2,3] 4 [Pp 0,Pp 2,.own 3 ((r_2.1).length),.bool (r_2.2 != (0:Int))] [Vb 30 (zP r_1),Vb 30 [Ii 0,.nilsl,Ii 0,Ii 0,Ii 0,Ii 0],Rb 28 1 (List.map (fun l=>AV.sl false 1 (l.map (AV.int .u8))) r_2.1)] zF an ?_
 refine cd 12 (r_2.2 != (0:Int)) ?_ ?_
 ·intro g_1;replace h:=zV g_1 h
  refine sr [(1,{ id:=4,m:=1 })] [2,3] [2,4] 5 [.own 4 0,Pp 2] [Vb 30 (zP r_1),Rb 28 1 []] zF an ?_
  refine wk [4,2] [] [.a 2 (.own 0 ((([]:List (List (Int)))).length)),.s 3] [.s 0,.s 1] [(2,.own 0 ((([]:List (List (Int)))).length)),(3,Pp 1)] [(0,Rb 28 1 []),(1,Vb 30 (zP r_1))] (ac (congrArg (AV.own _) (by first | (simp;done) | (simp;omega)):(.own 4 0:AV)=.own 4 ((([]:List (List (Int)))).length)) an) ?_
  refine rt ?_
  cases h
  exact ⟨.inr rfl,Nat.le_of_ble_eq_true rfl,by kernel_rfl⟩
 intro g_1;replace h:=zW g_1 h
 refine sk ?_
 refine sr [] [1,3,4] [0,2,3] 4 [Pp 0,Pp 2,.own 3 ((r_2.1).length)] [Vb 30 [Ii r_1.Policy,.sl false 1 (Mb r_1.Data),Ii r_1.End,Ii r_1.End,Ii r_1.Next,Ii r_1.Next],Vb 30 [Ii 0,.nilsl,Ii 0,Ii 0,Ii 0,Ii 0],Rb 28 1 (List.map (fun l=>AV.sl false 1 (l.map (AV.int .u8))) r_2.1)] zF an ?_
 refine sr [] [2,3] [2,3] 4 [.own 3 ((r_2.1).length),Pp 2] [Vb 30 [Ii r_1.Policy,.sl false 1 (Mb r_1.Data),Ii r_1.End,Ii r_1.End,Ii r_1.Next,Ii r_1.Next],Rb 28 1 (List.map (fun l=>AV.sl false 1 (l.map (AV.int .u8))) r_2.1)] zF an ?_
 refine wk [3,2] [] [.s 2,.s 3] [.s 0,.a 1 (Vb 30 (zP (⟨r_1.Policy,r_1.Data,r_1.End,r_1.End,r_1.Next,r_1.Next⟩:zB)))] [(2,.own 0 ((r_2.1).length)),(3,Pp 1)] [(0,Rb 28 1 (List.map (fun l=>AV.sl false 1 (l.map (AV.int .u8))) r_2.1)),(1,Vb 30 (zP (⟨r_1.Policy,r_1.Data,r_1.End,r_1.End,r_1.Next,r_1.Next⟩:zB)))] (ar 30 (ac (rfl:vI [Ii ((⟨r_1.Policy,r_1.Data,r_1.End,r_1.End,r_1.Next,r_1.Next⟩:zB).Policy),.sl false 1 (Mb ((⟨r_1.Policy,r_1.Data,r_1.End,r_1.End,r_1.Next,r_1.Next⟩:zB).Data)),Ii ((⟨r_1.Policy,r_1.Data,r_1.End,r_1.End,r_1.Next,r_1.Next⟩:zB).Start),Ii ((⟨r_1.Policy,r_1.Data,r_1.End,r_1.End,r_1.Next,r_1.Next⟩:zB).End),Ii ((⟨r_1.Policy,r_1.Data,r_1.End,r_1.End,r_1.Next,r_1.Next⟩:zB).First),Ii ((⟨r_1.Policy,r_1.Data,r_1.End,r_1.End,r_1.Next,r_1.Next⟩:zB).Next)]=true) (ac (rfl:(Ii r_1.Policy:AV)=Ii ((⟨r_1.Policy,r_1.Data,r_1.End,r_1.End,r_1.Next,r_1.Next⟩:zB).Policy)) (ar 1 (ac (rfl:((Mb r_1.Data):List AV)=(Mb ((⟨r_1.Policy,r_1.Data,r_1.End,r_1.End,r_1.Next,r_1.Next⟩:zB).Data))) (ac (rfl:(!false||false)=true) (ac (rfl:(Ii r_1.End:AV)=Ii ((⟨r_1.Policy,r_1.Data,r_1.End,r_1.End,r_1.Next,r_1.Next⟩:zB).Start)) (ac (rfl:(Ii r_1.End:AV)=Ii ((⟨r_1.Policy,r_1.Data,r_1.End,r_1.End,r_1.Next,r_1.Next⟩:zB).End)) (ac (rfl:(Ii r_1.Next:AV)=Ii ((⟨r_1.Policy,r_1.Data,r_1.End,r_1.End,r_1.Next,r_1.Next⟩:zB).First)) (ac (rfl:(Ii r_1.Next:AV)=Ii ((⟨r_1.Policy,r_1.Data,r_1.End,r_1.End,r_1.Next,r_1.Next⟩:zB).Next)) an)))))))))) ?_
 refine rt ?_
 cases h
 exact ⟨.inr rfl,Nat.le_of_ble_eq_true rfl,by kernel_rfl⟩
theorem uY (F:Nat) (x_1:yY) (r:Int×yY) (h:wA F x_1=some r):zS prog 97 [(.var 136 (yL x_1))] [] [Pp 0] [(.var 136 (yL r.2))] (Ii r.1):=by
 refine yD (fn:=Go.Proofs.Try.f97) (code:=y5 Go.Proofs.Try.f97) (by kernel_rfl) (by kernel_rfl) (Nat.le_of_ble_eq_true (by kernel_rfl)) ?_
 unfold wA at h
 refine sr [] [0] [0] 1 [Pp 0] [Vb 136 (yL x_1)] zF an ?_
 refine sq ?_
 refine sr [] [0,10] [0] 1 [Pp 0,.bool (x_1.fault != (0:Int))] [Vb 136 (yL x_1)] zF an ?_
 refine cd 10 (x_1.fault != (0:Int)) ?_ ?_
 ·intro g_1;replace h:=zV g_1 h
  refine sr [] [2] [0] 1 [Ii 0] [Vb 136 (yL x_1)] zF an ?_
  refine wk [0] [] [.s 2] [.s 0] [(2,Ii 0)] [(0,Vb 136 (yL x_1))] an ?_
  refine rt ?_
  cases h
  exact ⟨.inr rfl,Nat.le_of_ble_eq_true rfl,by kernel_rfl⟩
 intro g_1;replace h:=zW g_1 h
 refine sk ?_
 refine sq ?_
 obtain ⟨_,h_1,h⟩:=bind_some h;replace h_1:=yU h_1
 obtain ⟨r_1,h_2,h⟩:=bind_some h
 refine rg [(8,{ l:=(Mb (sub x_1.b x_1.used (lN (x_1.b)))) }),(9,{ av:=.tuple [Ii r_1.1,Ii r_1.2.1,Ii r_1.2.2],l:=[.sl false 1 (Mb (sub x_1.b x_1.used (lN (x_1.b))))] })] [0,3,4,5] [0] 1 [Pp 0,Ii r_1.1,Ii r_1.2.1,Ii r_1.2.2] [Vb 136 (yL x_1)] zF (ac h_1.1 (ac (p7 h_1.2:x_1.used≤(lN ((Mb x_1.b)))) (ac (Int.le_refl _:(lN ((Mb x_1.b)))≤(lN ((Mb x_1.b)))) (ac (zDe _ _:(Mb (sub x_1.b x_1.used (lN (x_1.b))))=(((Mb x_1.b)).take ((lN ((Mb x_1.b)))).toNat).drop (x_1.used).toNat) (ar ([.sl false 1 (Mb (sub x_1.b x_1.used (lN (x_1.b))))]:List AV) (ac (rfl:([]:List zU)=[]) (ac (zEr F (sub x_1.b x_1.used (lN (x_1.b))) r_1 h_2:zS prog 99 [] [] [.sl false 1 (Mb (sub x_1.b x_1.used (lN (x_1.b))))] [] (.tuple [Ii r_1.1,Ii r_1.2.1,Ii r_1.2.2])) an))))))) ?_
 refine sr [] [0,3,4] [0] 1 [Pp 0,Ii r_1.1,Ii r_1.2.1] [Vb 136 [.sl false 1 (Mb x_1.b),Ii x_1.used,Ii r_1.2.2]] zF an ?_
 refine sr [] [3] [0] 1 [Ii r_1.1] [Vb 136 [.sl false 1 (Mb x_1.b),Ii (zG (x_1.used+r_1.2.1)),Ii r_1.2.2]] zF an ?_
 refine sr [] [2] [0] 1 [Ii r_1.1] [Vb 136 [.sl false 1 (Mb x_1.b),Ii (zG (x_1.used+r_1.2.1)),Ii r_1.2.2]] zF an ?_
 refine wk [0] [] [.s 2] [.a 0 (Vb 136 (yL (⟨x_1.b,zG (x_1.used+r_1.2.1),r_1.2.2⟩:yY)))] [(2,Ii r_1.1)] [(0,Vb 136 (yL (⟨x_1.b,zG (x_1.used+r_1.2.1),r_1.2.2⟩:yY)))] (ar 136 (ac (rfl:vI [.sl false 1 (Mb ((⟨x_1.b,zG (x_1.used+r_1.2.1),r_1.2.2⟩:yY).b)),Ii ((⟨x_1.b,zG (x_1.used+r_1.2.1),r_1.2.2⟩:yY).used),Ii ((⟨x_1.b,zG (x_1.used+r_1.2.1),r_1.2.2⟩:yY).fault)]=true) (ar 1 (ac (rfl:((Mb x_1.b):List AV)=(Mb ((⟨x_1.b,zG (x_1.used+r_1.2.1),r_1.2.2⟩:yY).b))) (ac (rfl:(!false||false)=true) (ac (rfl:(Ii (zG (x_1.used+r_1.2.1)):AV)=Ii ((⟨x_1.b,zG (x_1.used+r_1.2.1),r_1.2.2⟩:yY).used)) (ac (rfl:(Ii r_1.2.2:AV)=Ii ((⟨x_1.b,zG (x_1.used+r_1.2.1),r_1.2.2⟩:yY).fault)) an))))))) ?_
 refine rt ?_
 cases h
 exact ⟨.inr rfl,Nat.le_of_ble_eq_true rfl,by kernel_rfl⟩
theorem zDq (k_1:Int) (r:Bool×Bool×Bool×Bool) (h:zAH k_1=some r):zS prog 58 [] [] [Ii k_1] [] (.tuple [.bool r.1,.bool r.2.1,.bool r.2.2.1,.bool r.2.2.2]):=by
 refine yD (fn:=Go.Proofs.Try.f58) (code:=y5 Go.Proofs.Try.f58) (by kernel_rfl) (by kernel_rfl) (Nat.le_of_ble_eq_true (by kernel_rfl)) ?_
 unfold zAH at h
 refine sr [] [0] [] 0 [Ii k_1] [] zF an ?_
 refine sq ?_
 refine yV (mk [(0,Ii k_1),(2,.bool ((k_1==(1:Int))||((k_1==(3:Int))||(k_1==(4:Int)))))] [] 0) ?_ ?_
 ·rcases bft (k_1==(1:Int)) with zX | zX
  ·refine rg [(3,Hg),(4,Hg),(5,Ht),(7,Hg),(8,Hg),(9,Ht)] [0,2] [] 0 [Ii k_1,.bool true] [] zF (ac zX (ac zX (ac zX (ax (ax (ar true an)))))) ?_
   exact ⟨rfl,(sw [] [] [.s 0,.a 2 (.bool ((k_1==(1:Int))||((k_1==(3:Int))||(k_1==(4:Int)))))] [] (ac (congrArg AV.bool (ort zX):(.bool true:AV)=.bool ((k_1==(1:Int))||((k_1==(3:Int))||(k_1==(4:Int))))) an))⟩
  ·rcases bft (k_1==(3:Int)) with zQ | zQ
   ·refine rg [(5,Hf),(7,Hg),(8,Hg),(9,Ht)] [0,2] [] 0 [Ii k_1,.bool true] [] zF (ac zX (ac zX (ac zX (ac zQ (ac zQ (ac zQ an)))))) ?_
    exact ⟨rfl,(sw [] [] [.s 0,.a 2 (.bool ((k_1==(1:Int))||((k_1==(3:Int))||(k_1==(4:Int)))))] [] (ac (congrArg AV.bool (orf zX (ort zQ)):(.bool true:AV)=.bool ((k_1==(1:Int))||((k_1==(3:Int))||(k_1==(4:Int))))) an))⟩
   ·refine rg [(5,Hf),(9,Hf)] [0,2] [] 0 [Ii k_1,.bool (k_1==(4:Int))] [] zF (ac zX (ac zX (ac zX (ac zQ (ac zQ (ac zQ an)))))) ?_
    exact ⟨rfl,(sw [] [] [.s 0,.a 2 (.bool ((k_1==(1:Int))||((k_1==(3:Int))||(k_1==(4:Int)))))] [] (ac (congrArg AV.bool (orf zX (orf zQ rfl)):(.bool (k_1==(4:Int)):AV)=.bool ((k_1==(1:Int))||((k_1==(3:Int))||(k_1==(4:Int))))) an))⟩
 refine sr [] [0,2,3] [] 0 [Ii k_1,.bool ((k_1==(1:Int))||((k_1==(3:Int))||(k_1==(4:Int)))),.bool (decide (k_1≥(4:Int)))] [] zF an ?_
 refine sq ?_
 refine yV (mk [(0,Ii k_1),(2,.bool ((k_1==(1:Int))||((k_1==(3:Int))||(k_1==(4:Int))))),(3,.bool (decide (k_1≥(4:Int)))),(4,.bool ((k_1==(9:Int))||(k_1==(11:Int))))] [] 0) ?_ ?_
 ·rcases bft (k_1==(9:Int)) with zY | zY
  ·refine rg [(3,Hg),(4,Hg),(5,Ht)] [0,2,3,4] [] 0 [Ii k_1,.bool ((k_1==(1:Int))||((k_1==(3:Int))||(k_1==(4:Int)))),.bool (decide (k_1≥(4:Int))),.bool true] [] zF (ac zY (ac zY (ac zY an))) ?_
   exact ⟨rfl,(sw [] [] [.s 0,.s 2,.s 3,.a 4 (.bool ((k_1==(9:Int))||(k_1==(11:Int))))] [] (ac (congrArg AV.bool (ort zY):(.bool true:AV)=.bool ((k_1==(9:Int))||(k_1==(11:Int)))) an))⟩
  ·refine rg [(5,Hf)] [0,2,3,4] [] 0 [Ii k_1,.bool ((k_1==(1:Int))||((k_1==(3:Int))||(k_1==(4:Int)))),.bool (decide (k_1≥(4:Int))),.bool (k_1==(11:Int))] [] zF (ac zY (ac zY (ac zY an))) ?_
   exact ⟨rfl,(sw [] [] [.s 0,.s 2,.s 3,.a 4 (.bool ((k_1==(9:Int))||(k_1==(11:Int))))] [] (ac (congrArg AV.bool (orf zY rfl):(.bool (k_1==(11:Int)):AV)=.bool ((k_1==(9:Int))||(k_1==(11:Int)))) an))⟩
 refine sq ?_
 refine yV (mk [(2,.bool ((k_1==(1:Int))||((k_1==(3:Int))||(k_1==(4:Int))))),(3,.bool (decide (k_1≥(4:Int)))),(4,.bool ((k_1==(9:Int))||(k_1==(11:Int)))),(5,.bool ((k_1==(5:Int))||(k_1==(11:Int))))] [] 0) ?_ ?_
 ·rcases bft (k_1==(5:Int)) with z8 | z8
  ·refine rg [(3,Hg),(4,Hg),(5,Ht)] [2,3,4,5] [] 0 [.bool ((k_1==(1:Int))||((k_1==(3:Int))||(k_1==(4:Int)))),.bool (decide (k_1≥(4:Int))),.bool ((k_1==(9:Int))||(k_1==(11:Int))),.bool true] [] zF (ac z8 (ac z8 (ac z8 an))) ?_
   exact ⟨rfl,(sw [] [] [.s 2,.s 3,.s 4,.a 5 (.bool ((k_1==(5:Int))||(k_1==(11:Int))))] [] (ac (congrArg AV.bool (ort z8):(.bool true:AV)=.bool ((k_1==(5:Int))||(k_1==(11:Int)))) an))⟩
  ·refine rg [(5,Hf)] [2,3,4,5] [] 0 [.bool ((k_1==(1:Int))||((k_1==(3:Int))||(k_1==(4:Int)))),.bool (decide (k_1≥(4:Int))),.bool ((k_1==(9:Int))||(k_1==(11:Int))),.bool (k_1==(11:Int))] [] zF (ac z8 (ac z8 (ac z8 an))) ?_
   exact ⟨rfl,(sw [] [] [.s 2,.s 3,.s 4,.a 5 (.bool ((k_1==(5:Int))||(k_1==(11:Int))))] [] (ac (congrArg AV.bool (orf z8 rfl):(.bool (k_1==(11:Int)):AV)=.bool ((k_1==(5:Int))||(k_1==(11:Int)))) an))⟩
 refine sr [] [2,3,4,5] [] 0 [.bool ((k_1==(1:Int))||((k_1==(3:Int))||(k_1==(4:Int)))),.bool (decide (k_1≥(4:Int))),.bool ((k_1==(9:Int))||(k_1==(11:Int))),.bool ((k_1==(5:Int))||(k_1==(11:Int)))] [] zF an ?_
 refine rt ?_
 cases h
 exact ⟨.inr rfl,Nat.le_of_ble_eq_true rfl,by kernel_rfl⟩
theorem zAY (F:Nat) (s_1:List (List Int)) (r:(List (List Int))) (h:vO F s_1=some r):zS prog 102 [(.row 9 1 (Ms s_1))] [] [.own 0 ((s_1).length)] [(.row 9 1 (Ms r))] (.tuple []):=by
 refine yD (fn:=Go.Proofs.Try.f102) (code:=y5 Go.Proofs.Try.f102) (by kernel_rfl) (by kernel_rfl) (Nat.le_of_ble_eq_true (by kernel_rfl)) ?_
 unfold vO at h
 refine sr [] [0,2,3] [0] 1 [.own 0 ((s_1).length),Ii 0,Ii (zG ((lN (s_1)) - (1:Int)))] [Rb 9 1 (Ms s_1)] zF an ?_
 obtain ⟨o_1,h_1,h⟩:=bind_some h
 refine yV (mk [] [(0,Rb 9 1 (Ms o_1))] 1) ?_ ?_
 ·replace h:=h_1
  refine yN (id:=0) (by kernel_rfl) ?_
  refine wk [0] [] [.s 0,.s 2,.s 3] [.s 0] [(0,.own 0 ((s_1).length)),(2,Ii 0),(3,Ii (zG ((lN (s_1)) - (1:Int))))] [(0,Rb 9 1 (Ms s_1))] an ?_
  refine wH (fun n st=>∃ (i_1:Int),∃ (j_1:Int),∃ (zL:List (List Int)),st=mk [(0,.own 0 ((zL).length)),(2,Ii i_1),(3,Ii j_1)] [(0,Rb 9 1 (Ms zL))] 1∧wC F n i_1 j_1 zL=some o_1) F (by kernel_rfl) ⟨_,_,_,rfl,h⟩ ?_ ?_
  ·rintro _ ⟨_,_,_,_,h⟩;exact w5 (h:(none:Option (List (List Int)))=some o_1)
  rintro n_1 _ ⟨i_1,j_1,zL,rfl,h⟩
  replace h:wG F (wC F n_1) i_1 j_1 zL=some o_1:=h
  unfold wG at h
  refine sq ?_
  refine sr [] [0,2,3,9] [0] 1 [.own 0 ((zL).length),Ii i_1,Ii j_1,.bool (decide (i_1<j_1))] [Rb 9 1 (Ms zL)] zF an ?_
  refine cd 9 (decide (i_1<j_1)) ?_ ?_
  rotate_left
  ·intro g_1;replace h:=zW g_1 h
   refine wS (id:=0) (by kernel_rfl) ?_
   cases h
   exact ⟨rfl,(sw [0] [] [] [.s 0] an)⟩
  intro g_1;replace h:=zV g_1 h
  refine sk ?_
  refine sq ?_
  refine yN (id:=1) (by kernel_rfl) ?_
  obtain ⟨x_1,h_2,h⟩:=bind_some h
  obtain ⟨x_2,h_3,h⟩:=bind_some h
  obtain ⟨x_3,h_4,h⟩:=bind_some h
  obtain ⟨x_4,h_5,h⟩:=bind_some h
  refine rg [(7,{ av:=.str x_1 }),(11,{ av:=.str x_2 }),(13,{ av:=.str x_3,l:=(Ms ((zL).set ((i_1).toNat) x_1)) }),(15,{ av:=.str x_4,l:=(Ms (((zL).set ((i_1).toNat) x_1).set ((j_1).toNat) x_2)) })] [0,2,3] [0] 1 [.own 0 ((zL).length),Ii i_1,Ii j_1] [Rb 9 1 (Ms (((zL).set ((i_1).toNat) x_1).set ((j_1).toNat) x_2))] zF (ac (y6 h_2:(0:Int)≤j_1) (ac (by first | (simp;done) | simpa using y7 h_2:j_1<(((zL).length:Nat):Int)) (ac (xD h_2:(Ms zL)[(j_1).toNat]?=some (.str x_1)) (ac (y6 h_3:(0:Int)≤i_1) (ac (by first | (simp;done) | simpa using y7 h_3:i_1<(((zL).length:Nat):Int)) (ac (xD h_3:(Ms zL)[(i_1).toNat]?=some (.str x_2)) (ac (y6 h_4:(0:Int)≤i_1) (ac (by first | (simp;done) | simpa using y7 h_4:i_1<(((zL).length:Nat):Int)) (ac (xD h_4:(Ms zL)[(i_1).toNat]?=some (.str x_3)) (ac (zDo _ _ _:(Ms ((zL).set ((i_1).toNat) x_1))=List.set (Ms zL) ((i_1).toNat) (nO (.str x_3) 0 [.str x_1])) (ac (y6 h_5:(0:Int)≤j_1) (ac (by first | (simp;done) | simpa using y7 h_5:j_1<(((zL).length:Nat):Int)) (ac (xD h_5:(Ms ((zL).set ((i_1).toNat) x_1))[(j_1).toNat]?=some (.str x_4)) (ac (zDo _ _ _:(Ms (((zL).set ((i_1).toNat) x_1).set ((j_1).toNat) x_2))=List.set (Ms ((zL).set ((i_1).toNat) x_1)) ((j_1).toNat) (nO (.str x_4) 0 [.str x_2])) an)))))))))))))) ?_
  refine rg [] [0,2,3] [0] 1 [.own 0 ((zL).length),Ii (zG (i_1+(1:Int))),Ii (zG (j_1 - (1:Int)))] [Rb 9 1 (Ms (((zL).set ((i_1).toNat) x_1).set ((j_1).toNat) x_2))] zF an ?_
  exact ⟨_,(sw [0] [] [.a 0 (.own 0 ((((zL).set ((i_1).toNat) x_1).set ((j_1).toNat) x_2).length)),.s 2,.s 3] [.s 0] (ac (congrArg (AV.own _) (by first | (simp;done) | (simp;omega)):(.own 0 ((zL).length):AV)=.own 0 ((((zL).set ((i_1).toNat) x_1).set ((j_1).toNat) x_2).length)) an)),_,_,_,rfl,h⟩
 cases h
 exact ⟨.inl rfl,Nat.le_of_ble_eq_true rfl,by kernel_rfl⟩
theorem zGt (F:Nat) (zI:List (List Int)) (zH:List (zJ)) (i_1:Int) (r:(List (List Int))×Int) (h:pJ F zI zH i_1=some r):zS prog 98 [] [] [.sl false 1 (Ms zI),.sl false 2 (Mp zD zH),Ii i_1] [.row 9 1 (Ms r.1)] (.tuple [.own 0 ((r.1).length),Ii r.2]):=by
 refine yD (fn:=Go.Proofs.Try.f98) (code:=y5 Go.Proofs.Try.f98) (by kernel_rfl) (by kernel_rfl) (Nat.le_of_ble_eq_true (by kernel_rfl)) ?_
 unfold pJ at h
 refine sr [(0,{ id:=0,m:=1 })] [0,1,2] [] 1 [.sl false 1 (Ms zI),.sl false 2 (Mp zD zH),Ii i_1] [] zF an ?_
 refine sq ?_
 refine yN (id:=0) (by kernel_rfl) ?_
 refine sq ?_
 obtain ⟨r_1,h_1,h⟩:=bind_some h
 refine rg [(2,{ av:=Ii r_1,l:=[.sl false 1 (Ms zI),.sl false 2 (Mp zD zH)] })] [0,1,2,9] [] 1 [.sl false 1 (Ms zI),.sl false 2 (Mp zD zH),Ii i_1,.bool (r_1 != (0:Int))] [] zF (ar ([.sl false 1 (Ms zI),.sl false 2 (Mp zD zH)]:List AV) (ac (rfl:([]:List zU)=[]) (ac (nW F zI zH r_1 h_1:zS prog 50 [] [] [.sl false 1 (Ms zI),.sl false 2 (Mp zD zH)] [] (Ii r_1)) an))) ?_
 refine cd 9 (r_1 != (0:Int)) ?_ ?_
 ·intro g_1;replace h:=zV g_1 h
  refine sr [(0,{ id:=1,m:=1 })] [6,7] [1] 2 [.own 1 0,Ii 1] [Rb 9 1 []] zF an ?_
  refine wk [1] [] [.a 6 (.own 0 ((([]:List (List Int))).length)),.s 7] [.s 0] [(6,.own 0 ((([]:List (List Int))).length)),(7,Ii 1)] [(0,Rb 9 1 [])] (ac (congrArg (AV.own _) (by first | (simp;done) | (simp;omega)):(.own 1 0:AV)=.own 1 ((([]:List (List Int))).length)) an) ?_
  refine rt ?_
  cases h
  exact ⟨.inr rfl,Nat.le_of_ble_eq_true rfl,by kernel_rfl⟩
 intro g_1;replace h:=zW g_1 h
 refine sq ?_
 refine yV (mk [(0,.sl false 1 (Ms zI)),(1,.sl false 2 (Mp zD zH)),(2,Ii i_1),(14,.bool (decide (i_1<(-1:Int))||decide (i_1≥(lN (zH)))))] [] 0) ?_ ?_
 ·rcases bft (decide (i_1<(-1:Int))) with zQ | zQ
  ·refine rg [(3,Hg),(4,Hg),(5,Hg),(6,Hg),(7,Ht)] [0,1,2,14] [] 1 [.sl false 1 (Ms zI),.sl false 2 (Mp zD zH),Ii i_1,.bool true] [] zF (ac zQ (ac zQ (ac zQ (ac zQ (ac zQ an))))) ?_
   exact ⟨rfl,(sw [] [] [.s 0,.s 1,.s 2,.a 14 (.bool (decide (i_1<(-1:Int))||decide (i_1≥(lN (zH)))))] [] (ac (congrArg AV.bool (ort zQ):(.bool true:AV)=.bool (decide (i_1<(-1:Int))||decide (i_1≥(lN (zH))))) an))⟩
  ·refine rg [(5,{ n:=(zH).length }),(7,Hf)] [0,1,2,14] [] 1 [.sl false 1 (Ms zI),.sl false 2 (Mp zD zH),Ii i_1,.bool (decide (i_1≥(lN (zH))))] [] zF (ac zQ (ac zQ (ac zQ (ac (yO _:((Mp zD zH)).length=(zH).length) (ac zQ (ac zQ an)))))) ?_
   exact ⟨rfl,(sw [] [] [.s 0,.s 1,.s 2,.a 14 (.bool (decide (i_1<(-1:Int))||decide (i_1≥(lN (zH)))))] [] (ac (congrArg AV.bool (orf zQ rfl):(.bool (decide (i_1≥(lN (zH)))):AV)=.bool (decide (i_1<(-1:Int))||decide (i_1≥(lN (zH))))) an))⟩
 refine cd 14 (decide (i_1<(-1:Int))||decide (i_1≥(lN (zH)))) ?_ ?_
 ·intro g_2;replace h:=zV g_2 h
  refine sr [(0,{ id:=0,m:=1 })] [6,7] [0] 1 [.own 0 0,Ii 2] [Rb 9 1 []] zF an ?_
  refine wk [0] [] [.a 6 (.own 0 ((([]:List (List Int))).length)),.s 7] [.s 0] [(6,.own 0 ((([]:List (List Int))).length)),(7,Ii 2)] [(0,Rb 9 1 [])] (ac (congrArg (AV.own _) (by first | (simp;done) | (simp;omega)):(.own 0 0:AV)=.own 0 ((([]:List (List Int))).length)) an) ?_
  refine rt ?_
  cases h
  exact ⟨.inr rfl,Nat.le_of_ble_eq_true rfl,by kernel_rfl⟩
 intro g_2;replace h:=zW g_2 h
 refine sk ?_
 refine sr [(0,{ id:=0,m:=1 })] [0,1,2,8] [0] 1 [.sl false 1 (Ms zI),.sl false 2 (Mp zD zH),Ii i_1,.own 0 0] [Rb 9 1 []] zF an ?_
 refine sq ?_
 obtain ⟨o_1,h_2,h⟩:=bind_some h
 refine yV (mk [(8,.own 0 ((o_1).length))] [(0,Rb 9 1 (Ms o_1))] 1) ?_ ?_
 ·replace h:=h_2
  refine yN (id:=1) (by kernel_rfl) ?_
  refine wk [0] [] [.s 0,.s 1,.s 2,.s 8] [.s 0] [(0,.sl false 1 (Ms zI)),(1,.sl false 2 (Mp zD zH)),(2,Ii i_1),(8,.own 0 0)] [(0,Rb 9 1 [])] an ?_
  refine wH (fun n st=>∃ (i_2:Int),∃ (zL:List (List Int)),st=mk [(0,.sl false 1 (Ms zI)),(1,.sl false 2 (Mp zD zH)),(2,Ii i_2),(8,.own 0 ((zL).length))] [(0,Rb 9 1 (Ms zL))] 1∧kN F zI zH n i_2 zL=some o_1) F (by kernel_rfl) ⟨_,_,rfl,h⟩ ?_ ?_
  ·rintro _ ⟨_,_,_,h⟩;exact w5 (h:(none:Option (List (List Int)))=some o_1)
  rintro n_1 _ ⟨i_2,zL,rfl,h⟩
  replace h:vU F zI zH (kN F zI zH n_1) i_2 zL=some o_1:=h
  unfold vU at h
  refine sq ?_
  refine sr [] [0,1,2,8,24] [0] 1 [.sl false 1 (Ms zI),.sl false 2 (Mp zD zH),Ii i_2,.own 0 ((zL).length),.bool (i_2 != (-1:Int))] [Rb 9 1 (Ms zL)] zF an ?_
  refine cd 24 (i_2 != (-1:Int)) ?_ ?_
  rotate_left
  ·intro g_3;replace h:=zW g_3 h
   refine wS (id:=1) (by kernel_rfl) ?_
   cases h
   exact ⟨rfl,(sw [0] [] [.s 8] [.s 0] an)⟩
  intro g_3;replace h:=zV g_3 h
  refine sk ?_
  refine sq ?_
  refine yN (id:=2) (by kernel_rfl) ?_
  obtain ⟨x_1,h_3,h⟩:=bind_some h
  obtain ⟨x_2,h_4,h⟩:=bind_some h
  obtain ⟨_,h_5,h⟩:=bind_some h;replace h_5:=yU h_5
  refine rg [(4,{ av:=.agg [Ii x_1.c0,Ii x_1.c1] }),(7,{ av:=.str x_2 }),(9,{ id:=1 }),(10,{ id:=2,l:=(Ms (zL++([x_2]:List (List Int)))),n:=((zL++([x_2]:List (List Int)))).length })] [0,1,2,8] [2] 3 [.sl false 1 (Ms zI),.sl false 2 (Mp zD zH),Ii i_2,.own 2 (((zL++([x_2]:List (List Int)))).length)] [Rb 9 1 (Ms (zL++([x_2]:List (List Int))))] zF (ac (tJ h_3:jA (Mp zD zH) i_2=some (.agg [Ii x_1.c0,Ii x_1.c1])) (ac (by decide:(0:Int)≤(1:Int)) (ac (by decide:(1:Int)<((2:Nat):Int)) (ac (tJ h_4:jA (Ms zI) x_1.c1=some (.str x_2)) (ac (by first | (simp;done) | (simp;omega):(zL).length=((List.map AV.str zL)).length) (ac (by first | (simp;done) | (simp;omega):1=((List.map AV.str ([x_2]:List (List Int)))).length) (ac (zA2 _ _:(Ms (zL++([x_2]:List (List Int))))=(Ms zL)++(Ms ([x_2]:List (List Int)))) (ac (by simp:((zL++([x_2]:List (List Int)))).length=((List.map AV.str (zL++([x_2]:List (List Int))))).length) (ac (by first | (simp;done) | simpa using h_5:(((List.map AV.str zL):List AV).length+((List.map AV.str ([x_2]:List (List Int))):List AV).length) * 16≤140737488355328) an))))))))) ?_
  obtain ⟨x_3,h_6,h⟩:=bind_some h
  refine rg [(2,{ av:=.agg [Ii x_3.c0,Ii x_3.c1] })] [0,1,2,8] [2] 3 [.sl false 1 (Ms zI),.sl false 2 (Mp zD zH),Ii x_3.c0,.own 2 (((zL++([x_2]:List (List Int)))).length)] [Rb 9 1 (Ms (zL++([x_2]:List (List Int))))] zF (ac (tJ h_6:jA (Mp zD zH) i_2=some (.agg [Ii x_3.c0,Ii x_3.c1])) (ac (by decide:(0:Int)≤(0:Int)) (ac (by decide:(0:Int)<((2:Nat):Int)) an))) ?_
  exact ⟨_,(sw [2] [] [.s 0,.s 1,.s 2,.s 8] [.s 0] an),_,_,rfl,h⟩
 refine sq ?_
 obtain ⟨r_2,h_7,h⟩:=bind_some h
 obtain ⟨_,h_8,h⟩:=bind_some h;replace h_8:=yU h_8
 refine rg [(1,{ av:=.tuple [],ids:=[0],l:=[.own 0 ((o_1).length)],post:=[(.row 9 1 (Ms r_2))],pre:=[(.row 9 1 (Ms o_1))] })] [8] [0] 1 [.own 0 ((o_1).length)] [Rb 9 1 (Ms r_2)] zF (ar ([.own 0 ((o_1).length)]:List AV) (ac (rfl:([Rb 9 1 (Ms o_1)]:List zU)=[Rb 9 1 (Ms o_1)]) (ac (zAY F o_1 r_2 h_7:zS prog 102 [(.row 9 1 (Ms o_1))] [] [.own 0 ((o_1).length)] [(.row 9 1 (Ms r_2))] (.tuple [])) an))) ?_
 refine sr [] [6,7] [0] 1 [.own 0 ((o_1).length),Ii 0] [Rb 9 1 (Ms r_2)] zF an ?_
 refine wk [0] [] [.a 6 (.own 0 ((r_2).length)),.s 7] [.s 0] [(6,.own 0 ((r_2).length)),(7,Ii 0)] [(0,Rb 9 1 (Ms r_2))] (ac (congrArg (AV.own _) h_8.symm:(.own 0 ((o_1).length):AV)=.own 0 ((r_2).length)) an) ?_
 refine rt ?_
 cases h
 exact ⟨.inr rfl,Nat.le_of_ble_eq_true rfl,by kernel_rfl⟩
theorem zGZ (r:(List (zR))) (h:nM=some r):zS prog 86 [] [] [] [.row 94 9 (Mp xH r)] (.own 0 ((r).length)):=by
 refine yD (fn:=Go.Proofs.Try.f86) (code:=y5 Go.Proofs.Try.f86) (by kernel_rfl) (by kernel_rfl) (Nat.le_of_ble_eq_true (by kernel_rfl)) ?_
 unfold nM at h
 refine sr [(0,{ id:=0,m:=1 })] [] [] 1 [] [] zF an ?_
 refine sr [(13,{ id:=1 })] [0] [1] 2 [.own 1 13] [Rb 94 9 (Mp xH ([(⟨([]:List Int),false,false,false,false,(0:Int),(0:Int),(0:Int),(0:Int)⟩:zR),(⟨([98,101,103,105,110]:List Int),true,false,false,false,(0:Int),(0:Int),(0:Int),(0:Int)⟩:zR),(⟨([101,110,100]:List Int),false,false,false,false,(0:Int),(0:Int),(0:Int),(0:Int)⟩:zR),(⟨([109,97,114,107]:List Int),true,false,false,false,(0:Int),(0:Int),(0:Int),(0:Int)⟩:zR),(⟨([99,111,117,110,116]:List Int),true,true,false,false,(-1000000000000000:Int),(1000000000000000:Int),(0:Int),(0:Int)⟩:zR),(⟨([115,97,109,112,108,101]:List Int),false,true,false,true,(1:Int),(1000000000000:Int),(0:Int),(0:Int)⟩:zR),(⟨([115,101,110,100]:List Int),false,true,false,false,(0:Int),(1000000000000000:Int),(0:Int),(0:Int)⟩:zR),(⟨([114,101,99,118]:List Int),false,true,false,false,(0:Int),(1000000000000000:Int),(0:Int),(0:Int)⟩:zR),(⟨([114,117,110]:List Int),false,true,false,false,(0:Int),(63:Int),(0:Int),(0:Int)⟩:zR),(⟨([115,116,111,112]:List Int),false,true,true,false,(0:Int),(3:Int),(0:Int),(1000000000000000:Int)⟩:zR),(⟨([119,97,107,101]:List Int),false,true,false,false,(0:Int),(1000000000000000:Int),(0:Int),(0:Int)⟩:zR),(⟨([97,108,108,111,99]:List Int),false,true,true,true,(0:Int),(1000000000000000:Int),(1:Int),(1000000000000:Int)⟩:zR),(⟨([102,114,101,101]:List Int),false,true,false,false,(0:Int),(1000000000000000:Int),(0:Int),(0:Int)⟩:zR)]:List zR))] zF an ?_
 refine wk [1] [] [.a 0 (.own 0 ((([(⟨([]:List Int),false,false,false,false,(0:Int),(0:Int),(0:Int),(0:Int)⟩:zR),(⟨([98,101,103,105,110]:List Int),true,false,false,false,(0:Int),(0:Int),(0:Int),(0:Int)⟩:zR),(⟨([101,110,100]:List Int),false,false,false,false,(0:Int),(0:Int),(0:Int),(0:Int)⟩:zR),(⟨([109,97,114,107]:List Int),true,false,false,false,(0:Int),(0:Int),(0:Int),(0:Int)⟩:zR),(⟨([99,111,117,110,116]:List Int),true,true,false,false,(-1000000000000000:Int),(1000000000000000:Int),(0:Int),(0:Int)⟩:zR),(⟨([115,97,109,112,108,101]:List Int),false,true,false,true,(1:Int),(1000000000000:Int),(0:Int),(0:Int)⟩:zR),(⟨([115,101,110,100]:List Int),false,true,false,false,(0:Int),(1000000000000000:Int),(0:Int),(0:Int)⟩:zR),(⟨([114,101,99,118]:List Int),false,true,false,false,(0:Int),(1000000000000000:Int),(0:Int),(0:Int)⟩:zR),(⟨([114,117,110]:List Int),false,true,false,false,(0:Int),(63:Int),(0:Int),(0:Int)⟩:zR),(⟨([115,116,111,112]:List Int),false,true,true,false,(0:Int),(3:Int),(0:Int),(1000000000000000:Int)⟩:zR),(⟨([119,97,107,101]:List Int),false,true,false,false,(0:Int),(1000000000000000:Int),(0:Int),(0:Int)⟩:zR),(⟨([97,108,108,111,99]:List Int),false,true,true,true,(0:Int),(1000000000000000:Int),(1:Int),(1000000000000:Int)⟩:zR),(⟨([102,114,101,101]:List Int),false,true,false,false,(0:Int),(1000000000000000:Int),(0:Int),(0:Int)⟩:zR)]:List zR)).length))] [.s 0] [(0,.own 0 ((([(⟨([]:List Int),false,false,false,false,(0:Int),(0:Int),(0:Int),(0:Int)⟩:zR),(⟨([98,101,103,105,110]:List Int),true,false,false,false,(0:Int),(0:Int),(0:Int),(0:Int)⟩:zR),(⟨([101,110,100]:List Int),false,false,false,false,(0:Int),(0:Int),(0:Int),(0:Int)⟩:zR),(⟨([109,97,114,107]:List Int),true,false,false,false,(0:Int),(0:Int),(0:Int),(0:Int)⟩:zR),(⟨([99,111,117,110,116]:List Int),true,true,false,false,(-1000000000000000:Int),(1000000000000000:Int),(0:Int),(0:Int)⟩:zR),(⟨([115,97,109,112,108,101]:List Int),false,true,false,true,(1:Int),(1000000000000:Int),(0:Int),(0:Int)⟩:zR),(⟨([115,101,110,100]:List Int),false,true,false,false,(0:Int),(1000000000000000:Int),(0:Int),(0:Int)⟩:zR),(⟨([114,101,99,118]:List Int),false,true,false,false,(0:Int),(1000000000000000:Int),(0:Int),(0:Int)⟩:zR),(⟨([114,117,110]:List Int),false,true,false,false,(0:Int),(63:Int),(0:Int),(0:Int)⟩:zR),(⟨([115,116,111,112]:List Int),false,true,true,false,(0:Int),(3:Int),(0:Int),(1000000000000000:Int)⟩:zR),(⟨([119,97,107,101]:List Int),false,true,false,false,(0:Int),(1000000000000000:Int),(0:Int),(0:Int)⟩:zR),(⟨([97,108,108,111,99]:List Int),false,true,true,true,(0:Int),(1000000000000000:Int),(1:Int),(1000000000000:Int)⟩:zR),(⟨([102,114,101,101]:List Int),false,true,false,false,(0:Int),(1000000000000000:Int),(0:Int),(0:Int)⟩:zR)]:List zR)).length))] [(0,Rb 94 9 (Mp xH ([(⟨([]:List Int),false,false,false,false,(0:Int),(0:Int),(0:Int),(0:Int)⟩:zR),(⟨([98,101,103,105,110]:List Int),true,false,false,false,(0:Int),(0:Int),(0:Int),(0:Int)⟩:zR),(⟨([101,110,100]:List Int),false,false,false,false,(0:Int),(0:Int),(0:Int),(0:Int)⟩:zR),(⟨([109,97,114,107]:List Int),true,false,false,false,(0:Int),(0:Int),(0:Int),(0:Int)⟩:zR),(⟨([99,111,117,110,116]:List Int),true,true,false,false,(-1000000000000000:Int),(1000000000000000:Int),(0:Int),(0:Int)⟩:zR),(⟨([115,97,109,112,108,101]:List Int),false,true,false,true,(1:Int),(1000000000000:Int),(0:Int),(0:Int)⟩:zR),(⟨([115,101,110,100]:List Int),false,true,false,false,(0:Int),(1000000000000000:Int),(0:Int),(0:Int)⟩:zR),(⟨([114,101,99,118]:List Int),false,true,false,false,(0:Int),(1000000000000000:Int),(0:Int),(0:Int)⟩:zR),(⟨([114,117,110]:List Int),false,true,false,false,(0:Int),(63:Int),(0:Int),(0:Int)⟩:zR),(⟨([115,116,111,112]:List Int),false,true,true,false,(0:Int),(3:Int),(0:Int),(1000000000000000:Int)⟩:zR),(⟨([119,97,107,101]:List Int),false,true,false,false,(0:Int),(1000000000000000:Int),(0:Int),(0:Int)⟩:zR),(⟨([97,108,108,111,99]:List Int),false,true,true,true,(0:Int),(1000000000000000:Int),(1:Int),(1000000000000:Int)⟩:zR),(⟨([102,114,101,101]:List Int),false,true,false,false,(0:Int),(1000000000000000:Int),(0:Int),(0:Int)⟩:zR)]:List zR)))] (ac (congrArg (AV.own _) (by first | (simp;done) | (simp;omega)):(.own 1 13:AV)=.own 1 ((([(⟨([]:List Int),false,false,false,false,(0:Int),(0:Int),(0:Int),(0:Int)⟩:zR),(⟨([98,101,103,105,110]:List Int),true,false,false,false,(0:Int),(0:Int),(0:Int),(0:Int)⟩:zR),(⟨([101,110,100]:List Int),false,false,false,false,(0:Int),(0:Int),(0:Int),(0:Int)⟩:zR),(⟨([109,97,114,107]:List Int),true,false,false,false,(0:Int),(0:Int),(0:Int),(0:Int)⟩:zR),(⟨([99,111,117,110,116]:List Int),true,true,false,false,(-1000000000000000:Int),(1000000000000000:Int),(0:Int),(0:Int)⟩:zR),(⟨([115,97,109,112,108,101]:List Int),false,true,false,true,(1:Int),(1000000000000:Int),(0:Int),(0:Int)⟩:zR),(⟨([115,101,110,100]:List Int),false,true,false,false,(0:Int),(1000000000000000:Int),(0:Int),(0:Int)⟩:zR),(⟨([114,101,99,118]:List Int),false,true,false,false,(0:Int),(1000000000000000:Int),(0:Int),(0:Int)⟩:zR),(⟨([114,117,110]:List Int),false,true,false,false,(0:Int),(63:Int),(0:Int),(0:Int)⟩:zR),(⟨([115,116,111,112]:List Int),false,true,true,false,(0:Int),(3:Int),(0:Int),(1000000000000000:Int)⟩:zR),(⟨([119,97,107,101]:List Int),false,true,false,false,(0:Int),(1000000000000000:Int),(0:Int),(0:Int)⟩:zR),(⟨([97,108,108,111,99]:List Int),false,true,true,true,(0:Int),(1000000000000000:Int),(1:Int),(1000000000000:Int)⟩:zR),(⟨([102,114,101,101]:List Int),false,true,false,false,(0:Int),(1000000000000000:Int),(0:Int),(0:Int)⟩:zR)]:List zR)).length)) an) ?_
 refine rt ?_
 cases h
 exact ⟨.inr rfl,Nat.le_of_ble_eq_true rfl,by kernel_rfl⟩
theorem zF5 (k_1:Int) (r:zR×Bool) (h:nY k_1=some r):zS prog 56 [] [] [Ii k_1] [] (.tuple [xH r.1,.bool r.2]):=by
 refine yD (fn:=Go.Proofs.Try.f56) (code:=y5 Go.Proofs.Try.f56) (by kernel_rfl) (by kernel_rfl) (Nat.le_of_ble_eq_true (by kernel_rfl)) ?_
 unfold nY at h
 refine sr [(0,{ id:=0 })] [0,2] [0] 1 [Ii k_1,Pp 0] [Vb 94 [.str ([]:List Int),.bool false,.bool false,.bool false,.bool false,Ii 0,Ii 0,Ii 0,Ii 0]] zF an ?_
 refine sq ?_
 obtain ⟨r_1,h_1,h⟩:=bind_some h
 refine rg [(0,{ av:=.own 0 ((r_1).length),ids:=[1],l:=[],post:=[(.row 94 9 (Mp xH r_1))] })] [0,2,4] [0,1] 2 [Ii k_1,Pp 0,.own 1 ((r_1).length)] [Vb 94 [.str ([]:List Int),.bool false,.bool false,.bool false,.bool false,Ii 0,Ii 0,Ii 0,Ii 0],Rb 94 9 (Mp xH r_1)] zF (ar ([]:List AV) (ac (rfl:([]:List zU)=[]) (ac (zGZ r_1 h_1:zS prog 86 [] [] [] [(.row 94 9 (Mp xH r_1))] (.own 0 ((r_1).length))) an))) ?_
 refine sq ?_
 refine sq ?_
 refine yV (mk [(0,Ii k_1),(2,Pp 0),(4,.own 1 ((r_1).length)),(13,.bool (decide (k_1<(1:Int))||decide (k_1≥(lN (r_1)))))] [(0,Vb 94 [.str ([]:List Int),.bool false,.bool false,.bool false,.bool false,Ii 0,Ii 0,Ii 0,Ii 0]),(1,Rb 94 9 (Mp xH r_1))] 2) ?_ ?_
 ·rcases bft (decide (k_1<(1:Int))) with zX | zX
  ·refine rg [(3,Hg),(4,Hg),(5,Hg),(6,Hg),(7,Ht)] [0,2,4,13] [0,1] 2 [Ii k_1,Pp 0,.own 1 ((r_1).length),.bool true] [Vb 94 [.str ([]:List Int),.bool false,.bool false,.bool false,.bool false,Ii 0,Ii 0,Ii 0,Ii 0],Rb 94 9 (Mp xH r_1)] zF (ac zX (ac zX (ac zX (ac zX (ac zX an))))) ?_
   exact ⟨rfl,(sw [0,1] [] [.s 0,.s 2,.s 4,.a 13 (.bool (decide (k_1<(1:Int))||decide (k_1≥(lN (r_1)))))] [.s 0,.s 1] (ac (congrArg AV.bool (ort zX):(.bool true:AV)=.bool (decide (k_1<(1:Int))||decide (k_1≥(lN (r_1))))) an))⟩
  ·refine rg [(7,Hf)] [0,2,4,13] [0,1] 2 [Ii k_1,Pp 0,.own 1 ((r_1).length),.bool (decide (k_1≥(lN (r_1))))] [Vb 94 [.str ([]:List Int),.bool false,.bool false,.bool false,.bool false,Ii 0,Ii 0,Ii 0,Ii 0],Rb 94 9 (Mp xH r_1)] zF (ac zX (ac zX (ac zX (ac zX (ac zX an))))) ?_
   exact ⟨rfl,(sw [0,1] [] [.s 0,.s 2,.s 4,.a 13 (.bool (decide (k_1<(1:Int))||decide (k_1≥(lN (r_1)))))] [.s 0,.s 1] (ac (congrArg AV.bool (orf zX rfl):(.bool (decide (k_1≥(lN (r_1)))):AV)=.bool (decide (k_1<(1:Int))||decide (k_1≥(lN (r_1))))) an))⟩
 refine cd 13 (decide (k_1<(1:Int))||decide (k_1≥(lN (r_1)))) ?_ ?_
 ·intro g_1;replace h:=zV g_1 h
  refine sr [] [2,3] [0] 2 [Pp 0,.bool false] [Vb 94 [.str ([]:List Int),.bool false,.bool false,.bool false,.bool false,Ii 0,Ii 0,Ii 0,Ii 0]] zF an ?_
  refine wk [0] [] [.s 2,.s 3] [.a 0 (Vb 94 (yI (⟨([]:List Int),false,false,false,false,(0:Int),(0:Int),(0:Int),(0:Int)⟩:zR)))] [(2,Pp 0),(3,.bool false)] [(0,Vb 94 (yI (⟨([]:List Int),false,false,false,false,(0:Int),(0:Int),(0:Int),(0:Int)⟩:zR)))] (ar 94 (ac (rfl:vI [.str ((⟨([]:List Int),false,false,false,false,(0:Int),(0:Int),(0:Int),(0:Int)⟩:zR).word),.bool ((⟨([]:List Int),false,false,false,false,(0:Int),(0:Int),(0:Int),(0:Int)⟩:zR).name),.bool ((⟨([]:List Int),false,false,false,false,(0:Int),(0:Int),(0:Int),(0:Int)⟩:zR).n),.bool ((⟨([]:List Int),false,false,false,false,(0:Int),(0:Int),(0:Int),(0:Int)⟩:zR).m),.bool ((⟨([]:List Int),false,false,false,false,(0:Int),(0:Int),(0:Int),(0:Int)⟩:zR).stack),Ii ((⟨([]:List Int),false,false,false,false,(0:Int),(0:Int),(0:Int),(0:Int)⟩:zR).least),Ii ((⟨([]:List Int),false,false,false,false,(0:Int),(0:Int),(0:Int),(0:Int)⟩:zR).most),Ii ((⟨([]:List Int),false,false,false,false,(0:Int),(0:Int),(0:Int),(0:Int)⟩:zR).mLeast),Ii ((⟨([]:List Int),false,false,false,false,(0:Int),(0:Int),(0:Int),(0:Int)⟩:zR).mMost)]=true) (ac (rfl:(.str ([]:List Int):AV)=.str ((⟨([]:List Int),false,false,false,false,(0:Int),(0:Int),(0:Int),(0:Int)⟩:zR).word)) (ac (rfl:(.bool false:AV)=.bool ((⟨([]:List Int),false,false,false,false,(0:Int),(0:Int),(0:Int),(0:Int)⟩:zR).name)) (ac (rfl:(.bool false:AV)=.bool ((⟨([]:List Int),false,false,false,false,(0:Int),(0:Int),(0:Int),(0:Int)⟩:zR).n)) (ac (rfl:(.bool false:AV)=.bool ((⟨([]:List Int),false,false,false,false,(0:Int),(0:Int),(0:Int),(0:Int)⟩:zR).m)) (ac (rfl:(.bool false:AV)=.bool ((⟨([]:List Int),false,false,false,false,(0:Int),(0:Int),(0:Int),(0:Int)⟩:zR).stack)) (ac (rfl:(Ii 0:AV)=Ii ((⟨([]:List Int),false,false,false,false,(0:Int),(0:Int),(0:Int),(0:Int)⟩:zR).least)) (ac (rfl:(Ii 0:AV)=Ii ((⟨([]:List Int),false,false,false,false,(0:Int),(0:Int),(0:Int),(0:Int)⟩:zR).most)) (ac (rfl:(Ii 0:AV)=Ii ((⟨([]:List Int),false,false,false,false,(0:Int),(0:Int),(0:Int),(0:Int)⟩:zR).mLeast)) (ac (rfl:(Ii 0:AV)=Ii ((⟨([]:List Int),false,false,false,false,(0:Int),(0:Int),(0:Int),(0:Int)⟩:zR).mMost)) an))))))))))) ?_
  refine rt ?_
  cases h
  exact ⟨.inr rfl,Nat.le_of_ble_eq_true rfl,by kernel_rfl⟩
 intro g_1;replace h:=zW g_1 h
 refine sk ?_
 refine sq ?_
 obtain ⟨x_1,h_2,h⟩:=bind_some h
 refine rg [(3,{ av:=xH x_1 })] [2,3] [0] 2 [Pp 0,.bool true] [Vb 94 (yI x_1)] zF (ac (y6 h_2:(0:Int)≤k_1) (ac (by first | (simp;done) | simpa using y7 h_2:k_1<(((r_1).length:Nat):Int)) (ac (xD h_2:(Mp xH r_1)[(k_1).toNat]?=some (xH x_1)) an))) ?_
 refine wk [0] [] [.s 2,.s 3] [.s 0] [(2,Pp 0),(3,.bool true)] [(0,Vb 94 (yI x_1))] an ?_
 refine rt ?_
 cases h
 exact ⟨.inr rfl,Nat.le_of_ble_eq_true rfl,by kernel_rfl⟩
theorem zCA (F:Nat) (l_1:List (List Int)) (r:Int) (h:kG F l_1=some r):zS prog 87 [] [] [.sl false 1 (Ms l_1)] [] (Ii r):=by
 refine yD (fn:=Go.Proofs.Try.f87) (code:=y5 Go.Proofs.Try.f87) (by kernel_rfl) (by kernel_rfl) (Nat.le_of_ble_eq_true (by kernel_rfl)) ?_
 unfold kG at h
 refine sr [] [0] [] 0 [.sl false 1 (Ms l_1)] [] zF an ?_
 refine sq ?_
 refine sr [(1,{ n:=(l_1).length })] [0,8] [] 0 [.sl false 1 (Ms l_1),.bool (decide ((lN (l_1))>(32:Int)))] [] zF (ac (yO _:((Ms l_1)).length=(l_1).length) an) ?_
 refine cd 8 (decide ((lN (l_1))>(32:Int))) ?_ ?_
 ·intro g_1;replace h:=zV g_1 h
  refine sr [] [2] [] 0 [Ii 7] [] zF an ?_
  refine rt ?_
  cases h
  exact ⟨.inr rfl,Nat.le_of_ble_eq_true rfl,by kernel_rfl⟩
 intro g_1;replace h:=zW g_1 h
 refine sk ?_
 refine sq ?_
 refine sr [(1,{ n:=(l_1).length })] [9,10,11] [] 0 [.sl false 1 (Ms l_1),Ii (lN (l_1)),Ii 0] [] zF (ac (yO _:((Ms l_1)).length=(l_1).length) an) ?_
 obtain ⟨o_1,h_1,h⟩:=bind_some h
 refine vL (K1:=(fun e st'=>match o_1 with | (.inl q0)=>e=.normal∧Sub 0 st' (mk [] [] 0) | (.inr q1)=>e=.ret∧kB prog Go.Proofs.Try.f87 0 [] (Ii q1) st')) ?_ ?_
 ·replace h:=h_1
  refine yN (id:=0) (by kernel_rfl) ?_
  refine wk [] [] [.s 9,.s 10,.s 11] [] [(9,.sl false 1 (Ms l_1)),(10,Ii (lN (l_1))),(11,Ii 0)] [] an ?_
  refine wH (fun n st=>∃ (v_1:Int),st=mk [(9,.sl false 1 (Ms l_1)),(10,Ii (lN (l_1))),(11,Ii v_1)] [] 0∧j4 F l_1 n v_1=some o_1) F (by kernel_rfl) ⟨_,rfl,h⟩ ?_ ?_
  ·rintro _ ⟨_,_,h⟩;exact w5 (h:(none:Option (Unit⊕Int))=some o_1)
  rintro n_1 _ ⟨v_1,rfl,h⟩
  replace h:tI F l_1 (j4 F l_1 n_1) v_1=some o_1:=h
  unfold tI at h
  refine sr [] [9,10,11,12] [] 0 [.sl false 1 (Ms l_1),Ii (lN (l_1)),Ii v_1,.bool (decide (v_1<(lN (l_1))))] [] zF an ?_
  refine sq ?_
  refine cd 12 (decide (v_1<(lN (l_1)))) ?_ ?_
  rotate_left
  ·intro g_2;replace h:=zW g_2 h
   refine wS (id:=0) (by kernel_rfl) ?_
   cases h
   exact ⟨rfl,(sw [] [] [] [] an)⟩
  intro g_2;replace h:=zV g_2 h
  refine sk ?_
  refine sq ?_
  refine yN (id:=1) (by kernel_rfl) ?_
  refine sq ?_
  obtain ⟨x_1,h_2,h⟩:=bind_some h
  refine rg [(0,{ av:=.str x_1 })] [4,9,10,11] [] 0 [.str x_1,.sl false 1 (Ms l_1),Ii (lN (l_1)),Ii v_1] [] zF (ac (tJ h_2:jA (Ms l_1) v_1=some (.str x_1)) an) ?_
  refine sq ?_
  obtain ⟨r_1,h_3,h⟩:=bind_some h
  refine rg [(1,{ av:=Ii r_1,l:=[.str x_1] })] [5,9,10,11] [] 0 [Ii r_1,.sl false 1 (Ms l_1),Ii (lN (l_1)),Ii v_1] [] zF (ar ([.str x_1]:List AV) (ac (rfl:([]:List zU)=[]) (ac (pL F x_1 r_1 h_3:zS prog 29 [] [] [.str x_1] [] (Ii r_1)) an))) ?_
  refine sr [] [5,9,10,11,18] [] 0 [Ii r_1,.sl false 1 (Ms l_1),Ii (lN (l_1)),Ii v_1,.bool (r_1 != (0:Int))] [] zF an ?_
  refine cd 18 (r_1 != (0:Int)) ?_ ?_
  rotate_left
  ·intro g_3;replace h:=zW g_3 h
   refine sk ?_
   refine rg [] [9,10,11] [] 0 [.sl false 1 (Ms l_1),Ii (lN (l_1)),Ii (zG (v_1+(1:Int)))] [] zF an ?_
   exact ⟨_,(sw [] [] [.s 9,.s 10,.s 11] [] an),_,rfl,h⟩
  intro g_3;replace h:=zV g_3 h
  refine sr [] [2] [] 0 [Ii r_1] [] zF an ?_
  refine rt ?_
  cases h
  exact ⟨rfl,Nat.le_of_ble_eq_true rfl,by kernel_rfl⟩
 intro e st1 hk
 rcases o_1 with q_1 | q_2
 rotate_left
 ·obtain ⟨rfl,hf⟩:=hk
  cases h
  exact ⟨st1,Sub.refl _ _,.inr rfl,hf⟩
 obtain ⟨rfl,hs⟩:=hk
 refine ⟨_,hs,?_⟩
 refine sr [] [2] [] 0 [Ii 0] [] zF an ?_
 refine rt ?_
 cases h
 exact ⟨.inr rfl,Nat.le_of_ble_eq_true rfl,by kernel_rfl⟩
theorem zGI (F:Nat) (f_1:zR) (e_1:zE) (r:Int) (h:zAD F f_1 e_1=some r):zS prog 57 [] [] [xH f_1,zN e_1] [] (Ii r):=by
 refine yD (fn:=Go.Proofs.Try.f57) (code:=y5 Go.Proofs.Try.f57) (by kernel_rfl) (by kernel_rfl) (Nat.le_of_ble_eq_true (by kernel_rfl)) ?_
 unfold zAD at h
 refine sr [(0,{ id:=0 }),(1,{ id:=1 })] [2,3] [0,1] 2 [Pp 0,Pp 1] [Vb 94 (yI f_1),Vb 45 (zT e_1)] zF an ?_
 refine sq ?_
 refine sr [] [3,6] [1] 2 [Pp 1,.bool f_1.name] [Vb 45 (zT e_1)] zF an ?_
 refine cd 6 f_1.name ?_ ?_
 ·intro g_1;replace h:=zV g_1 h
  refine sq ?_
  obtain ⟨r_1,h_1,h⟩:=bind_some h
  refine rg [(2,{ av:=Ii r_1,l:=[.str e_1.Name] })] [4] [] 2 [Ii r_1] [] zF (ar ([.str e_1.Name]:List AV) (ac (rfl:([]:List zU)=[]) (ac (pL F e_1.Name r_1 h_1:zS prog 29 [] [] [.str e_1.Name] [] (Ii r_1)) an))) ?_
  refine rt ?_
  cases h
  exact ⟨.inr rfl,Nat.le_of_ble_eq_true rfl,by kernel_rfl⟩
 intro g_1;replace h:=zW g_1 h
 refine sk ?_
 refine sq ?_
 obtain ⟨r_2,h_2,h⟩:=bind_some h
 refine rg [(2,{ av:=Ii r_2,l:=[.sl false 1 (Ms e_1.Stack)] })] [4] [] 2 [Ii r_2] [] zF (ar ([.sl false 1 (Ms e_1.Stack)]:List AV) (ac (rfl:([]:List zU)=[]) (ac (zCA F e_1.Stack r_2 h_2:zS prog 87 [] [] [.sl false 1 (Ms e_1.Stack)] [] (Ii r_2)) an))) ?_
 refine rt ?_
 cases h
 exact ⟨.inr rfl,Nat.le_of_ble_eq_true rfl,by kernel_rfl⟩
theorem zBo (F:Nat) (e_1:zE) (r:Int) (h:jU F e_1=some r):zS prog 38 [] [] [zN e_1] [] (Ii r):=by
 refine yD (fn:=Go.Proofs.Try.f38) (code:=y5 Go.Proofs.Try.f38) (by kernel_rfl) (by kernel_rfl) (Nat.le_of_ble_eq_true (by kernel_rfl)) ?_
 unfold jU at h
 refine sr [(0,{ id:=0 })] [1] [0] 1 [Pp 0] [Vb 45 (zT e_1)] zF an ?_
 refine sq ?_
 refine sq ?_
 refine yV (mk [(1,Pp 0),(13,.bool (decide (e_1.At<(0:Int))||decide (e_1.At>(1000000000000:Int))))] [(0,Vb 45 (zT e_1))] 1) ?_ ?_
 ·rcases bft (decide (e_1.At<(0:Int))) with zX | zX
  ·refine rg [(4,Hg),(5,Hg),(6,Hg),(7,Ht)] [1,13] [0] 1 [Pp 0,.bool true] [Vb 45 (zT e_1)] zF (ac zX (ac zX (ac zX (ac zX an)))) ?_
   exact ⟨rfl,(sw [0] [] [.s 1,.a 13 (.bool (decide (e_1.At<(0:Int))||decide (e_1.At>(1000000000000:Int))))] [.s 0] (ac (congrArg AV.bool (ort zX):(.bool true:AV)=.bool (decide (e_1.At<(0:Int))||decide (e_1.At>(1000000000000:Int)))) an))⟩
  ·refine rg [(7,Hf)] [1,13] [0] 1 [Pp 0,.bool (decide (e_1.At>(1000000000000:Int)))] [Vb 45 (zT e_1)] zF (ac zX (ac zX (ac zX (ac zX an)))) ?_
   exact ⟨rfl,(sw [0] [] [.s 1,.a 13 (.bool (decide (e_1.At<(0:Int))||decide (e_1.At>(1000000000000:Int))))] [.s 0] (ac (congrArg AV.bool (orf zX rfl):(.bool (decide (e_1.At>(1000000000000:Int))):AV)=.bool (decide (e_1.At<(0:Int))||decide (e_1.At>(1000000000000:Int)))) an))⟩
 refine cd 13 (decide (e_1.At<(0:Int))||decide (e_1.At>(1000000000000:Int))) ?_ ?_
 ·intro g_1;replace h:=zV g_1 h
  refine sr [] [2] [] 1 [Ii 2] [] zF an ?_
  refine rt ?_
  cases h
  exact ⟨.inr rfl,Nat.le_of_ble_eq_true rfl,by kernel_rfl⟩
 intro g_1;replace h:=zW g_1 h
 refine sk ?_
 refine sq ?_
 obtain ⟨r_1,h_1,h⟩:=bind_some h
 refine rg [(2,{ av:=.tuple [xH r_1.1,.bool r_1.2],l:=[Ii e_1.Kind] }),(6,{ id:=1 })] [1,3,4] [0,1] 2 [Pp 0,Pp 1,.bool r_1.2] [Vb 45 (zT e_1),Vb 94 (yI r_1.1)] zF (ar ([Ii e_1.Kind]:List AV) (ac (rfl:([]:List zU)=[]) (ac (zF5 e_1.Kind r_1 h_1:zS prog 56 [] [] [Ii e_1.Kind] [] (.tuple [xH r_1.1,.bool r_1.2])) an))) ?_
 refine sq ?_
 refine sq ?_
 obtain ⟨p_1,h_2,h⟩:=bind_some h
 refine yV (mk [(1,Pp 0),(3,Pp 1),(62,.bool p_1)] [(0,Vb 45 (zT e_1)),(1,Vb 94 (yI r_1.1))] 2) ?_ ?_
 ·replace h:=h_2
  rcases bft (!r_1.2) with zQ | zQ
  ·replace h:=zV zQ h
   refine rg [(3,Hg),(4,Hg),(5,Hg),(6,Hg),(10,Hg),(11,Ht),(13,Hg),(14,Hg),(15,Hg),(16,Hg),(20,Hg),(21,Ht),(23,Hg),(24,Hg),(25,Hg),(26,Hg),(30,Hg),(31,Ht),(33,Hg),(34,Hg),(35,Hg),(36,Hg),(41,Hg),(42,Ht)] [1,3,62] [0,1] 2 [Pp 0,Pp 1,.bool true] [Vb 45 (zT e_1),Vb 94 (yI r_1.1)] zF (ac zQ (ac zQ (ac zQ (ac zQ (ac zQ (ac zQ (ax (ax (ax (ax (ax (ar true (ax (ax (ax (ax (ax (ar true (ax (ax (ax (ax (ax (ar true an)))))))))))))))))))))))) ?_
   cases h
   exact ⟨rfl,(sw [0,1] [] [.s 1,.s 3,.s 62] [.s 0,.s 1] an)⟩
  ·replace h:=zW zQ h
   rcases bft (!r_1.1.name) with zY | zY
   ·replace h:=zV zY h
    rcases bft (!(e_1.Name==([]:List Int))) with z8 | z8
    ·replace h:=zV z8 h
     refine rg [(10,Ht),(11,Hf),(13,Hg),(14,Hg),(15,Hg),(16,Hg),(20,Hg),(21,Ht),(23,Hg),(24,Hg),(25,Hg),(26,Hg),(30,Hg),(31,Ht),(33,Hg),(34,Hg),(35,Hg),(36,Hg),(41,Hg),(42,Ht)] [1,3,62] [0,1] 2 [Pp 0,Pp 1,.bool true] [Vb 45 (zT e_1),Vb 94 (yI r_1.1)] zF (ac zQ (ac zQ (ac zQ (ac zQ (ac zY (ac zY (ac zY (ac zQ (ac zY (ac zQ (ac z8 (ac z8 (ac z8 (ac z8 (ac z8 (ac z8 (ax (ax (ax (ax (ax (ar true (ax (ax (ax (ax (ax (ar true an)))))))))))))))))))))))))))) ?_
     cases h
     exact ⟨rfl,(sw [0,1] [] [.s 1,.s 3,.s 62] [.s 0,.s 1] an)⟩
    ·replace h:=zW z8 h
     rcases bft (!r_1.1.n) with yB | yB
     ·replace h:=zV yB h
      rcases bft (e_1.N != (0:Int)) with zZ | zZ
      ·replace h:=zV zZ h
       refine rg [(10,Ht),(11,Hf),(20,Ht),(21,Hf),(23,Hg),(24,Hg),(25,Hg),(26,Hg),(30,Hg),(31,Ht),(33,Hg),(34,Hg),(35,Hg),(36,Hg),(41,Hg),(42,Ht)] [1,3,62] [0,1] 2 [Pp 0,Pp 1,.bool true] [Vb 45 (zT e_1),Vb 94 (yI r_1.1)] zF (ac zQ (ac zQ (ac zQ (ac zQ (ac zY (ac zY (ac zY (ac zQ (ac zY (ac zQ (ac z8 (ac z8 (ac z8 (ac z8 (ac yB (ac yB (ac yB (ac z8 (ac yB (ac z8 (ac zZ (ac zZ (ac zZ (ac zZ (ac zZ (ac zZ (ax (ax (ax (ax (ax (ar true an)))))))))))))))))))))))))))))))) ?_
       cases h
       exact ⟨rfl,(sw [0,1] [] [.s 1,.s 3,.s 62] [.s 0,.s 1] an)⟩
      ·replace h:=zW zZ h
       rcases bft (!r_1.1.m) with yC | yC
       ·replace h:=zV yC h
        rcases bft (e_1.M != (0:Int)) with z9 | z9
        ·replace h:=zV z9 h
         refine rg [(10,Ht),(11,Hf),(20,Ht),(21,Hf),(30,Ht),(31,Hf),(33,Hg),(34,Hg),(35,Hg),(36,Hg),(41,Hg),(42,Ht)] [1,3,62] [0,1] 2 [Pp 0,Pp 1,.bool true] [Vb 45 (zT e_1),Vb 94 (yI r_1.1)] zF (ac zQ (ac zQ (ac zQ (ac zQ (ac zY (ac zY (ac zY (ac zQ (ac zY (ac zQ (ac z8 (ac z8 (ac z8 (ac z8 (ac yB (ac yB (ac yB (ac z8 (ac yB (ac z8 (ac zZ (ac zZ (ac zZ (ac zZ (ac yC (ac yC (ac yC (ac zZ (ac yC (ac zZ (ac z9 (ac z9 (ac z9 (ac z9 (ac z9 (ac z9 an)))))))))))))))))))))))))))))))))))) ?_
         cases h
         exact ⟨rfl,(sw [0,1] [] [.s 1,.s 3,.s 62] [.s 0,.s 1] an)⟩
        ·replace h:=zW z9 h
         rcases bft (!r_1.1.stack) with yE | yE
         ·replace h:=zV yE h
          refine rg [(10,Ht),(11,Hf),(20,Ht),(21,Hf),(30,Ht),(31,Hf),(39,{ n:=(e_1.Stack).length }),(41,Ht),(42,Hf)] [1,3,62] [0,1] 2 [Pp 0,Pp 1,.bool (decide ((lN (e_1.Stack))>(0:Int)))] [Vb 45 (zT e_1),Vb 94 (yI r_1.1)] zF (ac zQ (ac zQ (ac zQ (ac zQ (ac zY (ac zY (ac zY (ac zQ (ac zY (ac zQ (ac z8 (ac z8 (ac z8 (ac z8 (ac yB (ac yB (ac yB (ac z8 (ac yB (ac z8 (ac zZ (ac zZ (ac zZ (ac zZ (ac yC (ac yC (ac yC (ac zZ (ac yC (ac zZ (ac z9 (ac z9 (ac z9 (ac z9 (ac yE (ac yE (ac yE (ac (yO _:((Ms e_1.Stack)).length=(e_1.Stack).length) (ac yE (ac z9 (ac yE (ac z9 an)))))))))))))))))))))))))))))))))))))))))) ?_
          cases h
          exact ⟨rfl,(sw [0,1] [] [.s 1,.s 3,.s 62] [.s 0,.s 1] an)⟩
         ·replace h:=zW yE h
          refine rg [(10,Ht),(11,Hf),(20,Ht),(21,Hf),(30,Ht),(31,Hf),(37,Hg),(38,Hg),(39,Hg),(40,Hg),(41,Hf),(42,Hf)] [1,3,62] [0,1] 2 [Pp 0,Pp 1,.bool false] [Vb 45 (zT e_1),Vb 94 (yI r_1.1)] zF (ac zQ (ac zQ (ac zQ (ac zQ (ac zY (ac zY (ac zY (ac zQ (ac zY (ac zQ (ac z8 (ac z8 (ac z8 (ac z8 (ac yB (ac yB (ac yB (ac z8 (ac yB (ac z8 (ac zZ (ac zZ (ac zZ (ac zZ (ac yC (ac yC (ac yC (ac zZ (ac yC (ac zZ (ac z9 (ac z9 (ac z9 (ac z9 (ac yE (ac yE (ac yE (ac yE (ac z9 (ac yE (ac z9 an))))))))))))))))))))))))))))))))))))))))) ?_
          cases h
          exact ⟨rfl,(sw [0,1] [] [.s 1,.s 3,.s 62] [.s 0,.s 1] an)⟩
       ·replace h:=zW yC h
        rcases bft (!r_1.1.stack) with z5 | z5
        ·replace h:=zV z5 h
         refine rg [(10,Ht),(11,Hf),(20,Ht),(21,Hf),(27,Hg),(28,Hg),(29,Hg),(30,Hf),(31,Hf),(39,{ n:=(e_1.Stack).length }),(41,Ht),(42,Hf)] [1,3,62] [0,1] 2 [Pp 0,Pp 1,.bool (decide ((lN (e_1.Stack))>(0:Int)))] [Vb 45 (zT e_1),Vb 94 (yI r_1.1)] zF (ac zQ (ac zQ (ac zQ (ac zQ (ac zY (ac zY (ac zY (ac zQ (ac zY (ac zQ (ac z8 (ac z8 (ac z8 (ac z8 (ac yB (ac yB (ac yB (ac z8 (ac yB (ac z8 (ac zZ (ac zZ (ac zZ (ac zZ (ac yC (ac yC (ac yC (ac zZ (ac yC (ac zZ (ar false (ar false (ar false (ar false (ac z5 (ac z5 (ac z5 (ac (yO _:((Ms e_1.Stack)).length=(e_1.Stack).length) (ac z5 (ar false (ac z5 (ar false an)))))))))))))))))))))))))))))))))))))))))) ?_
         cases h
         exact ⟨rfl,(sw [0,1] [] [.s 1,.s 3,.s 62] [.s 0,.s 1] an)⟩
        ·replace h:=zW z5 h
         refine rg [(10,Ht),(11,Hf),(20,Ht),(21,Hf),(27,Hg),(28,Hg),(29,Hg),(30,Hf),(31,Hf),(37,Hg),(38,Hg),(39,Hg),(40,Hg),(41,Hf),(42,Hf)] [1,3,62] [0,1] 2 [Pp 0,Pp 1,.bool false] [Vb 45 (zT e_1),Vb 94 (yI r_1.1)] zF (ac zQ (ac zQ (ac zQ (ac zQ (ac zY (ac zY (ac zY (ac zQ (ac zY (ac zQ (ac z8 (ac z8 (ac z8 (ac z8 (ac yB (ac yB (ac yB (ac z8 (ac yB (ac z8 (ac zZ (ac zZ (ac zZ (ac zZ (ac yC (ac yC (ac yC (ac zZ (ac yC (ac zZ (ar false (ar false (ar false (ar false (ac z5 (ac z5 (ac z5 (ac z5 (ar false (ac z5 (ar false an))))))))))))))))))))))))))))))))))))))))) ?_
         cases h
         exact ⟨rfl,(sw [0,1] [] [.s 1,.s 3,.s 62] [.s 0,.s 1] an)⟩
     ·replace h:=zW yB h
      rcases bft (!r_1.1.m) with yF | yF
      ·replace h:=zV yF h
       rcases bft (e_1.M != (0:Int)) with yM | yM
       ·replace h:=zV yM h
        refine rg [(10,Ht),(11,Hf),(17,Hg),(18,Hg),(19,Hg),(20,Hf),(21,Hf),(30,Ht),(31,Hf),(33,Hg),(34,Hg),(35,Hg),(36,Hg),(41,Hg),(42,Ht)] [1,3,62] [0,1] 2 [Pp 0,Pp 1,.bool true] [Vb 45 (zT e_1),Vb 94 (yI r_1.1)] zF (ac zQ (ac zQ (ac zQ (ac zQ (ac zY (ac zY (ac zY (ac zQ (ac zY (ac zQ (ac z8 (ac z8 (ac z8 (ac z8 (ac yB (ac yB (ac yB (ac z8 (ac yB (ac z8 (ar false (ar false (ar false (ar false (ac yF (ac yF (ac yF (ar false (ac yF (ar false (ac yM (ac yM (ac yM (ac yM (ac yM (ac yM an)))))))))))))))))))))))))))))))))))) ?_
        cases h
        exact ⟨rfl,(sw [0,1] [] [.s 1,.s 3,.s 62] [.s 0,.s 1] an)⟩
       ·replace h:=zW yM h
        rcases bft (!r_1.1.stack) with y8 | y8
        ·replace h:=zV y8 h
         refine rg [(10,Ht),(11,Hf),(17,Hg),(18,Hg),(19,Hg),(20,Hf),(21,Hf),(30,Ht),(31,Hf),(39,{ n:=(e_1.Stack).length }),(41,Ht),(42,Hf)] [1,3,62] [0,1] 2 [Pp 0,Pp 1,.bool (decide ((lN (e_1.Stack))>(0:Int)))] [Vb 45 (zT e_1),Vb 94 (yI r_1.1)] zF (ac zQ (ac zQ (ac zQ (ac zQ (ac zY (ac zY (ac zY (ac zQ (ac zY (ac zQ (ac z8 (ac z8 (ac z8 (ac z8 (ac yB (ac yB (ac yB (ac z8 (ac yB (ac z8 (ar false (ar false (ar false (ar false (ac yF (ac yF (ac yF (ar false (ac yF (ar false (ac yM (ac yM (ac yM (ac yM (ac y8 (ac y8 (ac y8 (ac (yO _:((Ms e_1.Stack)).length=(e_1.Stack).length) (ac y8 (ac yM (ac y8 (ac yM an)))))))))))))))))))))))))))))))))))))))))) ?_
         cases h
         exact ⟨rfl,(sw [0,1] [] [.s 1,.s 3,.s 62] [.s 0,.s 1] an)⟩
        ·replace h:=zW y8 h
         refine rg [(10,Ht),(11,Hf),(17,Hg),(18,Hg),(19,Hg),(20,Hf),(21,Hf),(30,Ht),(31,Hf),(37,Hg),(38,Hg),(39,Hg),(40,Hg),(41,Hf),(42,Hf)] [1,3,62] [0,1] 2 [Pp 0,Pp 1,.bool false] [Vb 45 (zT e_1),Vb 94 (yI r_1.1)] zF (ac zQ (ac zQ (ac zQ (ac zQ (ac zY (ac zY (ac zY (ac zQ (ac zY (ac zQ (ac z8 (ac z8 (ac z8 (ac z8 (ac yB (ac yB (ac yB (ac z8 (ac yB (ac z8 (ar false (ar false (ar false (ar false (ac yF (ac yF (ac yF (ar false (ac yF (ar false (ac yM (ac yM (ac yM (ac yM (ac y8 (ac y8 (ac y8 (ac y8 (ac yM (ac y8 (ac yM an))))))))))))))))))))))))))))))))))))))))) ?_
         cases h
         exact ⟨rfl,(sw [0,1] [] [.s 1,.s 3,.s 62] [.s 0,.s 1] an)⟩
      ·replace h:=zW yF h
       rcases bft (!r_1.1.stack) with xX | xX
       ·replace h:=zV xX h
        refine rg [(10,Ht),(11,Hf),(17,Hg),(18,Hg),(19,Hg),(20,Hf),(21,Hf),(27,Hg),(28,Hg),(29,Hg),(30,Hf),(31,Hf),(39,{ n:=(e_1.Stack).length }),(41,Ht),(42,Hf)] [1,3,62] [0,1] 2 [Pp 0,Pp 1,.bool (decide ((lN (e_1.Stack))>(0:Int)))] [Vb 45 (zT e_1),Vb 94 (yI r_1.1)] zF (ac zQ (ac zQ (ac zQ (ac zQ (ac zY (ac zY (ac zY (ac zQ (ac zY (ac zQ (ac z8 (ac z8 (ac z8 (ac z8 (ac yB (ac yB (ac yB (ac z8 (ac yB (ac z8 (ar false (ar false (ar false (ar false (ac yF (ac yF (ac yF (ar false (ac yF (ar false (ar false (ar false (ar false (ar false (ac xX (ac xX (ac xX (ac (yO _:((Ms e_1.Stack)).length=(e_1.Stack).length) (ac xX (ar false (ac xX (ar false an)))))))))))))))))))))))))))))))))))))))))) ?_
        cases h
        exact ⟨rfl,(sw [0,1] [] [.s 1,.s 3,.s 62] [.s 0,.s 1] an)⟩
       ·replace h:=zW xX h
        refine rg [(10,Ht),(11,Hf),(17,Hg),(18,Hg),(19,Hg),(20,Hf),(21,Hf),(27,Hg),(28,Hg),(29,Hg),(30,Hf),(31,Hf),(37,Hg),(38,Hg),(39,Hg),(40,Hg),(41,Hf),(42,Hf)] [1,3,62] [0,1] 2 [Pp 0,Pp 1,.bool false] [Vb 45 (zT e_1),Vb 94 (yI r_1.1)] zF (ac zQ (ac zQ (ac zQ (ac zQ (ac zY (ac zY (ac zY (ac zQ (ac zY (ac zQ (ac z8 (ac z8 (ac z8 (ac z8 (ac yB (ac yB (ac yB (ac z8 (ac yB (ac z8 (ar false (ar false (ar false (ar false (ac yF (ac yF (ac yF (ar false (ac yF (ar false (ar false (ar false (ar false (ar false (ac xX (ac xX (ac xX (ac xX (ar false (ac xX (ar false an))))))))))))))))))))))))))))))))))))))))) ?_
        cases h
        exact ⟨rfl,(sw [0,1] [] [.s 1,.s 3,.s 62] [.s 0,.s 1] an)⟩
   ·replace h:=zW zY h
    rcases bft (!r_1.1.n) with yX | yX
    ·replace h:=zV yX h
     rcases bft (e_1.N != (0:Int)) with xP | xP
     ·replace h:=zV xP h
      refine rg [(7,Hg),(8,Hg),(9,Hg),(10,Hf),(11,Hf),(20,Ht),(21,Hf),(23,Hg),(24,Hg),(25,Hg),(26,Hg),(30,Hg),(31,Ht),(33,Hg),(34,Hg),(35,Hg),(36,Hg),(41,Hg),(42,Ht)] [1,3,62] [0,1] 2 [Pp 0,Pp 1,.bool true] [Vb 45 (zT e_1),Vb 94 (yI r_1.1)] zF (ac zQ (ac zQ (ac zQ (ac zQ (ac zY (ac zY (ac zY (ac zQ (ac zY (ac zQ (ar false (ar false (ar false (ar false (ac yX (ac yX (ac yX (ar false (ac yX (ar false (ac xP (ac xP (ac xP (ac xP (ac xP (ac xP (ax (ax (ax (ax (ax (ar true an)))))))))))))))))))))))))))))))) ?_
      cases h
      exact ⟨rfl,(sw [0,1] [] [.s 1,.s 3,.s 62] [.s 0,.s 1] an)⟩
     ·replace h:=zW xP h
      rcases bft (!r_1.1.m) with tU | tU
      ·replace h:=zV tU h
       rcases bft (e_1.M != (0:Int)) with qX | qX
       ·replace h:=zV qX h
        refine rg [(7,Hg),(8,Hg),(9,Hg),(10,Hf),(11,Hf),(20,Ht),(21,Hf),(30,Ht),(31,Hf),(33,Hg),(34,Hg),(35,Hg),(36,Hg),(41,Hg),(42,Ht)] [1,3,62] [0,1] 2 [Pp 0,Pp 1,.bool true] [Vb 45 (zT e_1),Vb 94 (yI r_1.1)] zF (ac zQ (ac zQ (ac zQ (ac zQ (ac zY (ac zY (ac zY (ac zQ (ac zY (ac zQ (ar false (ar false (ar false (ar false (ac yX (ac yX (ac yX (ar false (ac yX (ar false (ac xP (ac xP (ac xP (ac xP (ac tU (ac tU (ac tU (ac xP (ac tU (ac xP (ac qX (ac qX (ac qX (ac qX (ac qX (ac qX an)))))))))))))))))))))))))))))))))))) ?_
        cases h
        exact ⟨rfl,(sw [0,1] [] [.s 1,.s 3,.s 62] [.s 0,.s 1] an)⟩
       ·replace h:=zW qX h
        rcases bft (!r_1.1.stack) with zAt | zAt
        ·replace h:=zV zAt h
         refine rg [(7,Hg),(8,Hg),(9,Hg),(10,Hf),(11,Hf),(20,Ht),(21,Hf),(30,Ht),(31,Hf),(39,{ n:=(e_1.Stack).length }),(41,Ht),(42,Hf)] [1,3,62] [0,1] 2 [Pp 0,Pp 1,.bool (decide ((lN (e_1.Stack))>(0:Int)))] [Vb 45 (zT e_1),Vb 94 (yI r_1.1)] zF (ac zQ (ac zQ (ac zQ (ac zQ (ac zY (ac zY (ac zY (ac zQ (ac zY (ac zQ (ar false (ar false (ar false (ar false (ac yX (ac yX (ac yX (ar false (ac yX (ar false (ac xP (ac xP (ac xP (ac xP (ac tU (ac tU (ac tU (ac xP (ac tU (ac xP (ac qX (ac qX (ac qX (ac qX (ac zAt (ac zAt (ac zAt (ac (yO _:((Ms e_1.Stack)).length=(e_1.Stack).length) (ac zAt (ac qX (ac zAt (ac qX an)))))))))))))))))))))))))))))))))))))))))) ?_
         cases h
         exact ⟨rfl,(sw [0,1] [] [.s 1,.s 3,.s 62] [.s 0,.s 1] an)⟩
        ·replace h:=zW zAt h
         refine rg [(7,Hg),(8,Hg),(9,Hg),(10,Hf),(11,Hf),(20,Ht),(21,Hf),(30,Ht),(31,Hf),(37,Hg),(38,Hg),(39,Hg),(40,Hg),(41,Hf),(42,Hf)] [1,3,62] [0,1] 2 [Pp 0,Pp 1,.bool false] [Vb 45 (zT e_1),Vb 94 (yI r_1.1)] zF (ac zQ (ac zQ (ac zQ (ac zQ (ac zY (ac zY (ac zY (ac zQ (ac zY (ac zQ (ar false (ar false (ar false (ar false (ac yX (ac yX (ac yX (ar false (ac yX (ar false (ac xP (ac xP (ac xP (ac xP (ac tU (ac tU (ac tU (ac xP (ac tU (ac xP (ac qX (ac qX (ac qX (ac qX (ac zAt (ac zAt (ac zAt (ac zAt (ac qX (ac zAt (ac qX an))))))))))))))))))))))))))))))))))))))))) ?_
         cases h
         exact ⟨rfl,(sw [0,1] [] [.s 1,.s 3,.s 62] [.s 0,.s 1] an)⟩
      ·replace h:=zW tU h
       rcases bft (!r_1.1.stack) with zAu | zAu
       ·replace h:=zV zAu h
        refine rg [(7,Hg),(8,Hg),(9,Hg),(10,Hf),(11,Hf),(20,Ht),(21,Hf),(27,Hg),(28,Hg),(29,Hg),(30,Hf),(31,Hf),(39,{ n:=(e_1.Stack).length }),(41,Ht),(42,Hf)] [1,3,62] [0,1] 2 [Pp 0,Pp 1,.bool (decide ((lN (e_1.Stack))>(0:Int)))] [Vb 45 (zT e_1),Vb 94 (yI r_1.1)] zF (ac zQ (ac zQ (ac zQ (ac zQ (ac zY (ac zY (ac zY (ac zQ (ac zY (ac zQ (ar false (ar false (ar false (ar false (ac yX (ac yX (ac yX (ar false (ac yX (ar false (ac xP (ac xP (ac xP (ac xP (ac tU (ac tU (ac tU (ac xP (ac tU (ac xP (ar false (ar false (ar false (ar false (ac zAu (ac zAu (ac zAu (ac (yO _:((Ms e_1.Stack)).length=(e_1.Stack).length) (ac zAu (ar false (ac zAu (ar false an)))))))))))))))))))))))))))))))))))))))))) ?_
        cases h
        exact ⟨rfl,(sw [0,1] [] [.s 1,.s 3,.s 62] [.s 0,.s 1] an)⟩
       ·replace h:=zW zAu h
        refine rg [(7,Hg),(8,Hg),(9,Hg),(10,Hf),(11,Hf),(20,Ht),(21,Hf),(27,Hg),(28,Hg),(29,Hg),(30,Hf),(31,Hf),(37,Hg),(38,Hg),(39,Hg),(40,Hg),(41,Hf),(42,Hf)] [1,3,62] [0,1] 2 [Pp 0,Pp 1,.bool false] [Vb 45 (zT e_1),Vb 94 (yI r_1.1)] zF (ac zQ (ac zQ (ac zQ (ac zQ (ac zY (ac zY (ac zY (ac zQ (ac zY (ac zQ (ar false (ar false (ar false (ar false (ac yX (ac yX (ac yX (ar false (ac yX (ar false (ac xP (ac xP (ac xP (ac xP (ac tU (ac tU (ac tU (ac xP (ac tU (ac xP (ar false (ar false (ar false (ar false (ac zAu (ac zAu (ac zAu (ac zAu (ar false (ac zAu (ar false an))))))))))))))))))))))))))))))))))))))))) ?_
        cases h
        exact ⟨rfl,(sw [0,1] [] [.s 1,.s 3,.s 62] [.s 0,.s 1] an)⟩
    ·replace h:=zW yX h
     rcases bft (!r_1.1.m) with tV | tV
     ·replace h:=zV tV h
      rcases bft (e_1.M != (0:Int)) with xC | xC
      ·replace h:=zV xC h
       refine rg [(7,Hg),(8,Hg),(9,Hg),(10,Hf),(11,Hf),(17,Hg),(18,Hg),(19,Hg),(20,Hf),(21,Hf),(30,Ht),(31,Hf),(33,Hg),(34,Hg),(35,Hg),(36,Hg),(41,Hg),(42,Ht)] [1,3,62] [0,1] 2 [Pp 0,Pp 1,.bool true] [Vb 45 (zT e_1),Vb 94 (yI r_1.1)] zF (ac zQ (ac zQ (ac zQ (ac zQ (ac zY (ac zY (ac zY (ac zQ (ac zY (ac zQ (ar false (ar false (ar false (ar false (ac yX (ac yX (ac yX (ar false (ac yX (ar false (ar false (ar false (ar false (ar false (ac tV (ac tV (ac tV (ar false (ac tV (ar false (ac xC (ac xC (ac xC (ac xC (ac xC (ac xC an)))))))))))))))))))))))))))))))))))) ?_
       cases h
       exact ⟨rfl,(sw [0,1] [] [.s 1,.s 3,.s 62] [.s 0,.s 1] an)⟩
      ·replace h:=zW xC h
       rcases bft (!r_1.1.stack) with wL | wL
       ·replace h:=zV wL h
        refine rg [(7,Hg),(8,Hg),(9,Hg),(10,Hf),(11,Hf),(17,Hg),(18,Hg),(19,Hg),(20,Hf),(21,Hf),(30,Ht),(31,Hf),(39,{ n:=(e_1.Stack).length }),(41,Ht),(42,Hf)] [1,3,62] [0,1] 2 [Pp 0,Pp 1,.bool (decide ((lN (e_1.Stack))>(0:Int)))] [Vb 45 (zT e_1),Vb 94 (yI r_1.1)] zF (ac zQ (ac zQ (ac zQ (ac zQ (ac zY (ac zY (ac zY (ac zQ (ac zY (ac zQ (ar false (ar false (ar false (ar false (ac yX (ac yX (ac yX (ar false (ac yX (ar false (ar false (ar false (ar false (ar false (ac tV (ac tV (ac tV (ar false (ac tV (ar false (ac xC (ac xC (ac xC (ac xC (ac wL (ac wL (ac wL (ac (yO _:((Ms e_1.Stack)).length=(e_1.Stack).length) (ac wL (ac xC (ac wL (ac xC an)))))))))))))))))))))))))))))))))))))))))) ?_
        cases h
        exact ⟨rfl,(sw [0,1] [] [.s 1,.s 3,.s 62] [.s 0,.s 1] an)⟩
       ·replace h:=zW wL h
        refine rg [(7,Hg),(8,Hg),(9,Hg),(10,Hf),(11,Hf),(17,Hg),(18,Hg),(19,Hg),(20,Hf),(21,Hf),(30,Ht),(31,Hf),(37,Hg),(38,Hg),(39,Hg),(40,Hg),(41,Hf),(42,Hf)] [1,3,62] [0,1] 2 [Pp 0,Pp 1,.bool false] [Vb 45 (zT e_1),Vb 94 (yI r_1.1)] zF (ac zQ (ac zQ (ac zQ (ac zQ (ac zY (ac zY (ac zY (ac zQ (ac zY (ac zQ (ar false (ar false (ar false (ar false (ac yX (ac yX (ac yX (ar false (ac yX (ar false (ar false (ar false (ar false (ar false (ac tV (ac tV (ac tV (ar false (ac tV (ar false (ac xC (ac xC (ac xC (ac xC (ac wL (ac wL (ac wL (ac wL (ac xC (ac wL (ac xC an))))))))))))))))))))))))))))))))))))))))) ?_
        cases h
        exact ⟨rfl,(sw [0,1] [] [.s 1,.s 3,.s 62] [.s 0,.s 1] an)⟩
     ·replace h:=zW tV h
      rcases bft (!r_1.1.stack) with xW | xW
      ·replace h:=zV xW h
       refine rg [(7,Hg),(8,Hg),(9,Hg),(10,Hf),(11,Hf),(17,Hg),(18,Hg),(19,Hg),(20,Hf),(21,Hf),(27,Hg),(28,Hg),(29,Hg),(30,Hf),(31,Hf),(39,{ n:=(e_1.Stack).length }),(41,Ht),(42,Hf)] [1,3,62] [0,1] 2 [Pp 0,Pp 1,.bool (decide ((lN (e_1.Stack))>(0:Int)))] [Vb 45 (zT e_1),Vb 94 (yI r_1.1)] zF (ac zQ (ac zQ (ac zQ (ac zQ (ac zY (ac zY (ac zY (ac zQ (ac zY (ac zQ (ar false (ar false (ar false (ar false (ac yX (ac yX (ac yX (ar false (ac yX (ar false (ar false (ar false (ar false (ar false (ac tV (ac tV (ac tV (ar false (ac tV (ar false (ar false (ar false (ar false (ar false (ac xW (ac xW (ac xW (ac (yO _:((Ms e_1.Stack)).length=(e_1.Stack).length) (ac xW (ar false (ac xW (ar false an)))))))))))))))))))))))))))))))))))))))))) ?_
       cases h
       exact ⟨rfl,(sw [0,1] [] [.s 1,.s 3,.s 62] [.s 0,.s 1] an)⟩
      ·replace h:=zW xW h
       refine rg [(7,Hg),(8,Hg),(9,Hg),(10,Hf),(11,Hf),(17,Hg),(18,Hg),(19,Hg),(20,Hf),(21,Hf),(27,Hg),(28,Hg),(29,Hg),(30,Hf),(31,Hf),(37,Hg),(38,Hg),(39,Hg),(40,Hg),(41,Hf),(42,Hf)] [1,3,62] [0,1] 2 [Pp 0,Pp 1,.bool false] [Vb 45 (zT e_1),Vb 94 (yI r_1.1)] zF (ac zQ (ac zQ (ac zQ (ac zQ (ac zY (ac zY (ac zY (ac zQ (ac zY (ac zQ (ar false (ar false (ar false (ar false (ac yX (ac yX (ac yX (ar false (ac yX (ar false (ar false (ar false (ar false (ar false (ac tV (ac tV (ac tV (ar false (ac tV (ar false (ar false (ar false (ar false (ar false (ac xW (ac xW (ac xW (ac xW (ar false (ac xW (ar false an))))))))))))))))))))))))))))))))))))))))) ?_
       cases h
       exact ⟨rfl,(sw [0,1] [] [.s 1,.s 3,.s 62] [.s 0,.s 1] an)⟩
 refine cd 62 p_1 ?_ ?_
 ·intro g_2;replace h:=zV g_2 h
  refine sr [] [2] [] 2 [Ii 1] [] zF an ?_
  refine rt ?_
  cases h
  exact ⟨.inr rfl,Nat.le_of_ble_eq_true rfl,by kernel_rfl⟩
 intro g_2;replace h:=zW g_2 h
 refine sk ?_
 refine sq ?_
 refine sq ?_
 obtain ⟨r_2,h_3,h⟩:=bind_some h
 refine rg [(2,{ av:=Ii r_2,l:=[xH r_1.1,zN e_1] })] [1,3,5] [0,1] 2 [Pp 0,Pp 1,Ii r_2] [Vb 45 (zT e_1),Vb 94 (yI r_1.1)] zF (ar ([xH r_1.1,zN e_1]:List AV) (ac (rfl:([]:List zU)=[]) (ac (zGI F r_1.1 e_1 r_2 h_3:zS prog 57 [] [] [xH r_1.1,zN e_1] [] (Ii r_2)) an))) ?_
 refine sr [] [1,3,5,67] [0,1] 2 [Pp 0,Pp 1,Ii r_2,.bool (r_2 != (0:Int))] [Vb 45 (zT e_1),Vb 94 (yI r_1.1)] zF an ?_
 refine cd 67 (r_2 != (0:Int)) ?_ ?_
 ·intro g_3;replace h:=zV g_3 h
  refine sr [] [2] [] 2 [Ii r_2] [] zF an ?_
  refine rt ?_
  cases h
  exact ⟨.inr rfl,Nat.le_of_ble_eq_true rfl,by kernel_rfl⟩
 intro g_3;replace h:=zW g_3 h
 refine sk ?_
 refine sq ?_
 refine yN (id:=0) (by kernel_rfl) ?_
 refine sq ?_
 refine yV (mk [(1,Pp 0),(3,Pp 1),(69,.bool (r_1.1.n&&(decide (e_1.N<r_1.1.least)||decide (e_1.N>r_1.1.most))))] [(0,Vb 45 (zT e_1)),(1,Vb 94 (yI r_1.1))] 2) ?_ ?_
 ·rcases Bool.eq_false_or_eq_true r_1.1.n with uC | uC
  ·rcases bft (decide (e_1.N<r_1.1.least)) with nA | nA
   ·refine rg [(9,Hg),(10,Hg),(11,Hg),(12,Hg),(13,Hg),(14,Ht),(15,Ht)] [1,3,69] [0,1] 2 [Pp 0,Pp 1,.bool true] [Vb 45 (zT e_1),Vb 94 (yI r_1.1)] zF (ac uC (ac uC (ac uC (ac uC (ac uC (ac uC (ac nA (ac nA (ac nA (ac nA (ac nA (ac uC (ac nA (ac uC an)))))))))))))) ?_
    exact ⟨rfl,(sw [0,1] [] [.s 1,.s 3,.a 69 (.bool (r_1.1.n&&(decide (e_1.N<r_1.1.least)||decide (e_1.N>r_1.1.most))))] [.s 0,.s 1] (ac (congrArg AV.bool (qS uC (ort nA)):(.bool true:AV)=.bool (r_1.1.n&&(decide (e_1.N<r_1.1.least)||decide (e_1.N>r_1.1.most)))) an))⟩
   ·refine rg [(14,Hf),(15,Ht)] [1,3,69] [0,1] 2 [Pp 0,Pp 1,.bool (decide (e_1.N>r_1.1.most))] [Vb 45 (zT e_1),Vb 94 (yI r_1.1)] zF (ac uC (ac uC (ac uC (ac uC (ac uC (ac uC (ac nA (ac nA (ac nA (ac nA (ac nA (ac uC (ac nA (ac uC an)))))))))))))) ?_
    exact ⟨rfl,(sw [0,1] [] [.s 1,.s 3,.a 69 (.bool (r_1.1.n&&(decide (e_1.N<r_1.1.least)||decide (e_1.N>r_1.1.most))))] [.s 0,.s 1] (ac (congrArg AV.bool (qS uC (orf nA rfl)):(.bool (decide (e_1.N>r_1.1.most)):AV)=.bool (r_1.1.n&&(decide (e_1.N<r_1.1.least)||decide (e_1.N>r_1.1.most)))) an))⟩
  ·refine rg [(3,Hg),(4,Hg),(5,Hg),(6,Hg),(7,Hg),(8,Hg),(14,Hg),(15,Hf)] [1,3,69] [0,1] 2 [Pp 0,Pp 1,.bool false] [Vb 45 (zT e_1),Vb 94 (yI r_1.1)] zF (ac uC (ac uC (ac uC (ac uC (ac uC (ac uC (ac uC (ac uC an)))))))) ?_
   exact ⟨rfl,(sw [0,1] [] [.s 1,.s 3,.a 69 (.bool (r_1.1.n&&(decide (e_1.N<r_1.1.least)||decide (e_1.N>r_1.1.most))))] [.s 0,.s 1] (ac (congrArg AV.bool (n8 uC):(.bool false:AV)=.bool (r_1.1.n&&(decide (e_1.N<r_1.1.least)||decide (e_1.N>r_1.1.most)))) an))⟩
 refine cd 69 (r_1.1.n&&(decide (e_1.N<r_1.1.least)||decide (e_1.N>r_1.1.most))) ?_ ?_
 ·intro g_4;replace h:=zV g_4 h
  refine sr [] [2] [] 2 [Ii 2] [] zF an ?_
  refine rt ?_
  cases h
  exact ⟨.inr rfl,Nat.le_of_ble_eq_true rfl,by kernel_rfl⟩
 intro g_4;replace h:=zW g_4 h
 refine sq ?_
 refine yV (mk [(1,Pp 0),(3,Pp 1),(86,.bool ((e_1.Kind==(9:Int))&&((e_1.N != (2:Int))&&(e_1.M != (0:Int)))))] [(0,Vb 45 (zT e_1)),(1,Vb 94 (yI r_1.1))] 2) ?_ ?_
 ·rcases bft (e_1.Kind==(9:Int)) with k9 | k9
  ·rcases bft (e_1.N != (2:Int)) with zBf | zBf
   ·refine rg [(7,Ht),(12,Ht)] [1,3,86] [0,1] 2 [Pp 0,Pp 1,.bool (e_1.M != (0:Int))] [Vb 45 (zT e_1),Vb 94 (yI r_1.1)] zF (ac k9 (ac k9 (ac k9 (ac k9 (ac zBf (ac zBf (ac zBf (ac zBf an)))))))) ?_
    exact ⟨rfl,(sw [0,1] [] [.s 1,.s 3,.a 86 (.bool ((e_1.Kind==(9:Int))&&((e_1.N != (2:Int))&&(e_1.M != (0:Int)))))] [.s 0,.s 1] (ac (congrArg AV.bool (qS k9 (qS zBf rfl)):(.bool (e_1.M != (0:Int)):AV)=.bool ((e_1.Kind==(9:Int))&&((e_1.N != (2:Int))&&(e_1.M != (0:Int))))) an))⟩
   ·refine rg [(7,Ht),(9,Hg),(10,Hg),(11,Hg),(12,Hf)] [1,3,86] [0,1] 2 [Pp 0,Pp 1,.bool false] [Vb 45 (zT e_1),Vb 94 (yI r_1.1)] zF (ac k9 (ac k9 (ac k9 (ac k9 (ac zBf (ac zBf (ac zBf (ac zBf an)))))))) ?_
    exact ⟨rfl,(sw [0,1] [] [.s 1,.s 3,.a 86 (.bool ((e_1.Kind==(9:Int))&&((e_1.N != (2:Int))&&(e_1.M != (0:Int)))))] [.s 0,.s 1] (ac (congrArg AV.bool (qS k9 (n8 zBf)):(.bool false:AV)=.bool ((e_1.Kind==(9:Int))&&((e_1.N != (2:Int))&&(e_1.M != (0:Int))))) an))⟩
  ·refine rg [(4,Hg),(5,Hg),(6,Hg),(7,Hf),(9,Hg),(10,Hg),(11,Hg),(12,Hf)] [1,3,86] [0,1] 2 [Pp 0,Pp 1,.bool false] [Vb 45 (zT e_1),Vb 94 (yI r_1.1)] zF (ac k9 (ac k9 (ac k9 (ac k9 (ac (rfl:false=!true) (ac (rfl:false=!true) (ac (rfl:false=!true) (ar false an)))))))) ?_
   exact ⟨rfl,(sw [0,1] [] [.s 1,.s 3,.a 86 (.bool ((e_1.Kind==(9:Int))&&((e_1.N != (2:Int))&&(e_1.M != (0:Int)))))] [.s 0,.s 1] (ac (congrArg AV.bool (n8 k9):(.bool false:AV)=.bool ((e_1.Kind==(9:Int))&&((e_1.N != (2:Int))&&(e_1.M != (0:Int))))) an))⟩
 refine cd 86 ((e_1.Kind==(9:Int))&&((e_1.N != (2:Int))&&(e_1.M != (0:Int)))) ?_ ?_
 ·intro g_5;replace h:=zV g_5 h
  refine sr [] [2] [] 2 [Ii 1] [] zF an ?_
  refine rt ?_
  cases h
  exact ⟨.inr rfl,Nat.le_of_ble_eq_true rfl,by kernel_rfl⟩
 intro g_5;replace h:=zW g_5 h
 refine sq ?_
 refine yV (mk [(100,.bool (r_1.1.m&&(bif decide (e_1.M<r_1.1.mLeast) then ((e_1.Kind != (9:Int))||(e_1.N==(2:Int))) else (decide (e_1.M>r_1.1.mMost)&&((e_1.Kind != (9:Int))||(e_1.N==(2:Int)))))))] [] 0) ?_ ?_
 ·rcases Bool.eq_false_or_eq_true r_1.1.m with xK | xK
  ·rcases bft (decide (e_1.M<r_1.1.mLeast)) with w6 | w6
   ·rcases bft (e_1.Kind != (9:Int)) with zBg | zBg
    ·refine rg [(9,Hg),(10,Hg),(11,Hg),(12,Hg),(13,Hg),(14,Ht),(15,Ht),(21,Hg),(22,Hg),(23,Hg),(24,Ht),(25,Ht)] [100] [] 2 [.bool true] [] zF (ac xK (ac xK (ac xK (ac xK (ac xK (ac xK (ac w6 (ac w6 (ac w6 (ac w6 (ac w6 (ac xK (ac w6 (ac xK (ar true (ar true (ar true (ar true (ac zBg (ac zBg (ac zBg (ar true (ac zBg (ar true an)))))))))))))))))))))))) ?_
     exact ⟨rfl,(sw [] [] [.a 100 (.bool (r_1.1.m&&(bif decide (e_1.M<r_1.1.mLeast) then ((e_1.Kind != (9:Int))||(e_1.N==(2:Int))) else (decide (e_1.M>r_1.1.mMost)&&((e_1.Kind != (9:Int))||(e_1.N==(2:Int)))))))] [] (ac (congrArg AV.bool (qS xK (ctr w6 (ort zBg))):(.bool true:AV)=.bool (r_1.1.m&&(bif decide (e_1.M<r_1.1.mLeast) then ((e_1.Kind != (9:Int))||(e_1.N==(2:Int))) else (decide (e_1.M>r_1.1.mMost)&&((e_1.Kind != (9:Int))||(e_1.N==(2:Int))))))) an))⟩
    ·refine rg [(9,Hg),(10,Hg),(11,Hg),(12,Hg),(13,Hg),(14,Ht),(15,Ht),(24,Hf),(25,Ht)] [100] [] 2 [.bool (e_1.N==(2:Int))] [] zF (ac xK (ac xK (ac xK (ac xK (ac xK (ac xK (ac w6 (ac w6 (ac w6 (ac w6 (ac w6 (ac xK (ac w6 (ac xK (ar true (ar true (ar true (ar true (ac zBg (ac zBg (ac zBg (ar true (ac zBg (ar true an)))))))))))))))))))))))) ?_
     exact ⟨rfl,(sw [] [] [.a 100 (.bool (r_1.1.m&&(bif decide (e_1.M<r_1.1.mLeast) then ((e_1.Kind != (9:Int))||(e_1.N==(2:Int))) else (decide (e_1.M>r_1.1.mMost)&&((e_1.Kind != (9:Int))||(e_1.N==(2:Int)))))))] [] (ac (congrArg AV.bool (qS xK (ctr w6 (orf zBg rfl))):(.bool (e_1.N==(2:Int)):AV)=.bool (r_1.1.m&&(bif decide (e_1.M<r_1.1.mLeast) then ((e_1.Kind != (9:Int))||(e_1.N==(2:Int))) else (decide (e_1.M>r_1.1.mMost)&&((e_1.Kind != (9:Int))||(e_1.N==(2:Int))))))) an))⟩
   ·rcases bft (decide (e_1.M>r_1.1.mMost)) with qI | qI
    ·rcases bft (e_1.Kind != (9:Int)) with zBh | zBh
     ·refine rg [(14,Hf),(15,Ht),(21,Hg),(22,Hg),(23,Hg),(24,Ht),(25,Ht)] [100] [] 2 [.bool true] [] zF (ac xK (ac xK (ac xK (ac xK (ac xK (ac xK (ac w6 (ac w6 (ac w6 (ac w6 (ac w6 (ac xK (ac w6 (ac xK (ac qI (ac qI (ac qI (ac qI (ac zBh (ac zBh (ac zBh (ac qI (ac zBh (ac qI an)))))))))))))))))))))))) ?_
      exact ⟨rfl,(sw [] [] [.a 100 (.bool (r_1.1.m&&(bif decide (e_1.M<r_1.1.mLeast) then ((e_1.Kind != (9:Int))||(e_1.N==(2:Int))) else (decide (e_1.M>r_1.1.mMost)&&((e_1.Kind != (9:Int))||(e_1.N==(2:Int)))))))] [] (ac (congrArg AV.bool (qS xK (cfr w6 (qS qI (ort zBh)))):(.bool true:AV)=.bool (r_1.1.m&&(bif decide (e_1.M<r_1.1.mLeast) then ((e_1.Kind != (9:Int))||(e_1.N==(2:Int))) else (decide (e_1.M>r_1.1.mMost)&&((e_1.Kind != (9:Int))||(e_1.N==(2:Int))))))) an))⟩
     ·refine rg [(14,Hf),(15,Ht),(24,Hf),(25,Ht)] [100] [] 2 [.bool (e_1.N==(2:Int))] [] zF (ac xK (ac xK (ac xK (ac xK (ac xK (ac xK (ac w6 (ac w6 (ac w6 (ac w6 (ac w6 (ac xK (ac w6 (ac xK (ac qI (ac qI (ac qI (ac qI (ac zBh (ac zBh (ac zBh (ac qI (ac zBh (ac qI an)))))))))))))))))))))))) ?_
      exact ⟨rfl,(sw [] [] [.a 100 (.bool (r_1.1.m&&(bif decide (e_1.M<r_1.1.mLeast) then ((e_1.Kind != (9:Int))||(e_1.N==(2:Int))) else (decide (e_1.M>r_1.1.mMost)&&((e_1.Kind != (9:Int))||(e_1.N==(2:Int)))))))] [] (ac (congrArg AV.bool (qS xK (cfr w6 (qS qI (orf zBh rfl)))):(.bool (e_1.N==(2:Int)):AV)=.bool (r_1.1.m&&(bif decide (e_1.M<r_1.1.mLeast) then ((e_1.Kind != (9:Int))||(e_1.N==(2:Int))) else (decide (e_1.M>r_1.1.mMost)&&((e_1.Kind != (9:Int))||(e_1.N==(2:Int))))))) an))⟩
    ·refine rg [(14,Hf),(15,Ht),(17,Hg),(18,Hg),(19,Hg),(20,Hg),(24,Hg),(25,Hf)] [100] [] 2 [.bool false] [] zF (ac xK (ac xK (ac xK (ac xK (ac xK (ac xK (ac w6 (ac w6 (ac w6 (ac w6 (ac w6 (ac xK (ac w6 (ac xK (ac qI (ac qI (ac qI (ac qI (ac qI (ac qI an)))))))))))))))))))) ?_
     exact ⟨rfl,(sw [] [] [.a 100 (.bool (r_1.1.m&&(bif decide (e_1.M<r_1.1.mLeast) then ((e_1.Kind != (9:Int))||(e_1.N==(2:Int))) else (decide (e_1.M>r_1.1.mMost)&&((e_1.Kind != (9:Int))||(e_1.N==(2:Int)))))))] [] (ac (congrArg AV.bool (qS xK (cfr w6 (n8 qI))):(.bool false:AV)=.bool (r_1.1.m&&(bif decide (e_1.M<r_1.1.mLeast) then ((e_1.Kind != (9:Int))||(e_1.N==(2:Int))) else (decide (e_1.M>r_1.1.mMost)&&((e_1.Kind != (9:Int))||(e_1.N==(2:Int))))))) an))⟩
  ·refine rg [(3,Hg),(4,Hg),(5,Hg),(6,Hg),(7,Hg),(8,Hg),(14,Hg),(15,Hf),(17,Hg),(18,Hg),(19,Hg),(20,Hg),(24,Hg),(25,Hf)] [100] [] 2 [.bool false] [] zF (ac xK (ac xK (ac xK (ac xK (ac xK (ac xK (ac xK (ac xK (ac (rfl:false=!true) (ac (rfl:false=!true) (ac (rfl:false=!true) (ac (rfl:false=!true) (ac (rfl:false=!true) (ar false an)))))))))))))) ?_
   exact ⟨rfl,(sw [] [] [.a 100 (.bool (r_1.1.m&&(bif decide (e_1.M<r_1.1.mLeast) then ((e_1.Kind != (9:Int))||(e_1.N==(2:Int))) else (decide (e_1.M>r_1.1.mMost)&&((e_1.Kind != (9:Int))||(e_1.N==(2:Int)))))))] [] (ac (congrArg AV.bool (n8 xK):(.bool false:AV)=.bool (r_1.1.m&&(bif decide (e_1.M<r_1.1.mLeast) then ((e_1.Kind != (9:Int))||(e_1.N==(2:Int))) else (decide (e_1.M>r_1.1.mMost)&&((e_1.Kind != (9:Int))||(e_1.N==(2:Int))))))) an))⟩
 refine cd 100 (r_1.1.m&&(bif decide (e_1.M<r_1.1.mLeast) then ((e_1.Kind != (9:Int))||(e_1.N==(2:Int))) else (decide (e_1.M>r_1.1.mMost)&&((e_1.Kind != (9:Int))||(e_1.N==(2:Int)))))) ?_ ?_
 ·intro g_6;replace h:=zV g_6 h
  refine sr [] [2] [] 0 [Ii 2] [] zF an ?_
  refine rt ?_
  cases h
  exact ⟨.inr rfl,Nat.le_of_ble_eq_true rfl,by kernel_rfl⟩
 intro g_6;replace h:=zW g_6 h
 refine sk ?_
 refine sr [] [2] [] 0 [Ii 0] [] zF an ?_
 refine rt ?_
 cases h
 exact ⟨.inr rfl,Nat.le_of_ble_eq_true rfl,by kernel_rfl⟩
end Go.Ab
