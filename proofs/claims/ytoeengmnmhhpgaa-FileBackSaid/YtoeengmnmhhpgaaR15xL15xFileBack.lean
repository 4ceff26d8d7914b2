/- The row of gQ, from its plain law. Printed by row.py. -/
import Derived.Test.YtoeengmnmhhpgaaR15
import Derived.Test.YtoeengmnmhhpgaaP15xL15xFileBack
import Derived.Test.YtoeengmnmhhpgaaRows
namespace Go.Proofs.Ytoeengmnmhhpgaa
open Go.Ab
set_option linter.unusedVariables false
theorem own:ownKnob Try.prog.godebug=none:=by kernel_rfl
theorem zCu:laidOutB Try.prog=true:=by kernel_rfl
set_option maxRecDepth 100000 in
theorem V1 (hs:∀ (a0:zU) (a1:List (tH)) (a2:Int),fA a0→(aE HE) a1→yU a2→∃ F,gQ F a0 a1 a2=some true):∀ avs,lL Try.prog Try.f3.params.toList [[.sl true [.int .i64,.str,.int .i64],.sl true [.int .i64,.int .i64],.sl true [.int .i64,.int .i64,.int .i64,.int .i64,.int .i64]],[.sl true [.sl true [.int .i64,.int .i64,.int .i64,.int .i64,.int .i64],.sl true [.int .i64,.int .i64,.int .i64,.sl true [.int .i64,.int .i64,.str,.int .i64,.int .i64,.sl false [.str]]]]],[.int .i64]] avs→mI Try.prog 3 [] avs [] (.bool true):=by
 intro avs h
 obtain ⟨x,rfl,hx⟩:=(NF zCH (NF (iY V2) (NF kH zBA))) avs h
 obtain ⟨F,hF⟩:=hs x.1 x.2.1 x.2.2.1 hx.1 hx.2.1 hx.2.2.1
 exact WU F x.1 x.2.1 x.2.2.1 true hF
set_option maxRecDepth 100000 in
theorem L15_FileBack_row (hs:∀ (a0:zU) (a1:List (tH)) (a2:Int),fA a0→(aE HE) a1→yU a2→∃ F,gQ F a0 a1 a2=some true):Rows.FileBackSaid :=
 OpenClaim.holds_of_wide 3 Try.f3 rfl rfl rfl rfl rfl rfl rfl ⟨rfl,rfl,rfl,rfl,rfl⟩ rfl rfl rfl rfl rfl (by kernel_rfl) Try.func3 (by kernel_rfl)
  (of_decide_eq_true (by kernel_rfl)) (by unfold Func.isWrapper;rw [if_neg (by decide +kernel)];exact ⟨rfl,rfl⟩)
  (fun os started H enc _=>returnsInHanded_of_change_sized (C:=Try.checked) (s:=Rows.fileBackSpec) own started (by kernel_rfl) Try.func3
   (ChangeSpec.witness6 (enc:=enc) (C:=Try.checked) false ⟨#[],#[.agg #[.slice none 0 0,.slice none 0 0,.slice none 0 0],.slice none 0 0,.int .i64 0],[]⟩ 8 (by kernel_rfl) (by kernel_rfl) (by kernel_rfl) (by kernel_rfl))
   (fun W base args ds gs before hval hW _ hz _=>zAe (n:=12) (tb:=4) zCu rfl (by kernel_rfl) (sss:=[[.sl true [.int .i64,.str,.int .i64],.sl true [.int .i64,.int .i64],.sl true [.int .i64,.int .i64,.int .i64,.int .i64,.int .i64]],[.sl true [.sl true [.int .i64,.int .i64,.int .i64,.int .i64,.int .i64],.sl true [.int .i64,.int .i64,.int .i64,.sl true [.int .i64,.int .i64,.str,.int .i64,.int .i64,.sl false [.str]]]]],[.int .i64]]) (by kernel_rfl) (by kernel_rfl) (by kernel_rfl)
    (fun ds h=>match ds,h with | [_,_,_],_=>⟨rfl,rfl,rfl⟩) (V1 hs) hval hW hz))
end Go.Proofs.Ytoeengmnmhhpgaa
