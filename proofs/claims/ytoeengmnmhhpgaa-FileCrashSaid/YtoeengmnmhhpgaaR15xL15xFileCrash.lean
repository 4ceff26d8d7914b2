/- The row of iV, from its plain law. Printed by row.py. -/
import Derived.Test.YtoeengmnmhhpgaaR15
import Derived.Test.YtoeengmnmhhpgaaP15xL15xFileCrash
import Derived.Test.YtoeengmnmhhpgaaRows
namespace Go.Proofs.Ytoeengmnmhhpgaa
open Go.Ab
set_option linter.unusedVariables false
theorem own:ownKnob Try.prog.godebug=none:=by kernel_rfl
theorem zCV:laidOutB Try.prog=true:=by kernel_rfl
set_option maxRecDepth 100000 in
theorem zAc (hs:∀ (a0:zT) (a1:List (tK)) (a2:Int) (a3:Int),fH a0→(aF HX) a1→yS a2→yS a3→∃ F,iV F a0 a1 a2 a3=some true):∀ avs,mB Try.prog Try.f4.params.toList [[.sl true [.int .i64,.str,.int .i64],.sl true [.int .i64,.int .i64],.sl true [.int .i64,.int .i64,.int .i64,.int .i64,.int .i64]],[.sl true [.sl true [.int .i64,.int .i64,.int .i64,.int .i64,.int .i64],.sl true [.int .i64,.int .i64,.int .i64,.sl true [.int .i64,.int .i64,.str,.int .i64,.int .i64,.sl false [.str]]]]],[.int .i64],[.int .i64]] avs→oA Try.prog 4 [] avs [] (.bool true):=by
 intro avs h
 obtain ⟨x,rfl,hx⟩:=(HD V7 (HD (gB zBz) (HD jX (HD jX zEt)))) avs h
 obtain ⟨F,hF⟩:=hs x.1 x.2.1 x.2.2.1 x.2.2.2.1 hx.1 hx.2.1 hx.2.2.1 hx.2.2.2.1
 exact zEl F x.1 x.2.1 x.2.2.1 x.2.2.2.1 true hF
set_option maxRecDepth 100000 in
theorem L15_FileCrash_row (hs:∀ (a0:zT) (a1:List (tK)) (a2:Int) (a3:Int),fH a0→(aF HX) a1→yS a2→yS a3→∃ F,iV F a0 a1 a2 a3=some true):Rows.FileCrashSaid :=
 OpenClaim.holds_of_wide 4 Try.f4 rfl rfl rfl rfl rfl rfl rfl ⟨rfl,rfl,rfl,rfl,rfl⟩ rfl rfl rfl rfl rfl (by kernel_rfl) Try.func4 (by kernel_rfl)
  (of_decide_eq_true (by kernel_rfl)) (by unfold Func.isWrapper;rw [if_neg (by decide +kernel)];exact ⟨rfl,rfl⟩)
  (fun os started H enc _=>returnsInHanded_of_change_sized (C:=Try.checked) (s:=Rows.fileCrashSpec) own started (by kernel_rfl) Try.func4
   (ChangeSpec.witness6 (enc:=enc) (C:=Try.checked) false ⟨#[],#[.agg #[.slice none 0 0,.slice none 0 0,.slice none 0 0],.slice none 0 0,.int .i64 0,.int .i64 0],[]⟩ 8 (by kernel_rfl) (by kernel_rfl) (by kernel_rfl) (by kernel_rfl))
   (fun W base args ds gs before hval hW _ hz _=>zCr (n:=12) (tb:=4) zCV rfl (by kernel_rfl) (sss:=[[.sl true [.int .i64,.str,.int .i64],.sl true [.int .i64,.int .i64],.sl true [.int .i64,.int .i64,.int .i64,.int .i64,.int .i64]],[.sl true [.sl true [.int .i64,.int .i64,.int .i64,.int .i64,.int .i64],.sl true [.int .i64,.int .i64,.int .i64,.sl true [.int .i64,.int .i64,.str,.int .i64,.int .i64,.sl false [.str]]]]],[.int .i64],[.int .i64]]) (by kernel_rfl) (by kernel_rfl) (by kernel_rfl)
    (fun ds h=>match ds,h with | [_,_,_,_],_=>⟨rfl,rfl,rfl⟩) (zAc hs) hval hW hz))
end Go.Proofs.Ytoeengmnmhhpgaa
