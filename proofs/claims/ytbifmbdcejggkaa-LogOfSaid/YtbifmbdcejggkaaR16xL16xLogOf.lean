/- The row of k0, from its plain law. Printed by row.py. -/
import Derived.Test.YtbifmbdcejggkaaR16
import Derived.Test.YtbifmbdcejggkaaP16xL16xLogOf
import Derived.Test.YtbifmbdcejggkaaRows
namespace Go.Proofs.Ytbifmbdcejggkaa
open Go.Ab
set_option linter.unusedVariables false
theorem own:ownKnob Try.prog.godebug=none:=by kernel_rfl
theorem zOD:laidOutB Try.prog=true:=by kernel_rfl
set_option maxRecDepth 100000 in
theorem zIi (hs:∀ (a0:zL) (a1:List (zB)),pL a0→(zCq j5) a1→∃ F,k0 F a0 a1=some true):∀ avs,zCC Try.prog Try.f3.params.toList [[.sl true [.int .i64,.str,.int .i64],.sl true [.int .i64,.int .i64],.sl true [.int .i64,.int .i64,.int .i64,.int .i64,.int .i64]],[.sl true [.int .i64,.int .i64,.int .i64,.sl true [.int .i64,.int .i64,.str,.int .i64,.int .i64,.sl false [.str]]]]] avs→zET Try.prog 3 [] avs [] (.bool true):=by
 intro avs h
 obtain ⟨x,rfl,hx⟩:=(zFG zDw (zFG (zDz zCK) zL6)) avs h
 obtain ⟨F,hF⟩:=hs x.1 x.2.1 hx.1 hx.2.1
 exact zJG F x.1 x.2.1 true hF
set_option maxRecDepth 100000 in
theorem L16_LogOf_row (hs:∀ (a0:zL) (a1:List (zB)),pL a0→(zCq j5) a1→∃ F,k0 F a0 a1=some true):Rows.LogOfSaid :=
 OpenClaim.holds_of_wide 3 Try.f3 rfl rfl rfl rfl rfl rfl rfl ⟨rfl,rfl,rfl,rfl,rfl⟩ rfl rfl rfl rfl rfl (by kernel_rfl) Try.func3 (by kernel_rfl)
  (of_decide_eq_true (by kernel_rfl)) (by unfold Func.isWrapper;rw [if_neg (by decide +kernel)];exact ⟨rfl,rfl⟩)
  (fun os started H enc _=>returnsInHanded_of_change_sized (C:=Try.checked) (s:=Rows.logOfSpec) own started (by kernel_rfl) Try.func3
   (ChangeSpec.witness6 (enc:=enc) (C:=Try.checked) false ⟨#[],#[.agg #[.slice none 0 0,.slice none 0 0,.slice none 0 0],.slice none 0 0],[]⟩ 8 (by kernel_rfl) (by kernel_rfl) (by kernel_rfl) (by kernel_rfl))
   (fun W base args ds gs before hval hW _ hz _=>zKl (n:=12) (tb:=4) zOD rfl (by kernel_rfl) (sss:=[[.sl true [.int .i64,.str,.int .i64],.sl true [.int .i64,.int .i64],.sl true [.int .i64,.int .i64,.int .i64,.int .i64,.int .i64]],[.sl true [.int .i64,.int .i64,.int .i64,.sl true [.int .i64,.int .i64,.str,.int .i64,.int .i64,.sl false [.str]]]]]) (by kernel_rfl) (by kernel_rfl) (by kernel_rfl)
    (fun ds h=>match ds,h with | [_,_],_=>⟨rfl,rfl,rfl⟩) (zIi hs) hval hW hz))
end Go.Proofs.Ytbifmbdcejggkaa
