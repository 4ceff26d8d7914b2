/- The row of qF, from its plain law. Printed by row.py. -/
import Derived.Test.YtbifmbdcejggkaaR16
import Derived.Test.YtbifmbdcejggkaaP16xL16xLogCounts
import Derived.Test.YtbifmbdcejggkaaRows
namespace Go.Proofs.Ytbifmbdcejggkaa
open Go.Ab
set_option linter.unusedVariables false
theorem own:ownKnob Try.prog.godebug=none:=by kernel_rfl
theorem zNF:laidOutB Try.prog=true:=by kernel_rfl

set_option maxRecDepth 100000 in
theorem zEr (hs:∀ (a0:zR) (a1:List (zB)) (a2:Int),kZ a0→(zBS jK) a1→tJ a2→∃ F,qF F a0 a1 a2=some true):∀ avs,zBV Try.prog Try.f5.params.toList [[.sl true [.int .i64,.str,.int .i64],.sl true [.int .i64,.int .i64],.sl true [.int .i64,.int .i64,.int .i64,.int .i64,.int .i64]],[.sl true [.int .i64,.int .i64,.int .i64,.sl true [.int .i64,.int .i64,.str,.int .i64,.int .i64,.sl false [.str]]]],[.int .i64]] avs→zDU Try.prog 5 [] avs [] (.bool true):=by
  intro avs h
  obtain ⟨x,rfl,hx⟩:=(zCy zCU (zCy (zCO zB8) (zCy uQ zKr))) avs h
  obtain ⟨F,hF⟩:=hs x.1 x.2.1 x.2.2.1 hx.1 hx.2.1 hx.2.2.1
  exact zFg F x.1 x.2.1 x.2.2.1 true hF

set_option maxRecDepth 100000 in
theorem L16_LogCounts_row (hs:∀ (a0:zR) (a1:List (zB)) (a2:Int),kZ a0→(zBS jK) a1→tJ a2→∃ F,qF F a0 a1 a2=some true):Rows.LogCountsSaid :=
  OpenClaim.holds_of_wide 5 Try.f5 rfl rfl rfl rfl rfl rfl rfl ⟨rfl,rfl,rfl,rfl,rfl⟩ rfl rfl rfl rfl rfl (by kernel_rfl) Try.func5 (by kernel_rfl)
    (of_decide_eq_true (by kernel_rfl)) (by unfold Func.isWrapper;rw [if_neg (by decide +kernel)];exact ⟨rfl,rfl⟩)
    (fun os started H enc _=>returnsInHanded_of_change_sized (C:=Try.checked) (s:=Rows.logCountsSpec) own started (by kernel_rfl) Try.func5
      (ChangeSpec.witness6 (enc:=enc) (C:=Try.checked) false ⟨#[],#[.agg #[.slice none 0 0,.slice none 0 0,.slice none 0 0],.slice none 0 0,.int .i64 0],[]⟩ 8 (by kernel_rfl) (by kernel_rfl) (by kernel_rfl) (by kernel_rfl))
      (fun W base args ds gs before hval hW _ hz _=>zHK (n:=12) (tb:=4) zNF rfl (by kernel_rfl) (sss:=[[.sl true [.int .i64,.str,.int .i64],.sl true [.int .i64,.int .i64],.sl true [.int .i64,.int .i64,.int .i64,.int .i64,.int .i64]],[.sl true [.int .i64,.int .i64,.int .i64,.sl true [.int .i64,.int .i64,.str,.int .i64,.int .i64,.sl false [.str]]]],[.int .i64]]) (by kernel_rfl) (by kernel_rfl) (by kernel_rfl)
        (fun ds h=>match ds,h with | [_,_,_],_=>⟨rfl,rfl,rfl⟩) (zEr hs) hval hW hz))
end Go.Proofs.Ytbifmbdcejggkaa
