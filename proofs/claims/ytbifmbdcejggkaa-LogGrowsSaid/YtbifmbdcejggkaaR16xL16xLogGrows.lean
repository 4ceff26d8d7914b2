/- The row of qN, from its plain law. Printed by row.py. -/
import Derived.Test.YtbifmbdcejggkaaR16
import Derived.Test.YtbifmbdcejggkaaP16xL16xLogGrows
import Derived.Test.YtbifmbdcejggkaaRows
namespace Go.Proofs.Ytbifmbdcejggkaa
open Go.Ab
set_option linter.unusedVariables false
theorem own:ownKnob Try.prog.godebug=none:=by kernel_rfl
theorem zMQ:laidOutB Try.prog=true:=by kernel_rfl

set_option maxRecDepth 100000 in
theorem zEw (hs:∀ (a0:zS) (a1:List (zB)) (a2:List (yC)) (a3:Int),kK a0→(zAj q9) a1→(zAj kG) a2→tF a3→∃ F,qN F a0 a1 a2 a3=some true):∀ avs,zBF Try.prog Try.f7.params.toList [[.sl true [.int .i64,.str,.int .i64],.sl true [.int .i64,.int .i64],.sl true [.int .i64,.int .i64,.int .i64,.int .i64,.int .i64]],[.sl true [.int .i64,.int .i64,.int .i64,.sl true [.int .i64,.int .i64,.str,.int .i64,.int .i64,.sl false [.str]]]],[.sl true [.int .i64,.int .i64,.int .i64,.int .i64,.int .i64]],[.int .i64]] avs→zDy Try.prog 7 [] avs [] (.bool true):=by
  intro avs h
  obtain ⟨x,rfl,hx⟩:=(zAT zCz (zAT (zBW zBP) (zAT (zBW zCB) (zAT uT zJT)))) avs h
  obtain ⟨F,hF⟩:=hs x.1 x.2.1 x.2.2.1 x.2.2.2.1 hx.1 hx.2.1 hx.2.2.1 hx.2.2.2.1
  exact zFq F x.1 x.2.1 x.2.2.1 x.2.2.2.1 true hF

set_option maxRecDepth 100000 in
theorem L16_LogGrows_row (hs:∀ (a0:zS) (a1:List (zB)) (a2:List (yC)) (a3:Int),kK a0→(zAj q9) a1→(zAj kG) a2→tF a3→∃ F,qN F a0 a1 a2 a3=some true):Rows.LogGrowsSaid :=
  OpenClaim.holds_of_wide 7 Try.f7 rfl rfl rfl rfl rfl rfl rfl ⟨rfl,rfl,rfl,rfl,rfl⟩ rfl rfl rfl rfl rfl (by kernel_rfl) Try.func7 (by kernel_rfl)
    (of_decide_eq_true (by kernel_rfl)) (by unfold Func.isWrapper;rw [if_neg (by decide +kernel)];exact ⟨rfl,rfl⟩)
    (fun os started H enc _=>returnsInHanded_of_change_sized (C:=Try.checked) (s:=Rows.logGrowsSpec) own started (by kernel_rfl) Try.func7
      (ChangeSpec.witness6 (enc:=enc) (C:=Try.checked) false ⟨#[],#[.agg #[.slice none 0 0,.slice none 0 0,.slice none 0 0],.slice none 0 0,.slice none 0 0,.int .i64 0],[]⟩ 8 (by kernel_rfl) (by kernel_rfl) (by kernel_rfl) (by kernel_rfl))
      (fun W base args ds gs before hval hW _ hz _=>zIm (n:=12) (tb:=4) zMQ rfl (by kernel_rfl) (sss:=[[.sl true [.int .i64,.str,.int .i64],.sl true [.int .i64,.int .i64],.sl true [.int .i64,.int .i64,.int .i64,.int .i64,.int .i64]],[.sl true [.int .i64,.int .i64,.int .i64,.sl true [.int .i64,.int .i64,.str,.int .i64,.int .i64,.sl false [.str]]]],[.sl true [.int .i64,.int .i64,.int .i64,.int .i64,.int .i64]],[.int .i64]]) (by kernel_rfl) (by kernel_rfl) (by kernel_rfl)
        (fun ds h=>match ds,h with | [_,_,_,_],_=>⟨rfl,rfl,rfl⟩) (zEw hs) hval hW hz))
end Go.Proofs.Ytbifmbdcejggkaa
