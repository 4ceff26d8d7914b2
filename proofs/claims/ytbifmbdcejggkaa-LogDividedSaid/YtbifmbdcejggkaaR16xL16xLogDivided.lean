/- The row of tE, from its plain law. Printed by row.py. -/
import Derived.Test.YtbifmbdcejggkaaR16
import Derived.Test.YtbifmbdcejggkaaP16xL16xLogDivided
import Derived.Test.YtbifmbdcejggkaaRows
namespace Go.Proofs.Ytbifmbdcejggkaa
open Go.Ab
set_option linter.unusedVariables false
theorem own:ownKnob Try.prog.godebug=none:=by kernel_rfl
theorem zMv:laidOutB Try.prog=true:=by kernel_rfl

set_option maxRecDepth 100000 in
theorem zDf (hs:∀ (a0:zT) (a1:List (zB)) (a2:List (Int)) (a3:Int),kA a0→(nW qS) a1→(nW uK) a2→uK a3→∃ F,tE F a0 a1 a2 a3=some true):∀ avs,zBs Try.prog Try.f6.params.toList [[.sl true [.int .i64,.str,.int .i64],.sl true [.int .i64,.int .i64],.sl true [.int .i64,.int .i64,.int .i64,.int .i64,.int .i64]],[.sl true [.int .i64,.int .i64,.int .i64,.sl true [.int .i64,.int .i64,.str,.int .i64,.int .i64,.sl false [.str]]]],[.sl false [.int .i64]],[.int .i64]] avs→zDe Try.prog 6 [] avs [] (.bool true):=by
  intro avs h
  obtain ⟨x,rfl,hx⟩:=(zAv zCd (zAv (zCa zBw) (zAv (zKB v7) (zAv v7 zJd)))) avs h
  obtain ⟨F,hF⟩:=hs x.1 x.2.1 x.2.2.1 x.2.2.2.1 hx.1 hx.2.1 hx.2.2.1 hx.2.2.2.1
  exact zDU F x.1 x.2.1 x.2.2.1 x.2.2.2.1 true hF

set_option maxRecDepth 100000 in
theorem L16_LogDivided_row (hs:∀ (a0:zT) (a1:List (zB)) (a2:List (Int)) (a3:Int),kA a0→(nW qS) a1→(nW uK) a2→uK a3→∃ F,tE F a0 a1 a2 a3=some true):Rows.LogDividedSaid :=
  OpenClaim.holds_of_wide 6 Try.f6 rfl rfl rfl rfl rfl rfl rfl ⟨rfl,rfl,rfl,rfl,rfl⟩ rfl rfl rfl rfl rfl (by kernel_rfl) Try.func6 (by kernel_rfl)
    (of_decide_eq_true (by kernel_rfl)) (by unfold Func.isWrapper;rw [if_neg (by decide +kernel)];exact ⟨rfl,rfl⟩)
    (fun os started H enc _=>returnsInHanded_of_change_sized (C:=Try.checked) (s:=Rows.logDividedSpec) own started (by kernel_rfl) Try.func6
      (ChangeSpec.witness6 (enc:=enc) (C:=Try.checked) false ⟨#[],#[.agg #[.slice none 0 0,.slice none 0 0,.slice none 0 0],.slice none 0 0,.slice none 0 0,.int .i64 0],[]⟩ 8 (by kernel_rfl) (by kernel_rfl) (by kernel_rfl) (by kernel_rfl))
      (fun W base args ds gs before hval hW _ hz _=>zHP (n:=12) (tb:=4) zMv rfl (by kernel_rfl) (sss:=[[.sl true [.int .i64,.str,.int .i64],.sl true [.int .i64,.int .i64],.sl true [.int .i64,.int .i64,.int .i64,.int .i64,.int .i64]],[.sl true [.int .i64,.int .i64,.int .i64,.sl true [.int .i64,.int .i64,.str,.int .i64,.int .i64,.sl false [.str]]]],[.sl false [.int .i64]],[.int .i64]]) (by kernel_rfl) (by kernel_rfl) (by kernel_rfl)
        (fun ds h=>match ds,h with | [_,_,_,_],_=>⟨rfl,rfl,rfl⟩) (zDf hs) hval hW hz))
end Go.Proofs.Ytbifmbdcejggkaa
