/- The row of jU, from its plain law. Printed by row.py. -/
import Derived.Test.YtbifmbdcejggkaaR16
import Derived.Test.YtbifmbdcejggkaaP16xL16xLogReads
import Derived.Test.YtbifmbdcejggkaaRows
namespace Go.Proofs.Ytbifmbdcejggkaa
open Go.Ab
set_option linter.unusedVariables false
theorem own:ownKnob Try.prog.godebug=none:=by kernel_rfl
theorem zPt:laidOutB Try.prog=true:=by kernel_rfl
set_option maxRecDepth 100000 in
theorem zGX (hs:∀ (a0:zM) (a1:zM) (a2:z6),q7 a0→q7 a1→zCf a2→∃ F,jU F a0 a1 a2=some true):∀ avs,zDa Try.prog Try.f4.params.toList [[.sl true [.int .i64,.str,.int .i64],.sl true [.int .i64,.int .i64],.sl true [.int .i64,.int .i64,.int .i64,.int .i64,.int .i64],.sl true [.int .i64,.int .i64,.int .i64,.sl true [.int .i64,.int .i64,.str,.int .i64,.int .i64,.sl false [.str]]]],[.sl true [.int .i64,.str,.int .i64],.sl true [.int .i64,.int .i64],.sl true [.int .i64,.int .i64,.int .i64,.int .i64,.int .i64],.sl true [.int .i64,.int .i64,.int .i64,.sl true [.int .i64,.int .i64,.str,.int .i64,.int .i64,.sl false [.str]]]],[.int .i64,.int .i64]] avs→zFm Try.prog 4 [] avs [] (.bool true):=by
 intro avs h
 obtain ⟨x,rfl,hx⟩:=(zDO zE0 (zDO zE0 (zDO zJ9 zMO))) avs h
 obtain ⟨F,hF⟩:=hs x.1 x.2.1 x.2.2.1 hx.1 hx.2.1 hx.2.2.1
 exact zHw F x.1 x.2.1 x.2.2.1 true hF
set_option maxRecDepth 100000 in
theorem L16_LogReads_row (hs:∀ (a0:zM) (a1:zM) (a2:z6),q7 a0→q7 a1→zCf a2→∃ F,jU F a0 a1 a2=some true):Rows.LogReadsSaid :=
 OpenClaim.holds_of_wide 4 Try.f4 rfl rfl rfl rfl rfl rfl rfl ⟨rfl,rfl,rfl,rfl,rfl⟩ rfl rfl rfl rfl rfl (by kernel_rfl) Try.func4 (by kernel_rfl)
  (of_decide_eq_true (by kernel_rfl)) (by unfold Func.isWrapper;rw [if_neg (by decide +kernel)];exact ⟨rfl,rfl⟩)
  (fun os started H enc _=>returnsInHanded_of_change_sized (C:=Try.checked) (s:=Rows.logReadsSpec) own started (by kernel_rfl) Try.func4
   (ChangeSpec.witness6 (enc:=enc) (C:=Try.checked) false ⟨#[],#[.agg #[.slice none 0 0,.slice none 0 0,.slice none 0 0,.slice none 0 0],.agg #[.slice none 0 0,.slice none 0 0,.slice none 0 0,.slice none 0 0],.agg #[.int .i64 0,.int .i64 0]],[]⟩ 8 (by kernel_rfl) (by kernel_rfl) (by kernel_rfl) (by kernel_rfl))
   (fun W base args ds gs before hval hW _ hz _=>zKQ (n:=12) (tb:=4) zPt rfl (by kernel_rfl) (sss:=[[.sl true [.int .i64,.str,.int .i64],.sl true [.int .i64,.int .i64],.sl true [.int .i64,.int .i64,.int .i64,.int .i64,.int .i64],.sl true [.int .i64,.int .i64,.int .i64,.sl true [.int .i64,.int .i64,.str,.int .i64,.int .i64,.sl false [.str]]]],[.sl true [.int .i64,.str,.int .i64],.sl true [.int .i64,.int .i64],.sl true [.int .i64,.int .i64,.int .i64,.int .i64,.int .i64],.sl true [.int .i64,.int .i64,.int .i64,.sl true [.int .i64,.int .i64,.str,.int .i64,.int .i64,.sl false [.str]]]],[.int .i64,.int .i64]]) (by kernel_rfl) (by kernel_rfl) (by kernel_rfl)
    (fun ds h=>match ds,h with | [_,_,_],_=>⟨rfl,rfl,rfl⟩) (zGX hs) hval hW hz))
end Go.Proofs.Ytbifmbdcejggkaa
