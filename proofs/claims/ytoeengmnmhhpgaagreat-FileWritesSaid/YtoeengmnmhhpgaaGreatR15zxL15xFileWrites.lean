/- The row of mL, from its plain law. Printed by row.py. -/
import Derived.Test.YtoeengmnmhhpgaaGreatR15z
import Derived.Test.YtoeengmnmhhpgaaGreatP15zxL15xFileWrites
import Derived.Test.YtoeengmnmhhpgaaGreatRows
namespace Go.Proofs.YtoeengmnmhhpgaaGreat
open Go.Ab
set_option linter.unusedVariables false
theorem own:ownKnob Tryz.prog.godebug=none:=by kernel_rfl
theorem zCE:laidOutB Tryz.prog=true:=by kernel_rfl
set_option maxRecDepth 100000 in
theorem zGm (hs:∀ (a0:yD) (a1:yB) (a2:jP),OB a0->iO a1->N9 a2->∃ F,mL F a0 a1 a2=some true):∀ avs,mR Tryz.prog Tryz.f4.params.toList [[.int .i64,.sl false [.int .u8],.int .i64,.int .i64,.bool],[.sl true [.int .i64,.str,.int .i64],.sl true [.int .i64,.int .i64],.sl true [.int .i64,.int .i64,.int .i64,.int .i64,.int .i64]],[.sl true [.int .i64,.int .i64,.int .i64,.int .i64,.int .i64],.sl true [.int .i64,.int .i64,.int .i64,.sl true [.int .i64,.int .i64,.str,.int .i64,.int .i64,.sl false [.str]]]]] avs->DJ Tryz.prog 4 [] avs [] (.bool true):=by
 intro avs h;obtain ⟨x,rfl,hx⟩:=(QT zE5 (QT zHP (QT zIt zCo))) avs h;obtain ⟨F,hF⟩:=hs x.1 x.2.1 x.2.2.1 hx.1 hx.2.1 hx.2.2.1;exact zBZ F x.1 x.2.1 x.2.2.1 true hF
set_option maxRecDepth 100000 in
theorem L15_FileWrites_row (hs:∀ (a0:yD) (a1:yB) (a2:jP),OB a0->iO a1->N9 a2->∃ F,mL F a0 a1 a2=some true):Rows.FileWritesSaid :=
 OpenClaim.holds_of_wide 4 Tryz.f4 rfl rfl rfl rfl rfl rfl rfl ⟨rfl,rfl,rfl,rfl,rfl⟩ rfl rfl rfl rfl rfl (by kernel_rfl) Tryz.func4 (by kernel_rfl)
  (of_decide_eq_true (by kernel_rfl)) (by unfold Func.isWrapper;rw [if_neg (by decide +kernel)];exact ⟨rfl,rfl⟩)
  (fun os started H enc _=>returnsInHanded_of_change_sized (C:=Tryz.checked) (s:=Rows.fileWritesSpec) own started (by kernel_rfl) Tryz.func4
   (ChangeSpec.witness6 (enc:=enc) (C:=Tryz.checked) false ⟨#[],#[.agg #[.int .i64 0,.slice none 0 0,.int .i64 0,.int .i64 0,.bool false],.agg #[.slice none 0 0,.slice none 0 0,.slice none 0 0],.agg #[.slice none 0 0,.slice none 0 0]],[]⟩ 8 (by kernel_rfl) (by kernel_rfl) (by kernel_rfl) (by kernel_rfl))
   (fun W base args ds gs before hval hW _ hz _=>zFz (n:=12) (tb:=4) zCE rfl (by kernel_rfl) (sss:=[[.int .i64,.sl false [.int .u8],.int .i64,.int .i64,.bool],[.sl true [.int .i64,.str,.int .i64],.sl true [.int .i64,.int .i64],.sl true [.int .i64,.int .i64,.int .i64,.int .i64,.int .i64]],[.sl true [.int .i64,.int .i64,.int .i64,.int .i64,.int .i64],.sl true [.int .i64,.int .i64,.int .i64,.sl true [.int .i64,.int .i64,.str,.int .i64,.int .i64,.sl false [.str]]]]]) (by kernel_rfl) (by kernel_rfl) (by kernel_rfl)
    (fun ds h=>match ds,h with | [_,_,_],_=>⟨rfl,rfl,rfl⟩) (zGm hs) hval hW hz))
end Go.Proofs.YtoeengmnmhhpgaaGreat
